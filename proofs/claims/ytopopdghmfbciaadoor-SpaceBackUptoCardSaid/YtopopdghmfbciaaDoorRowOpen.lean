/- What rows of structs that came in read as: for whatever struct. Of no function of the program. -/
import Derived.Test.YtopopdghmfbciaaDoorClose
import Derived.Deep.Slices
namespace Go.Proofs.YtopopdghmfbciaaDoor
open Go.ChangeShapes Go.WideShapes Go.ChangeAt Go.RowKit
set_option linter.unusedVariables false
set_option linter.unusedSimpArgs false

theorem flat_at {α : Type} (cells : α → List Value) (K : Nat) (hK0 : 0 < K) (hK : ∀ x, (cells x).length = K) : ∀ (l : List α) (j : Nat) (u : Value), (l.flatMap cells)[j]? = some u → ∃ x, l[j / K]? = some x ∧ (cells x)[j % K]? = some u
  | [], j, u, h => by simp at h
  | y :: t, j, u, h => by
    rw [List.flatMap_cons] at h
    by_cases hj : j < K
    · rw [List.getElem?_append_left (by rw [hK]; exact hj)] at h
      exact ⟨y, by rw [Nat.div_eq_of_lt hj]; rfl, by rw [Nat.mod_eq_of_lt hj]; exact h⟩
    · rw [List.getElem?_append_right (by rw [hK]; omega), hK] at h
      obtain ⟨x, h1, h2⟩ := flat_at cells K hK0 hK t (j - K) u h
      refine ⟨x, ?_, ?_⟩
      · have e : j / K = (j - K) / K + 1 := by
          have := Nat.add_div_right (j - K) hK0
          rw [Nat.sub_add_cancel (by omega)] at this
          exact this
        rw [e]; simpa using h1
      · have e : j % K = (j - K) % K := by rw [Nat.mod_eq_sub_mod (by omega)]
        rw [e]; exact h2

theorem rows_weights_mem {H : Type} {P : Program} {e : TypeId} : ∀ {ds : List (DataW H)} {d : DataW H}, (DataW.weightsAll P e ds).all (· ≤ reachBytes) = true → d ∈ ds → (d.weights P e).all (· ≤ reachBytes) = true
  | d0 :: ds, d, h, hm => by
    rw [DataW.weightsAll, List.all_append, Bool.and_eq_true] at h
    rcases List.mem_cons.1 hm with rfl | hm
    · exact h.1
    · exact rows_weights_mem h.2 hm
theorem rows_weights {H : Type} {P : Program} {t e : TypeId} (ht : P.underlying t = some (.slice e)) {es sp : List (DataW H)} {d : DataW H} (h : ((DataW.slice es sp).weights P t).all (· ≤ reachBytes) = true) (hm : d ∈ es) : (d.weights P e).all (· ≤ reachBytes) = true := by
  simp only [DataW.weights, ht, List.all_cons, List.all_append, Bool.and_eq_true] at h
  exact rows_weights_mem h.2.1 hm

section
variable {H : Type} {enc : TypeId × Value → H} {w : World}
set_option maxRecDepth 100000 in
theorem open_rows {α : Type} [Inhabited α] (cells : α → List Value) (K : Nat) (hK0 : 0 < K) (hK : ∀ x, (cells x).length = K) {t e : TypeId} (ht : Tryd.prog.underlying t = some (.slice e)) (hc : Tryd.prog.cellsOf e = K) (Good : α → Prop)
    (one : ∀ n cs d p, DataW.trod enc Tryd.prog w 0 (fun _ => true) true n e cs = some (d, p) → (d.weights Tryd.prog e).all (· ≤ reachBytes) = true → ∃ x, cs = cells x ∧ Good x)
    {r : Reach} {b0 : Nat} {v : Value} {d : DataW H} {ps : List MemPlace} (hval : Value.okWide Tryd.prog w r b0 t v)
    (h : DataW.Trod enc Tryd.prog w 0 (fun _ => true) true t v d ps) (hz : (d.weights Tryd.prog t).all (· ≤ reachBytes) = true) : ∃ l : List α, Rd w v l.length (l.flatMap cells) ∧ ∀ x ∈ l, Good x := by
  obtain ⟨a, len, cap, rfl⟩ := okWide_slice ht hval
  obtain ⟨fuel, hf⟩ := h
  have hf' : DataW.trod enc Tryd.prog w 0 (fun _ => true) true fuel t [.slice a len cap] = some (d, ps) := by simpa [Value.cells] using hf
  rcases Go.Deep.open_slice ht hf' with ⟨hcs, hx⟩ | ⟨ad, len', cap', m, n, D, Pl, hcs, _, hl, hm, hmm, hx, hcell⟩
  · simp only [List.cons.injEq, Value.slice.injEq, and_true] at hcs
    obtain ⟨rfl, rfl, rfl⟩ := hcs
    exact ⟨[], Rd.nil w, by simp⟩
  · simp only [List.cons.injEq, Value.slice.injEq, and_true] at hcs
    obtain ⟨rfl, rfl, rfl⟩ := hcs
    simp only [if_true] at hmm
    subst hmm
    simp only [Prod.mk.injEq] at hx
    obtain ⟨rfl, _⟩ := hx
    have each : ∀ i, i < len → ∃ x : α, w.cells? 0 (ad.add (i * K)) K = some (cells x) ∧ Good x := by
      intro i hi
      obtain ⟨cs', h1, h2⟩ := hcell i (by omega)
      have hmem : D i ∈ (List.range len).map D := List.mem_map.2 ⟨i, List.mem_range.2 hi, rfl⟩
      obtain ⟨x, rfl, hg⟩ := one _ _ _ _ h2 (rows_weights ht hz hmem)
      rw [hc] at h1
      exact ⟨x, h1, hg⟩
    obtain ⟨g, hg⟩ := Go.Deep.choose_lt each
    have hlen : ((List.range len).map g).length = len := by simp
    refine ⟨(List.range len).map g, ?_, ?_⟩
    · rw [hlen]
      refine ⟨some ad, _, rfl, hl, hm, (fun e => by cases e), fun ad' e j u hu => ?_⟩
      cases e
      obtain ⟨x, h1, h2⟩ := flat_at cells K hK0 hK _ j u hu
      have hi : j / K < len := by
        have := (List.getElem?_eq_some_iff.1 h1).1
        simpa using this
      have hgx : g (j / K) = x := by
        have : ((List.range len).map g)[j / K]? = some (g (j / K)) := by simp [hi]
        rw [this] at h1; exact Option.some.inj h1
      obtain ⟨_, _, hcc⟩ := World.cells?_some (hg (j / K) hi).1
      have hcj := hcc (j % K) (Nat.mod_lt _ hK0)
      rw [Go.Deep.add_add, hgx, h2, Nat.mul_comm, Nat.div_add_mod] at hcj
      exact hcj
    · intro f hf
      obtain ⟨i, hi, rfl⟩ := List.mem_map.1 hf
      exact (hg i (List.mem_range.1 hi)).2
end
end Go.Proofs.YtopopdghmfbciaaDoor
