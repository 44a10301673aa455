/- What wishes, and numbers, that came in read as. Of no function of the program. -/
import Derived.Test.YtgafhnomkeiakaaDoorSubPut2
import Derived.Test.YtgafhnomkeiakaaDoorClose
import Derived.Deep.SlicePairs
namespace Go.Proofs.YtgafhnomkeiakaaDoor
open Go.ChangeShapes Go.WideShapes Go.ChangeAt Go.RowKit
set_option linter.unusedVariables false
set_option linter.unusedSimpArgs false

theorem weights_mem {H : Type} {P : Program} {e : TypeId} : ∀ {ds : List (DataW H)} {d : DataW H}, (DataW.weightsAll P e ds).all (· ≤ reachBytes) = true → d ∈ ds → (d.weights P e).all (· ≤ reachBytes) = true
  | d0 :: ds, d, h, hm => by
    rw [DataW.weightsAll, List.all_append, Bool.and_eq_true] at h
    rcases List.mem_cons.1 hm with rfl | hm
    · exact h.1
    · exact weights_mem h.2 hm
theorem weights_slice {H : Type} {P : Program} {t e : TypeId} (ht : P.underlying t = some (.slice e)) {es sp : List (DataW H)} {d : DataW H} (h : ((DataW.slice es sp).weights P t).all (· ≤ reachBytes) = true) (hm : d ∈ es) : (d.weights P e).all (· ≤ reachBytes) = true := by
  simp only [DataW.weights, ht, List.all_cons, List.all_append, Bool.and_eq_true] at h
  exact weights_mem h.2.1 hm

section
variable {H : Type} {enc : TypeId × Value → H} {w : World}

set_option maxRecDepth 100000 in
theorem open_wishes {r : Reach} {b0 : Nat} {v : Value} {d : DataW H} {ps : List MemPlace} (hval : Value.okWide Tryd.prog w r b0 22 v)
    (h : DataW.Trod enc Tryd.prog w 0 (fun _ => true) true 22 v d ps) (hz : (d.weights Tryd.prog 22).all (· ≤ reachBytes) = true) : ∃ l : List Wish, Ws w v l ∧ ∀ f ∈ l, f.1.size ≤ 140737488351232 := by
  obtain ⟨a, len, cap, rfl⟩ := okWide_slice Tryd.underlying22 hval
  obtain ⟨fuel, hf⟩ := h
  have hf' : DataW.trod enc Tryd.prog w 0 (fun _ => true) true fuel 22 [.slice a len cap] = some (d, ps) := by simpa [Value.cells] using hf
  rcases Go.Deep.open_slice_pairs Tryd.underlying22 Tryd.underlying47 (by kernel_rfl) rfl rfl (by kernel_rfl) (by kernel_rfl) hf' with ⟨hcs, hx⟩ | ⟨ad, len', cap', m, n, V0, V1, D0, D1, P0, P1, hcs, _, hl, hm, hmm, hx, hcell⟩
  · simp only [List.cons.injEq, Value.slice.injEq, and_true] at hcs
    obtain ⟨rfl, rfl, rfl⟩ := hcs
    exact ⟨[], Rd.nil w, by simp⟩
  · simp only [List.cons.injEq, Value.slice.injEq, and_true] at hcs
    obtain ⟨rfl, rfl, rfl⟩ := hcs
    simp only [if_true] at hmm
    subst hmm
    simp only [Prod.mk.injEq] at hx
    obtain ⟨rfl, _⟩ := hx
    have each : ∀ i, i < len → ∃ f : Wish, V0 i = .string f.1 ∧ V1 i = .int .i64 f.2 ∧ f.1.size ≤ 140737488351232 := by
      intro i hi
      obtain ⟨_, _, t0, t1⟩ := hcell i (by omega)
      obtain ⟨s, e0, hd0, _⟩ := DataW.trod_string Tryd.underlying9 t0
      obtain ⟨q, e1, hd1, _⟩ := DataW.trod_int Tryd.underlying3 t1
      simp only [List.cons.injEq, and_true] at e0 e1
      have hmem : (DataW.agg [D0 i, D1 i] : DataW H) ∈ (List.range len).map fun i => DataW.agg [D0 i, D1 i] := List.mem_map.2 ⟨i, List.mem_range.2 hi, rfl⟩
      have hw := weights_slice Tryd.underlying22 hz hmem
      refine ⟨(s, q), e0, e1, ?_⟩
      simp only [Prod.mk.injEq] at hd0
      have hw' : (DataW.weightsEach Tryd.prog [9, 3] [D0 i, D1 i]).all (· ≤ reachBytes) = true := by
        simpa [DataW.weights, Tryd.underlying47] using hw
      rw [hd0.1] at hw'
      exact sized_string hw' (j := 0) (t := 9) rfl rfl
    obtain ⟨g, hg⟩ := Go.Deep.choose_lt each
    have hlen : ((List.range len).map g).length = len := by simp
    refine ⟨(List.range len).map g, ?_, ?_⟩
    · unfold Ws
      rw [hlen]
      refine ⟨some ad, _, rfl, hl, hm, (fun e => by cases e), fun ad' e j u hu => ?_⟩
      cases e
      have hj : j < len * 2 := by
        have := (List.getElem?_eq_some_iff.1 hu).1
        rw [wCells_len, hlen] at this
        exact this
      have hi : j / 2 < len := by omega
      have hgi : ((List.range len).map g)[j / 2]? = some (g (j / 2)) := by simp [hi]
      have hwc := wCells_at _ _ _ hgi
      obtain ⟨c0, c1, _, _⟩ := hcell (j / 2) (by omega)
      obtain ⟨v0, v1, _⟩ := hg (j / 2) hi
      rcases Nat.mod_two_eq_zero_or_one j with hp | hp
      · have ej : j / 2 * 2 = j := by omega
        rw [ej] at c0 hwc
        rw [hwc.1] at hu
        cases hu
        rw [c0, v0]
      · have ej : j / 2 * 2 + 1 = j := by omega
        rw [ej] at c1 hwc
        rw [hwc.2] at hu
        cases hu
        rw [c1, v1]
    · intro f hf
      obtain ⟨i, hi, rfl⟩ := List.mem_map.1 hf
      exact (hg i (List.mem_range.1 hi)).2.2
end
end Go.Proofs.YtgafhnomkeiakaaDoor
