/- A bundle of texts (merged for the limit on files): MsgOpen, ConOpen, SubOpen, IntOpen, RowOpen, PacOpen, PacRow, PacAll. -/
import Derived.Test.YtclicjokgfiegaaDoorZp19
import Derived.Test.YtclicjokgfiegaaDoorZp3
import Derived.Test.YtclicjokgfiegaaDoorZp9
import Derived.Deep.SlicePairs
import Derived.Deep.Slices
import Derived.Test.YtclicjokgfiegaaDoorZp17
/- What a message that came in reads as. Of no function of the program. -/
namespace Go.Proofs.YtclicjokgfiegaaDoor
open Go.ChangeShapes Go.WideShapes Go.ChangeAt Go.RowKit
set_option maxRecDepth 100000
set_option linter.unusedVariables false
set_option linter.unusedSimpArgs false

theorem cells_string : Tryd.prog.cellsOf 9 = 1 := by kernel_rfl
theorem cells_int : Tryd.prog.cellsOf 3 = 1 := by kernel_rfl
theorem cells_bool : Tryd.prog.cellsOf 4 = 1 := by kernel_rfl
theorem cells_msg : Tryd.prog.cellsOf 23 = 4 := by kernel_rfl

section
variable {H : Type} {enc : TypeId × Value → H} {w : World} {base : Nat} {sp : Nat → Bool} {held : Bool}

theorem str_sized {t : TypeId} {s : ByteArray} {l : List (DataW H)} (h : ((DataW.lit (.string s.data.toList) : DataW H).weights Tryd.prog t).all (· ≤ reachBytes) = true) : s.size ≤ 140737488351232 := by
  simp only [DataW.weights, List.all_cons, List.all_nil, Bool.and_true, decide_eq_true_eq] at h
  have e : s.data.toList.length = s.size := Array.length_toList
  rw [e] at h
  have r : reachBytes = 140737488351232 := rfl
  omega


theorem msg_cells {n : Nat} {cs : List Value} {d : DataW H} {p : List MemPlace} (h : DataW.trod enc Tryd.prog w base sp held n 23 cs = some (d, p)) (hz : (d.weights Tryd.prog 23).all (· ≤ reachBytes) = true) :
    ∃ (T X : ByteArray) (q : Int) (R : Bool), cs = [.string T, .string X, .int .i64 q, .bool R] ∧ T.size ≤ 140737488351232 ∧ X.size ≤ 140737488351232 ∧ (Lit.int .i64 q).wf = true := by
  obtain ⟨xs, n', _, hx, hlen, hxl, hf⟩ := DataW.trod_struct Tryd.underlying23 h
  simp only [Prod.mk.injEq] at hx
  obtain ⟨rfl, rfl⟩ := hx
  rw [cells_msg] at hlen
  match cs, hlen, xs, hxl with
  | [c0, c1, c2, c3], _, [y0, y1, y2, y3], _ =>
    have g0 : DataW.trod enc Tryd.prog w base sp held n' 9 [c0] = some y0 := by have := hf 0 _ rfl; simpa [cells_string] using this
    have g1 : DataW.trod enc Tryd.prog w base sp held n' 9 [c1] = some y1 := by have := hf 1 _ rfl; simpa [cells_string] using this
    have g2 : DataW.trod enc Tryd.prog w base sp held n' 3 [c2] = some y2 := by have := hf 2 _ rfl; simpa [cells_int] using this
    have g3 : DataW.trod enc Tryd.prog w base sp held n' 4 [c3] = some y3 := by have := hf 3 _ rfl; simpa [cells_bool] using this
    obtain ⟨T, e0, rfl, _⟩ := DataW.trod_string Tryd.underlying9 g0
    obtain ⟨X, e1, rfl, _⟩ := DataW.trod_string Tryd.underlying9 g1
    obtain ⟨q, e2, rfl, hq⟩ := DataW.trod_int Tryd.underlying3 g2
    obtain ⟨R, e3, rfl⟩ := DataW.trod_bool Tryd.underlying4 g3
    simp only [List.cons.injEq, and_true] at e0 e1 e2 e3
    subst e0 e1 e2 e3
    have hw : (DataW.weightsEach Tryd.prog [9, 9, 3, 4] [DataW.lit (.string T.data.toList), DataW.lit (.string X.data.toList), DataW.lit (.int .i64 q), (DataW.lit (.bool R) : DataW H)]).all (· ≤ reachBytes) = true := by
      simpa [DataW.weights, Tryd.underlying23] using hz
    exact ⟨T, X, q, R, rfl, sized_string hw (j := 0) (t := 9) rfl rfl, sized_string hw (j := 1) (t := 9) rfl rfl, hq⟩

theorem open_msg {r : Reach} {b0 : Nat} {v : Value} {d : DataW H} {p : List MemPlace} (hv : Value.okWide Tryd.prog w r b0 23 v) (h : DataW.Trod enc Tryd.prog w base sp held 23 v d p) (hz : (d.weights Tryd.prog 23).all (· ≤ reachBytes) = true) :
    ∃ (T X : ByteArray) (q : Int) (R : Bool), v = .agg #[.string T, .string X, .int .i64 q, .bool R] ∧ T.size ≤ 140737488351232 ∧ X.size ≤ 140737488351232 ∧ (Lit.int .i64 q).wf = true := by
  obtain ⟨cs, rfl, hsz⟩ := okWide_struct Tryd.underlying23 hv
  obtain ⟨fuel, hf⟩ := h
  obtain ⟨T, X, q, R, hc, h1⟩ := msg_cells hf hz
  refine ⟨T, X, q, R, ?_, h1⟩
  have : cs.toList = [.string T, .string X, .int .i64 q, .bool R] := by simpa [Value.cells] using hc
  rw [← Array.toArray_toList (xs := cs), this]
end
end Go.Proofs.YtclicjokgfiegaaDoor

/- What somebody who came in reads as. Of no function of the program. -/
namespace Go.Proofs.YtclicjokgfiegaaDoor
open Go.ChangeShapes Go.WideShapes Go.ChangeAt Go.RowKit
set_option maxRecDepth 100000
set_option linter.unusedVariables false
set_option linter.unusedSimpArgs false

theorem cells_con : Tryd.prog.cellsOf 25 = 13 := by kernel_rfl

section
variable {H : Type} {enc : TypeId × Value → H} {w : World} {base : Nat} {sp : Nat → Bool} {held : Bool}


theorem con_cells {n : Nat} {cs : List Value} {d : DataW H} {p : List MemPlace} (h : DataW.trod enc Tryd.prog w base sp held n 25 cs = some (d, p)) (hz : (d.weights Tryd.prog 25).all (· ≤ reachBytes) = true) :
    ∃ c : Con, cs = c.cells ∧ c.sized 140737488351232 := by
  obtain ⟨xs, n', _, hx, hlen, hxl, hf⟩ := DataW.trod_struct Tryd.underlying25 h
  simp only [Prod.mk.injEq] at hx
  obtain ⟨rfl, rfl⟩ := hx
  rw [cells_con] at hlen
  match cs, hlen, xs, hxl with
  | [c0, c1, c2, c3, c4, c5, c6, c7, c8, c9, c10, c11, c12], _, [y0, y1, y2, y3, y4, y5, y6, y7, y8, y9], _ =>
    have g0 : DataW.trod enc Tryd.prog w base sp held n' 3 [c0] = some y0 := by have := hf 0 _ rfl; simpa [cells_int] using this
    have g1 : DataW.trod enc Tryd.prog w base sp held n' 4 [c1] = some y1 := by have := hf 1 _ rfl; simpa [cells_bool] using this
    have g2 : DataW.trod enc Tryd.prog w base sp held n' 3 [c2] = some y2 := by have := hf 2 _ rfl; simpa [cells_int] using this
    have g3 : DataW.trod enc Tryd.prog w base sp held n' 9 [c3] = some y3 := by have := hf 3 _ rfl; simpa [cells_string] using this
    have g4 : DataW.trod enc Tryd.prog w base sp held n' 4 [c4] = some y4 := by have := hf 4 _ rfl; simpa [cells_bool] using this
    have g5 : DataW.trod enc Tryd.prog w base sp held n' 23 [c5, c6, c7, c8] = some y5 := by have := hf 5 _ rfl; simpa [cells_msg] using this
    have g6 : DataW.trod enc Tryd.prog w base sp held n' 4 [c9] = some y6 := by have := hf 6 _ rfl; simpa [cells_bool] using this
    have g7 : DataW.trod enc Tryd.prog w base sp held n' 9 [c10] = some y7 := by have := hf 7 _ rfl; simpa [cells_string] using this
    have g8 : DataW.trod enc Tryd.prog w base sp held n' 4 [c11] = some y8 := by have := hf 8 _ rfl; simpa [cells_bool] using this
    have g9 : DataW.trod enc Tryd.prog w base sp held n' 9 [c12] = some y9 := by have := hf 9 _ rfl; simpa [cells_string] using this
    obtain ⟨x0, e0, rfl, _⟩ := DataW.trod_int Tryd.underlying3 g0
    obtain ⟨x1, e1, rfl⟩ := DataW.trod_bool Tryd.underlying4 g1
    obtain ⟨x2, e2, rfl, _⟩ := DataW.trod_int Tryd.underlying3 g2
    obtain ⟨x3, e3, rfl, _⟩ := DataW.trod_string Tryd.underlying9 g3
    obtain ⟨x4, e4, rfl⟩ := DataW.trod_bool Tryd.underlying4 g4
    obtain ⟨x6, e6, rfl⟩ := DataW.trod_bool Tryd.underlying4 g6
    obtain ⟨x7, e7, rfl, _⟩ := DataW.trod_string Tryd.underlying9 g7
    obtain ⟨x8, e8, rfl⟩ := DataW.trod_bool Tryd.underlying4 g8
    obtain ⟨x9, e9, rfl, _⟩ := DataW.trod_string Tryd.underlying9 g9
    obtain ⟨d5, p5⟩ := y5
    have hw : (DataW.weightsEach Tryd.prog [3, 4, 3, 9, 4, 23, 4, 9, 4, 9] [DataW.lit (.int .i64 x0), DataW.lit (.bool x1), DataW.lit (.int .i64 x2), DataW.lit (.string x3.data.toList), DataW.lit (.bool x4), d5, DataW.lit (.bool x6), DataW.lit (.string x7.data.toList), DataW.lit (.bool x8), DataW.lit (.string x9.data.toList)]).all (· ≤ reachBytes) = true := by
      simpa [DataW.weights, Tryd.underlying25] using hz
    obtain ⟨T, X, q, R, e5, hT, hX, _⟩ := msg_cells g5 (sized_at hw (j := 5) (t := 23) rfl rfl)
    simp only [List.cons.injEq, and_true] at e0 e1 e2 e3 e4 e5 e6 e7 e8 e9
    obtain ⟨rfl, rfl, rfl, rfl⟩ := e5
    subst e0 e1 e2 e3 e4 e6 e7 e8 e9
    exact ⟨⟨x0, x1, x2, x3, x4, T, X, q, R, x6, x7, x8, x9⟩, rfl, sized_string hw (j := 3) (t := 9) rfl rfl, hT, hX, sized_string hw (j := 7) (t := 9) rfl rfl, sized_string hw (j := 9) (t := 9) rfl rfl⟩

theorem open_con {r : Reach} {b0 : Nat} {v : Value} {d : DataW H} {p : List MemPlace} (hv : Value.okWide Tryd.prog w r b0 25 v) (h : DataW.Trod enc Tryd.prog w base sp held 25 v d p) (hz : (d.weights Tryd.prog 25).all (· ≤ reachBytes) = true) :
    ∃ c : Con, v = .agg c.cells.toArray ∧ c.sized 140737488351232 := by
  obtain ⟨cs, rfl, hsz⟩ := okWide_struct Tryd.underlying25 hv
  obtain ⟨fuel, hf⟩ := h
  obtain ⟨c, hc, h1⟩ := con_cells hf hz
  refine ⟨c, ?_, h1⟩
  have : cs.toList = c.cells := by simpa [Value.cells] using hc
  rw [← Array.toArray_toList (xs := cs), this]
end
end Go.Proofs.YtclicjokgfiegaaDoor

/- What wishes, and numbers, that came in read as. Of no function of the program. -/
namespace Go.Proofs.YtclicjokgfiegaaDoor
open Go.ChangeShapes Go.WideShapes Go.ChangeAt Go.RowKit
set_option linter.unusedVariables false
set_option linter.unusedSimpArgs false

theorem weights_mem {H : Type} {P : Program} {e : TypeId} : ∀ {ds : List (DataW H)} {d : DataW H}, (DataW.weightsAll P e ds).all (· ≤ reachBytes) = true → d ∈ ds → (d.weights P e).all (· ≤ reachBytes) = true
  | d0 :: ds, d, h, hm => by
    rw [DataW.weightsAll, List.all_append, Bool.and_eq_true] at h
    rcases List.mem_cons.1 hm with rfl | hm
    · exact h.1
    · exact weights_mem h.2 hm
theorem weights_slice {H : Type} {P : Program} {t e : TypeId} (ht : P.underlying t = some (.slice e)) {es sp : List (DataW H)} {d : DataW H} (h : ((DataW.slice es sp).weights P t).all (· ≤ reachBytes) = true) (hm : d ∈ es) : (d.weights P e).all (· ≤ reachBytes) = true := by
  simp only [DataW.weights, ht, List.all_cons, List.all_append, Bool.and_eq_true] at h
  exact weights_mem h.2.1 hm

section
variable {H : Type} {enc : TypeId × Value → H} {w : World}

set_option maxRecDepth 100000 in
theorem open_wishes {r : Reach} {b0 : Nat} {v : Value} {d : DataW H} {ps : List MemPlace} (hval : Value.okWide Tryd.prog w r b0 26 v)
    (h : DataW.Trod enc Tryd.prog w 0 (fun _ => true) true 26 v d ps) (hz : (d.weights Tryd.prog 26).all (· ≤ reachBytes) = true) : ∃ l : List Wish, Ws w v l ∧ ∀ f ∈ l, f.1.size ≤ 140737488351232 := by
  obtain ⟨a, len, cap, rfl⟩ := okWide_slice Tryd.underlying26 hval
  obtain ⟨fuel, hf⟩ := h
  have hf' : DataW.trod enc Tryd.prog w 0 (fun _ => true) true fuel 26 [.slice a len cap] = some (d, ps) := by simpa [Value.cells] using hf
  rcases Go.Deep.open_slice_pairs Tryd.underlying26 Tryd.underlying58 (by kernel_rfl) rfl rfl (by kernel_rfl) (by kernel_rfl) hf' with ⟨hcs, hx⟩ | ⟨ad, len', cap', m, n, V0, V1, D0, D1, P0, P1, hcs, _, hl, hm, hmm, hx, hcell⟩
  · simp only [List.cons.injEq, Value.slice.injEq, and_true] at hcs
    obtain ⟨rfl, rfl, rfl⟩ := hcs
    exact ⟨[], Rd.nil w, by simp⟩
  · simp only [List.cons.injEq, Value.slice.injEq, and_true] at hcs
    obtain ⟨rfl, rfl, rfl⟩ := hcs
    simp only [if_true] at hmm
    subst hmm
    simp only [Prod.mk.injEq] at hx
    obtain ⟨rfl, _⟩ := hx
    have each : ∀ i, i < len → ∃ f : Wish, V0 i = .string f.1 ∧ V1 i = .int .i64 f.2 ∧ f.1.size ≤ 140737488351232 := by
      intro i hi
      obtain ⟨_, _, t0, t1⟩ := hcell i (by omega)
      obtain ⟨s, e0, hd0, _⟩ := DataW.trod_string Tryd.underlying9 t0
      obtain ⟨q, e1, hd1, _⟩ := DataW.trod_int Tryd.underlying3 t1
      simp only [List.cons.injEq, and_true] at e0 e1
      have hmem : (DataW.agg [D0 i, D1 i] : DataW H) ∈ (List.range len).map fun i => DataW.agg [D0 i, D1 i] := List.mem_map.2 ⟨i, List.mem_range.2 hi, rfl⟩
      have hw := weights_slice Tryd.underlying26 hz hmem
      refine ⟨(s, q), e0, e1, ?_⟩
      simp only [Prod.mk.injEq] at hd0
      have hw' : (DataW.weightsEach Tryd.prog [9, 3] [D0 i, D1 i]).all (· ≤ reachBytes) = true := by
        simpa [DataW.weights, Tryd.underlying58] using hw
      rw [hd0.1] at hw'
      exact sized_string hw' (j := 0) (t := 9) rfl rfl
    obtain ⟨g, hg⟩ := Go.Deep.choose_lt each
    have hlen : ((List.range len).map g).length = len := by simp
    refine ⟨(List.range len).map g, ?_, ?_⟩
    · unfold Ws
      rw [hlen]
      refine ⟨some ad, _, rfl, hl, hm, (fun e => by cases e), fun ad' e j u hu => ?_⟩
      cases e
      have hj : j < len * 2 := by
        have := (List.getElem?_eq_some_iff.1 hu).1
        rw [wCells_len, hlen] at this
        exact this
      have hi : j / 2 < len := by omega
      have hgi : ((List.range len).map g)[j / 2]? = some (g (j / 2)) := by simp [hi]
      have hwc := wCells_at _ _ _ hgi
      obtain ⟨c0, c1, _, _⟩ := hcell (j / 2) (by omega)
      obtain ⟨v0, v1, _⟩ := hg (j / 2) hi
      rcases Nat.mod_two_eq_zero_or_one j with hp | hp
      · have ej : j / 2 * 2 = j := by omega
        rw [ej] at c0 hwc
        rw [hwc.1] at hu
        cases hu
        rw [c0, v0]
      · have ej : j / 2 * 2 + 1 = j := by omega
        rw [ej] at c1 hwc
        rw [hwc.2] at hu
        cases hu
        rw [c1, v1]
    · intro f hf
      obtain ⟨i, hi, rfl⟩ := List.mem_map.1 hf
      exact (hg i (List.mem_range.1 hi)).2.2
end
end Go.Proofs.YtclicjokgfiegaaDoor

/- What numbers that came in read as. Of no function of the program. -/
namespace Go.Proofs.YtclicjokgfiegaaDoor
open Go.ChangeShapes Go.WideShapes Go.ChangeAt Go.RowKit
set_option linter.unusedVariables false
set_option linter.unusedSimpArgs false

set_option maxRecDepth 100000 in
theorem open_nums {H : Type} {enc : TypeId × Value → H} {W : World} {r : Reach} {b0 : Nat} {v : Value} {d : DataW H} {ps : List MemPlace} (hval : Value.okWide Tryd.prog W r b0 27 v)
    (h : DataW.Trod enc Tryd.prog W 0 (fun _ => true) true 27 v d ps) : ∃ l : List Int, Is W v l := by
  obtain ⟨a, len, cap, rfl⟩ := okWide_slice Tryd.underlying27 hval
  obtain ⟨fuel, hf⟩ := h
  have hf' : DataW.trod enc Tryd.prog W 0 (fun _ => true) true fuel 27 [.slice a len cap] = some (d, ps) := by simpa [Value.cells] using hf
  rcases open_ints Tryd.underlying27 Tryd.underlying3 (by kernel_rfl) hf' with ⟨hcs, hx⟩ | ⟨ad, len', cap', zs, hcs, _, hl, hm, hz, hx, hcell, hwz⟩
  · simp only [List.cons.injEq, Value.slice.injEq, and_true] at hcs
    obtain ⟨rfl, rfl, rfl⟩ := hcs
    exact ⟨[], Rd.nil W⟩
  · simp only [List.cons.injEq, Value.slice.injEq, and_true] at hcs
    obtain ⟨rfl, rfl, rfl⟩ := hcs
    simp only [if_true] at hz
    have hlen : (zs.take len).length = len := by simp; omega
    refine ⟨zs.take len, ?_⟩
    unfold Is
    rw [hlen]
    refine ⟨some ad, cap, rfl, hl, hm, (fun e => by cases e), fun ad' e j u hu => ?_⟩
    cases e
    have hj : j < len := by
      have := (List.getElem?_eq_some_iff.1 hu).1
      simp at this; omega
    have hjz : j < zs.length := by omega
    rw [hcell j hjz, ← hu]
    have e2 : ((zs.take len).map iV)[j]? = some (iV (zs[j]'hjz)) := by
      simp [hj, List.getElem?_eq_getElem hjz]
    rw [e2]
    simp [List.getD, hjz, iV]
end Go.Proofs.YtclicjokgfiegaaDoor

/- What rows of structs that came in read as: for whatever struct. Of no function of the program. -/
namespace Go.Proofs.YtclicjokgfiegaaDoor
open Go.ChangeShapes Go.WideShapes Go.ChangeAt Go.RowKit
set_option linter.unusedVariables false
set_option linter.unusedSimpArgs false

theorem flat_at {α : Type} (cells : α → List Value) (K : Nat) (hK0 : 0 < K) (hK : ∀ x, (cells x).length = K) : ∀ (l : List α) (j : Nat) (u : Value), (l.flatMap cells)[j]? = some u → ∃ x, l[j / K]? = some x ∧ (cells x)[j % K]? = some u
  | [], j, u, h => by simp at h
  | y :: t, j, u, h => by
    rw [List.flatMap_cons] at h
    by_cases hj : j < K
    · rw [List.getElem?_append_left (by rw [hK]; exact hj)] at h
      exact ⟨y, by rw [Nat.div_eq_of_lt hj]; rfl, by rw [Nat.mod_eq_of_lt hj]; exact h⟩
    · rw [List.getElem?_append_right (by rw [hK]; omega), hK] at h
      obtain ⟨x, h1, h2⟩ := flat_at cells K hK0 hK t (j - K) u h
      refine ⟨x, ?_, ?_⟩
      · have e : j / K = (j - K) / K + 1 := by
          have := Nat.add_div_right (j - K) hK0
          rw [Nat.sub_add_cancel (by omega)] at this
          exact this
        rw [e]; simpa using h1
      · have e : j % K = (j - K) % K := by rw [Nat.mod_eq_sub_mod (by omega)]
        rw [e]; exact h2

theorem rows_weights_mem {H : Type} {P : Program} {e : TypeId} : ∀ {ds : List (DataW H)} {d : DataW H}, (DataW.weightsAll P e ds).all (· ≤ reachBytes) = true → d ∈ ds → (d.weights P e).all (· ≤ reachBytes) = true
  | d0 :: ds, d, h, hm => by
    rw [DataW.weightsAll, List.all_append, Bool.and_eq_true] at h
    rcases List.mem_cons.1 hm with rfl | hm
    · exact h.1
    · exact rows_weights_mem h.2 hm
theorem rows_weights {H : Type} {P : Program} {t e : TypeId} (ht : P.underlying t = some (.slice e)) {es sp : List (DataW H)} {d : DataW H} (h : ((DataW.slice es sp).weights P t).all (· ≤ reachBytes) = true) (hm : d ∈ es) : (d.weights P e).all (· ≤ reachBytes) = true := by
  simp only [DataW.weights, ht, List.all_cons, List.all_append, Bool.and_eq_true] at h
  exact rows_weights_mem h.2.1 hm

section
variable {H : Type} {enc : TypeId × Value → H} {w : World}
set_option maxRecDepth 100000 in
theorem open_rows {α : Type} [Inhabited α] (cells : α → List Value) (K : Nat) (hK0 : 0 < K) (hK : ∀ x, (cells x).length = K) {t e : TypeId} (ht : Tryd.prog.underlying t = some (.slice e)) (hc : Tryd.prog.cellsOf e = K) (Good : α → Prop)
    (one : ∀ n cs d p, DataW.trod enc Tryd.prog w 0 (fun _ => true) true n e cs = some (d, p) → (d.weights Tryd.prog e).all (· ≤ reachBytes) = true → ∃ x, cs = cells x ∧ Good x)
    {r : Reach} {b0 : Nat} {v : Value} {d : DataW H} {ps : List MemPlace} (hval : Value.okWide Tryd.prog w r b0 t v)
    (h : DataW.Trod enc Tryd.prog w 0 (fun _ => true) true t v d ps) (hz : (d.weights Tryd.prog t).all (· ≤ reachBytes) = true) : ∃ l : List α, Rd w v l.length (l.flatMap cells) ∧ ∀ x ∈ l, Good x := by
  obtain ⟨a, len, cap, rfl⟩ := okWide_slice ht hval
  obtain ⟨fuel, hf⟩ := h
  have hf' : DataW.trod enc Tryd.prog w 0 (fun _ => true) true fuel t [.slice a len cap] = some (d, ps) := by simpa [Value.cells] using hf
  rcases Go.Deep.open_slice ht hf' with ⟨hcs, hx⟩ | ⟨ad, len', cap', m, n, D, Pl, hcs, _, hl, hm, hmm, hx, hcell⟩
  · simp only [List.cons.injEq, Value.slice.injEq, and_true] at hcs
    obtain ⟨rfl, rfl, rfl⟩ := hcs
    exact ⟨[], Rd.nil w, by simp⟩
  · simp only [List.cons.injEq, Value.slice.injEq, and_true] at hcs
    obtain ⟨rfl, rfl, rfl⟩ := hcs
    simp only [if_true] at hmm
    subst hmm
    simp only [Prod.mk.injEq] at hx
    obtain ⟨rfl, _⟩ := hx
    have each : ∀ i, i < len → ∃ x : α, w.cells? 0 (ad.add (i * K)) K = some (cells x) ∧ Good x := by
      intro i hi
      obtain ⟨cs', h1, h2⟩ := hcell i (by omega)
      have hmem : D i ∈ (List.range len).map D := List.mem_map.2 ⟨i, List.mem_range.2 hi, rfl⟩
      obtain ⟨x, rfl, hg⟩ := one _ _ _ _ h2 (rows_weights ht hz hmem)
      rw [hc] at h1
      exact ⟨x, h1, hg⟩
    obtain ⟨g, hg⟩ := Go.Deep.choose_lt each
    have hlen : ((List.range len).map g).length = len := by simp
    refine ⟨(List.range len).map g, ?_, ?_⟩
    · rw [hlen]
      refine ⟨some ad, _, rfl, hl, hm, (fun e => by cases e), fun ad' e j u hu => ?_⟩
      cases e
      obtain ⟨x, h1, h2⟩ := flat_at cells K hK0 hK _ j u hu
      have hi : j / K < len := by
        have := (List.getElem?_eq_some_iff.1 h1).1
        simpa using this
      have hgx : g (j / K) = x := by
        have : ((List.range len).map g)[j / K]? = some (g (j / K)) := by simp [hi]
        rw [this] at h1; exact Option.some.inj h1
      obtain ⟨_, _, hcc⟩ := World.cells?_some (hg (j / K) hi).1
      have hcj := hcc (j % K) (Nat.mod_lt _ hK0)
      rw [Go.Deep.add_add, hgx, h2, Nat.mul_comm, Nat.div_add_mod] at hcj
      exact hcj
    · intro f hf
      obtain ⟨i, hi, rfl⟩ := List.mem_map.1 hf
      exact (hg i (List.mem_range.1 hi)).2
end
end Go.Proofs.YtclicjokgfiegaaDoor

/- What packets that came in read as. Of no function of the program. -/
namespace Go.Proofs.YtclicjokgfiegaaDoor
open Go.ChangeShapes Go.WideShapes Go.ChangeAt Go.RowKit
set_option linter.unusedVariables false
set_option linter.unusedSimpArgs false
set_option maxRecDepth 100000

theorem cells_pac : Tryd.prog.cellsOf 29 = 24 := by kernel_rfl
theorem cells_wishes : Tryd.prog.cellsOf 26 = 1 := by kernel_rfl
theorem cells_nums : Tryd.prog.cellsOf 27 = 1 := by kernel_rfl
theorem bytes_filter : Tryd.prog.bytesOf 58 = 24 := by kernel_rfl
theorem bytes_int : Tryd.prog.bytesOf 3 = 8 := by kernel_rfl
theorem weights_len {H : Type} {P : Program} {t e : TypeId} (ht : P.underlying t = some (.slice e)) {es sp : List (DataW H)} (h : ((DataW.slice es sp).weights P t).all (· ≤ reachBytes) = true) : es.length * P.bytesOf e ≤ 140737488351232 := by
  simp only [DataW.weights, ht, List.all_cons, List.all_append, Bool.and_eq_true] at h
  have h1 : (es.length + sp.length) * P.bytesOf e ≤ reachBytes := by simpa using h.1
  have r : reachBytes = 140737488351232 := rfl
  rw [Nat.add_mul, r] at h1
  omega

section
variable {H : Type} {enc : TypeId × Value → H} {w : World}

theorem wishes_trod {n : Nat} {v : Value} {d : DataW H} {ps : List MemPlace}
    (hf' : DataW.trod enc Tryd.prog w 0 (fun _ => true) true n 26 [v] = some (d, ps)) (hz : (d.weights Tryd.prog 26).all (· ≤ reachBytes) = true) : ∃ l : List Wish, Ws w v l ∧ (∀ f ∈ l, f.1.size ≤ 140737488351232) ∧ l.length * 24 ≤ 140737488351232 := by
  rcases Go.Deep.open_slice_pairs Tryd.underlying26 Tryd.underlying58 (by kernel_rfl) rfl rfl (by kernel_rfl) (by kernel_rfl) hf' with ⟨hcs, hx⟩ | ⟨ad, len, cap, m, n, V0, V1, D0, D1, P0, P1, hcs, _, hl, hm, hmm, hx, hcell⟩
  · simp only [List.cons.injEq, and_true] at hcs
    subst hcs
    exact ⟨[], Rd.nil w, by simp, by simp⟩
  · simp only [List.cons.injEq, and_true] at hcs
    subst hcs
    simp only [if_true] at hmm
    subst hmm
    simp only [Prod.mk.injEq] at hx
    obtain ⟨rfl, _⟩ := hx
    have each : ∀ i, i < len → ∃ f : Wish, V0 i = .string f.1 ∧ V1 i = .int .i64 f.2 ∧ f.1.size ≤ 140737488351232 := by
      intro i hi
      obtain ⟨_, _, t0, t1⟩ := hcell i (by omega)
      obtain ⟨s, e0, hd0, _⟩ := DataW.trod_string Tryd.underlying9 t0
      obtain ⟨q, e1, hd1, _⟩ := DataW.trod_int Tryd.underlying3 t1
      simp only [List.cons.injEq, and_true] at e0 e1
      have hmem : (DataW.agg [D0 i, D1 i] : DataW H) ∈ (List.range len).map fun i => DataW.agg [D0 i, D1 i] := List.mem_map.2 ⟨i, List.mem_range.2 hi, rfl⟩
      have hw := weights_slice Tryd.underlying26 hz hmem
      refine ⟨(s, q), e0, e1, ?_⟩
      simp only [Prod.mk.injEq] at hd0
      have hw' : (DataW.weightsEach Tryd.prog [9, 3] [D0 i, D1 i]).all (· ≤ reachBytes) = true := by
        simpa [DataW.weights, Tryd.underlying58] using hw
      rw [hd0.1] at hw'
      exact sized_string hw' (j := 0) (t := 9) rfl rfl
    have hlw := weights_len Tryd.underlying26 hz
    rw [bytes_filter, List.length_map, List.length_range] at hlw
    obtain ⟨g, hg⟩ := Go.Deep.choose_lt each
    have hlen : ((List.range len).map g).length = len := by simp
    refine ⟨(List.range len).map g, ?_, ?_, by rw [hlen]; exact hlw⟩
    · unfold Ws
      rw [hlen]
      refine ⟨some ad, _, rfl, hl, hm, (fun e => by cases e), fun ad' e j u hu => ?_⟩
      cases e
      have hj : j < len * 2 := by
        have := (List.getElem?_eq_some_iff.1 hu).1
        rw [wCells_len, hlen] at this
        exact this
      have hi : j / 2 < len := by omega
      have hgi : ((List.range len).map g)[j / 2]? = some (g (j / 2)) := by simp [hi]
      have hwc := wCells_at _ _ _ hgi
      obtain ⟨c0, c1, _, _⟩ := hcell (j / 2) (by omega)
      obtain ⟨v0, v1, _⟩ := hg (j / 2) hi
      rcases Nat.mod_two_eq_zero_or_one j with hp | hp
      · have ej : j / 2 * 2 = j := by omega
        rw [ej] at c0 hwc
        rw [hwc.1] at hu
        cases hu
        rw [c0, v0]
      · have ej : j / 2 * 2 + 1 = j := by omega
        rw [ej] at c1 hwc
        rw [hwc.2] at hu
        cases hu
        rw [c1, v1]
    · intro f hf
      obtain ⟨i, hi, rfl⟩ := List.mem_map.1 hf
      exact (hg i (List.mem_range.1 hi)).2.2

theorem nums_trod {n : Nat} {v : Value} {d : DataW H} {ps : List MemPlace}
    (hf' : DataW.trod enc Tryd.prog w 0 (fun _ => true) true n 27 [v] = some (d, ps)) (hz : (d.weights Tryd.prog 27).all (· ≤ reachBytes) = true) : ∃ l : List Int, Is w v l ∧ l.length * 8 ≤ 140737488351232 := by
  rcases Go.Deep.open_slice Tryd.underlying27 hf' with ⟨hcs, hx⟩ | ⟨ad, len, cap, m, n, D, Pl, hcs, _, hl, hm, hmm, hx, hcell⟩
  · simp only [List.cons.injEq, and_true] at hcs
    subst hcs
    exact ⟨[], Rd.nil w, by simp⟩
  · simp only [List.cons.injEq, and_true] at hcs
    subst hcs
    simp only [if_true] at hmm
    subst hmm
    simp only [Prod.mk.injEq] at hx
    obtain ⟨rfl, _⟩ := hx
    have each : ∀ i, i < len → ∃ x : Int, w.cell? (ad.add i) = some (.int .i64 x) := by
      intro i hi
      obtain ⟨cs', h1, h2⟩ := hcell i (by omega)
      obtain ⟨x, rfl, _, _⟩ := DataW.trod_int Tryd.underlying3 h2
      rw [cells_int, Nat.mul_one] at h1
      obtain ⟨_, _, hcc⟩ := World.cells?_some h1
      have := hcc 0 (by decide)
      rw [Go.Deep.add_add] at this
      exact ⟨x, by simpa using this⟩
    have hlw := weights_len Tryd.underlying27 hz
    rw [bytes_int, List.length_map, List.length_range] at hlw
    obtain ⟨g, hg⟩ := Go.Deep.choose_lt each
    have hlen : ((List.range len).map g).length = len := by simp
    refine ⟨(List.range len).map g, ?_, by rw [hlen]; exact hlw⟩
    unfold Is
    rw [hlen]
    refine ⟨some ad, _, rfl, hl, hm, (fun e => by cases e), fun ad' e j u hu => ?_⟩
    cases e
    have hj : j < len := by
      have := (List.getElem?_eq_some_iff.1 hu).1
      simpa using this
    rw [hg j hj, ← hu]
    simp [hj, iV]

/-- A packet's cells that came in: what they are, and that the rows behind them read. -/
def PacIn (w : World) (p : Pac) (vf vc : Value) : Prop := Ws w vf p.fs ∧ Is w vc p.cs ∧ p.sized 140737488351232 ∧ p.fs.length * 24 ≤ 140737488351232 ∧ p.cs.length * 8 ≤ 140737488351232

theorem pac_cells {n : Nat} {cs : List Value} {d : DataW H} {p : List MemPlace} (h : DataW.trod enc Tryd.prog w 0 (fun _ => true) true n 29 cs = some (d, p)) (hz : (d.weights Tryd.prog 29).all (· ≤ reachBytes) = true) :
    ∃ (p : Pac) (vf vc : Value), cs = p.cells vf vc ∧ PacIn w p vf vc := by
  obtain ⟨xs, n', _, hx, hlen, hxl, hf⟩ := DataW.trod_struct Tryd.underlying29 h
  simp only [Prod.mk.injEq] at hx
  obtain ⟨rfl, rfl⟩ := hx
  rw [cells_pac] at hlen
  match cs, hlen, xs, hxl with
  | [c0, c1, c2, c3, c4, c5, c6, c7, c8, c9, c10, c11, c12, c13, c14, c15, c16, c17, c18, c19, c20, c21, c22, c23], _, [y0, y1, y2, y3, y4, y5, y6, y7, y8], _ =>
    have g0 : DataW.trod enc Tryd.prog w 0 (fun _ => true) true n' 3 [c0] = some y0 := by have := hf 0 _ rfl; simpa [cells_int] using this
    have g1 : DataW.trod enc Tryd.prog w 0 (fun _ => true) true n' 3 [c1] = some y1 := by have := hf 1 _ rfl; simpa [cells_int] using this
    have g2 : DataW.trod enc Tryd.prog w 0 (fun _ => true) true n' 4 [c2] = some y2 := by have := hf 2 _ rfl; simpa [cells_bool] using this
    have g3 : DataW.trod enc Tryd.prog w 0 (fun _ => true) true n' 23 [c3, c4, c5, c6] = some y3 := by have := hf 3 _ rfl; simpa [cells_msg] using this
    have g4 : DataW.trod enc Tryd.prog w 0 (fun _ => true) true n' 25 [c7, c8, c9, c10, c11, c12, c13, c14, c15, c16, c17, c18, c19] = some y4 := by have := hf 4 _ rfl; simpa [cells_con] using this
    have g5 : DataW.trod enc Tryd.prog w 0 (fun _ => true) true n' 4 [c20] = some y5 := by have := hf 5 _ rfl; simpa [cells_bool] using this
    have g6 : DataW.trod enc Tryd.prog w 0 (fun _ => true) true n' 3 [c21] = some y6 := by have := hf 6 _ rfl; simpa [cells_int] using this
    have g7 : DataW.trod enc Tryd.prog w 0 (fun _ => true) true n' 26 [c22] = some y7 := by have := hf 7 _ rfl; simpa [cells_wishes] using this
    have g8 : DataW.trod enc Tryd.prog w 0 (fun _ => true) true n' 27 [c23] = some y8 := by have := hf 8 _ rfl; simpa [cells_nums] using this
    obtain ⟨x0, e0, rfl, _⟩ := DataW.trod_int Tryd.underlying3 g0
    obtain ⟨x1, e1, rfl, _⟩ := DataW.trod_int Tryd.underlying3 g1
    obtain ⟨x2, e2, rfl⟩ := DataW.trod_bool Tryd.underlying4 g2
    obtain ⟨x5, e5, rfl⟩ := DataW.trod_bool Tryd.underlying4 g5
    obtain ⟨x6, e6, rfl, _⟩ := DataW.trod_int Tryd.underlying3 g6
    obtain ⟨d3, p3⟩ := y3
    obtain ⟨d4, p4⟩ := y4
    obtain ⟨d7, p7⟩ := y7
    obtain ⟨d8, p8⟩ := y8
    have hw : (DataW.weightsEach Tryd.prog [3, 3, 4, 23, 25, 4, 3, 26, 27] [DataW.lit (.int .i64 x0), DataW.lit (.int .i64 x1), DataW.lit (.bool x2), d3, d4, DataW.lit (.bool x5), DataW.lit (.int .i64 x6), d7, d8]).all (· ≤ reachBytes) = true := by
      simpa [DataW.weights, Tryd.underlying29] using hz
    obtain ⟨T, X, q, R, e3, hT, hX, _⟩ := msg_cells g3 (sized_at hw (j := 3) (t := 23) rfl rfl)
    obtain ⟨c, e4, hc⟩ := con_cells g4 (sized_at hw (j := 4) (t := 25) rfl rfl)
    obtain ⟨fs, hfs, hfz, hfl⟩ := wishes_trod g7 (sized_at hw (j := 7) (t := 26) rfl rfl)
    obtain ⟨ns, hns, hnl⟩ := nums_trod g8 (sized_at hw (j := 8) (t := 27) rfl rfl)
    simp only [List.cons.injEq, and_true, Con.cells] at e0 e1 e2 e3 e4 e5 e6
    obtain ⟨rfl, rfl, rfl, rfl⟩ := e3
    obtain ⟨rfl, rfl, rfl, rfl, rfl, rfl, rfl, rfl, rfl, rfl, rfl, rfl, rfl⟩ := e4
    subst e0 e1 e2 e5 e6
    exact ⟨⟨x0, x1, x2, T, X, q, R, c, x5, x6, fs, ns⟩, c22, c23, rfl, hfs, hns, ⟨hT, hX, hc, hfz⟩, hfl, hnl⟩

theorem open_pac {r : Reach} {b0 : Nat} {v : Value} {d : DataW H} {p : List MemPlace} (hv : Value.okWide Tryd.prog w r b0 29 v) (h : DataW.Trod enc Tryd.prog w 0 (fun _ => true) true 29 v d p) (hz : (d.weights Tryd.prog 29).all (· ≤ reachBytes) = true) :
    ∃ (p : Pac) (vf vc : Value), v = .agg (p.cells vf vc).toArray ∧ PacIn w p vf vc := by
  obtain ⟨cs, rfl, hsz⟩ := okWide_struct Tryd.underlying29 hv
  obtain ⟨fuel, hf⟩ := h
  obtain ⟨p, vf, vc, hc, h1⟩ := pac_cells hf hz
  refine ⟨p, vf, vc, ?_, h1⟩
  have : cs.toList = p.cells vf vc := by simpa [Value.cells] using hc
  rw [← Array.toArray_toList (xs := cs), this]

/-- A packet in a row, with the values of its slices. -/
abbrev PacV := Pac × Value × Value
def PacV.cells (x : PacV) : List Value := x.1.cells x.2.1 x.2.2
instance : Inhabited PacV := ⟨(Pac.zero, .slice none 0 0, .slice none 0 0)⟩
theorem open_pacs {r : Reach} {b0 : Nat} {v : Value} {d : DataW H} {ps : List MemPlace} (hval : Value.okWide Tryd.prog w r b0 80 v)
    (h : DataW.Trod enc Tryd.prog w 0 (fun _ => true) true 80 v d ps) (hz : (d.weights Tryd.prog 80).all (· ≤ reachBytes) = true) : ∃ l : List PacV, Rd w v l.length (l.flatMap PacV.cells) ∧ ∀ x ∈ l, PacIn w x.1 x.2.1 x.2.2 :=
  open_rows PacV.cells 24 (by decide) (fun _ => rfl) Tryd.underlying80 cells_pac (fun x => PacIn w x.1 x.2.1 x.2.2) (fun n cs d p h hz => by
    obtain ⟨p, vf, vc, h1, h2⟩ := pac_cells h hz
    exact ⟨(p, vf, vc), h1, h2⟩) hval h hz
end
end Go.Proofs.YtclicjokgfiegaaDoor

/- Packets: rows of packets that grow. -/
namespace Go.Proofs.YtclicjokgfiegaaDoor
open Go.RowKit
set_option linter.unusedVariables false
set_option linter.unusedSimpArgs false

theorem info_pacz : (Tryd.prog.info? 29).map (fun i => (i.zero, i.size, i.bytes)) = some (some (.agg (zK 0).toArray), 24, 280) := by kernel_rfl
theorem pacv_len (x : PacV) : (PacV.cells x).length = 24 := rfl
theorem pcells_len : ∀ l : List PacV, (l.flatMap PacV.cells).length = l.length * 24
  | [] => rfl
  | x :: t => by rw [List.flatMap_cons, List.length_append, pcells_len t, pacv_len, List.length_cons]; omega
theorem pacv_one (x : PacV) (hf : x.2.1.oneCell' = true) (hc : x.2.2.oneCell' = true) : ∀ v ∈ PacV.cells x, v.oneCell' = true := Pac.one x.1 x.2.1 x.2.2 hf hc
/-- A row of packets that is the call's own: its cells, and what lies behind them, apart from it. -/
structure OwnPs (B : Nat) (w : World) (v : Value) (l : List PacV) : Prop where
  row : w.ownsRow B 29 24 v l.length (l.flatMap PacV.cells)
  each : ∀ x ∈ l, PacOwn B w x.1 x.2.1 x.2.2 ∧ (∀ k, k ∈ blk x.2.1 → k ∉ blk v) ∧ (∀ k, k ∈ blk x.2.2 → k ∉ blk v)
theorem OwnPs.nil (B : Nat) (w : World) : OwnPs B w (.slice none 0 0) [] := ⟨⟨rfl, .inl ⟨rfl, rfl⟩⟩, by simp⟩
theorem OwnPs.kept {B B' : Nat} {w w' : World} {v : Value} {l : List PacV} (h : OwnPs B w v l) (hb : Below B' w w') (hB : w.heap.size ≤ B') : OwnPs B w' v l :=
  ⟨Owns.kept h.row hb hB, fun x hx => ⟨(h.each x hx).1.kept hb hB, (h.each x hx).2⟩⟩
theorem blk_ge {w : World} {B e size n : Nat} {v : Value} {xs : List Value} (h : w.ownsRow B e size v n xs) {k : Nat} (hk : k ∈ blk v) : B ≤ k := (h.lt k (by simpa [blk] using hk)).1
theorem own_keeps {S : List Nat} {w w' : World} {B e size n : Nat} {v : Value} {xs : List Value} (hk : Keeps S w w') (h : w.ownsRow B e size v n xs) (ho : ∀ k, k ∈ blk v → k ∉ S) : w'.ownsRow B e size v n xs := by
  refine ⟨h.1, ?_⟩
  rcases h.2 with h0 | ⟨g, cap, cur, rfl, h1, h2, h3⟩
  · exact .inl h0
  · exact .inr ⟨g, cap, cur, rfl, h1, by rw [hk.block g (Array.getElem?_eq_some_iff.1 h2).1 (ho g (by simp [blk, Value.ownBlock]))]; exact h2, h3⟩
theorem OwnPs.le {B B' : Nat} {w : World} {v : Value} {l : List PacV} (h : OwnPs B w v l) (hB : B' ≤ B) : OwnPs B' w v l := ⟨Owns.le h.row hB, fun x hx => ⟨(h.each x hx).1.le hB, (h.each x hx).2⟩⟩
theorem OwnPs.keeps0 {B : Nat} {w w' : World} {v : Value} {l : List PacV} (h : OwnPs B w v l) (hk : Keeps [] w w') : OwnPs B w' v l :=
  ⟨own_keeps hk h.row (fun k _ => by simp), fun x hx => ⟨(h.each x hx).1.keeps hk (fun k hk => by simp at hk), (h.each x hx).2⟩⟩
set_option maxRecDepth 100000 in
theorem build_row (p : Pac) (vf vc : Value) (W : World) : (Instr.buildSlice 80 1 #[(0, .agg (p.cells vf vc).toArray)]).run Tryd.prog W = .ok (.slice (some ⟨W.heap.size, 0, none⟩) 1 1) (W.alloc (.cells (p.cells vf vc).toArray 29)) := by
  simp [Instr.buildSlice, go_sem, Pac.cells]
/-- The row of one that an append takes is built. -/
theorem wpl_buildSlice {P : Program} {w : World} {ops : Array Oper} {rest : List Oper} {o : Oper} {a : Act} {Q : Exit → Act → World → Prop} (hgd : o.guard = none) (ty : TypeId) (n : Nat) (parts : Array (Nat × Operand)) (ho : o.op = .buildSlice ty n parts) (vals : Array (Nat × Value))
    (hp : parts.map (fun (i, x) => (i, a.eval x)) = vals) (v : Value) (w' : World) (hr : (Instr.buildSlice ty n vals).run P w = .ok v w') (h : wpList P ops Q rest (a.put o.dst v) w') : wpList P ops Q (o :: rest) a w := by
  refine wpList_plain hgd fun K hK => ?_
  unfold Oper.wp execOp
  simp only [ho, hp, Sem.run_bind, Sem.run_pure, hr, Result.andThen_ok]
  exact hK _ _ h
/-- The same of one part. -/
theorem wpl_buildSlice1 {P : Program} {w : World} {ops : Array Oper} {rest : List Oper} {o : Oper} {a : Act} {Q : Exit → Act → World → Prop} (hgd : o.guard = none) (ty : TypeId) (x : Operand) (ho : o.op = .buildSlice ty 1 #[(0, x)]) (u : Value)
    (hx : a.eval x = u) (v : Value) (w' : World) (hr : (Instr.buildSlice ty 1 #[(0, u)]).run P w = .ok v w') (h : wpList P ops Q rest (a.put o.dst v) w') : wpList P ops Q (o :: rest) a w := by
  refine wpList_plain hgd fun K hK => ?_
  unfold Oper.wp execOp
  simp only [ho, List.map_toArray, List.map_cons, List.map_nil, hx, Sem.run_bind, Sem.run_pure, hr, Result.andThen_ok]
  exact hK _ _ h
/-- append(l, p) of one packet: its block has been laid at g. -/
theorem wpl_appPs {w : World} {ops : Array Oper} {rest : List Oper} {o : Oper} {a : Act} {Q : Exit → Act → World → Prop} (hgd : o.guard = none) (s x : Operand)
    (ho : o.op = .call { callee := .builtin .append, args := #[s, x], argTypes := #[80, 80] })
    (B : Nat) (v : Value) (l : List PacV) (hv : a.eval s = v) (hown : OwnPs B w v l) (p : Pac) (vf vc : Value) (g : Nat) (hx : a.eval x = .slice (some ⟨g, 0, none⟩) 1 1) (hg : At w g (p.cells vf vc))
    (hp : PacOwn B w p vf vc) (hf : ∀ k, k ∈ blk vf → k ∉ blk v) (hc : ∀ k, k ∈ blk vc → k ∉ blk v) (hlen : l.length < 2000000) (hB : B ≤ w.heap.size)
    (h : ∀ v' w', OwnPs B w' v' (l ++ [(p, vf, vc)]) → Keeps (blk v) w w' → Below B w w' → (∀ k, k ∈ blk v' → k ∈ blk v ∨ w.heap.size ≤ k) → wpList Tryd.prog ops Q rest (a.put o.dst v') w') : wpList Tryd.prog ops Q (o :: rest) a w := by
  obtain ⟨i0, hi, hz0, hz1, hz2⟩ := info_parts info_pacz
  have h1 : ∀ u ∈ p.cells vf vc, u.oneCell' = true := Pac.one p vf vc hp.rd.f.oneCell hp.rd.c.oneCell
  have hrow0 : w.ownsRow 0 29 24 v l.length (l.flatMap PacV.cells) := Owns.le hown.row (Nat.zero_le _)
  obtain ⟨v', w', hr, h2, h3, h4⟩ := app_block (P := Tryd.prog) w 80 o.type 29 i0 (.agg (zK 0).toArray) 24 280 Tryd.underlying80 hi hz0 hz1 hz2 rfl (by decide) v l.length (l.flatMap PacV.cells)
    hrow0 ⟨g, 0, none⟩ 1 1 (p.cells vf vc) rfl (fun j u hu => by rw [Go.WideShapes.add_plain, Nat.zero_add]; exact hg.at j hu) h1 (by unfold maxLen; omega) (by omega)
  have hkB : Below B w w' := h3.toBelow hB (fun k hk => blk_ge hown.row hk)
  refine wpList_plain hgd fun K hK => ?_
  unfold Oper.wp execOp
  simp only [ho, resolve, invoke, builtin, Sem.run_bind, Sem.run_pure, Result.andThen_ok, List.map_toArray, List.map_cons, List.map_nil, hv, hx, hr]
  have hblk : ∀ k, k ∈ blk v' → B ≤ k := fun k hk => by
    rcases h4 k hk with h5 | h5
    · exact blk_ge hown.row h5
    · omega
  have hrow : w'.ownsRow B 29 24 v' (l.length + 1) (l.flatMap PacV.cells ++ p.cells vf vc) := by
    refine ⟨h2.1, ?_⟩
    rcases h2.2 with h0 | ⟨g', cap, cur, rfl, hg1, hg2, hg3⟩
    · exact .inl h0
    · exact .inr ⟨g', cap, cur, rfl, hblk g' (by simp [blk, Value.ownBlock]), hg2, hg3⟩
  have apart : ∀ (q : Value), (∀ k, k ∈ blk q → k < w.heap.size) → (∀ k, k ∈ blk q → k ∉ blk v) → ∀ k, k ∈ blk q → k ∉ blk v' := fun q hq hn k hk hm => by
    rcases h4 k hm with h5 | h5
    · exact hn k hk h5
    · have := hq k hk; omega
  have keep : ∀ (y : PacV), PacOwn B w y.1 y.2.1 y.2.2 → (∀ k, k ∈ blk y.2.1 → k ∉ blk v) → (∀ k, k ∈ blk y.2.2 → k ∉ blk v) → PacOwn B w' y.1 y.2.1 y.2.2 ∧ (∀ k, k ∈ blk y.2.1 → k ∉ blk v') ∧ (∀ k, k ∈ blk y.2.2 → k ∉ blk v') := fun y hy ha hb =>
    ⟨⟨own_keeps h3 hy.f ha, own_keeps h3 hy.c hb, hy.lf, hy.lc⟩, apart _ (fun k hk => blk_lt hy.f hk) ha, apart _ (fun k hk => blk_lt hy.c hk) hb⟩
  refine hK _ _ (h v' w' ⟨?_, fun y hy => ?_⟩ h3 hkB h4)
  · rw [List.length_append, List.flatMap_append]
    simpa [PacV.cells] using hrow
  · rcases List.mem_append.1 hy with hy | hy
    · obtain ⟨e1, e2, e3⟩ := hown.each y hy
      exact keep y e1 e2 e3
    · obtain rfl := List.mem_singleton.1 hy
      exact keep (p, vf, vc) hp hf hc
end Go.Proofs.YtclicjokgfiegaaDoor

/- Packets: all of them: the walk. -/
namespace Go.Proofs.YtclicjokgfiegaaDoor
open Go.RowKit
set_option linter.unusedVariables false
set_option linter.unusedSimpArgs false

def GivesAllP (w : World) (r : List Pac × Int × Int) (e : Ending) (w' : World) : Prop :=
  ∃ v xs, e = .returned (.tuple #[v, .int .i64 r.2.1, .int .i64 r.2.2]) ∧ OwnPs w.heap.size w' v xs ∧ xs.map (·.1) = r.1 ∧ Below w.heap.size w w'
structure AllP (wb : World) (b : List UInt8) (v : Value) (xs : List PacV) (a : Nat) (w' : World) : Prop where
  own : OwnPs wb.heap.size w' v xs
  le : a ≤ b.length
  cnt : xs.length ≤ a
  eq : paAllB b = (xs.map (·.1) ++ (paAll (b.length - a + 1) b a).1, (paAll (b.length - a + 1) b a).2)
  below : Below wb.heap.size wb w'
theorem AllP.step {wb w1 w2 : World} {b : List UInt8} {v v' : Value} {xs : List PacV} {a : Nat} (h : AllP wb b v xs a w1) (x : PacV) (hx : x.1 = (paOne b a).1) (hok : (paOne b a).2.2.1 = true) (ho : OwnPs wb.heap.size w2 v' (xs ++ [x])) (hb : Below wb.heap.size wb w2) :
    AllP wb b v' (xs ++ [x]) (paOne b a).2.1.toNat w2 := by
  have hr := paOne_rng hok
  have hle := h.le
  have hc := h.cnt
  refine ⟨ho, by omega, by rw [List.length_append, List.length_singleton]; omega, ?_, hb⟩
  obtain ⟨m, hm⟩ : ∃ m, b.length - a = m + 1 := ⟨b.length - a - 1, by omega⟩
  rw [h.eq, hm, paAll_succ (m + 1), if_pos hok, paAll_fuel b m (b.length - (paOne b a).2.1.toNat) (paOne b a).2.1.toNat (by omega) (by omega)]
  simp [hx]
set_option maxRecDepth 100000 in
set_option maxHeartbeats 8000000 in
theorem packAll_c (s : ByteArray) (w : World) (hs : s.size ≤ 1048576) (hH : EnvH w) (hE : EnvU w) :
    Calls Tryd.prog 31 #[.string s] w (GivesAllP w (paAllB (sB s))) := by
  have HE := hd hE; have HH := hd hH
  clear hE hH
  obtain ⟨bc, wb, hrun, hB, hb⟩ := run_bytes s (by omega) w
  have hbl : (sB s).length = s.size := sB_lenP s
  generalize sB s = b at *
  have HB := hd hB; have hbm : b.length ≤ 1048576 := by omega
  clear hB hbl
  go_enter Tryd.func31, Tryd.ntmps31
  go_wp2_with fail
  have I0 : AllP wb b (.slice none 0 0) [] 0 wb := ⟨OwnPs.nil _ _, Nat.zero_le _, Nat.zero_le _, by unfold paAllB; simp, Below.refl _ _⟩
  go_loopw [5, 7] (fun v a w' => ∃ (xs : List PacV) (n : Nat), a = .int .i64 n ∧ AllP wb b v xs n w') (fun _ a _ => match a with | .int _ m => b.length - m.toNat | _ => 0)
  case atStart => exact ⟨[], 0, rfl, I0⟩
  case round =>
    obtain ⟨xs, n, rfl, I⟩ := hrel
    have HI := hd I
    have hle := I.le
    clear I I0
    go_wp2_with fail
    have hBr := Below.up hb HI.out.below
    have hc := one16_c (.slice (some ⟨w.heap.size, 0, none⟩) b.length bc) b n wr (HB.out.below' HI.out.below (Nat.le_refl _)) (by omega) (HH.out.below hBr (Nat.le_refl _)) (HE.out.below hBr)
    refine hc.mono ?_
    rintro e w2 ⟨vf, vc, rfl, hr2, hb2⟩
    clear hc
    have hst := fun (v' : Value) (w3 : World) (hok : (paOne b n).2.2.1 = true) (ho : OwnPs wb.heap.size w3 v' (xs ++ [((paOne b n).1, vf, vc)])) (hB3 : Below wb.heap.size wb w3) => HI.out.step ((paOne b n).1, vf, vc) rfl hok ho hB3
    have hend : (paOne b n).2.2.1 = false → paAllB b = (xs.map (·.1), (n : Int), (paOne b n).2.2.2) := fun hok => by
      rw [HI.out.eq, paAll_succ, if_neg (by rw [hok]; simp)]
      simp
    have hrg := @paOne_rng b n
    generalize paOne b n = r at *
    obtain ⟨P, q, ok, E⟩ := r
    have HST := hd hst; have HEN := hd hend; have HRG := hd hrg
    clear hst hend hrg
    have hw := HI.out.below.size
    have hz2 := hb2.size
    have hor : OwnPs wb.heap.size w2 u5 xs := HI.out.own.kept hb2 (Nat.le_refl _)
    have B2 : Below wb.heap.size wb w2 := HI.out.below.trans (hb2.mono hw)
    have hone := Pac.one P vf vc hr2.rd.f.oneCell hr2.rd.c.oneCell
    have hcnt := HI.out.cnt
    have HOR := hd hor
    clear hor
    simp only
    cases ok with
    | false =>
      go_wp2_with (first
        | (with_reducible refine wpl_alloc (o := ⟨some 8, .alloc 29, _, _, _, _⟩) rfl _ rfl (zK 0) alloc_pac _ rfl ?_; intro w3 h3 f3 b3 z3; have B3 := B2.trans (b3.mono (by omega)))
        | ((with_reducible refine wpl_at (o := ⟨none, .store 29 (.tmp 8) (.tmp 18), _, _, _, _⟩) ?_); refine wpl_storeAll rfl rfl _ _ _ rfl w2.heap.size (P.cells vf vc) (zK 0) rfl rfl info_pac hone h3 rfl f3 ?_; intro w4 h4 f4 k4 z4; have K4 : Keeps [] w2 w4 := (Keeps.below b3).next k4 (by intro i hi; simp at hi; subst hi; exact .inr (Nat.le_refl _)); have B4 := B3.trans (k4.toBelow (by omega) (by simp; omega))))
      go_ret3
      have he : paAllB b = (xs.map (·.1), (n : Int), E) := HEN.out (by first | rfl | trivial)
      rw [he]
      refine ⟨_, xs, rfl, ?_, rfl, ?_⟩
      · exact (HOR.out.keeps0 K4).le hb.size
      · exact Below.up hb B4
    | true =>
      have hr4 : PacOwn wr.heap.size w2 P vf vc := hr2
      go_wp2_with (first
        | (with_reducible refine wpl_alloc (o := ⟨some 8, .alloc 29, _, _, _, _⟩) rfl _ rfl (zK 0) alloc_pac _ rfl ?_; intro w3 h3 f3 b3 z3; have B3 := B2.trans (b3.mono (by omega)))
        | ((with_reducible refine wpl_at (o := ⟨none, .store 29 (.tmp 8) (.tmp 18), _, _, _, _⟩) ?_); refine wpl_storeAll rfl rfl _ _ _ rfl w2.heap.size (P.cells vf vc) (zK 0) rfl rfl info_pac hone h3 rfl f3 ?_; intro w4 h4 f4 k4 z4; have K4 : Keeps [] w2 w4 := (Keeps.below b3).next k4 (by intro i hi; simp at hi; subst hi; exact .inr (Nat.le_refl _)); have B4 := B3.trans (k4.toBelow (by omega) (by simp; omega)))
        | ((with_reducible refine wpl_at (o := ⟨some 28, .load 29 (.tmp 8), _, _, _, _⟩) ?_); refine wpl_loadAt rfl _ _ rfl w2.heap.size 0 rfl (P.cells vf vc) _ h4.range Tryd.underlying29 rfl info_pac ?_)
        | ((with_reducible refine wpl_at (o := ⟨some 29, .buildSlice 80 1 #[(0, .tmp 28)], _, _, _, _⟩) ?_); refine wpl_buildSlice1 rfl _ _ rfl (.agg (P.cells vf vc).toArray) rfl _ (w4.alloc (.cells (P.cells vf vc).toArray 29)) (build_row P vf vc w4) ?_; have b5 := (Below.refl w4.heap.size w4).alloc (Nat.le_refl _) (.cells (P.cells vf vc).toArray 29); have h5 : At (w4.alloc (.cells (P.cells vf vc).toArray 29)) w4.heap.size (P.cells vf vc) := At.new _ _ _; generalize w4.alloc (.cells (P.cells vf vc).toArray 29) = w5 at *; have K5 := K4.trans (Keeps.below b5); have ho5 := HOR.out.keeps0 K5; have hr5 := hr4.keeps K5 (fun k hk => by simp at hk); have B5 := B4.trans (b5.mono B4.size))
        | (at_builtin; refine wpl_appPs rfl _ _ rfl wb.heap.size u5 xs rfl ho5 P vf vc w4.heap.size rfl h5 (hr5.le hw) (fun k hk hm => by have h1 := blk_ge hr5.f hk; have h2 := blk_lt HI.out.own.row hm; omega) (fun k hk hm => by have h1 := blk_ge hr5.c hk; have h2 := blk_lt HI.out.own.row hm; omega) (by omega) (by have := B5.size; omega) ?_; intro v6 w6 ho6 hk6 hb6 hn6))
      obtain ⟨rg1, rg2⟩ : (n : Int) + 1 ≤ q ∧ q ≤ b.length := HRG.out (by first | rfl | trivial)
      have I6 : AllP wb b v6 (xs ++ [(P, vf, vc)]) q.toNat w6 := HST.out v6 w6 (by first | rfl | trivial) ho6 (B5.trans hb6)
      go_roundw
      case rel => exact ⟨xs ++ [(P, vf, vc)], q.toNat, by rw [Int.toNat_of_nonneg (by omega)], I6⟩
      all_goals (show b.length - q.toNat < b.length - (n : Int).toNat; omega)
end Go.Proofs.YtclicjokgfiegaaDoor
