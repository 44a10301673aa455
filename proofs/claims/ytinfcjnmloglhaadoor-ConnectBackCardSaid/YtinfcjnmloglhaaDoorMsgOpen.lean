/- What a message that came in reads as. Of no function of the program. -/
import Derived.Test.YtinfcjnmloglhaaDoorClose
namespace Go.Proofs.YtinfcjnmloglhaaDoor
open Go.ChangeShapes Go.WideShapes Go.ChangeAt Go.RowKit
set_option linter.unusedVariables false
set_option linter.unusedSimpArgs false

theorem cells_string : Tryd.prog.cellsOf 9 = 1 := by kernel_rfl
theorem cells_int : Tryd.prog.cellsOf 3 = 1 := by kernel_rfl
theorem cells_bool : Tryd.prog.cellsOf 4 = 1 := by kernel_rfl
theorem cells_msg : Tryd.prog.cellsOf 44 = 4 := by kernel_rfl

section
variable {H : Type} {enc : TypeId × Value → H} {w : World} {base : Nat} {sp : Nat → Bool} {held : Bool}

theorem str_sized {t : TypeId} {s : ByteArray} {l : List (DataW H)} (h : ((DataW.lit (.string s.data.toList) : DataW H).weights Tryd.prog t).all (· ≤ reachBytes) = true) : s.size ≤ 140737488351232 := by
  simp only [DataW.weights, List.all_cons, List.all_nil, Bool.and_true, decide_eq_true_eq] at h
  have e : s.data.toList.length = s.size := Array.length_toList
  rw [e] at h
  have r : reachBytes = 140737488351232 := rfl
  omega

theorem msg_cells {n : Nat} {cs : List Value} {d : DataW H} {p : List MemPlace} (h : DataW.trod enc Tryd.prog w base sp held n 44 cs = some (d, p)) (hz : (d.weights Tryd.prog 44).all (· ≤ reachBytes) = true) :
    ∃ (T X : ByteArray) (q : Int) (R : Bool), cs = [.string T, .string X, .int .i64 q, .bool R] ∧ T.size ≤ 140737488351232 ∧ X.size ≤ 140737488351232 ∧ (Lit.int .i64 q).wf = true := by
  obtain ⟨xs, n', _, hx, hlen, hxl, hf⟩ := DataW.trod_struct Tryd.underlying44 h
  simp only [Prod.mk.injEq] at hx
  obtain ⟨rfl, rfl⟩ := hx
  rw [cells_msg] at hlen
  match cs, hlen, xs, hxl with
  | [c0, c1, c2, c3], _, [y0, y1, y2, y3], _ =>
    have g0 : DataW.trod enc Tryd.prog w base sp held n' 9 [c0] = some y0 := by have := hf 0 _ rfl; simpa [cells_string] using this
    have g1 : DataW.trod enc Tryd.prog w base sp held n' 9 [c1] = some y1 := by have := hf 1 _ rfl; simpa [cells_string] using this
    have g2 : DataW.trod enc Tryd.prog w base sp held n' 3 [c2] = some y2 := by have := hf 2 _ rfl; simpa [cells_int] using this
    have g3 : DataW.trod enc Tryd.prog w base sp held n' 4 [c3] = some y3 := by have := hf 3 _ rfl; simpa [cells_bool] using this
    obtain ⟨T, e0, rfl, _⟩ := DataW.trod_string Tryd.underlying9 g0
    obtain ⟨X, e1, rfl, _⟩ := DataW.trod_string Tryd.underlying9 g1
    obtain ⟨q, e2, rfl, hq⟩ := DataW.trod_int Tryd.underlying3 g2
    obtain ⟨R, e3, rfl⟩ := DataW.trod_bool Tryd.underlying4 g3
    simp only [List.cons.injEq, and_true] at e0 e1 e2 e3
    subst e0 e1 e2 e3
    have hw : (DataW.weightsEach Tryd.prog [9, 9, 3, 4] [DataW.lit (.string T.data.toList), DataW.lit (.string X.data.toList), DataW.lit (.int .i64 q), (DataW.lit (.bool R) : DataW H)]).all (· ≤ reachBytes) = true := by
      simpa [DataW.weights, Tryd.underlying44] using hz
    exact ⟨T, X, q, R, rfl, sized_string hw (j := 0) (t := 9) rfl rfl, sized_string hw (j := 1) (t := 9) rfl rfl, hq⟩

theorem open_msg {r : Reach} {b0 : Nat} {v : Value} {d : DataW H} {p : List MemPlace} (hv : Value.okWide Tryd.prog w r b0 44 v) (h : DataW.Trod enc Tryd.prog w base sp held 44 v d p) (hz : (d.weights Tryd.prog 44).all (· ≤ reachBytes) = true) :
    ∃ (T X : ByteArray) (q : Int) (R : Bool), v = .agg #[.string T, .string X, .int .i64 q, .bool R] ∧ T.size ≤ 140737488351232 ∧ X.size ≤ 140737488351232 ∧ (Lit.int .i64 q).wf = true := by
  obtain ⟨cs, rfl, hsz⟩ := okWide_struct Tryd.underlying44 hv
  obtain ⟨fuel, hf⟩ := h
  obtain ⟨T, X, q, R, hc, h1⟩ := msg_cells hf hz
  refine ⟨T, X, q, R, ?_, h1⟩
  have : cs.toList = [.string T, .string X, .int .i64 q, .bool R] := by simpa [Value.cells] using hc
  rw [← Array.toArray_toList (xs := cs), this]
end
end Go.Proofs.YtinfcjnmloglhaaDoor
