/- What somebody who came in reads as. Of no function of the program. -/
import Derived.Test.YtinfcjnmloglhaaDoorMsgOpen
import Derived.Test.YtinfcjnmloglhaaDoorConPlain
namespace Go.Proofs.YtinfcjnmloglhaaDoor
open Go.ChangeShapes Go.WideShapes Go.ChangeAt Go.RowKit
set_option linter.unusedVariables false
set_option linter.unusedSimpArgs false

theorem cells_con : Tryd.prog.cellsOf 49 = 13 := by kernel_rfl

section
variable {H : Type} {enc : TypeId × Value → H} {w : World} {base : Nat} {sp : Nat → Bool} {held : Bool}

theorem con_cells {n : Nat} {cs : List Value} {d : DataW H} {p : List MemPlace} (h : DataW.trod enc Tryd.prog w base sp held n 49 cs = some (d, p)) (hz : (d.weights Tryd.prog 49).all (· ≤ reachBytes) = true) :
    ∃ c : Con, cs = c.cells ∧ c.sized 140737488351232 := by
  obtain ⟨xs, n', _, hx, hlen, hxl, hf⟩ := DataW.trod_struct Tryd.underlying49 h
  simp only [Prod.mk.injEq] at hx
  obtain ⟨rfl, rfl⟩ := hx
  rw [cells_con] at hlen
  match cs, hlen, xs, hxl with
  | [c0, c1, c2, c3, c4, c5, c6, c7, c8, c9, c10, c11, c12], _, [y0, y1, y2, y3, y4, y5, y6, y7, y8, y9], _ =>
    have g0 : DataW.trod enc Tryd.prog w base sp held n' 3 [c0] = some y0 := by have := hf 0 _ rfl; simpa [cells_int] using this
    have g1 : DataW.trod enc Tryd.prog w base sp held n' 4 [c1] = some y1 := by have := hf 1 _ rfl; simpa [cells_bool] using this
    have g2 : DataW.trod enc Tryd.prog w base sp held n' 3 [c2] = some y2 := by have := hf 2 _ rfl; simpa [cells_int] using this
    have g3 : DataW.trod enc Tryd.prog w base sp held n' 9 [c3] = some y3 := by have := hf 3 _ rfl; simpa [cells_string] using this
    have g4 : DataW.trod enc Tryd.prog w base sp held n' 4 [c4] = some y4 := by have := hf 4 _ rfl; simpa [cells_bool] using this
    have g5 : DataW.trod enc Tryd.prog w base sp held n' 44 [c5, c6, c7, c8] = some y5 := by have := hf 5 _ rfl; simpa [cells_msg] using this
    have g6 : DataW.trod enc Tryd.prog w base sp held n' 4 [c9] = some y6 := by have := hf 6 _ rfl; simpa [cells_bool] using this
    have g7 : DataW.trod enc Tryd.prog w base sp held n' 9 [c10] = some y7 := by have := hf 7 _ rfl; simpa [cells_string] using this
    have g8 : DataW.trod enc Tryd.prog w base sp held n' 4 [c11] = some y8 := by have := hf 8 _ rfl; simpa [cells_bool] using this
    have g9 : DataW.trod enc Tryd.prog w base sp held n' 9 [c12] = some y9 := by have := hf 9 _ rfl; simpa [cells_string] using this
    obtain ⟨x0, e0, rfl, _⟩ := DataW.trod_int Tryd.underlying3 g0
    obtain ⟨x1, e1, rfl⟩ := DataW.trod_bool Tryd.underlying4 g1
    obtain ⟨x2, e2, rfl, _⟩ := DataW.trod_int Tryd.underlying3 g2
    obtain ⟨x3, e3, rfl, _⟩ := DataW.trod_string Tryd.underlying9 g3
    obtain ⟨x4, e4, rfl⟩ := DataW.trod_bool Tryd.underlying4 g4
    obtain ⟨x6, e6, rfl⟩ := DataW.trod_bool Tryd.underlying4 g6
    obtain ⟨x7, e7, rfl, _⟩ := DataW.trod_string Tryd.underlying9 g7
    obtain ⟨x8, e8, rfl⟩ := DataW.trod_bool Tryd.underlying4 g8
    obtain ⟨x9, e9, rfl, _⟩ := DataW.trod_string Tryd.underlying9 g9
    obtain ⟨d5, p5⟩ := y5
    have hw : (DataW.weightsEach Tryd.prog [3, 4, 3, 9, 4, 44, 4, 9, 4, 9] [DataW.lit (.int .i64 x0), DataW.lit (.bool x1), DataW.lit (.int .i64 x2), DataW.lit (.string x3.data.toList), DataW.lit (.bool x4), d5, DataW.lit (.bool x6), DataW.lit (.string x7.data.toList), DataW.lit (.bool x8), DataW.lit (.string x9.data.toList)]).all (· ≤ reachBytes) = true := by
      simpa [DataW.weights, Tryd.underlying49] using hz
    obtain ⟨T, X, q, R, e5, hT, hX, _⟩ := msg_cells g5 (sized_at hw (j := 5) (t := 44) rfl rfl)
    simp only [List.cons.injEq, and_true] at e0 e1 e2 e3 e4 e5 e6 e7 e8 e9
    obtain ⟨rfl, rfl, rfl, rfl⟩ := e5
    subst e0 e1 e2 e3 e4 e6 e7 e8 e9
    exact ⟨⟨x0, x1, x2, x3, x4, T, X, q, R, x6, x7, x8, x9⟩, rfl, sized_string hw (j := 3) (t := 9) rfl rfl, hT, hX, sized_string hw (j := 7) (t := 9) rfl rfl, sized_string hw (j := 9) (t := 9) rfl rfl⟩

theorem open_con {r : Reach} {b0 : Nat} {v : Value} {d : DataW H} {p : List MemPlace} (hv : Value.okWide Tryd.prog w r b0 49 v) (h : DataW.Trod enc Tryd.prog w base sp held 49 v d p) (hz : (d.weights Tryd.prog 49).all (· ≤ reachBytes) = true) :
    ∃ c : Con, v = .agg c.cells.toArray ∧ c.sized 140737488351232 := by
  obtain ⟨cs, rfl, hsz⟩ := okWide_struct Tryd.underlying49 hv
  obtain ⟨fuel, hf⟩ := h
  obtain ⟨c, hc, h1⟩ := con_cells hf hz
  refine ⟨c, ?_, h1⟩
  have : cs.toList = c.cells := by simpa [Value.cells] using hc
  rw [← Array.toArray_toList (xs := cs), this]
end
end Go.Proofs.YtinfcjnmloglhaaDoor
