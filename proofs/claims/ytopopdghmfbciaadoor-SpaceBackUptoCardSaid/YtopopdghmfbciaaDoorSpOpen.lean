/- What spots that came in read as; the words out of a row's list. Of no function of the program. -/
import Derived.Test.YtopopdghmfbciaaDoorSp
import Derived.Test.YtopopdghmfbciaaDoorRowOpen
import Derived.Test.YtopopdghmfbciaaDoorUtfVars
namespace Go.Proofs.YtopopdghmfbciaaDoor
open Go.ChangeShapes Go.WideShapes Go.ChangeAt Go.RowKit
set_option linter.unusedVariables false
set_option linter.unusedSimpArgs false

theorem cells_spot : Tryd.prog.cellsOf 33 = 4 := by kernel_rfl
theorem cells_int : Tryd.prog.cellsOf 3 = 1 := by kernel_rfl
theorem cells_string : Tryd.prog.cellsOf 9 = 1 := by kernel_rfl
section
variable {H : Type} {enc : TypeId × Value → H} {w : World} {base : Nat} {sp : Nat → Bool} {held : Bool}
set_option maxRecDepth 100000 in
theorem spot_cells {n : Nat} {cs : List Value} {d : DataW H} {p : List MemPlace} (h : DataW.trod enc Tryd.prog w base sp held n 33 cs = some (d, p)) (hz : (d.weights Tryd.prog 33).all (· ≤ reachBytes) = true) :
    ∃ (k : Int) (x1 x2 x3 : ByteArray), cs = [.int .i64 k, .string x1, .string x2, .string x3] ∧ x1.size ≤ 140737488351232 ∧ x2.size ≤ 140737488351232 ∧ x3.size ≤ 140737488351232 := by
  obtain ⟨xs, n', _, hx, hlen, hxl, hf⟩ := DataW.trod_struct Tryd.underlying33 h
  simp only [Prod.mk.injEq] at hx
  obtain ⟨rfl, rfl⟩ := hx
  rw [cells_spot] at hlen
  match cs, hlen, xs, hxl with
  | [c0, c1, c2, c3], _, [y0, y1, y2, y3], _ =>
    have g0 : DataW.trod enc Tryd.prog w base sp held n' 3 [c0] = some y0 := by have := hf 0 _ rfl; simpa [cells_int] using this
    have g1 : DataW.trod enc Tryd.prog w base sp held n' 9 [c1] = some y1 := by have := hf 1 _ rfl; simpa [cells_string] using this
    have g2 : DataW.trod enc Tryd.prog w base sp held n' 9 [c2] = some y2 := by have := hf 2 _ rfl; simpa [cells_string] using this
    have g3 : DataW.trod enc Tryd.prog w base sp held n' 9 [c3] = some y3 := by have := hf 3 _ rfl; simpa [cells_string] using this
    obtain ⟨x0, e0, rfl, _⟩ := DataW.trod_int Tryd.underlying3 g0
    obtain ⟨x1, e1, rfl, _⟩ := DataW.trod_string Tryd.underlying9 g1
    obtain ⟨x2, e2, rfl, _⟩ := DataW.trod_string Tryd.underlying9 g2
    obtain ⟨x3, e3, rfl, _⟩ := DataW.trod_string Tryd.underlying9 g3
    have hw : (DataW.weightsEach Tryd.prog [3, 9, 9, 9] [(DataW.lit (.int .i64 x0) : DataW H), DataW.lit (.string x1.data.toList), DataW.lit (.string x2.data.toList), DataW.lit (.string x3.data.toList)]).all (· ≤ reachBytes) = true := by
      simpa [DataW.weights, Tryd.underlying33] using hz
    simp only [List.cons.injEq, and_true] at e0 e1 e2 e3
    subst e0 e1 e2 e3
    exact ⟨x0, x1, x2, x3, rfl, sized_string hw (j := 1) (t := 9) rfl rfl, sized_string hw (j := 2) (t := 9) rfl rfl, sized_string hw (j := 3) (t := 9) rfl rfl⟩

/-- Sizes that a spot's parts keep to. -/
def SpS.sized (s : SpS) : Prop := s.g.length ≤ 140737488351232 ∧ s.n.length ≤ 140737488351232 ∧ s.d.length ≤ 140737488351232
theorem open_spot {r : Reach} {b0 : Nat} {v : Value} {d : DataW H} {p : List MemPlace} (hv : Value.okWide Tryd.prog w r b0 33 v) (h : DataW.Trod enc Tryd.prog w base sp held 33 v d p) (hz : (d.weights Tryd.prog 33).all (· ≤ reachBytes) = true) :
    ∃ s : SpS, v = spV s ∧ s.sized := by
  obtain ⟨cs, rfl, hsz⟩ := okWide_struct Tryd.underlying33 hv
  obtain ⟨fuel, hf⟩ := h
  obtain ⟨k, x1, x2, x3, hc, h1, h2, h3⟩ := spot_cells hf hz
  refine ⟨⟨k, sB x1, sB x2, sB x3⟩, ?_, by unfold SpS.sized; simp only [sB_len]; exact ⟨h1, h2, h3⟩⟩
  have : cs.toList = [.int .i64 k, .string x1, .string x2, .string x3] := by simpa [Value.cells] using hc
  unfold spV
  simp only [sOf_sBL]
  rw [← Array.toArray_toList (xs := cs), this]
end

/-- The words, as a row's list says them. -/
def wordLits : List Lit := wordT.map Lit.string
set_option maxRecDepth 100000 in
theorem envW_of {W : World} {l : List (String × DataW Unit)} (h : laidMetH Tryd.prog l W) (i : Nat) (hi : (l.filter fun x => x.2.handleName?.isNone)[i]? = some ("crier/space.words", .agg (wordLits.map DataW.lit))) : EnvW W := by
  obtain ⟨h1, h2⟩ := laid_lits h i hi (g := 0) (t := 59) (e := 9) (k := 10) (by kernel_rfl) (by kernel_rfl) Tryd.underlying59 (.inr (.inr Tryd.underlying9)) (by kernel_rfl) (by kernel_rfl)
  refine ⟨h1, fun i hi => ?_⟩
  rw [h2 i (by simpa [wordLits, wordT] using hi)]
  match i, hi with
  | 0, _ => rfl
  | 1, _ => rfl
  | 2, _ => rfl
  | 3, _ => rfl
  | 4, _ => rfl
  | 5, _ => rfl
  | 6, _ => rfl
  | 7, _ => rfl
  | 8, _ => rfl
  | 9, _ => rfl
  | n + 10, h => exact absurd h (by omega)
/-- The variables of these laws, laid. -/
def layWords : Obj → Obj
  | .cells _ t frozen => .cells (wordT.map fun x => Value.string (sOf x)).toArray t frozen
  | o => o
def laySp (h : Array Obj) : Array Obj := (layU h).modify 0 layWords
end Go.Proofs.YtopopdghmfbciaaDoor
