/- What packets that came in read as. Of no function of the program. -/
import Derived.Test.YtgafhnomkeiakaaDoorRowOpen
import Derived.Test.YtgafhnomkeiakaaDoorFrPk
namespace Go.Proofs.YtgafhnomkeiakaaDoor
open Go.ChangeShapes Go.WideShapes Go.ChangeAt Go.RowKit
set_option linter.unusedVariables false
set_option linter.unusedSimpArgs false

theorem sOf_sB3 (s : ByteArray) : sOf (sB s) = s := by cases s; simp [sOf, sB]
theorem pk_cellsS : Tryd.prog.cellsOf 9 = 1 := by kernel_rfl
theorem pk_cellsI : Tryd.prog.cellsOf 3 = 1 := by kernel_rfl
theorem pk_cellsH : Tryd.prog.cellsOf 52 = 3 := by kernel_rfl
theorem pk_cellsR : Tryd.prog.cellsOf 54 = 4 := by kernel_rfl

section
variable {H : Type} {enc : TypeId × Value → H} {w : World} {base : Nat} {sp : Nat → Bool} {held : Bool}
set_option maxRecDepth 100000 in
theorem raw_cells {n : Nat} {cs : List Value} {d : DataW H} {p : List MemPlace} (h : DataW.trod enc Tryd.prog w base sp held n 54 cs = some (d, p)) (hz : (d.weights Tryd.prog 54).all (· ≤ reachBytes) = true) :
    ∃ x : Pk, cs = pkCells x ∧ x.2.length ≤ 140737488351232 := by
  obtain ⟨xs, n', _, hx, hlen, hxl, hf⟩ := DataW.trod_struct Tryd.underlying54 h
  simp only [Prod.mk.injEq] at hx
  obtain ⟨rfl, rfl⟩ := hx
  rw [pk_cellsR] at hlen
  match cs, hlen, xs, hxl with
  | [c0, c1, c2, c3], _, [y0, y1], _ =>
    have g0 : DataW.trod enc Tryd.prog w base sp held n' 52 [c0, c1, c2] = some y0 := by have := hf 0 _ rfl; simpa [pk_cellsH] using this
    have g1 : DataW.trod enc Tryd.prog w base sp held n' 9 [c3] = some y1 := by have := hf 1 _ rfl; simpa [pk_cellsS] using this
    obtain ⟨B, e3, rfl, _⟩ := DataW.trod_string Tryd.underlying9 g1
    obtain ⟨xs2, n2, _, hx2, hlen2, hxl2, hf2⟩ := DataW.trod_struct Tryd.underlying52 g0
    match xs2, hxl2 with
    | [z0, z1, z2], _ =>
      have k0 : DataW.trod enc Tryd.prog w base sp held n2 3 [c0] = some z0 := by have := hf2 0 _ rfl; simpa [pk_cellsI] using this
      have k1 : DataW.trod enc Tryd.prog w base sp held n2 3 [c1] = some z1 := by have := hf2 1 _ rfl; simpa [pk_cellsI] using this
      have k2 : DataW.trod enc Tryd.prog w base sp held n2 3 [c2] = some z2 := by have := hf2 2 _ rfl; simpa [pk_cellsI] using this
      obtain ⟨x0, e0, rfl, _⟩ := DataW.trod_int Tryd.underlying3 k0
      obtain ⟨x1, e1, rfl, _⟩ := DataW.trod_int Tryd.underlying3 k1
      obtain ⟨x2, e2, rfl, _⟩ := DataW.trod_int Tryd.underlying3 k2
      simp only [List.cons.injEq, and_true] at e0 e1 e2 e3
      subst e0 e1 e2 e3
      have hw : (DataW.weightsEach Tryd.prog [52, 9] [y0.1, (DataW.lit (.string B.data.toList) : DataW H)]).all (· ≤ reachBytes) = true := by
        simpa [DataW.weights, Tryd.underlying54] using hz
      have hB := sized_string hw (j := 1) (t := 9) rfl rfl
      refine ⟨((x0, x1, x2), sB B), ?_, by rw [sB_len]; exact hB⟩
      simp [pkCells, sOf_sB3]
end
theorem pCells_flat : ∀ l : List Pk, pCells l = l.flatMap pkCells
  | [] => rfl
  | x :: t => by rw [pCells, List.flatMap_cons, pCells_flat t]
set_option maxRecDepth 100000 in
theorem open_raws {H : Type} {enc : TypeId × Value → H} {w : World} {r : Reach} {b0 : Nat} {v : Value} {d : DataW H} {ps : List MemPlace} (hval : Value.okWide Tryd.prog w r b0 48 v)
    (h : DataW.Trod enc Tryd.prog w 0 (fun _ => true) true 48 v d ps) (hz : (d.weights Tryd.prog 48).all (· ≤ reachBytes) = true) : ∃ l : List Pk, Ps w v l ∧ ∀ x ∈ l, x.2.length ≤ 140737488351232 := by
  obtain ⟨l, h1, h2⟩ := open_rows pkCells 4 (by decide) (fun _ => rfl) Tryd.underlying48 pk_cellsR (fun x => x.2.length ≤ 140737488351232) (fun n cs d p h hz => raw_cells h hz) hval h hz
  exact ⟨l, by unfold Ps; rw [pCells_flat]; exact h1, h2⟩
end Go.Proofs.YtgafhnomkeiakaaDoor
