/- What numbers that came in read as. Of no function of the program. -/
import Derived.Test.YtgafhnomkeiakaaDoorSubAck
import Derived.Test.YtgafhnomkeiakaaDoorClose
namespace Go.Proofs.YtgafhnomkeiakaaDoor
open Go.ChangeShapes Go.WideShapes Go.ChangeAt Go.RowKit
set_option linter.unusedVariables false
set_option linter.unusedSimpArgs false

set_option maxRecDepth 100000 in
theorem open_nums {H : Type} {enc : TypeId × Value → H} {W : World} {r : Reach} {b0 : Nat} {v : Value} {d : DataW H} {ps : List MemPlace} (hval : Value.okWide Tryd.prog W r b0 31 v)
    (h : DataW.Trod enc Tryd.prog W 0 (fun _ => true) true 31 v d ps) : ∃ l : List Int, Is W v l := by
  obtain ⟨a, len, cap, rfl⟩ := okWide_slice Tryd.underlying31 hval
  obtain ⟨fuel, hf⟩ := h
  have hf' : DataW.trod enc Tryd.prog W 0 (fun _ => true) true fuel 31 [.slice a len cap] = some (d, ps) := by simpa [Value.cells] using hf
  rcases open_ints Tryd.underlying31 Tryd.underlying3 (by kernel_rfl) hf' with ⟨hcs, hx⟩ | ⟨ad, len', cap', zs, hcs, _, hl, hm, hz, hx, hcell, hwz⟩
  · simp only [List.cons.injEq, Value.slice.injEq, and_true] at hcs
    obtain ⟨rfl, rfl, rfl⟩ := hcs
    exact ⟨[], Rd.nil W⟩
  · simp only [List.cons.injEq, Value.slice.injEq, and_true] at hcs
    obtain ⟨rfl, rfl, rfl⟩ := hcs
    simp only [if_true] at hz
    have hlen : (zs.take len).length = len := by simp; omega
    refine ⟨zs.take len, ?_⟩
    unfold Is
    rw [hlen]
    refine ⟨some ad, cap, rfl, hl, hm, (fun e => by cases e), fun ad' e j u hu => ?_⟩
    cases e
    have hj : j < len := by
      have := (List.getElem?_eq_some_iff.1 hu).1
      simp at this; omega
    have hjz : j < zs.length := by omega
    rw [hcell j hjz, ← hu]
    have e2 : ((zs.take len).map iV)[j]? = some (iV (zs[j]'hjz)) := by
      simp [hj, List.getElem?_eq_getElem hjz]
    rw [e2]
    simp [List.getD, hjz, iV]
end Go.Proofs.YtgafhnomkeiakaaDoor
