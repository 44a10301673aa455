/- What texts that came in read as. Of no function of the program. -/
import Derived.Test.YtgafhnomkeiakaaDoorSubOpen
import Derived.SliceStrings
namespace Go.Proofs.YtgafhnomkeiakaaDoor
open Go.ChangeShapes Go.WideShapes Go.ChangeAt Go.RowKit
set_option linter.unusedVariables false
set_option linter.unusedSimpArgs false

/-- A slice of texts. -/
def Ts (w : World) (v : Value) (l : List ByteArray) : Prop := Rd w v l.length (l.map Value.string)
theorem Ts.slice {w : World} {v : Value} {l : List ByteArray} (h : Ts w v l) : ∃ a c, v = .slice a l.length c := by
  obtain ⟨a, c, e, _⟩ := h
  exact ⟨a, c, e⟩
theorem Ts.below' {B : Nat} {w w' : World} {v : Value} {l : List ByteArray} (h : Ts w v l) (hb : Below B w w') (hB : w.heap.size ≤ B) : Ts w' v l := Rd.below' h hb hB
theorem Ts.at {w : World} {v : Value} {l : List ByteArray} (h : Ts w v l) {k : Nat} {s : ByteArray} (hk : l[k]? = some s) :
    ∃ b o c, v = .slice (some ⟨b, o, none⟩) l.length c ∧ b < w.heap.size ∧ w.cell? ⟨b, o + k, none⟩ = some (.string s) := by
  rcases Rd.split h with ⟨hx, _⟩ | ⟨hx, b, o, c, rfl, h1, h2, h3, h4⟩
  · have : l = [] := by simpa using hx
    subst this
    simp at hk
  · exact ⟨b, o, c, rfl, h3, h4 k _ (by simp [hk])⟩

set_option maxRecDepth 100000 in
theorem open_texts {H : Type} {enc : TypeId × Value → H} {W : World} {r : Reach} {b0 : Nat} {v : Value} {d : DataW H} {ps : List MemPlace} (hval : Value.okWide Tryd.prog W r b0 65 v)
    (h : DataW.Trod enc Tryd.prog W 0 (fun _ => true) true 65 v d ps) (hz : (d.weights Tryd.prog 65).all (· ≤ reachBytes) = true) : ∃ l : List ByteArray, Ts W v l ∧ (∀ s ∈ l, s.size ≤ 140737488351232) ∧ (v = .slice none 0 0 ∧ l = [] ∨ ∃ sp, d = .slice (strs l) sp) := by
  obtain ⟨a, len, cap, rfl⟩ := okWide_slice Tryd.underlying65 hval
  obtain ⟨fuel, hf⟩ := h
  have hf' : DataW.trod enc Tryd.prog W 0 (fun _ => true) true fuel 65 [.slice a len cap] = some (d, ps) := by simpa [Value.cells] using hf
  rcases open_strings Tryd.underlying65 Tryd.underlying9 (by kernel_rfl) hf' with ⟨hcs, hx⟩ | ⟨ad, len', cap', zs, hcs, _, hl, hm, hz', hx, hcell, hwz⟩
  · simp only [List.cons.injEq, Value.slice.injEq, and_true] at hcs
    obtain ⟨rfl, rfl, rfl⟩ := hcs
    exact ⟨[], Rd.nil W, by simp, .inl ⟨rfl, rfl⟩⟩
  · simp only [List.cons.injEq, Value.slice.injEq, and_true] at hcs
    obtain ⟨rfl, rfl, rfl⟩ := hcs
    simp only [if_true] at hz'
    simp only [Prod.mk.injEq] at hx
    obtain ⟨rfl, _⟩ := hx
    have hlen : (zs.take len).length = len := by simp; omega
    refine ⟨zs.take len, ?_, ?_, .inr ⟨_, rfl⟩⟩
    · unfold Ts
      rw [hlen]
      refine ⟨some ad, cap, rfl, hl, hm, (fun e => by cases e), fun ad' e j u hu => ?_⟩
      cases e
      have hj : j < len := by
        have := (List.getElem?_eq_some_iff.1 hu).1
        simp at this; omega
      have hjz : j < zs.length := by omega
      rw [hcell j hjz, ← hu]
      have e2 : ((zs.take len).map Value.string)[j]? = some (.string (zs[j]'hjz)) := by
        simp [hj, List.getElem?_eq_getElem hjz]
      rw [e2]
      simp [List.getD, hjz]
    · intro s hs
      have hw := weights_slice Tryd.underlying65 hz (d := .lit (.string s.data.toList)) (List.mem_map.2 ⟨s, hs, rfl⟩)
      have hw' : (DataW.weightsEach Tryd.prog [9] [(DataW.lit (.string s.data.toList) : DataW H)]).all (· ≤ reachBytes) = true := by simpa [DataW.weightsEach] using hw
      exact sized_string hw' (j := 0) (t := 9) rfl rfl
end Go.Proofs.YtgafhnomkeiakaaDoor
