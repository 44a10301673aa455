/- What texts that came in read as: in lists of bytes. Of no function of the program. -/
import Derived.Test.YtopopdghmfbciaaDoorTxts
import Derived.Test.YtopopdghmfbciaaDoorLevJoin
import Derived.Test.YtopopdghmfbciaaDoorRowOpen
import Derived.SliceStrings
namespace Go.Proofs.YtopopdghmfbciaaDoor
open Go.ChangeShapes Go.WideShapes Go.ChangeAt Go.RowKit
set_option linter.unusedVariables false
set_option linter.unusedSimpArgs false

set_option maxRecDepth 100000 in
theorem open_texts {H : Type} {enc : TypeId × Value → H} {W : World} {r : Reach} {b0 : Nat} {v : Value} {d : DataW H} {ps : List MemPlace} (hval : Value.okWide Tryd.prog W r b0 26 v)
    (h : DataW.Trod enc Tryd.prog W 0 (fun _ => true) true 26 v d ps) (hz : (d.weights Tryd.prog 26).all (· ≤ reachBytes) = true) : ∃ l : List ByteArray, Ls W v (l.map sB) ∧ (∀ s ∈ l, s.size ≤ 140737488351232) ∧ (v = .slice none 0 0 ∧ l = [] ∨ ∃ sp, d = .slice (strs l) sp) := by
  obtain ⟨a, len, cap, rfl⟩ := okWide_slice Tryd.underlying26 hval
  obtain ⟨fuel, hf⟩ := h
  have hf' : DataW.trod enc Tryd.prog W 0 (fun _ => true) true fuel 26 [.slice a len cap] = some (d, ps) := by simpa [Value.cells] using hf
  rcases open_strings Tryd.underlying26 Tryd.underlying9 (by kernel_rfl) hf' with ⟨hcs, hx⟩ | ⟨ad, len', cap', zs, hcs, _, hl, hm, hz', hx, hcell, hwz⟩
  · simp only [List.cons.injEq, Value.slice.injEq, and_true] at hcs
    obtain ⟨rfl, rfl, rfl⟩ := hcs
    exact ⟨[], Rd.nil W, by simp, .inl ⟨rfl, rfl⟩⟩
  · simp only [List.cons.injEq, Value.slice.injEq, and_true] at hcs
    obtain ⟨rfl, rfl, rfl⟩ := hcs
    simp only [if_true] at hz'
    simp only [Prod.mk.injEq] at hx
    obtain ⟨rfl, _⟩ := hx
    have hlen : ((zs.take len).map sB).length = len := by simp; omega
    refine ⟨zs.take len, ?_, ?_, .inr ⟨_, rfl⟩⟩
    · unfold Ls
      rw [hlen]
      refine ⟨some ad, cap, rfl, hl, hm, (fun e => by cases e), fun ad' e j u hu => ?_⟩
      cases e
      have hj : j < len := by
        have := (List.getElem?_eq_some_iff.1 hu).1
        simp at this; omega
      have hjz : j < zs.length := by omega
      rw [hcell j hjz, ← hu]
      have e2 : (((zs.take len).map sB).map txV)[j]? = some (.string (zs[j]'hjz)) := by
        simp [hj, List.getElem?_eq_getElem hjz, txV, sOf_sBL]
      rw [e2]
      simp [List.getD, hjz]
    · intro s hs
      have hw := rows_weights Tryd.underlying26 hz (d := .lit (.string s.data.toList)) (List.mem_map.2 ⟨s, hs, rfl⟩)
      have hw' : (DataW.weightsEach Tryd.prog [9] [(DataW.lit (.string s.data.toList) : DataW H)]).all (· ≤ reachBytes) = true := by simpa [DataW.weightsEach] using hw
      exact sized_string hw' (j := 0) (t := 9) rfl rfl

def tot1 (l : List ByteArray) : Nat := (l.map fun s => s.size + 1).sum
theorem strs_bulk1 {H : Type} : ∀ l : List ByteArray, tot1 l ≤ Rows.uptoBulkAll (strs l : List (DataW H))
  | [] => by simp [tot1]
  | s :: t => by
    have ih := strs_bulk1 (H := H) t
    have e : (s.data.toList).length = s.size := Array.length_toList
    have e1 : tot1 (s :: t) = s.size + 1 + tot1 t := by simp [tot1]
    have e2 : Rows.uptoBulkAll (strs (s :: t) : List (DataW H)) = (s.data.toList.length + 1) + Rows.uptoBulkAll (strs t : List (DataW H)) := by
      simp [strs, Rows.uptoBulkAll, Rows.uptoBulk]
    rw [e1, e2, e]
    omega
theorem tail_tot : ∀ l : List ByteArray, (Lib.joinTail [47] (l.map sB)).length = tot1 l
  | [] => rfl
  | s :: t => by
    have ih := tail_tot t
    unfold Lib.joinTail tot1 at *
    simp only [List.map_cons, List.flatten_cons, List.length_append, List.length_cons, List.length_nil, List.sum_cons, ih, sB_len]
    omega
theorem join_tot (l : List ByteArray) : (lJoin (l.map sB)).length ≤ tot1 l := by
  cases l with
  | nil => simp [lJoin, Lib.join_nil]
  | cons s t =>
    rw [List.map_cons, lJoin_cons, List.length_append, tail_tot, sB_len]
    simp [tot1]
theorem len_tot : ∀ l : List ByteArray, l.length ≤ tot1 l
  | [] => by simp [tot1]
  | s :: t => by
    have := len_tot t
    simp [tot1] at *
    omega
theorem texts_bulk {H : Type} {d : DataW H} {l : List ByteArray} {v : Value} (h : v = .slice none 0 0 ∧ l = [] ∨ ∃ sp, d = .slice (strs l) sp) : (lJoin (l.map sB)).length ≤ Rows.uptoBulk d ∧ (l.map sB).length ≤ Rows.uptoBulk d := by
  have hj := join_tot l
  have hl := len_tot l
  have : tot1 l ≤ Rows.uptoBulk d := by
    rcases h with ⟨_, rfl⟩ | ⟨sp, rfl⟩
    · simp [tot1]
    · have := strs_bulk1 (H := H) l
      rw [Rows.uptoBulk]
      omega
  rw [List.length_map]
  exact ⟨by omega, by omega⟩
end Go.Proofs.YtopopdghmfbciaaDoor
