/- Messages: the walks of the small functions. -/
import Derived.Test.YtgafhnomkeiakaaDoorPubPlain
import Derived.Test.YtgafhnomkeiakaaDoorUtf5
import Derived.Lib.ConvBytes
namespace Go.Proofs.YtgafhnomkeiakaaDoor
open Go.RowKit
set_option linter.unusedVariables false

/-- []byte(s) -/
theorem run_bytes (s : ByteArray) (hs : s.size ≤ 140737488355327) (w : World) : ∃ c W', (convert 9 23 (.string s)).run Tryd.prog w = .ok (.slice (some ⟨w.heap.size, 0, none⟩) (sB s).length c) W' ∧ Bs W' (.slice (some ⟨w.heap.size, 0, none⟩) (sB s).length c) (sB s) ∧ Below w.heap.size w W' := by
  have h63 : s.size ≤ maxLen := by unfold maxLen; omega
  refine ⟨grownCap w s.size 0 5, Lib.bytesWorld w 5 s, ?_, ?_, ⟨rfl, rfl, rfl, by rw [Lib.bytesWorld_size]; omega, fun j hj => Lib.bytesWorld_at_old w 5 s j hj⟩⟩
  · rw [sB_len]
    exact Lib.run_convert_string_bytes w 9 23 5 s Tryd.underlying9 Tryd.underlying23 Tryd.underlying5
  · refine ⟨some ⟨w.heap.size, 0, none⟩, _, rfl, by rw [sB_len]; exact grownCap_ge w s.size 0 5, grownCap_le_maxLen w s.size 0 5 h63, (fun e => by cases e), fun ad had j u hu => ?_⟩
    cases had
    have hj : j < s.size := by
      have := (List.getElem?_eq_some_iff.1 hu).1
      rw [List.length_map, sB_len] at this
      exact this
    rw [Go.WideShapes.add_plain, Nat.zero_add, Lib.bytesWorld_cell w 5 s j hj, ← hu]
    have hjl : j < (sB s).length := by rw [sB_len]; exact hj
    have e : (sB s).getD j 0 = (sB s)[j]'hjl := by rw [List.getD_eq_getElem?_getD, List.getElem?_eq_getElem hjl, Option.getD_some]
    rw [List.getElem?_map, List.getElem?_eq_getElem hjl]
    show _ = some (byteV ((sB s)[j]'hjl))
    rw [← e]
    rfl

theorem sB_nil {s : ByteArray} (h : s.size = 0) : s = ⟨#[]⟩ := by
  have : s.data = #[] := Array.eq_empty_of_size_eq_zero h
  cases s
  simp_all
theorem neq_empty (s : ByteArray) : (!s.toList.isEmpty) = !(sB s).isEmpty := by
  rw [ByteArray.toList_eq]
  rfl

def leftOf2 (s : ByteArray) : Value → Nat
  | .int _ k => ((s.size : Int) - k).toNat
  | _ => 0

set_option maxRecDepth 100000 in
set_option maxHeartbeats 1000000 in
theorem refPutId_c (id : Int) (w : World) : Calls Tryd.prog 39 #[.int .i64 id] w (GivesB w (pIdB id) (pIdE id)) := by
  unfold pIdB pIdE
  by_cases h : 1 ≤ id ∧ id ≤ 65535
  · rw [if_pos h, if_pos h]
    obtain ⟨h1, h2⟩ := h
    go_enter Tryd.func39, Tryd.ntmps39
    go_wp2_with fail
    refine (refPut2_c id _).mono ?_
    have hE : uPut2E id = 0 := by unfold uPut2E; rw [if_neg (by omega)]
    rw [hE]
    rintro e w2 ⟨v, rfl, ho, hb⟩
    go_wp2_with fail
    go_ret2
    exact ⟨_, rfl, ho, hb⟩
  · rw [if_neg h, if_neg h]
    have h' : id < 1 ∨ 65535 < id := by omega
    clear h
    rcases h' with h | h
    all_goals
      go_enter Tryd.func39, Tryd.ntmps39
      go_wp2_with fail
      go_ret2
      exact GivesB.nil (by go_grown)

end Go.Proofs.YtgafhnomkeiakaaDoor
