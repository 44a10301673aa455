/- Messages: what bytes tell, by the reference; the numbers of bytes. -/
import Derived.Test.YtgafhnomkeiakaaDoorPubOf
namespace Go.Proofs.YtgafhnomkeiakaaDoor
open Go.RowKit
set_option linter.unusedVariables false
set_option linter.unusedSimpArgs false

set_option maxRecDepth 100000 in
set_option maxHeartbeats 1000000 in
theorem refOfId_c (b : ByteArray) (w : World) (hs : b.size ≤ 140737488351232) :
    Calls Tryd.prog 59 #[.string b] w fun e w' => e = .returned (.tuple #[.int .i64 (pOfId (sB b)).1, .int .i64 (pOfId (sB b)).2]) ∧ Below w.heap.size w w' := by
  by_cases hl : b.size = 2
  rotate_left
  · have hr : pOfId (sB b) = (0, 4) := by rw [pOfId, sB_len, if_pos hl]
    have hlb : (((b.size : Nat) : Int) != 2) = true := by simp; omega
    rw [hr]
    go_enter Tryd.func59, Tryd.ntmps59
    go_wp2_with fail
    go_ret2
    exact ⟨rfl, by go_grown⟩
  have hlb : (((b.size : Nat) : Int) != 2) = false := by simp; omega
  have hll : (sB b).length = 2 := by rw [sB_len]; exact hl
  obtain ⟨h2, h0, h1⟩ := uGet2_two hll
  obtain ⟨r, hr⟩ : ∃ r, pOfId (sB b) = r := ⟨_, rfl⟩
  rw [hr]
  rw [pOfId, if_neg (by omega)] at hr
  have HR := hd hr
  clear hll hl hr
  go_enter Tryd.func59, Tryd.ntmps59
  go_wp2_with fail
  refine upon_bytes (by omega) fun d1 k1 w1 hs1 hb1 => ?_
  go_wp2_with fail
  refine (refGet2_c _ (sB b) 0 _ hs1).mono ?_
  rw [h2]
  have hr := HR.out; clear HR
  generalize (uGet2 (sB b) 0).1 = id at hr h0 h1 ⊢
  generalize (uGet2 (sB b) 0).2.1 = k
  have HR := hd hr
  clear h2 hr
  rintro e w2 ⟨rfl, hb2⟩
  have hb := Below.up hb1 hb2
  by_cases hid : id = 0
  · subst hid
    go_wp2_with fail
    go_ret2
    rw [← HR.out, if_pos trivial]
    exact ⟨rfl, hb⟩
  have hidb : (id == 0) = false := by simpa using hid
  go_wp2_with fail
  go_ret2
  rw [← HR.out, if_neg hid]
  exact ⟨rfl, hb⟩

end Go.Proofs.YtgafhnomkeiakaaDoor
