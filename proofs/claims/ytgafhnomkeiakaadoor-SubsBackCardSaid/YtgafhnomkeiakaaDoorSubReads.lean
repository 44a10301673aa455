/- The laws of wishes: what is read, there and back: plain law and walks. -/
import Derived.Test.YtgafhnomkeiakaaDoorSubOf
import Derived.Test.YtgafhnomkeiakaaDoorSubAckLaw
namespace Go.Proofs.YtgafhnomkeiakaaDoor
open Go.RowKit
set_option linter.unusedVariables false
set_option linter.unusedSimpArgs false

set_option maxRecDepth 100000 in
set_option maxHeartbeats 4000000 in
theorem SubsReads_w (s : ByteArray) (ends : Bool) (w : World) (hE : EnvU w) (hs : s.size ≤ 140737488351232) :
    Calls Tryd.prog 5 #[.string s, .bool ends] w fun e w' => e = .returned (.bool true) ∧ Below w.heap.size w w' := by
  have HE := hd hE; clear hE
  have h1 := fun W hW => subsOf_c s ends W hW hs
  have h2 := fun W => refSubsOf_c s ends W hs
  generalize sbOf (sB s) ends = R at h1 h2
  obtain ⟨R1, R2, R3⟩ := R
  have H1 := hd h1; have H2 := hd h2; clear h1 h2
  go_enter Tryd.func5, Tryd.ntmps5
  go_wp2_with fail
  refine (H1.out _ HE.out).mono ?_
  rintro e w1 ⟨v1, rfl, ho1, hb1⟩
  go_wp2_with fail
  refine (H2.out _).mono ?_
  rintro e w2 ⟨v2, rfl, ho2, hb2⟩
  have hi1 := ho1.ws.below' hb2 (Nat.le_refl _)
  have hi2 := ho2.ws
  have hb := Below.up hb1 hb2
  clear ho1 ho2 hb1 hb2
  go_wp2_with fail
  refine (same_c v1 v2 R2 _ hi1 hi2).mono ?_
  rintro e w3 ⟨rfl, hb3⟩
  replace hb := Below.up hb hb3
  clear hi1 hi2 hb3
  go_wp2_with fail
  refine (awake15_c _ (HE.out.below hb)).mono ?_
  rintro e w4 ⟨rfl, hb4⟩
  go_wp2_with fail
  go_ret
  exact ⟨ret_bool (by simp), Below.up hb hb4⟩
end Go.Proofs.YtgafhnomkeiakaaDoor
