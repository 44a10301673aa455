/- What a filter wants: any two texts: the walk. -/
import Derived.Test.YtopopdghmfbciaaDoorMatRef
namespace Go.Proofs.YtopopdghmfbciaaDoor
open Go.RowKit
set_option linter.unusedVariables false
set_option linter.unusedSimpArgs false

set_option maxRecDepth 100000 in
set_option maxHeartbeats 4000000 in
theorem MatchPlays_w (f n : List UInt8) (w : World) (hE : EnvU w) (hf : f.length ≤ 9223372036854775000) (hn : n.length ≤ 9223372036854775000) :
    Calls Tryd.prog 6 #[.string (sOf f), .string (sOf n)] w fun e w' => e = .returned (.bool true) ∧ Below w.heap.size w w' := by
  have HE := hd hE; clear hE
  go_enter Tryd.func6, Tryd.ntmps6
  go_wp2_with fail
  refine (Match_c f n _ HE.out hf hn).mono ?_
  obtain ⟨b1, hb1⟩ : ∃ b, mMatch f n = b := ⟨_, rfl⟩
  rw [hb1]
  have H1 := hd hb1; clear hb1
  rintro e w1 ⟨rfl, hb⟩
  go_wp2_with fail
  refine (refMatch_c f n _ hf hn).mono ?_
  rw [H1.out]
  rintro e w2 ⟨rfl, hb2⟩
  replace hb := Below.up hb hb2
  clear hb2 H1
  have hbb : (b1 == b1) = true := by simp
  go_wp2_with fail
  refine (Wide_c f _ (HE.out.below hb) hf).mono ?_
  obtain ⟨b2, hb1⟩ : ∃ b, mWide f = b := ⟨_, rfl⟩
  rw [hb1]
  have H1 := hd hb1; clear hb1
  rintro e w3 ⟨rfl, hb2⟩
  replace hb := Below.up hb hb2
  clear hb2
  go_wp2_with fail
  refine (refWide_c f _ hf).mono ?_
  rw [H1.out]
  rintro e w4 ⟨rfl, hb2⟩
  replace hb := Below.up hb hb2
  clear hb2 H1 hbb
  have hbb : (b2 == b2) = true := by simp
  go_wp2_with fail
  refine (Covers_c f n _ (HE.out.below hb) hf hn).mono ?_
  obtain ⟨b3, hb1⟩ : ∃ b, mCovers f n = b := ⟨_, rfl⟩
  rw [hb1]
  have H1 := hd hb1; clear hb1
  rintro e w5 ⟨rfl, hb2⟩
  replace hb := Below.up hb hb2
  clear hb2
  go_wp2_with fail
  refine (refCovers_c f n _ hf hn).mono ?_
  rw [H1.out]
  rintro e w6 ⟨rfl, hb2⟩
  replace hb := Below.up hb hb2
  clear hb2 H1 hbb
  have hbb : (b3 == b3) = true := by simp
  go_wp2_with fail
  refine (awake18_c _ (HE.out.below hb)).mono ?_
  rintro e w7 ⟨rfl, hb2⟩
  go_wp2_with fail
  go_ret
  exact ⟨rfl, Below.up hb hb2⟩

theorem MatchPlays_s (a b : ByteArray) (w : World) (hE : EnvU w) (ha : a.size ≤ 140737488351232) (hb : b.size ≤ 140737488351232) :
    Calls Tryd.prog 6 #[.string a, .string b] w fun e w' => e = .returned (.bool true) ∧ Below w.heap.size w w' := by
  have h := MatchPlays_w (sB a) (sB b) w hE (by rw [sB_len]; omega) (by rw [sB_len]; omega)
  rwa [sOf_sBL, sOf_sBL] at h
end Go.Proofs.YtopopdghmfbciaaDoor
