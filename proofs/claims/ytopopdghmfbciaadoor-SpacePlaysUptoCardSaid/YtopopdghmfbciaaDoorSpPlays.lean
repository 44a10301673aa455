/- Spots and topics: any topic, any spot: the walk. -/
import Derived.Test.YtopopdghmfbciaaDoorSpOf2
import Derived.Test.YtopopdghmfbciaaDoorSpOpen
namespace Go.Proofs.YtopopdghmfbciaaDoor
open Go.RowKit
set_option linter.unusedVariables false
set_option linter.unusedSimpArgs false

set_option maxRecDepth 100000 in
set_option maxHeartbeats 4000000 in
theorem SpacePlays_w (l : List UInt8) (s : SpS) (w : World) (hE : EnvU w) (hW : EnvW w) (hs : s.sized) (hl : l.length ≤ 100000000) :
    Calls Tryd.prog 13 #[.string (sOf l), spV s] w fun e w' => e = .returned (.bool true) ∧ Below w.heap.size w w' := by
  have HE := hd hE; have HW := hd hW
  clear hE hW
  obtain ⟨k, g, n, d⟩ := s
  obtain ⟨a1, a2, a3⟩ := hs
  simp only at a1 a2 a3
  obtain ⟨t, ee, hp⟩ : ∃ t e, sPut ⟨k, g, n, d⟩ = (t, e) := ⟨_, _, rfl⟩
  obtain ⟨p, q, hbi⟩ : ∃ p q, sBirths ⟨k, g, n, d⟩ = (p, q) := ⟨_, _, rfl⟩
  obtain ⟨X, hX⟩ : ∃ X, sTell l = X := ⟨_, rfl⟩
  obtain ⟨kx, gx, nx, dx⟩ := X
  have HP := hd hp; have HBI := hd hbi; have HX := hd hX
  clear hp hbi hX
  have htt := toList_sOf t; have htp := toList_sOf p; have htq := toList_sOf q
  have hpp : (p == p) = true := by simp
  have hqq : (q == q) = true := by simp
  have htn : (t != t) = false := by simp
  have hen : (ee != ee) = false := by simp
  have hS := SpAt.new w k g n d
  have hb : Below w.heap.size w (w.alloc (.cells #[.int .i64 k, .string (sOf g), .string (sOf n), .string (sOf d)] 33)) := by go_grown
  unfold spV
  go_enter Tryd.func13, Tryd.ntmps13
  go_wp2_with fail
  refine (Put_c ⟨k, g, n, d⟩ _ (HE.out.below hb) (HW.out.below hb (Nat.le_refl _)) (by simp only; omega) (by simp only; omega) (by simp only; omega)).mono ?_
  rw [HP.out]
  rintro e w1 ⟨rfl, hx⟩
  replace hS := hS.keep hx hS.2.2.2.2
  replace hb := Below.up hb hx
  clear hx
  have HS := hd hS
  obtain ⟨c0, c1, c2, c3, c4⟩ := hS
  go_wp2_with fail
  refine (refPut_c ⟨k, g, n, d⟩ _ (by simp only; omega) (by simp only; omega) (by simp only; omega)).mono ?_
  rw [HP.out]
  rintro e w2 ⟨rfl, hx⟩
  have hS := HS.out.keep hx HS.out.2.2.2.2
  replace hb := Below.up hb hx
  clear hx HS c0 c1 c2 c3 c4
  have HS := hd hS
  clear hS
  go_wp2_with fail
  refine (Of_c l _ (HE.out.below hb) (HW.out.below hb (Nat.le_refl _)) hl).mono ?_
  rw [HX.out]
  rintro e w3 ⟨rfl, hx⟩
  replace HS := hd (HS.out.keep hx HS.out.2.2.2.2)
  replace hb := Below.up hb hx
  clear hx
  simp only [spV]
  go_wp2_with fail
  refine (refOf_c l _ hl).mono ?_
  rw [HX.out]
  rintro e w4 ⟨rfl, hx⟩
  replace HS := hd (HS.out.keep hx HS.out.2.2.2.2)
  replace hb := Below.up hb hx
  clear hx
  simp only [spV]
  have hS := HS.out
  obtain ⟨c0, c1, c2, c3, c4⟩ := hS
  go_wp2_with fail
  refine (Births_c ⟨k, g, n, d⟩ _ (HE.out.below hb) (HW.out.below hb (Nat.le_refl _)) (by simp only; omega) (by simp only; omega) (by simp only; omega)).mono ?_
  rw [HBI.out]
  rintro e w5 ⟨rfl, hx⟩
  have hS := HS.out.keep hx HS.out.2.2.2.2
  replace hb := Below.up hb hx
  clear hx HS c0 c1 c2 c3 c4
  have HS := hd hS
  obtain ⟨c0, c1, c2, c3, c4⟩ := hS
  go_wp2_with fail
  refine (refBirths_c ⟨k, g, n, d⟩ _ (by simp only; omega) (by simp only; omega) (by simp only; omega)).mono ?_
  rw [HBI.out]
  rintro e w6 ⟨rfl, hx⟩
  replace hb := Below.up hb hx
  clear hx HS c0 c1 c2 c3 c4
  go_wp2_with fail
  refine (awake20_c _ (HE.out.below hb) (HW.out.below hb (Nat.le_refl _))).mono ?_
  rintro e w7 ⟨rfl, hx⟩
  go_wp2_with fail
  go_ret
  exact ⟨rfl, Below.up hb hx⟩
theorem SpacePlays_s (a : ByteArray) (s : SpS) (w : World) (hE : EnvU w) (hW : EnvW w) (hs : s.sized) (ha : a.size ≤ 100000000) :
    Calls Tryd.prog 13 #[.string a, spV s] w fun e w' => e = .returned (.bool true) ∧ Below w.heap.size w w' := by
  have h := SpacePlays_w (sB a) s w hE hW hs (by rw [sB_len]; omega)
  rwa [sOf_sBL] at h
end Go.Proofs.YtopopdghmfbciaaDoor
