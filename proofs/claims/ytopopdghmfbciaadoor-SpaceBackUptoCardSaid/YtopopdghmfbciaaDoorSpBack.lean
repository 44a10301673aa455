/- Spots and topics: there and back: the walk. -/
import Derived.Test.YtopopdghmfbciaaDoorSpOf2
import Derived.Test.YtopopdghmfbciaaDoorSpOpen
import Derived.BigQuiet
namespace Go.Proofs.YtopopdghmfbciaaDoor
open Go.RowKit
set_option linter.unusedVariables false
set_option linter.unusedSimpArgs false

theorem name_len {t : List UInt8} (h : lName t = true) : t.length ≤ 96 := by
  unfold lName at h
  rw [Bool.and_eq_true] at h
  exact (lSized_len h.1).2.1

set_option maxRecDepth 100000 in
set_option maxHeartbeats 4000000 in
theorem SpaceBack_w (s : SpS) (l : List UInt8) (w : World) (hE : EnvU w) (hW : EnvW w) (hs : s.sized) (hl : l.length ≤ 100000000) :
    Calls Tryd.prog 10 #[spV s, .string (sOf l)] w fun e w' => e = .returned (.bool true) ∧ Below w.heap.size w w' := by
  have HE := hd hE; have HW := hd hW
  clear hE hW
  obtain ⟨k, g, n, d⟩ := s
  obtain ⟨a1, a2, a3⟩ := hs
  simp only at a1 a2 a3
  have hnil : (sOf []).toList = [] := toList_sOf _
  have htg := toList_sOf g; have htn := toList_sOf n; have htd := toList_sOf d
  have htl := toList_sOf l
  obtain ⟨t, ee, hp⟩ : ∃ t e, sPut ⟨k, g, n, d⟩ = (t, e) := ⟨_, _, rfl⟩
  have HP := hd hp
  clear hp
  have htt := toList_sOf t
  have hS := SpAt.new w k g n d
  have hb : Below w.heap.size w (w.alloc (.cells #[.int .i64 k, .string (sOf g), .string (sOf n), .string (sOf d)] 33)) := by go_grown
  unfold spV
  go_enter Tryd.func10, Tryd.ntmps10
  go_wp2_with fail
  refine (Put_c ⟨k, g, n, d⟩ _ (HE.out.below hb) (HW.out.below hb (Nat.le_refl _)) (by simp only; omega) (by simp only; omega) (by simp only; omega)).mono ?_
  rw [HP.out]
  rintro e w1 ⟨rfl, hx⟩
  replace hS := hS.keep hx hS.2.2.2.2
  replace hb := Below.up hb hx
  clear hx
  have HS := hd hS
  by_cases he : ee = 0
  · subst he
    have htp := tell_put (s := ⟨k, g, n, d⟩) (by rw [HP.out])
    rw [HP.out] at htp
    simp only at htp
    have HX := hd htp.1
    have HN := hd htp.2
    have htlen := name_len htp.2
    clear htp
    clear htt
    have htt := toList_sOf t
    go_wp2_with fail
    refine wp_region_M (fun W => SpAt W w.heap.size k g n d) 20 [(0, false), (1, false), (2, false), (3, false), (5, false), (4, true), (6, false), (7, false), (8, false), (9, true), (10, false), (11, false), (12, false), (13, false), (14, false), (15, false), (16, false), (17, false), (18, false), (19, false), (20, true)] (by kernel_rfl) (by kernel_rfl) (fun _ _ _ _ h => h) hS ?_
    apply wpM_still (by rfl) (by rfl)
    · intro W hC
      obtain ⟨d0, d1, d2, d3, d4⟩ := hC
      go_simp
      rfl
    go_simp
    apply wpM_still (by rfl) (by rfl)
    · intro W hC
      obtain ⟨d0, d1, d2, d3, d4⟩ := hC
      go_simp
      rfl
    go_simp
    apply wpM_still (by rfl) (by rfl)
    · intro W hC
      obtain ⟨d0, d1, d2, d3, d4⟩ := hC
      go_simp
      rfl
    go_simp
    apply wpM_still (by rfl) (by rfl)
    · intro W hC
      obtain ⟨d0, d1, d2, d3, d4⟩ := hC
      go_simp
      rfl
    go_simp
    apply wpM_still (by rfl) (by rfl)
    · intro W hC
      obtain ⟨d0, d1, d2, d3, d4⟩ := hC
      go_simp
      rfl
    go_simp
    apply wpM_move (by rfl) (by rfl)
    intro K hK
    go_simp
    refine (Of_c t _ (HE.out.below hb.drew) (HW.out.below hb.drew (Nat.le_refl _)) (by omega)).mono ?_
    rw [HX.out]
    rintro e w2 ⟨rfl, hx⟩
    have hSd : SpAt w1.drew w.heap.size k g n d := hS
    replace hS := hSd.keep hx hSd.2.2.2.2
    clear hSd
    replace hb := Below.up hb.drew hx
    clear hx
    simp only [spV]
    go_simp
    refine hK _ _ (fun _ => hS) ?_
    clear hK K
    apply wpM_still (by rfl) (by rfl)
    · intro W hC
      obtain ⟨d0, d1, d2, d3, d4⟩ := hC
      go_simp
      rfl
    go_simp
    apply wpM_still (by rfl) (by rfl)
    · intro W hC
      obtain ⟨d0, d1, d2, d3, d4⟩ := hC
      go_simp
      rfl
    go_simp
    apply wpM_still (by rfl) (by rfl)
    · intro W hC
      obtain ⟨d0, d1, d2, d3, d4⟩ := hC
      go_simp
      rfl
    go_simp
    apply wpM_move (by rfl) (by rfl)
    intro K hK
    go_simp
    refine (Name_c t _ (HE.out.below hb) (by omega)).mono ?_
    rw [HN.out]
    rintro e w3 ⟨rfl, hx⟩
    replace hS := hS.keep hx hS.2.2.2.2
    replace hb := Below.up hb hx
    clear hx
    go_simp
    refine hK _ _ (fun _ => hS) ?_
    clear hK K
    apply wpM_still (by rfl) (by rfl)
    · intro W hC
      obtain ⟨d0, d1, d2, d3, d4⟩ := hC
      go_simp
      rfl
    go_simp
    apply wpM_still (by rfl) (by rfl)
    · intro W hC
      obtain ⟨d0, d1, d2, d3, d4⟩ := hC
      go_simp
      rfl
    go_simp
    apply wpM_still (by rfl) (by rfl)
    · intro W hC
      obtain ⟨d0, d1, d2, d3, d4⟩ := hC
      go_simp
      rfl
    go_simp
    apply wpM_still (by rfl) (by rfl)
    · intro W hC
      obtain ⟨d0, d1, d2, d3, d4⟩ := hC
      go_simp
      rfl
    go_simp
    apply wpM_still (by rfl) (by rfl)
    · intro W hC
      obtain ⟨d0, d1, d2, d3, d4⟩ := hC
      go_simp
      rfl
    go_simp
    apply wpM_still (by rfl) (by rfl)
    · intro W hC
      obtain ⟨d0, d1, d2, d3, d4⟩ := hC
      go_simp
      rfl
    go_simp
    apply wpM_still (by rfl) (by rfl)
    · intro W hC
      obtain ⟨d0, d1, d2, d3, d4⟩ := hC
      go_simp
      rfl
    go_simp
    apply wpM_skip (by rfl) (by rfl)
    go_simp
    apply wpM_skip (by rfl) (by rfl)
    go_simp
    apply wpM_still (by rfl) (by rfl)
    · intro W hC
      obtain ⟨d0, d1, d2, d3, d4⟩ := hC
      go_simp
      rfl
    go_simp
    apply wpM_move (by rfl) (by rfl)
    intro K hK
    go_simp
    refine hK _ _ (fun h => absurd h (by decide)) ?_
    clear hK K
    refine wpM_nil ?_
    clear hS HS
    have HT := hd (tell_cases l)
    have hgl := guess_len (M := l.length) (p := lSplit l) (fun x hx => (lSplit_parts l x hx).2)
    have HZ : Hd ((sTell l).g.length ≤ l.length ∧ (sTell l).n.length ≤ l.length ∧ (sTell l).d.length ≤ l.length) := hd (by
      unfold sTell
      split
      · simp [SpS.zero]
      · exact hgl)
    clear hgl
    go_wp2_with fail
    refine (Of_c l _ (HE.out.below hb) (HW.out.below hb (Nat.le_refl _)) hl).mono ?_
    rintro e w5 ⟨rfl, hx⟩
    replace hb := Below.up hb hx
    clear hx
    obtain ⟨X, hX⟩ : ∃ X, sTell l = X := ⟨_, rfl⟩
    rw [hX] at HT HZ ⊢
    clear hX
    rcases HT.out with hz | ⟨h1, h2, h3⟩
    · subst hz
      simp only [spV, SpS.zero]
      have hb4 : Below w.heap.size w (w5.alloc (.cells #[.int .i64 0, .string (sOf []), .string (sOf []), .string (sOf [])] 33)) := Below.up hb (by go_grown)
      clear HT HZ
      go_wp2_with fail
      refine (awake20_c _ (HE.out.below hb4) (HW.out.below hb4 (Nat.le_refl _))).mono ?_
      rintro e w6 ⟨rfl, hx⟩
      go_wp2_with fail
      go_ret
      exact ⟨rfl, Below.up hb4 hx⟩
    · obtain ⟨kx, gx, nx, dx⟩ := X
      obtain ⟨z1, z2, z3⟩ := HZ.out
      simp only at h1 h2 h3 z1 z2 z3
      have hkz : (kx == 0) = false := by simp; omega
      have hq : sPut ⟨kx, gx, nx, dx⟩ = (l, 0) := by rw [← h1, ← h2]
      have HQ := hd hq
      clear h1 h2 h3 hq HT HZ
      simp only [spV]
      have hXA := SpAt.new w5 kx gx nx dx
      have hb4 : Below w.heap.size w (w5.alloc (.cells #[.int .i64 kx, .string (sOf gx), .string (sOf nx), .string (sOf dx)] 33)) := Below.up hb (by go_grown)
      go_wp2_with fail
      refine (Put_c ⟨kx, gx, nx, dx⟩ _ (HE.out.below hb4) (HW.out.below hb4 (Nat.le_refl _)) (by simp only; omega) (by simp only; omega) (by simp only; omega)).mono ?_
      rw [HQ.out]
      rintro e w6 ⟨rfl, hx⟩
      replace hb4 := Below.up hb4 hx
      clear hx
      have hll : (l == l) = true := by simp
      go_wp2_with fail
      refine (awake20_c _ (HE.out.below hb4) (HW.out.below hb4 (Nat.le_refl _))).mono ?_
      rintro e w7 ⟨rfl, hx⟩
      go_wp2_with fail
      go_ret
      exact ⟨rfl, Below.up hb4 hx⟩
  · have htn0 := put_bad (s := ⟨k, g, n, d⟩) (by rw [HP.out]; exact he)
    rw [HP.out] at htn0
    simp only at htn0
    subst htn0
    have he1 : (ee != 0) = true := by simpa using he
    have he2 : (ee == 0) = false := by simpa using he
    clear he
    obtain ⟨c0, c1, c2, c3, c4⟩ := hS
    go_wp2_with fail
    go_quiet (fail)
    replace hb := below_dn hb nq
    clear c0 c1 c2 c3 c4 HS
    have HT := hd (tell_cases l)
    have hgl := guess_len (M := l.length) (p := lSplit l) (fun x hx => (lSplit_parts l x hx).2)
    have HZ : Hd ((sTell l).g.length ≤ l.length ∧ (sTell l).n.length ≤ l.length ∧ (sTell l).d.length ≤ l.length) := hd (by
      unfold sTell
      split
      · simp [SpS.zero]
      · exact hgl)
    clear hgl
    go_wp2_with fail
    refine (Of_c l _ (HE.out.below hb) (HW.out.below hb (Nat.le_refl _)) hl).mono ?_
    rintro e w5 ⟨rfl, hx⟩
    replace hb := Below.up hb hx
    clear hx
    obtain ⟨X, hX⟩ : ∃ X, sTell l = X := ⟨_, rfl⟩
    rw [hX] at HT HZ ⊢
    clear hX
    rcases HT.out with hz | ⟨h1, h2, h3⟩
    · subst hz
      simp only [spV, SpS.zero]
      have hb4 : Below w.heap.size w (w5.alloc (.cells #[.int .i64 0, .string (sOf []), .string (sOf []), .string (sOf [])] 33)) := Below.up hb (by go_grown)
      clear HT HZ
      go_wp2_with fail
      refine (awake20_c _ (HE.out.below hb4) (HW.out.below hb4 (Nat.le_refl _))).mono ?_
      rintro e w6 ⟨rfl, hx⟩
      go_wp2_with fail
      go_ret
      exact ⟨rfl, Below.up hb4 hx⟩
    · obtain ⟨kx, gx, nx, dx⟩ := X
      obtain ⟨z1, z2, z3⟩ := HZ.out
      simp only at h1 h2 h3 z1 z2 z3
      have hkz : (kx == 0) = false := by simp; omega
      have hq : sPut ⟨kx, gx, nx, dx⟩ = (l, 0) := by rw [← h1, ← h2]
      have HQ := hd hq
      clear h1 h2 h3 hq HT HZ
      simp only [spV]
      have hXA := SpAt.new w5 kx gx nx dx
      have hb4 : Below w.heap.size w (w5.alloc (.cells #[.int .i64 kx, .string (sOf gx), .string (sOf nx), .string (sOf dx)] 33)) := Below.up hb (by go_grown)
      go_wp2_with fail
      refine (Put_c ⟨kx, gx, nx, dx⟩ _ (HE.out.below hb4) (HW.out.below hb4 (Nat.le_refl _)) (by simp only; omega) (by simp only; omega) (by simp only; omega)).mono ?_
      rw [HQ.out]
      rintro e w6 ⟨rfl, hx⟩
      replace hb4 := Below.up hb4 hx
      clear hx
      have hll : (l == l) = true := by simp
      go_wp2_with fail
      refine (awake20_c _ (HE.out.below hb4) (HW.out.below hb4 (Nat.le_refl _))).mono ?_
      rintro e w7 ⟨rfl, hx⟩
      go_wp2_with fail
      go_ret
      exact ⟨rfl, Below.up hb4 hx⟩
theorem SpaceBack_s (s : SpS) (a : ByteArray) (w : World) (hE : EnvU w) (hW : EnvW w) (hs : s.sized) (ha : a.size ≤ 100000000) :
    Calls Tryd.prog 10 #[spV s, .string a] w fun e w' => e = .returned (.bool true) ∧ Below w.heap.size w w' := by
  have h := SpaceBack_w s (sB a) w hE hW hs (by rw [sB_len]; omega)
  rwa [sOf_sBL] at h
end Go.Proofs.YtopopdghmfbciaaDoor
