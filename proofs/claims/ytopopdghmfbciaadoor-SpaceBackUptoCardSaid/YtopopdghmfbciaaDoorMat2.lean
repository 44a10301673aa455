/- What a filter wants: Match, Wide, Covers: the walks of the program. -/
import Derived.Test.YtopopdghmfbciaaDoorMat
import Derived.Laws.EntriesVeiled
namespace Go.Proofs.YtopopdghmfbciaaDoor
open Go.RowKit
set_option linter.unusedVariables false
set_option linter.unusedSimpArgs false

set_option maxRecDepth 100000 in
set_option maxHeartbeats 4000000 in
theorem alongM_c (p q : List (List UInt8)) (va vb : Value) (w : World) (hpl : p.length ≤ 100000000) (hql : q.length ≤ 100000000) (ha : Ls w va p) (hb : Ls w vb q) :
    Calls Tryd.prog 48 #[va, vb, .func (.func 49) #[] #[]] w fun e w' => e = .returned (.bool (alongL holdM p q)) ∧ Below w.heap.size w w' := by
  have hF : ∀ W : World, AlongE 49 p q va vb w.heap.size (w.heap.size + 1) (w.heap.size + 1 + 1) (w.heap.size + 1 + 1 + 1) W →
      Calls Tryd.prog 66 #[.int .i64 0, .pointer (some ⟨w.heap.size, 0, none⟩), .pointer (some ⟨w.heap.size + 1, 0, none⟩), .pointer (some ⟨w.heap.size + 1 + 1, 0, none⟩), .pointer (some ⟨w.heap.size + 1 + 1 + 1, 0, none⟩)] W fun e w' => e = .returned (.bool (alongL holdM p q)) ∧ ∃ m, w' = W.drewN m := fun W hW => by
    have h := along1M_c p q va vb w.heap.size (w.heap.size + 1) (w.heap.size + 1 + 1) (w.heap.size + 1 + 1 + 1) hpl hql p.length 0 W (by omega) (by omega) (by omega) hW
    simpa using h
  obtain ⟨aa, ac, rfl⟩ := ha.slice
  obtain ⟨ba, bc, rfl⟩ := hb.slice
  have HF := hd hF; have HA := hd ha; have HB := hd hb
  clear hF ha hb
  go_enter Tryd.func48, Tryd.ntmps48
  go_wp2_with fail
  refine (HF.out _ ⟨by simp [go_sem], by simp [go_sem], by simp [go_sem], by simp [go_sem], HA.out.below' (by go_grown) (Nat.le_refl _), HB.out.below' (by go_grown) (Nat.le_refl _)⟩).mono ?_
  rintro e w' ⟨rfl, m, rfl⟩
  go_wp2_with fail
  go_ret
  exact ⟨rfl, below_dn (by go_grown) m⟩

set_option maxRecDepth 100000 in
set_option maxHeartbeats 4000000 in
theorem alongC_c (p q : List (List UInt8)) (va vb : Value) (w : World) (hpl : p.length ≤ 100000000) (hql : q.length ≤ 100000000) (ha : Ls w va p) (hb : Ls w vb q) :
    Calls Tryd.prog 48 #[va, vb, .func (.func 54) #[] #[]] w fun e w' => e = .returned (.bool (alongL holdC p q)) ∧ Below w.heap.size w w' := by
  have hF : ∀ W : World, AlongE 54 p q va vb w.heap.size (w.heap.size + 1) (w.heap.size + 1 + 1) (w.heap.size + 1 + 1 + 1) W →
      Calls Tryd.prog 66 #[.int .i64 0, .pointer (some ⟨w.heap.size, 0, none⟩), .pointer (some ⟨w.heap.size + 1, 0, none⟩), .pointer (some ⟨w.heap.size + 1 + 1, 0, none⟩), .pointer (some ⟨w.heap.size + 1 + 1 + 1, 0, none⟩)] W fun e w' => e = .returned (.bool (alongL holdC p q)) ∧ ∃ m, w' = W.drewN m := fun W hW => by
    have h := along1C_c p q va vb w.heap.size (w.heap.size + 1) (w.heap.size + 1 + 1) (w.heap.size + 1 + 1 + 1) hpl hql p.length 0 W (by omega) (by omega) (by omega) hW
    simpa using h
  obtain ⟨aa, ac, rfl⟩ := ha.slice
  obtain ⟨ba, bc, rfl⟩ := hb.slice
  have HF := hd hF; have HA := hd ha; have HB := hd hb
  clear hF ha hb
  go_enter Tryd.func48, Tryd.ntmps48
  go_wp2_with fail
  refine (HF.out _ ⟨by simp [go_sem], by simp [go_sem], by simp [go_sem], by simp [go_sem], HA.out.below' (by go_grown) (Nat.le_refl _), HB.out.below' (by go_grown) (Nat.le_refl _)⟩).mono ?_
  rintro e w' ⟨rfl, m, rfl⟩
  go_wp2_with fail
  go_ret
  exact ⟨rfl, below_dn (by go_grown) m⟩

set_option maxRecDepth 100000 in
set_option maxHeartbeats 4000000 in
theorem begin_c (f o : List UInt8) (w : World) (hf : f ≠ []) (hl : f.length ≤ 9223372036854775000) : Calls Tryd.prog 47 #[.string (sOf f), .string (sOf o)] w fun e w' => e = .returned (.agg #[.bool (begW f), .bool (lHidden o)]) ∧ Below w.heap.size w w' := by
  have hl1 : 1 ≤ f.length := List.length_pos_iff.2 hf
  have hsl : ∀ W : World, (Instr.slice 9 (.string (sOf f)) none (some (.int .i64 1)) none).run Tryd.prog W = .ok (.string (sOf (f.take 1))) W := fun W => sl_to f 1 hl1 hl W
  have htl := toList_sOf (f.take 1)
  obtain ⟨r, hr⟩ : ∃ r, begW f = r := ⟨_, rfl⟩
  rw [hr]
  unfold begW at hr
  generalize f.take 1 = g at *
  have Hr := hd hr; clear hr
  cases e43 : (g == [43])
  · have hr := Hr.out; rw [e43, Bool.false_or] at hr
    clear Hr
    go_enter Tryd.func47, Tryd.ntmps47
    go_wp2_with fail
    refine wp_region_M (fun _ => True) 11 [(0, false), (1, false), (2, false), (3, false), (4, false), (5, false), (6, false), (7, false), (8, false), (9, true), (10, false), (11, true)] (by kernel_rfl) (by kernel_rfl) (fun _ _ _ _ h => h) trivial ?_
    iterate 9
      apply wpM_still (by rfl) (by rfl)
      · intro W hC
        go_simp
        rfl
      go_simp
    apply wpM_move (by rfl) (by rfl)
    intro K hK
    go_simp
    refine (Hidden_c o _).mono ?_
    rintro e w' ⟨rfl, rfl⟩
    refine hK _ _ (fun _ => trivial) ?_
    clear hK K
    go_simp
    apply wpM_still (by rfl) (by rfl)
    · intro W hC
      go_simp
      rfl
    go_simp
    apply wpM_move (by rfl) (by rfl)
    intro K hK
    go_simp
    refine hK _ _ (fun h => absurd h (by decide)) ?_
    clear hK K
    refine wpM_nil ?_
    go_wp2_with fail
    exact bodyPost_ret (v := .agg #[.bool r, .bool (lHidden o)]) (by simp [results, Tryd.results47, go_sem]) rfl ⟨rfl, by go_grown⟩
  · have hr := Hr.out; rw [e43, Bool.true_or] at hr
    subst hr
    clear Hr
    go_enter Tryd.func47, Tryd.ntmps47
    go_wp2_with fail
    refine wp_region_M (fun _ => True) 11 [(0, false), (1, false), (2, false), (3, false), (4, false), (5, false), (6, false), (7, false), (8, false), (9, true), (10, false), (11, true)] (by kernel_rfl) (by kernel_rfl) (fun _ _ _ _ h => h) trivial ?_
    iterate 4
      apply wpM_still (by rfl) (by rfl)
      · intro W hC
        go_simp
        rfl
      go_simp
    iterate 3
      apply wpM_skip (by rfl) (by rfl)
      go_simp
    iterate 2
      apply wpM_still (by rfl) (by rfl)
      · intro W hC
        go_simp
        rfl
      go_simp
    apply wpM_move (by rfl) (by rfl)
    intro K hK
    go_simp
    refine (Hidden_c o _).mono ?_
    rintro e w' ⟨rfl, rfl⟩
    refine hK _ _ (fun _ => trivial) ?_
    clear hK K
    go_simp
    apply wpM_still (by rfl) (by rfl)
    · intro W hC
      go_simp
      rfl
    go_simp
    apply wpM_move (by rfl) (by rfl)
    intro K hK
    go_simp
    refine hK _ _ (fun h => absurd h (by decide)) ?_
    clear hK K
    refine wpM_nil ?_
    go_wp2_with fail
    exact bodyPost_ret (v := .agg #[.bool true, .bool (lHidden o)]) (by simp [results, Tryd.results47, go_sem]) rfl ⟨rfl, by go_grown⟩

set_option maxRecDepth 100000 in
set_option maxHeartbeats 4000000 in
theorem Match_c (f n : List UInt8) (w : World) (hE : EnvU w) (hf : f.length ≤ 9223372036854775000) (hn : n.length ≤ 9223372036854775000) :
    Calls Tryd.prog 18 #[.string (sOf f), .string (sOf n)] w fun e w' => e = .returned (.bool (mMatch f n)) ∧ Below w.heap.size w w' := by
  have HE := hd hE; clear hE
  obtain ⟨r, hr⟩ : ∃ r, mMatch f n = r := ⟨_, rfl⟩
  rw [hr]
  unfold mMatch at hr
  have Hr := hd hr; clear hr
  go_enter Tryd.func18, Tryd.ntmps18
  go_wp2_with fail
  refine (Filter_c f _ HE.out hf).mono ?_
  rintro e w1 ⟨rfl, hb1⟩
  cases hu : lFilter f
  · have hr := Hr.out; rw [hu, Bool.false_and] at hr; subst hr; clear Hr
    go_wp2_with fail
    go_ret
    exact ⟨rfl, hb1⟩
  have hfs : lSized f = true := by unfold lFilter at hu; exact (Bool.and_eq_true _ _ ▸ hu).1
  obtain ⟨f0, f96, f12⟩ := lSized_len hfs
  have H1 := hd (show (lName n && (!(begW f && lHidden n) && alongL holdM (lSplit f) (lSplit n))) = r by have hr := Hr.out; rw [hu, Bool.true_and] at hr; exact hr)
  clear Hr hu hfs
  go_wp2_with fail
  refine (Name_c n _ (HE.out.below hb1) hn).mono ?_
  rintro e w2 ⟨rfl, hb2⟩
  replace hb1 := Below.up hb1 hb2
  clear hb2
  cases hu : lName n
  · have hr := H1.out; rw [hu, Bool.false_and] at hr; subst hr; clear H1
    go_wp2_with fail
    go_ret
    exact ⟨rfl, hb1⟩
  have hns : lSized n = true := by unfold lName at hu; exact (Bool.and_eq_true _ _ ▸ hu).1
  obtain ⟨n0, n96, n12⟩ := lSized_len hns
  have H2 := hd (show (!(begW f && lHidden n) && alongL holdM (lSplit f) (lSplit n)) = r by have hr := H1.out; rw [hu, Bool.true_and] at hr; exact hr)
  clear H1 hu hns
  go_wp2_with fail
  refine (begin_c f n _ f0 hf).mono ?_
  rintro e w3 ⟨rfl, hb2⟩
  replace hb1 := Below.up hb1 hb2
  clear hb2
  cases hbw : (begW f && lHidden n)
  rotate_left
  · have hr := H2.out; rw [hbw] at hr
    have hr2 : false = r := hr
    subst hr2; clear H2 hr
    have h9 : begW f = true ∧ lHidden n = true := by simpa using hbw
    obtain ⟨h8, h9⟩ := h9
    clear hbw
    go_wp2_with fail
    go_ret
    exact ⟨rfl, hb1⟩
  have H3 := hd (show alongL holdM (lSplit f) (lSplit n) = r by have hr := H2.out; rw [hbw] at hr; simpa using hr)
  have HBW := hd hbw
  clear H2 hbw
  have key : (begW f = false ∧ True) ∨ (begW f = true ∧ lHidden n = false) := by
    have := HBW.out
    cases h : begW f
    · exact .inl ⟨rfl, trivial⟩
    · rw [h] at this; exact .inr ⟨rfl, by simpa using this⟩
  rcases key with ⟨h8, -⟩ | ⟨h8, h9⟩
  · go_wp2_with fail
    refine (Split_c f _ (by omega)).mono ?_
    rintro e w4 ⟨v4, rfl, ho4, hb2⟩
    replace hb1 := Below.up hb1 hb2
    have L4 := ho4.ls
    have HL4 := hd L4
    clear hb2 ho4 L4
    go_wp2_with fail
    refine (Split_c n _ (by omega)).mono ?_
    rintro e w5 ⟨v5, rfl, ho5, hb2⟩
    have L4 := HL4.out.below' hb2 (Nat.le_refl _)
    replace hb1 := Below.up hb1 hb2
    have L5 := ho5.ls
    have HL4 := hd L4; have HL5 := hd L5
    clear hb2 ho5 L4 L5
    go_wp2_with fail
    refine (alongM_c _ _ _ _ _ (by omega) (by omega) HL4.out HL5.out).mono ?_
    rintro e w6 ⟨rfl, hb2⟩
    replace hb1 := Below.up hb1 hb2
    rw [H3.out]
    go_wp2_with fail
    go_ret
    exact ⟨rfl, hb1⟩
  · go_wp2_with fail
    refine (Split_c f _ (by omega)).mono ?_
    rintro e w4 ⟨v4, rfl, ho4, hb2⟩
    replace hb1 := Below.up hb1 hb2
    have L4 := ho4.ls
    have HL4 := hd L4
    clear hb2 ho4 L4
    go_wp2_with fail
    refine (Split_c n _ (by omega)).mono ?_
    rintro e w5 ⟨v5, rfl, ho5, hb2⟩
    have L4 := HL4.out.below' hb2 (Nat.le_refl _)
    replace hb1 := Below.up hb1 hb2
    have L5 := ho5.ls
    have HL4 := hd L4; have HL5 := hd L5
    clear hb2 ho5 L4 L5
    go_wp2_with fail
    refine (alongM_c _ _ _ _ _ (by omega) (by omega) HL4.out HL5.out).mono ?_
    rintro e w6 ⟨rfl, hb2⟩
    replace hb1 := Below.up hb1 hb2
    rw [H3.out]
    go_wp2_with fail
    go_ret
    exact ⟨rfl, hb1⟩

set_option maxRecDepth 100000 in
set_option maxHeartbeats 4000000 in
theorem Covers_c (f n : List UInt8) (w : World) (hE : EnvU w) (hf : f.length ≤ 9223372036854775000) (hn : n.length ≤ 9223372036854775000) :
    Calls Tryd.prog 25 #[.string (sOf f), .string (sOf n)] w fun e w' => e = .returned (.bool (mCovers f n)) ∧ Below w.heap.size w w' := by
  have HE := hd hE; clear hE
  obtain ⟨r, hr⟩ : ∃ r, mCovers f n = r := ⟨_, rfl⟩
  rw [hr]
  unfold mCovers at hr
  have Hr := hd hr; clear hr
  go_enter Tryd.func25, Tryd.ntmps25
  go_wp2_with fail
  refine (Filter_c f _ HE.out hf).mono ?_
  rintro e w1 ⟨rfl, hb1⟩
  cases hu : lFilter f
  · have hr := Hr.out; rw [hu, Bool.false_and] at hr; subst hr; clear Hr
    go_wp2_with fail
    go_ret
    exact ⟨rfl, hb1⟩
  have hfs : lSized f = true := by unfold lFilter at hu; exact (Bool.and_eq_true _ _ ▸ hu).1
  obtain ⟨f0, f96, f12⟩ := lSized_len hfs
  have H1 := hd (show (lFilter n && (!(begW f && lHidden n) && alongL holdC (lSplit f) (lSplit n))) = r by have hr := Hr.out; rw [hu, Bool.true_and] at hr; exact hr)
  clear Hr hu hfs
  go_wp2_with fail
  refine (Filter_c n _ (HE.out.below hb1) hn).mono ?_
  rintro e w2 ⟨rfl, hb2⟩
  replace hb1 := Below.up hb1 hb2
  clear hb2
  cases hu : lFilter n
  · have hr := H1.out; rw [hu, Bool.false_and] at hr; subst hr; clear H1
    go_wp2_with fail
    go_ret
    exact ⟨rfl, hb1⟩
  have hns : lSized n = true := by unfold lFilter at hu; exact (Bool.and_eq_true _ _ ▸ hu).1
  obtain ⟨n0, n96, n12⟩ := lSized_len hns
  have H2 := hd (show (!(begW f && lHidden n) && alongL holdC (lSplit f) (lSplit n)) = r by have hr := H1.out; rw [hu, Bool.true_and] at hr; exact hr)
  clear H1 hu hns
  go_wp2_with fail
  refine (begin_c f n _ f0 hf).mono ?_
  rintro e w3 ⟨rfl, hb2⟩
  replace hb1 := Below.up hb1 hb2
  clear hb2
  cases hbw : (begW f && lHidden n)
  rotate_left
  · have hr := H2.out; rw [hbw] at hr
    have hr2 : false = r := hr
    subst hr2; clear H2 hr
    have h9 : begW f = true ∧ lHidden n = true := by simpa using hbw
    obtain ⟨h8, h9⟩ := h9
    clear hbw
    go_wp2_with fail
    go_ret
    exact ⟨rfl, hb1⟩
  have H3 := hd (show alongL holdC (lSplit f) (lSplit n) = r by have hr := H2.out; rw [hbw] at hr; simpa using hr)
  have HBW := hd hbw
  clear H2 hbw
  have key : (begW f = false ∧ True) ∨ (begW f = true ∧ lHidden n = false) := by
    have := HBW.out
    cases h : begW f
    · exact .inl ⟨rfl, trivial⟩
    · rw [h] at this; exact .inr ⟨rfl, by simpa using this⟩
  rcases key with ⟨h8, -⟩ | ⟨h8, h9⟩
  · go_wp2_with fail
    refine (Split_c f _ (by omega)).mono ?_
    rintro e w4 ⟨v4, rfl, ho4, hb2⟩
    replace hb1 := Below.up hb1 hb2
    have L4 := ho4.ls
    have HL4 := hd L4
    clear hb2 ho4 L4
    go_wp2_with fail
    refine (Split_c n _ (by omega)).mono ?_
    rintro e w5 ⟨v5, rfl, ho5, hb2⟩
    have L4 := HL4.out.below' hb2 (Nat.le_refl _)
    replace hb1 := Below.up hb1 hb2
    have L5 := ho5.ls
    have HL4 := hd L4; have HL5 := hd L5
    clear hb2 ho5 L4 L5
    go_wp2_with fail
    refine (alongC_c _ _ _ _ _ (by omega) (by omega) HL4.out HL5.out).mono ?_
    rintro e w6 ⟨rfl, hb2⟩
    replace hb1 := Below.up hb1 hb2
    rw [H3.out]
    go_wp2_with fail
    go_ret
    exact ⟨rfl, hb1⟩
  · go_wp2_with fail
    refine (Split_c f _ (by omega)).mono ?_
    rintro e w4 ⟨v4, rfl, ho4, hb2⟩
    replace hb1 := Below.up hb1 hb2
    have L4 := ho4.ls
    have HL4 := hd L4
    clear hb2 ho4 L4
    go_wp2_with fail
    refine (Split_c n _ (by omega)).mono ?_
    rintro e w5 ⟨v5, rfl, ho5, hb2⟩
    have L4 := HL4.out.below' hb2 (Nat.le_refl _)
    replace hb1 := Below.up hb1 hb2
    have L5 := ho5.ls
    have HL4 := hd L4; have HL5 := hd L5
    clear hb2 ho5 L4 L5
    go_wp2_with fail
    refine (alongC_c _ _ _ _ _ (by omega) (by omega) HL4.out HL5.out).mono ?_
    rintro e w6 ⟨rfl, hb2⟩
    replace hb1 := Below.up hb1 hb2
    rw [H3.out]
    go_wp2_with fail
    go_ret
    exact ⟨rfl, hb1⟩

set_option maxRecDepth 100000 in
set_option maxHeartbeats 1000000 in
theorem Wide_c (f : List UInt8) (w : World) (hE : EnvU w) (hf : f.length ≤ 9223372036854775000) : Calls Tryd.prog 19 #[.string (sOf f)] w fun e w' => e = .returned (.bool (mWide f)) ∧ Below w.heap.size w w' := by
  have HE := hd hE; clear hE
  obtain ⟨r, hr⟩ : ∃ r, mWide f = r := ⟨_, rfl⟩
  rw [hr]
  unfold mWide at hr
  have Hr := hd hr; clear hr
  go_enter Tryd.func19, Tryd.ntmps19
  go_wp2_with fail
  refine (Filter_c f _ HE.out hf).mono ?_
  rintro e w1 ⟨rfl, hb1⟩
  cases hu : lFilter f
  · have hr := Hr.out; rw [hu, Bool.false_and] at hr; subst hr; clear Hr
    go_wp2_with fail
    go_ret
    exact ⟨rfl, hb1⟩
  have H1 := hd (show (!lName f) = r by have hr := Hr.out; rw [hu, Bool.true_and] at hr; exact hr)
  clear Hr hu
  go_wp2_with fail
  refine (Name_c f _ (HE.out.below hb1) hf).mono ?_
  rintro e w2 ⟨rfl, hb2⟩
  replace hb1 := Below.up hb1 hb2
  clear hb2
  go_wp2_with fail
  go_ret
  exact ⟨ret_bool H1.out, hb1⟩

theorem awm1 : mMatch [97, 47, 35] [97] = true := by decide +kernel
theorem awm2 : mMatch [97, 47, 43] [97, 47, 98] = true := by decide +kernel
theorem awm3 : mMatch [97, 47, 43] [97] = false := by decide +kernel
theorem awm4 : mMatch [35] [36, 83, 89, 83] = false := by decide +kernel
theorem awm5 : mWide [43] = true := by decide +kernel
set_option maxRecDepth 100000 in
set_option maxHeartbeats 4000000 in
theorem awake18_c (w : World) (hE : EnvU w) : Calls Tryd.prog 20 #[] w fun e w' => e = .returned (.bool true) ∧ Below w.heap.size w w' := by
  have HE := hd hE; clear hE
  go_enter Tryd.func20, Tryd.ntmps20
  go_wp2_with fail
  refine (Match_c [97, 47, 35] [97] _ HE.out (by decide) (by decide)).mono ?_
  rw [awm1]
  rintro e w1 ⟨rfl, hb⟩
  go_wp2_with fail
  refine (Match_c [97, 47, 43] [97, 47, 98] _ (HE.out.below hb) (by decide) (by decide)).mono ?_
  rw [awm2]
  rintro e w2 ⟨rfl, hb2⟩
  replace hb := Below.up hb hb2
  clear hb2
  go_wp2_with fail
  refine (Match_c [97, 47, 43] [97] _ (HE.out.below hb) (by decide) (by decide)).mono ?_
  rw [awm3]
  rintro e w3 ⟨rfl, hb2⟩
  replace hb := Below.up hb hb2
  clear hb2
  go_wp2_with fail
  refine (Match_c [35] [36, 83, 89, 83] _ (HE.out.below hb) (by decide) (by decide)).mono ?_
  rw [awm4]
  rintro e w4 ⟨rfl, hb2⟩
  replace hb := Below.up hb hb2
  clear hb2
  go_wp2_with fail
  refine (Wide_c [43] _ (HE.out.below hb) (by decide)).mono ?_
  rw [awm5]
  rintro e w5 ⟨rfl, hb2⟩
  replace hb := Below.up hb hb2
  clear hb2
  go_wp2_with fail
  go_ret
  exact ⟨rfl, hb⟩
end Go.Proofs.YtopopdghmfbciaaDoor
