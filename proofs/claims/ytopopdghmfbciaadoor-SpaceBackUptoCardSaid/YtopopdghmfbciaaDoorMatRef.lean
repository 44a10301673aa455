/- What a filter wants: the reference: the walks. -/
import Derived.Test.YtopopdghmfbciaaDoorLevRef
import Derived.Test.YtopopdghmfbciaaDoorMat2
import Derived.BigQuiet
namespace Go.Proofs.YtopopdghmfbciaaDoor
open Go.RowKit
set_option linter.unusedVariables false
set_option linter.unusedSimpArgs false

theorem alongL_cons (hold : List UInt8 → List UInt8 → Bool) (x : List UInt8) (r q : List (List UInt8)) :
    alongL hold (x :: r) q = if x = [35] then true else match q with | [] => false | y :: t => hold x y && alongL hold r t := by
  cases q <;> rw [alongL]
/-- The rest of a row behind its first text. -/
theorem run_tailL {w : World} {a : Option Addr} {n c : Nat} {x : List UInt8} {r : List (List UInt8)} (h : Ls w (.slice a n c) (x :: r)) :
    ∃ a' c', (∀ W : World, (Instr.slice 26 (.slice a n c) (some (.int .i64 1)) none none).run Tryd.prog W = .ok (.slice a' r.length c') W) ∧ Ls w (.slice a' r.length c') r := by
  obtain ⟨a0, c0, hv, h1, h2, h3, h4⟩ := h
  cases hv
  rw [List.length_cons] at h1 h3 ⊢
  cases a with
  | none => obtain ⟨e1, e2, e3⟩ := h3 rfl; omega
  | some ad =>
    refine ⟨if c = 1 then some ad else some (ad.add (1 * 1)), c - 1, fun W => ?_, ⟨_, _, rfl, by omega, by omega, fun e => ?_, fun ad' had k u hu => ?_⟩⟩
    · rw [run_slice_l W 26 (some ad) (r.length + 1) c (by kernel_rfl) .i64 1 (by omega) (by omega)]
      obtain ⟨i0, hi, hz0, hz1, hz2⟩ := info_parts info_string
      have he : Tryd.prog.elem 26 = 9 := by kernel_rfl
      simp [sizeOf, typeInfo, he, hi, hz1, sliced, Result.andThen]
    · split at e <;> simp at e
    · have hk : k < r.length := by
        have := (List.getElem?_eq_some_iff.1 hu).1
        rwa [List.length_map] at this
      rw [if_neg (by omega)] at had
      simp only [Option.some.injEq] at had
      subst had
      rw [Nat.mul_one, Go.Deep.add_add, Nat.add_comm]
      exact h4 ad rfl (k + 1) u (by simpa using hu)

set_option maxRecDepth 100000 in
set_option maxHeartbeats 4000000 in
theorem wants_c : ∀ (p q : List (List UInt8)) (va vb : Value) (w : World), Ls w va p → Ls w vb q →
    Calls Tryd.prog 53 #[va, vb] w fun e w' => e = .returned (.bool (alongL holdM p q)) ∧ ∃ m, w' = w.drewN m := by
  intro p
  induction p with
  | nil =>
    intro q va vb w ha hb
    obtain ⟨aa, ac, rfl⟩ := ha.slice
    obtain ⟨ba, bc, rfl⟩ := hb.slice
    clear ha hb
    have hs : alongL holdM [] q = ((q.length : Int) == 0) := by cases q <;> simp [alongL] <;> omega
    rw [hs]
    clear hs
    go_enter Tryd.func53, Tryd.ntmps53
    go_wp2_with fail
    go_ret
    exact ⟨rfl, 0, rfl⟩
  | cons x r ih =>
    intro q va vb w ha hb
    have HIH := hd ih; clear ih
    obtain ⟨v, hv⟩ : ∃ v, alongL holdM (x :: r) q = v := ⟨_, rfl⟩
    rw [hv]
    rw [alongL_cons] at hv
    have htx := toList_sOf x
    obtain ⟨aa, ac, rfl⟩ := ha.slice
    obtain ⟨a2, c2, hsa, hra⟩ := run_tailL ha
    obtain ⟨bx, ox, rfl, hbx, hcx⟩ := ha.at (k := 0) (x := x) rfl
    rw [Nat.add_zero] at hcx
    rw [List.length_cons] at *
    have hn0 : (0 : Int) < ((r.length + 1 : Nat) : Int) := by omega
    have hnz : (((r.length + 1 : Nat) : Int) == 0) = false := by simp; omega
    have hn1 : 0 < r.length + 1 := by omega
    have HRA := hd hra
    clear hra ha
    obtain ⟨n, hn⟩ : ∃ n, r.length + 1 = n := ⟨_, rfl⟩
    simp only [hn] at *
    clear hn
    obtain ⟨k, hk⟩ : ∃ k, r.length = k := ⟨_, rfl⟩
    rw [hk] at hsa HRA
    have HK := hd hk
    clear hk
    cases e35 : (x == [35])
    rotate_left
    · have hx35 : x = [35] := by simpa using e35
      rw [if_pos hx35] at hv
      have hr2 := hd hv
      obtain ⟨ba, bc, rfl⟩ := hb.slice
      clear hb hv hx35 hsa
      go_enter Tryd.func53, Tryd.ntmps53
      go_wp2_with fail
      go_ret
      exact ⟨ret_bool hr2.out, 0, rfl⟩
    have hx35 : ¬ x = [35] := by simpa using e35
    rw [if_neg hx35] at hv
    clear hx35
    cases q with
    | nil =>
      obtain ⟨ba, bc, rfl⟩ := hb.slice
      rw [List.length_nil]
      have hv2 : false = v := hv
      subst hv2
      clear hb hv hsa
      go_enter Tryd.func53, Tryd.ntmps53
      go_wp2_with fail
      go_quiet (fail)
      go_wp2_with fail
      go_ret
      exact ⟨rfl, _, rfl⟩
    | cons y t =>
      have hv3 : (holdM x y && alongL holdM r t) = v := hv
      clear hv
      have hty := toList_sOf y
      obtain ⟨ba, bc, rfl⟩ := hb.slice
      obtain ⟨a3, c3, hsb, hrb⟩ := run_tailL hb
      obtain ⟨by', oy, rfl, hby, hcy⟩ := hb.at (k := 0) (x := y) rfl
      rw [Nat.add_zero] at hcy
      rw [List.length_cons] at *
      have hm0 : (0 : Int) < ((t.length + 1 : Nat) : Int) := by omega
      have hm1 : 0 < t.length + 1 := by omega
      have HI : ∀ W m, W = w.drewN m → Calls Tryd.prog 53 #[.slice a2 k c2, .slice a3 t.length c3] W fun e w' => e = .returned (.bool (alongL holdM r t)) ∧ ∃ m, w' = W.drewN m := fun W m h => by
        refine HIH.out t _ _ W ?_ ?_
        · rw [h]; exact HRA.out.below' (below_dn (Below.refl _ _) m) (Nat.le_refl _)
        · rw [h]; exact hrb.below' (below_dn (Below.refl _ _) m) (Nat.le_refl _)
      have HI2 := hd HI
      clear HI hrb hb HIH HRA HK
      obtain ⟨n2, hn2⟩ : ∃ n2, t.length + 1 = n2 := ⟨_, rfl⟩
      simp only [hn2] at *
      clear hn2
      obtain ⟨k2, hk2⟩ : ∃ k2, t.length = k2 := ⟨_, rfl⟩
      rw [hk2] at hsb HI2
      clear hk2
      cases e43 : (x == [43])
      rotate_left
      · have he : holdM x y = true := by unfold holdM; rw [e43]; rfl
        rw [he, Bool.true_and] at hv3
        rw [hv3] at HI2
        clear hv3 he
        go_enter Tryd.func53, Tryd.ntmps53
        go_wp2_with fail
        go_quiet (first | exact quiet_moreM (HI2.out _ _ rfl))
        go_wp2_with fail
        go_ret
        exact ⟨rfl, _, rfl⟩
      cases exy : (x == y)
      rotate_left
      · have he : holdM x y = true := by unfold holdM; rw [exy, Bool.or_true]
        rw [he, Bool.true_and] at hv3
        rw [hv3] at HI2
        clear hv3 he
        go_enter Tryd.func53, Tryd.ntmps53
        go_wp2_with fail
        go_quiet (first | exact quiet_moreM (HI2.out _ _ rfl))
        go_wp2_with fail
        go_ret
        exact ⟨rfl, _, rfl⟩
      · have he : holdM x y = false := by unfold holdM; rw [e43, exy]; rfl
        rw [he, Bool.false_and] at hv3
        subst hv3
        clear he
        go_enter Tryd.func53, Tryd.ntmps53
        go_wp2_with fail
        go_quiet (fail)
        go_wp2_with fail
        go_ret
        exact ⟨rfl, _, rfl⟩

set_option maxRecDepth 100000 in
set_option maxHeartbeats 4000000 in
theorem covers_c : ∀ (p q : List (List UInt8)) (va vb : Value) (w : World), Ls w va p → Ls w vb q →
    Calls Tryd.prog 55 #[va, vb] w fun e w' => e = .returned (.bool (alongL holdC p q)) ∧ ∃ m, w' = w.drewN m := by
  intro p
  induction p with
  | nil =>
    intro q va vb w ha hb
    obtain ⟨aa, ac, rfl⟩ := ha.slice
    obtain ⟨ba, bc, rfl⟩ := hb.slice
    clear ha hb
    have hs : alongL holdC [] q = ((q.length : Int) == 0) := by cases q <;> simp [alongL] <;> omega
    rw [hs]
    clear hs
    go_enter Tryd.func55, Tryd.ntmps55
    go_wp2_with fail
    go_ret
    exact ⟨rfl, 0, rfl⟩
  | cons x r ih =>
    intro q va vb w ha hb
    have HIH := hd ih; clear ih
    obtain ⟨v, hv⟩ : ∃ v, alongL holdC (x :: r) q = v := ⟨_, rfl⟩
    rw [hv]
    rw [alongL_cons] at hv
    have htx := toList_sOf x
    obtain ⟨aa, ac, rfl⟩ := ha.slice
    obtain ⟨a2, c2, hsa, hra⟩ := run_tailL ha
    obtain ⟨bx, ox, rfl, hbx, hcx⟩ := ha.at (k := 0) (x := x) rfl
    rw [Nat.add_zero] at hcx
    rw [List.length_cons] at *
    have hn0 : (0 : Int) < ((r.length + 1 : Nat) : Int) := by omega
    have hnz : (((r.length + 1 : Nat) : Int) == 0) = false := by simp; omega
    have hn1 : 0 < r.length + 1 := by omega
    have HRA := hd hra
    clear hra ha
    obtain ⟨n, hn⟩ : ∃ n, r.length + 1 = n := ⟨_, rfl⟩
    simp only [hn] at *
    clear hn
    obtain ⟨k, hk⟩ : ∃ k, r.length = k := ⟨_, rfl⟩
    rw [hk] at hsa HRA
    have HK := hd hk
    clear hk
    cases e35 : (x == [35])
    rotate_left
    · have hx35 : x = [35] := by simpa using e35
      rw [if_pos hx35] at hv
      have hr2 := hd hv
      obtain ⟨ba, bc, rfl⟩ := hb.slice
      clear hb hv hx35 hsa
      go_enter Tryd.func55, Tryd.ntmps55
      go_wp2_with fail
      go_ret
      exact ⟨ret_bool hr2.out, 0, rfl⟩
    have hx35 : ¬ x = [35] := by simpa using e35
    rw [if_neg hx35] at hv
    clear hx35
    cases q with
    | nil =>
      obtain ⟨ba, bc, rfl⟩ := hb.slice
      rw [List.length_nil]
      have hv2 : false = v := hv
      subst hv2
      clear hb hv hsa
      go_enter Tryd.func55, Tryd.ntmps55
      go_wp2_with fail
      go_quiet (fail)
      go_wp2_with fail
      go_ret
      exact ⟨rfl, _, rfl⟩
    | cons y t =>
      have hv3 : (holdC x y && alongL holdC r t) = v := hv
      clear hv
      have hty := toList_sOf y
      obtain ⟨ba, bc, rfl⟩ := hb.slice
      obtain ⟨a3, c3, hsb, hrb⟩ := run_tailL hb
      obtain ⟨by', oy, rfl, hby, hcy⟩ := hb.at (k := 0) (x := y) rfl
      rw [Nat.add_zero] at hcy
      rw [List.length_cons] at *
      have hm0 : (0 : Int) < ((t.length + 1 : Nat) : Int) := by omega
      have hm1 : 0 < t.length + 1 := by omega
      have HI : ∀ W m, W = w.drewN m → Calls Tryd.prog 55 #[.slice a2 k c2, .slice a3 t.length c3] W fun e w' => e = .returned (.bool (alongL holdC r t)) ∧ ∃ m, w' = W.drewN m := fun W m h => by
        refine HIH.out t _ _ W ?_ ?_
        · rw [h]; exact HRA.out.below' (below_dn (Below.refl _ _) m) (Nat.le_refl _)
        · rw [h]; exact hrb.below' (below_dn (Below.refl _ _) m) (Nat.le_refl _)
      have HI2 := hd HI
      clear HI hrb hb HIH HRA HK
      obtain ⟨n2, hn2⟩ : ∃ n2, t.length + 1 = n2 := ⟨_, rfl⟩
      simp only [hn2] at *
      clear hn2
      obtain ⟨k2, hk2⟩ : ∃ k2, t.length = k2 := ⟨_, rfl⟩
      rw [hk2] at hsb HI2
      clear hk2
      cases exy : (x == y)
      rotate_left
      · have he : holdC x y = true := by unfold holdC; rw [exy]; rfl
        rw [he, Bool.true_and] at hv3
        rw [hv3] at HI2
        clear hv3 he
        go_enter Tryd.func55, Tryd.ntmps55
        go_wp2_with fail
        go_quiet (first | exact quiet_moreM (HI2.out _ _ rfl))
        go_wp2_with fail
        go_ret
        exact ⟨rfl, _, rfl⟩
      cases e43 : (x == [43])
      · have he : holdC x y = false := by unfold holdC; rw [e43, exy]; rfl
        rw [he, Bool.false_and] at hv3
        subst hv3
        clear he
        go_enter Tryd.func55, Tryd.ntmps55
        go_wp2_with fail
        go_quiet (fail)
        go_wp2_with fail
        go_ret
        exact ⟨rfl, _, rfl⟩
      cases ey : (y == [35])
      · have eyn : (y != [35]) = true := by simp [bne, ey]
        have he : holdC x y = true := by unfold holdC; rw [e43, exy, ey]; rfl
        rw [he, Bool.true_and] at hv3
        rw [hv3] at HI2
        clear hv3 he
        go_enter Tryd.func55, Tryd.ntmps55
        go_wp2_with fail
        go_quiet (first | exact quiet_moreM (HI2.out _ _ rfl))
        go_wp2_with fail
        go_ret
        exact ⟨rfl, _, rfl⟩
      · have eyn : (y != [35]) = false := by simp [bne, ey]
        have he : holdC x y = false := by unfold holdC; rw [e43, exy, ey]; rfl
        rw [he, Bool.false_and] at hv3
        subst hv3
        clear he
        go_enter Tryd.func55, Tryd.ntmps55
        go_wp2_with fail
        go_quiet (fail)
        go_wp2_with fail
        go_ret
        exact ⟨rfl, _, rfl⟩

theorem begW_cons {f : List UInt8} (h : f ≠ []) : begW f = (decide (bN f 0 = 43) || decide (bN f 0 = 35)) := by
  cases f with
  | nil => exact absurd rfl h
  | cons b t =>
    have e : ∀ c : UInt8, ([b] == [c]) = decide (bN (b :: t) 0 = c.toNat) := fun c => by
      rw [Bool.eq_iff_iff, decide_eq_true_iff, b8_of_bN (by simp : 0 < (b :: t).length)]
      simp
    unfold begW
    rw [show (b :: t).take 1 = [b] from rfl, e, e]
    rfl
theorem lHidden_cons {f : List UInt8} (h : f ≠ []) : lHidden f = decide (bN f 0 = 36) := by
  cases f with
  | nil => exact absurd rfl h
  | cons b t => unfold lHidden; simp
set_option maxRecDepth 100000 in
set_option maxHeartbeats 1000000 in
theorem shy_c (f o : List UInt8) (w : World) (hf : f ≠ []) (ho : o ≠ []) : Calls Tryd.prog 52 #[.string (sOf f), .string (sOf o)] w fun e w' => e = .returned (.bool (begW f && lHidden o)) ∧ w = w' := by
  have hx : ∀ W : World, (Instr.index 9 (.string (sOf f)) (.int .i64 0)).run Tryd.prog W = .ok (.int .u8 (bN f 0)) W := at_sOf f 0 (List.length_pos_iff.2 hf)
  have hy : ∀ W : World, (Instr.index 9 (.string (sOf o)) (.int .i64 0)).run Tryd.prog W = .ok (.int .u8 (bN o 0)) W := at_sOf o 0 (List.length_pos_iff.2 ho)
  have h1 := bN_lt f 0
  have h2 := bN_lt o 0
  rw [begW_cons hf, lHidden_cons ho]
  generalize bN f 0 = x at *
  generalize bN o 0 = y at *
  obtain ⟨r, hr⟩ : ∃ r, ((decide (x = 43) || decide (x = 35)) && decide (y = 36)) = r := ⟨_, rfl⟩
  rw [hr]
  have Hr := hd hr; clear hr
  have ha : ∀ (x c : Nat), ((x : Int) == (c : Int)) = decide (x = c) := fun x c => by rw [Bool.eq_iff_iff]; simp; omega
  have h43 := ha x 43
  have h35 := ha x 35
  have h36 := ha y 36
  clear ha
  push_cast at h43 h35 h36
  cases e1 : decide (x = 43)
  · cases e2 : decide (x = 35)
    · have hr := Hr.out; rw [e1, e2] at hr
      have hr2 : false = r := hr
      subst hr2
      rw [e1] at h43; rw [e2] at h35
      clear Hr hr e1 e2
      go_enter Tryd.func52, Tryd.ntmps52
      go_wp2_with fail
      go_ret
      exact ⟨rfl, rfl⟩
    · have hr := Hr.out; rw [e1, e2] at hr
      have hr2 : decide (y = 36) = r := hr
      rw [hr2] at h36
      rw [e1] at h43; rw [e2] at h35
      clear Hr hr e1 e2 hr2
      go_enter Tryd.func52, Tryd.ntmps52
      go_wp2_with fail
      go_ret
      exact ⟨rfl, rfl⟩
  · have hr := Hr.out; rw [e1] at hr
    have hr2 : decide (y = 36) = r := by simpa using hr
    rw [hr2] at h36
    rw [e1] at h43
    clear Hr hr e1 hr2 h35
    go_enter Tryd.func52, Tryd.ntmps52
    go_wp2_with fail
    go_ret
    exact ⟨rfl, rfl⟩

set_option maxRecDepth 100000 in
set_option maxHeartbeats 4000000 in
theorem refMatch_c (f n : List UInt8) (w : World) (hf : f.length ≤ 9223372036854775000) (hn : n.length ≤ 9223372036854775000) :
    Calls Tryd.prog 23 #[.string (sOf f), .string (sOf n)] w fun e w' => e = .returned (.bool (mMatch f n)) ∧ Below w.heap.size w w' := by
  obtain ⟨r, hr⟩ : ∃ r, mMatch f n = r := ⟨_, rfl⟩
  rw [hr]
  unfold mMatch at hr
  have Hr := hd hr; clear hr
  go_enter Tryd.func23, Tryd.ntmps23
  go_wp2_with fail
  refine (refFilter_c f _ hf).mono ?_
  rintro e w1 ⟨rfl, hb1⟩
  cases hu : lFilter f
  · have hr := Hr.out; rw [hu, Bool.false_and] at hr; subst hr; clear Hr
    go_wp2_with fail
    go_ret
    exact ⟨rfl, hb1⟩
  have hfs : lSized f = true := by unfold lFilter at hu; exact (Bool.and_eq_true _ _ ▸ hu).1
  obtain ⟨f0, f96, f12⟩ := lSized_len hfs
  have H1 := hd (show (lName n && (!(begW f && lHidden n) && alongL holdM (lSplit f) (lSplit n))) = r by have hr := Hr.out; rw [hu, Bool.true_and] at hr; exact hr)
  clear Hr hu hfs
  go_wp2_with fail
  refine (refName_c n _ hn).mono ?_
  rintro e w2 ⟨rfl, hb2⟩
  replace hb1 := Below.up hb1 hb2
  clear hb2
  cases hu : lName n
  · have hr := H1.out; rw [hu, Bool.false_and] at hr; subst hr; clear H1
    go_wp2_with fail
    go_ret
    exact ⟨rfl, hb1⟩
  have hns : lSized n = true := by unfold lName at hu; exact (Bool.and_eq_true _ _ ▸ hu).1
  obtain ⟨n0, n96, n12⟩ := lSized_len hns
  have H2 := hd (show (!(begW f && lHidden n) && alongL holdM (lSplit f) (lSplit n)) = r by have hr := H1.out; rw [hu, Bool.true_and] at hr; exact hr)
  clear H1 hu hns
  go_wp2_with fail
  refine (shy_c f n _ f0 n0).mono ?_
  rintro e w3 ⟨rfl, rfl⟩
  cases hbw : (begW f && lHidden n)
  rotate_left
  · have hr := H2.out; rw [hbw] at hr
    have hr2 : false = r := hr
    subst hr2; clear H2 hr
    clear hbw
    go_wp2_with fail
    go_ret
    exact ⟨rfl, hb1⟩
  have H3 := hd (show alongL holdM (lSplit f) (lSplit n) = r by have hr := H2.out; rw [hbw] at hr; simpa using hr)
  clear H2 hbw
  go_wp2_with fail
  refine (refSplit_c f _ (by omega)).mono ?_
  rintro e w4 ⟨v4, rfl, ho4, hb2⟩
  replace hb1 := Below.up hb1 hb2
  have L4 := ho4.ls
  have HL4 := hd L4
  clear hb2 ho4 L4
  go_wp2_with fail
  refine (refSplit_c n _ (by omega)).mono ?_
  rintro e w5 ⟨v5, rfl, ho5, hb2⟩
  have L4 := HL4.out.below' hb2 (Nat.le_refl _)
  replace hb1 := Below.up hb1 hb2
  have L5 := ho5.ls
  have HL4 := hd L4; have HL5 := hd L5
  clear hb2 ho5 L4 L5
  go_wp2_with fail
  refine (wants_c _ _ _ _ _ HL4.out HL5.out).mono ?_
  rintro e w6 ⟨rfl, m, rfl⟩
  rw [H3.out]
  go_wp2_with fail
  go_ret
  exact ⟨rfl, below_dn hb1 m⟩

set_option maxRecDepth 100000 in
set_option maxHeartbeats 4000000 in
theorem refCovers_c (f n : List UInt8) (w : World) (hf : f.length ≤ 9223372036854775000) (hn : n.length ≤ 9223372036854775000) :
    Calls Tryd.prog 26 #[.string (sOf f), .string (sOf n)] w fun e w' => e = .returned (.bool (mCovers f n)) ∧ Below w.heap.size w w' := by
  obtain ⟨r, hr⟩ : ∃ r, mCovers f n = r := ⟨_, rfl⟩
  rw [hr]
  unfold mCovers at hr
  have Hr := hd hr; clear hr
  go_enter Tryd.func26, Tryd.ntmps26
  go_wp2_with fail
  refine (refFilter_c f _ hf).mono ?_
  rintro e w1 ⟨rfl, hb1⟩
  cases hu : lFilter f
  · have hr := Hr.out; rw [hu, Bool.false_and] at hr; subst hr; clear Hr
    go_wp2_with fail
    go_ret
    exact ⟨rfl, hb1⟩
  have hfs : lSized f = true := by unfold lFilter at hu; exact (Bool.and_eq_true _ _ ▸ hu).1
  obtain ⟨f0, f96, f12⟩ := lSized_len hfs
  have H1 := hd (show (lFilter n && (!(begW f && lHidden n) && alongL holdC (lSplit f) (lSplit n))) = r by have hr := Hr.out; rw [hu, Bool.true_and] at hr; exact hr)
  clear Hr hu hfs
  go_wp2_with fail
  refine (refFilter_c n _ hn).mono ?_
  rintro e w2 ⟨rfl, hb2⟩
  replace hb1 := Below.up hb1 hb2
  clear hb2
  cases hu : lFilter n
  · have hr := H1.out; rw [hu, Bool.false_and] at hr; subst hr; clear H1
    go_wp2_with fail
    go_ret
    exact ⟨rfl, hb1⟩
  have hns : lSized n = true := by unfold lFilter at hu; exact (Bool.and_eq_true _ _ ▸ hu).1
  obtain ⟨n0, n96, n12⟩ := lSized_len hns
  have H2 := hd (show (!(begW f && lHidden n) && alongL holdC (lSplit f) (lSplit n)) = r by have hr := H1.out; rw [hu, Bool.true_and] at hr; exact hr)
  clear H1 hu hns
  go_wp2_with fail
  refine (shy_c f n _ f0 n0).mono ?_
  rintro e w3 ⟨rfl, rfl⟩
  cases hbw : (begW f && lHidden n)
  rotate_left
  · have hr := H2.out; rw [hbw] at hr
    have hr2 : false = r := hr
    subst hr2; clear H2 hr
    clear hbw
    go_wp2_with fail
    go_ret
    exact ⟨rfl, hb1⟩
  have H3 := hd (show alongL holdC (lSplit f) (lSplit n) = r by have hr := H2.out; rw [hbw] at hr; simpa using hr)
  clear H2 hbw
  go_wp2_with fail
  refine (refSplit_c f _ (by omega)).mono ?_
  rintro e w4 ⟨v4, rfl, ho4, hb2⟩
  replace hb1 := Below.up hb1 hb2
  have L4 := ho4.ls
  have HL4 := hd L4
  clear hb2 ho4 L4
  go_wp2_with fail
  refine (refSplit_c n _ (by omega)).mono ?_
  rintro e w5 ⟨v5, rfl, ho5, hb2⟩
  have L4 := HL4.out.below' hb2 (Nat.le_refl _)
  replace hb1 := Below.up hb1 hb2
  have L5 := ho5.ls
  have HL4 := hd L4; have HL5 := hd L5
  clear hb2 ho5 L4 L5
  go_wp2_with fail
  refine (covers_c _ _ _ _ _ HL4.out HL5.out).mono ?_
  rintro e w6 ⟨rfl, m, rfl⟩
  rw [H3.out]
  go_wp2_with fail
  go_ret
  exact ⟨rfl, below_dn hb1 m⟩

set_option maxRecDepth 100000 in
set_option maxHeartbeats 1000000 in
theorem refWide_c (f : List UInt8) (w : World) (hf : f.length ≤ 9223372036854775000) : Calls Tryd.prog 24 #[.string (sOf f)] w fun e w' => e = .returned (.bool (mWide f)) ∧ Below w.heap.size w w' := by
  obtain ⟨r, hr⟩ : ∃ r, mWide f = r := ⟨_, rfl⟩
  rw [hr]
  unfold mWide at hr
  have Hr := hd hr; clear hr
  go_enter Tryd.func24, Tryd.ntmps24
  go_wp2_with fail
  refine (refFilter_c f _ hf).mono ?_
  rintro e w1 ⟨rfl, hb1⟩
  cases hu : lFilter f
  · have hr := Hr.out; rw [hu, Bool.false_and] at hr; subst hr; clear Hr
    go_wp2_with fail
    go_ret
    exact ⟨rfl, hb1⟩
  have H1 := hd (show (!lName f) = r by have hr := Hr.out; rw [hu, Bool.true_and] at hr; exact hr)
  clear Hr hu
  go_wp2_with fail
  refine (refName_c f _ hf).mono ?_
  rintro e w2 ⟨rfl, hb2⟩
  replace hb1 := Below.up hb1 hb2
  clear hb2
  go_wp2_with fail
  go_ret
  exact ⟨ret_bool H1.out, hb1⟩
end Go.Proofs.YtopopdghmfbciaaDoor
