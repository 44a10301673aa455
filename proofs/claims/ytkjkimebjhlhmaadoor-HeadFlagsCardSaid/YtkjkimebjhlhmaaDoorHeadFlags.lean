/- Heads: a message's flags made and told. -/
import Derived.Test.YtkjkimebjhlhmaaDoorHead
namespace Go.Proofs.YtkjkimebjhlhmaaDoor
open Go.RowKit
set_option linter.unusedVariables false

def hPub (dup : Bool) (qos : Int) (retain : Bool) : Int :=
  if qos < 0 ∨ 2 < qos ∨ (dup = true ∧ qos = 0) then -1 else 2 * qos + (if dup then 8 else 0) + (if retain then 1 else 0)

set_option maxHeartbeats 1000000 in
theorem Publish_c (dup retain : Bool) (qos : Int) (w : World) (hE : EnvH w) :
    Calls Tryd.prog 12 #[.bool dup, .int .i64 qos, .bool retain] w fun e w' => e = .returned (.int .i64 (hPub dup qos retain)) ∧ w = w' := by
  have HE := hd hE; clear hE
  have o1 : bits .or .i64 0 8 = 8 := by decide
  have o2 : bits .or .i64 2 8 = 10 := by decide
  have o3 : bits .or .i64 4 8 = 12 := by decide
  have o4 : bits .or .i64 6 8 = 14 := by decide
  have p0 : bits .or .i64 0 1 = 1 := by decide
  have p1 : bits .or .i64 2 1 = 3 := by decide
  have p2 : bits .or .i64 4 1 = 5 := by decide
  have p3 : bits .or .i64 6 1 = 7 := by decide
  have q0 : bits .or .i64 8 1 = 9 := by decide
  have q1 : bits .or .i64 10 1 = 11 := by decide
  have q2 : bits .or .i64 12 1 = 13 := by decide
  have q3 : bits .or .i64 14 1 = 15 := by decide
  have m0 : hMsg 0 = true := by decide
  have m1 : hMsg 1 = true := by decide
  have m2 : hMsg 2 = true := by decide
  have m3 : hMsg 3 = true := by decide
  have m4 : hMsg 4 = true := by decide
  have m5 : hMsg 5 = true := by decide
  have m6 : hMsg 6 = false := by decide
  have m7 : hMsg 7 = false := by decide
  have m8 : hMsg 8 = false := by decide
  have m9 : hMsg 9 = false := by decide
  have m10 : hMsg 10 = true := by decide
  have m11 : hMsg 11 = true := by decide
  have m12 : hMsg 12 = true := by decide
  have m13 : hMsg 13 = true := by decide
  have m14 : hMsg 14 = false := by decide
  have m15 : hMsg 15 = false := by decide
  by_cases h : qos < 0 ∨ 3 < qos
  · have hr : hPub dup qos retain = -1 := by unfold hPub; rw [if_pos (by omega)]
    rw [hr]
    rcases h with h | h
    all_goals
      go_enter Tryd.func12, Tryd.ntmps12
      go_wp2
      go_ret
      exact ⟨rfl, rfl⟩
  · have h4 : qos = 0 ∨ qos = 1 ∨ qos = 2 ∨ qos = 3 := by omega
    clear h
    rcases h4 with rfl | rfl | rfl | rfl
    all_goals
      cases dup <;> cases retain
      all_goals
        go_enter Tryd.func12, Tryd.ntmps12
        go_wp2_with fail
        refine (message_c _ _ HE.out).mono ?_
        rintro e w' ⟨rfl, rfl⟩
        go_wp2
        go_ret
        exact ⟨ret_int (by decide), rfl⟩

set_option maxHeartbeats 1000000 in
theorem refPublish_c (dup retain : Bool) (qos : Int) (w : World) :
    Calls Tryd.prog 14 #[.bool dup, .int .i64 qos, .bool retain] w fun e w' => e = .returned (.int .i64 (hPub dup qos retain)) ∧ w = w' := by
  by_cases h : qos < 0 ∨ 2 < qos
  · have hr : hPub dup qos retain = -1 := by unfold hPub; rw [if_pos (by omega)]
    rw [hr]
    rcases h with h | h
    all_goals
      go_enter Tryd.func14, Tryd.ntmps14
      go_wp2
      go_ret
      exact ⟨rfl, rfl⟩
  · have h4 : qos = 0 ∨ qos = 1 ∨ qos = 2 := by omega
    clear h
    rcases h4 with rfl | rfl | rfl
    all_goals
      cases dup <;> cases retain
      all_goals
        go_enter Tryd.func14, Tryd.ntmps14
        go_wp2
        go_ret
        exact ⟨ret_int (by decide), rfl⟩

def hDup (f : Int) : Bool := hMsg f && decide (8 ≤ f)
def hQos (f : Int) : Int := if hMsg f then f / 2 % 4 else 0
def hRet (f : Int) : Bool := hMsg f && decide (f % 2 = 1)
theorem hMsg_iff (f : Int) : hMsg f = true ↔ 0 ≤ f ∧ f ≤ 15 ∧ (f < 6 ∨ (10 ≤ f ∧ f < 14)) := by
  unfold hMsg mayB
  simp
  omega

theorem and8 : ∀ n : Fin 16, bits .and .i64 ((n.val : Nat) : Int) 8 = (n.val : Int) / 8 * 8 := by decide +kernel
theorem and1 : ∀ n : Fin 16, bits .and .i64 ((n.val : Nat) : Int) 1 = (n.val : Int) % 2 := by decide +kernel
theorem and3 : ∀ n : Fin 16, bits .and .i64 ((n.val : Nat) : Int) 3 = (n.val : Int) % 4 := by decide +kernel

set_option maxHeartbeats 1000000 in
theorem Told_c (f : Int) (w : World) (hE : EnvH w) :
    Calls Tryd.prog 13 #[.int .i64 f] w fun e w' => e = .returned (.tuple #[.bool (hDup f), .int .i64 (hQos f), .bool (hRet f)]) ∧ w = w' := by
  have HE := hd hE; clear hE
  obtain ⟨d, hdd⟩ : ∃ d, hDup f = d := ⟨_, rfl⟩
  obtain ⟨q, hq⟩ : ∃ d, hQos f = d := ⟨_, rfl⟩
  obtain ⟨r, hr⟩ : ∃ d, hRet f = d := ⟨_, rfl⟩
  rw [hdd, hq, hr]
  unfold hDup at hdd; unfold hQos at hq; unfold hRet at hr
  cases hm : hMsg f
  · rw [hm] at hdd hq hr
    simp at hdd hq hr
    subst hdd hq hr
    go_enter Tryd.func13, Tryd.ntmps13
    go_wp2_with fail
    refine (message_c _ _ HE.out).mono ?_
    rintro e w' ⟨rfl, rfl⟩
    go_wp2
    go_ret3
    exact ⟨rfl, rfl⟩
  · rw [hm] at hdd hq hr
    have hb := (hMsg_iff f).1 hm
    obtain ⟨n, rfl⟩ := Int.eq_ofNat_of_zero_le hb.1
    have a8 : bits .and .i64 (n : Int) 8 = (n : Int) / 8 * 8 := and8 ⟨n, by omega⟩
    have a1 : bits .and .i64 (n : Int) 1 = (n : Int) % 2 := and1 ⟨n, by omega⟩
    have a3 : bits .and .i64 ((n : Int) / 2) 3 = (n : Int) / 2 % 4 := and3 ⟨n / 2, by omega⟩
    have Hd1 := hd hdd; have Hq := hd hq; have Hr := hd hr
    clear hdd hq hr
    have hb2 := hb.2.1
    clear hb
    go_enter Tryd.func13, Tryd.ntmps13
    go_wp2_with fail
    refine (message_c _ _ HE.out).mono ?_
    rintro e w' ⟨rfl, rfl⟩
    go_wp2
    go_ret3
    clear HE
    refine ⟨ret3 (vb ?_) (vi ?_) (vb ?_), rfl⟩
    · rw [← Hd1.out]; clear Hd1 Hq Hr a8 a1 a3 hm
      simp only [Bool.true_and]
      rw [Bool.eq_iff_iff]; simp; omega
    · rw [← Hq.out]; simp
    · rw [← Hr.out]; clear Hd1 Hq Hr a8 a1 a3 hm
      simp only [Bool.true_and]
      rw [Bool.eq_iff_iff]; simp; omega

set_option maxHeartbeats 1000000 in
theorem refTold_c (f : Int) (w : World) :
    Calls Tryd.prog 15 #[.int .i64 f] w fun e w' => e = .returned (.tuple #[.bool (hDup f), .int .i64 (hQos f), .bool (hRet f)]) ∧ w = w' := by
  obtain ⟨d, hdd⟩ : ∃ d, hDup f = d := ⟨_, rfl⟩
  obtain ⟨q, hq⟩ : ∃ d, hQos f = d := ⟨_, rfl⟩
  obtain ⟨r, hr⟩ : ∃ d, hRet f = d := ⟨_, rfl⟩
  rw [hdd, hq, hr]
  unfold hDup at hdd; unfold hQos at hq; unfold hRet at hr
  cases hm : hMsg f
  · rw [hm] at hdd hq hr
    simp at hdd hq hr
    subst hdd hq hr
    have hx : hRight 3 f = 10 := by unfold hRight; rw [hm]; rfl
    have Hx := hd hx; clear hx hm
    go_enter Tryd.func15, Tryd.ntmps15
    go_wp2_with fail
    refine (refRight_c _ _ _).mono ?_
    rintro e w' ⟨rfl, rfl⟩
    rw [Hx.out]
    go_wp2
    go_ret3
    exact ⟨rfl, rfl⟩
  · rw [hm] at hdd hq hr
    have hb := (hMsg_iff f).1 hm
    obtain ⟨n, rfl⟩ := Int.eq_ofNat_of_zero_le hb.1
    have Hd1 := hd hdd; have Hq := hd hq; have Hr := hd hr
    clear hdd hq hr
    have hb2 := hb.2.1
    clear hb
    have hx : hRight 3 n = 0 := by unfold hRight; rw [hm]; rfl
    have Hx := hd hx; clear hx hm
    go_enter Tryd.func15, Tryd.ntmps15
    go_wp2_with fail
    refine (refRight_c _ _ _).mono ?_
    rintro e w' ⟨rfl, rfl⟩
    rw [Hx.out]
    go_wp2
    go_ret3
    refine ⟨ret3 (vb ?_) (vi ?_) (vb ?_), rfl⟩
    · rw [← Hd1.out]; clear Hd1 Hq Hr Hx
      simp only [Bool.true_and]
    · rw [← Hq.out]; simp
    · rw [← Hr.out]; clear Hd1 Hq Hr Hx
      simp only [Bool.true_and]
      rw [Bool.eq_iff_iff]; simp

/-! ### The law -/
theorem hPub_neg {dup retain : Bool} {qos : Int} (h : hPub dup qos retain < 0) : hDup (hPub dup qos retain) = false ∧ hQos (hPub dup qos retain) = 0 ∧ hRet (hPub dup qos retain) = false := by
  have : hPub dup qos retain = -1 := by
    unfold hPub at h ⊢
    by_cases hc : qos < 0 ∨ 2 < qos ∨ (dup = true ∧ qos = 0)
    · rw [if_pos hc]
    · rw [if_neg hc] at h
      exfalso
      revert h
      cases dup <;> cases retain <;> simp <;> omega
  rw [this]
  decide
theorem hPub_pos {dup retain : Bool} {qos : Int} (h : ¬ hPub dup qos retain < 0) : hDup (hPub dup qos retain) = dup ∧ hQos (hPub dup qos retain) = qos ∧ hRet (hPub dup qos retain) = retain ∧ hRight 3 (hPub dup qos retain) = 0 := by
  by_cases hc : qos < 0 ∨ 2 < qos ∨ (dup = true ∧ qos = 0)
  · exfalso
    apply h
    unfold hPub
    rw [if_pos hc]
    omega
  · have h4 : qos = 0 ∨ qos = 1 ∨ qos = 2 := by omega
    clear h
    rcases h4 with rfl | rfl | rfl
    all_goals
      cases dup <;> cases retain
      all_goals first | decide | (exfalso; apply hc; simp)
theorem hPub_told {f : Int} (h : hRight 3 f = 0) : hPub (hDup f) (hQos f) (hRet f) = f := by
  have hm : hMsg f = true := by
    unfold hRight at h
    cases hm : hMsg f
    · rw [hm] at h; simp at h
    · rfl
  have hb := (hMsg_iff f).1 hm
  have h16 : f = 0 ∨ f = 1 ∨ f = 2 ∨ f = 3 ∨ f = 4 ∨ f = 5 ∨ f = 10 ∨ f = 11 ∨ f = 12 ∨ f = 13 := by omega
  rcases h16 with rfl | rfl | rfl | rfl | rfl | rfl | rfl | rfl | rfl | rfl <;> decide

set_option maxRecDepth 100000 in
set_option maxHeartbeats 1600000 in
theorem HeadFlags_w (dup retain : Bool) (qos flags : Int) (w : World) (hE : EnvH w) :
    Calls Tryd.prog 4 #[.bool dup, .int .i64 qos, .bool retain, .int .i64 flags] w fun e w' => e = .returned (.bool true) ∧ Below w.heap.size w w' := by
  have HE := hd hE; clear hE
  obtain ⟨n, hn⟩ : ∃ n, hPub dup qos retain = n := ⟨_, rfl⟩
  obtain ⟨a, ha⟩ : ∃ n, hDup flags = n := ⟨_, rfl⟩
  obtain ⟨b, hb⟩ : ∃ n, hQos flags = n := ⟨_, rfl⟩
  obtain ⟨c, hc⟩ : ∃ n, hRet flags = n := ⟨_, rfl⟩
  obtain ⟨r, hr⟩ : ∃ n, hRight 3 flags = n := ⟨_, rfl⟩
  have hpt : r = 0 → hPub a b c = flags := fun h => by rw [← ha, ← hb, ← hc]; exact hPub_told (hr.trans h)
  have hneg : n < 0 → hDup n = false ∧ hQos n = 0 ∧ hRet n = false := fun h => by rw [← hn] at h ⊢; exact hPub_neg h
  have hpos : ¬ n < 0 → hDup n = dup ∧ hQos n = qos ∧ hRet n = retain ∧ hRight 3 n = 0 := fun h => by rw [← hn] at h ⊢; exact hPub_pos h
  have Hn := hd hn; have Ha := hd ha; have Hb := hd hb; have Hc := hd hc; have Hr := hd hr
  clear hn ha hb hc hr
  by_cases h0 : n < 0
  · obtain ⟨x1, x2, x3⟩ := hneg h0
    have X1 := hd x1; have X2 := hd x2; have X3 := hd x3; have Hpt := hd hpt
    clear x1 x2 x3 hneg hpos hpt
    by_cases hr0 : r = 0
    · subst hr0
      have hp := Hpt.out rfl
      have Hp := hd hp; clear hp Hpt
      go_enter Tryd.func4, Tryd.ntmps4
      go_wp2_with fail
      refine (Publish_c _ _ _ _ HE.out).mono ?_
      rintro e w' ⟨rfl, rfl⟩
      rw [Hn.out]
      go_wp2_with fail
      refine (Told_c _ _ HE.out).mono ?_
      rintro e w' ⟨rfl, rfl⟩
      rw [X1.out, X2.out, X3.out]
      go_wp2_with fail
      refine (refPublish_c _ _ _ _).mono ?_
      rintro e w' ⟨rfl, rfl⟩
      rw [Hn.out]
      go_wp2_with fail
      refine (Told_c _ _ HE.out).mono ?_
      rintro e w' ⟨rfl, rfl⟩
      rw [Ha.out, Hb.out, Hc.out]
      go_wp2_with fail
      refine (refTold_c _ _).mono ?_
      rintro e w' ⟨rfl, rfl⟩
      rw [Ha.out, Hb.out, Hc.out]
      go_wp2_with fail
      refine (Right_c _ _ _ HE.out).mono ?_
      rintro e w' ⟨rfl, rfl⟩
      rw [Hr.out]
      go_wp2_with fail
      refine (Publish_c _ _ _ _ HE.out).mono ?_
      rintro e w' ⟨rfl, rfl⟩
      rw [Hp.out]
      go_wp2_with fail
      refine (awakeHead_c _ HE.out).mono ?_
      rintro e w1 ⟨rfl, hb1⟩
      go_wp2
      go_ret
      exact ⟨rfl, hb1⟩
    · have hrb : (r != 0) = true := by simpa using hr0
      clear Hpt hr0
      go_enter Tryd.func4, Tryd.ntmps4
      go_wp2_with fail
      refine (Publish_c _ _ _ _ HE.out).mono ?_
      rintro e w' ⟨rfl, rfl⟩
      rw [Hn.out]
      go_wp2_with fail
      refine (Told_c _ _ HE.out).mono ?_
      rintro e w' ⟨rfl, rfl⟩
      rw [X1.out, X2.out, X3.out]
      go_wp2_with fail
      refine (refPublish_c _ _ _ _).mono ?_
      rintro e w' ⟨rfl, rfl⟩
      rw [Hn.out]
      go_wp2_with fail
      refine (Told_c _ _ HE.out).mono ?_
      rintro e w' ⟨rfl, rfl⟩
      rw [Ha.out, Hb.out, Hc.out]
      go_wp2_with fail
      refine (refTold_c _ _).mono ?_
      rintro e w' ⟨rfl, rfl⟩
      rw [Ha.out, Hb.out, Hc.out]
      go_wp2_with fail
      refine (Right_c _ _ _ HE.out).mono ?_
      rintro e w' ⟨rfl, rfl⟩
      rw [Hr.out]
      go_wp2_with fail
      refine (awakeHead_c _ HE.out).mono ?_
      rintro e w1 ⟨rfl, hb1⟩
      go_wp2
      go_ret
      exact ⟨rfl, hb1⟩
  · obtain ⟨x1, x2, x3, x4⟩ := hpos h0
    have X1 := hd x1; have X2 := hd x2; have X3 := hd x3; have X4 := hd x4; have Hpt := hd hpt
    clear x1 x2 x3 x4 hneg hpos hpt
    by_cases hr0 : r = 0
    · subst hr0
      have hp := Hpt.out rfl
      have Hp := hd hp; clear hp Hpt
      go_enter Tryd.func4, Tryd.ntmps4
      go_wp2_with fail
      refine (Publish_c _ _ _ _ HE.out).mono ?_
      rintro e w' ⟨rfl, rfl⟩
      rw [Hn.out]
      go_wp2_with fail
      refine (Told_c _ _ HE.out).mono ?_
      rintro e w' ⟨rfl, rfl⟩
      rw [X1.out, X2.out, X3.out]
      go_wp2_with fail
      refine (refPublish_c _ _ _ _).mono ?_
      rintro e w' ⟨rfl, rfl⟩
      rw [Hn.out]
      go_wp2_with fail
      refine (Right_c _ _ _ HE.out).mono ?_
      rintro e w' ⟨rfl, rfl⟩
      rw [X4.out]
      go_wp2_with fail
      refine (Told_c _ _ HE.out).mono ?_
      rintro e w' ⟨rfl, rfl⟩
      rw [Ha.out, Hb.out, Hc.out]
      go_wp2_with fail
      refine (refTold_c _ _).mono ?_
      rintro e w' ⟨rfl, rfl⟩
      rw [Ha.out, Hb.out, Hc.out]
      go_wp2_with fail
      refine (Right_c _ _ _ HE.out).mono ?_
      rintro e w' ⟨rfl, rfl⟩
      rw [Hr.out]
      go_wp2_with fail
      refine (Publish_c _ _ _ _ HE.out).mono ?_
      rintro e w' ⟨rfl, rfl⟩
      rw [Hp.out]
      go_wp2_with fail
      refine (awakeHead_c _ HE.out).mono ?_
      rintro e w1 ⟨rfl, hb1⟩
      go_wp2
      go_ret
      exact ⟨rfl, hb1⟩
    · have hrb : (r != 0) = true := by simpa using hr0
      clear Hpt hr0
      go_enter Tryd.func4, Tryd.ntmps4
      go_wp2_with fail
      refine (Publish_c _ _ _ _ HE.out).mono ?_
      rintro e w' ⟨rfl, rfl⟩
      rw [Hn.out]
      go_wp2_with fail
      refine (Told_c _ _ HE.out).mono ?_
      rintro e w' ⟨rfl, rfl⟩
      rw [X1.out, X2.out, X3.out]
      go_wp2_with fail
      refine (refPublish_c _ _ _ _).mono ?_
      rintro e w' ⟨rfl, rfl⟩
      rw [Hn.out]
      go_wp2_with fail
      refine (Right_c _ _ _ HE.out).mono ?_
      rintro e w' ⟨rfl, rfl⟩
      rw [X4.out]
      go_wp2_with fail
      refine (Told_c _ _ HE.out).mono ?_
      rintro e w' ⟨rfl, rfl⟩
      rw [Ha.out, Hb.out, Hc.out]
      go_wp2_with fail
      refine (refTold_c _ _).mono ?_
      rintro e w' ⟨rfl, rfl⟩
      rw [Ha.out, Hb.out, Hc.out]
      go_wp2_with fail
      refine (Right_c _ _ _ HE.out).mono ?_
      rintro e w' ⟨rfl, rfl⟩
      rw [Hr.out]
      go_wp2_with fail
      refine (awakeHead_c _ HE.out).mono ?_
      rintro e w1 ⟨rfl, hb1⟩
      go_wp2
      go_ret
      exact ⟨rfl, hb1⟩
end Go.Proofs.YtkjkimebjhlhmaaDoor
