/- A bundle of texts (merged for the limit on files): ConRefF. -/
import Derived.Test.YtjlnlgemngpelaaGreatDoorZa27
/- Who comes: what stands behind Keep, by the reference: the walk, without a last will (printed by wip/gen/conref.py). -/
namespace Go.Proofs.YtjlnlgemngpelaaGreatDoor
open Go.RowKit
set_option linter.unusedVariables false
set_option linter.unusedSimpArgs false

set_option maxRecDepth 100000 in
set_option maxHeartbeats 32000000 in
theorem refRestF_c (c : Con) (v : Value) (l : List UInt8) (at' q : Int) (r : Bool) (w : World) (hv : Bs w v l) (hwl : c.hasWill = false) :
    Calls Tryz.prog 135 #[.agg c.cells.toArray, v, .int .i64 at', .int .i64 q, .bool r] w (GivesQ w (qRest c l (at', 0) q r)) := by
  obtain ⟨lv, cl, ke, cn, hw, tp, tx, qo, rt, hu, us, hp, ps⟩ := c
  simp only at hwl
  subst hwl
  obtain ⟨a, cc, rfl⟩ := hv.slice
  have hS : RQ w (((w.alloc (Obj.cells (Con.cells ⟨lv, cl, ke, cn, false, tp, tx, qo, rt, hu, us, hp, ps⟩).toArray 32)).alloc (Obj.cells Con.zero.cells.toArray 32)).alloc (Obj.cells (Con.cells ⟨lv, cl, ke, cn, false, tp, tx, qo, rt, hu, us, hp, ps⟩).toArray 32)) (w.heap.size + 1) (w.heap.size + 2) ⟨lv, cl, ke, cn, false, tp, tx, qo, rt, hu, us, hp, ps⟩ := by
    have h1 := (ConAt.new (w.alloc (Obj.cells (Con.cells ⟨lv, cl, ke, cn, false, tp, tx, qo, rt, hu, us, hp, ps⟩).toArray 32)) Con.zero).keep ((Below.refl _ _).alloc (Nat.le_refl _) (Obj.cells (Con.cells ⟨lv, cl, ke, cn, false, tp, tx, qo, rt, hu, us, hp, ps⟩).toArray 32)) (by simp)
    have h2 := ConAt.new ((w.alloc (Obj.cells (Con.cells ⟨lv, cl, ke, cn, false, tp, tx, qo, rt, hu, us, hp, ps⟩).toArray 32)).alloc (Obj.cells Con.zero.cells.toArray 32)) ⟨lv, cl, ke, cn, false, tp, tx, qo, rt, hu, us, hp, ps⟩
    rw [World.size_alloc] at h1
    rw [World.size_alloc, World.size_alloc] at h2
    exact ⟨h1, fun o => by simp [go_sem], h2, fun o => by simp [go_sem], by go_grown⟩
  have h4 : q4 l (at', 0) = ((uGet l at').2.1, (uGet l at').2.2) := rfl
  simp only [Con.cells, Con.zero] at hS ⊢
  go_enter Tryz.func135, Tryz.ntmps135
  go_wp2_with fail
  generalize (((w.alloc (Obj.cells _ 32)).alloc (Obj.cells _ 32)).alloc (Obj.cells _ 32)) = W0 at hS ⊢
  refine (refGet_c _ l at' _ (hv.below' hS.b (Nat.le_refl _))).mono ?_
  rintro e w1 ⟨rfl, hb⟩
  replace hS := hS.call hb
  clear hb
  generalize Eg : uGet l at' = g at h4 ⊢
  obtain ⟨g1, g2, g3⟩ := g
  simp only at h4 ⊢
  by_cases he : g3 = 0
  rotate_left
  · skip
    have heb : (g3 != 0) = true := by simpa using he
    have hQ := hd (qRest_bad (c := ⟨lv, cl, ke, cn, false, tp, tx, qo, rt, hu, us, hp, ps⟩) (q := q) (r := r) (((q4_bad) (by rw [h4]; exact he)).trans h4) he)
    have hccd := hS.cr
    simp only [ConAt, Con.zero] at hccd
    obtain ⟨d0, d1, d2, d3, d4, d5, d6, d7, d8, d9, d10, d11, d12, -⟩ := hccd
    have z0 := hS.fr 0
    have z1 := hS.fr 1
    have z2 := hS.fr 2
    have z3 := hS.fr 3
    have z4 := hS.fr 4
    have z5 := hS.fr 5
    have z6 := hS.fr 6
    have z7 := hS.fr 7
    have z8 := hS.fr 8
    have z9 := hS.fr 9
    have z10 := hS.fr 10
    have z11 := hS.fr 11
    have z12 := hS.fr 12
    go_wp2_with fail
    exact bodyPost_ret (qRead rfl rfl (hS.cr.put Con.zero)) rfl (qDone hQ.out (below_put hS.b (by omega) Con.zero))
  subst he
  have h6 := (q6_off l _).trans h4
  cases hu
  · skip
    have h7 := (q7_off _ l _).trans h6
    cases hp
    · skip
      have h8 := (q8_off _ _ l _).trans h7
      have hS2 := hd (hS.set3 (by omega) (by omega) (sOf g1))
      have H8 := hd h8
      have hcck := hS.con
      simp only [ConAt, Con.zero] at hcck
      obtain ⟨k0, k1, k2, k3, k4, k5, k6, k7, k8, k9, k10, k11, k12, -⟩ := hcck
      have y3 := hS.fc 3
      have hccd := hS.cr
      simp only [ConAt, Con.zero] at hccd
      obtain ⟨d0, d1, d2, d3, d4, d5, d6, d7, d8, d9, d10, d11, d12, -⟩ := hccd
      have z0 := hS.fr 0
      have z1 := hS.fr 1
      have z2 := hS.fr 2
      have z3 := hS.fr 3
      have z4 := hS.fr 4
      have z5 := hS.fr 5
      have z6 := hS.fr 6
      have z7 := hS.fr 7
      have z8 := hS.fr 8
      have z9 := hS.fr 9
      have z10 := hS.fr 10
      have z11 := hS.fr 11
      have z12 := hS.fr 12
      by_cases hX : g2 = (l.length : Int)
      rotate_left
      · skip
        have hXb : (g2 != (l.length : Int)) = true := by simpa using hX
        have hQ := hd (qRest_form (c := ⟨lv, cl, ke, cn, false, tp, tx, qo, rt, false, us, false, ps⟩) (q := q) (r := r) H8.out hX)
        clear H8 hX Eg h4 h6 h7 h8
        go_wp2_with fail
        exact bodyPost_ret (qRead rfl rfl (hS2.out.cr.put Con.zero)) rfl (qDone hQ.out (below_put hS2.out.b (by omega) Con.zero))
      have hQ := hd ((qRest_ok (c := ⟨lv, cl, ke, cn, false, tp, tx, qo, rt, false, us, false, ps⟩) (q := q) (r := r) H8.out hX).trans (show _ = ((⟨lv, cl, ke, sOf g1, false, tp, tx, qo, rt, false, us, false, ps⟩ : Con), (0 : Int)) by simp only [qCon, Eg, h4, h6, h7, h8, if_true, if_false, Bool.false_eq_true]))
      have hXb : (g2 != (l.length : Int)) = false := by simpa using hX
      clear H8 hX Eg h4 h6 h7 h8
      go_wp2_with fail
      exact bodyPost_ret (qRead rfl rfl (hS2.out.cr.put ⟨lv, cl, ke, sOf g1, false, tp, tx, qo, rt, false, us, false, ps⟩)) rfl (qDone hQ.out (below_put hS2.out.b (by omega) ⟨lv, cl, ke, sOf g1, false, tp, tx, qo, rt, false, us, false, ps⟩))
    · skip
      have hccd := hS.con
      simp only [ConAt, Con.zero] at hccd
      obtain ⟨-, -, -, d3, d4, -, -, -, -, d9, -, d11, -, -⟩ := hccd
      have z3 := hS.fc 3
      go_wp2_with fail
      clear d3 d4 d9 d11 z3
      replace hS := hS.set3 (by omega) (by omega) (sOf g1)
      have h8 := q8_on h7
      refine (refGetRaw_c _ l g2 _ (hv.below' hS.b (Nat.le_refl _))).mono ?_
      rintro e w1 ⟨rfl, hb⟩
      replace hS := hS.call hb
      clear hb
      generalize Ep : uGetRaw l g2 = g at h8 ⊢
      obtain ⟨p1, p2, p3⟩ := g
      simp only at h8 ⊢
      by_cases he : p3 = 0
      rotate_left
      · skip
        have heb : (p3 != 0) = true := by simpa using he
        have hQ := hd (qRest_bad (c := ⟨lv, cl, ke, cn, false, tp, tx, qo, rt, false, us, true, ps⟩) (q := q) (r := r) h8 he)
        have hccd := hS.cr
        simp only [ConAt, Con.zero] at hccd
        obtain ⟨d0, d1, d2, d3, d4, d5, d6, d7, d8, d9, d10, d11, d12, -⟩ := hccd
        have z0 := hS.fr 0
        have z1 := hS.fr 1
        have z2 := hS.fr 2
        have z3 := hS.fr 3
        have z4 := hS.fr 4
        have z5 := hS.fr 5
        have z6 := hS.fr 6
        have z7 := hS.fr 7
        have z8 := hS.fr 8
        have z9 := hS.fr 9
        have z10 := hS.fr 10
        have z11 := hS.fr 11
        have z12 := hS.fr 12
        go_wp2_with fail
        exact bodyPost_ret (qRead rfl rfl (hS.cr.put Con.zero)) rfl (qDone hQ.out (below_put hS.b (by omega) Con.zero))
      subst he
      have hS2 := hd (hS.set12 (by omega) (by omega) (sOf p1))
      have H8 := hd h8
      have hcck := hS.con
      simp only [ConAt, Con.zero] at hcck
      obtain ⟨k0, k1, k2, k3, k4, k5, k6, k7, k8, k9, k10, k11, k12, -⟩ := hcck
      have y12 := hS.fc 12
      have hccd := hS.cr
      simp only [ConAt, Con.zero] at hccd
      obtain ⟨d0, d1, d2, d3, d4, d5, d6, d7, d8, d9, d10, d11, d12, -⟩ := hccd
      have z0 := hS.fr 0
      have z1 := hS.fr 1
      have z2 := hS.fr 2
      have z3 := hS.fr 3
      have z4 := hS.fr 4
      have z5 := hS.fr 5
      have z6 := hS.fr 6
      have z7 := hS.fr 7
      have z8 := hS.fr 8
      have z9 := hS.fr 9
      have z10 := hS.fr 10
      have z11 := hS.fr 11
      have z12 := hS.fr 12
      by_cases hX : p2 = (l.length : Int)
      rotate_left
      · skip
        have hXb : (p2 != (l.length : Int)) = true := by simpa using hX
        have hQ := hd (qRest_form (c := ⟨lv, cl, ke, cn, false, tp, tx, qo, rt, false, us, true, ps⟩) (q := q) (r := r) H8.out hX)
        clear H8 hX Eg h4 h6 h7 Ep h8
        go_wp2_with fail
        exact bodyPost_ret (qRead rfl rfl (hS2.out.cr.put Con.zero)) rfl (qDone hQ.out (below_put hS2.out.b (by omega) Con.zero))
      have hQ := hd ((qRest_ok (c := ⟨lv, cl, ke, cn, false, tp, tx, qo, rt, false, us, true, ps⟩) (q := q) (r := r) H8.out hX).trans (show _ = ((⟨lv, cl, ke, sOf g1, false, tp, tx, qo, rt, false, us, true, sOf p1⟩ : Con), (0 : Int)) by simp only [qCon, Eg, h4, h6, h7, Ep, h8, if_true, if_false, Bool.false_eq_true]))
      have hXb : (p2 != (l.length : Int)) = false := by simpa using hX
      clear H8 hX Eg h4 h6 h7 Ep h8
      go_wp2_with fail
      exact bodyPost_ret (qRead rfl rfl (hS2.out.cr.put ⟨lv, cl, ke, sOf g1, false, tp, tx, qo, rt, false, us, true, sOf p1⟩)) rfl (qDone hQ.out (below_put hS2.out.b (by omega) ⟨lv, cl, ke, sOf g1, false, tp, tx, qo, rt, false, us, true, sOf p1⟩))
  · skip
    have hccd := hS.con
    simp only [ConAt, Con.zero] at hccd
    obtain ⟨-, -, -, d3, d4, -, -, -, -, d9, -, -, -, -⟩ := hccd
    have z3 := hS.fc 3
    go_wp2_with fail
    clear d3 d4 d9 z3
    replace hS := hS.set3 (by omega) (by omega) (sOf g1)
    have h7 := q7_on h6
    refine (refGet_c _ l g2 _ (hv.below' hS.b (Nat.le_refl _))).mono ?_
    rintro e w1 ⟨rfl, hb⟩
    replace hS := hS.call hb
    clear hb
    generalize Eu : uGet l g2 = g at h7 ⊢
    obtain ⟨u1, u2, u3⟩ := g
    simp only at h7 ⊢
    by_cases he : u3 = 0
    rotate_left
    · skip
      have heb : (u3 != 0) = true := by simpa using he
      have hQ := hd (qRest_bad (c := ⟨lv, cl, ke, cn, false, tp, tx, qo, rt, true, us, hp, ps⟩) (q := q) (r := r) (((q7_bad) (by rw [h7]; exact he)).trans h7) he)
      have hccd := hS.cr
      simp only [ConAt, Con.zero] at hccd
      obtain ⟨d0, d1, d2, d3, d4, d5, d6, d7, d8, d9, d10, d11, d12, -⟩ := hccd
      have z0 := hS.fr 0
      have z1 := hS.fr 1
      have z2 := hS.fr 2
      have z3 := hS.fr 3
      have z4 := hS.fr 4
      have z5 := hS.fr 5
      have z6 := hS.fr 6
      have z7 := hS.fr 7
      have z8 := hS.fr 8
      have z9 := hS.fr 9
      have z10 := hS.fr 10
      have z11 := hS.fr 11
      have z12 := hS.fr 12
      go_wp2_with fail
      exact bodyPost_ret (qRead rfl rfl (hS.cr.put Con.zero)) rfl (qDone hQ.out (below_put hS.b (by omega) Con.zero))
    subst he
    cases hp
    · skip
      have h8 := (q8_off _ _ l _).trans h7
      have hS2 := hd (hS.set10 (by omega) (by omega) (sOf u1))
      have H8 := hd h8
      have hcck := hS.con
      simp only [ConAt, Con.zero] at hcck
      obtain ⟨k0, k1, k2, k3, k4, k5, k6, k7, k8, k9, k10, k11, k12, -⟩ := hcck
      have y10 := hS.fc 10
      have hccd := hS.cr
      simp only [ConAt, Con.zero] at hccd
      obtain ⟨d0, d1, d2, d3, d4, d5, d6, d7, d8, d9, d10, d11, d12, -⟩ := hccd
      have z0 := hS.fr 0
      have z1 := hS.fr 1
      have z2 := hS.fr 2
      have z3 := hS.fr 3
      have z4 := hS.fr 4
      have z5 := hS.fr 5
      have z6 := hS.fr 6
      have z7 := hS.fr 7
      have z8 := hS.fr 8
      have z9 := hS.fr 9
      have z10 := hS.fr 10
      have z11 := hS.fr 11
      have z12 := hS.fr 12
      by_cases hX : u2 = (l.length : Int)
      rotate_left
      · skip
        have hXb : (u2 != (l.length : Int)) = true := by simpa using hX
        have hQ := hd (qRest_form (c := ⟨lv, cl, ke, cn, false, tp, tx, qo, rt, true, us, false, ps⟩) (q := q) (r := r) H8.out hX)
        clear H8 hX Eg h4 h6 Eu h7 h8
        go_wp2_with fail
        exact bodyPost_ret (qRead rfl rfl (hS2.out.cr.put Con.zero)) rfl (qDone hQ.out (below_put hS2.out.b (by omega) Con.zero))
      have hQ := hd ((qRest_ok (c := ⟨lv, cl, ke, cn, false, tp, tx, qo, rt, true, us, false, ps⟩) (q := q) (r := r) H8.out hX).trans (show _ = ((⟨lv, cl, ke, sOf g1, false, tp, tx, qo, rt, true, sOf u1, false, ps⟩ : Con), (0 : Int)) by simp only [qCon, Eg, h4, h6, Eu, h7, h8, if_true, if_false, Bool.false_eq_true]))
      have hXb : (u2 != (l.length : Int)) = false := by simpa using hX
      clear H8 hX Eg h4 h6 Eu h7 h8
      go_wp2_with fail
      exact bodyPost_ret (qRead rfl rfl (hS2.out.cr.put ⟨lv, cl, ke, sOf g1, false, tp, tx, qo, rt, true, sOf u1, false, ps⟩)) rfl (qDone hQ.out (below_put hS2.out.b (by omega) ⟨lv, cl, ke, sOf g1, false, tp, tx, qo, rt, true, sOf u1, false, ps⟩))
    · skip
      have hccd := hS.con
      simp only [ConAt, Con.zero] at hccd
      obtain ⟨-, -, -, -, -, -, -, -, -, -, d10, d11, -, -⟩ := hccd
      have z10 := hS.fc 10
      go_wp2_with fail
      clear d10 d11 z10
      replace hS := hS.set10 (by omega) (by omega) (sOf u1)
      have h8 := q8_on h7
      refine (refGetRaw_c _ l u2 _ (hv.below' hS.b (Nat.le_refl _))).mono ?_
      rintro e w1 ⟨rfl, hb⟩
      replace hS := hS.call hb
      clear hb
      generalize Ep : uGetRaw l u2 = g at h8 ⊢
      obtain ⟨p1, p2, p3⟩ := g
      simp only at h8 ⊢
      by_cases he : p3 = 0
      rotate_left
      · skip
        have heb : (p3 != 0) = true := by simpa using he
        have hQ := hd (qRest_bad (c := ⟨lv, cl, ke, cn, false, tp, tx, qo, rt, true, us, true, ps⟩) (q := q) (r := r) h8 he)
        have hccd := hS.cr
        simp only [ConAt, Con.zero] at hccd
        obtain ⟨d0, d1, d2, d3, d4, d5, d6, d7, d8, d9, d10, d11, d12, -⟩ := hccd
        have z0 := hS.fr 0
        have z1 := hS.fr 1
        have z2 := hS.fr 2
        have z3 := hS.fr 3
        have z4 := hS.fr 4
        have z5 := hS.fr 5
        have z6 := hS.fr 6
        have z7 := hS.fr 7
        have z8 := hS.fr 8
        have z9 := hS.fr 9
        have z10 := hS.fr 10
        have z11 := hS.fr 11
        have z12 := hS.fr 12
        go_wp2_with fail
        exact bodyPost_ret (qRead rfl rfl (hS.cr.put Con.zero)) rfl (qDone hQ.out (below_put hS.b (by omega) Con.zero))
      subst he
      have hS2 := hd (hS.set12 (by omega) (by omega) (sOf p1))
      have H8 := hd h8
      have hcck := hS.con
      simp only [ConAt, Con.zero] at hcck
      obtain ⟨k0, k1, k2, k3, k4, k5, k6, k7, k8, k9, k10, k11, k12, -⟩ := hcck
      have y12 := hS.fc 12
      have hccd := hS.cr
      simp only [ConAt, Con.zero] at hccd
      obtain ⟨d0, d1, d2, d3, d4, d5, d6, d7, d8, d9, d10, d11, d12, -⟩ := hccd
      have z0 := hS.fr 0
      have z1 := hS.fr 1
      have z2 := hS.fr 2
      have z3 := hS.fr 3
      have z4 := hS.fr 4
      have z5 := hS.fr 5
      have z6 := hS.fr 6
      have z7 := hS.fr 7
      have z8 := hS.fr 8
      have z9 := hS.fr 9
      have z10 := hS.fr 10
      have z11 := hS.fr 11
      have z12 := hS.fr 12
      by_cases hX : p2 = (l.length : Int)
      rotate_left
      · skip
        have hXb : (p2 != (l.length : Int)) = true := by simpa using hX
        have hQ := hd (qRest_form (c := ⟨lv, cl, ke, cn, false, tp, tx, qo, rt, true, us, true, ps⟩) (q := q) (r := r) H8.out hX)
        clear H8 hX Eg h4 h6 Eu h7 Ep h8
        go_wp2_with fail
        exact bodyPost_ret (qRead rfl rfl (hS2.out.cr.put Con.zero)) rfl (qDone hQ.out (below_put hS2.out.b (by omega) Con.zero))
      have hQ := hd ((qRest_ok (c := ⟨lv, cl, ke, cn, false, tp, tx, qo, rt, true, us, true, ps⟩) (q := q) (r := r) H8.out hX).trans (show _ = ((⟨lv, cl, ke, sOf g1, false, tp, tx, qo, rt, true, sOf u1, true, sOf p1⟩ : Con), (0 : Int)) by simp only [qCon, Eg, h4, h6, Eu, h7, Ep, h8, if_true, if_false, Bool.false_eq_true]))
      have hXb : (p2 != (l.length : Int)) = false := by simpa using hX
      clear H8 hX Eg h4 h6 Eu h7 Ep h8
      go_wp2_with fail
      exact bodyPost_ret (qRead rfl rfl (hS2.out.cr.put ⟨lv, cl, ke, sOf g1, false, tp, tx, qo, rt, true, sOf u1, true, sOf p1⟩)) rfl (qDone hQ.out (below_put hS2.out.b (by omega) ⟨lv, cl, ke, sOf g1, false, tp, tx, qo, rt, true, sOf u1, true, sOf p1⟩))
end Go.Proofs.YtjlnlgemngpelaaGreatDoor
