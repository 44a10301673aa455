/- Spots and topics: one each: the walk. -/
import Derived.Test.YtopopdghmfbciaaDoorSpOf2
import Derived.Test.YtopopdghmfbciaaDoorSpOpen
namespace Go.Proofs.YtopopdghmfbciaaDoor
open Go.RowKit
set_option linter.unusedVariables false
set_option linter.unusedSimpArgs false

set_option maxRecDepth 100000 in
set_option maxHeartbeats 4000000 in
theorem SpaceOne_w (a b : SpS) (w : World) (hE : EnvU w) (hW : EnvW w) (ha : a.sized) (hbz : b.sized) :
    Calls Tryd.prog 11 #[spV a, spV b] w fun e w' => e = .returned (.bool true) ∧ Below w.heap.size w w' := by
  have HE := hd hE; have HW := hd hW
  clear hE hW
  obtain ⟨ka, ga, na, da⟩ := a
  obtain ⟨kb, gb, nb, db⟩ := b
  obtain ⟨a1, a2, a3⟩ := ha
  obtain ⟨b1, b2, b3⟩ := hbz
  simp only at a1 a2 a3 b1 b2 b3
  obtain ⟨t, e, hp⟩ : ∃ t e, sPut ⟨ka, ga, na, da⟩ = (t, e) := ⟨_, _, rfl⟩
  obtain ⟨u, f, hq⟩ : ∃ t e, sPut ⟨kb, gb, nb, db⟩ = (t, e) := ⟨_, _, rfl⟩
  have HP := hd hp; have HQ := hd hq
  clear hp hq
  have htt := toList_sOf t
  have htu := toList_sOf u
  have hga := toList_sOf ga; have hna := toList_sOf na; have hda := toList_sOf da
  have hgb := toList_sOf gb; have hnb := toList_sOf nb; have hdb := toList_sOf db
  unfold spV
  go_enter Tryd.func11, Tryd.ntmps11
  go_wp2_with fail
  have hA := SpAt.new w ka ga na da
  have hal : Below (w.alloc (.cells #[.int .i64 ka, .string (sOf ga), .string (sOf na), .string (sOf da)] 33)).heap.size (w.alloc (.cells #[.int .i64 ka, .string (sOf ga), .string (sOf na), .string (sOf da)] 33)) ((w.alloc (.cells #[.int .i64 ka, .string (sOf ga), .string (sOf na), .string (sOf da)] 33)).alloc (.cells #[.int .i64 kb, .string (sOf gb), .string (sOf nb), .string (sOf db)] 33)) := (Below.refl _ _).alloc (Nat.le_refl _) _
  replace hA := hA.keep hal hA.2.2.2.2
  have hB := SpAt.new (w.alloc (.cells #[.int .i64 ka, .string (sOf ga), .string (sOf na), .string (sOf da)] 33)) kb gb nb db
  rw [World.size_alloc] at hB
  have hb : Below w.heap.size w ((w.alloc (.cells #[.int .i64 ka, .string (sOf ga), .string (sOf na), .string (sOf da)] 33)).alloc (.cells #[.int .i64 kb, .string (sOf gb), .string (sOf nb), .string (sOf db)] 33)) := by go_grown
  clear hal
  refine (Put_c ⟨ka, ga, na, da⟩ _ (HE.out.below hb) (HW.out.below hb (Nat.le_refl _)) (by simp only; omega) (by simp only; omega) (by simp only; omega)).mono ?_
  rw [HP.out]
  rintro e1 w1 ⟨rfl, hx⟩
  replace hA := hA.keep hx hA.2.2.2.2
  replace hB := hB.keep hx hB.2.2.2.2
  replace hb := Below.up hb hx
  clear hx
  have HA := hd hA; have HB := hd hB
  clear hA
  obtain ⟨d0, d1, d2, d3, d4⟩ := hB
  go_wp2_with fail
  refine (Put_c ⟨kb, gb, nb, db⟩ _ (HE.out.below hb) (HW.out.below hb (Nat.le_refl _)) (by simp only; omega) (by simp only; omega) (by simp only; omega)).mono ?_
  rw [HQ.out]
  rintro e2 w2 ⟨rfl, hx⟩
  have hA := HA.out.keep hx HA.out.2.2.2.2
  have hB := HB.out.keep hx HB.out.2.2.2.2
  replace hb := Below.up hb hx
  clear hx d0 d1 d2 d3 d4 HA HB
  obtain ⟨c0, c1, c2, c3, c4⟩ := hA
  obtain ⟨d0, d1, d2, d3, d4⟩ := hB
  by_cases he : e = 0
  rotate_left
  · have he1 : (e != 0) = true := by simpa using he
    clear he
    go_wp2_with fail
    refine (awake20_c _ (HE.out.below hb) (HW.out.below hb (Nat.le_refl _))).mono ?_
    rintro e w3 ⟨rfl, hx⟩
    go_wp2_with fail
    go_ret
    exact ⟨rfl, Below.up hb hx⟩
  subst he
  by_cases hf : f = 0
  rotate_left
  · have hf1 : (f != 0) = true := by simpa using hf
    clear hf
    go_wp2_with fail
    refine (awake20_c _ (HE.out.below hb) (HW.out.below hb (Nat.le_refl _))).mono ?_
    rintro e w3 ⟨rfl, hx⟩
    go_wp2_with fail
    go_ret
    exact ⟨rfl, Below.up hb hx⟩
  subst hf
  have ht1 : sTell t = ⟨ka, ga, na, da⟩ := by have := (tell_put (s := ⟨ka, ga, na, da⟩) (by rw [HP.out])).1; rwa [HP.out] at this
  have hu1 : sTell u = ⟨kb, gb, nb, db⟩ := by have := (tell_put (s := ⟨kb, gb, nb, db⟩) (by rw [HQ.out])).1; rwa [HQ.out] at this
  have T1 := hd ht1; have U1 := hd hu1
  clear ht1 hu1
  by_cases heq : (⟨ka, ga, na, da⟩ : SpS) = ⟨kb, gb, nb, db⟩
  · obtain ⟨rfl, rfl, rfl, rfl⟩ : ka = kb ∧ ga = gb ∧ na = nb ∧ da = db := by simpa using heq
    have htu' : t = u := by have h1 := HP.out; rw [HQ.out] at h1; exact (Prod.mk.inj h1).1.symm
    subst htu'
    have hll : (t == t) = true := by simp
    clear heq
    go_wp2_with fail
    refine (awake20_c _ (HE.out.below hb) (HW.out.below hb (Nat.le_refl _))).mono ?_
    rintro e w3 ⟨rfl, hx⟩
    go_wp2_with fail
    go_ret
    exact ⟨rfl, Below.up hb hx⟩
  · have htn : (t == u) = false := by
      rw [beq_eq_false_iff_ne]
      intro h
      subst h
      exact heq (T1.out.symm.trans U1.out)
    have HNE := hd heq
    clear heq
    by_cases h0 : ka = kb
    rotate_left
    · skip
      go_wp2_with fail
      refine (awake20_c _ (HE.out.below hb) (HW.out.below hb (Nat.le_refl _))).mono ?_
      rintro e w3 ⟨rfl, hx⟩
      go_wp2_with fail
      go_ret
      exact ⟨rfl, Below.up hb hx⟩
    subst h0
    by_cases h1 : ga = gb
    rotate_left
    · skip
      go_wp2_with fail
      refine (awake20_c _ (HE.out.below hb) (HW.out.below hb (Nat.le_refl _))).mono ?_
      rintro e w3 ⟨rfl, hx⟩
      go_wp2_with fail
      go_ret
      exact ⟨rfl, Below.up hb hx⟩
    subst h1
    by_cases h2 : na = nb
    rotate_left
    · skip
      go_wp2_with fail
      refine (awake20_c _ (HE.out.below hb) (HW.out.below hb (Nat.le_refl _))).mono ?_
      rintro e w3 ⟨rfl, hx⟩
      go_wp2_with fail
      go_ret
      exact ⟨rfl, Below.up hb hx⟩
    subst h2
    by_cases h3 : da = db
    rotate_left
    · skip
      go_wp2_with fail
      refine (awake20_c _ (HE.out.below hb) (HW.out.below hb (Nat.le_refl _))).mono ?_
      rintro e w3 ⟨rfl, hx⟩
      go_wp2_with fail
      go_ret
      exact ⟨rfl, Below.up hb hx⟩
    subst h3
    exact absurd rfl HNE.out
end Go.Proofs.YtopopdghmfbciaaDoor
