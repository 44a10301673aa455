/- Spots and topics: its node's birth: the walk. -/
import Derived.Test.YtopopdghmfbciaaDoorSpOf2
import Derived.Test.YtopopdghmfbciaaDoorSpOpen
namespace Go.Proofs.YtopopdghmfbciaaDoor
open Go.RowKit
set_option linter.unusedVariables false
set_option linter.unusedSimpArgs false

theorem put_len (s : SpS) : (sPut s).1.length ≤ 96 := by
  by_cases h : (sPut s).2 = 0
  · have h2 := (tell_put h).2
    unfold lName at h2
    rw [Bool.and_eq_true] at h2
    exact (lSized_len h2.1).2.1
  · rw [put_bad h]; simp
/-- What the births of a spot are. -/
theorem births_cases (g n d : List UInt8) (k : Int) : (sBirths ⟨k, g, n, d⟩ = ([], [])) ∨
    (∃ t, t ≠ [] ∧ t.length ≤ 96 ∧ sTell t = ⟨1, g, n, []⟩ ∧ d = [] ∧ sBirths ⟨k, g, n, d⟩ = (t, [])) ∨
    (∃ t u, t ≠ [] ∧ t.length ≤ 96 ∧ u.length ≤ 96 ∧ sTell t = ⟨1, g, n, []⟩ ∧ d ≠ [] ∧ sTell u = ⟨5, g, n, d⟩ ∧ sBirths ⟨k, g, n, d⟩ = (t, u)) := by
  unfold sBirths
  simp only
  by_cases h0 : (sPut ⟨k, g, n, d⟩).2 ≠ 0 ∨ k = 9
  · rw [if_pos h0]; exact .inl rfl
  rw [if_neg h0]
  by_cases h1 : (sPut ⟨1, g, n, []⟩).2 ≠ 0
  · rw [if_pos h1]; exact .inl rfl
  rw [if_neg h1]
  have t1 := tell_put (Classical.not_not.1 h1)
  by_cases hd : d = []
  · rw [if_pos hd]
    exact .inr (.inl ⟨_, name_ne t1.2, put_len _, t1.1, hd, rfl⟩)
  rw [if_neg hd]
  by_cases h5 : (sPut ⟨5, g, n, d⟩).2 ≠ 0
  · rw [if_pos h5]; exact .inl rfl
  rw [if_neg h5]
  have t5 := tell_put (Classical.not_not.1 h5)
  exact .inr (.inr ⟨_, _, name_ne t1.2, put_len _, put_len _, t1.1, hd, t5.1, rfl⟩)

set_option maxRecDepth 100000 in
set_option maxHeartbeats 4000000 in
theorem SpaceBirths_w (s : SpS) (w : World) (hE : EnvU w) (hW : EnvW w) (hs : s.sized) :
    Calls Tryd.prog 14 #[spV s] w fun e w' => e = .returned (.bool true) ∧ Below w.heap.size w w' := by
  have HE := hd hE; have HW := hd hW
  clear hE hW
  obtain ⟨k, g, n, d⟩ := s
  obtain ⟨a1, a2, a3⟩ := hs
  simp only at a1 a2 a3
  have hnil : (sOf []).toList = [] := toList_sOf _
  have htg := toList_sOf g; have htn := toList_sOf n; have htd := toList_sOf d
  have HC := hd (births_cases g n d k)
  have hS := SpAt.new w k g n d
  have hb : Below w.heap.size w (w.alloc (.cells #[.int .i64 k, .string (sOf g), .string (sOf n), .string (sOf d)] 33)) := by go_grown
  unfold spV
  go_enter Tryd.func14, Tryd.ntmps14
  go_wp2_with fail
  refine (Births_c ⟨k, g, n, d⟩ _ (HE.out.below hb) (HW.out.below hb (Nat.le_refl _)) (by simp only; omega) (by simp only; omega) (by simp only; omega)).mono ?_
  rintro e w1 ⟨rfl, hx⟩
  replace hS := hS.keep hx hS.2.2.2.2
  replace hb := Below.up hb hx
  clear hx
  rcases HC.out with hB | ⟨t, ht0, htl, htt, hd0, hB⟩ | ⟨t, u, ht0, htl, hul, htt, hd0, huu, hB⟩
  · rw [hB]
    clear HC hB
    simp only
    obtain ⟨z, hz⟩ : ∃ z, sTell [] = z := ⟨_, rfl⟩
    obtain ⟨kz, gz, nz, dz⟩ := z
    have HX := hd hz; have HY := hd hz
    clear hz
    obtain ⟨c0, c1, c2, c3, c4⟩ := hS
    have HS := hd (show SpAt w1 w.heap.size k g n d from ⟨c0, c1, c2, c3, c4⟩)
    go_wp2_with fail
    refine (Of_c [] _ (HE.out.below hb) (HW.out.below hb (Nat.le_refl _)) (by simp)).mono ?_
    rw [HX.out]
    rintro e w2 ⟨rfl, hx⟩
    replace HS := hd (HS.out.keep hx HS.out.2.2.2.2)
    replace hb := Below.up hb hx
    clear hx c0 c1 c2 c3 c4
    simp only [spV]
    go_wp2_with fail
    have hXA := SpAt.new w2 kz gz nz dz
    have hal : Below w2.heap.size w2 (w2.alloc (.cells #[.int .i64 kz, .string (sOf gz), .string (sOf nz), .string (sOf dz)] 33)) := by go_grown
    replace hb := Below.up hb hal
    refine (Of_c [] _ (HE.out.below hb) (HW.out.below hb (Nat.le_refl _)) (by simp)).mono ?_
    rw [HY.out]
    rintro e w3 ⟨rfl, hx⟩
    replace hXA := hXA.keep hx hXA.2.2.2.2
    have hS := (HS.out.keep hal HS.out.2.2.2.2)
    replace hS := hS.keep hx hS.2.2.2.2
    replace hb := Below.up hb hx
    clear hx hal HS
    obtain ⟨c0, c1, c2, c3, c4⟩ := hS
    obtain ⟨x0, x1, x2, x3, x4⟩ := hXA
    simp only [spV]
    have hb4 : Below w.heap.size w (w3.alloc (.cells #[.int .i64 kz, .string (sOf gz), .string (sOf nz), .string (sOf dz)] 33)) := Below.up hb (by go_grown)
    go_wp2_with fail
    refine (awake20_c _ (HE.out.below hb4) (HW.out.below hb4 (Nat.le_refl _))).mono ?_
    rintro e w4 ⟨rfl, hx⟩
    go_wp2_with fail
    go_ret
    exact ⟨rfl, Below.up hb4 hx⟩
  · rw [hB]
    clear HC hB
    simp only
    obtain ⟨z, hz⟩ : ∃ z, sTell [] = z := ⟨_, rfl⟩
    obtain ⟨kz, gz, nz, dz⟩ := z
    have HX := hd htt; have HY := hd hz
    have ht := toList_sOf t
    have hte : t.isEmpty = false := by simpa using ht0
    have hde : d.isEmpty = true := by simpa using hd0
    clear hz htt ht0 hd0
    obtain ⟨c0, c1, c2, c3, c4⟩ := hS
    have HS := hd (show SpAt w1 w.heap.size k g n d from ⟨c0, c1, c2, c3, c4⟩)
    go_wp2_with fail
    refine (Of_c t _ (HE.out.below hb) (HW.out.below hb (Nat.le_refl _)) (by omega)).mono ?_
    rw [HX.out]
    rintro e w2 ⟨rfl, hx⟩
    replace HS := hd (HS.out.keep hx HS.out.2.2.2.2)
    replace hb := Below.up hb hx
    clear hx c0 c1 c2 c3 c4
    simp only [spV]
    go_wp2_with fail
    have hXA := SpAt.new w2 1 g n []
    have hal : Below w2.heap.size w2 (w2.alloc (.cells #[.int .i64 1, .string (sOf g), .string (sOf n), .string (sOf [])] 33)) := by go_grown
    replace hb := Below.up hb hal
    refine (Of_c [] _ (HE.out.below hb) (HW.out.below hb (Nat.le_refl _)) (by simp)).mono ?_
    rw [HY.out]
    rintro e w3 ⟨rfl, hx⟩
    replace hXA := hXA.keep hx hXA.2.2.2.2
    have hS := (HS.out.keep hal HS.out.2.2.2.2)
    replace hS := hS.keep hx hS.2.2.2.2
    replace hb := Below.up hb hx
    clear hx hal HS
    obtain ⟨c0, c1, c2, c3, c4⟩ := hS
    obtain ⟨x0, x1, x2, x3, x4⟩ := hXA
    simp only [spV]
    have hb4 : Below w.heap.size w (w3.alloc (.cells #[.int .i64 kz, .string (sOf gz), .string (sOf nz), .string (sOf dz)] 33)) := Below.up hb (by go_grown)
    go_wp2_with fail
    refine (awake20_c _ (HE.out.below hb4) (HW.out.below hb4 (Nat.le_refl _))).mono ?_
    rintro e w4 ⟨rfl, hx⟩
    go_wp2_with fail
    go_ret
    exact ⟨rfl, Below.up hb4 hx⟩
  · rw [hB]
    clear HC hB
    simp only
    have HX := hd htt; have HY := hd huu
    have ht := toList_sOf t
    have hu := toList_sOf u
    have hte : t.isEmpty = false := by simpa using ht0
    have hde : d.isEmpty = false := by simpa using hd0
    clear huu htt ht0 hd0
    obtain ⟨c0, c1, c2, c3, c4⟩ := hS
    have HS := hd (show SpAt w1 w.heap.size k g n d from ⟨c0, c1, c2, c3, c4⟩)
    go_wp2_with fail
    refine (Of_c t _ (HE.out.below hb) (HW.out.below hb (Nat.le_refl _)) (by omega)).mono ?_
    rw [HX.out]
    rintro e w2 ⟨rfl, hx⟩
    replace HS := hd (HS.out.keep hx HS.out.2.2.2.2)
    replace hb := Below.up hb hx
    clear hx c0 c1 c2 c3 c4
    simp only [spV]
    go_wp2_with fail
    have hXA := SpAt.new w2 1 g n []
    have hal : Below w2.heap.size w2 (w2.alloc (.cells #[.int .i64 1, .string (sOf g), .string (sOf n), .string (sOf [])] 33)) := by go_grown
    replace hb := Below.up hb hal
    refine (Of_c u _ (HE.out.below hb) (HW.out.below hb (Nat.le_refl _)) (by omega)).mono ?_
    rw [HY.out]
    rintro e w3 ⟨rfl, hx⟩
    replace hXA := hXA.keep hx hXA.2.2.2.2
    have hS := (HS.out.keep hal HS.out.2.2.2.2)
    replace hS := hS.keep hx hS.2.2.2.2
    replace hb := Below.up hb hx
    clear hx hal HS
    obtain ⟨c0, c1, c2, c3, c4⟩ := hS
    obtain ⟨x0, x1, x2, x3, x4⟩ := hXA
    simp only [spV]
    have hb4 : Below w.heap.size w (w3.alloc (.cells #[.int .i64 5, .string (sOf g), .string (sOf n), .string (sOf d)] 33)) := Below.up hb (by go_grown)
    go_wp2_with fail
    refine (awake20_c _ (HE.out.below hb4) (HW.out.below hb4 (Nat.le_refl _))).mono ?_
    rintro e w4 ⟨rfl, hx⟩
    go_wp2_with fail
    go_ret
    exact ⟨rfl, Below.up hb4 hx⟩
end Go.Proofs.YtopopdghmfbciaaDoor
