/- Levels of texts: any text: the walk. -/
import Derived.Test.YtopopdghmfbciaaDoorLevJoin
namespace Go.Proofs.YtopopdghmfbciaaDoor
open Go.RowKit
set_option linter.unusedVariables false
set_option linter.unusedSimpArgs false

set_option maxRecDepth 100000 in
set_option maxHeartbeats 4000000 in
theorem LevelPlays_w (l : List UInt8) (q : List (List UInt8)) (vq : Value) (w : World) (hE : EnvU w) (hs : l.length ≤ 9223372036854775000) (hq : Ls w vq q) (hqj : (lJoin q).length ≤ 100000000) (hqm : q.length ≤ 100000000) :
    Calls Tryd.prog 9 #[.string (sOf l), vq] w fun e w' => e = .returned (.bool true) ∧ Below w.heap.size w w' := by
  have HE := hd hE; clear hE
  have hsz := sOf_sizeL l
  have HQ := hd hq
  obtain ⟨qa, qc, rfl⟩ := hq.slice
  clear hq
  have HJ := hd hqj
  clear hqj
  by_cases h1 : 3000 < l.length
  · have h1i : (3000 : Int) < (l.length : Int) := by omega
    go_enter Tryd.func9, Tryd.ntmps9
    go_wp2_with fail
    refine (awake17_c _ HE.out).mono ?_
    rintro e w3 ⟨rfl, hb2⟩
    go_wp2_with fail
    go_ret
    exact ⟨rfl, hb2⟩
  have h1i : ¬ (3000 : Int) < (l.length : Int) := by omega
  by_cases h2 : 60 < q.length
  · have h2i : (60 : Int) < (q.length : Int) := by omega
    go_enter Tryd.func9, Tryd.ntmps9
    go_wp2_with fail
    refine (awake17_c _ HE.out).mono ?_
    rintro e w3 ⟨rfl, hb2⟩
    go_wp2_with fail
    go_ret
    exact ⟨rfl, hb2⟩
  have h2i : ¬ (60 : Int) < (q.length : Int) := by omega
  have hl3 : l.length ≤ 3000 := by omega
  have hq6 : q.length ≤ 60 := by omega
  clear h1 h2
  go_enter Tryd.func9, Tryd.ntmps9
  go_wp2_with fail
  refine (Split_c l _ (by omega)).mono ?_
  rintro e w1 ⟨v1, rfl, ho1, hb⟩
  have L1 := hd ho1.ls
  clear ho1
  go_wp2_with fail
  refine (refSplit_c l _ (by omega)).mono ?_
  rintro e w2 ⟨v2, rfl, ho2, hb2⟩
  have L1' := hd (L1.out.below' hb2 (Nat.le_refl _))
  have L2 := hd ho2.ls
  replace hb := Below.up hb hb2
  clear ho2 hb2 L1
  have hpl := lSplit_len l
  have hcl : l.count 47 ≤ l.length := List.count_le_length
  have hp3 : (lSplit l).length ≤ 100000000 := by omega
  clear hpl hcl
  go_wp2_with fail
  refine (same17_c _ _ _ _ L1'.out L2.out hp3).mono ?_
  rintro e w3 ⟨rfl, m, rfl⟩
  replace hb := below_dn hb m
  clear L1' L2 hp3
  go_wp2_with fail
  refine (Name_c l _ (HE.out.below hb) hs).mono ?_
  obtain ⟨b1, hb1⟩ : ∃ b, lName l = b := ⟨_, rfl⟩
  rw [hb1]
  have H1 := hd hb1; clear hb1
  rintro e w4 ⟨rfl, hb2⟩
  replace hb := Below.up hb hb2
  clear hb2
  go_wp2_with fail
  refine (refName_c l _ hs).mono ?_
  rw [H1.out]
  rintro e w5 ⟨rfl, hb2⟩
  replace hb := Below.up hb hb2
  clear hb2 H1
  have hbb : (b1 == b1) = true := by simp
  go_wp2_with fail
  refine (Filter_c l _ (HE.out.below hb) hs).mono ?_
  obtain ⟨b2, hb1⟩ : ∃ b, lFilter l = b := ⟨_, rfl⟩
  rw [hb1]
  have H1 := hd hb1; clear hb1
  rintro e w6 ⟨rfl, hb2⟩
  replace hb := Below.up hb hb2
  clear hb2
  go_wp2_with fail
  refine (refFilter_c l _ hs).mono ?_
  rw [H1.out]
  rintro e w7 ⟨rfl, hb2⟩
  replace hb := Below.up hb hb2
  clear hb2 H1 hbb
  have hbb : (b2 == b2) = true := by simp
  go_wp2_with fail
  refine (Hidden_c l _).mono ?_
  obtain ⟨b3, hb1⟩ : ∃ b, lHidden l = b := ⟨_, rfl⟩
  rw [hb1]
  have H1 := hd hb1; clear hb1
  rintro e w8 ⟨rfl, rfl⟩
  go_wp2_with fail
  refine (refHidden_c l _ hs).mono ?_
  rw [H1.out]
  rintro e w9 ⟨rfl, rfl⟩
  clear H1 hbb
  have hbb : (b3 == b3) = true := by simp
  have HQ2 := hd (HQ.out.below' hb (Nat.le_refl _))
  go_wp2_with fail
  refine (Join_c q _ _ HQ2.out (by omega) (by have := HJ.out; omega)).mono ?_
  rintro e w10 ⟨rfl, hb2⟩
  have HQ3 := hd (HQ2.out.below' hb2 (Nat.le_refl _))
  replace hb := Below.up hb hb2
  clear hb2 HQ2 hbb
  go_wp2_with fail
  refine (refJoin_c q _ _ HQ3.out (by omega) (by have := HJ.out; omega)).mono ?_
  rintro e w11 ⟨rfl, rfl⟩
  have htl := toList_sOf (lJoin q)
  have hll : (lJoin q == lJoin q) = true := by simp
  go_wp2_with fail
  refine (awake17_c _ (HE.out.below hb)).mono ?_
  rintro e w12 ⟨rfl, hb2⟩
  go_wp2_with fail
  go_ret
  exact ⟨rfl, Below.up hb hb2⟩

theorem LevelPlays_s (a : ByteArray) (v : Value) (l : List ByteArray) (w : World) (hE : EnvU w) (ha : a.size ≤ 140737488351232) (hq : Ls w v (l.map sB)) (h1 : (lJoin (l.map sB)).length ≤ 100000000) (h2 : (l.map sB).length ≤ 100000000) :
    Calls Tryd.prog 9 #[.string a, v] w fun e w' => e = .returned (.bool true) ∧ Below w.heap.size w w' := by
  have h := LevelPlays_w (sB a) (l.map sB) v w hE (by rw [sB_len]; omega) hq h1 h2
  rwa [sOf_sBL] at h
end Go.Proofs.YtopopdghmfbciaaDoor
