/- Levels of texts: awake; so long, so deep: plain facts and the walks. -/
import Derived.Test.YtopopdghmfbciaaDoorLevFilter
namespace Go.Proofs.YtopopdghmfbciaaDoor
open Go.RowKit
set_option linter.unusedVariables false
set_option linter.unusedSimpArgs false

theorem awk1 : (lSplit [97, 47, 47, 98]).length = 3 := by decide
theorem awk2 : lFilter [97, 47, 43, 47, 35] = true := by decide +kernel
theorem awk3 : lFilter [97, 43] = false := by decide +kernel
theorem awk4 : lName [97] = true := by decide +kernel
/-- a, and so many levels more -/
def dL (k : Nat) : List UInt8 := 97 :: (List.replicate k [47, 97]).flatten
theorem limA : ((List.range 256).all fun n => lName (List.replicate n 97) == decide (1 ≤ n ∧ n ≤ 96) && lFilter (List.replicate n 97) == decide (1 ≤ n ∧ n ≤ 96)) = true := by decide +kernel
theorem limD : ((List.range 20).all fun k => lName (dL k) == decide (1 + k ≤ 12) && lFilter (dL k) == decide (1 + k ≤ 12)) = true := by decide +kernel
theorem limA' {n : Nat} (h : n < 256) : lName (List.replicate n 97) = decide (1 ≤ n ∧ n ≤ 96) ∧ lFilter (List.replicate n 97) = decide (1 ≤ n ∧ n ≤ 96) := by
  have h := (List.all_eq_true.1 limA) n (List.mem_range.2 h)
  rw [Bool.and_eq_true] at h
  exact ⟨eq_of_beq h.1, eq_of_beq h.2⟩
theorem limD' {k : Nat} (h : k < 20) : lName (dL k) = decide (1 + k ≤ 12) ∧ lFilter (dL k) = decide (1 + k ≤ 12) := by
  have h := (List.all_eq_true.1 limD) k (List.mem_range.2 h)
  rw [Bool.and_eq_true] at h
  exact ⟨eq_of_beq h.1, eq_of_beq h.2⟩

set_option maxRecDepth 100000 in
set_option maxHeartbeats 4000000 in
theorem awake17_c (w : World) (hE : EnvU w) : Calls Tryd.prog 17 #[] w fun e w' => e = .returned (.bool true) ∧ Below w.heap.size w w' := by
  have HE := hd hE; clear hE
  go_enter Tryd.func17, Tryd.ntmps17
  go_wp2_with fail
  refine (Split_c [97, 47, 47, 98] _ (by decide)).mono ?_
  rintro e w1 ⟨v1, rfl, ho1, hb1⟩
  obtain ⟨a1, c1, rfl⟩ := ho1.ls.slice
  rw [awk1]
  clear ho1
  go_wp2_with fail
  refine (Filter_c [97, 47, 43, 47, 35] _ (HE.out.below hb1) (by decide)).mono ?_
  rw [awk2]
  rintro e w2 ⟨rfl, hb2⟩
  have hb := Below.up hb1 hb2
  go_wp2_with fail
  refine (Filter_c [97, 43] _ (HE.out.below hb) (by decide)).mono ?_
  rw [awk3]
  rintro e w3 ⟨rfl, hb3⟩
  replace hb := Below.up hb hb3
  go_wp2_with fail
  refine (Name_c [97] _ (HE.out.below hb) (by decide)).mono ?_
  rw [awk4]
  rintro e w4 ⟨rfl, hb4⟩
  replace hb := Below.up hb hb4
  go_wp2_with fail
  go_ret
  exact ⟨rfl, hb⟩
theorem sOf_add (A B : List UInt8) : sOf A ++ sOf B = sOf (A ++ B) := by
  have e : ∀ t : ByteArray, sOf (sB t) = t := fun t => by cases t; simp [sOf, sB]
  rw [← e (sOf A ++ sOf B)]
  simp [sB, sOf]
theorem dL_succ (k : Nat) : dL k ++ [47, 97] = dL (k + 1) := by
  unfold dL
  rw [List.replicate_succ', List.flatten_append]
  simp
theorem dL_len (k : Nat) : (dL k).length = 1 + 2 * k := by
  induction k with
  | zero => rfl
  | succ k ih => rw [← dL_succ, List.length_append, ih]; simp; omega
theorem rep_succ (k : Nat) : List.replicate k (97 : UInt8) ++ [97] = List.replicate (k + 1) 97 := by rw [List.replicate_succ']

set_option maxRecDepth 100000 in
set_option maxHeartbeats 4000000 in
theorem LevelLimits_w (n k : Int) (w : World) (hE : EnvU w) (hn : 0 ≤ n ∧ n ≤ 255) (hk : 0 ≤ k ∧ k ≤ 255) :
    Calls Tryd.prog 3 #[.int .u8 n, .int .u8 k] w fun e w' => e = .returned (.bool true) ∧ Below w.heap.size w w' := by
  have HE := hd hE; clear hE
  obtain ⟨N, rfl⟩ := Int.eq_ofNat_of_zero_le hn.1
  obtain ⟨M, rfl⟩ := Int.eq_ofNat_of_zero_le hk.1
  go_enter Tryd.func3, Tryd.ntmps3
  go_wp2_with fail
  go_loopw [5, 6] (fun s i w' => ∃ j : Nat, i = .int .i64 j ∧ s = .string (sOf (List.replicate j 97)) ∧ j ≤ N ∧ w' = w) (fun _ i _ => leftL N i)
  case atStart => exact ⟨0, rfl, rfl, by omega, rfl⟩
  case round =>
    obtain ⟨j, rfl, rfl, hj, rfl⟩ := hrel
    by_cases hjn : j < N
    · have hsz : (sOf (List.replicate j 97)).size = j := by rw [sOf_sizeL, List.length_replicate]
      go_wp2_with fail
      go_roundw
      case rel => exact ⟨j + 1, by congr 1, by rw [← rep_succ, ← sOf_add]; rfl, by omega, trivial⟩
      case measure => simp [leftL]; omega
    · have hje : j = N := by omega
      subst hje
      go_wp2_with fail
      go_loopw [7, 8] (fun s i w' => ∃ q : Nat, i = .int .i64 q ∧ s = .string (sOf (dL q)) ∧ q ≤ M % 20 ∧ w' = wr) (fun _ i _ => leftL (M % 20) i)
      case atStart => exact ⟨0, rfl, rfl, by omega, rfl⟩
      case round =>
        obtain ⟨q, rfl, rfl, hq, rfl⟩ := hrel
        by_cases hqn : q < M % 20
        · have hsz : (sOf (dL q)).size = 1 + 2 * q := by rw [sOf_sizeL, dL_len]
          have hqm : (q : Int) < (M : Int) % 20 := by omega
          go_wp2_with fail
          go_roundw
          case rel => exact ⟨q + 1, by congr 1, by rw [← dL_succ, ← sOf_add]; rfl, by omega, trivial⟩
          case measure => simp [leftL]; omega
        · have hqe : q = M % 20 := by omega
          have hqm : ¬ (q : Int) < (M : Int) % 20 := by omega
          subst hqe
          obtain ⟨a1, a2⟩ := limA' (n := j) (by omega)
          obtain ⟨d1, d2⟩ := limD' (k := M % 20) (by omega)
          by_cases h1 : 1 ≤ j
          · have h1i : (1 : Int) ≤ (j : Int) := by omega
            by_cases h2 : j ≤ 96
            · have h2i : (j : Int) ≤ 96 := by omega
              have hfA : decide (1 ≤ j ∧ j ≤ 96) = true := decide_eq_true ⟨h1, h2⟩
              by_cases h3 : 1 + M % 20 ≤ 12
              · have h3i : (1 : Int) + (M : Int) % 20 ≤ 12 := by omega
                have hfD := decide_eq_true h3
                have A1 := hd (a1.trans hfA); have A2 := hd (a2.trans hfA); have D1 := hd (d1.trans hfD); have D2 := hd (d2.trans hfD)
                clear a1 a2 d1 d2 hfA hfD
                go_wp2_with fail
                refine (Name_c (List.replicate j 97) _ HE.out (by simp; omega)).mono ?_
                rw [A1.out]
                rintro e w1 ⟨rfl, hb1⟩
                go_wp2_with fail
                refine (Filter_c (List.replicate j 97) _ (HE.out.below hb1) (by simp; omega)).mono ?_
                rw [A2.out]
                rintro e w2 ⟨rfl, hb2⟩
                replace hb1 := Below.up hb1 hb2
                clear hb2
                go_wp2_with fail
                refine (Name_c (dL (M % 20)) _ (HE.out.below hb1) (by rw [dL_len]; omega)).mono ?_
                rw [D1.out]
                rintro e w3 ⟨rfl, hb2⟩
                replace hb1 := Below.up hb1 hb2
                clear hb2
                go_wp2_with fail
                refine (Filter_c (dL (M % 20)) _ (HE.out.below hb1) (by rw [dL_len]; omega)).mono ?_
                rw [D2.out]
                rintro e w4 ⟨rfl, hb2⟩
                replace hb1 := Below.up hb1 hb2
                clear hb2
                go_wp2_with fail
                refine (awake17_c _ (HE.out.below hb1)).mono ?_
                rintro e w5 ⟨rfl, hb2⟩
                replace hb1 := Below.up hb1 hb2
                go_wp2_with fail
                go_ret
                exact ⟨rfl, hb1⟩
              · have h3i : ¬ (1 : Int) + (M : Int) % 20 ≤ 12 := by omega
                have hfD := decide_eq_false h3
                have A1 := hd (a1.trans hfA); have A2 := hd (a2.trans hfA); have D1 := hd (d1.trans hfD); have D2 := hd (d2.trans hfD)
                clear a1 a2 d1 d2 hfA hfD
                go_wp2_with fail
                refine (Name_c (List.replicate j 97) _ HE.out (by simp; omega)).mono ?_
                rw [A1.out]
                rintro e w1 ⟨rfl, hb1⟩
                go_wp2_with fail
                refine (Filter_c (List.replicate j 97) _ (HE.out.below hb1) (by simp; omega)).mono ?_
                rw [A2.out]
                rintro e w2 ⟨rfl, hb2⟩
                replace hb1 := Below.up hb1 hb2
                clear hb2
                go_wp2_with fail
                refine (Name_c (dL (M % 20)) _ (HE.out.below hb1) (by rw [dL_len]; omega)).mono ?_
                rw [D1.out]
                rintro e w3 ⟨rfl, hb2⟩
                replace hb1 := Below.up hb1 hb2
                clear hb2
                go_wp2_with fail
                refine (Filter_c (dL (M % 20)) _ (HE.out.below hb1) (by rw [dL_len]; omega)).mono ?_
                rw [D2.out]
                rintro e w4 ⟨rfl, hb2⟩
                replace hb1 := Below.up hb1 hb2
                clear hb2
                go_wp2_with fail
                refine (awake17_c _ (HE.out.below hb1)).mono ?_
                rintro e w5 ⟨rfl, hb2⟩
                replace hb1 := Below.up hb1 hb2
                go_wp2_with fail
                go_ret
                exact ⟨rfl, hb1⟩
            · have h2i : ¬ (j : Int) ≤ 96 := by omega
              have hfA : decide (1 ≤ j ∧ j ≤ 96) = false := decide_eq_false (fun h => h2 h.2)
              by_cases h3 : 1 + M % 20 ≤ 12
              · have h3i : (1 : Int) + (M : Int) % 20 ≤ 12 := by omega
                have hfD := decide_eq_true h3
                have A1 := hd (a1.trans hfA); have A2 := hd (a2.trans hfA); have D1 := hd (d1.trans hfD); have D2 := hd (d2.trans hfD)
                clear a1 a2 d1 d2 hfA hfD
                go_wp2_with fail
                refine (Name_c (List.replicate j 97) _ HE.out (by simp; omega)).mono ?_
                rw [A1.out]
                rintro e w1 ⟨rfl, hb1⟩
                go_wp2_with fail
                refine (Filter_c (List.replicate j 97) _ (HE.out.below hb1) (by simp; omega)).mono ?_
                rw [A2.out]
                rintro e w2 ⟨rfl, hb2⟩
                replace hb1 := Below.up hb1 hb2
                clear hb2
                go_wp2_with fail
                refine (Name_c (dL (M % 20)) _ (HE.out.below hb1) (by rw [dL_len]; omega)).mono ?_
                rw [D1.out]
                rintro e w3 ⟨rfl, hb2⟩
                replace hb1 := Below.up hb1 hb2
                clear hb2
                go_wp2_with fail
                refine (Filter_c (dL (M % 20)) _ (HE.out.below hb1) (by rw [dL_len]; omega)).mono ?_
                rw [D2.out]
                rintro e w4 ⟨rfl, hb2⟩
                replace hb1 := Below.up hb1 hb2
                clear hb2
                go_wp2_with fail
                refine (awake17_c _ (HE.out.below hb1)).mono ?_
                rintro e w5 ⟨rfl, hb2⟩
                replace hb1 := Below.up hb1 hb2
                go_wp2_with fail
                go_ret
                exact ⟨rfl, hb1⟩
              · have h3i : ¬ (1 : Int) + (M : Int) % 20 ≤ 12 := by omega
                have hfD := decide_eq_false h3
                have A1 := hd (a1.trans hfA); have A2 := hd (a2.trans hfA); have D1 := hd (d1.trans hfD); have D2 := hd (d2.trans hfD)
                clear a1 a2 d1 d2 hfA hfD
                go_wp2_with fail
                refine (Name_c (List.replicate j 97) _ HE.out (by simp; omega)).mono ?_
                rw [A1.out]
                rintro e w1 ⟨rfl, hb1⟩
                go_wp2_with fail
                refine (Filter_c (List.replicate j 97) _ (HE.out.below hb1) (by simp; omega)).mono ?_
                rw [A2.out]
                rintro e w2 ⟨rfl, hb2⟩
                replace hb1 := Below.up hb1 hb2
                clear hb2
                go_wp2_with fail
                refine (Name_c (dL (M % 20)) _ (HE.out.below hb1) (by rw [dL_len]; omega)).mono ?_
                rw [D1.out]
                rintro e w3 ⟨rfl, hb2⟩
                replace hb1 := Below.up hb1 hb2
                clear hb2
                go_wp2_with fail
                refine (Filter_c (dL (M % 20)) _ (HE.out.below hb1) (by rw [dL_len]; omega)).mono ?_
                rw [D2.out]
                rintro e w4 ⟨rfl, hb2⟩
                replace hb1 := Below.up hb1 hb2
                clear hb2
                go_wp2_with fail
                refine (awake17_c _ (HE.out.below hb1)).mono ?_
                rintro e w5 ⟨rfl, hb2⟩
                replace hb1 := Below.up hb1 hb2
                go_wp2_with fail
                go_ret
                exact ⟨rfl, hb1⟩
          · have h1i : ¬ (1 : Int) ≤ (j : Int) := by omega
            have hfA : decide (1 ≤ j ∧ j ≤ 96) = false := decide_eq_false (fun h => h1 h.1)
            by_cases h3 : 1 + M % 20 ≤ 12
            · have h3i : (1 : Int) + (M : Int) % 20 ≤ 12 := by omega
              have hfD := decide_eq_true h3
              have A1 := hd (a1.trans hfA); have A2 := hd (a2.trans hfA); have D1 := hd (d1.trans hfD); have D2 := hd (d2.trans hfD)
              clear a1 a2 d1 d2 hfA hfD
              go_wp2_with fail
              refine (Name_c (List.replicate j 97) _ HE.out (by simp; omega)).mono ?_
              rw [A1.out]
              rintro e w1 ⟨rfl, hb1⟩
              go_wp2_with fail
              refine (Filter_c (List.replicate j 97) _ (HE.out.below hb1) (by simp; omega)).mono ?_
              rw [A2.out]
              rintro e w2 ⟨rfl, hb2⟩
              replace hb1 := Below.up hb1 hb2
              clear hb2
              go_wp2_with fail
              refine (Name_c (dL (M % 20)) _ (HE.out.below hb1) (by rw [dL_len]; omega)).mono ?_
              rw [D1.out]
              rintro e w3 ⟨rfl, hb2⟩
              replace hb1 := Below.up hb1 hb2
              clear hb2
              go_wp2_with fail
              refine (Filter_c (dL (M % 20)) _ (HE.out.below hb1) (by rw [dL_len]; omega)).mono ?_
              rw [D2.out]
              rintro e w4 ⟨rfl, hb2⟩
              replace hb1 := Below.up hb1 hb2
              clear hb2
              go_wp2_with fail
              refine (awake17_c _ (HE.out.below hb1)).mono ?_
              rintro e w5 ⟨rfl, hb2⟩
              replace hb1 := Below.up hb1 hb2
              go_wp2_with fail
              go_ret
              exact ⟨rfl, hb1⟩
            · have h3i : ¬ (1 : Int) + (M : Int) % 20 ≤ 12 := by omega
              have hfD := decide_eq_false h3
              have A1 := hd (a1.trans hfA); have A2 := hd (a2.trans hfA); have D1 := hd (d1.trans hfD); have D2 := hd (d2.trans hfD)
              clear a1 a2 d1 d2 hfA hfD
              go_wp2_with fail
              refine (Name_c (List.replicate j 97) _ HE.out (by simp; omega)).mono ?_
              rw [A1.out]
              rintro e w1 ⟨rfl, hb1⟩
              go_wp2_with fail
              refine (Filter_c (List.replicate j 97) _ (HE.out.below hb1) (by simp; omega)).mono ?_
              rw [A2.out]
              rintro e w2 ⟨rfl, hb2⟩
              replace hb1 := Below.up hb1 hb2
              clear hb2
              go_wp2_with fail
              refine (Name_c (dL (M % 20)) _ (HE.out.below hb1) (by rw [dL_len]; omega)).mono ?_
              rw [D1.out]
              rintro e w3 ⟨rfl, hb2⟩
              replace hb1 := Below.up hb1 hb2
              clear hb2
              go_wp2_with fail
              refine (Filter_c (dL (M % 20)) _ (HE.out.below hb1) (by rw [dL_len]; omega)).mono ?_
              rw [D2.out]
              rintro e w4 ⟨rfl, hb2⟩
              replace hb1 := Below.up hb1 hb2
              clear hb2
              go_wp2_with fail
              refine (awake17_c _ (HE.out.below hb1)).mono ?_
              rintro e w5 ⟨rfl, hb2⟩
              replace hb1 := Below.up hb1 hb2
              go_wp2_with fail
              go_ret
              exact ⟨rfl, hb1⟩
end Go.Proofs.YtopopdghmfbciaaDoor
