/- What a filter wants: from there on: the plain law and the walk. -/
import Derived.Test.YtopopdghmfbciaaDoorMatCovers
import Derived.Test.YtopopdghmfbciaaDoorUtfJoinPlain
namespace Go.Proofs.YtopopdghmfbciaaDoor
open Go.RowKit
set_option linter.unusedVariables false
set_option linter.unusedSimpArgs false

theorem split_app : ∀ a b : List UInt8, lSplit (a ++ 47 :: b) = lSplit a ++ lSplit b
  | [], b => by simp [lSplit]
  | c :: t, b => by
    have ih := split_app t b
    rw [List.cons_append, lSplit, lSplit, ih]
    by_cases hc : c = 47
    · rw [if_pos hc, if_pos hc]; rfl
    · rw [if_neg hc, if_neg hc]
      cases e : lSplit t with
      | nil => exact absurd e (lSplit_ne t)
      | cons y r => rfl
theorem along_app (hold : List UInt8 → List UInt8 → Bool) (hh : ∀ x, hold x x = true) : ∀ (p r q : List (List UInt8)), (∀ x ∈ p, x ≠ [35]) → alongL hold (p ++ r) (p ++ q) = alongL hold r q
  | [], r, q, _ => rfl
  | x :: p, r, q, h => by
    rw [List.cons_append, List.cons_append, alongL, if_neg (h x (by simp)), hh, Bool.true_and]
    exact along_app hold hh p r q (fun y hy => h y (by simp [hy]))
theorem along_hash (hold : List UInt8 → List UInt8 → Bool) (q : List (List UInt8)) : alongL hold [[35]] q = true := by cases q <;> rw [alongL, if_pos rfl]
theorem along_plus (q : List (List UInt8)) : alongL holdM [[43]] q = decide (q.length = 1) := by
  have h35 : ¬ ([43] : List UInt8) = [35] := by decide
  match q with
  | [] => rw [alongL, if_neg h35]; rfl
  | [y] => rw [alongL, if_neg h35]; simp [holdM, alongL]
  | y :: z :: s => rw [alongL, if_neg h35]; simp [holdM, alongL]
theorem holdM_refl (x : List UInt8) : holdM x x = true := by simp [holdM]
theorem plain_35 {x : List UInt8} (h : wildL x = false) : x ≠ [35] := fun e => by rw [e] at h; exact absurd h (by decide)
theorem okLevels_app (p r : List (List UInt8)) (hp : ∀ x ∈ p, wildL x = false) : okLevels (p ++ r) = okLevels r := by
  induction p with
  | nil => rfl
  | cons x p ih =>
    rw [List.cons_append, okLevels, hp x (by simp), ih (fun y hy => hp y (by simp [hy]))]
    simp
theorem sized_parts {l : List UInt8} (h : lSized l = true) : l ≠ [] ∧ l.length ≤ 96 ∧ uRight l = true ∧ (lSplit l).length ≤ 12 := by
  unfold lSized at h
  simp at h
  exact ⟨h.1, h.2.1, h.2.2.1, h.2.2.2⟩
theorem sized_mk {l : List UInt8} (h0 : l ≠ []) (h1 : l.length ≤ 96) (h2 : uRight l = true) (h3 : (lSplit l).length ≤ 12) : lSized l = true := by
  unfold lSized
  have e0 : l.isEmpty = false := by simpa using h0
  rw [e0, decide_eq_true h1, h2, decide_eq_true h3]
  rfl

structure DeepF (a b n a35 a43 pb : List UInt8) : Prop where
  m1 : mMatch a35 a = true
  m2 : mMatch a35 n = true
  m3 : mMatch a43 n = decide ((lSplit b).length = 1)
  m4 : mMatch a43 a = false
  m5 : mMatch [35] n = !lHidden a
  m6 : mMatch pb n = (!lHidden a && decide ((lSplit a).length = 1))
  la : a.length ≤ 96
  lb : b.length ≤ 96
theorem deep_facts {a b : List UInt8} (hA : lName a = true) (hN : lName (a ++ 47 :: b) = true) (hF : lFilter (a ++ [47, 35]) = true) : DeepF a b (a ++ 47 :: b) (a ++ [47, 35]) (a ++ [47, 43]) (43 :: 47 :: b) := by
  obtain ⟨sA, wA⟩ := name_sized hA
  obtain ⟨sN, wN⟩ := name_sized hN
  obtain ⟨a0, a96, aU, a12⟩ := sized_parts sA
  obtain ⟨n0, n96, nU, n12⟩ := sized_parts sN
  have hFs : lSized (a ++ [47, 35]) = true := by unfold lFilter at hF; exact (Bool.and_eq_true _ _ ▸ hF).1
  obtain ⟨f0, f96, fU, f12⟩ := sized_parts hFs
  have pA := name_parts hA
  have pN := name_parts hN
  have e35 : lSplit (a ++ [47, 35]) = lSplit a ++ [[35]] := split_app a [35]
  have e43 : lSplit (a ++ [47, 43]) = lSplit a ++ [[43]] := split_app a [43]
  have eN := split_app a b
  have epb : lSplit (43 :: 47 :: b) = [43] :: lSplit b := split_app [43] b
  obtain ⟨c, t, rfl⟩ : ∃ c t, a = c :: t := by
    cases a with
    | nil => exact absurd rfl a0
    | cons c t => exact ⟨c, t, rfl⟩
  have bA : begW (c :: t) = false := by
    cases hb : begW (c :: t)
    · rfl
    · have := begW_wild hb
      rw [wA] at this
      cases this
  have b35 : begW (c :: t ++ [47, 35]) = false := bA
  have b43 : begW (c :: t ++ [47, 43]) = false := bA
  have hH : lHidden (c :: t ++ 47 :: b) = lHidden (c :: t) := rfl
  have u43 : uRight (c :: t ++ [47, 43]) = true := uRight_join aU (by decide +kernel) (by simp at f96 ⊢; omega)
  have f43 : lFilter (c :: t ++ [47, 43]) = true := by
    unfold lFilter
    rw [e43, okLevels_app _ _ pA, sized_mk (by simp) (by simpa using f96) u43 (by rw [e35] at f12; rw [e43]; simpa using f12)]
    decide +kernel
  have q35 : ∀ x ∈ lSplit (c :: t), x ≠ [35] := fun x hx => plain_35 (pA x hx)
  rw [eN] at n12 pN
  have pB : ∀ x ∈ lSplit b, wildL x = false := fun x hx => pN x (by simp [hx])
  have hne := List.length_pos_iff.2 (lSplit_ne (c :: t))
  refine ⟨?_, ?_, ?_, ?_, ?_, ?_, a96, by simp at n96; omega⟩
  · unfold mMatch
    rw [hF, hA, b35, e35]
    have := along_app holdM holdM_refl (lSplit (c :: t)) [[35]] [] q35
    rw [List.append_nil] at this
    rw [this, along_hash]
    rfl
  · unfold mMatch
    rw [hF, hN, b35, e35, eN, along_app holdM holdM_refl _ _ _ q35, along_hash]
    rfl
  · unfold mMatch
    rw [f43, hN, b43, e43, eN, along_app holdM holdM_refl _ _ _ q35, along_plus]
    rfl
  · unfold mMatch
    rw [f43, hA, b43, e43]
    have := along_app holdM holdM_refl (lSplit (c :: t)) [[43]] [] q35
    rw [List.append_nil] at this
    rw [this, along_plus]
    rfl
  · unfold mMatch
    rw [hN, hH, show lSplit [35] = [[35]] from rfl, along_hash, show lFilter [35] = true by decide +kernel, show begW [35] = true from rfl]
    simp
  · have hvb : Lib.validD b = true := by
      obtain ⟨_, v1, _⟩ := uRight_parts nU
      obtain ⟨_, v2, _⟩ := uRight_parts aU
      rw [validD_append _ _ _ (Nat.le_refl _) v2] at v1
      have : (47 :: b) = [47] ++ b := rfl
      rw [this, validD_append _ [47] b (Nat.le_refl _) (by decide +kernel)] at v1
      exact v1
    have hzb : zeroIn b = false := by
      obtain ⟨_, _, z1⟩ := uRight_parts nU
      rw [zeroIn_append] at z1
      have : zeroIn (47 :: b) = zeroIn b := rfl
      rw [this] at z1
      simp at z1
      exact z1.2
    have hlen : b.length ≤ 94 := by simp at n96; omega
    have ub : uRight (43 :: 47 :: b) = true := by
      have hb2 : uRight b = true := by unfold uRight; rw [hvb, hzb, decide_eq_true (by omega)]; rfl
      have := uRight_join (x := [43, 47]) (y := b) (by decide +kernel) hb2 (by simp; omega)
      exact this
    have ff : lFilter (43 :: 47 :: b) = true := by
      unfold lFilter
      rw [epb, sized_mk (by simp) (by simp; omega) ub (by rw [epb]; simp at n12 ⊢; omega), okLevels, okLevels_plain _ pB]
      rfl
    unfold mMatch
    rw [ff, hN, hH, epb, eN, show begW (43 :: 47 :: b) = true from rfl]
    simp only [Bool.true_and]
    cases lHidden (c :: t)
    · simp only [Bool.not_false, Bool.true_and]
      cases eA : lSplit (c :: t) with
      | nil => exact absurd eA (lSplit_ne _)
      | cons x r =>
        rw [List.cons_append, alongL, if_neg (by decide)]
        have h43 : holdM [43] x = true := by simp [holdM]
        rw [h43, Bool.true_and]
        cases r with
        | nil =>
          rw [List.nil_append, along_self _ holdM (fun y _ _ => holdM_refl y)]
          rfl
        | cons y r =>
          have h2 : ¬ (x :: y :: r).length = 1 := by simp
          rw [decide_eq_false h2]
          cases h3 : alongL holdM (lSplit b) (y :: r ++ lSplit b)
          · rfl
          · have := congrArg List.length (along_plain _ _ pB h3)
            simp at this
            omega
    · simp
theorem sOf_addD (A B : List UInt8) : sOf A ++ sOf B = sOf (A ++ B) := by
  have e : ∀ t : ByteArray, sOf (sB t) = t := fun t => by cases t; simp [sOf, sB]
  rw [← e (sOf A ++ sOf B)]
  simp [sB, sOf]

set_option maxRecDepth 100000 in
set_option maxHeartbeats 8000000 in
theorem MatchDeep_w (a b : List UInt8) (w : World) (hE : EnvU w) (ha : a.length ≤ 140737488351232) (hb : b.length ≤ 140737488351232) :
    Calls Tryd.prog 5 #[.string (sOf a), .string (sOf b)] w fun e w' => e = .returned (.bool true) ∧ Below w.heap.size w w' := by
  have HE := hd hE; clear hE
  have hsa := sOf_sizeL a; have hsb := sOf_sizeL b
  have hs1 := sOf_sizeL (a ++ [47])
  have hz1 : (a ++ [47]).length = a.length + 1 := by simp
  have e1 : sOf a ++ ⟨#[47]⟩ = sOf (a ++ [47]) := sOf_addD a [47]
  have e2 : sOf (a ++ [47]) ++ sOf b = sOf (a ++ 47 :: b) := by rw [sOf_addD]; simp
  have e3 : sOf a ++ ⟨#[47, 35]⟩ = sOf (a ++ [47, 35]) := sOf_addD a [47, 35]
  have e4 : sOf a ++ ⟨#[47, 43]⟩ = sOf (a ++ [47, 43]) := sOf_addD a [47, 43]
  have e5 : (⟨#[43, 47]⟩ : ByteArray) ++ sOf b = sOf (43 :: 47 :: b) := sOf_addD [43, 47] b
  have hln : (a ++ 47 :: b).length ≤ 9223372036854775000 := by simp; omega
  have hl35 : (a ++ [47, 35]).length ≤ 9223372036854775000 := by simp; omega
  have hl43 : (a ++ [47, 43]).length ≤ 9223372036854775000 := by simp; omega
  have hlpb : (43 :: 47 :: b).length ≤ 9223372036854775000 := by simp; omega
  have hla : a.length ≤ 9223372036854775000 := by omega
  have D := hd (fun h1 h2 h3 => @deep_facts a b h1 h2 h3)
  have HLN := hd hln; have HL35 := hd hl35; have HL43 := hd hl43; have HLPB := hd hlpb; have HLA := hd hla
  clear hln hl35 hl43 hlpb hla
  generalize a ++ 47 :: b = n at *
  generalize a ++ [47, 35] = a35 at *
  generalize a ++ [47, 43] = a43 at *
  generalize 43 :: 47 :: b = pb at *
  generalize a ++ [47] = a47 at *
  have hw : Below w.heap.size w w := Below.refl _ _
  go_enter Tryd.func5, Tryd.ntmps5
  go_wp2_with fail
  refine (Name_c a _ HE.out HLA.out).mono ?_
  rintro e w1 ⟨rfl, hx⟩
  replace hw := Below.up hw hx
  clear hx
  cases h1 : lName a
  · go_wp2_with fail
    refine (awake18_c _ (HE.out.below hw)).mono ?_
    rintro e w1 ⟨rfl, hx⟩
    replace hw := Below.up hw hx
    clear hx
    go_wp2_with fail
    go_ret
    exact ⟨rfl, hw⟩
  go_wp2_with fail
  refine (Name_c n _ (HE.out.below hw) HLN.out).mono ?_
  rintro e w1 ⟨rfl, hx⟩
  replace hw := Below.up hw hx
  clear hx
  cases h2 : lName n
  · go_wp2_with fail
    refine (awake18_c _ (HE.out.below hw)).mono ?_
    rintro e w1 ⟨rfl, hx⟩
    replace hw := Below.up hw hx
    clear hx
    go_wp2_with fail
    go_ret
    exact ⟨rfl, hw⟩
  go_wp2_with fail
  refine (Filter_c a35 _ (HE.out.below hw) HL35.out).mono ?_
  rintro e w1 ⟨rfl, hx⟩
  replace hw := Below.up hw hx
  clear hx
  cases h3 : lFilter a35
  · go_wp2_with fail
    refine (awake18_c _ (HE.out.below hw)).mono ?_
    rintro e w1 ⟨rfl, hx⟩
    replace hw := Below.up hw hx
    clear hx
    go_wp2_with fail
    go_ret
    exact ⟨rfl, hw⟩
  have F := D.out h1 h2 h3
  have HF := hd F
  have hla := F.la; have hlb := F.lb
  have hm3 := F.m3; have hm5 := F.m5; have hm6 := F.m6
  obtain ⟨B, hB⟩ : ∃ B, decide ((lSplit b).length = 1) = B := ⟨_, rfl⟩
  obtain ⟨A, hA⟩ : ∃ A, decide ((lSplit a).length = 1) = A := ⟨_, rfl⟩
  have hBi : (((lSplit b).length : Int) == 1) = B := by rw [← hB, Bool.eq_iff_iff]; simp; omega
  have hAi : (((lSplit a).length : Int) == 1) = A := by rw [← hA, Bool.eq_iff_iff]; simp; omega
  rw [hB] at hm3; rw [hA] at hm6
  have M3 := hd hm3; have M5 := hd hm5; have M6 := hd hm6
  clear F D h1 h2 h3 hB hA hm3 hm5 hm6
  go_wp2_with fail
  refine (Split_c b _ (by omega)).mono ?_
  rintro e w2 ⟨v2, rfl, ho2, hx⟩
  replace hw := Below.up hw hx
  obtain ⟨a2, c2, rfl⟩ := ho2.ls.slice
  clear hx ho2
  go_wp2_with fail
  refine (Hidden_c a _).mono ?_
  rintro e w3 ⟨rfl, rfl⟩
  have m5 := M5.out; have m6 := M6.out
  clear M5 M6
  generalize lHidden a = H at *
  have M5 := hd m5; have M6 := hd m6
  clear m5 m6
  go_wp2_with fail
  refine (Match_c a35 a _ (HE.out.below hw) HL35.out HLA.out).mono ?_
  rw [HF.out.m1]
  rintro e w3 ⟨rfl, hx⟩
  replace hw := Below.up hw hx
  clear hx
  go_wp2_with fail
  refine (Match_c a35 n _ (HE.out.below hw) HL35.out HLN.out).mono ?_
  rw [HF.out.m2]
  rintro e w3 ⟨rfl, hx⟩
  replace hw := Below.up hw hx
  clear hx
  go_wp2_with fail
  refine (Match_c a43 n _ (HE.out.below hw) HL43.out HLN.out).mono ?_
  rw [M3.out]
  rintro e w3 ⟨rfl, hx⟩
  replace hw := Below.up hw hx
  clear hx
  have hBB : (B == B) = true := by simp
  go_wp2_with fail
  refine (Match_c a43 a _ (HE.out.below hw) HL43.out HLA.out).mono ?_
  rw [HF.out.m4]
  rintro e w3 ⟨rfl, hx⟩
  replace hw := Below.up hw hx
  clear hx
  go_wp2_with fail
  refine (Match_c [35] n _ (HE.out.below hw) (by decide) HLN.out).mono ?_
  rw [M5.out]
  rintro e w3 ⟨rfl, hx⟩
  replace hw := Below.up hw hx
  clear hx
  cases H
  · go_wp2_with fail
    refine (Match_c pb n _ (HE.out.below hw) HLPB.out HLN.out).mono ?_
    rw [M6.out]
    rintro e w3 ⟨rfl, hx⟩
    replace hw := Below.up hw hx
    clear hx
    simp only [Bool.not_false, Bool.true_and]
    have hAA : (A == A) = true := by simp
    go_wp2_with fail
    refine (Split_c a _ (by omega)).mono ?_
    rintro e w4 ⟨v4, rfl, ho4, hx⟩
    replace hw := Below.up hw hx
    obtain ⟨a4, c4, rfl⟩ := ho4.ls.slice
    clear hx ho4
    go_wp2_with fail
    refine (awake18_c _ (HE.out.below hw)).mono ?_
    rintro e w1 ⟨rfl, hx⟩
    replace hw := Below.up hw hx
    clear hx
    go_wp2_with fail
    go_ret
    exact ⟨rfl, hw⟩
  · go_wp2_with fail
    refine (Match_c pb n _ (HE.out.below hw) HLPB.out HLN.out).mono ?_
    rw [M6.out]
    rintro e w3 ⟨rfl, hx⟩
    replace hw := Below.up hw hx
    clear hx
    simp only [Bool.not_true, Bool.false_and]
    go_wp2_with fail
    refine (awake18_c _ (HE.out.below hw)).mono ?_
    rintro e w1 ⟨rfl, hx⟩
    replace hw := Below.up hw hx
    clear hx
    go_wp2_with fail
    go_ret
    exact ⟨rfl, hw⟩
theorem MatchDeep_s (a b : ByteArray) (w : World) (hE : EnvU w) (ha : a.size ≤ 140737488351232) (hb : b.size ≤ 140737488351232) :
    Calls Tryd.prog 5 #[.string a, .string b] w fun e w' => e = .returned (.bool true) ∧ Below w.heap.size w w' := by
  have h := MatchDeep_w (sB a) (sB b) w hE (by rw [sB_len]; omega) (by rw [sB_len]; omega)
  rw [sOf_sBL, sOf_sBL] at h
  exact h
end Go.Proofs.YtopopdghmfbciaaDoor
