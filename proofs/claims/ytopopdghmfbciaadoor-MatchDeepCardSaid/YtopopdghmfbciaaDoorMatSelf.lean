/- What a filter wants: just itself: the plain law and the walk. -/
import Derived.Test.YtopopdghmfbciaaDoorMat2
namespace Go.Proofs.YtopopdghmfbciaaDoor
open Go.RowKit
set_option linter.unusedVariables false
set_option linter.unusedSimpArgs false

theorem wild_part : ∀ (l x : List UInt8), x ∈ lSplit l → wildL x = true → wildL l = true
  | [], x, h, hw => by simp [lSplit] at h; subst h; exact hw
  | b :: t, x, h, hw => by
    rw [lSplit] at h
    have hb : wildL (b :: t) = ((b == 43 || b == 35) || wildL t) := rfl
    by_cases h47 : b = 47
    · rw [if_pos h47] at h
      rcases List.mem_cons.1 h with rfl | h
      · simp [wildL] at hw
      · rw [hb, wild_part t x h hw, Bool.or_true]
    · rw [if_neg h47] at h
      split at h
      · rename_i e; exact absurd e (lSplit_ne t)
      · rename_i y r e
        rcases List.mem_cons.1 h with rfl | h
        · have hby : wildL (b :: y) = ((b == 43 || b == 35) || wildL y) := rfl
          rw [hby, Bool.or_eq_true] at hw
          rw [hb, Bool.or_eq_true]
          rcases hw with hw | hw
          · exact .inl hw
          · exact .inr (wild_part t y (by rw [e]; simp) hw)
        · rw [hb, wild_part t x (by rw [e]; simp [h]) hw, Bool.or_true]
theorem okLevels_plain : ∀ p : List (List UInt8), (∀ x ∈ p, wildL x = false) → okLevels p = true
  | [], _ => rfl
  | x :: r, h => by rw [okLevels, h x (by simp), okLevels_plain r (fun y hy => h y (by simp [hy]))]; simp
theorem name_parts {l : List UInt8} (h : lName l = true) : ∀ x ∈ lSplit l, wildL x = false := fun x hx => by
  unfold lName at h
  cases hw : wildL x
  · rfl
  · have := wild_part l x hx hw
    rw [this] at h
    simp at h
theorem name_sized {l : List UInt8} (h : lName l = true) : lSized l = true ∧ wildL l = false := by
  unfold lName at h
  simpa using h
theorem name_filter {l : List UInt8} (h : lName l = true) : lFilter l = true := by
  unfold lFilter
  rw [(name_sized h).1, okLevels_plain _ (name_parts h)]
  rfl
theorem wild_43 : wildL [43] = true := rfl
theorem wild_35 : wildL [35] = true := rfl
theorem begW_wild {l : List UInt8} (h : begW l = true) : wildL l = true := by
  unfold begW at h
  cases l with
  | nil => simp at h
  | cons b t =>
    unfold wildL
    simp at h
    rcases h with h | h <;> simp [h]
theorem along_self (p : List (List UInt8)) (hold : List UInt8 → List UInt8 → Bool) (h : ∀ x ∈ p, x ≠ [35] → hold x x = true) : alongL hold p p = true := by
  induction p with
  | nil => rfl
  | cons x r ih =>
    rw [alongL]
    split
    · rfl
    · rename_i hx
      rw [h x (by simp) hx, ih (fun y hy => h y (by simp [hy]))]
      rfl
theorem along_plain : ∀ (p q : List (List UInt8)), (∀ x ∈ p, wildL x = false) → alongL holdM p q = true → p = q
  | [], q, _, h => by rw [alongL] at h; simpa using h.symm
  | x :: r, [], hp, h => by
    have hx := hp x (by simp)
    have h35 : x ≠ [35] := fun e => by rw [e] at hx; exact absurd hx (by decide)
    rw [alongL, if_neg h35] at h
    simp at h
  | x :: r, y :: t, hp, h => by
    have hx := hp x (by simp)
    have h35 : x ≠ [35] := fun e => by rw [e] at hx; exact absurd hx (by decide)
    have h43 : x ≠ [43] := fun e => by rw [e] at hx; exact absurd hx (by decide)
    rw [alongL, if_neg h35, Bool.and_eq_true] at h
    have hxy : x = y := by
      have := h.1
      unfold holdM at this
      simpa [h43] using this
    rw [hxy, along_plain r t (fun z hz => hp z (by simp [hz])) h.2]
theorem split_inj {a b : List UInt8} (h : lSplit a = lSplit b) : a = b := by rw [← lJoin_split a, h, lJoin_split]

theorem self1 {a : List UInt8} (h : lName a = true) : mMatch a a = true ∧ mWide a = false := by
  have hb : begW a = false := by
    cases hb : begW a
    · rfl
    · have := begW_wild hb
      rw [(name_sized h).2] at this
      cases this
  constructor
  · unfold mMatch
    rw [name_filter h, h, hb, along_self _ holdM (fun x _ _ => by simp [holdM])]
    rfl
  · unfold mWide
    rw [h]; simp
theorem self2 {a b : List UInt8} (hw : mWide a = false) (hm : mMatch a b = true) : a = b := by
  unfold mMatch at hm
  simp only [Bool.and_eq_true] at hm
  obtain ⟨h1, h2, h3, h4⟩ := hm
  have hn : lName a = true := by
    unfold mWide at hw
    rw [h1] at hw
    simpa using hw
  exact split_inj (along_plain _ _ (name_parts hn) h4)

set_option maxRecDepth 100000 in
set_option maxHeartbeats 4000000 in
theorem MatchSelf_w (a b : List UInt8) (w : World) (hE : EnvU w) (ha : a.length ≤ 9223372036854775000) (hb : b.length ≤ 9223372036854775000) :
    Calls Tryd.prog 4 #[.string (sOf a), .string (sOf b)] w fun e w' => e = .returned (.bool true) ∧ Below w.heap.size w w' := by
  have HE := hd hE; clear hE
  have hta := toList_sOf a; have htb := toList_sOf b
  have S1 := hd (fun h => @self1 a h)
  have S2 := hd (fun h1 h2 => @self2 a b h1 h2)
  go_enter Tryd.func4, Tryd.ntmps4
  go_wp2_with fail
  refine (Name_c a _ HE.out ha).mono ?_
  rintro e w1 ⟨rfl, hw⟩
  cases hn : lName a
  · go_wp2_with fail
    refine (Wide_c a _ (HE.out.below hw) ha).mono ?_
    rintro e w5 ⟨rfl, h2⟩
    replace hw := Below.up hw h2
    clear h2
    cases hwd : mWide a
    · go_wp2_with fail
      refine (Match_c a b _ (HE.out.below hw) ha hb).mono ?_
      rintro e w6 ⟨rfl, h2⟩
      replace hw := Below.up hw h2
      clear h2
      cases hm : mMatch a b
      · go_wp2_with fail
        refine (awake18_c _ (HE.out.below hw)).mono ?_
        rintro e w7 ⟨rfl, h2⟩
        replace hw := Below.up hw h2
        go_wp2_with fail
        go_ret
        exact ⟨rfl, hw⟩
      · have hab := S2.out hwd hm
        have hbe : (a == b) = true := by simpa using hab
        clear hab hwd hm
        go_wp2_with fail
        refine (awake18_c _ (HE.out.below hw)).mono ?_
        rintro e w7 ⟨rfl, h2⟩
        replace hw := Below.up hw h2
        go_wp2_with fail
        go_ret
        exact ⟨rfl, hw⟩
    · go_wp2_with fail
      refine (awake18_c _ (HE.out.below hw)).mono ?_
      rintro e w7 ⟨rfl, h2⟩
      replace hw := Below.up hw h2
      go_wp2_with fail
      go_ret
      exact ⟨rfl, hw⟩
  · obtain ⟨m1, m2⟩ := S1.out hn
    have M1 := hd m1; have M2 := hd m2
    clear m1 m2 hn
    go_wp2_with fail
    refine (Match_c a a _ (HE.out.below hw) ha ha).mono ?_
    rw [M1.out]
    rintro e w2 ⟨rfl, h2⟩
    replace hw := Below.up hw h2
    clear h2
    go_wp2_with fail
    refine (Wide_c a _ (HE.out.below hw) ha).mono ?_
    rw [M2.out]
    rintro e w2 ⟨rfl, h2⟩
    replace hw := Below.up hw h2
    clear h2 M1 M2
    go_wp2_with fail
    refine (Wide_c a _ (HE.out.below hw) ha).mono ?_
    rintro e w5 ⟨rfl, h2⟩
    replace hw := Below.up hw h2
    clear h2
    cases hwd : mWide a
    · go_wp2_with fail
      refine (Match_c a b _ (HE.out.below hw) ha hb).mono ?_
      rintro e w6 ⟨rfl, h2⟩
      replace hw := Below.up hw h2
      clear h2
      cases hm : mMatch a b
      · go_wp2_with fail
        refine (awake18_c _ (HE.out.below hw)).mono ?_
        rintro e w7 ⟨rfl, h2⟩
        replace hw := Below.up hw h2
        go_wp2_with fail
        go_ret
        exact ⟨rfl, hw⟩
      · have hab := S2.out hwd hm
        have hbe : (a == b) = true := by simpa using hab
        clear hab hwd hm
        go_wp2_with fail
        refine (awake18_c _ (HE.out.below hw)).mono ?_
        rintro e w7 ⟨rfl, h2⟩
        replace hw := Below.up hw h2
        go_wp2_with fail
        go_ret
        exact ⟨rfl, hw⟩
    · go_wp2_with fail
      refine (awake18_c _ (HE.out.below hw)).mono ?_
      rintro e w7 ⟨rfl, h2⟩
      replace hw := Below.up hw h2
      go_wp2_with fail
      go_ret
      exact ⟨rfl, hw⟩
theorem MatchSelf_s (a b : ByteArray) (w : World) (hE : EnvU w) (ha : a.size ≤ 140737488351232) (hb : b.size ≤ 140737488351232) :
    Calls Tryd.prog 4 #[.string a, .string b] w fun e w' => e = .returned (.bool true) ∧ Below w.heap.size w w' := by
  have h := MatchSelf_w (sB a) (sB b) w hE (by rw [sB_len]; omega) (by rw [sB_len]; omega)
  rw [sOf_sBL, sOf_sBL] at h
  exact h
end Go.Proofs.YtopopdghmfbciaaDoor
