/- What a filter wants: what is covered: the plain law and the walk. -/
import Derived.Test.YtopopdghmfbciaaDoorMatSelf
namespace Go.Proofs.YtopopdghmfbciaaDoor
open Go.RowKit
set_option linter.unusedVariables false
set_option linter.unusedSimpArgs false

theorem cov_match : ∀ (A B N : List (List UInt8)), alongL holdC A B = true → alongL holdM B N = true → alongL holdM A N = true
  | [], B, N, h1, h2 => by
    rw [alongL] at h1
    have : B = [] := by simpa using h1
    subst this
    exact h2
  | x :: r, [], N, h1, h2 => by
    by_cases hx : x = [35]
    · subst hx; cases N <;> rw [alongL, if_pos rfl]
    · rw [alongL, if_neg hx] at h1; simp at h1
  | x :: r, y :: t, [], h1, h2 => by
    by_cases hx : x = [35]
    · subst hx; rw [alongL, if_pos rfl]
    · rw [alongL, if_neg hx, Bool.and_eq_true] at h1
      by_cases hy : y = [35]
      · have := h1.1
        unfold holdC at this
        subst hy
        simp [hx] at this
      · rw [alongL, if_neg hy] at h2; simp at h2
  | x :: r, y :: t, z :: s, h1, h2 => by
    by_cases hx : x = [35]
    · subst hx; rw [alongL, if_pos rfl]
    · rw [alongL, if_neg hx, Bool.and_eq_true] at h1
      obtain ⟨h3, h4⟩ := h1
      unfold holdC at h3
      by_cases hy : y = [35]
      · subst hy; simp [hx] at h3
      · rw [alongL, if_neg hy, Bool.and_eq_true] at h2
        obtain ⟨h5, h6⟩ := h2
        unfold holdM at h5
        rw [alongL, if_neg hx, cov_match r t s h4 h6, Bool.and_true]
        unfold holdM
        simp only [Bool.or_eq_true, Bool.and_eq_true, beq_iff_eq] at h3 h5 ⊢
        rcases h3 with h3 | h3
        · rw [h3]; exact h5
        · exact .inl h3.1
theorem cov_cov : ∀ (A B N : List (List UInt8)), alongL holdC A B = true → alongL holdC B N = true → alongL holdC A N = true
  | [], B, N, h1, h2 => by
    rw [alongL] at h1
    have : B = [] := by simpa using h1
    subst this
    exact h2
  | x :: r, [], N, h1, h2 => by
    by_cases hx : x = [35]
    · subst hx; cases N <;> rw [alongL, if_pos rfl]
    · rw [alongL, if_neg hx] at h1; simp at h1
  | x :: r, y :: t, [], h1, h2 => by
    by_cases hx : x = [35]
    · subst hx; rw [alongL, if_pos rfl]
    · rw [alongL, if_neg hx, Bool.and_eq_true] at h1
      by_cases hy : y = [35]
      · have := h1.1
        unfold holdC at this
        subst hy
        simp [hx] at this
      · rw [alongL, if_neg hy] at h2; simp at h2
  | x :: r, y :: t, z :: s, h1, h2 => by
    by_cases hx : x = [35]
    · subst hx; rw [alongL, if_pos rfl]
    · rw [alongL, if_neg hx, Bool.and_eq_true] at h1
      obtain ⟨h3, h4⟩ := h1
      unfold holdC at h3
      by_cases hy : y = [35]
      · subst hy; simp [hx] at h3
      · rw [alongL, if_neg hy, Bool.and_eq_true] at h2
        obtain ⟨h5, h6⟩ := h2
        unfold holdC at h5
        rw [alongL, if_neg hx, cov_cov r t s h4 h6, Bool.and_true]
        unfold holdC
        simp only [Bool.or_eq_true, Bool.and_eq_true, beq_iff_eq, Bool.not_eq_true', beq_eq_false_iff_ne, ne_eq] at h3 h5 ⊢
        rcases h3 with h3 | h3
        · rw [h3]; exact h5
        · rcases h5 with h5 | h5
          · exact .inr ⟨h3.1, by rw [← h5]; exact hy⟩
          · exact .inr ⟨h3.1, h5.2⟩

theorem split_cons {c : UInt8} {t : List UInt8} (hc : c ≠ 47) : ∃ z s, lSplit (c :: t) = (c :: z) :: s := by
  rw [lSplit, if_neg hc]
  split
  · exact ⟨[], [], rfl⟩
  · exact ⟨_, _, rfl⟩
theorem hid_byte {l : List UInt8} (h : lHidden l = true) : ∃ t, l = 36 :: t := by
  unfold lHidden at h
  cases l with
  | nil => simp at h
  | cons b t =>
    simp at h
    have e : b = 36 := (b8_of_bN (l := b :: t) (i := 0) (by simp) (c := 36)).1 h
    exact ⟨t, by rw [e]⟩
theorem hid_split {l : List UInt8} (h : lHidden l = true) : ∃ z s, lSplit l = (36 :: z) :: s := by
  obtain ⟨t, rfl⟩ := hid_byte h
  exact split_cons (by decide)
theorem hid_of {l z : List UInt8} {s : List (List UInt8)} (h : lSplit l = (36 :: z) :: s) : lHidden l = true := by
  cases l with
  | nil => simp [lSplit] at h
  | cons b t =>
    by_cases hb : b = 47
    · rw [lSplit, if_pos hb] at h
      simp at h
    · obtain ⟨z', s', e⟩ := split_cons (t := t) hb
      rw [e] at h
      simp at h
      obtain ⟨⟨rfl, _⟩, _⟩ := h
      rfl
theorem beg_of {l z : List UInt8} {s : List (List UInt8)} {c : UInt8} (hc : c = 43 ∨ c = 35) (h : lSplit l = (c :: z) :: s) : begW l = true := by
  cases l with
  | nil => simp [lSplit] at h
  | cons b t =>
    by_cases hb : b = 47
    · rw [lSplit, if_pos hb] at h
      simp at h
    · obtain ⟨z', s', e⟩ := split_cons (t := t) hb
      rw [e] at h
      simp at h
      obtain ⟨⟨rfl, _⟩, _⟩ := h
      unfold begW
      rcases hc with rfl | rfl <;> rfl
theorem not_both (l : List UInt8) : (begW l && lHidden l) = false := by
  cases hh : lHidden l
  · simp
  · obtain ⟨t, rfl⟩ := hid_byte hh
    rfl
theorem between {b n : List UInt8} (hold : List UInt8 → List UInt8 → Bool) (hh : ∀ y z, hold y z = true → y = [43] ∨ y = z) (hb : lHidden b = false) (hw : begW b = false) (hn : lHidden n = true) (h : alongL hold (lSplit b) (lSplit n) = true) : False := by
  obtain ⟨z, s, e⟩ := hid_split hn
  rw [e] at h
  cases eb : lSplit b with
  | nil => exact lSplit_ne b eb
  | cons y t =>
    rw [eb] at h
    by_cases hy : y = [35]
    · subst hy
      rw [beg_of (.inr rfl) eb] at hw
      cases hw
    · rw [alongL, if_neg hy, Bool.and_eq_true] at h
      rcases hh _ _ h.1 with h5 | h5
      · subst h5
        rw [beg_of (.inl rfl) eb] at hw
        cases hw
      · subst h5
        rw [hid_of eb] at hb
        cases hb
theorem covers1 {a b n : List UInt8} (h1 : mCovers a b = true) (h2 : mMatch b n = true) : mMatch a n = true := by
  unfold mCovers at h1
  unfold mMatch at h2 ⊢
  simp only [Bool.and_eq_true, Bool.not_eq_true', Bool.and_eq_false_iff] at h1 h2 ⊢
  obtain ⟨fa, fb, s1, l1⟩ := h1
  obtain ⟨_, nn, s2, l2⟩ := h2
  refine ⟨fa, nn, ?_, cov_match _ _ _ l1 l2⟩
  cases hn : lHidden n
  · exact .inr rfl
  · left
    rcases s1 with s1 | s1
    · exact s1
    · exfalso
      refine between holdM (fun y z h => ?_) s1 (s2.resolve_right (by rw [hn]; simp)) hn l2
      unfold holdM at h
      simpa using h
theorem covers2 {a b c : List UInt8} (h1 : mCovers a b = true) (h2 : mCovers b c = true) : mCovers a c = true := by
  unfold mCovers at h1 h2 ⊢
  simp only [Bool.and_eq_true, Bool.not_eq_true', Bool.and_eq_false_iff] at h1 h2 ⊢
  obtain ⟨fa, fb, s1, l1⟩ := h1
  obtain ⟨_, nn, s2, l2⟩ := h2
  refine ⟨fa, nn, ?_, cov_cov _ _ _ l1 l2⟩
  cases hn : lHidden c
  · exact .inr rfl
  · left
    rcases s1 with s1 | s1
    · exact s1
    · exfalso
      refine between holdC (fun y z h => ?_) s1 (s2.resolve_right (by rw [hn]; simp)) hn l2
      unfold holdC at h
      simp only [Bool.or_eq_true, Bool.and_eq_true, beq_iff_eq] at h
      rcases h with h | h
      · exact .inr h
      · exact .inl h.1
theorem covers3 (a : List UInt8) : mCovers a a = lFilter a := by
  unfold mCovers
  rw [not_both, along_self _ holdC (fun x _ _ => by simp [holdC])]
  cases lFilter a <;> rfl

set_option maxRecDepth 100000 in
set_option maxHeartbeats 8000000 in
theorem MatchCovers_w (a b c n : List UInt8) (w : World) (hE : EnvU w) (ha : a.length ≤ 9223372036854775000) (hb : b.length ≤ 9223372036854775000) (hc : c.length ≤ 9223372036854775000) (hn : n.length ≤ 9223372036854775000) :
    Calls Tryd.prog 7 #[.string (sOf a), .string (sOf b), .string (sOf c), .string (sOf n)] w fun e w' => e = .returned (.bool true) ∧ Below w.heap.size w w' := by
  have HE := hd hE; clear hE
  have K1 := hd (fun h1 h2 => @covers1 a b n h1 h2)
  have K2 := hd (fun h1 h2 => @covers2 a b c h1 h2)
  have K3 := hd (covers3 a)
  have hw : Below w.heap.size w w := Below.refl _ _
  go_enter Tryd.func7, Tryd.ntmps7
  go_wp2_with fail
  cases h1 : mCovers a b
  · refine (Covers_c a b _ (HE.out.below hw) ha hb).mono ?_
    rw [h1]
    rintro e w1 ⟨rfl, hx⟩
    replace hw := Below.up hw hx
    clear hx
    go_wp2_with fail
    refine (Covers_c a b _ (HE.out.below hw) ha hb).mono ?_
    rw [h1]
    rintro e w1 ⟨rfl, hx⟩
    replace hw := Below.up hw hx
    clear hx
    go_wp2_with fail
    refine (Covers_c a a _ (HE.out.below hw) ha ha).mono ?_
    rw [K3.out]
    rintro e w1 ⟨rfl, hx⟩
    replace hw := Below.up hw hx
    clear hx
    go_wp2_with fail
    refine (Filter_c a _ (HE.out.below hw) ha).mono ?_
    rintro e w1 ⟨rfl, hx⟩
    replace hw := Below.up hw hx
    clear hx
    have hbe : (lFilter a == lFilter a) = true := by simp
    cases hfa : lFilter a
    all_goals
      go_wp2_with fail
      refine (awake18_c _ (HE.out.below hw)).mono ?_
      rintro e w1 ⟨rfl, hx⟩
      replace hw := Below.up hw hx
      clear hx
      go_wp2_with fail
      go_ret
      exact ⟨rfl, hw⟩
  · cases h2 : mMatch b n
    · refine (Covers_c a b _ (HE.out.below hw) ha hb).mono ?_
      rw [h1]
      rintro e w1 ⟨rfl, hx⟩
      replace hw := Below.up hw hx
      clear hx
      go_wp2_with fail
      refine (Match_c b n _ (HE.out.below hw) hb hn).mono ?_
      rw [h2]
      rintro e w1 ⟨rfl, hx⟩
      replace hw := Below.up hw hx
      clear hx
      go_wp2_with fail
      cases h4 : mCovers b c
      · refine (Covers_c a b _ (HE.out.below hw) ha hb).mono ?_
        rw [h1]
        rintro e w1 ⟨rfl, hx⟩
        replace hw := Below.up hw hx
        clear hx
        go_wp2_with fail
        refine (Covers_c b c _ (HE.out.below hw) hb hc).mono ?_
        rw [h4]
        rintro e w1 ⟨rfl, hx⟩
        replace hw := Below.up hw hx
        clear hx
        go_wp2_with fail
        refine (Covers_c a a _ (HE.out.below hw) ha ha).mono ?_
        rw [K3.out]
        rintro e w1 ⟨rfl, hx⟩
        replace hw := Below.up hw hx
        clear hx
        go_wp2_with fail
        refine (Filter_c a _ (HE.out.below hw) ha).mono ?_
        rintro e w1 ⟨rfl, hx⟩
        replace hw := Below.up hw hx
        clear hx
        have hbe : (lFilter a == lFilter a) = true := by simp
        cases hfa : lFilter a
        all_goals
          go_wp2_with fail
          refine (awake18_c _ (HE.out.below hw)).mono ?_
          rintro e w1 ⟨rfl, hx⟩
          replace hw := Below.up hw hx
          clear hx
          go_wp2_with fail
          go_ret
          exact ⟨rfl, hw⟩
      · have h5 := K2.out h1 h4
        refine (Covers_c a b _ (HE.out.below hw) ha hb).mono ?_
        rw [h1]
        rintro e w1 ⟨rfl, hx⟩
        replace hw := Below.up hw hx
        clear hx
        go_wp2_with fail
        refine (Covers_c b c _ (HE.out.below hw) hb hc).mono ?_
        rw [h4]
        rintro e w1 ⟨rfl, hx⟩
        replace hw := Below.up hw hx
        clear hx
        go_wp2_with fail
        refine (Covers_c a c _ (HE.out.below hw) ha hc).mono ?_
        rw [h5]
        rintro e w1 ⟨rfl, hx⟩
        replace hw := Below.up hw hx
        clear hx
        go_wp2_with fail
        refine (Covers_c a a _ (HE.out.below hw) ha ha).mono ?_
        rw [K3.out]
        rintro e w1 ⟨rfl, hx⟩
        replace hw := Below.up hw hx
        clear hx
        go_wp2_with fail
        refine (Filter_c a _ (HE.out.below hw) ha).mono ?_
        rintro e w1 ⟨rfl, hx⟩
        replace hw := Below.up hw hx
        clear hx
        have hbe : (lFilter a == lFilter a) = true := by simp
        cases hfa : lFilter a
        all_goals
          go_wp2_with fail
          refine (awake18_c _ (HE.out.below hw)).mono ?_
          rintro e w1 ⟨rfl, hx⟩
          replace hw := Below.up hw hx
          clear hx
          go_wp2_with fail
          go_ret
          exact ⟨rfl, hw⟩
    · have h3 := K1.out h1 h2
      refine (Covers_c a b _ (HE.out.below hw) ha hb).mono ?_
      rw [h1]
      rintro e w1 ⟨rfl, hx⟩
      replace hw := Below.up hw hx
      clear hx
      go_wp2_with fail
      refine (Match_c b n _ (HE.out.below hw) hb hn).mono ?_
      rw [h2]
      rintro e w1 ⟨rfl, hx⟩
      replace hw := Below.up hw hx
      clear hx
      go_wp2_with fail
      refine (Match_c a n _ (HE.out.below hw) ha hn).mono ?_
      rw [h3]
      rintro e w1 ⟨rfl, hx⟩
      replace hw := Below.up hw hx
      clear hx
      go_wp2_with fail
      cases h4 : mCovers b c
      · refine (Covers_c a b _ (HE.out.below hw) ha hb).mono ?_
        rw [h1]
        rintro e w1 ⟨rfl, hx⟩
        replace hw := Below.up hw hx
        clear hx
        go_wp2_with fail
        refine (Covers_c b c _ (HE.out.below hw) hb hc).mono ?_
        rw [h4]
        rintro e w1 ⟨rfl, hx⟩
        replace hw := Below.up hw hx
        clear hx
        go_wp2_with fail
        refine (Covers_c a a _ (HE.out.below hw) ha ha).mono ?_
        rw [K3.out]
        rintro e w1 ⟨rfl, hx⟩
        replace hw := Below.up hw hx
        clear hx
        go_wp2_with fail
        refine (Filter_c a _ (HE.out.below hw) ha).mono ?_
        rintro e w1 ⟨rfl, hx⟩
        replace hw := Below.up hw hx
        clear hx
        have hbe : (lFilter a == lFilter a) = true := by simp
        cases hfa : lFilter a
        all_goals
          go_wp2_with fail
          refine (awake18_c _ (HE.out.below hw)).mono ?_
          rintro e w1 ⟨rfl, hx⟩
          replace hw := Below.up hw hx
          clear hx
          go_wp2_with fail
          go_ret
          exact ⟨rfl, hw⟩
      · have h5 := K2.out h1 h4
        refine (Covers_c a b _ (HE.out.below hw) ha hb).mono ?_
        rw [h1]
        rintro e w1 ⟨rfl, hx⟩
        replace hw := Below.up hw hx
        clear hx
        go_wp2_with fail
        refine (Covers_c b c _ (HE.out.below hw) hb hc).mono ?_
        rw [h4]
        rintro e w1 ⟨rfl, hx⟩
        replace hw := Below.up hw hx
        clear hx
        go_wp2_with fail
        refine (Covers_c a c _ (HE.out.below hw) ha hc).mono ?_
        rw [h5]
        rintro e w1 ⟨rfl, hx⟩
        replace hw := Below.up hw hx
        clear hx
        go_wp2_with fail
        refine (Covers_c a a _ (HE.out.below hw) ha ha).mono ?_
        rw [K3.out]
        rintro e w1 ⟨rfl, hx⟩
        replace hw := Below.up hw hx
        clear hx
        go_wp2_with fail
        refine (Filter_c a _ (HE.out.below hw) ha).mono ?_
        rintro e w1 ⟨rfl, hx⟩
        replace hw := Below.up hw hx
        clear hx
        have hbe : (lFilter a == lFilter a) = true := by simp
        cases hfa : lFilter a
        all_goals
          go_wp2_with fail
          refine (awake18_c _ (HE.out.below hw)).mono ?_
          rintro e w1 ⟨rfl, hx⟩
          replace hw := Below.up hw hx
          clear hx
          go_wp2_with fail
          go_ret
          exact ⟨rfl, hw⟩
theorem MatchCovers_s (a b c n : ByteArray) (w : World) (hE : EnvU w) (ha : a.size ≤ 140737488351232) (hb : b.size ≤ 140737488351232) (hc : c.size ≤ 140737488351232) (hn : n.size ≤ 140737488351232) :
    Calls Tryd.prog 7 #[.string a, .string b, .string c, .string n] w fun e w' => e = .returned (.bool true) ∧ Below w.heap.size w w' := by
  have h := MatchCovers_w (sB a) (sB b) (sB c) (sB n) w hE (by rw [sB_len]; omega) (by rw [sB_len]; omega) (by rw [sB_len]; omega) (by rw [sB_len]; omega)
  rw [sOf_sBL, sOf_sBL, sOf_sBL, sOf_sBL] at h
  exact h
end Go.Proofs.YtopopdghmfbciaaDoor
