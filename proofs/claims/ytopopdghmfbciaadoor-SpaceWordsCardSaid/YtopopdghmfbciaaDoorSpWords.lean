/- Spots and topics: words and kinds; one each: the walks. -/
import Derived.Test.YtopopdghmfbciaaDoorSpOf2
import Derived.Test.YtopopdghmfbciaaDoorSpOpen
namespace Go.Proofs.YtopopdghmfbciaaDoor
open Go.RowKit
set_option linter.unusedVariables false
set_option linter.unusedSimpArgs false

theorem word_none {k : Int} (h : ¬ (1 ≤ k ∧ k ≤ 9)) : sWord k = [] := by
  unfold sWord
  split
  · have : k = 0 := by omega
    subst this
    rfl
  · rfl
theorem word_ne {k : Int} (h1 : 1 ≤ k) (h9 : k ≤ 9) : sWord k ≠ [] := fun e => by
  have h := kind_word h1 h9
  rw [e] at h
  have : sKind [] = 0 := by decide
  omega
set_option maxRecDepth 100000 in
set_option maxHeartbeats 4000000 in
theorem SpaceWords_w (k : Int) (l : List UInt8) (w : World) (hE : EnvU w) (hW : EnvW w) (hs : l.length ≤ 9223372036854775000) :
    Calls Tryd.prog 12 #[.int .i64 k, .string (sOf l)] w fun e w' => e = .returned (.bool true) ∧ Below w.heap.size w w' := by
  have HE := hd hE; have HW := hd hW
  clear hE hW
  obtain ⟨wd, hwd⟩ : ∃ wd, sWord k = wd := ⟨_, rfl⟩
  obtain ⟨n, hn⟩ : ∃ n, sKind l = n := ⟨_, rfl⟩
  have HWD := hd hwd; have HN := hd hn
  clear hwd hn
  have htw := toList_sOf wd
  have htl := toList_sOf l
  have hww : (wd != wd) = false := by simp
  have hnn : (n != n) = false := by simp
  go_enter Tryd.func12, Tryd.ntmps12
  go_wp2_with fail
  refine (Word_c k _ HW.out).mono ?_
  rw [HWD.out]
  rintro e w1 ⟨rfl, rfl⟩
  go_wp2_with fail
  refine (refWord_c k _).mono ?_
  rw [HWD.out]
  rintro e w1 ⟨rfl, rfl⟩
  go_wp2_with fail
  refine (Kind_c l _ HW.out).mono ?_
  rw [HN.out]
  rintro e w1 ⟨rfl, rfl⟩
  go_wp2_with fail
  refine (refKind_c l _).mono ?_
  rw [HN.out]
  rintro e w1 ⟨rfl, rfl⟩
  by_cases hk : 1 ≤ k ∧ k ≤ 9
  · have hkw : sKind wd = k := by rw [← HWD.out]; exact kind_word hk.1 hk.2
    have hne : wd ≠ [] := by rw [← HWD.out]; exact word_ne hk.1 hk.2
    have hne1 : wd.isEmpty = false := by simpa using hne
    have hkk : (k == k) = true := by simp
    obtain ⟨hk1, hk9⟩ := hk
    have HKW := hd hkw
    clear hkw hne
    go_wp2_with fail
    refine (Kind_c wd _ HW.out).mono ?_
    rw [HKW.out]
    rintro e w1 ⟨rfl, rfl⟩
    go_wp2_with fail
    refine (awake20_c _ HE.out HW.out).mono ?_
    rintro e w1 ⟨rfl, hb⟩
    go_wp2_with fail
    go_ret
    exact ⟨rfl, hb⟩
  · have hwn : wd = [] := by rw [← HWD.out]; exact word_none hk
    have hne1 : wd.isEmpty = true := by simpa using hwn
    have hr := kind_range l
    rw [HN.out] at hr
    have HR := hd hr
    clear hwn hr
    have key : (1 ≤ k ∧ ¬ k ≤ 9) ∨ ¬ 1 ≤ k := by omega
    have KEY := hd key
    clear key hk
    have hn0 : n = 0 ∨ (n ≠ 0 ∧ sWord n = l) := by
      rcases HR.out with h | ⟨h1, h2, h3⟩
      · exact .inl h
      · exact .inr ⟨by omega, h3⟩
    have HN0 := hd hn0
    clear hn0
    rcases KEY.out with ⟨hk1, hk9⟩ | hk1
    all_goals
      rcases HN0.out with hz | ⟨hz, hwl⟩
      · have hz1 : (n == 0) = true := by simpa using hz
        clear hz
        go_wp2_with fail
        refine (Kind_c l _ HW.out).mono ?_
        rw [HN.out]
        rintro e w1 ⟨rfl, rfl⟩
        go_wp2_with fail
        refine (awake20_c _ HE.out HW.out).mono ?_
        rintro e w1 ⟨rfl, hb⟩
        go_wp2_with fail
        go_ret
        exact ⟨rfl, hb⟩
      · have hz1 : (n == 0) = false := by simpa using hz
        have HWL := hd hwl
        have hll : (l == l) = true := by simp
        clear hz hwl
        go_wp2_with fail
        refine (Kind_c l _ HW.out).mono ?_
        rw [HN.out]
        rintro e w1 ⟨rfl, rfl⟩
        go_wp2_with fail
        refine (Word_c n _ HW.out).mono ?_
        rw [HWL.out]
        rintro e w1 ⟨rfl, rfl⟩
        go_wp2_with fail
        refine (awake20_c _ HE.out HW.out).mono ?_
        rintro e w1 ⟨rfl, hb⟩
        go_wp2_with fail
        go_ret
        exact ⟨rfl, hb⟩
theorem SpaceWords_s (k : Int) (a : ByteArray) (w : World) (hE : EnvU w) (hW : EnvW w) (ha : a.size ≤ 140737488351232) :
    Calls Tryd.prog 12 #[.int .i64 k, .string a] w fun e w' => e = .returned (.bool true) ∧ Below w.heap.size w w' := by
  have h := SpaceWords_w k (sB a) w hE hW (by rw [sB_len]; omega)
  rwa [sOf_sBL] at h
end Go.Proofs.YtopopdghmfbciaaDoor
