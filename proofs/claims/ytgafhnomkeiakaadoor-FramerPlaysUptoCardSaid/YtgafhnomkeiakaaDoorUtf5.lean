/- Texts: a text, laid and got; that the program is awake. -/
import Derived.Test.YtgafhnomkeiakaaDoorUtf4
namespace Go.Proofs.YtgafhnomkeiakaaDoor
open Go.RowKit
set_option linter.unusedVariables false

theorem uRight_len {l : List UInt8} (h : uRight l = true) : l.length ≤ 65535 := by
  unfold uRight at h
  simp at h
  exact h.1

set_option maxRecDepth 100000 in
set_option maxHeartbeats 1000000 in
theorem Put_c (s : ByteArray) (w : World) (hE : EnvU w) (hs : s.size ≤ 140737488355327) : Calls Tryd.prog 54 #[.string s] w (GivesB w (uPutB (sB s)) (uPutE (sB s))) := by
  obtain ⟨rE, hrE⟩ : ∃ r, uPutE (sB s) = r := ⟨_, rfl⟩
  obtain ⟨rB, hrB⟩ : ∃ r, uPutB (sB s) = r := ⟨_, rfl⟩
  rw [hrE, hrB]
  unfold uPutE at hrE
  unfold uPutB at hrB
  have HE := hd hE; clear hE
  have hL := sB_len s
  have hraw : uPutRawE (sB s) = if 65535 < s.size then 3 else 0 := by unfold uPutRawE; rw [hL]
  rw [hL] at hrE
  by_cases hl : 65535 < s.size
  · have hrt : uRight (sB s) = false := by
      cases h : uRight (sB s) with
      | false => rfl
      | true => have := uRight_len h; omega
    have hrw : uPutRawB (sB s) = [] := by unfold uPutRawB; rw [if_pos (by omega)]
    rw [if_pos hl] at hrE hraw
    rw [hrt, if_neg (by decide)] at hrB
    subst hrE hrB
    go_enter Tryd.func54, Tryd.ntmps54
    go_wp2_with fail
    refine (PutRaw_c s _ hs).mono ?_
    rw [hrw, hraw]
    rintro e w' ⟨v, rfl, ho, hb⟩
    go_wp2_with fail
    go_ret2
    exact ⟨_, rfl, ho, hb⟩
  · rw [if_neg hl] at hrE hraw
    cases hrt : uRight (sB s) with
    | false =>
      rw [hrt, if_neg (by decide)] at hrE hrB
      subst hrE hrB
      go_enter Tryd.func54, Tryd.ntmps54
      go_wp2_with fail
      refine (Right_c s _ HE.out (by omega)).mono ?_
      rw [hrt]
      rintro e w' ⟨rfl, hb⟩
      go_wp2_with fail
      go_ret2
      exact GivesB.nil hb
    | true =>
      rw [hrt, if_pos rfl] at hrE hrB
      subst hrE
      have HB := hd hrB; clear hrB
      go_enter Tryd.func54, Tryd.ntmps54
      go_wp2_with fail
      refine (Right_c s _ HE.out (by omega)).mono ?_
      rw [hrt]
      rintro e w' ⟨rfl, hb⟩
      go_wp2_with fail
      refine (PutRaw_c s _ hs).mono ?_
      rw [HB.out, hraw]
      rintro e w2 ⟨v, rfl, ho, hb2⟩
      go_wp2_with fail
      go_ret2
      exact ⟨_, rfl, ho.le hb.size, hb.trans (hb2.mono hb.size)⟩

set_option maxRecDepth 100000 in
set_option maxHeartbeats 1000000 in
theorem refPut_c (s : ByteArray) (w : World) (hs : s.size ≤ 140737488355327) : Calls Tryd.prog 40 #[.string s] w (GivesB w (uPutB (sB s)) (uPutE (sB s))) := by
  obtain ⟨rE, hrE⟩ : ∃ r, uPutE (sB s) = r := ⟨_, rfl⟩
  obtain ⟨rB, hrB⟩ : ∃ r, uPutB (sB s) = r := ⟨_, rfl⟩
  rw [hrE, hrB]
  unfold uPutE at hrE
  unfold uPutB at hrB
  have hL := sB_len s
  have hraw : uPutRawE (sB s) = if 65535 < s.size then 3 else 0 := by unfold uPutRawE; rw [hL]
  rw [hL] at hrE
  by_cases hl : 65535 < s.size
  · have hrt : uRight (sB s) = false := by
      cases h : uRight (sB s) with
      | false => rfl
      | true => have := uRight_len h; omega
    rw [if_pos hl] at hrE
    rw [hrt, if_neg (by decide)] at hrB
    subst hrE hrB
    clear hraw
    go_enter Tryd.func40, Tryd.ntmps40
    go_wp2_with fail
    go_ret2
    exact GivesB.nil (by go_grown)
  · rw [if_neg hl] at hrE hraw
    cases hrt : uRight (sB s) with
    | false =>
      rw [hrt, if_neg (by decide)] at hrE hrB
      subst hrE hrB
      go_enter Tryd.func40, Tryd.ntmps40
      go_wp2_with fail
      refine (refRight_c s _ (by omega)).mono ?_
      rw [hrt]
      rintro e w' ⟨rfl, hb⟩
      go_wp2_with fail
      go_ret2
      exact GivesB.nil hb
    | true =>
      rw [hrt, if_pos rfl] at hrE hrB
      subst hrE
      have HB := hd hrB; clear hrB
      go_enter Tryd.func40, Tryd.ntmps40
      go_wp2_with fail
      refine (refRight_c s _ (by omega)).mono ?_
      rw [hrt]
      rintro e w' ⟨rfl, hb⟩
      go_wp2_with fail
      refine (refPutRaw_c s _ hs).mono ?_
      rw [HB.out, hraw]
      rintro e w2 ⟨v, rfl, ho, hb2⟩
      go_wp2_with fail
      go_ret2
      exact ⟨_, rfl, ho.le hb.size, hb.trans (hb2.mono hb.size)⟩

theorem uGetRaw_len (l : List UInt8) (at' : Int) : (uGetRaw l at').1.length ≤ 65535 := by
  unfold uGetRaw
  have h := @uGet2_ok l at'
  generalize uGet2 l at' = q at h ⊢
  obtain ⟨qn, qk, qe⟩ := q
  simp only at h ⊢
  split
  · simp
  · split
    · simp
    · rename_i h1 h2
      have := h (by omega)
      simp only [List.length_take, List.length_drop]
      omega

set_option maxRecDepth 100000 in
set_option maxHeartbeats 1000000 in
theorem Get_c (v : Value) (l : List UInt8) (at' : Int) (w : World) (hE : EnvU w) (hv : Bs w v l) : Calls Tryd.prog 71 #[v, .int .i64 at'] w (GivesS w (uGet l at')) := by
  obtain ⟨r, hr⟩ : ∃ r, uGet l at' = r := ⟨_, rfl⟩
  rw [hr]
  unfold uGet at hr
  have HE := hd hE; clear hE
  obtain ⟨a, c, rfl⟩ := hv.slice
  go_enter Tryd.func71, Tryd.ntmps71
  go_wp2_with fail
  refine (GetRaw_c _ l at' _ hv).mono ?_
  rintro e w1 ⟨rfl, hb⟩
  have hlen := uGetRaw_len l at'
  generalize uGetRaw l at' = q at hr hlen ⊢
  obtain ⟨qs, qk, qe⟩ := q
  simp only at hr hlen ⊢
  have hsz := sOf_size qs
  by_cases he : qe = 0
  · subst he
    rw [if_neg (by decide)] at hr
    cases hrt : uRight qs with
    | false =>
      rw [if_pos hrt] at hr
      subst hr
      go_wp2_with fail
      refine (Right_c (sOf qs) _ (HE.out.below hb) (by omega)).mono ?_
      rw [sB_sOf, hrt]
      rintro e w2 ⟨rfl, hb2⟩
      have hb3 := hb.trans (hb2.mono hb.size)
      go_wp2_with fail
      go_ret3
      exact ⟨rfl, hb3⟩
    | true =>
      rw [hrt, if_neg (by decide)] at hr
      have Hr := hd hr; clear hr
      go_wp2_with fail
      refine (Right_c (sOf qs) _ (HE.out.below hb) (by omega)).mono ?_
      rw [sB_sOf, hrt]
      rintro e w2 ⟨rfl, hb2⟩
      have hb3 := hb.trans (hb2.mono hb.size)
      go_wp2_with fail
      go_ret3
      rw [← Hr.out]
      exact ⟨rfl, hb3⟩
  · rw [if_pos he] at hr
    subst hr
    have heb : (qe != 0) = true := by simpa using he
    go_wp2_with fail
    go_ret3
    exact ⟨rfl, hb⟩

set_option maxRecDepth 100000 in
set_option maxHeartbeats 1000000 in
theorem refGet_c (v : Value) (l : List UInt8) (at' : Int) (w : World) (hv : Bs w v l) : Calls Tryd.prog 46 #[v, .int .i64 at'] w (GivesS w (uGet l at')) := by
  obtain ⟨r, hr⟩ : ∃ r, uGet l at' = r := ⟨_, rfl⟩
  rw [hr]
  unfold uGet at hr
  obtain ⟨a, c, rfl⟩ := hv.slice
  go_enter Tryd.func46, Tryd.ntmps46
  go_wp2_with fail
  refine (refGetRaw_c _ l at' _ hv).mono ?_
  rintro e w1 ⟨rfl, hb⟩
  have hlen := uGetRaw_len l at'
  generalize uGetRaw l at' = q at hr hlen ⊢
  obtain ⟨qs, qk, qe⟩ := q
  simp only at hr hlen ⊢
  have hsz := sOf_size qs
  by_cases he : qe = 0
  · subst he
    rw [if_neg (by decide)] at hr
    cases hrt : uRight qs with
    | false =>
      rw [if_pos hrt] at hr
      subst hr
      go_wp2_with fail
      refine (refRight_c (sOf qs) _ (by omega)).mono ?_
      rw [sB_sOf, hrt]
      rintro e w2 ⟨rfl, hb2⟩
      have hb3 := hb.trans (hb2.mono hb.size)
      go_wp2_with fail
      go_ret3
      exact ⟨rfl, hb3⟩
    | true =>
      rw [hrt, if_neg (by decide)] at hr
      have Hr := hd hr; clear hr
      go_wp2_with fail
      refine (refRight_c (sOf qs) _ (by omega)).mono ?_
      rw [sB_sOf, hrt]
      rintro e w2 ⟨rfl, hb2⟩
      have hb3 := hb.trans (hb2.mono hb.size)
      go_wp2_with fail
      go_ret3
      rw [← Hr.out]
      exact ⟨rfl, hb3⟩
  · rw [if_pos he] at hr
    subst hr
    have heb : (qe != 0) = true := by simpa using he
    go_wp2_with fail
    go_ret3
    exact ⟨rfl, hb⟩

end Go.Proofs.YtgafhnomkeiakaaDoor
