/- Who comes: plain laws: what was laid is told; with a byte more, or one less, it is not. No program. -/
import Derived.Test.YtinfcjnmloglhaaDoorConOf
import Derived.Test.YtinfcjnmloglhaaDoorUtfJoinPlain
namespace Go.Proofs.YtinfcjnmloglhaaDoor
open Go.RowKit
set_option linter.unusedVariables false
set_option linter.unusedSimpArgs false

theorem sOf_sB (s : ByteArray) : sOf (sB s) = s := by cases s; simp [sOf, sB]
def fld (is : Bool) (S : List UInt8) : List UInt8 := if is = true then uPutRawB S else []

theorem uGetRaw_cut (A S : List UInt8) (h : S.length ≤ 65535) : uGetRaw (A ++ (uPutRawB S).dropLast) (A.length : Int) = ([], 0, 2) := by
  rw [uPutRawB_ok h]
  by_cases hs : S = []
  · subst hs
    have e : (uGet2 (A ++ (B8 (([] : List UInt8).length / 256) :: B8 (([] : List UInt8).length % 256) :: ([] : List UInt8)).dropLast) (A.length : Int)) = (0, 0, 2) := by
      unfold uGet2
      rw [if_neg (by simp; omega), if_pos (by simp; omega)]
    unfold uGetRaw
    rw [e]
    rfl
  · have hd : (B8 (S.length / 256) :: B8 (S.length % 256) :: S).dropLast = B8 (S.length / 256) :: B8 (S.length % 256) :: S.dropLast := by
      cases S with
      | nil => exact absurd rfl hs
      | cons x t => rfl
    have hp : 0 < S.length := by cases S with
      | nil => exact absurd rfl hs
      | cons x t => simp
    rw [hd]
    unfold uGetRaw
    rw [uGet2_at A S.dropLast S.length h]
    simp only
    rw [if_neg (by simp), if_pos (by simp; omega)]
theorem uGet_cut (A S : List UInt8) (h : S.length ≤ 65535) : uGet (A ++ (uPutRawB S).dropLast) (A.length : Int) = ([], 0, 2) := by
  unfold uGet; rw [uGetRaw_cut A S h]; rfl

theorem rText_stuck (g : List UInt8 × Int × Int) (is : Bool) {st : Int × Int} (h : st.2 ≠ 0) : rTextS g is st = st := by
  unfold rTextS; repeat' split
  all_goals first | rfl | contradiction
theorem rFail_stuck {st : Int × Int} (h : st.2 ≠ 0) (E : Int) : rFail st E = st := by unfold rFail; rw [if_neg h]
theorem rTwo_stuck (l : List UInt8) {st : Int × Int} (h : st.2 ≠ 0) : rTwoS l st = st := by unfold rTwoS; rw [if_pos h]
theorem rText_off (g : List UInt8 × Int × Int) (st : Int × Int) : rTextS g false st = st ∧ rTextV g false st = [] := ⟨rfl, rfl⟩
theorem rText_on (g : List UInt8 × Int × Int) (n : Int) : rTextS g true (n, 0) = (g.2.1, g.2.2) ∧ rTextV g true (n, 0) = g.1 := ⟨rfl, rfl⟩

theorem rT_in {l A S C : List UInt8} {is : Bool} {s : Int × Int} (hl : l = A ++ fld is S ++ C) (hs : s = ((A.length : Int), 0)) (hS : is = true → uRight S = true) :
    rTextS (uGet l s.1) is s = (((A ++ fld is S).length : Int), 0) ∧ rTextV (uGet l s.1) is s = if is = true then S else [] := by
  subst hl hs
  cases is
  · rw [(rText_off _ _).1, (rText_off _ _).2]; exact ⟨by simp [fld], rfl⟩
  · have h := hS rfl
    have hz := uRight_len h
    rw [(rText_on _ _).1, (rText_on _ _).2, show fld true S = uPutRawB S from rfl, uGet_at A S C hz, if_pos h]
    refine ⟨?_, rfl⟩
    simp only [List.length_append, uPutRawB_len hz, Prod.mk.injEq, and_true]
    omega
theorem rR_in {l A S C : List UInt8} {is : Bool} {s : Int × Int} (hl : l = A ++ fld is S ++ C) (hs : s = ((A.length : Int), 0)) (hS : is = true → S.length ≤ 65535) :
    rTextS (uGetRaw l s.1) is s = (((A ++ fld is S).length : Int), 0) ∧ rTextV (uGetRaw l s.1) is s = if is = true then S else [] := by
  subst hl hs
  cases is
  · rw [(rText_off _ _).1, (rText_off _ _).2]; exact ⟨by simp [fld], rfl⟩
  · have hz := hS rfl
    rw [(rText_on _ _).1, (rText_on _ _).2, show fld true S = uPutRawB S from rfl, uGetRaw_at A S C hz]
    refine ⟨?_, rfl⟩
    simp only [List.length_append, uPutRawB_len hz, Prod.mk.injEq, and_true]
    omega

/-- what is right about who may come -/
theorem cErr_right {c : Con} (h : cErr c = 0) : c.level = 4 ∧ (0 ≤ c.keep ∧ c.keep ≤ 65535) ∧ (0 ≤ c.qos ∧ c.qos ≤ 2) ∧ (c.hasPass && !c.hasUser) = false ∧ (!c.hasWill && !c.noWill) = false ∧ (!c.hasUser && !emB c.user) = false ∧ (!c.hasPass && !emB c.pass) = false := by
  unfold cErr at h
  by_cases h1 : c.level ≠ 4
  · rw [if_pos h1] at h; cases h
  rw [if_neg h1] at h
  by_cases h2 : c.keep < 0 ∨ 65535 < c.keep
  · rw [if_pos h2] at h; cases h
  rw [if_neg h2] at h
  by_cases h3 : c.qos < 0 ∨ 2 < c.qos
  · rw [if_pos h3] at h; cases h
  rw [if_neg h3] at h
  by_cases h4 : (c.hasPass && !c.hasUser) = true
  · rw [if_pos h4] at h; cases h
  rw [if_neg h4] at h
  by_cases h5 : (!c.hasWill && !c.noWill) = true
  · rw [if_pos h5] at h; cases h
  rw [if_neg h5] at h
  by_cases h6 : (!c.hasUser && !emB c.user) = true
  · rw [if_pos h6] at h; cases h
  rw [if_neg h6] at h
  by_cases h7 : (!c.hasPass && !emB c.pass) = true
  · rw [if_pos h7] at h; cases h
  refine ⟨by omega, by omega, by omega, by simpa using h4, by simpa using h5, by simpa using h6, by simpa using h7⟩

theorem cStep_zero {st : List UInt8 × Int} {is : Bool} {fe : Int} {fb : List UInt8} (h : (cStep st is fe fb).2 = 0) : st.2 = 0 ∧ (is = true → fe = 0) ∧ (cStep st is fe fb).1 = st.1 ++ (if is = true then fb else []) := by
  obtain ⟨l, e⟩ := st
  cases is
  · rw [cStep_no] at h ⊢; exact ⟨h, by simp, by simp⟩
  · by_cases he : e = 0
    · subst he
      by_cases hf : fe = 0
      · subst hf; rw [cStep_ok]; exact ⟨rfl, fun _ => rfl, rfl⟩
      · rw [cStep_err _ _ hf] at h; exact absurd h hf
    · rw [cStep_bad he] at h; exact absurd h he
theorem fld_put {is : Bool} {S : List UInt8} (h : is = true → uPutE S = 0) : (if is = true then uPutB S else []) = fld is S ∧ (is = true → uRight S = true) := by
  cases is
  · exact ⟨rfl, by simp⟩
  · have := uPutE_zero (h rfl)
    exact ⟨by simp [fld, uPutB, this], fun _ => this⟩
theorem fld_raw {is : Bool} {S : List UInt8} (h : is = true → uPutRawE S = 0) : (if is = true then uPutRawB S else []) = fld is S ∧ (is = true → S.length ≤ 65535) := by
  cases is
  · exact ⟨rfl, by simp⟩
  · have := h rfl
    unfold uPutRawE at this
    refine ⟨rfl, fun _ => ?_⟩
    split at this
    · simp at this
    · omega

def cA1 (c : Con) : List UInt8 := cHead c ++ fld true (sB c.client)
def cA2 (c : Con) : List UInt8 := cA1 c ++ fld c.hasWill (sB c.topic)
def cA3 (c : Con) : List UInt8 := cA2 c ++ fld c.hasWill (sB c.text)
def cA4 (c : Con) : List UInt8 := cA3 c ++ fld c.hasUser (sB c.user)
def cA5 (c : Con) : List UInt8 := cA4 c ++ fld c.hasPass (sB c.pass)

structure ConOk (c : Con) : Prop where
  e : cErr c = 0
  f1 : uRight (sB c.client) = true
  f2 : c.hasWill = true → uRight (sB c.topic) = true
  f3 : c.hasWill = true → (sB c.text).length ≤ 65535
  f4 : c.hasUser = true → uRight (sB c.user) = true
  f5 : c.hasPass = true → (sB c.pass).length ≤ 65535
  is : cPutB c = cA5 c
  len : (cA5 c).length ≤ 4096

theorem conOk {c : Con} (h : cPutE c = 0) : ConOk c := by
  have hb : cPutB c = (cS5 c).1 := by rw [cPutB, if_pos h]
  unfold cPutE at h
  by_cases h1 : cErr c ≠ 0
  · rw [if_pos h1] at h; exact absurd h h1
  rw [if_neg h1] at h
  by_cases h2 : (cS5 c).2 ≠ 0
  · rw [if_pos h2] at h; exact absurd h h2
  rw [if_neg h2] at h
  by_cases h3 : 4096 < (cS5 c).1.length
  · rw [if_pos h3] at h; cases h
  have z5 : (cS5 c).2 = 0 := by omega
  obtain ⟨z4, g5, q5⟩ := cStep_zero (st := cS4 c) (is := c.hasPass) (fe := uPutRawE (sB c.pass)) (fb := uPutRawB (sB c.pass)) z5
  obtain ⟨z3, g4, q4⟩ := cStep_zero (st := cS3 c) (is := c.hasUser) (fe := uPutE (sB c.user)) (fb := uPutB (sB c.user)) z4
  obtain ⟨z2, g3, q3⟩ := cStep_zero (st := cS2 c) (is := c.hasWill) (fe := uPutRawE (sB c.text)) (fb := uPutRawB (sB c.text)) z3
  obtain ⟨z1, g2, q2⟩ := cStep_zero (st := cS1 c) (is := c.hasWill) (fe := uPutE (sB c.topic)) (fb := uPutB (sB c.topic)) z2
  obtain ⟨z0, g1, q1⟩ := cStep_zero (st := (cHead c, 0)) (is := true) (fe := uPutE (sB c.client)) (fb := uPutB (sB c.client)) z1
  have i1 := fld_put g1; have i2 := fld_put g2; have i3 := fld_raw g3; have i4 := fld_put g4; have i5 := fld_raw g5
  rw [i1.1] at q1; rw [i2.1] at q2; rw [i3.1] at q3; rw [i4.1] at q4; rw [i5.1] at q5
  have j1 : (cS1 c).1 = cA1 c := q1
  have j2 : (cS2 c).1 = cA2 c := q2.trans (by rw [j1]; rfl)
  have j3 : (cS3 c).1 = cA3 c := q3.trans (by rw [j2]; rfl)
  have j4 : (cS4 c).1 = cA4 c := q4.trans (by rw [j3]; rfl)
  have j5 : (cS5 c).1 = cA5 c := q5.trans (by rw [j4]; rfl)
  exact ⟨by omega, i1.2 rfl, i2.2, i3.2, i4.2, i5.2, hb.trans j5, by rw [← j5]; omega⟩

theorem flags_back {c : Con} (h : 0 ≤ c.qos ∧ c.qos ≤ 2) : fb (cFlags c) 2 = c.clean ∧ fb (cFlags c) 4 = c.hasWill ∧ fb (cFlags c) 32 = c.retain ∧ fb (cFlags c) 64 = c.hasPass ∧ fb (cFlags c) 128 = c.hasUser ∧ bits .and .i64 (cFlags c / 8) 3 = c.qos := by
  have hq : c.qos = 0 ∨ c.qos = 1 ∨ c.qos = 2 := by omega
  unfold cFlags fb
  generalize c.clean = a at *
  generalize c.hasWill = b at *
  generalize c.retain = d at *
  generalize c.hasPass = e at *
  generalize c.hasUser = f at *
  rcases hq with hq | hq | hq <;> rw [hq] <;> cases a <;> cases b <;> cases d <;> cases e <;> cases f <;> decide +kernel
theorem may_back {c : Con} (h : cErr c = 0) : cMay (cFlags c) = true := by
  obtain ⟨-, -, h, h1, h2, -, -⟩ := cErr_right h
  have hq : c.qos = 0 ∨ c.qos = 1 ∨ c.qos = 2 := by omega
  unfold Con.noWill at h2
  unfold cFlags cMay
  generalize c.clean = a at *
  generalize c.hasWill = b at *
  generalize c.retain = d at *
  generalize c.hasPass = e at *
  generalize c.hasUser = f at *
  generalize (emB c.topic && emB c.text) = g at *
  rcases hq with hq | hq | hq <;> rw [hq] at h2 ⊢ <;> cases a <;> cases b <;> cases d <;> cases e <;> cases f <;> first | decide +kernel | (exfalso; revert h1; decide) | (exfalso; revert h2; revert g; decide)

theorem cHead_len (c : Con) : (cHead c).length = 10 := rfl
/-- What the head of it all is told as. -/
theorem kHead {c : Con} (h : cErr c = 0) (R : List UInt8) : cNm (cHead c ++ R) = [77, 81, 84, 84] ∧ cT1 (cHead c ++ R) = (7, 0) ∧ cLv (cHead c ++ R) = 4 ∧ kf (cHead c ++ R) (7, 0) = cFlags c ∧ k3 (cHead c ++ R) (7, 0) = (10, 0) ∧ rTwoV (cHead c ++ R) (k2 (cHead c ++ R) (7, 0)) = c.keep := by
  obtain ⟨-, hk, hq, -⟩ := cErr_right h
  have hf := cFlags_rng hq
  have hll : ((cHead c ++ R).length : Int) = 10 + R.length := by rw [List.length_append, cHead_len]; simp
  have e0 : cHead c ++ R = [] ++ uPutRawB [77, 81, 84, 84] ++ ([4, B8 (cFlags c).toNat, B8 (c.keep.toNat / 256), B8 (c.keep.toNat % 256)] ++ R) := by
    rw [show uPutRawB [77, 81, 84, 84] = [0, 4, 77, 81, 84, 84] from by decide +kernel]; rfl
  have g0 := uGet_at [] [77, 81, 84, 84] ([4, B8 (cFlags c).toNat, B8 (c.keep.toNat / 256), B8 (c.keep.toNat % 256)] ++ R) (by decide)
  rw [if_pos (show uRight [77, 81, 84, 84] = true by decide +kernel), ← e0] at g0
  have g1 : uGet (cHead c ++ R) 0 = ([77, 81, 84, 84], 6, 0) := g0
  have b6 : bN (cHead c ++ R) 6 = 4 := rfl
  have b7 : bN (cHead c ++ R) 7 = (cFlags c).toNat := by
    have : bN (cHead c ++ R) 7 = (B8 (cFlags c).toNat).toNat := rfl
    rw [this, B8_toNat (by omega)]
  have t0 : cT0 (cHead c ++ R) = (6, 0) := by unfold cT0; rw [g1]; rfl
  have t1 : cT1 (cHead c ++ R) = (7, 0) := by unfold cT1; rw [t0]; unfold rOneS; rw [if_neg (by simp), if_neg (by simp only; omega)]; rfl
  have f7 : kf (cHead c ++ R) (7, 0) = cFlags c := by
    unfold kf rOneV; rw [if_neg (by simp), if_neg (by simp only; omega)]
    have : ((7 : Int), (0 : Int)).1.toNat = 7 := rfl
    rw [this, b7]; omega
  have s1 : k1 (cHead c ++ R) (7, 0) = (8, 0) := by unfold k1 rOneS; rw [if_neg (by simp), if_neg (by simp only; omega)]; rfl
  have s2 : k2 (cHead c ++ R) (7, 0) = (8, 0) := by unfold k2; rw [f7, may_back h, s1]; rfl
  have e8 : cHead c ++ R = [0, 4, 77, 81, 84, 84, 4, B8 (cFlags c).toNat] ++ (B8 (c.keep.toNat / 256) :: B8 (c.keep.toNat % 256) :: R) := rfl
  have g8 := uGet2_at [0, 4, 77, 81, 84, 84, 4, B8 (cFlags c).toNat] R c.keep.toNat (by omega)
  rw [← e8] at g8
  have g9 : uGet2 (cHead c ++ R) 8 = ((c.keep.toNat : Int), 10, 0) := g8
  refine ⟨by unfold cNm; rw [g1]; rfl, t1, by unfold cLv rOneV; rw [t0, if_neg (by simp), if_neg (by simp only; omega)]; exact congrArg _ b6, f7, ?_, ?_⟩
  · unfold k3; rw [s2]; unfold rTwoS; rw [if_neg (by simp)]; simp only; rw [g9]
  · rw [s2]; unfold rTwoV; rw [if_neg (by simp)]; simp only; rw [g9]; simp only; omega

theorem em_eq {s : ByteArray} (h : emB s = true) : (⟨#[]⟩ : ByteArray) = s := by
  have e := sOf_sB s
  unfold emB at h
  rw [List.isEmpty_iff.1 h] at e
  exact e
theorem opt_eq {is : Bool} {s : ByteArray} (h : (!is && !emB s) = false) : sOf (if is = true then sB s else []) = s := by
  cases is
  · exact em_eq (by simpa using h)
  · exact sOf_sB s

/-- WHAT WAS LAID, with more behind it. -/
theorem conRun {c : Con} (h : ConOk c) (X : List UInt8) : cNm (cA5 c ++ X) = [77, 81, 84, 84] ∧ cT1 (cA5 c ++ X) = (7, 0) ∧ cLv (cA5 c ++ X) = 4 ∧ k8 (cA5 c ++ X) (7, 0) = (((cA5 c).length : Int), 0) ∧ kCon 4 (cA5 c ++ X) (7, 0) = c := by
  have q5 : cA5 c ++ X = cA4 c ++ fld c.hasPass (sB c.pass) ++ X := rfl
  have q4 : cA5 c ++ X = cA3 c ++ fld c.hasUser (sB c.user) ++ (fld c.hasPass (sB c.pass) ++ X) := by rw [q5]; unfold cA4; simp only [List.append_assoc]
  have q3 : cA5 c ++ X = cA2 c ++ fld c.hasWill (sB c.text) ++ (fld c.hasUser (sB c.user) ++ (fld c.hasPass (sB c.pass) ++ X)) := by rw [q4]; unfold cA3; simp only [List.append_assoc]
  have q2 : cA5 c ++ X = cA1 c ++ fld c.hasWill (sB c.topic) ++ (fld c.hasWill (sB c.text) ++ (fld c.hasUser (sB c.user) ++ (fld c.hasPass (sB c.pass) ++ X))) := by rw [q3]; unfold cA2; simp only [List.append_assoc]
  have q1 : cA5 c ++ X = cHead c ++ fld true (sB c.client) ++ (fld c.hasWill (sB c.topic) ++ (fld c.hasWill (sB c.text) ++ (fld c.hasUser (sB c.user) ++ (fld c.hasPass (sB c.pass) ++ X)))) := by rw [q2]; unfold cA1; simp only [List.append_assoc]
  have q0 : cA5 c ++ X = cHead c ++ (fld true (sB c.client) ++ (fld c.hasWill (sB c.topic) ++ (fld c.hasWill (sB c.text) ++ (fld c.hasUser (sB c.user) ++ (fld c.hasPass (sB c.pass) ++ X))))) := by rw [q1]; simp only [List.append_assoc]
  obtain ⟨n0, n1, n2, n3, n4, n5⟩ := kHead h.e (fld true (sB c.client) ++ (fld c.hasWill (sB c.topic) ++ (fld c.hasWill (sB c.text) ++ (fld c.hasUser (sB c.user) ++ (fld c.hasPass (sB c.pass) ++ X)))))
  rw [← q0] at n0 n1 n2 n3 n4 n5
  obtain ⟨hl, hk, hq, h1, h2, h3, h4⟩ := cErr_right h.e
  obtain ⟨b2, b4, b32, b64, b128, b8⟩ := flags_back hq
  have s4 := rT_in q1 (s := k3 (cA5 c ++ X) (7, 0)) n4 (fun _ => h.f1)
  have t4 : k4 (cA5 c ++ X) (7, 0) = (((cA1 c).length : Int), 0) := s4.1
  have s5 := rT_in q2 (s := k4 (cA5 c ++ X) (7, 0)) t4 h.f2
  have t5 : k5 (cA5 c ++ X) (7, 0) = (((cA2 c).length : Int), 0) := by unfold k5; rw [n3, b4]; exact s5.1
  have s6 := rR_in q3 (s := k5 (cA5 c ++ X) (7, 0)) t5 h.f3
  have t6 : k6 (cA5 c ++ X) (7, 0) = (((cA3 c).length : Int), 0) := by unfold k6; rw [n3, b4]; exact s6.1
  have s7 := rT_in q4 (s := k6 (cA5 c ++ X) (7, 0)) t6 h.f4
  have t7 : k7 (cA5 c ++ X) (7, 0) = (((cA4 c).length : Int), 0) := by unfold k7; rw [n3, b128]; exact s7.1
  have s8 := rR_in q5 (s := k7 (cA5 c ++ X) (7, 0)) t7 h.f5
  have t8 : k8 (cA5 c ++ X) (7, 0) = (((cA5 c).length : Int), 0) := by unfold k8; rw [n3, b64]; exact s8.1
  refine ⟨n0, n1, n2, t8, ?_⟩
  unfold kCon
  rw [n3, b2, b4, b32, b64, b128, b8, n5, s4.2, s5.2, s6.2, s7.2, s8.2]
  unfold Con.noWill at h2
  have e1 : sOf (if (true : Bool) = true then sB c.client else []) = c.client := sOf_sB _
  have e2 : sOf (if c.hasWill = true then sB c.topic else []) = c.topic := opt_eq (by
    revert h2; generalize c.hasWill = x; generalize emB c.topic = y; cases x <;> cases y <;> simp)
  have e3 : sOf (if c.hasWill = true then sB c.text else []) = c.text := opt_eq (by
    revert h2; generalize c.hasWill = x; generalize emB c.text = y; cases x <;> cases y <;> simp)
  rw [e1, e2, e3, opt_eq h3, opt_eq h4, ← hl]

theorem con_back {c : Con} (h : cPutE c = 0) : cOf (cPutB c) = (c, 0) := by
  have hk := conOk h
  obtain ⟨n0, n1, n2, t8, kc⟩ := conRun hk []
  rw [List.append_nil] at n0 n1 n2 t8 kc
  rw [hk.is]
  unfold cOf
  rw [if_neg (by simp [n0]), if_pos n2, n1, kc]
  have : k9 (cA5 c) (7, 0) = (((cA5 c).length : Int), 0) := by unfold k9; rw [t8, if_neg (by simp)]
  rw [this]; rfl
theorem con_more {c : Con} (h : cPutE c = 0) (x : UInt8) : cOf (cPutB c ++ [x]) = (Con.zero, 4) := by
  have hk := conOk h
  obtain ⟨n0, n1, n2, t8, kc⟩ := conRun hk [x]
  rw [hk.is]
  unfold cOf
  rw [if_neg (by simp [n0]), if_pos n2, n1]
  have : k9 (cA5 c ++ [x]) (7, 0) = (((cA5 c).length : Int), 4) := by unfold k9; rw [t8, if_pos (by simp; omega)]; rfl
  rw [this]; rfl
theorem con_less {c : Con} (h : cPutE c = 0) : cOf (cPutB c).dropLast = (Con.zero, 2) := by
  have hk := conOk h
  rw [hk.is]
  obtain ⟨hl, hkp, hq, h1, h2, h3, h4⟩ := cErr_right hk.e
  obtain ⟨b2, b4, b32, b64, b128, b8⟩ := flags_back hq
  -- the last text there is, cut: what stands ahead of it is told, then it ends too early
  have fin : ∀ L R, L = cHead c ++ R → k8 L (7, 0) = (0, 2) → cOf L = (Con.zero, 2) := by
    intro L R hL h8
    obtain ⟨n0, n1, n2, n3, n4, n5⟩ := kHead hk.e R
    rw [← hL] at n0 n1 n2
    unfold cOf
    rw [if_neg (by simp [n0]), if_pos n2, n1]
    have : k9 L (7, 0) = (0, 2) := by unfold k9; rw [h8, if_neg (by simp)]
    rw [this]; rfl
  have dl : ∀ A S : List UInt8, S.length ≤ 65535 → (A ++ uPutRawB S).dropLast = A ++ (uPutRawB S).dropLast := by
    intro A S hS
    rw [uPutRawB_ok hS, List.dropLast_append_of_ne_nil (by simp)]
  by_cases p : c.hasPass = true
  · have e5 : (cA5 c).dropLast = cA4 c ++ (uPutRawB (sB c.pass)).dropLast := by
      unfold cA5; rw [p, show fld true (sB c.pass) = uPutRawB (sB c.pass) from rfl, dl _ _ (hk.f5 p)]
    rw [e5]
    generalize hD : (uPutRawB (sB c.pass)).dropLast = D
    have cut := uGetRaw_cut (cA4 c) (sB c.pass) (hk.f5 p)
    rw [hD] at cut
    have q4 : cA4 c ++ D = cA3 c ++ fld c.hasUser (sB c.user) ++ D := rfl
    have q3 : cA4 c ++ D = cA2 c ++ fld c.hasWill (sB c.text) ++ (fld c.hasUser (sB c.user) ++ D) := by rw [q4]; unfold cA3; simp only [List.append_assoc]
    have q2 : cA4 c ++ D = cA1 c ++ fld c.hasWill (sB c.topic) ++ (fld c.hasWill (sB c.text) ++ (fld c.hasUser (sB c.user) ++ D)) := by rw [q3]; unfold cA2; simp only [List.append_assoc]
    have q1 : cA4 c ++ D = cHead c ++ fld true (sB c.client) ++ (fld c.hasWill (sB c.topic) ++ (fld c.hasWill (sB c.text) ++ (fld c.hasUser (sB c.user) ++ D))) := by rw [q2]; unfold cA1; simp only [List.append_assoc]
    have q0 := q1.trans (List.append_assoc _ _ _)
    refine fin _ _ q0 ?_
    obtain ⟨n0, n1, n2, n3, n4, n5⟩ := kHead hk.e (fld true (sB c.client) ++ (fld c.hasWill (sB c.topic) ++ (fld c.hasWill (sB c.text) ++ (fld c.hasUser (sB c.user) ++ D))))
    rw [← q0] at n3 n4
    have t4 : k4 (cA4 c ++ D) (7, 0) = (((cA1 c).length : Int), 0) := (rT_in q1 (s := k3 (cA4 c ++ D) (7, 0)) n4 (fun _ => hk.f1)).1
    have t5 : k5 (cA4 c ++ D) (7, 0) = (((cA2 c).length : Int), 0) := by unfold k5; rw [n3, b4]; exact (rT_in q2 t4 hk.f2).1
    have t6 : k6 (cA4 c ++ D) (7, 0) = (((cA3 c).length : Int), 0) := by unfold k6; rw [n3, b4]; exact (rR_in q3 t5 hk.f3).1
    have t7 : k7 (cA4 c ++ D) (7, 0) = (((cA4 c).length : Int), 0) := by unfold k7; rw [n3, b128]; exact (rT_in q4 t6 hk.f4).1
    unfold k8
    rw [n3, b64, p, t7, cut]
    rfl
  have p0 : c.hasPass = false := by simpa using p
  have a5 : cA5 c = cA4 c := by unfold cA5; rw [p0]; simp [fld]
  rw [a5]
  by_cases u : c.hasUser = true
  · have e5 : (cA4 c).dropLast = cA3 c ++ (uPutRawB (sB c.user)).dropLast := by
      unfold cA4; rw [u, show fld true (sB c.user) = uPutRawB (sB c.user) from rfl, dl _ _ (uRight_len (hk.f4 u))]
    rw [e5]
    generalize hD : (uPutRawB (sB c.user)).dropLast = D
    have cut := uGet_cut (cA3 c) (sB c.user) (uRight_len (hk.f4 u))
    rw [hD] at cut
    have q3 : cA3 c ++ D = cA2 c ++ fld c.hasWill (sB c.text) ++ D := rfl
    have q2 : cA3 c ++ D = cA1 c ++ fld c.hasWill (sB c.topic) ++ (fld c.hasWill (sB c.text) ++ D) := by rw [q3]; unfold cA2; simp only [List.append_assoc]
    have q1 : cA3 c ++ D = cHead c ++ fld true (sB c.client) ++ (fld c.hasWill (sB c.topic) ++ (fld c.hasWill (sB c.text) ++ D)) := by rw [q2]; unfold cA1; simp only [List.append_assoc]
    have q0 := q1.trans (List.append_assoc _ _ _)
    refine fin _ _ q0 ?_
    obtain ⟨n0, n1, n2, n3, n4, n5⟩ := kHead hk.e (fld true (sB c.client) ++ (fld c.hasWill (sB c.topic) ++ (fld c.hasWill (sB c.text) ++ D)))
    rw [← q0] at n3 n4
    have t4 : k4 (cA3 c ++ D) (7, 0) = (((cA1 c).length : Int), 0) := (rT_in q1 (s := k3 (cA3 c ++ D) (7, 0)) n4 (fun _ => hk.f1)).1
    have t5 : k5 (cA3 c ++ D) (7, 0) = (((cA2 c).length : Int), 0) := by unfold k5; rw [n3, b4]; exact (rT_in q2 t4 hk.f2).1
    have t6 : k6 (cA3 c ++ D) (7, 0) = (((cA3 c).length : Int), 0) := by unfold k6; rw [n3, b4]; exact (rR_in q3 t5 hk.f3).1
    have t7 : k7 (cA3 c ++ D) (7, 0) = (0, 2) := by unfold k7; rw [n3, b128, u, t6, cut]; rfl
    unfold k8
    rw [t7]
    exact rText_stuck _ _ (by simp)
  have u0 : c.hasUser = false := by simpa using u
  have a4 : cA4 c = cA3 c := by unfold cA4; rw [u0]; simp [fld]
  rw [a4]
  by_cases wl : c.hasWill = true
  · have e5 : (cA3 c).dropLast = cA2 c ++ (uPutRawB (sB c.text)).dropLast := by
      unfold cA3; rw [wl, show fld true (sB c.text) = uPutRawB (sB c.text) from rfl, dl _ _ (hk.f3 wl)]
    rw [e5]
    generalize hD : (uPutRawB (sB c.text)).dropLast = D
    have cut := uGetRaw_cut (cA2 c) (sB c.text) (hk.f3 wl)
    rw [hD] at cut
    have q2 : cA2 c ++ D = cA1 c ++ fld c.hasWill (sB c.topic) ++ D := rfl
    have q1 : cA2 c ++ D = cHead c ++ fld true (sB c.client) ++ (fld c.hasWill (sB c.topic) ++ D) := by rw [q2]; unfold cA1; simp only [List.append_assoc]
    have q0 := q1.trans (List.append_assoc _ _ _)
    refine fin _ _ q0 ?_
    obtain ⟨n0, n1, n2, n3, n4, n5⟩ := kHead hk.e (fld true (sB c.client) ++ (fld c.hasWill (sB c.topic) ++ D))
    rw [← q0] at n3 n4
    have t4 : k4 (cA2 c ++ D) (7, 0) = (((cA1 c).length : Int), 0) := (rT_in q1 (s := k3 (cA2 c ++ D) (7, 0)) n4 (fun _ => hk.f1)).1
    have t5 : k5 (cA2 c ++ D) (7, 0) = (((cA2 c).length : Int), 0) := by unfold k5; rw [n3, b4]; exact (rT_in q2 t4 hk.f2).1
    have t6 : k6 (cA2 c ++ D) (7, 0) = (0, 2) := by unfold k6; rw [n3, b4, wl, t5, cut]; rfl
    have t7 : k7 (cA2 c ++ D) (7, 0) = (0, 2) := by unfold k7; rw [t6]; exact rText_stuck _ _ (by simp)
    unfold k8
    rw [t7]
    exact rText_stuck _ _ (by simp)
  have w0 : c.hasWill = false := by simpa using wl
  have a3 : cA3 c = cA1 c := by unfold cA3 cA2; rw [w0]; simp [fld]
  rw [a3]
  have e5 : (cA1 c).dropLast = cHead c ++ (uPutRawB (sB c.client)).dropLast := by
    unfold cA1; rw [show fld true (sB c.client) = uPutRawB (sB c.client) from rfl, dl _ _ (uRight_len hk.f1)]
  rw [e5]
  generalize hD : (uPutRawB (sB c.client)).dropLast = D
  have cut := uGet_cut (cHead c) (sB c.client) (uRight_len hk.f1)
  rw [hD] at cut
  refine fin _ _ rfl ?_
  obtain ⟨n0, n1, n2, n3, n4, n5⟩ := kHead hk.e D
  have cut' : uGet (cHead c ++ D) 10 = ([], 0, 2) := cut
  have t4 : k4 (cHead c ++ D) (7, 0) = (0, 2) := by unfold k4; rw [n4]; simp only; rw [cut']; rfl
  have t5 : k5 (cHead c ++ D) (7, 0) = (0, 2) := by unfold k5; rw [t4]; exact rText_stuck _ _ (by simp)
  have t6 : k6 (cHead c ++ D) (7, 0) = (0, 2) := by unfold k6; rw [t5]; exact rText_stuck _ _ (by simp)
  have t7 : k7 (cHead c ++ D) (7, 0) = (0, 2) := by unfold k7; rw [t6]; exact rText_stuck _ _ (by simp)
  unfold k8
  rw [t7]
  exact rText_stuck _ _ (by simp)
end Go.Proofs.YtinfcjnmloglhaaDoor
