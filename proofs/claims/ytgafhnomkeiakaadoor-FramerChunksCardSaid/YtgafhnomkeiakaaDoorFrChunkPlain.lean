/- Chunks play no part: the plain law. -/
import Derived.Test.YtgafhnomkeiakaaDoorFrPk
namespace Go.Proofs.YtgafhnomkeiakaaDoor
open Go.RowKit
set_option linter.unusedVariables false
set_option linter.unusedSimpArgs false

theorem bN_left {l B : List UInt8} {j : Nat} (h : j < l.length) : bN (l ++ B) j = bN l j := by
  unfold bN; simp [List.getD, List.getElem?_append_left h]
theorem hLen_mono {l B : List UInt8} (h : (hLen l).2.2 ≠ 2) : hLen (l ++ B) = hLen l := by
  have k : ∀ j, j < l.length → bN (l ++ B) j = bN l j := fun j hj => bN_left hj
  unfold hLen at h ⊢
  rw [List.length_append]
  by_cases h0 : l.length = 0
  · rw [if_pos h0] at h; exact absurd rfl h
  have z0 : ¬ l.length + B.length = 0 := by omega
  simp only [if_neg h0, if_neg z0, k 0 (by omega)] at h ⊢
  by_cases a0 : (bN l 0 : Int) < 128
  · simp only [if_pos a0]
  simp only [if_neg a0] at h ⊢
  by_cases h1 : l.length = 1
  · rw [if_pos h1] at h; exact absurd rfl h
  have z1 : ¬ l.length + B.length = 1 := by omega
  simp only [if_neg h1, if_neg z1, k 1 (by omega)] at h ⊢
  by_cases a1 : (bN l 1 : Int) < 128
  · simp only [if_pos a1]
  simp only [if_neg a1] at h ⊢
  by_cases h2 : l.length = 2
  · rw [if_pos h2] at h; exact absurd rfl h
  have z2 : ¬ l.length + B.length = 2 := by omega
  simp only [if_neg h2, if_neg z2, k 2 (by omega)] at h ⊢
  by_cases a2 : (bN l 2 : Int) < 128
  · simp only [if_pos a2]
  simp only [if_neg a2] at h ⊢
  by_cases h3 : l.length = 3
  · rw [if_pos h3] at h; exact absurd rfl h
  have z3 : ¬ l.length + B.length = 3 := by omega
  simp only [if_neg h3, if_neg z3, k 3 (by omega)] at h ⊢
theorem hLen_pos {l : List UInt8} (h : (hLen l).2.2 = 0) : 1 ≤ (hLen l).2.1 := by
  unfold hLen at h ⊢
  repeat' split at h
  all_goals first
    | (simp at h; done)
    | (simp only [*, if_true, if_false]; done)
    | (simp [*])
theorem hGet_mono {l B : List UInt8} (h : (hGet l 0).2.2 ≠ 2) : hGet (l ++ B) 0 = hGet l 0 := by
  unfold hGet at h ⊢
  rw [List.length_append]
  have y0 : ¬ ((0 : Int) < 0 ∨ (l.length : Int) < 0) := by omega
  have y1 : ¬ ((0 : Int) < 0 ∨ ((l.length + B.length : Nat) : Int) < 0) := by omega
  rw [if_neg y0] at h ⊢
  rw [if_neg y1]
  by_cases h0 : (0 : Int) = l.length
  · rw [if_pos h0] at h; exact absurd rfl h
  have z0 : ¬ (0 : Int) = ((l.length + B.length : Nat) : Int) := by omega
  rw [if_neg h0] at h ⊢
  rw [if_neg z0]
  simp only [Int.toNat_zero, Nat.zero_add] at h ⊢
  have e1 : bN (l ++ B) 0 = bN l 0 := bN_left (by omega)
  have e2 : (l ++ B).drop 1 = l.drop 1 ++ B := by rw [List.drop_append_of_le_length (by omega)]
  rw [e1, e2]
  by_cases hr : hRight ((bN l 0 : Int) / 16) ((bN l 0 : Int) % 16) = 0
  · have hr' : ¬ (hRight ((bN l 0 : Int) / 16) ((bN l 0 : Int) % 16) ≠ 0) := by simpa using hr
    rw [if_neg hr'] at h ⊢
    rw [if_neg hr']
    by_cases h2 : (hLen (l.drop 1)).2.2 = 2
    · have h2' : (hLen (l.drop 1)).2.2 ≠ 0 := by omega
      rw [if_pos h2'] at h
      exact absurd h2 h
    · rw [hLen_mono h2]
  · rw [if_pos hr, if_pos hr]
theorem hGet_two {l : List UInt8} (h : (hGet l 0).2.2 = 0) : 2 ≤ (hGet l 0).2.1 := by
  unfold hGet at h ⊢
  repeat' split at h
  all_goals try (simp at h; done)
  all_goals try (simp only at h; omega)
  rename_i h1 h2 h3 h4 h5
  rw [if_neg h1, if_neg h2, if_neg h3, if_neg h4, if_neg h5]
  have := hLen_pos (Decidable.not_not.1 h4)
  simp only
  omega

def feedS (s : FrS) (B : List UInt8) : FrS := (if s.2.2 = 0 then s.1 ++ B else s.1, s.2.1, s.2.2)
theorem feedS_feed (s : FrS) (A B : List UInt8) : feedS (feedS s A) B = feedS s (A ++ B) := by
  unfold feedS; split <;> simp [*]
theorem feedS_nil (s : FrS) : feedS s [] = s := by unfold feedS; obtain ⟨l, t, d⟩ := s; simp

/-- what taking does, and that more bytes behind do not turn it -/
theorem frNext_feed (s : FrS) (B : List UInt8) :
    ((frNext s).1.2.1 = true → frNext (feedS s B) = ((frNext s).1, feedS (frNext s).2 B) ∧ (frNext s).2.1.length + 2 ≤ s.1.length ∧ (frNext s).2.2.1 = s.2.1 + 1) ∧
    ((frNext s).1.2.1 = false → (frNext s).2.2.1 = s.2.1 ∧ (frNext s).2.1.length ≤ s.1.length ∧ ((frNext s).2 = s ∨ (frNext (feedS s B) = frNext s ∧ (frNext s).1 = (pk0, false, (frNext s).2.2.2) ∧ (frNext s).2.2.2 ≠ 0))) := by
  obtain ⟨l, t, d⟩ := s
  by_cases hd : d = 0
  rotate_left
  · have e : frNext (l, t, d) = ((pk0, false, d), (l, t, d)) := by rw [frNext, if_pos hd]
    rw [e]
    exact ⟨fun h => (by simp at h), fun _ => ⟨rfl, Nat.le_refl _, .inl rfl⟩⟩
  subst hd
  have ef : feedS (l, t, 0) B = (l ++ B, t, 0) := rfl
  rw [ef]
  by_cases h2 : (hGet l 0).2.2 = 2
  · have e : frNext (l, t, 0) = ((pk0, false, 0), (l, t, 0)) := by rw [frNext, if_neg (by simp), if_pos h2]
    rw [e]
    exact ⟨fun h => (by simp at h), fun _ => ⟨rfl, Nat.le_refl _, .inl rfl⟩⟩
  have hm := hGet_mono (B := B) h2
  by_cases h0 : (hGet l 0).2.2 = 0
  rotate_left
  · have e : frNext (l, t, 0) = ((pk0, false, (hGet l 0).2.2), ([], t, (hGet l 0).2.2)) := by rw [frNext, if_neg (by simp), if_neg h2, if_pos h0]
    have e2 : frNext (l ++ B, t, 0) = ((pk0, false, (hGet l 0).2.2), ([], t, (hGet l 0).2.2)) := by
      rw [frNext, if_neg (by simp)]
      simp only [hm]
      rw [if_neg h2, if_pos h0]
    rw [e, e2]
    exact ⟨fun h => (by simp at h), fun _ => ⟨rfl, by simp, .inr ⟨rfl, rfl, h0⟩⟩⟩
  · have hp := hGet_two h0
    by_cases hs : (l.length : Int) - (hGet l 0).2.1 < (hGet l 0).1.2.2
    · have e : frNext (l, t, 0) = ((pk0, false, 0), (l, t, 0)) := by
        rw [frNext, if_neg (by simp), if_neg h2, if_neg (by simpa using h0)]
        simp only
        rw [if_pos hs]
      rw [e]
      exact ⟨fun h => (by simp at h), fun _ => ⟨rfl, Nat.le_refl _, .inl rfl⟩⟩
    · have e : frNext (l, t, 0) = ((((hGet l 0).1, (l.drop (hGet l 0).2.1.toNat).take (hGet l 0).1.2.2.toNat), true, 0), (l.drop ((hGet l 0).2.1 + (hGet l 0).1.2.2).toNat, t + 1, 0)) := by
        rw [frNext, if_neg (by simp), if_neg h2, if_neg (by simpa using h0)]
        simp only
        rw [if_neg hs]
      have e2 : frNext (l ++ B, t, 0) = ((((hGet l 0).1, ((l ++ B).drop (hGet l 0).2.1.toNat).take (hGet l 0).1.2.2.toNat), true, 0), ((l ++ B).drop ((hGet l 0).2.1 + (hGet l 0).1.2.2).toNat, t + 1, 0)) := by
        rw [frNext, if_neg (by simp)]
        simp only [hm]
        rw [if_neg h2, if_neg (by simpa using h0), if_neg (by simp only [List.length_append]; omega)]
      obtain ⟨r1, r2, r3, r4⟩ := hGet_rng h0
      rw [e, e2]
      refine ⟨fun _ => ⟨?_, ?_, rfl⟩, fun h => (by simp at h)⟩
      · have q1 : (l ++ B).drop ((hGet l 0).2.1 + (hGet l 0).1.2.2).toNat = l.drop ((hGet l 0).2.1 + (hGet l 0).1.2.2).toNat ++ B := by rw [List.drop_append_of_le_length (by omega)]
        have q2 : ((l ++ B).drop (hGet l 0).2.1.toNat).take (hGet l 0).1.2.2.toNat = (l.drop (hGet l 0).2.1.toNat).take (hGet l 0).1.2.2.toNat := by
          rw [List.drop_append_of_le_length (by omega), List.take_append_of_le_length (by simp; omega)]
        rw [q1, q2]
        simp [feedS]
      · simp only [List.length_drop]; omega

theorem frAll_len : ∀ (n : Nat) (s : FrS), 2 * (frAll n s).1.length + (frAll n s).2.2.1.length ≤ s.1.length ∧ (frAll n s).2.2.2.1 = s.2.1 + (frAll n s).1.length ∧ (frAll n s).1.length ≤ n
  | 0, s => by simp [frAll]
  | n + 1, s => by
    obtain ⟨h1, h2⟩ := frNext_feed s []
    rw [frAll]
    by_cases hb : (frNext s).1.2.1 = true
    · obtain ⟨h3, h4, h5⟩ := h1 hb
      obtain ⟨i1, i2, i3⟩ := frAll_len n (frNext s).2
      rw [if_pos hb]
      simp only [List.length_cons]
      exact ⟨by omega, by push_cast; omega, by omega⟩
    · obtain ⟨h3, h4, h5⟩ := h2 (by simpa using hb)
      rw [if_neg hb]
      exact ⟨by simp; omega, by simp; omega, by simp⟩
theorem frAll_more : ∀ (m n : Nat) (s : FrS), (frAll m s).1.length < m → m ≤ n → frAll n s = frAll m s
  | 0, n, s, h, _ => by simp at h
  | m + 1, n + 1, s, h, hmn => by
    rw [frAll] at h ⊢
    rw [frAll]
    by_cases hb : (frNext s).1.2.1 = true
    · rw [if_pos hb] at h ⊢
      rw [if_pos hb]
      simp only [List.length_cons] at h
      rw [frAll_more m n _ (by omega) (by omega)]
    · rw [if_neg hb, if_neg hb]

/-- what is found so far, with what is still to come: one and the same -/
structure ChI (S0 : FrS) (i : Nat) (m : List Pk) (T : FrS) (R : List UInt8) : Prop where
  eq : frAll 1100 S0 = (m ++ (frAll (1100 - m.length) (feedS T R)).1, (frAll (1100 - m.length) (feedS T R)).2)
  len : m.length ≤ i
  bl : T.1.length + R.length ≤ 2000
  t : T.2.1 = m.length
theorem ChI.next {S0 : FrS} {i : Nat} {m : List Pk} {T : FrS} {R : List UInt8} (h : ChI S0 i m T R) (hi : i < 60) (n : Nat) (hn : n ≤ R.length) :
    ChI S0 (i + 1) (m ++ (if (frNext (feedS T (R.take n))).1.2.1 = true then [(frNext (feedS T (R.take n))).1.1] else [])) (frNext (feedS T (R.take n))).2 (R.drop n) := by
  have e0 : feedS T R = feedS (feedS T (R.take n)) (R.drop n) := by rw [feedS_feed, List.take_append_drop]
  have hb0 : (feedS T (R.take n)).1.length + (R.drop n).length ≤ 2000 := by
    have := h.bl
    unfold feedS
    simp only
    split <;> simp <;> omega
  have ht0 : (feedS T (R.take n)).2.1 = m.length := h.t
  have heq := h.eq
  rw [e0] at heq
  generalize feedS T (R.take n) = T1 at *
  obtain ⟨h1, h2⟩ := frNext_feed T1 (R.drop n)
  have hl := h.len
  have ek : 1100 - m.length = (1100 - (m.length + 1)) + 1 := by omega
  by_cases hb : (frNext T1).1.2.1 = true
  · obtain ⟨h3, h4, h5⟩ := h1 hb
    rw [if_pos hb]
    refine ⟨?_, by simp; omega, by omega, by simp; omega⟩
    rw [heq, ek, frAll, h3, if_pos hb, List.length_append]
    simp
  · obtain ⟨h3, h4, h5⟩ := h2 (by simpa using hb)
    rw [if_neg hb, List.append_nil]
    refine ⟨?_, by omega, by omega, by omega⟩
    rw [heq]
    rcases h5 with h5 | ⟨h5, h6, h7⟩
    · rw [h5]
    · have e1 : frAll (1100 - m.length) (feedS T1 (R.drop n)) = ([], (frNext T1).2.2.2, (frNext T1).2) := by
        rw [ek, frAll, h5, if_neg hb, h6]
      have e2 : feedS (frNext T1).2 (R.drop n) = (frNext T1).2 := by
        unfold feedS; rw [if_neg h7]
      have e3 : frNext (frNext T1).2 = ((pk0, false, (frNext T1).2.2.2), (frNext T1).2) := by
        generalize (frNext T1).2 = U at *
        obtain ⟨u1, u2, u3⟩ := U
        rw [frNext, if_pos h7]
      have e4 : frAll (1100 - m.length) (feedS (frNext T1).2 (R.drop n)) = ([], (frNext T1).2.2.2, (frNext T1).2) := by
        rw [e2, ek, frAll, e3, if_neg (by simp)]
      rw [e1, e4]
theorem ChI.done {S0 : FrS} {i : Nat} {m : List Pk} {T : FrS} {R : List UInt8} (h : ChI S0 i m T R) (hi : i ≤ 60) : frAll 1100 S0 = (m ++ (frAll 1100 (feedS T R)).1, (frAll 1100 (feedS T R)).2) := by
  have hl := h.len
  have hb : (feedS T R).1.length ≤ 2000 := by
    have := h.bl
    unfold feedS; simp only
    split <;> simp <;> omega
  obtain ⟨i1, i2, i3⟩ := frAll_len (1100 - m.length) (feedS T R)
  rw [h.eq, frAll_more (1100 - m.length) 1100 (feedS T R) (by omega) (by omega)]
end Go.Proofs.YtgafhnomkeiakaaDoor
