/- Texts one behind another: plain laws. No program. -/
import Derived.Test.YtopopdghmfbciaaDoorUtfPlain
import Derived.Lib.MapLaws
namespace Go.Proofs.YtopopdghmfbciaaDoor
open Go.RowKit
set_option linter.unusedVariables false

theorem bN_append_left (x y : List UInt8) (j : Nat) (h : j < x.length) : bN (x ++ y) j = bN x j := by
  unfold bN
  rw [List.getD_eq_getElem?_getD, List.getD_eq_getElem?_getD, List.getElem?_append_left h]

theorem decode_more (x y : List UInt8) (hx : x ≠ []) (h : ¬ ((Lib.decodeL x).1 = 65533 ∧ (Lib.decodeL x).2 = 1)) : Lib.decodeL (x ++ y) = Lib.decodeL x := by
  have hl : 0 < x.length := List.length_pos_iff.2 hx
  rw [Lib.decodeL_N, Lib.decodeL_N] at *
  have e0 : ((x ++ y).getD 0 0).toNat = (x.getD 0 0).toNat := bN_append_left x y 0 hl
  have e1 : 1 < x.length → ((x ++ y).getD 1 0).toNat = (x.getD 1 0).toNat := bN_append_left x y 1
  have e2 : 2 < x.length → ((x ++ y).getD 2 0).toNat = (x.getD 2 0).toNat := bN_append_left x y 2
  have e3 : 3 < x.length → ((x ++ y).getD 3 0).toNat = (x.getD 3 0).toNat := bN_append_left x y 3
  rw [List.length_append]
  generalize ((x ++ y).getD 0 0).toNat = a0 at *
  generalize ((x ++ y).getD 1 0).toNat = a1 at *
  generalize ((x ++ y).getD 2 0).toNat = a2 at *
  generalize ((x ++ y).getD 3 0).toNat = a3 at *
  generalize (x.getD 0 0).toNat = b0 at *
  generalize (x.getD 1 0).toNat = b1 at *
  generalize (x.getD 2 0).toNat = b2 at *
  generalize (x.getD 3 0).toNat = b3 at *
  subst e0
  rcases Lib.decodeN_shape x.length a0 b1 b2 b3 with ⟨c, e⟩ | ⟨c1, c2, c3, cv, e⟩ | ⟨c1, c2, c3, c4, cv, cs, e⟩ | ⟨c1, c2, c3, c4, c5, cv, cw, e⟩ | e
  · rw [e]
    unfold Lib.decodeN
    rw [if_pos c]
  · rw [e, e1 c2]
    unfold Lib.decodeN
    rw [if_neg (by omega), if_pos (by omega), if_pos (by omega)]
  · rw [e, e1 (by omega), e2 c2]
    unfold Lib.decodeN
    rw [if_neg (by omega), if_neg (by omega), if_pos (by omega), if_pos (by omega)]
  · rw [e, e1 (by omega), e2 (by omega), e3 c2]
    unfold Lib.decodeN
    rw [if_neg (by omega), if_neg (by omega), if_neg (by omega), if_pos (by omega), if_pos (by omega)]
  · rw [e] at h
    exact absurd ⟨rfl, rfl⟩ h

theorem validD_append : ∀ (k : Nat) (x y : List UInt8), x.length ≤ k → Lib.validD x = true → Lib.validD (x ++ y) = Lib.validD y
  | 0, x, y, hk, h => by
    have : x = [] := List.eq_nil_of_length_eq_zero (by omega)
    subst this
    rfl
  | k + 1, x, y, hk, h => by
    by_cases hx : x = []
    · subst hx; rfl
    · have hs := Lib.validD_step x hx
      rw [h] at hs
      split at hs
      · cases hs
      · rename_i hn
        have hd := decode_more x y hx hn
        have hle := Lib.decodeL_le x hx
        have h1 := Lib.decodeL_width x
        rw [Lib.validD_step (x ++ y) (by simp [hx]), hd, if_neg hn, List.drop_append_of_le_length hle]
        exact validD_append k _ y (by rw [List.length_drop]; omega) hs.symm

theorem zeroIn_append (x y : List UInt8) : zeroIn (x ++ y) = (zeroIn x || zeroIn y) := by unfold zeroIn; exact List.any_append

theorem validD_tail (c : UInt8) (y : List UInt8) (h1 : 128 ≤ c.toNat) (h2 : c.toNat ≤ 191) : Lib.validD (c :: y) = false := by
  rw [Lib.validD_step (c :: y) (by simp), Lib.decodeL_N]
  have e0 : ((c :: y).getD 0 0).toNat = c.toNat := rfl
  rw [e0]
  rcases Lib.decodeN_shape (c :: y).length c.toNat ((c :: y).getD 1 0).toNat ((c :: y).getD 2 0).toNat ((c :: y).getD 3 0).toNat with ⟨c, e⟩ | ⟨c1, c2, c3, cv, e⟩ | ⟨c1, c2, c3, c4, cv, cs, e⟩ | ⟨c1, c2, c3, c4, c5, cv, cw, e⟩ | e
  · omega
  · omega
  · omega
  · omega
  · rw [e, if_pos ⟨rfl, rfl⟩]

theorem uRight_parts {l : List UInt8} (h : uRight l = true) : l.length ≤ 65535 ∧ Lib.validD l = true ∧ zeroIn l = false := by
  unfold uRight at h
  simp at h
  exact h

theorem uRight_join {x y : List UInt8} (hx : uRight x = true) (hy : uRight y = true) (hl : x.length + y.length ≤ 65535) : uRight (x ++ y) = true := by
  obtain ⟨_, h2, h3⟩ := uRight_parts hx
  obtain ⟨_, h5, h6⟩ := uRight_parts hy
  unfold uRight
  rw [validD_append x.length x y (Nat.le_refl _) h2, zeroIn_append, h5, h3, h6, List.length_append, decide_eq_true hl]
  rfl
theorem uRight_tail {x : List UInt8} (y : List UInt8) (c : UInt8) (hx : uRight x = true) (h1 : 128 ≤ c.toNat) (h2 : c.toNat ≤ 191) : uRight (x ++ [c] ++ y) = false := by
  obtain ⟨_, h3, _⟩ := uRight_parts hx
  unfold uRight
  rw [List.append_assoc, validD_append x.length x _ (Nat.le_refl _) h3]
  rw [show [c] ++ y = c :: y from rfl, validD_tail c y h1 h2]
  simp
theorem uRight_zero (x y : List UInt8) : uRight (x ++ [0] ++ y) = false := by
  unfold uRight
  rw [zeroIn_append, zeroIn_append]
  have : zeroIn [0] = true := rfl
  rw [this]
  simp
end Go.Proofs.YtopopdghmfbciaaDoor
