/- Texts, there and back: plain laws. No program. -/
import Derived.Test.YtgafhnomkeiakaaDoorUtf5
namespace Go.Proofs.YtgafhnomkeiakaaDoor
open Go.RowKit
set_option linter.unusedVariables false

theorem bN_append_right (x y : List UInt8) (j : Nat) : bN (x ++ y) (x.length + j) = bN y j := by
  unfold bN
  rw [List.getD_eq_getElem?_getD, List.getD_eq_getElem?_getD, List.getElem?_append_right (by omega)]
  congr 4
  omega
theorem bN_zero (b : UInt8) (t : List UInt8) : bN (b :: t) 0 = b.toNat := rfl
theorem bN_succ (b : UInt8) (t : List UInt8) (j : Nat) : bN (b :: t) (j + 1) = bN t j := rfl

theorem uGet2_at (A R : List UInt8) (n : Nat) (hn : n ≤ 65535) : uGet2 (A ++ (B8 (n / 256) :: B8 (n % 256) :: R)) (A.length : Int) = ((n : Int), (A.length : Int) + 2, 0) := by
  unfold uGet2
  rw [List.length_append, if_neg (by simp; omega), if_neg (by simp; omega), Int.toNat_natCast]
  have e0 := bN_append_right A (B8 (n / 256) :: B8 (n % 256) :: R) 0
  have e1 := bN_append_right A (B8 (n / 256) :: B8 (n % 256) :: R) 1
  rw [Nat.add_zero] at e0
  rw [e0, e1, bN_zero, bN_succ, bN_zero, B8_toNat (by omega), B8_toNat (by omega)]
  congr 1
  omega

theorem uPut2B_ok {n : Nat} (hn : n ≤ 65535) : uPut2B (n : Int) = [B8 (n / 256), B8 (n % 256)] := by
  unfold uPut2B
  rw [if_neg (by omega), Int.toNat_natCast]

theorem uPutRawB_ok {S : List UInt8} (h : S.length ≤ 65535) : uPutRawB S = B8 (S.length / 256) :: B8 (S.length % 256) :: S := by
  unfold uPutRawB
  rw [if_neg (by omega), uPut2B_ok h]
  rfl
theorem uPutRawB_len {S : List UInt8} (h : S.length ≤ 65535) : (uPutRawB S).length = S.length + 2 := by
  rw [uPutRawB_ok h]
  rfl

theorem uGetRaw_at (A S C : List UInt8) (h : S.length ≤ 65535) : uGetRaw (A ++ uPutRawB S ++ C) (A.length : Int) = (S, (A.length : Int) + 2 + S.length, 0) := by
  rw [uPutRawB_ok h, List.append_assoc]
  unfold uGetRaw
  have e := uGet2_at A (S ++ C) S.length h
  rw [List.cons_append, List.cons_append, e]
  simp only
  rw [if_neg (by decide), if_neg (by simp; omega)]
  have e1 : ((A.length : Int) + 2).toNat = A.length + 2 := by omega
  rw [e1, Int.toNat_natCast, ← List.drop_drop, List.drop_left, List.drop_succ_cons, List.drop_succ_cons, List.drop_zero, List.take_left]

theorem uGet_at (A S C : List UInt8) (h : S.length ≤ 65535) : uGet (A ++ uPutRawB S ++ C) (A.length : Int) = if uRight S = true then (S, (A.length : Int) + 2 + S.length, 0) else ([], 0, 9) := by
  unfold uGet
  rw [uGetRaw_at A S C h, if_neg (by simp)]
  simp only
  by_cases hr : uRight S = true
  · rw [if_pos hr, if_neg (by rw [hr]; decide)]
  · rw [if_neg hr, if_pos (by simpa using hr)]
end Go.Proofs.YtgafhnomkeiakaaDoor
