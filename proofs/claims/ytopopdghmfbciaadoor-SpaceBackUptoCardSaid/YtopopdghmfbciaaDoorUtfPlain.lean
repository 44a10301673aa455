/- Texts: plain laws: which bytes are a text, by the library's words and by the reference's steps. No program. -/
import Derived.Test.YtopopdghmfbciaaDoorBase
import Derived.Lib.ValidLaws
import Derived.Lib.TrimUEq
namespace Go.Proofs.YtopopdghmfbciaaDoor
open Go.RowKit
set_option linter.unusedVariables false

def tailL (l : List UInt8) (i : Nat) : Bool := decide (i < l.length) && decide ((128 : Int) ≤ bN l i) && decide ((bN l i : Int) ≤ 191)
/-- How many bytes the rune at a place has, and its number. -/
def stepL (l : List UInt8) (i : Nat) : Int × Int :=
  if (bN l i : Int) < 128 then (1, bN l i)
  else if ((194 : Int) ≤ bN l i ∧ (bN l i : Int) ≤ 223) ∧ tailL l (i + 1) = true then (2, ((bN l i : Int) - 192) * 64 + bN l (i + 1) - 128)
  else if (((224 : Int) ≤ bN l i ∧ (bN l i : Int) ≤ 239) ∧ tailL l (i + 1) = true) ∧ tailL l (i + 2) = true then
    (if ((bN l i : Int) - 224) * 4096 + ((bN l (i + 1) : Int) - 128) * 64 + bN l (i + 2) - 128 < 2048 ∨ ((55296 : Int) ≤ ((bN l i : Int) - 224) * 4096 + ((bN l (i + 1) : Int) - 128) * 64 + bN l (i + 2) - 128 ∧ ((bN l i : Int) - 224) * 4096 + ((bN l (i + 1) : Int) - 128) * 64 + bN l (i + 2) - 128 ≤ 57343) then (0, 0)
     else (3, ((bN l i : Int) - 224) * 4096 + ((bN l (i + 1) : Int) - 128) * 64 + bN l (i + 2) - 128))
  else if ((((240 : Int) ≤ bN l i ∧ (bN l i : Int) ≤ 244) ∧ tailL l (i + 1) = true) ∧ tailL l (i + 2) = true) ∧ tailL l (i + 3) = true then
    (if ((bN l i : Int) - 240) * 262144 + ((bN l (i + 1) : Int) - 128) * 4096 + ((bN l (i + 2) : Int) - 128) * 64 + bN l (i + 3) - 128 < 65536 ∨ (1114111 : Int) < ((bN l i : Int) - 240) * 262144 + ((bN l (i + 1) : Int) - 128) * 4096 + ((bN l (i + 2) : Int) - 128) * 64 + bN l (i + 3) - 128 then (0, 0)
     else (4, ((bN l i : Int) - 240) * 262144 + ((bN l (i + 1) : Int) - 128) * 4096 + ((bN l (i + 2) : Int) - 128) * 64 + bN l (i + 3) - 128))
  else (0, 0)

def zeroIn (l : List UInt8) : Bool := l.any (· == 0)
def uRight (l : List UInt8) : Bool := decide (l.length ≤ 65535) && (Lib.validD l && !zeroIn l)

theorem tailL_iff (l : List UInt8) (i : Nat) : tailL l i = true ↔ i < l.length ∧ 128 ≤ bN l i ∧ bN l i ≤ 191 := by
  unfold tailL; simp; omega

/-- No byte among the first n is 0, if none of their numbers is. -/
theorem zeroIn_drop : ∀ (n : Nat) (l : List UInt8), n ≤ l.length → (∀ j, j < n → bN l j ≠ 0) → zeroIn l = zeroIn (l.drop n)
  | 0, l, _, _ => by simp
  | n + 1, [], h, _ => by simp at h
  | n + 1, b :: t, h, hb => by
    have h0 := hb 0 (by omega)
    have e : zeroIn (b :: t) = zeroIn t := by
      unfold zeroIn
      have : (b == 0) = false := by
        rw [beq_eq_false_iff_ne]
        intro hc
        apply h0
        subst hc
        rfl
      simp [this]
    rw [e, List.drop_succ_cons]
    refine zeroIn_drop n t (by simpa using h) (fun j hj => ?_)
    have := hb (j + 1) (by omega)
    unfold bN at this ⊢
    simpa using this
theorem zeroIn_hit {l : List UInt8} (hl : 0 < l.length) (h : bN l 0 = 0) : zeroIn l = true := by
  cases l with
  | nil => simp at hl
  | cons b t =>
    have : b = 0 := by
      unfold bN at h
      simp at h
      exact UInt8.toNat_inj.1 (by simpa using h)
    unfold zeroIn
    simp [this]

/-- One step of the reference's loop: on what is left. -/
theorem step_left (l : List UInt8) (i : Nat) (hi : i < l.length) :
    ((stepL l i).1 = 0 → Lib.validD (l.drop i) = false) ∧
    ((stepL l i).1 ≠ 0 → ∃ n : Nat, (stepL l i).1 = n ∧ 1 ≤ n ∧ i + n ≤ l.length ∧ Lib.validD (l.drop i) = Lib.validD (l.drop (i + n)) ∧
      ((stepL l i).2 = 0 → zeroIn (l.drop i) = true) ∧ ((stepL l i).2 ≠ 0 → zeroIn (l.drop i) = zeroIn (l.drop (i + n)))) := by
  have hne : l.drop i ≠ [] := by intro h; have := congrArg List.length h; simp at this; omega
  have hv := Lib.validD_step (l.drop i) hne
  rw [Lib.decodeL_N] at hv
  have e0 : ((l.drop i).getD 0 0).toNat = bN l i := by have := bN_drop l i 0; rw [Nat.add_zero] at this; exact this
  have e1 : ((l.drop i).getD 1 0).toNat = bN l (i + 1) := bN_drop l i 1
  have e2 : ((l.drop i).getD 2 0).toNat = bN l (i + 2) := bN_drop l i 2
  have e3 : ((l.drop i).getD 3 0).toNat = bN l (i + 3) := bN_drop l i 3
  rw [e0, e1, e2, e3, List.length_drop, List.drop_drop] at hv
  have t1 := tailL_iff l (i + 1)
  have t2 := tailL_iff l (i + 2)
  have t3 := tailL_iff l (i + 3)
  have z0 : bN l i = 0 → zeroIn (l.drop i) = true := fun h => zeroIn_hit (by rw [List.length_drop]; omega) (by rw [bN_drop, Nat.add_zero]; exact h)
  have zn : ∀ n, i + n ≤ l.length → (∀ j, j < n → bN l (i + j) ≠ 0) → zeroIn (l.drop i) = zeroIn (l.drop (i + n)) := fun n hn hb => by
    have := zeroIn_drop n (l.drop i) (by rw [List.length_drop]; omega) (fun j hj => by rw [bN_drop]; exact hb j hj)
    rw [List.drop_drop] at this
    exact this
  have b0 := bN_lt l i
  have b1 := bN_lt l (i + 1)
  have b2 := bN_lt l (i + 2)
  have b3 := bN_lt l (i + 3)
  have hz1 : bN l i ≠ 0 → zeroIn (l.drop i) = zeroIn (l.drop (i + 1)) := fun h => zn 1 (by omega) (fun j hj => by
    match j, hj with
    | 0, _ => exact h)
  have hz2 : i + 2 ≤ l.length → bN l i ≠ 0 → bN l (i + 1) ≠ 0 → zeroIn (l.drop i) = zeroIn (l.drop (i + 2)) := fun h h0 h1 => zn 2 h (fun j hj => by
    match j, hj with
    | 0, _ => exact h0
    | 1, _ => exact h1)
  have hz3 : i + 3 ≤ l.length → bN l i ≠ 0 → bN l (i + 1) ≠ 0 → bN l (i + 2) ≠ 0 → zeroIn (l.drop i) = zeroIn (l.drop (i + 3)) := fun h h0 h1 h2 => zn 3 h (fun j hj => by
    match j, hj with
    | 0, _ => exact h0
    | 1, _ => exact h1
    | 2, _ => exact h2)
  have hz4 : i + 4 ≤ l.length → bN l i ≠ 0 → bN l (i + 1) ≠ 0 → bN l (i + 2) ≠ 0 → bN l (i + 3) ≠ 0 → zeroIn (l.drop i) = zeroIn (l.drop (i + 4)) := fun h h0 h1 h2 h3 => zn 4 h (fun j hj => by
    match j, hj with
    | 0, _ => exact h0
    | 1, _ => exact h1
    | 2, _ => exact h2
    | 3, _ => exact h3)
  unfold stepL
  generalize zeroIn (l.drop i) = Z at *
  generalize Lib.validD (l.drop i) = V at *
  generalize bN l i = x0 at *
  generalize bN l (i + 1) = x1 at *
  generalize bN l (i + 2) = x2 at *
  generalize bN l (i + 3) = x3 at *
  clear e0 e1 e2 e3 zn
  have fin : ∀ r n, Lib.decodeN (l.length - i) x0 x1 x2 x3 = (r, n) → (¬ (r = 65533 ∧ n = 1)) → V = Lib.validD (l.drop (i + n)) := fun r n h hr => by
    rw [hv, h, if_neg hr]
  have bad : Lib.decodeN (l.length - i) x0 x1 x2 x3 = (65533, 1) → V = false := fun h => by
    rw [hv, h, if_pos ⟨rfl, rfl⟩]
  clear hv
  by_cases c0 : (x0 : Int) < 128
  · rw [if_pos c0]
    refine ⟨fun h => by simp at h, fun _ => ⟨1, rfl, by omega, by omega, ?_, fun h => z0 (by simpa using h), fun h => hz1 (by simpa using h)⟩⟩
    refine fin x0 1 ?_ (by omega)
    unfold Lib.decodeN
    rw [if_pos (by omega)]
  · rw [if_neg c0]
    by_cases c1 : ((194 : Int) ≤ x0 ∧ (x0 : Int) ≤ 223) ∧ tailL l (i + 1) = true
    · rw [if_pos c1]
      have ht := t1.1 c1.2
      refine ⟨fun h => by simp at h, fun _ => ⟨2, rfl, by omega, by omega, ?_, fun h => by simp only at h; omega, fun h => hz2 (by omega) (by omega) (by omega)⟩⟩
      refine fin (x0 % 32 * 64 + x1 % 64) 2 ?_ (by omega)
      unfold Lib.decodeN
      rw [if_neg (by omega), if_pos (by omega), if_pos (by omega)]
    · rw [if_neg c1]
      by_cases c2 : (((224 : Int) ≤ x0 ∧ (x0 : Int) ≤ 239) ∧ tailL l (i + 1) = true) ∧ tailL l (i + 2) = true
      · rw [if_pos c2]
        have ht := t1.1 c2.1.2
        have ht2 := t2.1 c2.2
        by_cases c3 : ((x0 : Int) - 224) * 4096 + ((x1 : Int) - 128) * 64 + x2 - 128 < 2048 ∨ ((55296 : Int) ≤ ((x0 : Int) - 224) * 4096 + ((x1 : Int) - 128) * 64 + x2 - 128 ∧ ((x0 : Int) - 224) * 4096 + ((x1 : Int) - 128) * 64 + x2 - 128 ≤ 57343)
        · rw [if_pos c3]
          refine ⟨fun _ => bad ?_, fun h => by simp at h⟩
          unfold Lib.decodeN
          rw [if_neg (by omega), if_neg (by omega), if_pos (by omega), if_neg (by omega)]
        · rw [if_neg c3]
          refine ⟨fun h => by simp at h, fun _ => ⟨3, rfl, by omega, by omega, ?_, fun h => by simp only at h; omega, fun h => hz3 (by omega) (by omega) (by omega) (by omega)⟩⟩
          refine fin (x0 % 16 * 4096 + x1 % 64 * 64 + x2 % 64) 3 ?_ (by omega)
          unfold Lib.decodeN
          rw [if_neg (by omega), if_neg (by omega), if_pos (by omega), if_pos (by omega)]
      · rw [if_neg c2]
        by_cases c3 : ((((240 : Int) ≤ x0 ∧ (x0 : Int) ≤ 244) ∧ tailL l (i + 1) = true) ∧ tailL l (i + 2) = true) ∧ tailL l (i + 3) = true
        · rw [if_pos c3]
          have ht := t1.1 c3.1.1.2
          have ht2 := t2.1 c3.1.2
          have ht3 := t3.1 c3.2
          by_cases c4 : ((x0 : Int) - 240) * 262144 + ((x1 : Int) - 128) * 4096 + ((x2 : Int) - 128) * 64 + x3 - 128 < 65536 ∨ (1114111 : Int) < ((x0 : Int) - 240) * 262144 + ((x1 : Int) - 128) * 4096 + ((x2 : Int) - 128) * 64 + x3 - 128
          · rw [if_pos c4]
            refine ⟨fun _ => bad ?_, fun h => by simp at h⟩
            unfold Lib.decodeN
            rw [if_neg (by omega), if_neg (by omega), if_neg (by omega), if_pos (by omega), if_neg (by omega)]
          · rw [if_neg c4]
            refine ⟨fun h => by simp at h, fun _ => ⟨4, rfl, by omega, by omega, ?_, fun h => by simp only at h; omega, fun h => hz4 (by omega) (by omega) (by omega) (by omega) (by omega)⟩⟩
            refine fin (x0 % 8 * 262144 + x1 % 64 * 4096 + x2 % 64 * 64 + x3 % 64) 4 ?_ (by omega)
            unfold Lib.decodeN
            rw [if_neg (by omega), if_neg (by omega), if_neg (by omega), if_pos (by omega), if_pos (by omega)]
        · rw [if_neg c3]
          refine ⟨fun _ => bad ?_, fun h => by simp at h⟩
          rw [t1] at c1 c2 c3
          rw [t2] at c2 c3
          rw [t3] at c3
          unfold Lib.decodeN
          rw [if_neg (by omega)]
          (repeat' split) <;> first | rfl | (exfalso; omega)

theorem zeroIn_nil : zeroIn [] = false := rfl
end Go.Proofs.YtopopdghmfbciaaDoor
