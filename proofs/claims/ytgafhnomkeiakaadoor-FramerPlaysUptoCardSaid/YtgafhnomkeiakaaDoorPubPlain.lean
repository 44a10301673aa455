/- Messages: plain laws: which topic may be; what is laid. No program. -/
import Derived.Test.YtgafhnomkeiakaaDoorUtfBackPlain
import Derived.Lib.MapLaws
namespace Go.Proofs.YtgafhnomkeiakaaDoor
open Go.RowKit
set_option linter.unusedVariables false

/-- A byte that no filter's sign may be in a topic. -/
def signB (b : UInt8) : Bool := b.toNat == 43 || b.toNat == 35
def signIn (l : List UInt8) : Bool := l.any signB
def pName (l : List UInt8) : Bool := !signIn l && !l.isEmpty

theorem signB_iff (l : List UInt8) (j : Nat) (h : j < l.length) : signB (l[j]'h) = (bN l j == 43 || bN l j == 35) := by
  unfold signB bN
  rw [List.getD_eq_getElem?_getD, List.getElem?_eq_getElem h, Option.getD_some]

theorem signIn_drop : ∀ (n : Nat) (l : List UInt8), n ≤ l.length → (∀ j, j < n → bN l j ≠ 43 ∧ bN l j ≠ 35) → signIn l = signIn (l.drop n)
  | 0, l, _, _ => by simp
  | n + 1, [], h, _ => by simp at h
  | n + 1, b :: t, h, hb => by
    have h0 := hb 0 (by omega)
    have e : signIn (b :: t) = signIn t := by
      unfold signIn
      have : signB b = false := by
        have h1 : bN (b :: t) 0 = b.toNat := rfl
        rw [h1] at h0
        unfold signB
        simp [h0.1, h0.2]
      simp [this]
    rw [e, List.drop_succ_cons]
    refine signIn_drop n t (by simpa using h) (fun j hj => ?_)
    exact hb (j + 1) (by omega)
theorem signIn_hit {l : List UInt8} (hl : 0 < l.length) (h : bN l 0 = 43 ∨ bN l 0 = 35) : signIn l = true := by
  cases l with
  | nil => simp at hl
  | cons b t =>
    have h1 : bN (b :: t) 0 = b.toNat := rfl
    rw [h1] at h
    have : signB b = true := by unfold signB; rcases h with h | h <;> simp [h]
    unfold signIn
    simp [this]

/-- One step of a range over a string's runes, for the signs. -/
theorem range_sign (l : List UInt8) (i : Nat) (hi : i < l.length) :
    (((Lib.decodeL (l.drop i)).1 = 43 ∨ (Lib.decodeL (l.drop i)).1 = 35) → signIn (l.drop i) = true) ∧
    (((Lib.decodeL (l.drop i)).1 ≠ 43 ∧ (Lib.decodeL (l.drop i)).1 ≠ 35) → signIn (l.drop i) = signIn (l.drop (i + (Lib.decodeL (l.drop i)).2))) ∧
    1 ≤ (Lib.decodeL (l.drop i)).2 ∧ i + (Lib.decodeL (l.drop i)).2 ≤ l.length ∧ (Lib.decodeL (l.drop i)).1 ≤ 1114111 := by
  rw [Lib.decodeL_N]
  have e0 : ((l.drop i).getD 0 0).toNat = bN l i := by have := bN_drop l i 0; rw [Nat.add_zero] at this; exact this
  have e1 : ((l.drop i).getD 1 0).toNat = bN l (i + 1) := bN_drop l i 1
  have e2 : ((l.drop i).getD 2 0).toNat = bN l (i + 2) := bN_drop l i 2
  have e3 : ((l.drop i).getD 3 0).toNat = bN l (i + 3) := bN_drop l i 3
  rw [e0, e1, e2, e3, List.length_drop]
  have z0 : (bN l i = 43 ∨ bN l i = 35) → signIn (l.drop i) = true := fun h => signIn_hit (by rw [List.length_drop]; omega) (by rw [bN_drop, Nat.add_zero]; exact h)
  have zn : ∀ n, i + n ≤ l.length → (∀ j, j < n → bN l (i + j) ≠ 43 ∧ bN l (i + j) ≠ 35) → signIn (l.drop i) = signIn (l.drop (i + n)) := fun n hn hb => by
    have := signIn_drop n (l.drop i) (by rw [List.length_drop]; omega) (fun j hj => by rw [bN_drop]; exact hb j hj)
    rw [List.drop_drop] at this
    exact this
  have b0 := bN_lt l i
  have hz1 : (bN l i ≠ 43 ∧ bN l i ≠ 35) → signIn (l.drop i) = signIn (l.drop (i + 1)) := fun h => zn 1 (by omega) (fun j hj => by
    match j, hj with
    | 0, _ => exact h)
  have hz2 : i + 2 ≤ l.length → 128 ≤ bN l i → 128 ≤ bN l (i + 1) → signIn (l.drop i) = signIn (l.drop (i + 2)) := fun h h0 h1 => zn 2 h (fun j hj => by
    match j, hj with
    | 0, _ => rw [Nat.add_zero]; omega
    | 1, _ => omega)
  have hz3 : i + 3 ≤ l.length → 128 ≤ bN l i → 128 ≤ bN l (i + 1) → 128 ≤ bN l (i + 2) → signIn (l.drop i) = signIn (l.drop (i + 3)) := fun h h0 h1 h2 => zn 3 h (fun j hj => by
    match j, hj with
    | 0, _ => rw [Nat.add_zero]; omega
    | 1, _ => omega
    | 2, _ => omega)
  have hz4 : i + 4 ≤ l.length → 128 ≤ bN l i → 128 ≤ bN l (i + 1) → 128 ≤ bN l (i + 2) → 128 ≤ bN l (i + 3) → signIn (l.drop i) = signIn (l.drop (i + 4)) := fun h h0 h1 h2 h3 => zn 4 h (fun j hj => by
    match j, hj with
    | 0, _ => rw [Nat.add_zero]; omega
    | 1, _ => omega
    | 2, _ => omega
    | 3, _ => omega)
  clear zn e0 e1 e2 e3
  have hz : Lib.decodeN (l.length - i) (bN l i) (bN l (i + 1)) (bN l (i + 2)) (bN l (i + 3)) = (65533, 1) → bN l i ≠ 43 ∧ bN l i ≠ 35 := fun h => by
    constructor
    all_goals
      intro h0
      rw [h0] at h
      unfold Lib.decodeN at h
      rw [if_pos (by omega)] at h
      simp at h
  rcases Lib.decodeN_shape (l.length - i) (bN l i) (bN l (i + 1)) (bN l (i + 2)) (bN l (i + 3)) with ⟨c, e⟩ | ⟨c1, c2, c3, cv, e⟩ | ⟨c1, c2, c3, c4, cv, cs, e⟩ | ⟨c1, c2, c3, c4, c5, cv, cw, e⟩ | e
  · rw [e]
    exact ⟨fun h => z0 h, fun h => hz1 h, by omega, by simp only; omega, by simp only; omega⟩
  · rw [e]
    exact ⟨fun h => by simp only at h; omega, fun h => hz2 (by omega) (by omega) (by omega), by omega, by simp only; omega, by simp only; omega⟩
  · rw [e]
    exact ⟨fun h => by simp only at h; omega, fun h => hz3 (by omega) (by omega) (by omega) (by omega), by omega, by simp only; omega, by simp only; omega⟩
  · rw [e]
    exact ⟨fun h => by simp only at h; omega, fun h => hz4 (by omega) (by omega) (by omega) (by omega) (by omega), by omega, by simp only; omega, by simp only; omega⟩
  · have := hz e
    rw [e]
    exact ⟨fun h => by simp at h, fun h => hz1 this, by omega, by simp only; omega, by simp only; omega⟩

/-- a number's bytes -/
def pIdB (id : Int) : List UInt8 := if 1 ≤ id ∧ id ≤ 65535 then uPut2B id else []
def pIdE (id : Int) : Int := if 1 ≤ id ∧ id ≤ 65535 then 0 else 1
/-- a number's bytes by a QoS -/
def pNumB (qos id : Int) : List UInt8 := if 0 < qos then pIdB id else []
def pNumE (qos id : Int) : Int := if 0 < qos then pIdE id else if id ≠ 0 then 1 else 0
/-- a message's bytes and the error -/
def pPutE (T X : List UInt8) (qos id : Int) : Int :=
  if qos < 0 ∨ 2 < qos then 10
  else if pName T = false then 13
  else if uPutE T ≠ 0 then uPutE T
  else if pNumE qos id ≠ 0 then pNumE qos id
  else if (4096 : Int) - ((uPutB T).length + (pNumB qos id).length) < X.length then 3 else 0
def pPutB (T X : List UInt8) (qos id : Int) : List UInt8 := if pPutE T X qos id = 0 then uPutB T ++ pNumB qos id ++ X else []
end Go.Proofs.YtgafhnomkeiakaaDoor
