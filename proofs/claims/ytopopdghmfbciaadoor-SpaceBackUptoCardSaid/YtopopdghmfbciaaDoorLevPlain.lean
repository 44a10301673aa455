/- Levels of texts: plain facts. -/
import Derived.Test.YtopopdghmfbciaaDoorUtfPlain
import Derived.Lib.MapLaws
import Derived.Lib.Bytealg
import Derived.Lib.Join
namespace Go.Proofs.YtopopdghmfbciaaDoor
open Go.RowKit
set_option linter.unusedVariables false
set_option linter.unusedSimpArgs false

/-- One step of a range over a string's runes, for a byte below 128. -/
theorem range_asc (l : List UInt8) (i : Nat) (hi : i < l.length) (c : Nat) (hc : c < 128) :
    ((Lib.decodeL (l.drop i)).1 = c → (Lib.decodeL (l.drop i)).2 = 1 ∧ bN l i = c) ∧
    ((Lib.decodeL (l.drop i)).1 ≠ c → ∀ j, j < (Lib.decodeL (l.drop i)).2 → bN l (i + j) ≠ c) ∧
    1 ≤ (Lib.decodeL (l.drop i)).2 ∧ i + (Lib.decodeL (l.drop i)).2 ≤ l.length ∧ (Lib.decodeL (l.drop i)).1 ≤ 1114111 := by
  rw [Lib.decodeL_N]
  have e0 : ((l.drop i).getD 0 0).toNat = bN l i := by have := bN_drop l i 0; rw [Nat.add_zero] at this; exact this
  have e1 : ((l.drop i).getD 1 0).toNat = bN l (i + 1) := bN_drop l i 1
  have e2 : ((l.drop i).getD 2 0).toNat = bN l (i + 2) := bN_drop l i 2
  have e3 : ((l.drop i).getD 3 0).toNat = bN l (i + 3) := bN_drop l i 3
  rw [e0, e1, e2, e3, List.length_drop]
  clear e0 e1 e2 e3
  have hz : Lib.decodeN (l.length - i) (bN l i) (bN l (i + 1)) (bN l (i + 2)) (bN l (i + 3)) = (65533, 1) → bN l i ≠ c := fun h h0 => by
    rw [h0] at h
    unfold Lib.decodeN at h
    rw [if_pos hc] at h
    have := (Prod.mk.inj h).1
    omega
  rcases Lib.decodeN_shape (l.length - i) (bN l i) (bN l (i + 1)) (bN l (i + 2)) (bN l (i + 3)) with ⟨c0, e⟩ | ⟨c1, c2, c3, cv, e⟩ | ⟨c1, c2, c3, c4, cv, cs, e⟩ | ⟨c1, c2, c3, c4, c5, cv, cw, e⟩ | e
  · rw [e]
    exact ⟨fun h => ⟨rfl, h⟩, fun h j hj => by simp only at hj h; have : j = 0 := by omega
                                               subst this; rw [Nat.add_zero]; exact h, by omega, by simp only; omega, by simp only; omega⟩
  · rw [e]
    refine ⟨fun h => by simp only at h; omega, fun h j hj => ?_, by omega, by simp only; omega, by simp only; omega⟩
    match j, hj with
    | 0, _ => rw [Nat.add_zero]; omega
    | 1, _ => omega
  · rw [e]
    refine ⟨fun h => by simp only at h; omega, fun h j hj => ?_, by omega, by simp only; omega, by simp only; omega⟩
    match j, hj with
    | 0, _ => rw [Nat.add_zero]; omega
    | 1, _ => omega
    | 2, _ => omega
  · rw [e]
    refine ⟨fun h => by simp only at h; omega, fun h j hj => ?_, by omega, by simp only; omega, by simp only; omega⟩
    match j, hj with
    | 0, _ => rw [Nat.add_zero]; omega
    | 1, _ => omega
    | 2, _ => omega
    | 3, _ => omega
  · have := hz e
    rw [e]
    refine ⟨fun h => by simp only at h; omega, fun h j hj => ?_, by omega, by simp only; omega, by simp only; omega⟩
    simp only at hj
    have : j = 0 := by omega
    subst this
    rw [Nat.add_zero]; assumption

/-- has a text + or #? -/
def wildL (l : List UInt8) : Bool := l.any fun b => b == 43 || b == 35
theorem b8_of_bN {l : List UInt8} {i : Nat} (hi : i < l.length) {c : UInt8} : bN l i = c.toNat ↔ l[i] = c := by
  unfold bN
  rw [List.getD_eq_getElem?_getD, List.getElem?_eq_getElem hi, Option.getD_some]
  exact UInt8.toNat_inj
theorem wildL_drop : ∀ (n : Nat) (l : List UInt8), n ≤ l.length → (∀ j, j < n → bN l j ≠ 43 ∧ bN l j ≠ 35) → wildL l = wildL (l.drop n)
  | 0, l, _, _ => by simp
  | n + 1, [], h, _ => by simp at h
  | n + 1, b :: t, h, hb => by
    have h0 := hb 0 (by omega)
    have e : wildL (b :: t) = wildL t := by
      unfold wildL
      have h43 : (b == 43) = false := by
        rw [beq_eq_false_iff_ne]; intro hc; apply h0.1; subst hc; rfl
      have h35 : (b == 35) = false := by
        rw [beq_eq_false_iff_ne]; intro hc; apply h0.2; subst hc; rfl
      simp [h43, h35]
    rw [e, List.drop_succ_cons]
    refine wildL_drop n t (by simpa using h) (fun j hj => ?_)
    have := hb (j + 1) (by omega)
    unfold bN at this ⊢
    simpa using this
theorem wildL_hit {l : List UInt8} {i : Nat} (hi : i < l.length) (h : bN l i = 43 ∨ bN l i = 35) : wildL (l.drop i) = true := by
  have e : l.drop i = l[i] :: l.drop (i + 1) := List.drop_eq_getElem_cons hi
  rw [e]
  unfold wildL
  have : l[i] = 43 ∨ l[i] = 35 := by
    rcases h with h | h
    · exact .inl ((b8_of_bN hi (c := 43)).1 h)
    · exact .inr ((b8_of_bN hi (c := 35)).1 h)
  rcases this with h | h <;> simp [h]
theorem wildL_miss {l : List UInt8} {i n : Nat} (hn : i + n ≤ l.length) (h : ∀ j, j < n → bN l (i + j) ≠ 43 ∧ bN l (i + j) ≠ 35) : wildL (l.drop i) = wildL (l.drop (i + n)) := by
  have := wildL_drop n (l.drop i) (by rw [List.length_drop]; omega) (fun j hj => by rw [bN_drop]; exact h j hj)
  rw [List.drop_drop] at this
  exact this

/-- a text's levels -/
def lSplit : List UInt8 → List (List UInt8)
  | [] => [[]]
  | b :: t => if b = 47 then [] :: lSplit t else match lSplit t with
    | [] => [[b]]
    | x :: r => (b :: x) :: r
theorem lSplit_ne : ∀ l, lSplit l ≠ []
  | [] => by simp [lSplit]
  | b :: t => by
    rw [lSplit]
    split
    · simp
    · split <;> simp
theorem lSplit_hit : ∀ (i : Nat) (l : List UInt8) (hi : i < l.length), (∀ j, j < i → bN l j ≠ 47) → bN l i = 47 → lSplit l = l.take i :: lSplit (l.drop (i + 1))
  | i, [], hi, _, _ => by simp at hi
  | 0, b :: t, hi, _, h => by
    have hb : b = 47 := (b8_of_bN (l := b :: t) hi (c := 47)).1 h
    rw [lSplit, if_pos hb]
    simp
  | i + 1, b :: t, hi, hn, h => by
    have hb : b ≠ 47 := fun e => hn 0 (by omega) (by subst e; rfl)
    have ih := lSplit_hit i t (by simpa using hi) (fun j hj => by
      have := hn (j + 1) (by omega)
      unfold bN at this ⊢
      simpa using this) (by unfold bN at h ⊢; simpa using h)
    rw [lSplit, if_neg hb, ih]
    simp
theorem lSplit_none : ∀ (l : List UInt8), (∀ j, j < l.length → bN l j ≠ 47) → lSplit l = [l]
  | [], _ => rfl
  | b :: t, h => by
    have hb : b ≠ 47 := fun e => h 0 (by simp) (by subst e; rfl)
    have ih := lSplit_none t (fun j hj => by
      have := h (j + 1) (by simpa using hj)
      unfold bN at this ⊢
      simpa using this)
    rw [lSplit, if_neg hb, ih]
theorem lSplit_len : ∀ l : List UInt8, (lSplit l).length = l.count 47 + 1
  | [] => rfl
  | b :: t => by
    have ih := lSplit_len t
    rw [lSplit]
    by_cases hb : b = 47
    · rw [if_pos hb, hb]
      simp [ih]
    · rw [if_neg hb]
      have hc : (b :: t).count 47 = t.count 47 := by rw [List.count_cons]; simp [hb]
      rw [hc]
      split
      · rename_i e; rw [e] at ih; simp at ih
      · rename_i x r e
        rw [e] at ih
        simpa using ih
theorem lSplit_parts : ∀ (l x : List UInt8), x ∈ lSplit l → (47 : UInt8) ∉ x ∧ x.length ≤ l.length
  | [], x, h => by simp [lSplit] at h; subst h; simp
  | b :: t, x, h => by
    rw [lSplit] at h
    by_cases hb : b = 47
    · rw [if_pos hb] at h
      rcases List.mem_cons.1 h with rfl | h
      · simp
      · have := lSplit_parts t x h
        exact ⟨this.1, by simp; omega⟩
    · rw [if_neg hb] at h
      split at h
      · rename_i e; exact absurd e (lSplit_ne t)
      · rename_i y r e
        have hy := lSplit_parts t y (by rw [e]; simp)
        rcases List.mem_cons.1 h with rfl | h
        · refine ⟨?_, by simp; exact hy.2⟩
          intro hm
          rcases List.mem_cons.1 hm with h1 | h1
          · exact hb h1.symm
          · exact hy.1 h1
        · have := lSplit_parts t x (by rw [e]; simp [h])
          exact ⟨this.1, by simp; omega⟩
/-- levels as a text -/
def lJoin (p : List (List UInt8)) : List UInt8 := Lib.join p [47]
theorem lJoin_cons2 (x y : List UInt8) (r : List (List UInt8)) : lJoin (x :: y :: r) = x ++ 47 :: lJoin (y :: r) := by
  simp [lJoin, Lib.join, List.intercalate, List.intersperse]
theorem lJoin_one (x : List UInt8) : lJoin [x] = x := by simp [lJoin, Lib.join, List.intercalate]
theorem lJoin_split : ∀ l, lJoin (lSplit l) = l
  | [] => by simp [lSplit, lJoin_one]
  | b :: t => by
    have ih := lJoin_split t
    rw [lSplit]
    by_cases hb : b = 47
    · rw [if_pos hb]
      cases e : lSplit t with
      | nil => exact absurd e (lSplit_ne t)
      | cons y r =>
        rw [lJoin_cons2, ← e, ih, hb]
        simp
    · rw [if_neg hb]
      split
      · rename_i e; exact absurd e (lSplit_ne t)
      · rename_i y r e
        rw [e] at ih
        cases r with
        | nil => rw [lJoin_one] at ih ⊢; rw [ih]
        | cons z r => rw [lJoin_cons2] at ih ⊢; rw [List.cons_append, ih]

def lSized (l : List UInt8) : Bool := !l.isEmpty && (decide (l.length ≤ 96) && (uRight l && decide ((lSplit l).length ≤ 12)))
def lName (l : List UInt8) : Bool := lSized l && !wildL l
def okLevels : List (List UInt8) → Bool
  | [] => true
  | x :: r => (x == [43] || !wildL x || (x == [35] && r.isEmpty)) && okLevels r
def lFilter (l : List UInt8) : Bool := lSized l && okLevels (lSplit l)
def lHidden (l : List UInt8) : Bool := !l.isEmpty && decide (bN l 0 = 36)
theorem okLevels_at {p : List (List UInt8)} {k : Nat} {x : List UInt8} (hk : p[k]? = some x) : okLevels (p.drop k) = ((x == [43] || !wildL x || (x == [35] && decide (k + 1 = p.length))) && okLevels (p.drop (k + 1))) := by
  have hlt : k < p.length := (List.getElem?_eq_some_iff.1 hk).1
  have hx : p[k] = x := (List.getElem?_eq_some_iff.1 hk).2
  rw [List.drop_eq_getElem_cons hlt, hx, okLevels]
  congr 3
  have : (p.drop (k + 1)).isEmpty = decide (k + 1 = p.length) := by
    rw [Bool.eq_iff_iff]
    simp
    omega
  rw [this]
end Go.Proofs.YtopopdghmfbciaaDoor
