/- A bundle of texts (merged for the limit on files): SpBirths, BirPlain, Utf4, Utf5, UtfBackPlain, PubPlain, Pub, PubPut, PubOfPlain. -/
import Derived.Test.YtclicjokgfiegaaGreatDoorZa9
import Derived.Test.YtclicjokgfiegaaGreatDoorZa8
import Derived.Test.YtclicjokgfiegaaGreatDoorZa3
import Derived.Lib.MapLaws
import Derived.Lib.ConvBytes
/- Spots and topics: its node's birth: the walk. -/
namespace Go.Proofs.YtclicjokgfiegaaGreatDoor
open Go.RowKit
set_option linter.unusedVariables false
set_option linter.unusedSimpArgs false

theorem put_len (s : SpS) : (sPut s).1.length ≤ 96 := by
  by_cases h : (sPut s).2 = 0
  · have h2 := (tell_put h).2
    unfold lName at h2
    rw [Bool.and_eq_true] at h2
    exact (lSized_len h2.1).2.1
  · rw [put_bad h]; simp
/-- What the births of a spot are. -/
theorem births_cases (g n d : List UInt8) (k : Int) : (sBirths ⟨k, g, n, d⟩ = ([], [])) ∨
    (∃ t, t ≠ [] ∧ t.length ≤ 96 ∧ sTell t = ⟨1, g, n, []⟩ ∧ d = [] ∧ sBirths ⟨k, g, n, d⟩ = (t, [])) ∨
    (∃ t u, t ≠ [] ∧ t.length ≤ 96 ∧ u.length ≤ 96 ∧ sTell t = ⟨1, g, n, []⟩ ∧ d ≠ [] ∧ sTell u = ⟨5, g, n, d⟩ ∧ sBirths ⟨k, g, n, d⟩ = (t, u)) := by
  unfold sBirths
  simp only
  by_cases h0 : (sPut ⟨k, g, n, d⟩).2 ≠ 0 ∨ k = 9
  · rw [if_pos h0]; exact .inl rfl
  rw [if_neg h0]
  by_cases h1 : (sPut ⟨1, g, n, []⟩).2 ≠ 0
  · rw [if_pos h1]; exact .inl rfl
  rw [if_neg h1]
  have t1 := tell_put (Classical.not_not.1 h1)
  by_cases hd : d = []
  · rw [if_pos hd]
    exact .inr (.inl ⟨_, name_ne t1.2, put_len _, t1.1, hd, rfl⟩)
  rw [if_neg hd]
  by_cases h5 : (sPut ⟨5, g, n, d⟩).2 ≠ 0
  · rw [if_pos h5]; exact .inl rfl
  rw [if_neg h5]
  have t5 := tell_put (Classical.not_not.1 h5)
  exact .inr (.inr ⟨_, _, name_ne t1.2, put_len _, put_len _, t1.1, hd, t5.1, rfl⟩)

end Go.Proofs.YtclicjokgfiegaaGreatDoor

/- Births: plain laws: their order, what goes with one, what is found. No program. -/
namespace Go.Proofs.YtclicjokgfiegaaGreatDoor
open Go.RowKit
set_option linter.unusedVariables false
set_option linter.unusedSimpArgs false

abbrev Rk := List UInt8 × List UInt8
abbrev Bir := Rk × ByteArray
/-- lexicographic -/
def rkLt (a b : Rk) : Prop := a.1 < b.1 ∨ (a.1 = b.1 ∧ a.2 < b.2)
instance (a b : Rk) : Decidable (rkLt a b) := by unfold rkLt; infer_instance
theorem l_irr (a : List UInt8) : ¬ a < a := List.lt_irrefl a
theorem l_tr {a b c : List UInt8} (h : a < b) (k : b < c) : a < c := List.lt_trans h k
theorem l_tri (a b : List UInt8) : a < b ∨ a = b ∨ b < a := by
  rcases Classical.em (a < b) with h | h
  · exact .inl h
  · rcases Classical.em (b < a) with k | k
    · exact .inr (.inr k)
    · exact .inr (.inl (List.le_antisymm (by simpa using k) (by simpa using h)))
theorem l_nil {a : List UInt8} : ¬ a < [] := by simp
theorem l_pos {a : List UInt8} (h : a ≠ []) : [] < a := by cases a with
  | nil => exact absurd rfl h
  | cons x t => simp
theorem rk_irr (a : Rk) : ¬ rkLt a a := by
  rintro (h | ⟨_, h⟩)
  · exact l_irr _ h
  · exact l_irr _ h
theorem rk_tr {a b c : Rk} (h : rkLt a b) (k : rkLt b c) : rkLt a c := by
  rcases h with h | ⟨h1, h2⟩ <;> rcases k with k | ⟨k1, k2⟩
  · exact .inl (l_tr h k)
  · exact .inl (k1 ▸ h)
  · exact .inl (h1 ▸ k)
  · exact .inr ⟨h1.trans k1, l_tr h2 k2⟩
theorem rk_tri (a b : Rk) : rkLt a b ∨ a = b ∨ rkLt b a := by
  obtain ⟨a1, a2⟩ := a; obtain ⟨b1, b2⟩ := b
  rcases l_tri a1 b1 with h | h | h
  · exact .inl (.inl h)
  · subst h
    rcases l_tri a2 b2 with h | h | h
    · exact .inl (.inr ⟨rfl, h⟩)
    · subst h; exact .inr (.inl rfl)
    · exact .inr (.inr (.inr ⟨rfl, h⟩))
  · exact .inr (.inr (.inl h))

def Sorted (l : List Bir) : Prop := l.Pairwise fun a b => rkLt a.1 b.1
def covers (k x : Rk) : Bool := k == x || (k.2 == [] && k.1 == x.1)
def bLose (l : List Bir) (k : Rk) : List Bir := l.filter fun x => !covers k x.1
def bAt (l : List Bir) (k : Rk) : Nat := (l.takeWhile fun x => decide (rkLt x.1 k)).length
def bIns (l : List Bir) (k : Rk) (t : ByteArray) : List Bir := l.take (bAt l k) ++ (k, t) :: l.drop (bAt l k)
theorem bAt_le (l : List Bir) (k : Rk) : bAt l k ≤ l.length := by
  unfold bAt; exact (List.takeWhile_prefix _).length_le
theorem bAt_lt {l : List Bir} {k : Rk} {i : Nat} {x : Bir} (hi : i < bAt l k) (hx : l[i]? = some x) : rkLt x.1 k := by
  unfold bAt at hi
  induction l generalizing i with
  | nil => simp at hi
  | cons y t ih =>
    rw [List.takeWhile_cons] at hi
    by_cases h : rkLt y.1 k
    · rw [if_pos (by simpa using h)] at hi
      cases i with
      | zero => simp at hx; subst hx; exact h
      | succ i => exact ih (i := i) (by simpa using hi) (by simpa using hx)
    · rw [if_neg (by simpa using h)] at hi
      simp at hi
theorem sorted_at {l : List Bir} (h : Sorted l) {i j : Nat} {x y : Bir} (hij : i < j) (hx : l[i]? = some x) (hy : l[j]? = some y) : rkLt x.1 y.1 := by
  obtain ⟨hi, rfl⟩ := List.getElem?_eq_some_iff.1 hx
  obtain ⟨hj, rfl⟩ := List.getElem?_eq_some_iff.1 hy
  exact List.pairwise_iff_getElem.1 h i j hi hj hij
theorem bAt_at {l : List Bir} {k : Rk} {x : Bir} (hx : l[bAt l k]? = some x) : ¬ rkLt x.1 k := by
  unfold bAt at hx
  induction l with
  | nil => simp at hx
  | cons y t ih =>
    rw [List.takeWhile_cons] at hx
    by_cases h : rkLt y.1 k
    · rw [if_pos (by simpa using h)] at hx
      exact ih (by simpa using hx)
    · rw [if_neg (by simpa using h)] at hx
      simp at hx; subst hx; exact h
theorem bAt_ge {l : List Bir} (hs : Sorted l) {k : Rk} {i : Nat} {x : Bir} (hi : bAt l k ≤ i) (hx : l[i]? = some x) : ¬ rkLt x.1 k := by
  rcases Nat.lt_or_ge (bAt l k) i with h | h
  · have hlt : bAt l k < l.length := by have := (List.getElem?_eq_some_iff.1 hx).1; omega
    have h0 := List.getElem?_eq_getElem hlt
    have h1 := sorted_at hs h h0 hx
    have h2 := bAt_at h0
    exact fun h3 => h2 (rk_tr h1 h3)
  · have : i = bAt l k := by omega
    subst this
    exact bAt_at hx
/-- The binary search's answer. -/
theorem bAt_unique {l : List Bir} (hs : Sorted l) {k : Rk} {i : Nat} (hle : i ≤ l.length) (h1 : ∀ j x, j < i → l[j]? = some x → rkLt x.1 k) (h2 : ∀ j x, i ≤ j → l[j]? = some x → ¬ rkLt x.1 k) : i = bAt l k := by
  rcases Nat.lt_trichotomy i (bAt l k) with h | h | h
  · have hlt : i < l.length := by have := bAt_le l k; omega
    exact absurd (bAt_lt h (List.getElem?_eq_getElem hlt)) (h2 i _ (Nat.le_refl _) (List.getElem?_eq_getElem hlt))
  · exact h
  · have hlt : bAt l k < l.length := by omega
    exact absurd (h1 _ _ h (List.getElem?_eq_getElem hlt)) (bAt_at (List.getElem?_eq_getElem hlt))
theorem lose_sorted {l : List Bir} (hs : Sorted l) (k : Rk) : Sorted (bLose l k) := List.Pairwise.filter _ hs
theorem lose_len (l : List Bir) (k : Rk) : (bLose l k).length ≤ l.length := List.length_filter_le _ _
theorem ins_len (l : List Bir) (k : Rk) (t : ByteArray) : (bIns l k t).length = l.length + 1 := by
  have := bAt_le l k
  unfold bIns; simp; omega
/-- Is one there? -/
def bHas (l : List Bir) (k : Rk) : Bool := l.any fun x => x.1 == k
theorem bAt_has {l : List Bir} (hs : Sorted l) (k : Rk) : (bHas l k = true ↔ ∃ t, l[bAt l k]? = some (k, t)) := by
  unfold bHas
  constructor
  · intro h
    obtain ⟨x, hm, hx⟩ := List.any_eq_true.1 h
    obtain ⟨x1, t⟩ := x
    have : x1 = k := by simpa using hx
    subst this
    obtain ⟨i, hi⟩ := List.getElem?_of_mem hm
    have : i = bAt l x1 := by
      rcases Nat.lt_trichotomy i (bAt l x1) with h | h | h
      · exact absurd (bAt_lt h hi) (rk_irr _)
      · exact h
      · have hlt : bAt l x1 < l.length := by have := (List.getElem?_eq_some_iff.1 hi).1; omega
        have h0 := List.getElem?_eq_getElem hlt
        exact absurd (sorted_at hs h h0 hi) (bAt_at h0)
    subst this
    exact ⟨t, hi⟩
  · rintro ⟨t, ht⟩
    exact List.any_eq_true.2 ⟨_, List.mem_of_getElem? ht, by simp⟩
theorem ins_sorted {l : List Bir} (hs : Sorted l) {k : Rk} (hn : ∀ x ∈ l, x.1 ≠ k) (t : ByteArray) : Sorted (bIns l k t) := by
  unfold bIns Sorted
  rw [List.pairwise_append]
  refine ⟨List.Pairwise.sublist (List.take_sublist _ _) hs, ?_, ?_⟩
  · rw [List.pairwise_cons]
    refine ⟨fun x hx => ?_, List.Pairwise.sublist (List.drop_sublist _ _) hs⟩
    obtain ⟨i, hi⟩ := List.getElem?_of_mem hx
    rw [List.getElem?_drop] at hi
    have h1 := bAt_ge hs (Nat.le_add_right _ _) hi
    rcases rk_tri x.1 k with h | h | h
    · exact absurd h h1
    · exact absurd h (hn x (List.mem_of_mem_drop hx))
    · exact h
  · intro x hx y hy
    obtain ⟨i, hi⟩ := List.getElem?_of_mem hx
    rw [List.getElem?_take] at hi
    split at hi
    · rename_i h
      have h1 := bAt_lt h hi
      rcases List.mem_cons.1 hy with rfl | hy
      · exact h1
      · obtain ⟨j, hj⟩ := List.getElem?_of_mem hy
        rw [List.getElem?_drop] at hj
        exact sorted_at hs (by omega) hi hj
    · cases hi
theorem lose_not (l : List Bir) (k : Rk) : ∀ x ∈ bLose l k, x.1 ≠ k := by
  intro x hx e
  have := (List.mem_filter.1 hx).2
  simp [covers, e] at this
def bPut (l : List Bir) (k : Rk) (t : ByteArray) : List Bir := bIns (bLose l k) k t
theorem put_sorted {l : List Bir} (hs : Sorted l) (k : Rk) (t : ByteArray) : Sorted (bPut l k t) := ins_sorted (lose_sorted hs k) (lose_not l k) t
theorem put_has (l : List Bir) (k : Rk) (t : ByteArray) : (k, t) ∈ bPut l k t := by unfold bPut bIns; simp
theorem mem_put {l : List Bir} {k : Rk} {t : ByteArray} {x : Bir} : x ∈ bPut l k t ↔ x = (k, t) ∨ x ∈ bLose l k := by
  have hm : x ∈ bLose l k ↔ x ∈ (bLose l k).take (bAt (bLose l k) k) ∨ x ∈ (bLose l k).drop (bAt (bLose l k) k) := by
    rw [← List.mem_append, List.take_append_drop]
  unfold bPut bIns
  rw [List.mem_append, List.mem_cons, hm]
  constructor
  · rintro (h | h | h)
    · exact .inr (.inl h)
    · exact .inl h
    · exact .inr (.inr h)
  · rintro (h | h | h)
    · exact .inr (.inl h)
    · exact .inl h
    · exact .inr (.inr h)
/-- What one gets. -/
def bGet (l : List Bir) (k : Rk) : Option ByteArray := (l[bAt l k]?).bind fun x => if x.1 = k then some x.2 else none
theorem get_iff {l : List Bir} (hs : Sorted l) {k : Rk} {t : ByteArray} : bGet l k = some t ↔ (k, t) ∈ l := by
  unfold bGet
  constructor
  · intro h
    cases e : l[bAt l k]? with
    | none => rw [e] at h; simp at h
    | some x =>
      rw [e] at h
      simp only [Option.bind_some] at h
      split at h
      · rename_i hx
        cases h
        have := List.mem_of_getElem? e
        rw [← hx]; exact this
      · cases h
  · intro h
    obtain ⟨u, hu⟩ := (bAt_has hs k).1 (List.any_eq_true.2 ⟨_, h, by simp⟩)
    rw [hu]
    simp
    obtain ⟨i, hi⟩ := List.getElem?_of_mem h
    rcases Nat.lt_trichotomy i (bAt l k) with h1 | h1 | h1
    · exact absurd (sorted_at hs h1 hi hu) (rk_irr _)
    · subst h1; rw [hi] at hu; cases hu; rfl
    · exact absurd (sorted_at hs h1 hu hi) (rk_irr _)

/-! ### A device's topic -/
def preFive (g n : List UInt8) : List UInt8 := rootT ++ 47 :: (g ++ 47 :: (sWord 5 ++ 47 :: (n ++ [47])))
theorem put_five {g n d : List UInt8} (h : (sPut ⟨5, g, n, d⟩).2 = 0) : (sPut ⟨5, g, n, d⟩).1 = preFive g n ++ d ∧ d ≠ [] := by
  obtain ⟨_, _, hp, _, ht⟩ := put_ok h
  refine ⟨?_, ?_⟩
  · rw [ht]
    show lJoin [rootT, g, sWord 5, n, d] = _
    rw [lJoin_cons2, lJoin_cons2, lJoin_cons2, lJoin_cons2, lJoin_one]
    unfold preFive
    simp
  · have h2 : sPart g = true ∧ sPart n = true ∧ sPart d = true := by simpa [sFree] using hp
    have h3 := h2.2.2
    rw [sPart_eq, Bool.and_eq_true] at h3
    exact name_ne h3.1

/-! ### The reference's list -/
def bNode (t : List UInt8) : List UInt8 × Bool := if (sTell t).k = 1 ∨ (sTell t).k = 5 then ((sBirths (sTell t)).1, decide ((sTell t).k = 5)) else ([], false)
def bRank (t : List UInt8) : Option Rk := if (bNode t).1 = [] then none else some ((bNode t).1, if (bNode t).2 then t else [])
theorem tell_ne {t : List UInt8} (h : (sTell t).k ≠ 0) : sPut (sTell t) = (t, 0) ∧ t ≠ [] := by
  rcases tell_cases t with h0 | ⟨h1, h2, _⟩
  · rw [h0] at h; exact absurd rfl h
  · exact ⟨Prod.ext h2 h1, by have := (tell_put h1).2; rw [h2] at this; exact name_ne this⟩
theorem node_one {t : List UInt8} (h : (sTell t).k = 1) : (sBirths (sTell t)).1 = t := by
  obtain ⟨h1, h2⟩ := tell_ne (t := t) (by rw [h]; decide)
  have hb := (put_ok (s := sTell t) (by rw [h1])).2.1
  generalize sTell t = s at *
  obtain ⟨k, g, n, d⟩ := s
  simp only at h
  subst h
  have hd : d = [] := by
    unfold sBadForm sWidth at hb
    simpa using hb
  subst hd
  unfold sBirths
  simp [h1]
theorem bRank_one {t : List UInt8} (h : (sTell t).k = 1) : bRank t = some (t, []) := by
  obtain ⟨h1, h2⟩ := tell_ne (t := t) (by rw [h]; decide)
  have h3 := node_one h
  have hn : bNode t = (t, false) := by unfold bNode; rw [if_pos (.inl h), h3, h]; rfl
  unfold bRank
  rw [hn]
  simp [h2]
theorem bRank_five {t : List UInt8} (h : (sTell t).k = 5) : bRank t = if (sBirths (sTell t)).1 = [] then none else some ((sBirths (sTell t)).1, t) := by
  have hn : bNode t = ((sBirths (sTell t)).1, true) := by unfold bNode; rw [if_pos (.inr h), h]; rfl
  unfold bRank
  rw [hn]
  simp
theorem bRank_other {t : List UInt8} (h1 : (sTell t).k ≠ 1) (h5 : (sTell t).k ≠ 5) : bRank t = none := by
  have hn : bNode t = ([], false) := by unfold bNode; rw [if_neg (by simp [h1, h5])]
  unfold bRank
  rw [hn]
  simp
def bTopic (k : Rk) : List UInt8 := if k.2 = [] then k.1 else k.2
theorem bRank_node {t : List UInt8} {k : Rk} (h : bRank t = some k) : (bNode t).1 = k.1 ∧ k.1 ≠ [] ∧ bTopic k = t ∧ t ≠ [] ∧ ((bNode t).2 = true ↔ k.2 ≠ []) := by
  by_cases h1 : (sTell t).k = 1
  · have h2 := (tell_ne (t := t) (by rw [h1]; decide)).2
    rw [bRank_one h1] at h
    cases h
    have h3 := node_one h1
    unfold bNode bTopic
    rw [if_pos (.inl h1)]
    simp [h1, h3, h2]
  · by_cases h5 : (sTell t).k = 5
    · have h2 := (tell_ne (t := t) (by rw [h5]; decide)).2
      rw [bRank_five h5] at h
      split at h
      · cases h
      · rename_i hn
        cases h
        unfold bNode bTopic
        rw [if_pos (.inr h5)]
        simp [h5, h2, hn]
    · rw [bRank_other h1 h5] at h; cases h
def bTold (x : Bir) : List UInt8 × ByteArray := (bTopic x.1, x.2)
def Good (l : List Bir) : Prop := Sorted l ∧ ∀ x ∈ l, bRank (bTopic x.1) = some x.1
def rCov (t : List UInt8) (u : List UInt8) : Bool := u == t || (!(bNode t).2 && (bNode u).1 == (bNode t).1)
theorem rCov_eq {t : List UInt8} {k x : Rk} (h : bRank t = some k) (hx : bRank (bTopic x) = some x) : rCov t (bTopic x) = covers k x := by
  obtain ⟨a1, a2, a3, a4, a5⟩ := bRank_node h
  obtain ⟨b1, b2, b3, b4, b5⟩ := bRank_node hx
  have e1 : (bTopic x == t) = (k == x) := by
    rw [Bool.eq_iff_iff, beq_iff_eq, beq_iff_eq]
    constructor
    · intro e; rw [e, h] at hx; exact Option.some.inj hx
    · intro e; rw [← e]; exact a3
  unfold rCov covers
  rw [e1, a1, b1]
  congr 1
  have e2 : (!(bNode t).2) = (k.2 == []) := by
    rw [Bool.eq_iff_iff, Bool.not_eq_true', beq_iff_eq]
    constructor
    · intro e
      by_cases hk : k.2 = []
      · exact hk
      · rw [a5.2 hk] at e; cases e
    · intro e
      cases hb : (bNode t).2
      · rfl
      · exact absurd e (a5.1 hb)
  rw [e2]
  congr 1
  rw [Bool.eq_iff_iff, beq_iff_eq, beq_iff_eq]
  exact eq_comm
def rDrop (R : List (List UInt8 × ByteArray)) (t : List UInt8) : List (List UInt8 × ByteArray) := R.filter fun y => !rCov t y.1
theorem rDrop_eq {l : List Bir} (hg : Good l) {t : List UInt8} {k : Rk} (h : bRank t = some k) : rDrop (l.map bTold) t = (bLose l k).map bTold := by
  unfold rDrop bLose
  rw [List.filter_map]
  congr 1
  apply List.filter_congr
  intro x hx
  show (!rCov t (bTopic x.1)) = _
  rw [rCov_eq h (hg.2 x hx)]
theorem lose_good {l : List Bir} (hg : Good l) (k : Rk) : Good (bLose l k) := ⟨lose_sorted hg.1 k, fun x hx => hg.2 x (List.mem_filter.1 hx).1⟩
theorem put_good {l : List Bir} (hg : Good l) {t : List UInt8} {k : Rk} (h : bRank t = some k) (u : ByteArray) : Good (bPut l k u) := by
  refine ⟨put_sorted hg.1 k u, fun x hx => ?_⟩
  rcases mem_put.1 hx with rfl | hx
  · show bRank (bTopic k) = some k
    rw [(bRank_node h).2.2.1, h]
  · exact (lose_good hg k).2 x hx
def rAhead (a b : List UInt8) : Bool := if (bNode a).1 = (bNode b).1 then (if (bNode a).2 = (bNode b).2 then decide (a < b) else !(bNode a).2) else decide ((bNode a).1 < (bNode b).1)
theorem rAhead_eq {a b : List UInt8} {x y : Rk} (ha : bRank a = some x) (hb : bRank b = some y) : rAhead a b = decide (rkLt x y) := by
  obtain ⟨a1, a2, a3, a4, a5⟩ := bRank_node ha
  obtain ⟨b1, b2, b3, b4, b5⟩ := bRank_node hb
  obtain ⟨x1, x2⟩ := x
  obtain ⟨y1, y2⟩ := y
  unfold bTopic at a3 b3
  simp only at a1 a2 a3 a5 b1 b2 b3 b5
  unfold rAhead
  rw [a1, b1]
  by_cases h1 : x1 = y1
  · subst h1
    rw [if_pos rfl]
    have e : rkLt (x1, x2) (x1, y2) ↔ x2 < y2 := by
      unfold rkLt
      simp [l_irr]
    rw [Bool.eq_iff_iff, decide_eq_true_iff, e]
    by_cases hx : x2 = []
    · have hp : (bNode a).2 = false := by
        cases hq : (bNode a).2
        · rfl
        · exact absurd hx (a5.1 hq)
      rw [if_pos hx] at a3
      by_cases hy : y2 = []
      · have hq : (bNode b).2 = false := by
          cases hq : (bNode b).2
          · rfl
          · exact absurd hy (b5.1 hq)
        rw [if_pos hy] at b3
        subst hx hy a3 b3
        rw [if_pos (by rw [hp])]
        simp [l_irr]
      · have hq := b5.2 hy
        rw [if_neg (by rw [hp, hq]; decide), hp]
        subst hx
        simpa using l_pos hy
    · have hp := a5.2 hx
      rw [if_neg hx] at a3
      by_cases hy : y2 = []
      · have hq : (bNode b).2 = false := by
          cases hq : (bNode b).2
          · rfl
          · exact absurd hy (b5.1 hq)
        rw [if_neg (by rw [hp, hq]; decide), hp]
        subst hy
        simp
      · have hq := b5.2 hy
        rw [if_neg hy] at b3
        subst a3 b3
        rw [if_pos (by rw [hp, hq])]
        simp
  · rw [if_neg h1]
    rw [Bool.eq_iff_iff, decide_eq_true_iff, decide_eq_true_iff]
    unfold rkLt
    simp [h1]
def rAt (R : List (List UInt8 × ByteArray)) (t : List UInt8) : Nat := (R.takeWhile fun y => rAhead y.1 t).length
theorem rAt_eq {l : List Bir} (hg : ∀ x ∈ l, bRank (bTopic x.1) = some x.1) {t : List UInt8} {k : Rk} (h : bRank t = some k) : rAt (l.map bTold) t = bAt l k := by
  unfold rAt bAt
  induction l with
  | nil => rfl
  | cons x r ih =>
    rw [List.map_cons, List.takeWhile_cons, List.takeWhile_cons]
    have e : rAhead (bTold x).1 t = decide (rkLt x.1 k) := rAhead_eq (hg x (by simp)) h
    rw [e]
    split
    · simp [ih (fun y hy => hg y (by simp [hy]))]
    · rfl
/-- What the reference gets. -/
def rGet (R : List (List UInt8 × ByteArray)) (t : List UInt8) : Option ByteArray := (R.find? fun y => y.1 == t).map (·.2)
theorem rGet_none {l : List Bir} (hg : Good l) {t : List UInt8} (h : bRank t = none) : rGet (l.map bTold) t = none := by
  unfold rGet
  rw [Option.map_eq_none_iff, List.find?_eq_none]
  intro y hy
  obtain ⟨x, hx, rfl⟩ := List.mem_map.1 hy
  intro e
  have e2 : bTopic x.1 = t := by simpa [bTold] using e
  have := hg.2 x hx
  rw [e2, h] at this
  cases this
theorem rGet_eq {l : List Bir} (hg : Good l) {t : List UInt8} {k : Rk} (h : bRank t = some k) : rGet (l.map bTold) t = bGet l k := by
  cases e : bGet l k with
  | some u =>
    have hm := (get_iff hg.1).1 e
    unfold rGet
    rw [Option.map_eq_some_iff]
    have hex : ∃ y, (l.map bTold).find? (fun y => y.1 == t) = some y := by
      rw [← Option.isSome_iff_exists, List.find?_isSome]
      exact ⟨bTold (k, u), List.mem_map.2 ⟨_, hm, rfl⟩, by simpa [bTold] using (bRank_node h).2.2.1⟩
    obtain ⟨y, hy⟩ := hex
    refine ⟨y, hy, ?_⟩
    obtain ⟨x, hx, rfl⟩ := List.mem_map.1 (List.mem_of_find?_eq_some hy)
    have h1 : bTopic x.1 = t := by have := List.find?_some hy; simpa [bTold] using this
    have h2 := hg.2 x hx
    rw [h1, h] at h2
    have h3 : x.1 = k := (Option.some.inj h2).symm
    have h4 : bGet l k = some x.2 := (get_iff hg.1).2 (by rw [← h3]; exact hx)
    rw [e] at h4
    exact (Option.some.inj h4).symm
  | none =>
    unfold rGet
    rw [Option.map_eq_none_iff, List.find?_eq_none]
    intro y hy
    obtain ⟨x, hx, rfl⟩ := List.mem_map.1 hy
    intro e2
    have e3 : bTopic x.1 = t := by simpa [bTold] using e2
    have h2 := hg.2 x hx
    rw [e3, h] at h2
    have h3 : k = x.1 := Option.some.inj h2
    have := (get_iff hg.1 (k := k) (t := x.2)).2 (by rw [h3]; exact hx)
    rw [e] at this
    cases this

/-! ### A birth's births; its device -/
theorem births_rank {t : List UInt8} {k : Rk} (h : bRank t = some k) : sBirths (sTell t) = (k.1, k.2) := by
  by_cases h1 : (sTell t).k = 1
  · obtain ⟨p1, p2⟩ := tell_ne (t := t) (by rw [h1]; decide)
    have hb := (put_ok (s := sTell t) (by rw [p1])).2.1
    rw [bRank_one h1] at h
    cases h
    generalize sTell t = s at *
    obtain ⟨k, g, n, d⟩ := s
    simp only at h1
    subst h1
    have hd : d = [] := by
      unfold sBadForm sWidth at hb
      simpa using hb
    subst hd
    unfold sBirths
    simp [p1]
  · by_cases h5 : (sTell t).k = 5
    · obtain ⟨p1, p2⟩ := tell_ne (t := t) (by rw [h5]; decide)
      rw [bRank_five h5] at h
      split at h
      · cases h
      · rename_i hn
        cases h
        generalize sTell t = s at *
        obtain ⟨k, g, n, d⟩ := s
        simp only at h5
        subst h5
        obtain ⟨_, hd⟩ := put_five (g := g) (n := n) (d := d) (by rw [p1])
        unfold sBirths at hn ⊢
        simp only [p1] at hn ⊢
        simp only [ne_eq, not_true_eq_false, false_or, hd, if_false] at hn ⊢
        rw [if_neg (by decide)] at hn ⊢
        split
        · rename_i h; rw [if_pos h] at hn; exact absurd rfl hn
        · rfl
    · rw [bRank_other h1 h5] at h; cases h
theorem bapp_lt : ∀ (p : List UInt8) {a b : List UInt8}, p ++ a < p ++ b → a < b
  | [], a, b, h => h
  | x :: p, a, b, h => by
    rw [List.cons_append, List.cons_append, List.cons_lt_cons_iff] at h
    rcases h with h | ⟨_, h⟩
    · exact absurd h (by simp)
    · exact bapp_lt p h
theorem five_of {t n d : List UInt8} (h : bRank t = some (n, d)) (hd : d ≠ []) : ∃ g m e, sTell t = ⟨5, g, m, e⟩ ∧ t = preFive g m ++ e ∧ e ≠ [] ∧ sTell n = ⟨1, g, m, []⟩ ∧ d = t := by
  have hs := births_rank h
  have ht := (bRank_node h).2.2.1
  have hn := (bRank_node h).2.1
  by_cases h1 : (sTell t).k = 1
  · rw [bRank_one h1] at h
    simp only [Option.some.injEq, Prod.mk.injEq] at h
    exact absurd h.2.symm hd
  by_cases h5 : (sTell t).k = 5
  · obtain ⟨p1, p2⟩ := tell_ne (t := t) (by rw [h5]; decide)
    unfold bTopic at ht
    rw [if_neg hd] at ht
    simp only at ht hn
    generalize sTell t = s at *
    obtain ⟨k, g, m, e⟩ := s
    simp only at h5
    subst h5
    obtain ⟨q1, q2⟩ := put_five (g := g) (n := m) (d := e) (by rw [p1])
    rw [p1] at q1
    refine ⟨g, m, e, rfl, q1, q2, ?_, ht⟩
    rcases births_cases g m e 5 with hc | ⟨u, _, _, _, hc, _⟩ | ⟨u, v, _, _, _, hc, _, _, hc2⟩
    · rw [hs] at hc
      exact absurd (Prod.mk.inj hc).1 hn
    · exact absurd hc q2
    · rw [hs] at hc2
      have e1 : n = u := (Prod.mk.inj hc2).1
      rw [e1]; exact hc
  · rw [bRank_other h1 h5] at h; cases h
theorem one_of {t n : List UInt8} (h : bRank t = some (n, [])) : ∃ g m, sTell t = ⟨1, g, m, []⟩ := by
  by_cases h1 : (sTell t).k = 1
  · obtain ⟨p1, p2⟩ := tell_ne (t := t) (by rw [h1]; decide)
    have hb := (put_ok (s := sTell t) (by rw [p1])).2.1
    generalize sTell t = s at *
    obtain ⟨k, g, m, d⟩ := s
    simp only at h1
    subst h1
    have hd : d = [] := by
      unfold sBadForm sWidth at hb
      simpa using hb
    subst hd
    exact ⟨g, m, rfl⟩
  by_cases h5 : (sTell t).k = 5
  · obtain ⟨p1, p2⟩ := tell_ne (t := t) (by rw [h5]; decide)
    rw [bRank_five h5] at h
    split at h
    · cases h
    · simp only [Option.some.injEq, Prod.mk.injEq] at h
      exact absurd h.2 p2
  · rw [bRank_other h1 h5] at h; cases h
/-- Devices of one node rise. -/
theorem dev_lt {t u n d e : List UInt8} (ht : bRank t = some (n, d)) (hu : bRank u = some (n, e)) (hlt : d < e) : (sTell t).d < (sTell u).d := by
  have he : e ≠ [] := fun h => by subst h; exact l_nil hlt
  obtain ⟨g, m, x, h1, h2, h3, h4, h5⟩ := five_of hu he
  rw [h1]
  by_cases hd : d = []
  · subst hd
    obtain ⟨g', m', hz⟩ := one_of ht
    rw [hz]
    exact l_pos h3
  · obtain ⟨g', m', x', k1, k2, k3, k4, k5⟩ := five_of ht hd
    rw [k1]
    rw [h4] at k4
    simp only [SpS.mk.injEq, true_and, and_true] at k4
    obtain ⟨rfl, rfl⟩ := k4
    rw [k5, h5, h2, k2] at hlt
    exact bapp_lt _ hlt

/-! ### One that is put twice -/
theorem lose_put (l : List Bir) (k : Rk) (t : ByteArray) : bLose (bPut l k t) k = bLose l k := by
  unfold bPut bIns
  have h : ∀ m : List Bir, (∀ x ∈ m, (!covers k x.1) = true) → bLose m k = m := fun m hm => List.filter_eq_self.2 hm
  have hin : ∀ x ∈ bLose l k, (!covers k x.1) = true := fun x hx => (List.mem_filter.1 hx).2
  show ((bLose l k).take (bAt (bLose l k) k) ++ (k, t) :: (bLose l k).drop (bAt (bLose l k) k)).filter (fun x => !covers k x.1) = bLose l k
  rw [List.filter_append, List.filter_cons]
  rw [if_neg (by simp [covers])]
  rw [List.filter_eq_self.2 (fun x hx => hin x (List.mem_of_mem_take hx)), List.filter_eq_self.2 (fun x hx => hin x (List.mem_of_mem_drop hx)), List.take_append_drop]
theorem bPut_len (l : List Bir) (k : Rk) (t : ByteArray) : (bPut l k t).length = (bLose l k).length + 1 := ins_len _ _ _
theorem lose_same {l : List Bir} {k : Rk} (h : ∀ x ∈ l, covers k x.1 = false) : bLose l k = l := List.filter_eq_self.2 (fun x hx => by rw [h x hx]; rfl)
structure LastP (l : List Bir) (n d : List UInt8) (t u v : ByteArray) : Prop where
  a : bGet (bPut (bPut l (n, []) t) (n, d) u) (n, []) = some t
  b : bGet (bPut (bPut l (n, []) t) (n, d) u) (n, d) = some u
  c : bGet (bPut (bPut (bPut l (n, []) t) (n, d) u) (n, []) v) (n, []) = some v
  gone : bGet (bPut (bPut (bPut l (n, []) t) (n, d) u) (n, []) v) (n, d) = none
  e : bLose (bPut (bPut (bPut l (n, []) t) (n, d) u) (n, []) v) (n, []) = bLose (bPut (bPut l (n, []) t) (n, d) u) (n, [])
  f : bLose (bLose (bPut (bPut l (n, []) t) (n, d) u) (n, [])) (n, d) = bLose (bPut (bPut l (n, []) t) (n, d) u) (n, [])
theorem last_all {l : List Bir} (hs : Sorted l) {n d : List UInt8} (hd : d ≠ []) (t u v : ByteArray) : LastP l n d t u v := by
  have s1 := put_sorted hs (n, []) t
  have s2 := put_sorted s1 (n, d) u
  have s3 := put_sorted s2 (n, []) v
  have c1 : covers (n, d) (n, []) = false := by simp [covers, hd]
  have c2 : covers (n, []) (n, d) = true := by simp [covers]
  refine ⟨?_, ?_, ?_, ?_, lose_put _ _ _, ?_⟩
  · exact (get_iff s2).2 (mem_put.2 (.inr (List.mem_filter.2 ⟨put_has _ _ _, by simp [c1]⟩)))
  · exact (get_iff s2).2 (put_has _ _ _)
  · exact (get_iff s3).2 (put_has _ _ _)
  · cases e : bGet (bPut (bPut (bPut l (n, []) t) (n, d) u) (n, []) v) (n, d) with
    | none => rfl
    | some y =>
      rcases mem_put.1 ((get_iff s3).1 e) with h | h
      · simp only [Prod.mk.injEq, true_and] at h
        exact absurd h.1 hd
      · have := (List.mem_filter.1 h).2
        simp [c2] at this
  · refine lose_same fun x hx => ?_
    have := (List.mem_filter.1 hx).2
    cases e : covers (n, d) x.1
    · rfl
    · have e2 : (n, d) = x.1 := by simpa [covers, hd] using e
      rw [← e2, c2] at this
      cases this
end Go.Proofs.YtclicjokgfiegaaGreatDoor

/- Texts: raw bytes and texts, laid and got: the walks. -/
namespace Go.Proofs.YtclicjokgfiegaaGreatDoor
open Go.RowKit
set_option linter.unusedVariables false

theorem strCells_B (s : ByteArray) : Lib.strCells s = (sB s).map byteV := rfl

/-- append(out, s...) of a string's bytes -/
theorem wp_appS {w : World} {ops : Array Oper} {rest : List Oper} {o : Oper} {a : Act} {Q : Exit → Act → World → Prop} (hgd : o.guard = none) (s x : Operand)
    (ho : o.op = .call { callee := .builtin .append, args := #[s, x], argTypes := #[79, 9] })
    (B : Nat) (v : Value) (l : List UInt8) (hv : a.eval s = v) (hown : Owned B w v l) (str : ByteArray) (hx : a.eval x = .string str)
    (hlen : l.length + str.size ≤ 140737488355328) (hbase : B ≤ w.heap.size)
    (h : ∀ v' w', Owned B w' v' (l ++ sB str) → Below B w w' → wpList Tryz.prog ops Q rest (a.put o.dst v') w') : wpList Tryz.prog ops Q (o :: rest) a w := by
  obtain ⟨i0, hi, hz0, hz1, hz2⟩ := info_parts info_u8
  refine wpList_plain hgd fun K hK => ?_
  obtain ⟨v', w', hr, h2, h3, h4⟩ := Lib.run_append_own_string (P := Tryz.prog) w B 79 9 o.type 5 i0 Tryz.underlying79 Tryz.underlying9 hi hz0 hz1 hz2 v l.length (l.map byteV) hown str (by unfold maxLen; omega) hlen hbase
  unfold Oper.wp execOp
  simp only [ho, resolve, invoke, builtin, Sem.run_bind, Sem.run_pure, Result.andThen_ok, List.map_toArray, List.map_cons, List.map_nil, hv, hx, hr]
  refine hK _ _ (h v' w' ?_ ((Below.refl B w).grown h3 hbase (fun k hk => (hown.lt k hk).1)))
  unfold Owned
  rw [List.length_append, List.map_append, sB_len, ← strCells_B]
  exact h2

theorem GivesB.mono {w w0 w' : World} {l : List UInt8} {err : Int} {e : Ending} (h : GivesB w0 l err e w') (hb : Below w.heap.size w w0) : GivesB w l err e w' := by
  obtain ⟨v, he, ho, hb'⟩ := h
  exact ⟨v, he, ho.le hb.size, hb.trans (hb'.mono hb.size)⟩

set_option maxRecDepth 100000 in
set_option maxHeartbeats 1000000 in
theorem PutRaw_c (s : ByteArray) (w : World) (hs : s.size ≤ 140737488355327) : Calls Tryz.prog 167 #[.string s] w (GivesB w (uPutRawB (sB s)) (uPutRawE (sB s))) := by
  unfold uPutRawB uPutRawE
  rw [sB_len]
  by_cases hl : 65535 < s.size
  · rw [if_pos hl, if_pos hl]
    go_enter Tryz.func167, Tryz.ntmps167
    go_wp2_with fail
    go_ret2
    exact GivesB.nil (by go_grown)
  · rw [if_neg hl, if_neg hl]
    go_enter Tryz.func167, Tryz.ntmps167
    go_wp2_with fail
    refine (Put2_c _ _).mono ?_
    have hE : uPut2E (s.size : Int) = 0 := by unfold uPut2E; rw [if_neg (by omega)]
    have hn : (uPut2B (s.size : Int)).length ≤ 2 := by unfold uPut2B; split <;> simp
    rw [hE]
    rintro e w1 ⟨v, rfl, ho, hb⟩
    obtain ⟨a, c, rfl⟩ := Owns.slice ho
    go_wp2_with (at_builtin; refine wp_appS rfl _ _ rfl w.heap.size _ _ rfl ho s rfl (by omega) hb.size ?_; intro v' w' ho' hb')
    go_ret2
    exact ⟨_, rfl, ho', hb.trans (hb'.mono (Nat.le_refl _))⟩

def GivesS (w : World) (r : List UInt8 × Int × Int) (e : Ending) (w' : World) : Prop :=
  e = .returned (.tuple #[.string (sOf r.1), .int .i64 r.2.1, .int .i64 r.2.2]) ∧ Below w.heap.size w w'

set_option maxRecDepth 100000 in
set_option maxHeartbeats 1000000 in
theorem GetRaw_c (v : Value) (l : List UInt8) (at' : Int) (w : World) (hv : Bs w v l) : Calls Tryz.prog 201 #[v, .int .i64 at'] w (GivesS w (uGetRaw l at')) := by
  obtain ⟨r, hr⟩ : ∃ r, uGetRaw l at' = r := ⟨_, rfl⟩
  rw [hr]
  unfold uGetRaw at hr
  have hlen := hv.len
  obtain ⟨a, c, rfl⟩ := hv.slice
  go_enter Tryz.func201, Tryz.ntmps201
  go_wp2_with fail
  refine (Get2_c _ l at' _ hv).mono ?_
  rintro e w1 ⟨rfl, hb⟩
  have hok := @uGet2_ok l at'
  generalize uGet2 l at' = q at hr hok ⊢
  obtain ⟨qn, qk, qe⟩ := q
  simp only at hr hok ⊢
  by_cases he : qe = 0
  · obtain ⟨h1, h2, rfl, h4, h5⟩ := hok he
    subst he
    rw [if_neg (by decide)] at hr
    obtain ⟨k, rfl⟩ := Int.eq_ofNat_of_zero_le h1
    obtain ⟨n, rfl⟩ := Int.eq_ofNat_of_zero_le h4
    unfold maxLen at hlen
    by_cases hs : (l.length : Int) - (k + 2) < n
    · rw [if_pos hs] at hr
      subst hr
      go_wp2_with fail
      go_ret3
      exact ⟨rfl, hb⟩
    · rw [if_neg hs] at hr
      obtain ⟨a', c', hsl, hbs⟩ := run_part (hv.below' hb (Nat.le_refl _)) ((k : Int) + 2) ((k : Int) + 2 + n) (k + 2) (k + 2 + n) (by omega) (by omega) (by omega) (by omega)
      have hstr := run_str hbs
      have e1 : ((k : Int) + 2).toNat = k + 2 := by omega
      have e2 : k + 2 + n - (k + 2) = n := by omega
      rw [e2] at hsl hstr
      rw [e1, Int.toNat_natCast] at hr
      have Hr := hd hr
      clear hok hbs hv hr
      go_wp2_with fail
      go_ret3
      rw [← Hr.out]
      exact ⟨rfl, hb⟩
  · rw [if_pos he] at hr
    subst hr
    have heb : (qe != 0) = true := by simpa using he
    clear hok
    go_wp2_with fail
    go_ret3
    exact ⟨rfl, hb⟩

set_option maxRecDepth 100000 in
set_option maxHeartbeats 1000000 in
theorem refGetRaw_c (v : Value) (l : List UInt8) (at' : Int) (w : World) (hv : Bs w v l) : Calls Tryz.prog 162 #[v, .int .i64 at'] w (GivesS w (uGetRaw l at')) := by
  obtain ⟨r, hr⟩ : ∃ r, uGetRaw l at' = r := ⟨_, rfl⟩
  rw [hr]
  unfold uGetRaw at hr
  have hlen := hv.len
  obtain ⟨a, c, rfl⟩ := hv.slice
  go_enter Tryz.func162, Tryz.ntmps162
  go_wp2_with fail
  refine (refGet2_c _ l at' _ hv).mono ?_
  rintro e w1 ⟨rfl, hb⟩
  have hok := @uGet2_ok l at'
  generalize uGet2 l at' = q at hr hok ⊢
  obtain ⟨qn, qk, qe⟩ := q
  simp only at hr hok ⊢
  by_cases he : qe = 0
  · obtain ⟨h1, h2, rfl, h4, h5⟩ := hok he
    subst he
    rw [if_neg (by decide)] at hr
    obtain ⟨k, rfl⟩ := Int.eq_ofNat_of_zero_le h1
    obtain ⟨n, rfl⟩ := Int.eq_ofNat_of_zero_le h4
    unfold maxLen at hlen
    by_cases hs : (l.length : Int) - (k + 2) < n
    · rw [if_pos hs] at hr
      subst hr
      go_wp2_with fail
      go_ret3
      exact ⟨rfl, hb⟩
    · rw [if_neg hs] at hr
      obtain ⟨a', c', hsl, hbs⟩ := run_part (hv.below' hb (Nat.le_refl _)) ((k : Int) + 2) ((k : Int) + 2 + n) (k + 2) (k + 2 + n) (by omega) (by omega) (by omega) (by omega)
      have hstr := run_str hbs
      have e1 : ((k : Int) + 2).toNat = k + 2 := by omega
      have e2 : k + 2 + n - (k + 2) = n := by omega
      rw [e2] at hsl hstr
      rw [e1, Int.toNat_natCast] at hr
      have Hr := hd hr
      clear hok hbs hv hr
      go_wp2_with fail
      go_ret3
      rw [← Hr.out]
      exact ⟨rfl, hb⟩
  · rw [if_pos he] at hr
    subst hr
    have heb : (qe != 0) = true := by simpa using he
    clear hok
    go_wp2_with fail
    go_ret3
    exact ⟨rfl, hb⟩

end Go.Proofs.YtclicjokgfiegaaGreatDoor

/- Texts: a text, laid and got; that the program is awake. -/
namespace Go.Proofs.YtclicjokgfiegaaGreatDoor
open Go.RowKit
set_option linter.unusedVariables false

theorem uRight_len {l : List UInt8} (h : uRight l = true) : l.length ≤ 65535 := by
  unfold uRight at h
  simp at h
  exact h.1

set_option maxRecDepth 100000 in
set_option maxHeartbeats 1000000 in
theorem Put_c (s : ByteArray) (w : World) (hE : EnvU w) (hs : s.size ≤ 140737488355327) : Calls Tryz.prog 165 #[.string s] w (GivesB w (uPutB (sB s)) (uPutE (sB s))) := by
  obtain ⟨rE, hrE⟩ : ∃ r, uPutE (sB s) = r := ⟨_, rfl⟩
  obtain ⟨rB, hrB⟩ : ∃ r, uPutB (sB s) = r := ⟨_, rfl⟩
  rw [hrE, hrB]
  unfold uPutE at hrE
  unfold uPutB at hrB
  have HE := hd hE; clear hE
  have hL := sB_len s
  have hraw : uPutRawE (sB s) = if 65535 < s.size then 3 else 0 := by unfold uPutRawE; rw [hL]
  rw [hL] at hrE
  by_cases hl : 65535 < s.size
  · have hrt : uRight (sB s) = false := by
      cases h : uRight (sB s) with
      | false => rfl
      | true => have := uRight_len h; omega
    have hrw : uPutRawB (sB s) = [] := by unfold uPutRawB; rw [if_pos (by omega)]
    rw [if_pos hl] at hrE hraw
    rw [hrt, if_neg (by decide)] at hrB
    subst hrE hrB
    go_enter Tryz.func165, Tryz.ntmps165
    go_wp2_with fail
    refine (PutRaw_c s _ hs).mono ?_
    rw [hrw, hraw]
    rintro e w' ⟨v, rfl, ho, hb⟩
    go_wp2_with fail
    go_ret2
    exact ⟨_, rfl, ho, hb⟩
  · rw [if_neg hl] at hrE hraw
    cases hrt : uRight (sB s) with
    | false =>
      rw [hrt, if_neg (by decide)] at hrE hrB
      subst hrE hrB
      go_enter Tryz.func165, Tryz.ntmps165
      go_wp2_with fail
      refine (Right_c s _ HE.out (by omega)).mono ?_
      rw [hrt]
      rintro e w' ⟨rfl, hb⟩
      go_wp2_with fail
      go_ret2
      exact GivesB.nil hb
    | true =>
      rw [hrt, if_pos rfl] at hrE hrB
      subst hrE
      have HB := hd hrB; clear hrB
      go_enter Tryz.func165, Tryz.ntmps165
      go_wp2_with fail
      refine (Right_c s _ HE.out (by omega)).mono ?_
      rw [hrt]
      rintro e w' ⟨rfl, hb⟩
      go_wp2_with fail
      refine (PutRaw_c s _ hs).mono ?_
      rw [HB.out, hraw]
      rintro e w2 ⟨v, rfl, ho, hb2⟩
      go_wp2_with fail
      go_ret2
      exact ⟨_, rfl, ho.le hb.size, hb.trans (hb2.mono hb.size)⟩

theorem uGetRaw_len (l : List UInt8) (at' : Int) : (uGetRaw l at').1.length ≤ 65535 := by
  unfold uGetRaw
  have h := @uGet2_ok l at'
  generalize uGet2 l at' = q at h ⊢
  obtain ⟨qn, qk, qe⟩ := q
  simp only at h ⊢
  split
  · simp
  · split
    · simp
    · rename_i h1 h2
      have := h (by omega)
      simp only [List.length_take, List.length_drop]
      omega

set_option maxRecDepth 100000 in
set_option maxHeartbeats 1000000 in
theorem Get_c (v : Value) (l : List UInt8) (at' : Int) (w : World) (hE : EnvU w) (hv : Bs w v l) : Calls Tryz.prog 189 #[v, .int .i64 at'] w (GivesS w (uGet l at')) := by
  obtain ⟨r, hr⟩ : ∃ r, uGet l at' = r := ⟨_, rfl⟩
  rw [hr]
  unfold uGet at hr
  have HE := hd hE; clear hE
  obtain ⟨a, c, rfl⟩ := hv.slice
  go_enter Tryz.func189, Tryz.ntmps189
  go_wp2_with fail
  refine (GetRaw_c _ l at' _ hv).mono ?_
  rintro e w1 ⟨rfl, hb⟩
  have hlen := uGetRaw_len l at'
  generalize uGetRaw l at' = q at hr hlen ⊢
  obtain ⟨qs, qk, qe⟩ := q
  simp only at hr hlen ⊢
  have hsz := sOf_size qs
  by_cases he : qe = 0
  · subst he
    rw [if_neg (by decide)] at hr
    cases hrt : uRight qs with
    | false =>
      rw [if_pos hrt] at hr
      subst hr
      go_wp2_with fail
      refine (Right_c (sOf qs) _ (HE.out.below hb) (by omega)).mono ?_
      rw [sB_sOf, hrt]
      rintro e w2 ⟨rfl, hb2⟩
      have hb3 := hb.trans (hb2.mono hb.size)
      go_wp2_with fail
      go_ret3
      exact ⟨rfl, hb3⟩
    | true =>
      rw [hrt, if_neg (by decide)] at hr
      have Hr := hd hr; clear hr
      go_wp2_with fail
      refine (Right_c (sOf qs) _ (HE.out.below hb) (by omega)).mono ?_
      rw [sB_sOf, hrt]
      rintro e w2 ⟨rfl, hb2⟩
      have hb3 := hb.trans (hb2.mono hb.size)
      go_wp2_with fail
      go_ret3
      rw [← Hr.out]
      exact ⟨rfl, hb3⟩
  · rw [if_pos he] at hr
    subst hr
    have heb : (qe != 0) = true := by simpa using he
    go_wp2_with fail
    go_ret3
    exact ⟨rfl, hb⟩

set_option maxRecDepth 100000 in
set_option maxHeartbeats 1000000 in
theorem refGet_c (v : Value) (l : List UInt8) (at' : Int) (w : World) (hv : Bs w v l) : Calls Tryz.prog 134 #[v, .int .i64 at'] w (GivesS w (uGet l at')) := by
  obtain ⟨r, hr⟩ : ∃ r, uGet l at' = r := ⟨_, rfl⟩
  rw [hr]
  unfold uGet at hr
  obtain ⟨a, c, rfl⟩ := hv.slice
  go_enter Tryz.func134, Tryz.ntmps134
  go_wp2_with fail
  refine (refGetRaw_c _ l at' _ hv).mono ?_
  rintro e w1 ⟨rfl, hb⟩
  have hlen := uGetRaw_len l at'
  generalize uGetRaw l at' = q at hr hlen ⊢
  obtain ⟨qs, qk, qe⟩ := q
  simp only at hr hlen ⊢
  have hsz := sOf_size qs
  by_cases he : qe = 0
  · subst he
    rw [if_neg (by decide)] at hr
    cases hrt : uRight qs with
    | false =>
      rw [if_pos hrt] at hr
      subst hr
      go_wp2_with fail
      refine (refRight_c (sOf qs) _ (by omega)).mono ?_
      rw [sB_sOf, hrt]
      rintro e w2 ⟨rfl, hb2⟩
      have hb3 := hb.trans (hb2.mono hb.size)
      go_wp2_with fail
      go_ret3
      exact ⟨rfl, hb3⟩
    | true =>
      rw [hrt, if_neg (by decide)] at hr
      have Hr := hd hr; clear hr
      go_wp2_with fail
      refine (refRight_c (sOf qs) _ (by omega)).mono ?_
      rw [sB_sOf, hrt]
      rintro e w2 ⟨rfl, hb2⟩
      have hb3 := hb.trans (hb2.mono hb.size)
      go_wp2_with fail
      go_ret3
      rw [← Hr.out]
      exact ⟨rfl, hb3⟩
  · rw [if_pos he] at hr
    subst hr
    have heb : (qe != 0) = true := by simpa using he
    go_wp2_with fail
    go_ret3
    exact ⟨rfl, hb⟩

end Go.Proofs.YtclicjokgfiegaaGreatDoor

/- Texts, there and back: plain laws. No program. -/
namespace Go.Proofs.YtclicjokgfiegaaGreatDoor
open Go.RowKit
set_option linter.unusedVariables false

theorem bN_append_right (x y : List UInt8) (j : Nat) : bN (x ++ y) (x.length + j) = bN y j := by
  unfold bN
  rw [List.getD_eq_getElem?_getD, List.getD_eq_getElem?_getD, List.getElem?_append_right (by omega)]
  congr 4
  omega
theorem bN_zero (b : UInt8) (t : List UInt8) : bN (b :: t) 0 = b.toNat := rfl
theorem bN_succ (b : UInt8) (t : List UInt8) (j : Nat) : bN (b :: t) (j + 1) = bN t j := rfl

theorem uGet2_at (A R : List UInt8) (n : Nat) (hn : n ≤ 65535) : uGet2 (A ++ (B8 (n / 256) :: B8 (n % 256) :: R)) (A.length : Int) = ((n : Int), (A.length : Int) + 2, 0) := by
  unfold uGet2
  rw [List.length_append, if_neg (by simp; omega), if_neg (by simp; omega), Int.toNat_natCast]
  have e0 := bN_append_right A (B8 (n / 256) :: B8 (n % 256) :: R) 0
  have e1 := bN_append_right A (B8 (n / 256) :: B8 (n % 256) :: R) 1
  rw [Nat.add_zero] at e0
  rw [e0, e1, bN_zero, bN_succ, bN_zero, B8_toNat (by omega), B8_toNat (by omega)]
  congr 1
  omega

theorem uPut2B_ok {n : Nat} (hn : n ≤ 65535) : uPut2B (n : Int) = [B8 (n / 256), B8 (n % 256)] := by
  unfold uPut2B
  rw [if_neg (by omega), Int.toNat_natCast]

theorem uPutRawB_ok {S : List UInt8} (h : S.length ≤ 65535) : uPutRawB S = B8 (S.length / 256) :: B8 (S.length % 256) :: S := by
  unfold uPutRawB
  rw [if_neg (by omega), uPut2B_ok h]
  rfl
theorem uPutRawB_len {S : List UInt8} (h : S.length ≤ 65535) : (uPutRawB S).length = S.length + 2 := by
  rw [uPutRawB_ok h]
  rfl

theorem uGetRaw_at (A S C : List UInt8) (h : S.length ≤ 65535) : uGetRaw (A ++ uPutRawB S ++ C) (A.length : Int) = (S, (A.length : Int) + 2 + S.length, 0) := by
  rw [uPutRawB_ok h, List.append_assoc]
  unfold uGetRaw
  have e := uGet2_at A (S ++ C) S.length h
  rw [List.cons_append, List.cons_append, e]
  simp only
  rw [if_neg (by decide), if_neg (by simp; omega)]
  have e1 : ((A.length : Int) + 2).toNat = A.length + 2 := by omega
  rw [e1, Int.toNat_natCast, ← List.drop_drop, List.drop_left, List.drop_succ_cons, List.drop_succ_cons, List.drop_zero, List.take_left]

theorem uGet_at (A S C : List UInt8) (h : S.length ≤ 65535) : uGet (A ++ uPutRawB S ++ C) (A.length : Int) = if uRight S = true then (S, (A.length : Int) + 2 + S.length, 0) else ([], 0, 9) := by
  unfold uGet
  rw [uGetRaw_at A S C h, if_neg (by simp)]
  simp only
  by_cases hr : uRight S = true
  · rw [if_pos hr, if_neg (by rw [hr]; decide)]
  · rw [if_neg hr, if_pos (by simpa using hr)]
end Go.Proofs.YtclicjokgfiegaaGreatDoor

/- Messages: plain laws: which topic may be; what is laid. No program. -/
namespace Go.Proofs.YtclicjokgfiegaaGreatDoor
open Go.RowKit
set_option linter.unusedVariables false

/-- A byte that no filter's sign may be in a topic. -/
def signB (b : UInt8) : Bool := b.toNat == 43 || b.toNat == 35
def signIn (l : List UInt8) : Bool := l.any signB
def pName (l : List UInt8) : Bool := !signIn l && !l.isEmpty

theorem signB_iff (l : List UInt8) (j : Nat) (h : j < l.length) : signB (l[j]'h) = (bN l j == 43 || bN l j == 35) := by
  unfold signB bN
  rw [List.getD_eq_getElem?_getD, List.getElem?_eq_getElem h, Option.getD_some]

theorem signIn_drop : ∀ (n : Nat) (l : List UInt8), n ≤ l.length → (∀ j, j < n → bN l j ≠ 43 ∧ bN l j ≠ 35) → signIn l = signIn (l.drop n)
  | 0, l, _, _ => by simp
  | n + 1, [], h, _ => by simp at h
  | n + 1, b :: t, h, hb => by
    have h0 := hb 0 (by omega)
    have e : signIn (b :: t) = signIn t := by
      unfold signIn
      have : signB b = false := by
        have h1 : bN (b :: t) 0 = b.toNat := rfl
        rw [h1] at h0
        unfold signB
        simp [h0.1, h0.2]
      simp [this]
    rw [e, List.drop_succ_cons]
    refine signIn_drop n t (by simpa using h) (fun j hj => ?_)
    exact hb (j + 1) (by omega)
theorem signIn_hit {l : List UInt8} (hl : 0 < l.length) (h : bN l 0 = 43 ∨ bN l 0 = 35) : signIn l = true := by
  cases l with
  | nil => simp at hl
  | cons b t =>
    have h1 : bN (b :: t) 0 = b.toNat := rfl
    rw [h1] at h
    have : signB b = true := by unfold signB; rcases h with h | h <;> simp [h]
    unfold signIn
    simp [this]

/-- One step of a range over a string's runes, for the signs. -/
theorem range_sign (l : List UInt8) (i : Nat) (hi : i < l.length) :
    (((Lib.decodeL (l.drop i)).1 = 43 ∨ (Lib.decodeL (l.drop i)).1 = 35) → signIn (l.drop i) = true) ∧
    (((Lib.decodeL (l.drop i)).1 ≠ 43 ∧ (Lib.decodeL (l.drop i)).1 ≠ 35) → signIn (l.drop i) = signIn (l.drop (i + (Lib.decodeL (l.drop i)).2))) ∧
    1 ≤ (Lib.decodeL (l.drop i)).2 ∧ i + (Lib.decodeL (l.drop i)).2 ≤ l.length ∧ (Lib.decodeL (l.drop i)).1 ≤ 1114111 := by
  rw [Lib.decodeL_N]
  have e0 : ((l.drop i).getD 0 0).toNat = bN l i := by have := bN_drop l i 0; rw [Nat.add_zero] at this; exact this
  have e1 : ((l.drop i).getD 1 0).toNat = bN l (i + 1) := bN_drop l i 1
  have e2 : ((l.drop i).getD 2 0).toNat = bN l (i + 2) := bN_drop l i 2
  have e3 : ((l.drop i).getD 3 0).toNat = bN l (i + 3) := bN_drop l i 3
  rw [e0, e1, e2, e3, List.length_drop]
  have z0 : (bN l i = 43 ∨ bN l i = 35) → signIn (l.drop i) = true := fun h => signIn_hit (by rw [List.length_drop]; omega) (by rw [bN_drop, Nat.add_zero]; exact h)
  have zn : ∀ n, i + n ≤ l.length → (∀ j, j < n → bN l (i + j) ≠ 43 ∧ bN l (i + j) ≠ 35) → signIn (l.drop i) = signIn (l.drop (i + n)) := fun n hn hb => by
    have := signIn_drop n (l.drop i) (by rw [List.length_drop]; omega) (fun j hj => by rw [bN_drop]; exact hb j hj)
    rw [List.drop_drop] at this
    exact this
  have b0 := bN_lt l i
  have hz1 : (bN l i ≠ 43 ∧ bN l i ≠ 35) → signIn (l.drop i) = signIn (l.drop (i + 1)) := fun h => zn 1 (by omega) (fun j hj => by
    match j, hj with
    | 0, _ => exact h)
  have hz2 : i + 2 ≤ l.length → 128 ≤ bN l i → 128 ≤ bN l (i + 1) → signIn (l.drop i) = signIn (l.drop (i + 2)) := fun h h0 h1 => zn 2 h (fun j hj => by
    match j, hj with
    | 0, _ => rw [Nat.add_zero]; omega
    | 1, _ => omega)
  have hz3 : i + 3 ≤ l.length → 128 ≤ bN l i → 128 ≤ bN l (i + 1) → 128 ≤ bN l (i + 2) → signIn (l.drop i) = signIn (l.drop (i + 3)) := fun h h0 h1 h2 => zn 3 h (fun j hj => by
    match j, hj with
    | 0, _ => rw [Nat.add_zero]; omega
    | 1, _ => omega
    | 2, _ => omega)
  have hz4 : i + 4 ≤ l.length → 128 ≤ bN l i → 128 ≤ bN l (i + 1) → 128 ≤ bN l (i + 2) → 128 ≤ bN l (i + 3) → signIn (l.drop i) = signIn (l.drop (i + 4)) := fun h h0 h1 h2 h3 => zn 4 h (fun j hj => by
    match j, hj with
    | 0, _ => rw [Nat.add_zero]; omega
    | 1, _ => omega
    | 2, _ => omega
    | 3, _ => omega)
  clear zn e0 e1 e2 e3
  have hz : Lib.decodeN (l.length - i) (bN l i) (bN l (i + 1)) (bN l (i + 2)) (bN l (i + 3)) = (65533, 1) → bN l i ≠ 43 ∧ bN l i ≠ 35 := fun h => by
    constructor
    all_goals
      intro h0
      rw [h0] at h
      unfold Lib.decodeN at h
      rw [if_pos (by omega)] at h
      simp at h
  rcases Lib.decodeN_shape (l.length - i) (bN l i) (bN l (i + 1)) (bN l (i + 2)) (bN l (i + 3)) with ⟨c, e⟩ | ⟨c1, c2, c3, cv, e⟩ | ⟨c1, c2, c3, c4, cv, cs, e⟩ | ⟨c1, c2, c3, c4, c5, cv, cw, e⟩ | e
  · rw [e]
    exact ⟨fun h => z0 h, fun h => hz1 h, by omega, by simp only; omega, by simp only; omega⟩
  · rw [e]
    exact ⟨fun h => by simp only at h; omega, fun h => hz2 (by omega) (by omega) (by omega), by omega, by simp only; omega, by simp only; omega⟩
  · rw [e]
    exact ⟨fun h => by simp only at h; omega, fun h => hz3 (by omega) (by omega) (by omega) (by omega), by omega, by simp only; omega, by simp only; omega⟩
  · rw [e]
    exact ⟨fun h => by simp only at h; omega, fun h => hz4 (by omega) (by omega) (by omega) (by omega) (by omega), by omega, by simp only; omega, by simp only; omega⟩
  · have := hz e
    rw [e]
    exact ⟨fun h => by simp at h, fun h => hz1 this, by omega, by simp only; omega, by simp only; omega⟩

/-- a number's bytes -/
def pIdB (id : Int) : List UInt8 := if 1 ≤ id ∧ id ≤ 65535 then uPut2B id else []
def pIdE (id : Int) : Int := if 1 ≤ id ∧ id ≤ 65535 then 0 else 1
/-- a number's bytes by a QoS -/
def pNumB (qos id : Int) : List UInt8 := if 0 < qos then pIdB id else []
def pNumE (qos id : Int) : Int := if 0 < qos then pIdE id else if id ≠ 0 then 1 else 0
/-- a message's bytes and the error -/
def pPutE (T X : List UInt8) (qos id : Int) : Int :=
  if qos < 0 ∨ 2 < qos then 10
  else if pName T = false then 13
  else if uPutE T ≠ 0 then uPutE T
  else if pNumE qos id ≠ 0 then pNumE qos id
  else if (4096 : Int) - ((uPutB T).length + (pNumB qos id).length) < X.length then 3 else 0
def pPutB (T X : List UInt8) (qos id : Int) : List UInt8 := if pPutE T X qos id = 0 then uPutB T ++ pNumB qos id ++ X else []
end Go.Proofs.YtclicjokgfiegaaGreatDoor

/- Messages: the walks of the small functions. -/
namespace Go.Proofs.YtclicjokgfiegaaGreatDoor
open Go.RowKit
set_option linter.unusedVariables false

/-- []byte(s) -/
theorem run_bytes (s : ByteArray) (hs : s.size ≤ 140737488355327) (w : World) : ∃ c W', (convert 9 79 (.string s)).run Tryz.prog w = .ok (.slice (some ⟨w.heap.size, 0, none⟩) (sB s).length c) W' ∧ Bs W' (.slice (some ⟨w.heap.size, 0, none⟩) (sB s).length c) (sB s) ∧ Below w.heap.size w W' := by
  have h63 : s.size ≤ maxLen := by unfold maxLen; omega
  refine ⟨grownCap w s.size 0 5, Lib.bytesWorld w 5 s, ?_, ?_, ⟨rfl, rfl, rfl, by rw [Lib.bytesWorld_size]; omega, fun j hj => Lib.bytesWorld_at_old w 5 s j hj⟩⟩
  · rw [sB_len]
    exact Lib.run_convert_string_bytes w 9 79 5 s Tryz.underlying9 Tryz.underlying79 Tryz.underlying5
  · refine ⟨some ⟨w.heap.size, 0, none⟩, _, rfl, by rw [sB_len]; exact grownCap_ge w s.size 0 5, grownCap_le_maxLen w s.size 0 5 h63, (fun e => by cases e), fun ad had j u hu => ?_⟩
    cases had
    have hj : j < s.size := by
      have := (List.getElem?_eq_some_iff.1 hu).1
      rw [List.length_map, sB_len] at this
      exact this
    rw [Go.WideShapes.add_plain, Nat.zero_add, Lib.bytesWorld_cell w 5 s j hj, ← hu]
    have hjl : j < (sB s).length := by rw [sB_len]; exact hj
    have e : (sB s).getD j 0 = (sB s)[j]'hjl := by rw [List.getD_eq_getElem?_getD, List.getElem?_eq_getElem hjl, Option.getD_some]
    rw [List.getElem?_map, List.getElem?_eq_getElem hjl]
    show _ = some (byteV ((sB s)[j]'hjl))
    rw [← e]
    rfl

theorem sB_nil {s : ByteArray} (h : s.size = 0) : s = ⟨#[]⟩ := by
  have : s.data = #[] := Array.eq_empty_of_size_eq_zero h
  cases s
  simp_all
theorem neq_empty (s : ByteArray) : (!s.toList.isEmpty) = !(sB s).isEmpty := by
  rw [ByteArray.toList_eq]
  rfl

set_option maxRecDepth 100000 in
set_option maxHeartbeats 1000000 in
theorem leveled_c (q : Int) (w : World) : Calls Tryz.prog 169 #[.int .i64 q] w fun e w' => e = .returned (.bool (decide (0 ≤ q) && decide (q ≤ 2))) ∧ w = w' := by
  go_enter Tryz.func169, Tryz.ntmps169
  go_wp2
  all_goals (go_ret; refine ⟨ret_bool ?_, rfl⟩)
  all_goals (simp_all <;> omega)

set_option maxRecDepth 100000 in
set_option maxHeartbeats 1000000 in
theorem numbered_c (q : Int) (w : World) : Calls Tryz.prog 172 #[.int .i64 q] w fun e w' => e = .returned (.bool (decide (1 ≤ q) && decide (q ≤ 65535))) ∧ w = w' := by
  go_enter Tryz.func172, Tryz.ntmps172
  go_wp2
  all_goals (go_ret; refine ⟨ret_bool ?_, rfl⟩)
  all_goals (simp_all <;> omega)

set_option maxRecDepth 100000 in
set_option maxHeartbeats 1000000 in
theorem named_c (s : ByteArray) (w : World) (hs : s.size ≤ 9223372036854775000) : Calls Tryz.prog 170 #[.string s] w fun e w' => e = .returned (.bool (pName (sB s))) ∧ Below w.heap.size w w' := by
  obtain ⟨r, hr⟩ : ∃ r, pName (sB s) = r := ⟨_, rfl⟩
  rw [hr]
  unfold pName at hr
  have hne := neq_empty s
  go_enter Tryz.func170, Tryz.ntmps170
  go_wp2_with fail
  go_loopw [4] (fun _ w' => ∃ pos : Nat, w' = w.iter s pos ∧ pos ≤ s.size ∧ (!signIn ((sB s).drop pos) && !(sB s).isEmpty) = r) (fun _ w' => s.size - w'.iterPos w.heap.size)
  case atStart => exact ⟨0, rfl, by omega, by simpa using hr⟩
  case round =>
    obtain ⟨pos, rfl, hp1, hc⟩ := hrel
    by_cases hp : pos < s.size
    · have hnx : ∀ ty, (Instr.next (.pointer (some ⟨w.heap.size, 0, none⟩)) true ty).run Tryz.prog (w.iter s pos) = _ := fun ty => run_next_any w s pos ty hp
      have hst := range_sign (sB s) pos (by rw [sB_len]; exact hp)
      rw [sB_len] at hst
      have hdd : Lib.decodeL ((sB s).drop pos) = Utf8.decode s pos := Lib.decodeL_drop s pos
      rw [hdd] at hst
      generalize Utf8.decode s pos = q at hst hnx
      obtain ⟨qr, qn⟩ := q
      simp only at hst hnx
      obtain ⟨hs0, hs1, hn1, hn2, hq⟩ := hst
      by_cases hr0 : qr = 43 ∨ qr = 35
      · rw [hs0 hr0, Bool.not_true, Bool.false_and] at hc
        subst hc
        clear hs1 hs0 hne
        rcases hr0 with rfl | rfl
        all_goals
          go_wp2_with fail
          go_ret
          exact ⟨rfl, (Below.refl _ _).alloc (Nat.le_refl _) (.stringIter s (pos + qn))⟩
      · rw [hs1 (by omega)] at hc
        have hr0b : ((qr : Int) == 43) = false := by simp; omega
        have hr1b : ((qr : Int) == 35) = false := by simp; omega
        clear hs0 hs1 hne
        go_wp2_with fail
        go_roundw
        case rel => exact ⟨pos + qn, rfl, by omega, hc⟩
        case measure => simp; omega
    · have hnx : ∀ ty, (Instr.next (.pointer (some ⟨w.heap.size, 0, none⟩)) true ty).run Tryz.prog (w.iter s pos) = _ := fun ty => run_next_end w s pos ty hp
      have : pos = s.size := by omega
      subst this
      rw [List.drop_of_length_le (by rw [sB_len]; omega)] at hc
      have hc2 : (!(sB s).isEmpty) = r := by rw [← hc]; rfl
      go_wp2_with fail
      go_ret
      exact ⟨ret_bool (by rw [← hc2, ← hne]), (Below.refl _ _).alloc (Nat.le_refl _) (.stringIter s s.size)⟩

def leftOf2 (s : ByteArray) : Value → Nat
  | .int _ k => ((s.size : Int) - k).toNat
  | _ => 0

set_option maxRecDepth 100000 in
set_option maxHeartbeats 1000000 in
theorem refNamed_c (s : ByteArray) (w : World) (hs : s.size ≤ 9223372036854775000) : Calls Tryz.prog 137 #[.string s] w fun e w' => e = .returned (.bool (pName (sB s))) ∧ Below w.heap.size w w' := by
  obtain ⟨r, hr⟩ : ∃ r, pName (sB s) = r := ⟨_, rfl⟩
  rw [hr]
  unfold pName at hr
  have hne := neq_empty s
  go_enter Tryz.func137, Tryz.ntmps137
  go_wp2_with fail
  go_loopw [3] (fun n w' => ∃ k : Nat, n = .int .i64 k ∧ k ≤ s.size ∧ Below w.heap.size w w' ∧ (!signIn ((sB s).drop k) && !(sB s).isEmpty) = r) (fun n _ => leftOf2 s n)
  case atStart => exact ⟨0, rfl, by omega, by go_grown, by simpa using hr⟩
  case round =>
    obtain ⟨k, rfl, hk, hb, hc⟩ := hrel
    by_cases hks : k < s.size
    · have hx : ∀ W : World, (Instr.index 9 (.string s) (.int .i64 (k : Int))).run Tryz.prog W = .ok (.int .u8 (bN (sB s) k)) W := fun W => run_at s k k rfl hks W
      have hlen : 0 < ((sB s).drop k).length := by rw [List.length_drop, sB_len]; omega
      have h0 : bN ((sB s).drop k) 0 = bN (sB s) k := by rw [bN_drop, Nat.add_zero]
      have hb0 := bN_lt (sB s) k
      have hit : (bN (sB s) k = 43 ∨ bN (sB s) k = 35) → signIn ((sB s).drop k) = true := fun h => signIn_hit hlen (by rw [h0]; exact h)
      have miss : (bN (sB s) k ≠ 43 ∧ bN (sB s) k ≠ 35) → signIn ((sB s).drop k) = signIn ((sB s).drop (k + 1)) := fun h => by
        have := signIn_drop 1 ((sB s).drop k) (by omega) (fun j hj => by
          match j, hj with
          | 0, _ => rw [h0]; exact h)
        rw [List.drop_drop] at this
        exact this
      generalize bN (sB s) k = x at *
      by_cases hr0 : x = 43 ∨ x = 35
      · rw [hit hr0, Bool.not_true, Bool.false_and] at hc
        subst hc
        clear hit miss hne h0 hlen
        rcases hr0 with rfl | rfl
        all_goals
          go_wp2_with fail
          go_ret
          exact ⟨rfl, by go_grown⟩
      · rw [miss (by omega)] at hc
        have hr0b : ((x : Int) == 43) = false := by simp; omega
        have hr1b : ((x : Int) == 35) = false := by simp; omega
        clear hit miss hne h0 hlen
        go_wp2_with fail
        go_roundw
        case rel => exact ⟨k + 1, by congr 1, by omega, by go_grown, hc⟩
        case measure => simp [leftOf2]; omega
    · have : k = s.size := by omega
      subst this
      rw [List.drop_of_length_le (by rw [sB_len]; omega)] at hc
      have hc2 : (!(sB s).isEmpty) = r := by rw [← hc]; rfl
      go_wp2_with fail
      go_ret
      exact ⟨ret_bool (by rw [← hc2, ← hne]), by go_grown⟩

set_option maxRecDepth 100000 in
set_option maxHeartbeats 1000000 in
theorem PutId_c (id : Int) (w : World) : Calls Tryz.prog 145 #[.int .i64 id] w (GivesB w (pIdB id) (pIdE id)) := by
  unfold pIdB pIdE
  by_cases h : 1 ≤ id ∧ id ≤ 65535
  · rw [if_pos h, if_pos h]
    go_enter Tryz.func145, Tryz.ntmps145
    go_wp2_with fail
    refine (numbered_c id _).mono ?_
    rw [decide_eq_true h.1, decide_eq_true h.2]
    rintro e w' ⟨rfl, rfl⟩
    go_wp2_with fail
    refine (Put2_c id _).mono ?_
    have hE : uPut2E id = 0 := by unfold uPut2E; rw [if_neg (by omega)]
    rw [hE]
    rintro e w2 ⟨v, rfl, ho, hb⟩
    go_wp2_with fail
    go_ret2
    exact ⟨_, rfl, ho, hb⟩
  · rw [if_neg h, if_neg h]
    have hf : (decide (1 ≤ id) && decide (id ≤ 65535)) = false := by simpa using h
    go_enter Tryz.func145, Tryz.ntmps145
    go_wp2_with fail
    refine (numbered_c id _).mono ?_
    rw [hf]
    rintro e w' ⟨rfl, rfl⟩
    go_wp2_with fail
    go_ret2
    exact GivesB.nil (by go_grown)

set_option maxRecDepth 100000 in
set_option maxHeartbeats 1000000 in
theorem number1_c (id : Int) (w : World) : Calls Tryz.prog 196 #[.int .i64 id] w (GivesB w [] (if id ≠ 0 then 1 else 0)) := by
  by_cases h : id = 0
  · subst h
    rw [if_neg (by decide)]
    go_enter Tryz.func196, Tryz.ntmps196
    go_wp2_with fail
    go_ret2
    exact GivesB.nil (by go_grown)
  · rw [if_pos h]
    have hb : (id != 0) = true := by simpa using h
    go_enter Tryz.func196, Tryz.ntmps196
    go_wp2_with fail
    go_ret2
    exact GivesB.nil (by go_grown)

set_option maxRecDepth 100000 in
set_option maxHeartbeats 1000000 in
theorem number_c (q : Int) (w : World) : Calls Tryz.prog 171 #[.int .i64 q] w fun e w' => e = .returned (if 0 < q then .func (.func 145) #[] #[] else .func (.func 196) #[] #[]) ∧ w = w' := by
  by_cases h : 0 < q
  · rw [if_pos h]
    go_enter Tryz.func171, Tryz.ntmps171
    go_wp2_with fail
    go_ret
    exact ⟨rfl, rfl⟩
  · rw [if_neg h]
    go_enter Tryz.func171, Tryz.ntmps171
    go_wp2_with fail
    go_ret
    exact ⟨rfl, rfl⟩

end Go.Proofs.YtclicjokgfiegaaGreatDoor

/- Messages: what lays one: the walks. -/
namespace Go.Proofs.YtclicjokgfiegaaGreatDoor
open Go.RowKit
set_option linter.unusedVariables false

theorem uPutB_len {l : List UInt8} : (uPutB l).length ≤ 65537 := by
  unfold uPutB
  split
  · rename_i h
    have := uRight_len h
    rw [uPutRawB_len this]
    omega
  · simp
theorem pNumB_len (q id : Int) : (pNumB q id).length ≤ 2 := by
  unfold pNumB pIdB uPut2B
  repeat' split
  all_goals simp

theorem _root_.Go.RowKit.Below.box {w w0 : World} {o : Obj} (h : Below w.heap.size w w0) : Below w.heap.size w (w0.alloc o) := h.alloc h.size o

theorem pPut_nil {T X : List UInt8} {q id : Int} {w w' : World} (e : Int) (he : pPutE T X q id = e) (h0 : e ≠ 0) (hb : Below w.heap.size w w') :
    GivesB w (pPutB T X q id) (pPutE T X q id) (.returned (.tuple #[.slice none 0 0, .int .i64 e])) w' := by
  unfold pPutB
  rw [he, if_neg h0]
  exact GivesB.nil hb

theorem lay1_c {q : Int} (h : 0 < q) (id : Int) (W : World) : Calls Tryz.prog 145 #[.int .i64 id] W (GivesB W (pNumB q id) (pNumE q id)) := by
  unfold pNumB pNumE
  rw [if_pos h, if_pos h]
  exact PutId_c id W
theorem lay0_c {q : Int} (h : ¬ 0 < q) (id : Int) (W : World) : Calls Tryz.prog 196 #[.int .i64 id] W (GivesB W (pNumB q id) (pNumE q id)) := by
  unfold pNumB pNumE
  rw [if_neg h, if_neg h]
  exact number1_c id W

set_option maxRecDepth 100000 in
set_option maxHeartbeats 1000000 in
theorem pubPut_c (T X : ByteArray) (q : Int) (R : Bool) (id : Int) (w : World) (hE : EnvU w) (hT : T.size ≤ 140737488351232) (hX : X.size ≤ 140737488351232) :
    Calls Tryz.prog 144 #[.agg #[.string T, .string X, .int .i64 q, .bool R], .int .i64 id] w (GivesB w (pPutB (sB T) (sB X) q id) (pPutE (sB T) (sB X) q id)) := by
  have HE := hd hE; clear hE
  go_enter Tryz.func144, Tryz.ntmps144
  go_wp2_with fail
  refine (leveled_c q _).mono ?_
  by_cases hq : q < 0 ∨ 2 < q
  · rw [show (decide (0 ≤ q) && decide (q ≤ 2)) = false from by simp; omega]
    rintro e w' ⟨rfl, rfl⟩
    go_wp2_with fail
    go_ret2
    exact pPut_nil 10 (by rw [pPutE, if_pos hq]) (by decide) (by go_grown)
  rw [show (decide (0 ≤ q) && decide (q ≤ 2)) = true from by simp; omega]
  rintro e w' ⟨rfl, rfl⟩
  go_wp2_with fail
  refine (named_c T _ (by omega)).mono ?_
  by_cases hn : pName (sB T) = false
  · rw [hn]
    rintro e w1 ⟨rfl, hb1⟩
    go_wp2_with fail
    go_ret2
    exact pPut_nil 13 (by rw [pPutE, if_neg hq, if_pos hn]) (by decide) (Below.up (by go_grown) hb1)
  rw [show pName (sB T) = true from by simpa using hn]
  rintro e w1 ⟨rfl, hb1⟩
  have hc1 := bcell hb1
  have hl1 : w.heap.size < w1.heap.size := by have := hb1.size; simp at this; omega
  have hb : Below w.heap.size w w1 := Below.up (by go_grown) hb1
  go_wp2_with fail
  refine (Put_c T _ (HE.out.below hb) (by omega)).mono ?_
  rintro e w2 ⟨v2, rfl, ho2, hb2⟩
  have hc2 := bcell hb2
  have hz2 := hb2.size
  have hl2 : w.heap.size < w2.heap.size := by omega
  replace hb := Below.up hb hb2
  obtain ⟨a2, k2, rfl⟩ := Owns.slice ho2
  by_cases he : uPutE (sB T) = 0
  rotate_left
  · have heb : (uPutE (sB T) != 0) = true := by simpa using he
    go_wp2_with fail
    go_ret2
    exact pPut_nil _ (by rw [pPutE, if_neg hq, if_neg hn, if_pos he]) he hb
  rw [he]
  go_wp2_with fail
  refine (number_c q _).mono ?_
  have hB2 := @uPutB_len (sB T)
  have hB3 := pNumB_len q id
  by_cases h : 0 < q
  all_goals first
    | (rw [if_pos h]; rintro e w' ⟨rfl, rfl⟩; go_wp2_with fail; refine (lay1_c (q := q) (by omega) id _).mono ?_)
    | (rw [if_neg h]; rintro e w' ⟨rfl, rfl⟩; go_wp2_with fail; refine (lay0_c (q := q) (by omega) id _).mono ?_)
  all_goals
    rintro e w3 ⟨v3, rfl, ho3, hb3⟩
    have hc3 := bcell hb3
    have hz3 := hb3.size
    have hl3 : w.heap.size < w3.heap.size := by omega
    obtain ⟨a3, k3, rfl⟩ := Owns.slice ho3
    by_cases hnE : pNumE q id = 0
    rotate_left
    · have heb : (pNumE q id != 0) = true := by simpa using hnE
      go_wp2_with fail
      go_ret2
      exact pPut_nil _ (by rw [pPutE, if_neg hq, if_neg hn, if_neg (by omega), if_pos hnE]) hnE (Below.up hb hb3)
    rw [hnE]
    have ho2' := Owned.kept ho2 hb3 (Nat.le_refl _)
    have hs3 := ho3.bs
    replace hb := Below.up hb hb3
    clear h ho3 hb3
    by_cases hlen : (4096 : Int) - ((uPutB (sB T)).length + (pNumB q id).length) < X.size
    · have hspec : pPutE (sB T) (sB X) q id = 3 := by rw [pPutE, if_neg hq, if_neg hn, if_neg (by omega), if_neg (by omega), sB_len, if_pos hlen]
      have Hs := hd hspec; clear hspec
      generalize uPutB (sB T) = B2 at *
      generalize pNumB q id = B3 at *
      go_wp2_with (at_builtin; refine wp_appB rfl _ _ rfl w1.heap.size _ B2 rfl ho2' _ B3 rfl hs3 (by omega) (by omega) ?_; intro v4 w4 ho4 hb4; obtain ⟨a4, k4, rfl⟩ := Owns.slice ho4; rw [List.length_append] at ho4; have hc4 := bcell hb4; have hz4 := hb4.size; have hl4 : w.heap.size < w4.heap.size := (by omega))
      go_ret2
      exact pPut_nil 3 Hs.out (by decide) (hb.trans (hb4.mono (by omega)))
    have hspec : pPutE (sB T) (sB X) q id = 0 := by rw [pPutE, if_neg hq, if_neg hn, if_neg (by omega), if_neg (by omega), sB_len, if_neg hlen]
    have hspecB : pPutB (sB T) (sB X) q id = uPutB (sB T) ++ pNumB q id ++ sB X := by rw [pPutB, if_pos hspec]
    have Hs := hd hspec; have HsB := hd hspecB; clear hspec hspecB
    generalize uPutB (sB T) = B2 at *
    generalize pNumB q id = B3 at *
    go_wp2_with (first
      | (at_builtin; refine wp_appB rfl _ _ rfl w1.heap.size _ B2 rfl ho2' _ B3 rfl hs3 (by omega) (by omega) ?_; intro v4 w4 ho4 hb4; obtain ⟨a4, k4, rfl⟩ := Owns.slice ho4; rw [List.length_append] at ho4; have hc4 := bcell hb4; have hz4 := hb4.size; have hl4 : w.heap.size < w4.heap.size := (by omega); clear ho2')
      | (at_builtin; refine wp_appS rfl _ _ rfl w1.heap.size _ (B2 ++ B3) rfl ho4 X rfl (by rw [List.length_append]; omega) (by omega) ?_; intro v5 w5 ho5 hb5))
    go_ret2
    rw [Hs.out, HsB.out]
    exact ⟨_, rfl, Owned.le ho5 (Nat.le_of_lt hl1), hb.trans ((hb4.trans hb5).mono (Nat.le_of_lt hl1))⟩
end Go.Proofs.YtclicjokgfiegaaGreatDoor

/- Messages: plain laws: what bytes tell, there and back. No program. -/
namespace Go.Proofs.YtclicjokgfiegaaGreatDoor
open Go.RowKit
set_option linter.unusedVariables false

/-- what bytes tell: topic, text, number, error -/
def pOf (l : List UInt8) (q : Int) : List UInt8 × List UInt8 × Int × Int :=
  if q < 0 ∨ 2 < q then ([], [], 0, 10)
  else if (uGet l 0).2.2 ≠ 0 then ([], [], 0, (uGet l 0).2.2)
  else if pName (uGet l 0).1 = false then ([], [], 0, 13)
  else if q = 0 then ((uGet l 0).1, l.drop (uGet l 0).2.1.toNat, 0, 0)
  else if (uGet2 l (uGet l 0).2.1).2.2 ≠ 0 then ([], [], 0, (uGet2 l (uGet l 0).2.1).2.2)
  else if (uGet2 l (uGet l 0).2.1).1 = 0 then ([], [], 0, 1)
  else ((uGet l 0).1, l.drop (uGet2 l (uGet l 0).2.1).2.1.toNat, (uGet2 l (uGet l 0).2.1).1, 0)
/-- the QoS that is told -/
def pOfQ (l : List UInt8) (q : Int) : Int := if (pOf l q).2.2.2 = 0 then q else 0

/-- a number of bytes -/
def pOfId (l : List UInt8) : Int × Int :=
  if l.length ≠ 2 then (0, 4) else if (uGet2 l 0).1 = 0 then (0, 1) else ((uGet2 l 0).1, 0)

theorem uGet2_two {l : List UInt8} (h : l.length = 2) : (uGet2 l 0).2.2 = 0 ∧ 0 ≤ (uGet2 l 0).1 ∧ (uGet2 l 0).1 ≤ 65535 := by
  have h0 : (uGet2 l 0).2.2 = 0 := by unfold uGet2; rw [if_neg (by omega), if_neg (by omega)]
  exact ⟨h0, (uGet2_ok h0).2.2.2.1, (uGet2_ok h0).2.2.2.2⟩

theorem uGet_rng {l : List UInt8} {k : Int} (h : (uGet l k).2.2 = 0) : k + 2 ≤ (uGet l k).2.1 ∧ (uGet l k).2.1 ≤ l.length ∧ 0 ≤ k := by
  unfold uGet at h ⊢
  by_cases h1 : (uGetRaw l k).2.2 = 0
  · rw [if_neg (by omega)] at h ⊢
    by_cases h2 : uRight (uGetRaw l k).1 = false
    · rw [if_pos h2] at h; simp at h
    · rw [if_neg h2]
      unfold uGetRaw at h1 ⊢
      by_cases h3 : (uGet2 l k).2.2 = 0
      · rw [if_neg (by omega)] at h1 ⊢
        have := uGet2_ok h3
        by_cases h4 : (l.length : Int) - (uGet2 l k).2.1 < (uGet2 l k).1
        · rw [if_pos h4] at h1; simp at h1
        · rw [if_neg h4]; simp only; omega
      · rw [if_pos (by omega)] at h1; simp only at h1; omega
  · rw [if_pos (by omega)] at h; simp only at h; omega

theorem uPutE_zero {T : List UInt8} (h : uPutE T = 0) : uRight T = true := by
  unfold uPutE at h
  split at h
  · simp at h
  · split at h
    · assumption
    · simp at h

theorem pPut_back {T X : List UInt8} {q id : Int} (h : pPutE T X q id = 0) : pOf (pPutB T X q id) q = (T, X, id, 0) := by
  have hB : pPutB T X q id = uPutB T ++ pNumB q id ++ X := by rw [pPutB, if_pos h]
  rw [hB]
  unfold pPutE at h
  by_cases c1 : q < 0 ∨ 2 < q
  · rw [if_pos c1] at h; simp at h
  rw [if_neg c1] at h
  by_cases c2 : pName T = false
  · rw [if_pos c2] at h; simp at h
  rw [if_neg c2] at h
  by_cases c3 : uPutE T = 0
  rotate_left
  · rw [if_pos c3] at h; exact absurd h c3
  rw [if_neg (by omega)] at h
  by_cases c4 : pNumE q id = 0
  rotate_left
  · rw [if_pos c4] at h; exact absurd h c4
  have hr := uPutE_zero c3
  have hl := uRight_len hr
  have hg : uGet (uPutB T ++ pNumB q id ++ X) 0 = (T, (2 : Int) + T.length, (0 : Int)) := by
    have := uGet_at [] T (pNumB q id ++ X) hl
    rw [if_pos hr] at this
    rw [uPutB, if_pos hr, List.append_assoc]
    simpa using this
  have hlen : (uPutB T).length = T.length + 2 := by rw [uPutB, if_pos hr, uPutRawB_len hl]
  unfold pOf
  rw [if_neg c1, hg, if_neg (by simp), if_neg c2]
  simp only
  by_cases c5 : q = 0
  · rw [if_pos c5]
    unfold pNumE at c4
    rw [if_neg (by omega)] at c4
    have hid : id = 0 := by
      by_cases c : id = 0
      · exact c
      · rw [if_pos c] at c4; simp at c4
    have hn : pNumB q id = [] := by rw [pNumB, if_neg (by omega)]
    rw [hn, List.append_nil, hid]
    have e : ((2 : Int) + T.length).toNat = (uPutB T).length := by rw [hlen]; omega
    rw [e, List.drop_left]
  · rw [if_neg c5]
    unfold pNumE at c4
    rw [if_pos (by omega)] at c4
    unfold pIdE at c4
    have hid : 1 ≤ id ∧ id ≤ 65535 := by
      by_cases c : 1 ≤ id ∧ id ≤ 65535
      · exact c
      · rw [if_neg c] at c4; simp at c4
    have hn : pNumB q id = [B8 (id.toNat / 256), B8 (id.toNat % 256)] := by
      have e0 : ((id.toNat : Nat) : Int) = id := by omega
      have := uPut2B_ok (n := id.toNat) (by omega)
      rw [e0] at this
      rw [pNumB, if_pos (by omega), pIdB, if_pos hid, this]
    have hg2 : uGet2 (uPutB T ++ pNumB q id ++ X) (2 + T.length) = (id, (2 : Int) + T.length + 2, (0 : Int)) := by
      have := uGet2_at (uPutB T) X id.toNat (by omega)
      rw [hn, List.append_assoc]
      have e : ((2 : Int) + T.length) = ((uPutB T).length : Int) := by rw [hlen]; omega
      rw [e]
      rw [List.cons_append, List.cons_append, List.nil_append, this]
      congr 1
      omega
    rw [hg2, if_neg (by simp), if_neg (by simp only; omega)]
    have e : ((2 : Int) + T.length + 2).toNat = (uPutB T ++ pNumB q id).length := by rw [List.length_append, hlen, hn]; simp; omega
    simp only
    rw [e, List.drop_left]

theorem pId_back {id : Int} (h : pIdE id = 0) : pOfId (pIdB id) = (id, 0) := by
  unfold pIdE at h
  have hid : 1 ≤ id ∧ id ≤ 65535 := by
    by_cases c : 1 ≤ id ∧ id ≤ 65535
    · exact c
    · rw [if_neg c] at h; simp at h
  have e0 : ((id.toNat : Nat) : Int) = id := by omega
  have hn : pIdB id = [B8 (id.toNat / 256), B8 (id.toNat % 256)] := by
    have := uPut2B_ok (n := id.toNat) (by omega)
    rw [e0] at this
    rw [pIdB, if_pos hid, this]
  have hg := uGet2_at [] [] id.toNat (by omega)
  rw [List.nil_append] at hg
  unfold pOfId
  rw [hn, if_neg (by simp), show uGet2 [B8 (id.toNat / 256), B8 (id.toNat % 256)] 0 = _ from hg]
  rw [if_neg (by simp only; omega)]
  simp only [e0]
theorem pId_not {id : Int} (h : pIdE id ≠ 0) : pIdE id = 1 ∧ pOfId (pIdB id) = (0, 4) := by
  unfold pIdE at h ⊢
  by_cases c : 1 ≤ id ∧ id ≤ 65535
  · rw [if_pos c] at h; simp at h
  · rw [if_neg c, pIdB, if_neg c]
    exact ⟨rfl, by rw [pOfId, if_pos (by simp)]⟩
end Go.Proofs.YtclicjokgfiegaaGreatDoor
