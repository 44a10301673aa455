/- Spots and topics: plain facts. -/
import Derived.Test.YtopopdghmfbciaaDoorLevFilter
import Derived.Test.YtopopdghmfbciaaDoorLevJoin
import Derived.Lib.IndexLaws
namespace Go.Proofs.YtopopdghmfbciaaDoor
open Go.RowKit
set_option linter.unusedVariables false
set_option linter.unusedSimpArgs false

structure SpS where
  k : Int
  g : List UInt8
  n : List UInt8
  d : List UInt8
deriving DecidableEq
def SpS.zero : SpS := ⟨0, [], [], []⟩
def spV (s : SpS) : Value := .agg #[.int .i64 s.k, .string (sOf s.g), .string (sOf s.n), .string (sOf s.d)]

def wordT : List (List UInt8) := [[], [78, 66, 73, 82, 84, 72], [78, 68, 69, 65, 84, 72], [78, 68, 65, 84, 65], [78, 67, 77, 68], [68, 66, 73, 82, 84, 72], [68, 68, 69, 65, 84, 72], [68, 68, 65, 84, 65], [68, 67, 77, 68], [83, 84, 65, 84, 69]]
def sWord (k : Int) : List UInt8 := if 0 ≤ k ∧ k ≤ 9 then wordT.getD k.toNat [] else []
def kFrom (s : List UInt8) : Nat → Nat → Nat
  | 0, _ => 0
  | f + 1, i => if wordT.getD i [] = s then i else kFrom s f (i + 1)
def sKind (s : List UInt8) : Int := (kFrom s 9 1 : Nat)
def sPart (s : List UInt8) : Bool := lName s && decide ((lSplit s).length = 1)
def sWidth (k : Int) : Int := if k = 9 then 3 else if 5 ≤ k then 5 else 4
def rootT : List UInt8 := [115, 112, 66, 118, 49, 46, 48]
def sTop (s : SpS) : List (List UInt8) :=
  if s.k = 9 then [rootT, [83, 84, 65, 84, 69], s.n] else if 5 ≤ s.k then [rootT, s.g, sWord s.k, s.n, s.d] else [rootT, s.g, sWord s.k, s.n]
def sFree (s : SpS) : List (List UInt8) :=
  if s.k = 9 then [s.n] else if 5 ≤ s.k then [s.g, s.n, s.d] else [s.g, s.n]
def sBadForm (s : SpS) : Bool := (decide (sWidth s.k < 5) && !s.d.isEmpty) || (decide (s.k = 9) && !s.g.isEmpty)
def sPut (s : SpS) : List UInt8 × Int :=
  if s.k < 1 ∨ 9 < s.k then ([], 11) else if sBadForm s then ([], 4) else if (sFree s).all sPart then (if lName (lJoin (sTop s)) then (lJoin (sTop s), 0) else ([], 13)) else ([], 13)
def sGuess : List (List UInt8) → SpS
  | [_, _, c] => ⟨9, [], c, []⟩
  | [_, b, c, d] => ⟨sKind c, b, d, []⟩
  | [_, b, c, d, e] => ⟨sKind c, b, d, e⟩
  | _ => .zero
def sTell (t : List UInt8) : SpS := if (sPut (sGuess (lSplit t))).2 ≠ 0 ∨ (sPut (sGuess (lSplit t))).1 ≠ t then .zero else sGuess (lSplit t)
def sBirths (s : SpS) : List UInt8 × List UInt8 :=
  if (sPut s).2 ≠ 0 ∨ s.k = 9 then ([], []) else
  if (sPut ⟨1, s.g, s.n, []⟩).2 ≠ 0 then ([], []) else
  if s.d = [] then ((sPut ⟨1, s.g, s.n, []⟩).1, []) else
  if (sPut ⟨5, s.g, s.n, s.d⟩).2 ≠ 0 then ([], []) else ((sPut ⟨1, s.g, s.n, []⟩).1, (sPut ⟨5, s.g, s.n, s.d⟩).1)

theorem has47 (l : List UInt8) : decide (0 ≤ Lib.indexByte l 47) = decide ((47 : UInt8) ∈ l) := by
  rw [Bool.eq_iff_iff, decide_eq_true_iff, decide_eq_true_iff]
  constructor
  · intro h
    obtain ⟨o, ho⟩ := Int.eq_ofNat_of_zero_le h
    exact List.mem_of_getElem? (Lib.indexByte_some ho).1
  · intro h
    by_cases h0 : 0 ≤ Lib.indexByte l 47
    · exact h0
    · have h1 := Lib.indexByte_ge l 47
      obtain ⟨k, hk⟩ := List.getElem?_of_mem h
      exact absurd hk (Lib.indexByte_none (by omega) k)
theorem sPart_eq (s : List UInt8) : sPart s = (lName s && !decide ((47 : UInt8) ∈ s)) := by
  unfold sPart
  rw [lSplit_len]
  congr 1
  rw [Bool.eq_iff_iff, decide_eq_true_iff, Bool.not_eq_true', decide_eq_false_iff_not]
  constructor
  · intro h hm
    have := List.count_pos_iff.2 hm
    omega
  · intro h
    rw [List.count_eq_zero_of_not_mem h]
theorem split_one {x : List UInt8} (h : (47 : UInt8) ∉ x) : lSplit x = [x] := lSplit_none x fun j hj e => h (by
  have := (b8_of_bN hj (c := 47)).1 e
  rw [← this]; exact List.getElem_mem hj)
theorem split_app47 : ∀ a b : List UInt8, (47 : UInt8) ∉ a → lSplit (a ++ 47 :: b) = a :: lSplit b := fun a b h => by
  have := lSplit_hit a.length (a ++ 47 :: b) (by simp) (fun j hj e => h (by
    have hj2 : j < (a ++ 47 :: b).length := by simp; omega
    have h2 := (b8_of_bN hj2 (c := 47)).1 e
    rw [List.getElem_append_left hj] at h2
    rw [← h2]; exact List.getElem_mem hj)) (by
      have hj2 : a.length < (a ++ 47 :: b).length := by simp
      exact (b8_of_bN hj2 (c := 47)).2 (by simp))
  rw [this]
  simp
theorem split_join : ∀ (p : List (List UInt8)), p ≠ [] → (∀ x ∈ p, (47 : UInt8) ∉ x) → lSplit (lJoin p) = p
  | [], h, _ => absurd rfl h
  | [x], _, h => by rw [lJoin_one]; exact split_one (h x (by simp))
  | x :: y :: r, _, h => by
    rw [lJoin_cons2, split_app47 _ _ (h x (by simp)), split_join (y :: r) (by simp) (fun z hz => h z (by simp [hz]))]
theorem sPart_47 {s : List UInt8} (h : sPart s = true) : (47 : UInt8) ∉ s := by
  rw [sPart_eq, Bool.and_eq_true] at h
  have h2 := h.2
  rwa [Bool.not_eq_true', decide_eq_false_iff_not] at h2
theorem word_47 (k : Int) : (47 : UInt8) ∉ sWord k := by
  unfold sWord
  split
  · rename_i h
    obtain ⟨n, rfl⟩ := Int.eq_ofNat_of_zero_le h.1
    have hn : n ≤ 9 := by omega
    rw [Int.toNat_natCast]
    match n, hn with
    | 0, _ => decide
    | 1, _ => decide
    | 2, _ => decide
    | 3, _ => decide
    | 4, _ => decide
    | 5, _ => decide
    | 6, _ => decide
    | 7, _ => decide
    | 8, _ => decide
    | 9, _ => decide
  · simp
theorem kind_word {k : Int} (h1 : 1 ≤ k) (h9 : k ≤ 9) : sKind (sWord k) = k := by
  obtain ⟨n, rfl⟩ := Int.eq_ofNat_of_zero_le (show 0 ≤ k by omega)
  have hn : n ≤ 9 := by omega
  match n, hn with
  | 0, _ => omega
  | 1, _ => decide
  | 2, _ => decide
  | 3, _ => decide
  | 4, _ => decide
  | 5, _ => decide
  | 6, _ => decide
  | 7, _ => decide
  | 8, _ => decide
  | 9, _ => decide
theorem kFrom_le (s : List UInt8) : ∀ f i, kFrom s f i = 0 ∨ (kFrom s f i < i + f ∧ i ≤ kFrom s f i ∧ wordT.getD (kFrom s f i) [] = s)
  | 0, _ => .inl rfl
  | f + 1, i => by
    rw [kFrom]
    by_cases h : wordT.getD i [] = s
    · rw [if_pos h]; exact .inr ⟨by omega, by omega, h⟩
    · rw [if_neg h]
      rcases kFrom_le s f (i + 1) with h2 | ⟨h2, h3, h4⟩
      · exact .inl h2
      · exact .inr ⟨by omega, by omega, h4⟩
theorem kind_range (s : List UInt8) : sKind s = 0 ∨ (1 ≤ sKind s ∧ sKind s ≤ 9 ∧ sWord (sKind s) = s) := by
  unfold sKind
  rcases kFrom_le s 9 1 with h | ⟨h2, h3, h4⟩
  · exact .inl (by omega)
  · refine .inr ⟨by omega, by omega, ?_⟩
    unfold sWord
    rw [if_pos (by omega), Int.toNat_natCast]
    exact h4

theorem put_ok {s : SpS} (h : (sPut s).2 = 0) : (1 ≤ s.k ∧ s.k ≤ 9) ∧ sBadForm s = false ∧ (sFree s).all sPart = true ∧ lName (lJoin (sTop s)) = true ∧ (sPut s).1 = lJoin (sTop s) := by
  unfold sPut at h ⊢
  split at h
  · simp at h
  rename_i h1
  split at h
  · simp at h
  rename_i h2
  split at h
  · rename_i h3
    split at h
    · rename_i h4
      rw [if_neg h1, if_neg h2, if_pos h3, if_pos h4]
      exact ⟨by omega, by simpa using h2, h3, h4, rfl⟩
    · simp at h
  · simp at h
theorem put_bad {s : SpS} (h : (sPut s).2 ≠ 0) : (sPut s).1 = [] := by
  unfold sPut at h ⊢
  split
  · rfl
  rename_i h1
  rw [if_neg h1] at h
  split
  · rfl
  rename_i h2
  rw [if_neg h2] at h
  split
  · rename_i h3
    rw [if_pos h3] at h
    split
    · rename_i h4
      rw [if_pos h4] at h
      exact absurd rfl h
    · rfl
  · rfl
theorem top_47 {s : SpS} (h : (sFree s).all sPart = true) : ∀ x ∈ sTop s, (47 : UInt8) ∉ x := by
  have hw := word_47 s.k
  unfold sFree at h
  unfold sTop
  have hr : (47 : UInt8) ∉ rootT := by decide
  have hst : (47 : UInt8) ∉ ([83, 84, 65, 84, 69] : List UInt8) := by decide
  split at h
  · rename_i h9
    rw [if_pos h9]
    have hn : sPart s.n = true := by simpa using h
    intro x hx
    simp only [List.mem_cons, List.not_mem_nil, or_false] at hx
    rcases hx with rfl | rfl | rfl
    · exact hr
    · exact hst
    · exact sPart_47 hn
  · rename_i h9
    rw [if_neg h9]
    split at h
    · rename_i h5
      rw [if_pos h5]
      simp only [List.all_cons, List.all_nil, Bool.and_true, Bool.and_eq_true] at h
      intro x hx
      simp only [List.mem_cons, List.not_mem_nil, or_false] at hx
      rcases hx with rfl | rfl | rfl | rfl | rfl
      · exact hr
      · exact sPart_47 h.1
      · exact hw
      · exact sPart_47 h.2.1
      · exact sPart_47 h.2.2
    · rename_i h5
      rw [if_neg h5]
      simp only [List.all_cons, List.all_nil, Bool.and_true, Bool.and_eq_true] at h
      intro x hx
      simp only [List.mem_cons, List.not_mem_nil, or_false] at hx
      rcases hx with rfl | rfl | rfl | rfl
      · exact hr
      · exact sPart_47 h.1
      · exact hw
      · exact sPart_47 h.2
theorem guess_top {s : SpS} (hk : 1 ≤ s.k ∧ s.k ≤ 9) (hb : sBadForm s = false) : sGuess (sTop s) = s := by
  obtain ⟨k, g, n, d⟩ := s
  unfold sBadForm sWidth at hb
  unfold sTop
  simp only at hk hb ⊢
  by_cases h9 : k = 9
  · subst h9
    simp at hb
    obtain ⟨rfl, rfl⟩ := hb
    rfl
  · rw [if_neg h9] at hb ⊢
    by_cases h5 : 5 ≤ k
    · rw [if_pos h5]
      simp only [sGuess, kind_word hk.1 hk.2]
    · rw [if_neg h5] at hb ⊢
      simp [h9] at hb
      subst hb
      simp only [sGuess, kind_word hk.1 hk.2]
/-- A spot's topic tells the spot. -/
theorem tell_put {s : SpS} (h : (sPut s).2 = 0) : sTell (sPut s).1 = s ∧ lName (sPut s).1 = true := by
  obtain ⟨hk, hb, hp, hn, ht⟩ := put_ok h
  refine ⟨?_, by rw [ht]; exact hn⟩
  have hg : sGuess (lSplit (sPut s).1) = s := by
    rw [ht, split_join _ (by unfold sTop; split; simp; split <;> simp) (top_47 hp), guess_top hk hb]
  unfold sTell
  rw [hg, if_neg (by simp [h])]
theorem name_ne {t : List UInt8} (h : lName t = true) : t ≠ [] := by
  intro e; subst e; exact absurd h (by decide)
theorem tell_cases (t : List UInt8) : sTell t = .zero ∨ ((sPut (sTell t)).2 = 0 ∧ (sPut (sTell t)).1 = t ∧ 1 ≤ (sTell t).k) := by
  unfold sTell
  split
  · exact .inl rfl
  · rename_i h
    have h2 : (sPut (sGuess (lSplit t))).2 = 0 ∧ (sPut (sGuess (lSplit t))).1 = t := by
      refine ⟨?_, ?_⟩
      · exact Classical.byContradiction fun e => h (.inl e)
      · exact Classical.byContradiction fun e => h (.inr e)
    exact .inr ⟨h2.1, h2.2, (put_ok h2.1).1.1⟩
theorem zero_put : (sPut .zero).2 ≠ 0 := by decide +kernel
end Go.Proofs.YtopopdghmfbciaaDoor
