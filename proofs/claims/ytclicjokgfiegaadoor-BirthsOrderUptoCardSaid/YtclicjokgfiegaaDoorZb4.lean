/- A bundle of texts (merged for the limit on files): LevLimits, ShelfJ, LevJoin, SpPlain, RegionT, Sp, Mat. -/
import Derived.Test.YtclicjokgfiegaaDoorZb3
import Derived.Shelf.Strings.OnBuilder
import Derived.Test.YtclicjokgfiegaaDoorProg
import Derived.Lib.Join
import Derived.Lib.IndexLaws
import Derived.Laws.EntriesVeiled
import Derived.BigQuiet
/- Levels of texts: awake; so long, so deep: plain facts and the walks. -/
namespace Go.Proofs.YtclicjokgfiegaaDoor
open Go.RowKit
set_option linter.unusedVariables false
set_option linter.unusedSimpArgs false

theorem awk1 : (lSplit [97, 47, 47, 98]).length = 3 := by decide
theorem awk2 : lFilter [97, 47, 43, 47, 35] = true := by decide +kernel
theorem awk3 : lFilter [97, 43] = false := by decide +kernel
theorem awk4 : lName [97] = true := by decide +kernel
/-- a, and so many levels more -/
def dL (k : Nat) : List UInt8 := 97 :: (List.replicate k [47, 97]).flatten
theorem limA : ((List.range 256).all fun n => lName (List.replicate n 97) == decide (1 ≤ n ∧ n ≤ 96) && lFilter (List.replicate n 97) == decide (1 ≤ n ∧ n ≤ 96)) = true := by decide +kernel
theorem limD : ((List.range 20).all fun k => lName (dL k) == decide (1 + k ≤ 12) && lFilter (dL k) == decide (1 + k ≤ 12)) = true := by decide +kernel
theorem limA' {n : Nat} (h : n < 256) : lName (List.replicate n 97) = decide (1 ≤ n ∧ n ≤ 96) ∧ lFilter (List.replicate n 97) = decide (1 ≤ n ∧ n ≤ 96) := by
  have h := (List.all_eq_true.1 limA) n (List.mem_range.2 h)
  rw [Bool.and_eq_true] at h
  exact ⟨eq_of_beq h.1, eq_of_beq h.2⟩
theorem limD' {k : Nat} (h : k < 20) : lName (dL k) = decide (1 + k ≤ 12) ∧ lFilter (dL k) = decide (1 + k ≤ 12) := by
  have h := (List.all_eq_true.1 limD) k (List.mem_range.2 h)
  rw [Bool.and_eq_true] at h
  exact ⟨eq_of_beq h.1, eq_of_beq h.2⟩

theorem sOf_add (A B : List UInt8) : sOf A ++ sOf B = sOf (A ++ B) := by
  have e : ∀ t : ByteArray, sOf (sB t) = t := fun t => by cases t; simp [sOf, sB]
  rw [← e (sOf A ++ sOf B)]
  simp [sB, sOf]
theorem dL_succ (k : Nat) : dL k ++ [47, 97] = dL (k + 1) := by
  unfold dL
  rw [List.replicate_succ', List.flatten_append]
  simp
theorem dL_len (k : Nat) : (dL k).length = 1 + 2 * k := by
  induction k with
  | zero => rfl
  | succ k ih => rw [← dL_succ, List.length_append, ih]; simp; omega
theorem rep_succ (k : Nat) : List.replicate k (97 : UInt8) ++ [97] = List.replicate (k + 1) 97 := by rw [List.replicate_succ']

end Go.Proofs.YtclicjokgfiegaaDoor

/-
  DERIVED: THE SHELF's CONTRACTS AT THIS DUMP, IN PLAIN WORDS (tools/lay-plain.mjs out of 'YtclicjokgfiegaaDoorShelfJT.lean', which tools/lay-shelf.mjs wrote): THE SAME DECLARATIONS UNDER THE SAME NAMES: 'import', 'namespace', 'open', 'def', 'theorem' AND NOTHING ELSE: no command of the shelf's: FOR A HAND-IN. Each laying: the table of numbers ('.._ren') and one theorem, a field a fact of the dump's own or the kernel's comparison; each contract: ONE APPLICATION.
-/
namespace Go.Proofs
open Go.Shelf
def Tryd.lays156_ren : Go.Shelf.Ren := ⟨fun | 156 => 85 | 165 => 136 | 166 => 137 | 169 => 138 | 240 => 176 | 241 => 177 | 276 => 197 | 277 => 198 | n => n, fun | 31 => 98 | 9 => 9 | 3 => 3 | 4 => 4 | 0 => 0 | 20 => 20 | 72 => 175 | 76 => 179 | 70 => 173 | 37 => 30 | 75 => 178 | 127 => 215 | 164 => 231 | 5 => 5 | 80 => 181 | n => n, fun | n => n⟩
theorem Tryd.lays156 : Go.Proofs.Lays.n156 Tryd.prog Tryd.lays156_ren := {
  mixed := by kernel_rfl
  f156 := Tryd.func85.trans (congrArg some (by kernel_rfl))
  f165 := Tryd.func136.trans (congrArg some (by kernel_rfl))
  f166 := Tryd.func137.trans (congrArg some (by kernel_rfl))
  f169 := Tryd.func138.trans (congrArg some (by kernel_rfl))
  f240 := Tryd.func176.trans (congrArg some (by kernel_rfl))
  f241 := Tryd.func177.trans (congrArg some (by kernel_rfl))
  f276 := Tryd.func197.trans (congrArg some (by kernel_rfl))
  f277 := Tryd.func198.trans (congrArg some (by kernel_rfl))
  t0 := Tryd.underlying0
  a0 := Tryd.isAgg0
  z0 := Tryd.sizeOf0
  v0 := Tryd.zeroValue0
  t3 := Tryd.underlying3
  a3 := Tryd.isAgg3
  z3 := Tryd.sizeOf3
  v3 := Tryd.zeroValue3
  t4 := Tryd.underlying4
  a4 := Tryd.isAgg4
  z4 := Tryd.sizeOf4
  v4 := Tryd.zeroValue4
  t9 := Tryd.underlying9
  a9 := Tryd.isAgg9
  z9 := Tryd.sizeOf9
  v9 := Tryd.zeroValue9
  t20 := Tryd.underlying20
  a20 := Tryd.isAgg20
  z20 := Tryd.sizeOf20
  v20 := Tryd.zeroValue20
  t31 := Tryd.underlying98
  a31 := Tryd.isAgg98
  z31 := Tryd.sizeOf98
  v31 := Tryd.zeroValue98
  t37 := Tryd.underlying30
  a37 := Tryd.isAgg30
  z37 := Tryd.sizeOf30
  v37 := Tryd.zeroValue30
  t70 := Tryd.underlying173
  a70 := Tryd.isAgg173
  z70 := Tryd.sizeOf173
  v70 := Tryd.zeroValue173
  t72 := Tryd.underlying175
  a72 := Tryd.isAgg175
  z72 := Tryd.sizeOf175
  v72 := Tryd.zeroValue175
  t75 := Tryd.underlying178
  a75 := Tryd.isAgg178
  z75 := Tryd.sizeOf178
  v75 := Tryd.zeroValue178
  t76 := Tryd.underlying179
  a76 := Tryd.isAgg179
  z76 := Tryd.sizeOf179
  v76 := Tryd.zeroValue179
  t127 := Tryd.underlying215
  a127 := Tryd.isAgg215
  z127 := Tryd.sizeOf215
  v127 := Tryd.zeroValue215
  t164 := Tryd.underlying231
  a164 := Tryd.isAgg231
  z164 := Tryd.sizeOf231
  v164 := Tryd.zeroValue231 }
theorem Tryd.Builder_Extra_156 : Builder.Extra Tryd.prog Tryd.lays156_ren := {
  sizeBuilder := by kernel_rfl
  liesBuilder := by kernel_rfl
  t5 := Tryd.underlying5
  a5 := Tryd.isAgg5
  z5 := Tryd.sizeOf5
  v5 := Tryd.zeroValue5
  infoByte := by kernel_rfl
  cellsByte := by kernel_rfl
  sizeByte := by kernel_rfl
  neB5 := by decide }
open Go.RowKit in
/-- No element: the empty string; the world is as it was. (Whatever the slice's address and capacity: a nil slice too.) (LAID: no walk: one application.) -/
theorem Tryd.strings_Join_none (a : Option Addr) (c : Nat) (sep : ByteArray) (w : World) :
    Calls Tryd.prog 85 #[.slice a 0 c, .string sep] w fun e w' => e = .returned (.string ⟨#[]⟩) ∧ w' = w := Any.strings_Join_none Tryd.lays156 Tryd.Builder_Extra_156 a c sep w
open Go.RowKit in
/-- strings.Join: "Join concatenates the elements of its first argument to create a single string. The separator string sep is placed between elements in the resulting string.": HOWEVER MANY ELEMENTS. Below the heap's end the world is as it was. (LAID: no walk: one application.) -/
theorem Tryd.strings_Join (bk o c : Nat) (xs : List ByteArray) (sep : ByteArray) (w : World) (hcells : ∀ (j : Nat) x, xs[j]? = some x → w.cell? ⟨bk, o + j, none⟩ = some (.string x)) (hbk : bk < w.heap.size) (hN : xs.length ≤ 140737488355328) (hcap : xs.length ≤ c) (hlen : (Lib.join (xs.map (·.data.toList)) sep.data.toList).length ≤ 140737488355328) :
    Calls Tryd.prog 85 #[.slice (some ⟨bk, o, none⟩) xs.length c, .string sep] w fun e w' => e = .returned (.string ⟨(Lib.join (xs.map (·.data.toList)) sep.data.toList).toArray⟩) ∧ Below w.heap.size w w' := Any.strings_Join Tryd.lays156 Tryd.Builder_Extra_156 bk o c xs sep w hcells hbk hN hcap hlen
end Go.Proofs

/- Levels of texts: joined: plain facts and the walks. -/
namespace Go.Proofs.YtclicjokgfiegaaDoor
open Go.RowKit
set_option linter.unusedVariables false
set_option linter.unusedSimpArgs false

theorem lJoin_cons (x : List UInt8) (r : List (List UInt8)) : lJoin (x :: r) = x ++ Lib.joinTail [47] r := Lib.join_cons x r [47]
theorem lJoin_snoc {p : List (List UInt8)} {k : Nat} {y : List UInt8} (h : p[k]? = some y) : lJoin (p.take (k + 1)) = if k = 0 then y else lJoin (p.take k) ++ [47] ++ y := by
  cases p with
  | nil => simp at h
  | cons x r =>
    cases k with
    | zero =>
      have : x = y := by simpa using h
      subst this
      rw [if_pos rfl]
      simp [lJoin_one]
    | succ k =>
      have h' : r[k]? = some y := by simpa using h
      rw [if_neg (by omega), List.take_succ_cons, List.take_succ_cons, lJoin_cons, lJoin_cons, Lib.joinTail_take_succ _ _ _ _ h']
      simp
theorem lJoin_take_len (p : List (List UInt8)) (k : Nat) : (lJoin (p.take k)).length ≤ (lJoin p).length := by
  cases p with
  | nil => simp
  | cons x r =>
    cases k with
    | zero => simp [lJoin, Lib.join_nil]
    | succ k =>
      rw [List.take_succ_cons, lJoin_cons, lJoin_cons, List.length_append, List.length_append]
      have : (Lib.joinTail [47] r) = Lib.joinTail [47] (r.take k) ++ Lib.joinTail [47] (r.drop k) := by
        unfold Lib.joinTail
        rw [← List.flatten_append, ← List.map_append, List.take_append_drop]
      rw [this, List.length_append]
      omega

set_option maxRecDepth 100000 in
set_option maxHeartbeats 1000000 in
theorem Join_c (p : List (List UInt8)) (v : Value) (w : World) (hp : Ls w v p) (hn : p.length ≤ 140737488355328) (hl : (lJoin p).length ≤ 140737488355328) :
    Calls Tryd.prog 44 #[v] w fun e w' => e = .returned (.string (sOf (lJoin p))) ∧ Below w.heap.size w w' := by
  have hJ : Calls Tryd.prog 85 #[v, .string ⟨#[47]⟩] w fun e w' => e = .returned (.string (sOf (lJoin p))) ∧ Below w.heap.size w w' := by
    rcases @Rd.split w v p.length (p.map txV) hp with ⟨hx, a, c, rfl, h1, h2, h3⟩ | ⟨hx, b, o, c, rfl, h1, h2, h3, h4⟩
    · have : p = [] := by simpa using hx
      subst this
      exact (Tryd.strings_Join_none a c ⟨#[47]⟩ w).mono fun e w' h => ⟨h.1, h.2 ▸ Below.refl _ _⟩
    · have hm : (p.map sOf).map (·.data.toList) = p := by
        rw [List.map_map]
        exact (List.map_congr_left (fun x _ => rfl)).trans (List.map_id p)
      have h := Tryd.strings_Join b o c (p.map sOf) ⟨#[47]⟩ w (fun j x hj => by
        rw [List.getElem?_map] at hj
        cases hj2 : p[j]? with
        | none => rw [hj2] at hj; simp at hj
        | some y =>
          rw [hj2] at hj
          have : sOf y = x := by simpa using hj
          subst this
          exact h4 j _ (by simp [hj2, txV])) h3 (by simpa using hn) (by simpa using h1) (by rw [hm]; exact hl)
      rw [hm, List.length_map] at h
      exact h
  obtain ⟨a, c, rfl⟩ := hp.slice
  have HJ := hd hJ
  clear hJ hp
  go_enter Tryd.func44, Tryd.ntmps44
  go_wp2_with fail
  refine HJ.out.mono ?_
  rintro e w1 ⟨rfl, hb⟩
  go_wp2_with fail
  go_ret
  exact ⟨rfl, hb⟩

end Go.Proofs.YtclicjokgfiegaaDoor

/- Spots and topics: plain facts. -/
namespace Go.Proofs.YtclicjokgfiegaaDoor
open Go.RowKit
set_option linter.unusedVariables false
set_option linter.unusedSimpArgs false

structure SpS where
  k : Int
  g : List UInt8
  n : List UInt8
  d : List UInt8
deriving DecidableEq
def SpS.zero : SpS := ⟨0, [], [], []⟩
def spV (s : SpS) : Value := .agg #[.int .i64 s.k, .string (sOf s.g), .string (sOf s.n), .string (sOf s.d)]

def wordT : List (List UInt8) := [[], [78, 66, 73, 82, 84, 72], [78, 68, 69, 65, 84, 72], [78, 68, 65, 84, 65], [78, 67, 77, 68], [68, 66, 73, 82, 84, 72], [68, 68, 69, 65, 84, 72], [68, 68, 65, 84, 65], [68, 67, 77, 68], [83, 84, 65, 84, 69]]
def sWord (k : Int) : List UInt8 := if 0 ≤ k ∧ k ≤ 9 then wordT.getD k.toNat [] else []
def kFrom (s : List UInt8) : Nat → Nat → Nat
  | 0, _ => 0
  | f + 1, i => if wordT.getD i [] = s then i else kFrom s f (i + 1)
def sKind (s : List UInt8) : Int := (kFrom s 9 1 : Nat)
def sPart (s : List UInt8) : Bool := lName s && decide ((lSplit s).length = 1)
def sWidth (k : Int) : Int := if k = 9 then 3 else if 5 ≤ k then 5 else 4
def rootT : List UInt8 := [115, 112, 66, 118, 49, 46, 48]
def sTop (s : SpS) : List (List UInt8) :=
  if s.k = 9 then [rootT, [83, 84, 65, 84, 69], s.n] else if 5 ≤ s.k then [rootT, s.g, sWord s.k, s.n, s.d] else [rootT, s.g, sWord s.k, s.n]
def sFree (s : SpS) : List (List UInt8) :=
  if s.k = 9 then [s.n] else if 5 ≤ s.k then [s.g, s.n, s.d] else [s.g, s.n]
def sBadForm (s : SpS) : Bool := (decide (sWidth s.k < 5) && !s.d.isEmpty) || (decide (s.k = 9) && !s.g.isEmpty)
def sPut (s : SpS) : List UInt8 × Int :=
  if s.k < 1 ∨ 9 < s.k then ([], 11) else if sBadForm s then ([], 4) else if (sFree s).all sPart then (if lName (lJoin (sTop s)) then (lJoin (sTop s), 0) else ([], 13)) else ([], 13)
def sGuess : List (List UInt8) → SpS
  | [_, _, c] => ⟨9, [], c, []⟩
  | [_, b, c, d] => ⟨sKind c, b, d, []⟩
  | [_, b, c, d, e] => ⟨sKind c, b, d, e⟩
  | _ => .zero
def sTell (t : List UInt8) : SpS := if (sPut (sGuess (lSplit t))).2 ≠ 0 ∨ (sPut (sGuess (lSplit t))).1 ≠ t then .zero else sGuess (lSplit t)
def sBirths (s : SpS) : List UInt8 × List UInt8 :=
  if (sPut s).2 ≠ 0 ∨ s.k = 9 then ([], []) else
  if (sPut ⟨1, s.g, s.n, []⟩).2 ≠ 0 then ([], []) else
  if s.d = [] then ((sPut ⟨1, s.g, s.n, []⟩).1, []) else
  if (sPut ⟨5, s.g, s.n, s.d⟩).2 ≠ 0 then ([], []) else ((sPut ⟨1, s.g, s.n, []⟩).1, (sPut ⟨5, s.g, s.n, s.d⟩).1)

theorem has47 (l : List UInt8) : decide (0 ≤ Lib.indexByte l 47) = decide ((47 : UInt8) ∈ l) := by
  rw [Bool.eq_iff_iff, decide_eq_true_iff, decide_eq_true_iff]
  constructor
  · intro h
    obtain ⟨o, ho⟩ := Int.eq_ofNat_of_zero_le h
    exact List.mem_of_getElem? (Lib.indexByte_some ho).1
  · intro h
    by_cases h0 : 0 ≤ Lib.indexByte l 47
    · exact h0
    · have h1 := Lib.indexByte_ge l 47
      obtain ⟨k, hk⟩ := List.getElem?_of_mem h
      exact absurd hk (Lib.indexByte_none (by omega) k)
theorem sPart_eq (s : List UInt8) : sPart s = (lName s && !decide ((47 : UInt8) ∈ s)) := by
  unfold sPart
  rw [lSplit_len]
  congr 1
  rw [Bool.eq_iff_iff, decide_eq_true_iff, Bool.not_eq_true', decide_eq_false_iff_not]
  constructor
  · intro h hm
    have := List.count_pos_iff.2 hm
    omega
  · intro h
    rw [List.count_eq_zero_of_not_mem h]
theorem split_one {x : List UInt8} (h : (47 : UInt8) ∉ x) : lSplit x = [x] := lSplit_none x fun j hj e => h (by
  have := (b8_of_bN hj (c := 47)).1 e
  rw [← this]; exact List.getElem_mem hj)
theorem split_app47 : ∀ a b : List UInt8, (47 : UInt8) ∉ a → lSplit (a ++ 47 :: b) = a :: lSplit b := fun a b h => by
  have := lSplit_hit a.length (a ++ 47 :: b) (by simp) (fun j hj e => h (by
    have hj2 : j < (a ++ 47 :: b).length := by simp; omega
    have h2 := (b8_of_bN hj2 (c := 47)).1 e
    rw [List.getElem_append_left hj] at h2
    rw [← h2]; exact List.getElem_mem hj)) (by
      have hj2 : a.length < (a ++ 47 :: b).length := by simp
      exact (b8_of_bN hj2 (c := 47)).2 (by simp))
  rw [this]
  simp
theorem split_join : ∀ (p : List (List UInt8)), p ≠ [] → (∀ x ∈ p, (47 : UInt8) ∉ x) → lSplit (lJoin p) = p
  | [], h, _ => absurd rfl h
  | [x], _, h => by rw [lJoin_one]; exact split_one (h x (by simp))
  | x :: y :: r, _, h => by
    rw [lJoin_cons2, split_app47 _ _ (h x (by simp)), split_join (y :: r) (by simp) (fun z hz => h z (by simp [hz]))]
theorem sPart_47 {s : List UInt8} (h : sPart s = true) : (47 : UInt8) ∉ s := by
  rw [sPart_eq, Bool.and_eq_true] at h
  have h2 := h.2
  rwa [Bool.not_eq_true', decide_eq_false_iff_not] at h2
theorem word_47 (k : Int) : (47 : UInt8) ∉ sWord k := by
  unfold sWord
  split
  · rename_i h
    obtain ⟨n, rfl⟩ := Int.eq_ofNat_of_zero_le h.1
    have hn : n ≤ 9 := by omega
    rw [Int.toNat_natCast]
    match n, hn with
    | 0, _ => decide
    | 1, _ => decide
    | 2, _ => decide
    | 3, _ => decide
    | 4, _ => decide
    | 5, _ => decide
    | 6, _ => decide
    | 7, _ => decide
    | 8, _ => decide
    | 9, _ => decide
  · simp
theorem kind_word {k : Int} (h1 : 1 ≤ k) (h9 : k ≤ 9) : sKind (sWord k) = k := by
  obtain ⟨n, rfl⟩ := Int.eq_ofNat_of_zero_le (show 0 ≤ k by omega)
  have hn : n ≤ 9 := by omega
  match n, hn with
  | 0, _ => omega
  | 1, _ => decide
  | 2, _ => decide
  | 3, _ => decide
  | 4, _ => decide
  | 5, _ => decide
  | 6, _ => decide
  | 7, _ => decide
  | 8, _ => decide
  | 9, _ => decide
theorem kFrom_le (s : List UInt8) : ∀ f i, kFrom s f i = 0 ∨ (kFrom s f i < i + f ∧ i ≤ kFrom s f i ∧ wordT.getD (kFrom s f i) [] = s)
  | 0, _ => .inl rfl
  | f + 1, i => by
    rw [kFrom]
    by_cases h : wordT.getD i [] = s
    · rw [if_pos h]; exact .inr ⟨by omega, by omega, h⟩
    · rw [if_neg h]
      rcases kFrom_le s f (i + 1) with h2 | ⟨h2, h3, h4⟩
      · exact .inl h2
      · exact .inr ⟨by omega, by omega, h4⟩
theorem kind_range (s : List UInt8) : sKind s = 0 ∨ (1 ≤ sKind s ∧ sKind s ≤ 9 ∧ sWord (sKind s) = s) := by
  unfold sKind
  rcases kFrom_le s 9 1 with h | ⟨h2, h3, h4⟩
  · exact .inl (by omega)
  · refine .inr ⟨by omega, by omega, ?_⟩
    unfold sWord
    rw [if_pos (by omega), Int.toNat_natCast]
    exact h4

theorem put_ok {s : SpS} (h : (sPut s).2 = 0) : (1 ≤ s.k ∧ s.k ≤ 9) ∧ sBadForm s = false ∧ (sFree s).all sPart = true ∧ lName (lJoin (sTop s)) = true ∧ (sPut s).1 = lJoin (sTop s) := by
  unfold sPut at h ⊢
  split at h
  · simp at h
  rename_i h1
  split at h
  · simp at h
  rename_i h2
  split at h
  · rename_i h3
    split at h
    · rename_i h4
      rw [if_neg h1, if_neg h2, if_pos h3, if_pos h4]
      exact ⟨by omega, by simpa using h2, h3, h4, rfl⟩
    · simp at h
  · simp at h
theorem put_bad {s : SpS} (h : (sPut s).2 ≠ 0) : (sPut s).1 = [] := by
  unfold sPut at h ⊢
  split
  · rfl
  rename_i h1
  rw [if_neg h1] at h
  split
  · rfl
  rename_i h2
  rw [if_neg h2] at h
  split
  · rename_i h3
    rw [if_pos h3] at h
    split
    · rename_i h4
      rw [if_pos h4] at h
      exact absurd rfl h
    · rfl
  · rfl
theorem top_47 {s : SpS} (h : (sFree s).all sPart = true) : ∀ x ∈ sTop s, (47 : UInt8) ∉ x := by
  have hw := word_47 s.k
  unfold sFree at h
  unfold sTop
  have hr : (47 : UInt8) ∉ rootT := by decide
  have hst : (47 : UInt8) ∉ ([83, 84, 65, 84, 69] : List UInt8) := by decide
  split at h
  · rename_i h9
    rw [if_pos h9]
    have hn : sPart s.n = true := by simpa using h
    intro x hx
    simp only [List.mem_cons, List.not_mem_nil, or_false] at hx
    rcases hx with rfl | rfl | rfl
    · exact hr
    · exact hst
    · exact sPart_47 hn
  · rename_i h9
    rw [if_neg h9]
    split at h
    · rename_i h5
      rw [if_pos h5]
      simp only [List.all_cons, List.all_nil, Bool.and_true, Bool.and_eq_true] at h
      intro x hx
      simp only [List.mem_cons, List.not_mem_nil, or_false] at hx
      rcases hx with rfl | rfl | rfl | rfl | rfl
      · exact hr
      · exact sPart_47 h.1
      · exact hw
      · exact sPart_47 h.2.1
      · exact sPart_47 h.2.2
    · rename_i h5
      rw [if_neg h5]
      simp only [List.all_cons, List.all_nil, Bool.and_true, Bool.and_eq_true] at h
      intro x hx
      simp only [List.mem_cons, List.not_mem_nil, or_false] at hx
      rcases hx with rfl | rfl | rfl | rfl
      · exact hr
      · exact sPart_47 h.1
      · exact hw
      · exact sPart_47 h.2
theorem guess_top {s : SpS} (hk : 1 ≤ s.k ∧ s.k ≤ 9) (hb : sBadForm s = false) : sGuess (sTop s) = s := by
  obtain ⟨k, g, n, d⟩ := s
  unfold sBadForm sWidth at hb
  unfold sTop
  simp only at hk hb ⊢
  by_cases h9 : k = 9
  · subst h9
    simp at hb
    obtain ⟨rfl, rfl⟩ := hb
    rfl
  · rw [if_neg h9] at hb ⊢
    by_cases h5 : 5 ≤ k
    · rw [if_pos h5]
      simp only [sGuess, kind_word hk.1 hk.2]
    · rw [if_neg h5] at hb ⊢
      simp [h9] at hb
      subst hb
      simp only [sGuess, kind_word hk.1 hk.2]
/-- A spot's topic tells the spot. -/
theorem tell_put {s : SpS} (h : (sPut s).2 = 0) : sTell (sPut s).1 = s ∧ lName (sPut s).1 = true := by
  obtain ⟨hk, hb, hp, hn, ht⟩ := put_ok h
  refine ⟨?_, by rw [ht]; exact hn⟩
  have hg : sGuess (lSplit (sPut s).1) = s := by
    rw [ht, split_join _ (by unfold sTop; split; simp; split <;> simp) (top_47 hp), guess_top hk hb]
  unfold sTell
  rw [hg, if_neg (by simp [h])]
theorem name_ne {t : List UInt8} (h : lName t = true) : t ≠ [] := by
  intro e; subst e; exact absurd h (by decide)
theorem tell_cases (t : List UInt8) : sTell t = .zero ∨ ((sPut (sTell t)).2 = 0 ∧ (sPut (sTell t)).1 = t ∧ 1 ≤ (sTell t).k) := by
  unfold sTell
  split
  · exact .inl rfl
  · rename_i h
    have h2 : (sPut (sGuess (lSplit t))).2 = 0 ∧ (sPut (sGuess (lSplit t))).1 = t := by
      refine ⟨?_, ?_⟩
      · exact Classical.byContradiction fun e => h (.inl e)
      · exact Classical.byContradiction fun e => h (.inr e)
    exact .inr ⟨h2.1, h2.2, (put_ok h2.1).1.1⟩
theorem zero_put : (sPut .zero).2 ≠ 0 := by decide +kernel
end Go.Proofs.YtclicjokgfiegaaDoor

/- A region that draws its order, with movers whose order is free among two of them: the walk forks there. Of no program. -/
namespace Go.Proofs.YtclicjokgfiegaaDoor

inductive Tr where
  | done
  | still (k : Nat) (r : Tr)
  | move (k : Nat) (r : Tr)
  | fork (k1 : Nat) (r1 : Tr) (k2 : Nat) (r2 : Tr)
def Tr.len : Tr → Nat
  | .done => 0
  | .still _ r => r.len + 1
  | .move _ r => r.len + 1
  | .fork _ r1 _ _ => r1.len + 1
def Tr.isDone : Tr → Bool
  | .done => true
  | _ => false

section
variable {P : Program} {ops : Array Oper} {md : Region.Mode} {Q : Exit → Act → World → Prop} {C : World → Prop} {n : Nat}

def okT (md : Region.Mode) (ops : Array Oper) (n : Nat) : Tr → Array Bool → Bool
  | .done, listed => (Region.ready md ops listed).isEmpty
  | .still k r, listed => (Region.ready md ops listed).contains k && (Region.free md ops listed k && (decide (k < n) && okT md ops n r (listed.setIfInBounds k true)))
  | .move k r, listed => (Region.ready md ops listed == [k]) && ((decide (k < n) || r.isDone) && okT md ops n r (listed.setIfInBounds k true))
  | .fork k1 r1 k2 r2, listed => (Region.ready md ops listed == [k1, k2]) && (decide (k1 < n) && (decide (k2 < n) && (r1.len == r2.len && (okT md ops n r1 (listed.setIfInBounds k1 true) && okT md ops n r2 (listed.setIfInBounds k2 true)))))

def wpT (P : Program) (ops : Array Oper) (n : Nat) (C : World → Prop) (Q : Exit → Act → World → Prop) : Tr → Act → World → Prop
  | .done, a, w => Q .normal a w
  | .still k r, a, w => ∃ o, ops[k]? = some o ∧ ∃ v, YieldsC P ops C o v a ∧ wpT P ops n C Q r (a.put o.dst v) w
  | .move k r, a, w => wpOp P ops Q k (fun a' w' => (k < n → C w') ∧ wpT P ops n C Q r a' w') a w
  | .fork k1 r1 k2 r2, a, w => wpOp P ops Q k1 (fun a' w' => (k1 < n → C w') ∧ wpT P ops n C Q r1 a' w') a w ∧ wpOp P ops Q k2 (fun a' w' => (k2 < n → C w') ∧ wpT P ops n C Q r2 a' w') a w

theorem walk_T (hsel : ∀ (j : Nat) (o : Oper) cs b, ops[j]? = some o → o.op ≠ .select cs b) (hQ : ∀ c (a : Act) (T : Array Value) w, Q (.panic c) { a with tmps := T } w → Q (.panic c) a w)
    (hs : Region.sinkB md ops n = true) (hc : Region.chainB md ops n = true) (hn : n < ops.size) :
    ∀ (σ : Tr) (listed : Array Bool) (a : Act) (w : World), HeadInv md ops n listed → C w → okT md ops n σ listed = true → wpT P ops n C Q σ a w → wpAnyC P md ops n C Q σ.len listed a w
  | .done, listed, a, w, _, _, hok, h => ⟨by simpa [okT] using hok, h⟩
  | .still k r, listed, a, w, inv, hC, hok, h => by
    simp only [okT, Bool.and_eq_true, decide_eq_true_eq] at hok
    obtain ⟨hr, hf, hk, hok'⟩ := hok
    obtain ⟨o, ho, v, hy, hK⟩ := h
    have hr' : k ∈ Region.ready md ops listed := by simpa using hr
    exact first_C ho hsel (fun c a w h => hQ_put hQ h) hs hc hn hk r.len listed a w inv (Region.free_spec ho hf) hr' hy hC
      (walk_T hsel hQ hs hc hn r _ _ w (inv.set hr' hk) hC hok' hK)
  | .move k r, listed, a, w, inv, hC, hok, h => by
    simp only [okT, Bool.and_eq_true, beq_iff_eq] at hok
    obtain ⟨hr, hd, hok'⟩ := hok
    refine ⟨fun h0 => (by rw [hr] at h0; cases h0), fun i hi => ?_⟩
    have hi' := hi
    rw [hr] at hi
    obtain rfl : i = k := by simpa using hi
    by_cases hk : i < n
    · exact wpOp_mono (fun a' w' h' => ⟨h'.1, walk_T hsel hQ hs hc hn r _ a' w' (inv.set hi' hk) (h'.1 hk) hok' h'.2⟩) h
    · have hdone : r.isDone = true := by simpa [hk] using hd
      cases r with
      | done => exact wpOp_mono (fun a' w' h' => ⟨h'.1, by simpa [okT] using hok', h'.2⟩) h
      | still _ _ => cases hdone
      | move _ _ => cases hdone
      | fork _ _ _ _ => cases hdone
  | .fork k1 r1 k2 r2, listed, a, w, inv, hC, hok, h => by
    simp only [okT, Bool.and_eq_true, beq_iff_eq, decide_eq_true_eq] at hok
    obtain ⟨hr, hk1, hk2, hl, hok1, hok2⟩ := hok
    refine ⟨fun h0 => (by rw [hr] at h0; cases h0), fun i hi => ?_⟩
    have hi' := hi
    rw [hr] at hi
    have : i = k1 ∨ i = k2 := by simpa using hi
    rcases this with rfl | rfl
    · exact wpOp_mono (fun a' w' h' => ⟨h'.1, walk_T hsel hQ hs hc hn r1 _ a' w' (inv.set hi' hk1) (h'.1 hk1) hok1 h'.2⟩) h.1
    · have hl' : (Tr.fork k1 r1 i r2).len = r2.len + 1 := by simp [Tr.len, hl]
      exact wpOp_mono (fun a' w' h' => ⟨h'.1, by rw [hl]; exact walk_T hsel hQ hs hc hn r2 _ a' w' (inv.set hi' hk2) (h'.1 hk2) hok2 h'.2⟩) h.2

theorem wp_region_T {id : Nat} {a : Act} {w : World} (C : World → Prop) (n : Nat) (σ : Tr) (hm : P.follows .mixedOrders = true)
    (hB : (Region.noSelect ops && (Region.sinkB .any ops n && (Region.chainB .any ops n && (decide (n < ops.size) && (okT .any ops n σ (Array.replicate ops.size false) && (σ.len == ops.size)))))) = true)
    (hQ : ∀ c (a : Act) (T : Array Value) w, Q (.panic c) { a with tmps := T } w → Q (.panic c) a w) (hC : C w.drew)
    (h : wpT P ops n C Q σ a w.drew) : (Code.region id ops true).wp P Q a w := by
  simp only [Bool.and_eq_true, decide_eq_true_eq, beq_iff_eq] at hB
  obtain ⟨h1, h2, h3, h4, h5, h6⟩ := hB
  refine wp_region_any hm (wpAny_of_C _ _ _ _ (n := n) (C := C) ?_)
  have := walk_T (P := P) (Q := Q) (C := C) (Region.noSelect_spec h1) hQ h2 h3 h4 σ _ a w.drew headInv_start hC h5 h
  rw [h6] at this
  exact this

theorem wpT_still {k : Nat} {r : Tr} {o : Oper} {v : Value} {a : Act} {w : World} (ho : ops[k]? = some o) (hw : Region.wanted o (yielded ops a.tmps) = true)
    (h : ∀ w', C w' → (execOp a.eval o).run P w' = .ok (.value v) w') (hr : wpT P ops n C Q r (a.put o.dst v) w) : wpT P ops n C Q (.still k r) a w :=
  ⟨o, ho, v, .inl ⟨hw, h⟩, hr⟩
theorem wpT_skip {k : Nat} {r : Tr} {o : Oper} {a : Act} {w : World} (ho : ops[k]? = some o) (hw : Region.wanted o (yielded ops a.tmps) = false)
    (hr : wpT P ops n C Q r (a.put o.dst undef) w) : wpT P ops n C Q (.still k r) a w :=
  ⟨o, ho, undef, .inr ⟨hw, rfl⟩, hr⟩
theorem wpOp_moved {k : Nat} {r : Tr} {o : Oper} {a : Act} {w : World} (ho : ops[k]? = some o) (hw : Region.wanted o (yielded ops a.tmps) = true)
    (h : ∀ K : Act → World → Prop, (∀ a' w', (k < n → C w') → wpT P ops n C Q r a' w' → K a' w') → o.wp P a w K Q) : wpOp P ops Q k (fun a' w' => (k < n → C w') ∧ wpT P ops n C Q r a' w') a w := by
  unfold Go.wpOp
  simp only [ho, hw, if_true]
  exact .inl (h _ fun a' w' h1 h2 => ⟨h1, h2⟩)
theorem wpT_move {k : Nat} {r : Tr} {o : Oper} {a : Act} {w : World} (ho : ops[k]? = some o) (hw : Region.wanted o (yielded ops a.tmps) = true)
    (h : ∀ K : Act → World → Prop, (∀ a' w', (k < n → C w') → wpT P ops n C Q r a' w' → K a' w') → o.wp P a w K Q) : wpT P ops n C Q (.move k r) a w :=
  wpOp_moved ho hw h
theorem wpT_fork {k1 k2 : Nat} {r1 r2 : Tr} {o1 o2 : Oper} {a : Act} {w : World} (ho1 : ops[k1]? = some o1) (hw1 : Region.wanted o1 (yielded ops a.tmps) = true) (ho2 : ops[k2]? = some o2) (hw2 : Region.wanted o2 (yielded ops a.tmps) = true)
    (h1 : ∀ K : Act → World → Prop, (∀ a' w', (k1 < n → C w') → wpT P ops n C Q r1 a' w' → K a' w') → o1.wp P a w K Q)
    (h2 : ∀ K : Act → World → Prop, (∀ a' w', (k2 < n → C w') → wpT P ops n C Q r2 a' w' → K a' w') → o2.wp P a w K Q) : wpT P ops n C Q (.fork k1 r1 k2 r2) a w :=
  ⟨wpOp_moved ho1 hw1 h1, wpOp_moved ho2 hw2 h2⟩
theorem wpT_done {a : Act} {w : World} (h : Q .normal a w) : wpT P ops n C Q .done a w := h
end
end Go.Proofs.YtclicjokgfiegaaDoor

/- Spots and topics: words, kinds, parts: the walks of the program. -/
namespace Go.Proofs.YtclicjokgfiegaaDoor
open Go.RowKit
set_option linter.unusedVariables false
set_option linter.unusedSimpArgs false

def EnvW (w : World) : Prop := 0 < w.heap.size ∧ ∀ i : Nat, i < 10 → w.cell? ⟨0, i, none⟩ = some (.string (sOf (wordT.getD i [])))
theorem EnvW.below {B : Nat} {w w' : World} (h : EnvW w) (hb : Below B w w') (hB : w.heap.size ≤ B) : EnvW w' :=
  ⟨Nat.lt_of_lt_of_le h.1 hb.size, fun i hi => (bcell hb _ _ (by have := h.1; omega)).trans (h.2 i hi)⟩
theorem EnvW.at {w : World} (h : EnvW w) {i : Nat} (hi : i < 10) : w.cell? ⟨0, i, none⟩ = some (.string (sOf (wordT.getD i []))) := h.2 i hi

set_option maxRecDepth 100000 in
set_option maxHeartbeats 1000000 in
theorem Word_c (k : Int) (w : World) (hW : EnvW w) : Calls Tryd.prog 83 #[.int .i64 k] w fun e w' => e = .returned (.string (sOf (sWord k))) ∧ w = w' := by
  by_cases h0 : k < 0
  · have : sWord k = [] := by unfold sWord; rw [if_neg (by omega)]
    rw [this]
    go_enter Tryd.func83, Tryd.ntmps83
    go_wp2_with fail
    go_ret
    exact ⟨rfl, rfl⟩
  by_cases h9 : 9 < k
  · have : sWord k = [] := by unfold sWord; rw [if_neg (by omega)]
    rw [this]
    go_enter Tryd.func83, Tryd.ntmps83
    go_wp2_with fail
    go_ret
    exact ⟨rfl, rfl⟩
  obtain ⟨n, rfl⟩ := Int.eq_ofNat_of_zero_le (show 0 ≤ k by omega)
  have : sWord (n : Int) = wordT.getD n [] := by unfold sWord; rw [if_pos (by omega), Int.toNat_natCast]
  rw [this]
  have hn : n < 10 := by omega
  have hc := hW.at hn
  generalize wordT.getD n [] = x at *
  clear hW this h0 h9
  have h0 : ¬ (n : Int) < 0 := by omega
  have h9 : ¬ 9 < (n : Int) := by omega
  have h10 : (n : Int) < 10 := by omega
  go_enter Tryd.func83, Tryd.ntmps83
  go_wp2_with fail
  go_ret
  exact ⟨rfl, rfl⟩

set_option maxRecDepth 100000 in
set_option maxHeartbeats 1000000 in
theorem Kind_c (l : List UInt8) (w : World) (hW : EnvW w) : Calls Tryd.prog 102 #[.string (sOf l)] w fun e w' => e = .returned (.int .i64 (sKind l)) ∧ w = w' := by
  obtain ⟨r, hr⟩ : ∃ r, kFrom l 9 1 = r := ⟨_, rfl⟩
  have : sKind l = (r : Nat) := by unfold sKind; rw [hr]
  rw [this]
  clear this
  have HW := hd hW
  clear hW
  have htl := toList_sOf l
  go_enter Tryd.func102, Tryd.ntmps102
  go_wp2_with fail
  go_loopw [3] (fun i w' => ∃ k : Nat, i = .int .i64 k ∧ 1 ≤ k ∧ k ≤ 10 ∧ kFrom l (10 - k) k = r ∧ w = w') (fun i _ => leftL 10 i)
  case atStart => exact ⟨1, rfl, by omega, by omega, hr, rfl⟩
  case round =>
    obtain ⟨k, rfl, hk1, hk, hf, rfl⟩ := hrel
    by_cases hk9 : k ≤ 9
    · have hc := HW.out.at (show k < 10 by omega)
      have htx := toList_sOf (wordT.getD k [])
      rw [show 10 - k = (10 - (k + 1)) + 1 by omega, kFrom] at hf
      have h9 : (k : Int) ≤ 9 := by omega
      have h10 : (k : Int) < 10 := by omega
      have h00 : (0 : Int) ≤ (k : Int) := by omega
      have HF := hd hf
      clear hf
      generalize hgx : wordT.getD k [] = x at *
      clear hgx
      cases e : (x == l)
      · have hne : ¬ x = l := by simpa using e
        have hf := HF.out
        rw [if_neg hne] at hf
        have HF2 := hd hf
        clear HF hf hne
        go_wp2_with fail
        go_roundw
        case rel => exact ⟨k + 1, by congr 1, by omega, by omega, HF2.out, trivial⟩
        case measure => simp [leftL]; omega
      · have hne : x = l := by simpa using e
        have hf := HF.out
        rw [if_pos hne] at hf
        have HF2 := hd hf
        clear HF hf hne
        go_wp2_with fail
        go_ret
        exact ⟨by rw [HF2.out]; rfl, rfl⟩
    · have : k = 10 := by omega
      subst this
      have hf2 : 0 = r := hf
      subst hf2
      clear hf
      go_wp2_with fail
      go_ret
      exact ⟨rfl, rfl⟩

set_option maxRecDepth 100000 in
set_option maxHeartbeats 1000000 in
theorem width_c (k : Int) (w : World) : Calls Tryd.prog 41 #[.int .i64 k] w fun e w' => e = .returned (.int .i64 (sWidth k)) ∧ w = w' := by
  unfold sWidth
  by_cases h9 : k = 9
  · rw [if_pos h9]
    have h9b : (k == 9) = true := by simpa using h9
    clear h9
    go_enter Tryd.func41, Tryd.ntmps41
    go_wp2_with fail
    go_ret
    exact ⟨rfl, rfl⟩
  rw [if_neg h9]
  have h9b : (k == 9) = false := by simpa using h9
  clear h9
  by_cases h5 : 5 ≤ k
  · rw [if_pos h5]
    go_enter Tryd.func41, Tryd.ntmps41
    go_wp2_with fail
    go_ret
    exact ⟨rfl, rfl⟩
  · rw [if_neg h5]
    go_enter Tryd.func41, Tryd.ntmps41
    go_wp2_with fail
    go_ret
    exact ⟨rfl, rfl⟩

set_option maxRecDepth 100000 in
set_option maxHeartbeats 1000000 in
theorem part_c (l : List UInt8) (w : World) (hE : EnvU w) (hs : l.length ≤ 9223372036854775000) : Calls Tryd.prog 43 #[.string (sOf l)] w fun e w' => e = .returned (.bool (sPart l)) ∧ Below w.heap.size w w' := by
  obtain ⟨r, hr⟩ : ∃ r, sPart l = r := ⟨_, rfl⟩
  rw [hr]
  rw [sPart_eq] at hr
  have Hr := hd hr; clear hr
  have HE := hd hE; clear hE
  go_enter Tryd.func43, Tryd.ntmps43
  go_wp2_with fail
  refine (Name_c l _ HE.out hs).mono ?_
  rintro e w1 ⟨rfl, hb1⟩
  cases hu : lName l
  · have hr := Hr.out; rw [hu, Bool.false_and] at hr; subst hr; clear Hr
    go_wp2_with fail
    go_ret
    exact ⟨rfl, hb1⟩
  have H1 := hd (show (!decide ((47 : UInt8) ∈ l)) = r by have hr := Hr.out; rw [hu, Bool.true_and] at hr; exact hr)
  clear Hr hu
  go_wp2_with fail
  refine (Tryd.strings_Contains_one (sOf l) 47 _).mono ?_
  rintro e w2 ⟨rfl, rfl⟩
  rw [show decide (0 ≤ Lib.indexByte (sOf l).data.toList 47) = decide ((47 : UInt8) ∈ l) from has47 l]
  obtain ⟨b, hb⟩ : ∃ b, decide ((47 : UInt8) ∈ l) = b := ⟨_, rfl⟩
  rw [hb] at H1 ⊢
  clear hb
  go_wp2_with fail
  go_ret
  exact ⟨ret_bool H1.out, hb1⟩
end Go.Proofs.YtclicjokgfiegaaDoor

/- What a filter wants: the walks of the program. -/
namespace Go.Proofs.YtclicjokgfiegaaDoor
open Go.RowKit
set_option linter.unusedVariables false
set_option linter.unusedSimpArgs false

/-- level by level -/
def alongL (hold : List UInt8 → List UInt8 → Bool) : List (List UInt8) → List (List UInt8) → Bool
  | [], b => b.isEmpty
  | x :: r, b => if x = [35] then true else match b with
    | [] => false
    | y :: t => hold x y && alongL hold r t
def holdM (x y : List UInt8) : Bool := x == [43] || x == y
def holdC (x y : List UInt8) : Bool := x == y || (x == [43] && !(y == [35]))
def begW (f : List UInt8) : Bool := f.take 1 == [43] || f.take 1 == [35]
def mMatch (f n : List UInt8) : Bool := lFilter f && (lName n && (!(begW f && lHidden n) && alongL holdM (lSplit f) (lSplit n)))
def mCovers (a b : List UInt8) : Bool := lFilter a && (lFilter b && (!(begW a && lHidden b) && alongL holdC (lSplit a) (lSplit b)))
def mWide (f : List UInt8) : Bool := lFilter f && !lName f

theorem quiet_leftM {P : Program} {f : FuncId} {args : Array Value} {w : World} {n : Nat} {v : Value} (h : Calls P f args (w.drewN n) fun e w' => e = .returned v ∧ w.drewN n = w') : Calls P f args (w.drewN n) fun e w' => e = .returned v ∧ ∃ m, w' = w.drewN m :=
  h.mono fun e w' h => ⟨h.1, n, h.2.symm⟩
theorem quiet_moreM {P : Program} {f : FuncId} {args : Array Value} {w : World} {n : Nat} {v : Value} (h : Calls P f args (w.drewN n) fun e w' => e = .returned v ∧ ∃ m, w' = (w.drewN n).drewN m) : Calls P f args (w.drewN n) fun e w' => e = .returned v ∧ ∃ m, w' = w.drewN m :=
  h.mono fun e w' h => ⟨h.1, by obtain ⟨m, rfl⟩ := h.2; exact ⟨n + m, by simp [World.drewN, Nat.add_assoc]⟩⟩

set_option maxRecDepth 100000 in
theorem holdM_c (x y : List UInt8) (w : World) : Calls Tryd.prog 59 #[.string (sOf x), .string (sOf y)] w fun e w' => e = .returned (.bool (holdM x y)) ∧ w = w' := by
  have h1 := toList_sOf x
  have h2 := toList_sOf y
  obtain ⟨r, hr⟩ : ∃ r, holdM x y = r := ⟨_, rfl⟩
  rw [hr]
  unfold holdM at hr
  go_enter Tryd.func59, Tryd.ntmps59
  cases e1 : (x == [43])
  · rw [e1, Bool.false_or] at hr
    subst hr
    go_wp2_with fail
    go_ret
    exact ⟨rfl, rfl⟩
  · rw [e1, Bool.true_or] at hr
    subst hr
    go_wp2_with fail
    go_ret
    exact ⟨rfl, rfl⟩

structure AlongE (f : FuncId) (p q : List (List UInt8)) (va vb : Value) (ga gb gh gf : Nat) (w : World) : Prop where
  a : w.cell? ⟨ga, 0, none⟩ = some va
  b : w.cell? ⟨gb, 0, none⟩ = some vb
  h : w.cell? ⟨gh, 0, none⟩ = some (.func (.func f) #[] #[])
  f : w.cell? ⟨gf, 0, none⟩ = some (.func (.func 100) #[] #[.pointer (some ⟨ga, 0, none⟩), .pointer (some ⟨gb, 0, none⟩), .pointer (some ⟨gh, 0, none⟩), .pointer (some ⟨gf, 0, none⟩)])
  la : Ls w va p
  lb : Ls w vb q
theorem AlongE.drewN {f : FuncId} {p q : List (List UInt8)} {va vb : Value} {ga gb gh gf : Nat} {w : World} (h : AlongE f p q va vb ga gb gh gf w) (n : Nat) : AlongE f p q va vb ga gb gh gf (w.drewN n) :=
  ⟨h.a, h.b, h.h, h.f, h.la.below' (below_dn (Below.refl _ _) n) (Nat.le_refl _), h.lb.below' (below_dn (Below.refl _ _) n) (Nat.le_refl _)⟩
theorem alongL_at {hold : List UInt8 → List UInt8 → Bool} {p q : List (List UInt8)} {i : Nat} {x : List UInt8} (hx : p[i]? = some x) :
    alongL hold (p.drop i) (q.drop i) = if x = [35] then true else match q[i]? with
      | none => false
      | some y => hold x y && alongL hold (p.drop (i + 1)) (q.drop (i + 1)) := by
  have hlt : i < p.length := (List.getElem?_eq_some_iff.1 hx).1
  have hpx : p[i] = x := (List.getElem?_eq_some_iff.1 hx).2
  rw [List.drop_eq_getElem_cons hlt, hpx]
  by_cases hq : i < q.length
  · rw [List.drop_eq_getElem_cons hq, List.getElem?_eq_getElem hq, alongL]
  · rw [List.drop_of_length_le (l := q) (by omega), List.getElem?_eq_none (by omega), alongL]

set_option maxRecDepth 100000 in
set_option maxHeartbeats 4000000 in
theorem along1M_c
    (p q : List (List UInt8)) (va vb : Value) (ga gb gh gf : Nat) (hpl : p.length ≤ 100000000) (hql : q.length ≤ 100000000) : ∀ (n i : Nat) (w : World), p.length - i ≤ n → i ≤ p.length → i ≤ q.length → AlongE 59 p q va vb ga gb gh gf w →
    Calls Tryd.prog 100 #[.int .i64 i, .pointer (some ⟨ga, 0, none⟩), .pointer (some ⟨gb, 0, none⟩), .pointer (some ⟨gh, 0, none⟩), .pointer (some ⟨gf, 0, none⟩)] w fun e w' => e = .returned (.bool (alongL holdM (p.drop i) (q.drop i))) ∧ ∃ m, w' = w.drewN m := by
  have fin : ∀ (w : World), p.length ≤ q.length → AlongE 59 p q va vb ga gb gh gf w →
      Calls Tryd.prog 100 #[.int .i64 p.length, .pointer (some ⟨ga, 0, none⟩), .pointer (some ⟨gb, 0, none⟩), .pointer (some ⟨gh, 0, none⟩), .pointer (some ⟨gf, 0, none⟩)] w fun e w' => e = .returned (.bool (alongL holdM (p.drop p.length) (q.drop p.length))) ∧ ∃ m, w' = w.drewN m := by
    intro w hj E
    have hs : alongL holdM (p.drop p.length) (q.drop p.length) = ((p.length : Int) == (q.length : Int)) := by
      rw [List.drop_of_length_le (Nat.le_refl _), alongL]
      rw [Bool.eq_iff_iff]; simp; omega
    rw [hs]
    obtain ⟨a, b, h, f0, la, lb⟩ := E
    obtain ⟨aa, ac, rfl⟩ := la.slice
    obtain ⟨ba, bc, rfl⟩ := lb.slice
    clear la lb hs
    go_enter Tryd.func100, Tryd.ntmps100
    go_wp2_with fail
    go_ret
    exact ⟨rfl, 0, rfl⟩
  intro n
  induction n with
  | zero =>
    intro i w hn hi hj E
    have hie : i = p.length := by omega
    subst hie
    exact fin w hj E
  | succ n ih =>
    intro i w hn hi hj E
    by_cases hip : i = p.length
    · subst hip
      exact fin w hj E
    have hil : i < p.length := by omega
    have hipb : ((i : Int) == (p.length : Int)) = false := by simp; omega
    obtain ⟨x, hx⟩ : ∃ x, p[i]? = some x := ⟨_, List.getElem?_eq_getElem hil⟩
    obtain ⟨r, hr⟩ : ∃ r, alongL holdM (p.drop i) (q.drop i) = r := ⟨_, rfl⟩
    rw [hr]
    rw [alongL_at hx] at hr
    have IH := hd ih; clear ih
    have HE := hd E
    obtain ⟨a, b, h, f0, la, lb⟩ := E
    obtain ⟨aa, ac, rfl⟩ := la.slice
    obtain ⟨ba, bc, rfl⟩ := lb.slice
    obtain ⟨bx, ox, rfl, hbx, hcx⟩ := la.at hx
    have htx := toList_sOf x
    cases e35 : (x == [35])
    rotate_left
    · have hx35 : x = [35] := by simpa using e35
      rw [if_pos hx35] at hr
      have hr2 := hd hr
      clear la lb hr hx35
      go_enter Tryd.func100, Tryd.ntmps100
      go_wp2_with fail
      go_ret
      exact ⟨ret_bool hr2.out, 0, rfl⟩
    have hx35 : ¬ x = [35] := by simpa using e35
    rw [if_neg hx35] at hr
    by_cases hiq : i = q.length
    · have hiqb : ((i : Int) == (q.length : Int)) = true := by simp; omega
      rw [List.getElem?_eq_none (by omega)] at hr
      have hr2 := hd hr
      clear la lb hr hx35 hiq hx
      go_enter Tryd.func100, Tryd.ntmps100
      go_wp2_with fail
      go_ret
      exact ⟨ret_bool hr2.out, 0, rfl⟩
    have hiqb : ((i : Int) == (q.length : Int)) = false := by simp; omega
    have hiq2 : i < q.length := by omega
    obtain ⟨y, hy⟩ : ∃ y, q[i]? = some y := ⟨_, List.getElem?_eq_getElem hiq2⟩
    rw [hy] at hr
    simp only at hr
    obtain ⟨by', oy, rfl, hby, hcy⟩ := lb.at hy
    have hwr : IntKind.i64.wrap ((i : Int) + 1) = (i : Int) + 1 := IntWalk.i64_in _ (by omega)
    have hH1 := fun W => holdM_c x y W
    have hI := fun W m (h : W = w.drewN m) => IH.out (i + 1) W (by omega) (by omega) (by omega) (by rw [h]; exact HE.out.drewN m)
    have HH := hd hH1; have HI := hd hI
    clear la lb hx35 hx hy hH1 hI HE IH
    cases hxy : holdM x y
    · rw [hxy, Bool.false_and] at hr
      have hr2 := hd hr
      have HXY := hd hxy
      have hh2 := HH.out
      rw [hxy] at hh2
      have HH2 := hd hh2
      clear hr hxy hh2 HH
      go_enter Tryd.func100, Tryd.ntmps100
      go_wp2_with fail
      go_quiet (first | exact quiet_leftM (HH2.out _))
      go_wp2_with fail
      go_ret
      exact ⟨ret_bool hr2.out, _, rfl⟩
    · rw [hxy, Bool.true_and] at hr
      have hr2 := hd hr
      have HXY := hd hxy
      have hh2 := HH.out
      rw [hxy] at hh2
      have HH2 := hd hh2
      clear hr hxy hh2 HH
      rw [hr2.out] at HI
      push_cast at HI
      go_enter Tryd.func100, Tryd.ntmps100
      go_wp2_with fail
      go_quiet (first | exact quiet_leftM (HH2.out _) | exact quiet_moreM (HI.out _ _ rfl))
      go_wp2_with fail
      go_ret
      exact ⟨rfl, _, rfl⟩
end Go.Proofs.YtclicjokgfiegaaDoor
