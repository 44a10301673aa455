/- A bundle of texts (merged for the limit on files): SubIter, SubOf, PacTold, PacOf, ConRef, ConRefPlain. -/
import Derived.RangeFuncNested
import Derived.RangeFuncBound
import Derived.RangeFuncCalls
import Derived.RangeFuncLeaves
import Derived.RangeFuncBox
import Derived.Shelf.Abstract
import Derived.Shelf.RegionOpen
import Derived.WalkKit
import Derived.OwnWalkIn
import Derived.TacticsInMore
import Derived.LoopNIn
import Derived.LoopIn
import Derived.Maps.AppendAt
import Derived.Test.YtclicjokgfiegaaDoorZa12
import Derived.WalkMore
import Derived.Test.YtclicjokgfiegaaDoorZa20
import Derived.Test.YtclicjokgfiegaaDoorZa10
import Derived.Test.YtclicjokgfiegaaDoorZa5
/- Wishes: the program's iterator over filters: its contract. -/
namespace Go.Proofs.YtclicjokgfiegaaDoor
open Go.RowKit Go.Shelf
set_option linter.unusedVariables false
set_option linter.unusedSimpArgs false
attribute [local go_sem] Oper.semAt_some

/-- the place behind k reads; what the k-th read hands out -/
def sbPlace (ends : Bool) (l : List UInt8) : Nat → Int
  | 0 => 2
  | k + 1 => (sbRead l (sbPlace ends l k) ends).2.1
abbrev Item := Wish × Int
def sbItem (ends : Bool) (l : List UInt8) (k : Nat) : Item := ((sbRead l (sbPlace ends l k) ends).1, (sbRead l (sbPlace ends l k) ends).2.2)
def sbItems (ends : Bool) (l : List UInt8) (k : Nat) : List Item := (List.range k).map (sbItem ends l)
theorem sbItems_succ (ends : Bool) (l : List UInt8) (k : Nat) : sbItems ends l (k + 1) = sbItems ends l k ++ [sbItem ends l k] := by simp [sbItems, List.range_succ]
theorem sbItems_len (ends : Bool) (l : List UInt8) (k : Nat) : (sbItems ends l k).length = k := by simp [sbItems]
/-- k reads went well -/
def sbWell (ends : Bool) (l : List UInt8) (k : Nat) : Prop := ∀ j, j < k → (sbItem ends l j).2 = 0 ∧ sbPlace ends l j < l.length
theorem sbWell.place {ends : Bool} {l : List UInt8} : ∀ {k : Nat}, sbWell ends l k → 2 ≤ l.length → 2 + (k : Int) ≤ sbPlace ends l k ∧ sbPlace ends l k ≤ l.length
  | 0, _, h2 => by simp [sbPlace]; omega
  | k + 1, h, h2 => by
    have ih := sbWell.place (k := k) (fun j hj => h j (by omega)) h2
    have hk := sbRead_rng (h k (by omega)).1
    simp only [sbPlace]
    omega
def itemV (x : Item) : Array Value := #[.agg #[.string x.1.1, .int .i64 x.1.2], .int .i64 x.2]
def sbDone (ends : Bool) (l : List UInt8) (xs : List Item) : Prop :=
  ∃ k, xs = sbItems ends l k ∧ sbWell ends l k ∧ (l.length : Int) ≤ sbPlace ends l k ∨ xs = sbItems ends l (k + 1) ∧ sbWell ends l k ∧ sbPlace ends l k < l.length ∧ (sbItem ends l k).2 ≠ 0
def sbStop (ends : Bool) (l : List UInt8) (xs : List Item) : Prop := ∃ k, xs = sbItems ends l (k + 1) ∧ sbWell ends l k ∧ sbPlace ends l k < l.length

/-- A frame: the blocks below B, but those of a list, lie as they lay. -/
structure KeepsU (S : List Nat) (B : Nat) (w w' : World) : Prop where
  os : w'.os = w.os
  tape : w'.tape = w.tape
  output : w'.output = w.output
  size : w.heap.size ≤ w'.heap.size
  block : ∀ k, k < B → k ∉ S → w'.heap[k]? = w.heap[k]?
theorem KeepsU.refl (S : List Nat) (B : Nat) (w : World) : KeepsU S B w w := ⟨rfl, rfl, rfl, Nat.le_refl _, fun _ _ _ => rfl⟩
theorem KeepsU.trans {S : List Nat} {B : Nat} {a b c : World} (h : KeepsU S B a b) (k : KeepsU S B b c) : KeepsU S B a c :=
  ⟨k.os.trans h.os, k.tape.trans h.tape, k.output.trans h.output, Nat.le_trans h.size k.size, fun i hi hn => (k.block i hi hn).trans (h.block i hi hn)⟩
theorem KeepsU.below {S : List Nat} {B n : Nat} {w w' : World} (h : Below n w w') (hn : B ≤ n) : KeepsU S B w w' := ⟨h.os, h.tape, h.output, h.size, fun k hk _ => h.block k (by omega)⟩
theorem KeepsU.alloc {S : List Nat} {B : Nat} {a w : World} (h : KeepsU S B a w) (hB : B ≤ w.heap.size) (o : Obj) : KeepsU S B a (w.alloc o) :=
  h.trans (KeepsU.below ((Below.refl _ w).alloc (Nat.le_refl _) o) hB)
theorem KeepsU.setCell {S : List Nat} {B : Nat} {a w : World} (h : KeepsU S B a w) {p : Addr} (hp : p.block ∈ S ∨ B ≤ p.block) (u : Value) : KeepsU S B a (w.setCell p u) :=
  ⟨h.os, h.tape, h.output, by simpa [World.setCell] using h.size, fun k hk hn => (Below.heap_setCell _ _ _ _ (fun e => by
    rcases hp with hp | hp
    · exact hn (e ▸ hp)
    · omega)).trans (h.block k hk hn)⟩
theorem KeepsU.cell {S : List Nat} {B : Nat} {w w' : World} (h : KeepsU S B w w') {b o : Nat} (hb : b < B) (hn : b ∉ S) : w'.cell? ⟨b, o, none⟩ = w.cell? ⟨b, o, none⟩ := World.cell?_of_block (w := w) (h.block b hb hn)
theorem KeepsU.toBelow {S : List Nat} {B C : Nat} {w w' : World} (h : KeepsU S B w w') (hC : C ≤ B) (hS : ∀ k, k ∈ S → C ≤ k) : Below C w w' :=
  ⟨h.os, h.tape, h.output, h.size, fun k hk => h.block k (by omega) (fun hm => by have := hS k hm; omega)⟩
theorem Bs.keepsU {S : List Nat} {B : Nat} {w w' : World} {v : Value} {l : List UInt8} (h : Bs w v l) (hk : KeepsU S B w w') (ho : ∀ a n c, v = .slice (some a) n c → a.block < B ∧ a.block ∉ S) : Bs w' v l := by
  obtain ⟨a, c, rfl, h1, h2, h3, h4⟩ := h
  refine ⟨a, c, rfl, h1, h2, h3, fun ad had j u hu => ?_⟩
  subst had
  obtain ⟨hlt, hno⟩ := ho ad _ _ rfl
  have e : w'.cell? (ad.add j) = w.cell? (ad.add j) := World.cell?_of_block (w := w) (by
    have : (ad.add j).block = ad.block := by unfold Addr.add; split <;> rfl
    rw [this]
    exact hk.block _ hlt hno)
  rw [e]
  exact h4 ad rfl j u hu

theorem grown_of_below {w w' : World} (h : Below w.heap.size w w') : w.grownBy w' none := ⟨h.os, h.tape, h.output, h.size, fun k hk _ => h.block k hk⟩

set_option maxRecDepth 100000 in
set_option maxHeartbeats 4000000 in
theorem wishes1_in (n : Nat) (hn : 1 ≤ n) (lp Bb Be : Nat) (S : List Nat) (B : Nat) (v : Value) (l : List UInt8) (ends : Bool) (J Jx : List Item → World → Prop)
    (W : World) (hJ : AbidesFrom W.heap.size J)
    (hY : ∀ pre x W, J pre W → pre.length < l.length → YieldAt Fence.wide (n - 1) Tryd.prog lp (itemV x) W fun e W' =>
      (e = .returned (.bool true) ∧ J (pre ++ [x]) W' ∧ KeepsU S B W W') ∨ (e = .returned (.bool false) ∧ Jx (pre ++ [x]) W'))
    (hBb : W.cell? ⟨Bb, 0, none⟩ = some v) (hBe : W.cell? ⟨Be, 0, none⟩ = some (.bool ends)) (hv : Bs W v l) (hn0 : B ≤ W.heap.size) (hb0 : Bb < B ∧ Bb ∉ S) (he0 : Be < B ∧ Be ∉ S) (hvb : ∀ a n c, v = .slice (some a) n c → a.block < B ∧ a.block ∉ S)
    (hE : ∀ W', KeepsU S B W W' → EnvU W') (hl2 : 2 ≤ l.length) (hlm : l.length ≤ 140737488351232) (h0 : J [] W) :
    CallsIn Fence.wide n Tryd.prog 203 #[.func (.yield lp) #[] #[], .pointer (some ⟨Bb, 0, none⟩), .pointer (some ⟨Be, 0, none⟩)] W fun e W' => (∃ v, e = .returned v) ∧
      ((∃ ys, sbDone ends l ys ∧ J ys W') ∨ (∃ pre, sbStop ends l pre ∧ Jx pre W')) := by
  obtain ⟨a, c, rfl⟩ := hv.slice
  have HE := hd hE; have HV := hd hv; have HY := hd hY; clear hE hv hY
  refine callsIn_of_wp Tryd.func203 rfl trivial ?_ rfl
  simp only [Tryd.ntmps203, List.size_toArray, List.length_cons, List.length_nil, Nat.reduceAdd, Nat.reduceSub, Array.replicate_succ, Array.replicate_zero, List.push_toArray, List.append_toArray, List.nil_append, List.cons_append]
  gi_wp2
  gi_loopw [4] (fun p wr => ∃ k : Nat, p = .int .i64 (sbPlace ends l k) ∧ sbWell ends l k ∧ J (sbItems ends l k) wr ∧ KeepsU S B W wr)
    (fun p wr => leftTo l.length p)
  case atStart => exact ⟨0, rfl, fun j hj => by omega, h0, KeepsU.refl _ _ _⟩
  case round =>
    obtain ⟨k, rfl, hw, hJk, hB⟩ := hrel
    have hcb := (hB.cell hb0.1 hb0.2).trans hBb
    have hce := (hB.cell he0.1 he0.2).trans hBe
    have hBs := hB.size
    by_cases hpl : sbPlace ends l k < (l.length : Int)
    rotate_left
    · gi_wp2
      go_end0
      exact ⟨⟨_, rfl⟩, .inl ⟨_, ⟨k, .inl ⟨rfl, hw, by omega⟩⟩, hJk⟩⟩
    have hpk := hw.place hl2
    have hvr : Bs wr (.slice a l.length c) l := HV.out.keepsU hB hvb
    have hrd := read_c _ l (sbPlace ends l k) ends wr (HE.out _ hB) hvr (by omega)
    have hrr := @sbRead_rng l (sbPlace ends l k) ends
    have hpn : sbPlace ends l (k + 1) = (sbRead l (sbPlace ends l k) ends).2.1 := rfl
    have hit : sbItem ends l k = ((sbRead l (sbPlace ends l k) ends).1, (sbRead l (sbPlace ends l k) ends).2.2) := rfl
    have hY1 := HY.out (sbItems ends l k) (sbItem ends l k)
    rw [hit] at hY1
    have hdone : (sbItem ends l k).2 ≠ 0 → sbDone ends l (sbItems ends l k ++ [sbItem ends l k]) := fun h => ⟨k, .inr ⟨(sbItems_succ ends l k).symm, hw, hpl, h⟩⟩
    have hstop : sbStop ends l (sbItems ends l k ++ [sbItem ends l k]) := ⟨k, (sbItems_succ ends l k).symm, hw, hpl⟩
    have hnext : (sbItem ends l k).2 = 0 → sbWell ends l (k + 1) := fun h j hj => by
      rcases Nat.lt_succ_iff_lt_or_eq.1 hj with hj | rfl
      · exact hw j hj
      · exact ⟨h, hpl⟩
    have hsucc := sbItems_succ ends l k
    rw [hit] at hdone hstop hnext hsucc
    clear hit
    generalize sbRead l (sbPlace ends l k) ends = r at hrd hrr hpn hY1 hdone hstop hnext hsucc
    obtain ⟨⟨T, q⟩, tn, er⟩ := r
    unfold GivesRd at hrd
    simp only at hrd hrr hpn hY1 hdone hstop hnext hsucc
    have HRD := hd hrd; have HY1 := hd hY1; clear hrd hY1
    gi_wp2
    refine ⟨trivial, (callsIn_wide.2 HRD.out).mono ?_⟩
    rintro e w3 ⟨rfl, hb3⟩
    have hb3s := hb3.size
    have hJ3 : J (sbItems ends l k) (w3.alloc (.cells #[.string T, .int .i64 q] 58)) :=
      hJ _ _ _ none (hJ _ _ _ none hJk (grown_of_below hb3) (fun r e => by cases e)) (World.grownBy_alloc w3 _ none) (fun r e => by cases e)
    have hB3 : KeepsU S B W (w3.alloc (.cells #[.string T, .int .i64 q] 58)) := (hB.trans (KeepsU.below hb3 (by omega))).alloc (by omega) _
    obtain ⟨fn, tmps, assign, body, hy, hR⟩ := HY1.out _ hJ3 (by rw [sbItems_len]; omega)
    simp only [itemV] at hy
    clear HRD HY1 HY hb3 hJk hcb hce
    gi_wp2
    refine hR.mono ?_
    rintro e W3 (⟨rfl, hJ4, hk4⟩ | ⟨rfl, hJx4⟩)
    · by_cases hz : er = 0
      · subst hz
        obtain ⟨p0, p1, p2⟩ := hrr rfl
        gi_wp2
        go_roundw
        case rel => exact ⟨k + 1, by rw [hpn], hnext (by simp), by rw [hsucc]; exact hJ4, hB3.trans hk4⟩
        case measure => simp [leftTo]; omega
      · have hzb : (er != 0) = true := by simpa using hz
        gi_wp2
        refine bodyPost_ret (results_none rfl _ _ _) rfl ?_
        exact ⟨⟨_, rfl⟩, .inl ⟨_, hdone hz, hJ4⟩⟩
    · gi_wp2
      refine bodyPost_ret (results_none rfl _ _ _) rfl ?_
      exact ⟨⟨_, rfl⟩, .inr ⟨_, hstop, hJx4⟩⟩
end Go.Proofs.YtclicjokgfiegaaDoor

/- Wishes: what bytes tell: the walk of the program's Of, a loop over its iterator. -/
namespace Go.Proofs.YtclicjokgfiegaaDoor
open Go.RowKit Go.Shelf
set_option linter.unusedVariables false
set_option linter.unusedSimpArgs false
attribute [local go_sem] Oper.semAt_some

/-- []byte(s): where the new bytes lie. -/
theorem run_bytesW (s : ByteArray) (hs : s.size ≤ 140737488355327) (w : World) : ∃ c W', (convert 9 30 (.string s)).run Tryd.prog w = .ok (.slice (some ⟨w.heap.size, 0, none⟩) (sB s).length c) W' ∧ Bs W' (.slice (some ⟨w.heap.size, 0, none⟩) (sB s).length c) (sB s) ∧ Below w.heap.size w W' ∧ w.heap.size < W'.heap.size := by
  obtain ⟨c, W', hr, hB, hb⟩ := run_bytes s hs w
  refine ⟨c, W', hr, hB, hb, ?_⟩
  have h2 := Lib.run_convert_string_bytes w 9 30 5 s Tryd.underlying9 Tryd.underlying30 Tryd.underlying5
  rw [hr] at h2
  simp only [Result.ok.injEq] at h2
  rw [h2.2, Lib.bytesWorld_size]
  omega
set_option maxRecDepth 100000 in
theorem upon_bytesW {o : Oper} {a : Act} {K : Act → World → Prop} {Q : Exit → Act → World → Prop} {W : World} {s : ByteArray} {f : Value → World → Result Next} (hs : s.size ≤ 140737488355327)
    (h : ∀ ad c W', Bs W' (.slice (some ad) (sB s).length c) (sB s) → Below W.heap.size W W' → W.heap.size ≤ ad.block → ad.block < W'.heap.size → Oper.upon Tryd.prog o a K Q ((Result.ok (.slice (some ad) (sB s).length c) W').andThen f)) :
    Oper.upon Tryd.prog o a K Q ((Sem.run Tryd.prog (convert 9 30 (.string s)) W).andThen f) := by
  obtain ⟨c, W', hr, hB, hb, hl⟩ := run_bytesW s hs W
  rw [hr]
  exact h _ c W' hB hb (Nat.le_refl _) hl

set_option maxRecDepth 100000 in
theorem wishes_c (sa : Option Addr) (sn sc : Nat) (ends : Bool) (w : World) :
    Calls Tryd.prog 189 #[.slice sa sn sc, .bool ends] w fun e w' => e = .returned (.func (.func 203) #[] #[.pointer (some ⟨w.heap.size, 0, none⟩), .pointer (some ⟨w.heap.size + 1, 0, none⟩)]) ∧ w' = (w.alloc (.cells #[.slice sa sn sc] 30)).alloc (.cells #[.bool ends] 4) := by
  have hmf : ∀ (fn : Fn) (first cap : Array Value) (w : World), (Instr.makeFunc fn first cap).run Tryd.prog w = .ok (.func fn first cap) w := fun _ _ _ _ => rfl
  go_enter Tryd.func189, Tryd.ntmps189
  go_wp2_with fail
  go_ret
  exact ⟨rfl, rfl⟩

/-- a boxed wish -/
def Boxed2 (W : World) (B : Nat) (f : Wish) : Prop := W.heap[B]? = some (.cells #[.string f.1, .int .i64 f.2] 58 (0, 0))
theorem ownW_block {B : Nat} {w : World} {v : Value} {l : List Wish} (h : OwnW B w v l) : ∀ k, v.ownBlock = some k → B ≤ k ∧ ∃ o : Obj, w.heap[k]? = some o ∧ o.isCells = true := by
  rcases h.2 with ⟨rfl, _⟩ | ⟨g, cap, cur, rfl, hb, hg, _⟩
  · intro k e; cases e
  · intro k e
    cases e
    exact ⟨hb, _, hg, rfl⟩
theorem ownW_grown {B : Nat} {w w' : World} {row : Option Nat} {v : Value} {l : List Wish} (h : OwnW B w v l) (hg : w.grownBy w' row) (hne : ∀ k, v.ownBlock = some k → some k ≠ row) : OwnW B w' v l := by
  refine ⟨h.1, ?_⟩
  rcases h.2 with h0 | ⟨g, cap, cur, rfl, h1, h2, h3⟩
  · exact .inl h0
  · exact .inr ⟨g, cap, cur, rfl, h1, by rw [hg.block g (Array.getElem?_eq_some_iff.1 h2).1 (hne g rfl)]; exact h2, h3⟩
theorem not_row {B : Nat} {w : World} {row : Option Nat} (hr : ∀ r, row = some r → B ≤ r ∧ ∃ o : Obj, w.heap[r]? = some o ∧ o.isCells = false) : ∀ (k : Nat) (o : Obj), w.heap[k]? = some o → o.isCells = true → some k ≠ row := by
  intro k o ho hc e
  obtain ⟨_, o', ho', hc'⟩ := hr k e.symm
  rw [ho] at ho'
  cases ho'
  rw [hc] at hc'
  cases hc'
/-- append(out, f) of one wish, in a round. -/
theorem wpIn_appW1 {F : Fence} {n : Nat} {w : World} {ops : Array Oper} {rest : List Oper} {o : Oper} {a : Act} {Q : Exit → Act → World → Prop} (hgd : o.guard = none) (s x : Operand)
    (ho : o.op = .call { callee := .builtin .append, args := #[s, x], argTypes := #[26, 26] })
    (B : Nat) (v : Value) (l : List Wish) (hv : a.eval s = v) (hown : OwnW B w v l) (T : ByteArray) (X : Int) (hx : a.eval x = .slice (some ⟨w.heap.size, 0, none⟩) 1 1)
    (hlen : l.length < 1000000) (hbase : B ≤ w.heap.size)
    (h : ∀ v' w', OwnW B w' v' (l ++ [(T, X)]) → Below B w w' → KeepsOthers w w' → wpListIn F n Tryd.prog ops Q rest (a.put o.dst v') w') : wpListIn F n Tryd.prog ops Q (o :: rest) a (w.alloc (.cells #[.string T, .int .i64 X] 58)) := by
  obtain ⟨i0, hi, hz0, hz1, hz2⟩ := info_parts info_filter
  have hb : Below B w (w.alloc (.cells #[.string T, .int .i64 X] 58)) := (Below.refl B w).alloc hbase _
  have hb' : Below w.heap.size w (w.alloc (.cells #[.string T, .int .i64 X] 58)) := (Below.refl _ w).alloc (Nat.le_refl _) _
  have hown' : OwnW B (w.alloc (.cells #[.string T, .int .i64 X] 58)) v l := hown.kept hb' (Nat.le_refl _)
  have hbl := ownW_block hown'
  refine wpListIn_append_own _ hgd s x 26 ho B 58 i0 (.agg #[.string ⟨#[]⟩, .int .i64 0]) 2 24 Tryd.underlying26 hi hz0 hz1 hz2 rfl (by decide) v l.length (wCells l) hv hown' ⟨w.heap.size, 0, none⟩ 1 1 [.string T, .int .i64 X] hx rfl ?_ (by intro u hu; simp at hu; rcases hu with rfl | rfl <;> rfl) (by unfold maxLen; omega) (by omega) (by simp; omega) ?_
  · intro j u hu
    match j, hu with
    | 0, hu => cases hu; exact World.cell?_alloc_new w _ _ 0
    | 1, hu => cases hu; exact World.cell?_alloc_new w _ _ 1
    | j + 2, hu => simp at hu
  · intro v' w' h1 h2 _
    refine h v' w' ?_ (hb.grown h2 (by simp; omega) (fun k e => (hbl k e).1)) ((KeepsOthers.alloc w _).trans (KeepsOthers.of_grownBy h2 (fun j o e ho => by
      obtain ⟨_, o', ho', hc⟩ := hbl j e
      rw [ho'] at ho; cases ho; exact hc)))
    unfold OwnW
    rw [List.length_append, wCells_append]
    exact h1

theorem wishes_stops (n : Nat) (hn : 1 ≤ n) (Bb Be : Nat) (S : List Nat) (B : Nat) (v : Value) (l : List UInt8) (ends : Bool) (w : World)
    (hBb : w.cell? ⟨Bb, 0, none⟩ = some v) (hBe : w.cell? ⟨Be, 0, none⟩ = some (.bool ends)) (hv : Bs w v l) (hn0 : B ≤ w.heap.size) (hb0 : Bb < B ∧ Bb ∉ S) (he0 : Be < B ∧ Be ∉ S) (hvb : ∀ a n c, v = .slice (some a) n c → a.block < B ∧ a.block ∉ S)
    (hE : ∀ W', KeepsU S B w W' → EnvU W') (hl2 : 2 ≤ l.length) (hlm : l.length ≤ 140737488351232) :
    SeqStopsK Fence.wide n Tryd.prog 203 #[.pointer (some ⟨Bb, 0, none⟩), .pointer (some ⟨Be, 0, none⟩)] itemV (KeepsU S B) (sbDone ends l) (sbStop ends l) l.length w := fun lp J Jx W hW hJ hJx hY h0 =>
  wishes1_in n hn lp Bb Be S B v l ends J Jx W hJ hY ((hW.cell (p := ⟨Bb, 0, none⟩) (by simp; omega)).trans hBb) ((hW.cell (p := ⟨Be, 0, none⟩) (by simp; omega)).trans hBe)
    (hv.below' hW (Nat.le_refl _)) (Nat.le_trans hn0 hW.size) hb0 he0 hvb (fun W' hk => hE W' ((KeepsU.below hW hn0).trans hk)) hl2 hlm h0

/-! ### what the loop has come to -/
theorem sbAll_run {ends : Bool} {l : List UInt8} : ∀ {k : Nat}, k ≤ 8 → sbWell ends l k → sbAll ends l 9 [] 2 = sbAll ends l (9 - k) ((sbItems ends l k).map (·.1)) (sbPlace ends l k)
  | 0, _, _ => rfl
  | k + 1, hk, h => by
    have ih := sbAll_run (ends := ends) (l := l) (k := k) (by omega) (fun j hj => h j (by omega))
    obtain ⟨h1, h2⟩ := h k (by omega)
    have hlen : ((sbItems ends l k).map (·.1)).length = k := by rw [List.length_map, sbItems_len]
    have hm := @sbAll_more ends l ((sbItems ends l k).map (·.1)) (sbPlace ends l k) (by omega) h2 h1
    rw [hlen, List.length_append, hlen] at hm
    rw [ih, hm, sbItems_succ, List.map_append]
    rfl
theorem sbAll_done {ends : Bool} {l : List UInt8} {xs : List Item} (h : sbDone ends l xs) (h8 : xs.length ≤ 8) (h0 : ∀ x ∈ xs, x.2 = 0) : sbAll ends l 9 [] 2 = (xs.map (·.1), 0) := by
  obtain ⟨k, ⟨rfl, hw, hp⟩ | ⟨rfl, hw, hp, he⟩⟩ := h
  · rw [sbItems_len] at h8
    have hlen : ((sbItems ends l k).map (·.1)).length = k := by rw [List.length_map, sbItems_len]
    rw [sbAll_run h8 hw]
    have := @sbAll_end ends l ((sbItems ends l k).map (·.1)) (sbPlace ends l k) (by omega) hp
    rw [hlen] at this
    exact this
  · exact absurd (h0 _ (by rw [sbItems_succ]; simp)) he
theorem sbAll_stop {ends : Bool} {l : List UInt8} {ini : List Item} {x : Item} {bad : Int} (h : sbStop ends l (ini ++ [x])) (hb : ini.length = 8 ∧ bad = 6 ∨ ini.length < 8 ∧ x.2 ≠ 0 ∧ bad = x.2) : sbAll ends l 9 [] 2 = ([], bad) := by
  obtain ⟨k, hk, hw, hp⟩ := h
  rw [sbItems_succ] at hk
  have hi : ini = sbItems ends l k := (List.append_inj' hk rfl).1
  have hx : x = sbItem ends l k := by have := (List.append_inj' hk rfl).2; simpa using this
  subst hi hx
  have hlen : ((sbItems ends l k).map (·.1)).length = k := by rw [List.length_map, sbItems_len]
  rw [sbItems_len] at hb
  rcases hb with ⟨h8, rfl⟩ | ⟨h8, he, rfl⟩
  · rw [sbAll_run (by omega) hw]
    have := @sbAll_full ends l ((sbItems ends l k).map (·.1)) (sbPlace ends l k) (by omega) hp
    rw [hlen] at this
    exact this
  · rw [sbAll_run (by omega) hw]
    have := @sbAll_bad ends l ((sbItems ends l k).map (·.1)) (sbPlace ends l k) (by omega) hp he
    rw [hlen] at this
    exact this

theorem below_drewPut {w W : World} {D : Nat} (h : Below w.heap.size w W) (hD : w.heap.size ≤ D) (n : Nat) (o : Obj) : Below w.heap.size w ((W.drewN n).putObj D o) := by
  have h' : Below w.heap.size w (W.drewN n) := ⟨h.os, h.tape, h.output, h.size, h.block⟩
  exact h'.grown (grownBy_putObj' (W.drewN n) D o) h.size (fun k e => by cases e; exact hD)
/-- between two rounds · a round has left -/
structure SbI (w : World) (b n0 : Nat) (pre : List Item) (W : World) : Prop where
  row : ∃ v, Boxed W b 26 v ∧ OwnW n0 W v (pre.map (·.1))
  bad : Boxed W (b + 1) 31 (.int .i64 0)
  few : pre.length ≤ 8
  well : ∀ x ∈ pre, x.2 = 0
  b : Below w.heap.size w W
  size : n0 ≤ W.heap.size
structure SbIx (w : World) (b n0 : Nat) (c : Code) (xs : List Item) (W : World) : Prop where
  c : c = .exit 0
  why : ∃ ini x bad, xs = ini ++ [x] ∧ (ini.length = 8 ∧ bad = 6 ∨ ini.length < 8 ∧ x.2 ≠ 0 ∧ bad = x.2) ∧ bad ≠ 0 ∧ (∃ v n c, Boxed W b 26 (.slice v n c)) ∧ Boxed W (b + 1) 31 (.int .i64 bad)
  b : Below w.heap.size w W
  size : n0 ≤ W.heap.size

set_option maxRecDepth 100000 in
set_option maxHeartbeats 16000000 in
theorem subsOf_c (s : ByteArray) (ends : Bool) (w : World) (hE : EnvU w) (hs : s.size ≤ 140737488351232) :
    Calls Tryd.prog 152 #[.string s, .bool ends] w (GivesW w (sbOf (sB s) ends)) := by
  have HE := hd hE; clear hE
  have hsl : Hd ((sB s).length = s.size) := sB_len s
  have hbr := @sbBegin_rng (sB s)
  have hof : sbOf (sB s) ends = sbOf (sB s) ends := rfl
  conv at hof => rhs; rw [sbOf]
  generalize sbOf (sB s) ends = R at hof ⊢
  have HO := hd hof; clear hof
  refine (callsIn_wide (n := 8)).1 ?_
  refine callsIn_of_wp_marks Tryd.func152 rfl trivial ?_ rfl
  simp only [Tryd.ntmps152, List.size_toArray, List.length_cons, List.length_nil, Nat.reduceAdd, Nat.reduceSub, Array.replicate_succ, Array.replicate_zero, List.push_toArray, List.append_toArray, List.nil_append, List.cons_append]
  refine wpIn_wide.2 ?_
  go_wp2_with fail
  go_step3
  go_wp2_with fail
  refine (subBegin_c s _ hs).mono ?_
  generalize sbBegin (sB s) = g at hbr HO ⊢
  obtain ⟨id, e⟩ := g
  simp only at hbr HO ⊢
  rintro e' w1 ⟨rfl, hb⟩
  by_cases he : e = 0
  rotate_left
  · have heb : (e != 0) = true := by simpa using he
    go_wp2_with fail
    rw [Exit.noGoto_ret]
    exact ⟨_, results_tmp3 rfl _ _ _, GivesW.nil e (by rw [HO.out, if_pos he]) hb⟩
  subst he
  have h2l := (hbr rfl).1
  clear hbr
  have HO2 := hd (HO.out.trans (if_neg (by simp))); clear HO
  go_wp2_with fail
  go_step3
  go_wp2_with fail
  refine upon_bytesW (by omega) fun d1 k1 w2 hs2 hb2 hd0 hd1 => ?_
  go_wp2_with fail
  refine (wishes_c _ _ _ ends _).mono ?_
  rintro e' w3 ⟨rfl, rfl⟩
  have hw1 : w.heap.size ≤ w1.heap.size := hb.size
  have hb10 : Boxed (w1.alloc (Obj.cells #[.slice none 0 0] 26)) w1.heap.size 26 (.slice none 0 0) := Boxed.new _ _ _
  have bL : Boxed ((w2.alloc (.cells #[.slice (some d1) (sB s).length k1] 30)).alloc (.cells #[.bool ends] 4)) w1.heap.size 26 (.slice none 0 0) :=
    Boxed.alloc (Boxed.alloc ((hb2.block _ (by simp; omega)).trans (hb10.alloc _)) _) _
  have bE : Boxed ((w2.alloc (.cells #[.slice (some d1) (sB s).length k1] 30)).alloc (.cells #[.bool ends] 4)) (w1.heap.size + 1) 31 (.int .i64 0) := by
    have h := Boxed.new (w1.alloc (Obj.cells #[.slice none 0 0] 26)) 31 (.int .i64 0)
    rw [World.size_alloc] at h
    exact Boxed.alloc (Boxed.alloc ((hb2.block _ (by simp)).trans h) _) _
  have hs2s : w1.heap.size + 2 ≤ w2.heap.size := by have := hb2.size; simp at this; omega
  simp only [World.size_alloc] at hd0
  have hbW : Below w.heap.size w ((w2.alloc (.cells #[.slice (some d1) (sB s).length k1] 30)).alloc (.cells #[.bool ends] 4)) :=
    ((Below.up (by go_grown) hb2).box).box
  have hcb : ((w2.alloc (.cells #[.slice (some d1) (sB s).length k1] 30)).alloc (.cells #[.bool ends] 4)).cell? ⟨w2.heap.size, 0, none⟩ = some (.slice (some d1) (sB s).length k1) := by simp [go_sem]
  have hce : ((w2.alloc (.cells #[.slice (some d1) (sB s).length k1] 30)).alloc (.cells #[.bool ends] 4)).cell? ⟨w2.heap.size + 1, 0, none⟩ = some (.bool ends) := by simp [go_sem]
  have hv : Bs ((w2.alloc (.cells #[.slice (some d1) (sB s).length k1] 30)).alloc (.cells #[.bool ends] 4)) (.slice (some d1) (sB s).length k1) (sB s) := hs2.below' (((Below.refl w2.heap.size w2).alloc (Nat.le_refl _) _).alloc (by simp) _) (Nat.le_refl _)
  have hsz : ((w2.alloc (.cells #[.slice (some d1) (sB s).length k1] 30)).alloc (.cells #[.bool ends] 4)).heap.size = w2.heap.size + 2 := by simp
  have hll : (sB s).length ≤ 140737488351232 := by rw [hsl.out]; exact hs
  go_wp2_with fail
  obtain ⟨W0, hW0⟩ : ∃ W0, (w2.alloc (.cells #[.slice (some d1) (sB s).length k1] 30)).alloc (.cells #[.bool ends] 4) = W0 := ⟨_, rfl⟩
  rw [hW0] at bL bE hbW hcb hce hv hsz ⊢
  clear hW0 hb10 hs2 hb2 hsl
  generalize sB s = l at *
  refine (wpIn_wide (n := 8)).1 ?_
  refine wpIn_rangeFunc_ownH (F := Fence.wide) rfl (by omega) (gf := 203) (lb := #[.pointer (some ⟨w2.heap.size, 0, none⟩), .pointer (some ⟨w2.heap.size + 1, 0, none⟩)]) rfl trivial (enters_of Tryd.func203 (by kernel_rfl) rfl)
    (wishes_stops (8 - 1) (by omega) w2.heap.size (w2.heap.size + 1) [w1.heap.size, w1.heap.size + 1] W0.heap.size (.slice (some d1) l.length k1) l ends W0 hcb hce hv (Nat.le_refl _) ⟨by omega, by simp; omega⟩ ⟨by omega, by simp; omega⟩
      (fun a n c e => by cases e; exact ⟨by omega, by simp; omega⟩) (fun W' hk => HE.out.below (hbW.trans (hk.toBelow (by omega) (fun k hk => by simp at hk; omega)))) h2l hll)
    (fun h k => h.trans k) (fun W lk o o' hl hW hc hwk => by
      obtain ⟨g1, g2, g3, g4, g5⟩ := grownBy_putObj' W lk o'
      have hlt := (Array.getElem?_eq_some_iff.1 hW).1
      exact ⟨g1, g2, g3, g4, fun k hk _ => g5 k (by omega) (by simp; omega)⟩) (Below.refl _ _) (fun _ => rfl)
    (SbI w w1.heap.size W0.heap.size) (SbIx w w1.heap.size W0.heap.size)
    ?hI ?hIx ⟨⟨_, bL, OwnW.nil _ _⟩, bE, by simp, by simp, hbW, Nat.le_refl _⟩
    (fun x a' W => ∃ Bx, W0.heap.size ≤ Bx ∧ Boxed2 W Bx x.1 ∧ a' = { tmps := #[.string s, .bool ends, undef, undef, .int .i64 0, .slice none 0 0, .int .i64 0, .int .i64 id, .int .i64 0, .pointer (some ⟨w1.heap.size, 0, none⟩), .pointer (some ⟨w1.heap.size + 1, 0, none⟩), .pointer (some ⟨Bx, 0, none⟩), .int .i64 x.2, .tuple #[.int .i64 id, .int .i64 0], .string s, .tuple #[.int .i64 id, .int .i64 0], .int .i64 id, .int .i64 0, .int .i64 0, .bool false, undef, .string s, .slice (some d1) l.length k1, .bool ends, .func (.func 203) #[] #[.pointer (some ⟨w2.heap.size, 0, none⟩), .pointer (some ⟨w2.heap.size + 1, 0, none⟩)], .agg #[.string x.1.1, .int .i64 x.1.2], .int .i64 x.2, undef, undef, undef, undef, undef, undef, undef, undef, undef, undef, undef, undef, undef, undef, undef, undef, undef, undef, undef, undef, undef, undef], defers := [] })
    ?hAx ?assign ?body ?done ?stop
  all_goals (have Hsz := hd hsz; clear hsz)
  case hI =>
    intro pre A B row hs hg hr
    have hq := Hsz.out
    obtain ⟨⟨v, b1, ow⟩, b2, hp8, hp0, hbb, hz⟩ := hs
    have hne := not_row hr
    exact ⟨⟨v, b1.kept hg (hne _ _ b1 rfl), ownW_grown ow hg (fun k e => by obtain ⟨_, o, ho, hc⟩ := ownW_block ow k e; exact hne _ _ ho hc)⟩, b2.kept hg (hne _ _ b2 rfl), hp8, hp0, hbb.grown hg hbb.size (fun k e => by have := (hr k e).1; omega), Nat.le_trans hz hg.size⟩
  case hIx =>
    intro c pre A B row hs hg hr
    have hq := Hsz.out
    obtain ⟨hc, ⟨ini, x, bad, h1, h2, h3, ⟨v, n, cc, b1⟩, b2⟩, hbb, hz⟩ := hs
    have hne := not_row hr
    exact ⟨hc, ⟨ini, x, bad, h1, h2, h3, ⟨v, n, cc, b1.kept hg (hne _ _ b1 rfl)⟩, b2.kept hg (hne _ _ b2 rfl)⟩, hbb.grown hg hbb.size (fun k e => by have := (hr k e).1; omega), Nat.le_trans hz hg.size⟩
  case hAx =>
    intro x a' u A B row hs hg hr
    obtain ⟨Bx, h1, h2, h3⟩ := hs
    exact ⟨Bx, h1, (hg.block Bx (Array.getElem?_eq_some_iff.1 h2).1 (not_row hr _ _ h2 rfl)).trans h2, h3⟩
  case assign =>
    rintro lp pre x W K ⟨⟨v, b1, ow⟩, b2, hp8, hp0, hbb, hz⟩ hK
    obtain ⟨⟨T, q⟩, er⟩ := x
    simp only [itemV]
    gi_wp2
    exact hK _ _ ((KeepsOthers.alloc _ _).from _) ((KeepsU.refl _ _ _).alloc hz _) ⟨⟨v, b1.alloc _, ow.kept ((Below.refl _ _).alloc (Nat.le_refl _) _) (Nat.le_refl _)⟩, b2.alloc _, hp8, hp0, hbb.alloc hbb.size _, by simp; omega⟩ ⟨W.heap.size, hz, World.alloc_heap_new W _, rfl⟩
  case body =>
    rintro lp pre x a' W hlw ⟨r, hr⟩ ⟨⟨v, b1, ow⟩, b2, hp8, hp0, hbb, hz⟩ ⟨Bx, hBx, bX, rfl⟩ hlt
    have hsz' := Hsz.out
    have hq9 : w1.heap.size + 1 < W0.heap.size := by omega
    clear hsz'
    obtain ⟨⟨T, q⟩, er⟩ := x
    obtain ⟨va, vc, rfl⟩ := ow.ws.slice
    simp only [List.length_map] at b1 ow
    have hc1 := b1.cell; have hf1 := b1.frozen; have hc2 := b2.cell; have hf2 := b2.frozen
    have hx0 : W.cell? ⟨Bx, 0, none⟩ = some (.string T) := by simp [World.cell?, show W.heap[Bx]? = _ from bX]
    have hx1 : W.cell? ⟨Bx, 1, none⟩ = some (.int .i64 q) := by simp [World.cell?, show W.heap[Bx]? = _ from bX]
    by_cases h8 : pre.length = 8
    · have h8b : (8 : Int) ≤ (pre.length : Int) := by omega
      dsimp only
      gi_wp2
      exact ⟨(KeepsOthers.setCell _ _ _).from _, rfl, ⟨pre, _, 6, rfl, .inl ⟨h8, rfl⟩, by decide, ⟨_, _, _, b1.kept (grownBy_setCell' W (w1.heap.size + 1) _) (by simp)⟩, b2.set _⟩, hbb.setCell (by simp; omega) _, by simpa using hz⟩
    have h8b : ¬ (8 : Int) ≤ (pre.length : Int) := by omega
    by_cases he : er = 0
    rotate_left
    · have heb : (er != 0) = true := by simpa using he
      dsimp only
      gi_wp2
      exact ⟨(KeepsOthers.setCell _ _ _).from _, rfl, ⟨pre, _, er, rfl, .inr ⟨by omega, he, rfl⟩, he, ⟨_, _, _, b1.kept (grownBy_setCell' W (w1.heap.size + 1) _) (by simp)⟩, b2.set _⟩, hbb.setCell (by simp; omega) _, by simpa using hz⟩
    subst he
    have hlm : (pre.map (·.1)).length < 1000000 := by simp; omega
    dsimp only
    have hle : (pre.map (·.1) ++ [(T, q)]).length = pre.length + 1 := by simp
    have Hle := hd hle; clear hle
    gi_wp2_with (gi_at_builtin; refine wpIn_appW1 rfl _ _ rfl W0.heap.size _ (pre.map (·.1)) rfl ow T q rfl hlm hz ?_; intro v' w' ho' hb' hk'; obtain ⟨a', c', rfl⟩ := ho'.ws.slice; rw [Hle.out] at ho' ⊢; have hc' := (bcell hb' w1.heap.size 0 (by omega)).trans hc1; have hf' := (bfree hb' w1.heap.size 0 (by omega)).trans hf1)
    have bL' : Boxed w' w1.heap.size 26 (.slice va pre.length vc) := (hb'.block _ (by omega)).trans b1
    have bE' : Boxed w' (w1.heap.size + 1) 31 (.int .i64 0) := (hb'.block _ (by omega)).trans b2
    refine ⟨(hk'.trans (KeepsOthers.setCell _ _ _)).from _, (KeepsU.below hb' (Nat.le_refl _)).setCell (.inl (by simp)) _, ⟨_, bL'.set _, ?_⟩, bE'.kept (grownBy_setCell' w' w1.heap.size _) (by simp), by simp; omega, ?_, (hbb.trans (hb'.mono (by omega))).setCell (by simp; omega) _, ?_⟩
    · rw [List.map_append]
      exact ownW_grown ho' (grownBy_setCell' w' w1.heap.size _) (fun k e => by have := (ownW_block ho' k e).1; simp; omega)
    · intro y hy
      rcases List.mem_append.1 hy with hy | hy
      · exact hp0 y hy
      · simp at hy; subst hy; rfl
    · have := hb'.size; simp; omega
  case done =>
    rintro D xs W hD hS ⟨⟨v, b1, ow⟩, b2, hp8, hp0, hbb, hz⟩ hK
    have hall := sbAll_done hS hp8 hp0
    have HO3 := HO2.out; clear HO2
    rw [hall, if_neg (by simp)] at HO3
    simp only at HO3
    obtain ⟨va, vc, rfl⟩ := ow.ws.slice
    have hc1 := b1.cell; have hc2 := b2.cell
    have HO4 := hd HO3; clear HO3
    by_cases hx : xs.map (·.1) = []
    · rw [hx] at hc1 ow HO4
      go_wp2_with fail
      refine ⟨by simp, .inl ⟨_, _, rfl, run_takeDeferred hK, ?_⟩⟩
      exact ⟨_, results_tmp3 rfl _ _ _, GivesW.nil 4 (by rw [HO4.out]; simp) (hbb.grown (grownBy_putObj' W D _) hbb.size (fun k e => by cases e; have := Hsz.out; omega))⟩
    · have hxl : ((xs.map (·.1)).length : Int) ≠ 0 := by
        intro e
        exact hx (List.eq_nil_of_length_eq_zero (by omega))
      have hle : (xs.map (·.1)).length = xs.length := List.length_map ..
      rw [hle] at hxl hc1 ow
      have hxb : ((xs.length : Int) == 0) = false := by simpa using hxl
      have Hx := hd hx; clear hx hxl hle
      go_wp2_with fail
      go_quiet (fail)
      go_wp2_with fail
      rw [Exit.noGoto_ret]
      refine ⟨by simp, .inl ⟨_, _, rfl, run_takeDeferred (show _ from hK), ?_⟩⟩
      refine ⟨_, results_tmp3 rfl _ _ _, ?_⟩
      rw [HO4.out, if_neg Hx.out]
      refine ⟨_, rfl, ?_, ?_⟩
      · exact (ownW_grown (show OwnW W0.heap.size (W.drewN _) _ _ from ow) (grownBy_putObj' _ D _) (fun k e => by
          obtain ⟨_, o, ho, hcl⟩ := ownW_block ow k e
          intro ek
          cases ek
          rw [hK] at ho
          cases ho
          cases hcl)).le hbW.size
      · exact (show Below w.heap.size w (W.drewN _) from ⟨hbb.os, hbb.tape, hbb.output, hbb.size, hbb.block⟩).grown (grownBy_putObj' _ D _) hbb.size (fun k e => by cases e; have := Hsz.out; omega)
  case stop =>
    rintro D c pre W hD hS ⟨rfl, ⟨ini, x, bad, rfl, hbad, hb0, ⟨va, vn, vc, b1⟩, b2⟩, hbb, hz⟩ hK
    have hall := sbAll_stop hS hbad
    have HO3 := HO2.out; clear HO2
    rw [hall, if_pos hb0] at HO3
    have HO4 := hd HO3; clear HO3
    have hc1 := b1.cell; have hc2 := b2.cell
    have hbb0 : (bad != 0) = true := by simpa using hb0
    refine wpIn_wide.2 ?_
    go_wp2_with fail
    go_quiet (fail)
    go_wp2_with fail
    rw [Exit.noGoto_ret]
    refine ⟨by simp, .inl ⟨_, _, rfl, run_takeDeferred (show _ from hK), ?_⟩⟩
    refine ⟨_, results_tmp3 rfl _ _ _, ?_⟩
    have hfin : Below w.heap.size w ((W.drewN nq).putObj D (Obj.deferred none)) := below_drewPut hbb (by have := Hsz.out; omega) _ _
    exact GivesW.nil bad HO4.out hfin
end Go.Proofs.YtclicjokgfiegaaDoor

/- Packets: told: the ways of telling: the walks. -/
namespace Go.Proofs.YtclicjokgfiegaaDoor
open Go.RowKit
set_option linter.unusedVariables false
set_option linter.unusedSimpArgs false

theorem WrapAt.setL {w : World} {g : Nat} {L : List Value} {f : Int} {b : List UInt8} (h : WrapAt w g L f b) (i : Nat) (v : Value) (hi : i < 24) : WrapAt (w.setCell ⟨g, i, none⟩ v) g (L.set i v) f b := by
  refine ⟨?_, by rw [List.length_set]; exact h.len, h.free.set _ _⟩
  have e : wrapL (L.set i v) f b = (wrapL L f b).set i v := by
    unfold wrapL
    rw [List.set_append_left _ _ (by rw [h.len]; exact hi)]
  rw [e]
  exact h.at'.set i v (by unfold wrapL; simp [h.len]; omega)
theorem sbAll_len (ends : Bool) (l : List UInt8) : ∀ (n : Nat) (a : List Wish) (at' : Int), (sbAll ends l n a at').1.length ≤ a.length + n
  | 0, a, _ => by simp [sbAll]
  | n + 1, a, at' => by
    unfold sbAll
    split
    · simp
    · split
      · simp
      · split
        · simp
        · have := sbAll_len ends l n (a ++ [(sbRead l at' ends).1]) (sbRead l at' ends).2.1
          simp at this
          omega
theorem sbOf_len (l : List UInt8) (ends : Bool) : (sbOf l ends).2.1.length ≤ 9 := by
  have := sbAll_len ends l 9 [] 2
  unfold sbOf
  split
  · simp
  · split
    · simp
    · split
      · simp
      · simpa using this
theorem sbCodes_len : ∀ (l : List UInt8) (a : List Int), (sbCodes a l).1.length ≤ a.length + l.length
  | [], a => by simp [sbCodes]
  | b :: t, a => by
    unfold sbCodes
    split
    · simp
    · have := sbCodes_len t (a ++ [(b.toNat : Int)])
      simp at this
      simp; omega
theorem sbOfAck_len (l : List UInt8) : (sbOfAck l).2.1.length ≤ 8 := by
  unfold sbOfAck
  split
  · simp
  · split
    · simp
    · rename_i h
      have hm : l.length ≤ 10 := by
        unfold sbMany at h
        by_cases h1 : (l.length : Int) - 2 < 1
        · rw [if_pos h1] at h; simp at h
        · rw [if_neg h1] at h
          by_cases h2 : 8 < (l.length : Int) - 2
          · rw [if_pos h2] at h; simp at h
          · omega
      split
      · simp
      · have := sbCodes_len (l.drop 2) []
        simp at this
        simp only
        omega
/-- What lies behind a packet's cells is the call's own. -/
structure PacOwn (B : Nat) (w : World) (p : Pac) (vf vc : Value) : Prop where
  f : OwnW B w vf p.fs
  c : OwnI B w vc p.cs
  lf : p.fs.length * 24 ≤ 140737488351232
  lc : p.cs.length * 8 ≤ 140737488351232
theorem PacOwn.rd {B : Nat} {w : World} {p : Pac} {vf vc : Value} (h : PacOwn B w p vf vc) : PacRd w p vf vc := ⟨Owns.rd h.f, Owns.rd h.c, h.lf, h.lc⟩
theorem PacOwn.le {B B' : Nat} {w : World} {p : Pac} {vf vc : Value} (h : PacOwn B w p vf vc) (hB : B' ≤ B) : PacOwn B' w p vf vc := ⟨Owns.le h.f hB, Owns.le h.c hB, h.lf, h.lc⟩
theorem PacOwn.kept {B B' : Nat} {w w' : World} {p : Pac} {vf vc : Value} (h : PacOwn B w p vf vc) (hb : Below B' w w') (hB : w.heap.size ≤ B') : PacOwn B w' p vf vc := ⟨Owns.kept h.f hb hB, Owns.kept h.c hb hB, h.lf, h.lc⟩
theorem PacOwn.keeps {S : List Nat} {B : Nat} {w w' : World} {p : Pac} {vf vc : Value} (h : PacOwn B w p vf vc) (hk : Keeps S w w') (hS : ∀ k, k ∈ S → k < B) : PacOwn B w' p vf vc := ⟨Owns.keeps h.f hk hS, Owns.keeps h.c hk hS, h.lf, h.lc⟩
theorem PacOwn.nil (B : Nat) (w : World) {p : Pac} (hf : p.fs = []) (hc : p.cs = []) : PacOwn B w p Nl Nl := ⟨by rw [hf]; exact OwnW.nil _ _, by rw [hc]; exact OwnI.nil _ _, by rw [hf]; simp, by rw [hc]; simp⟩
/-- What a way of telling leaves. -/
def TellsL (w : World) (g : Nat) (f : Int) (b : List UInt8) (r : Pac × Int) (e : Ending) (w' : World) : Prop :=
  ∃ vf vc, e = .returned (.int .i64 r.2) ∧ WrapAt w' g (r.1.cells vf vc) f b ∧ PacOwn w.heap.size w' r.1 vf vc ∧ Keeps [g] w w'
theorem Keeps.next {S T : List Nat} {a b c : World} (h : Keeps S a b) (k : Keeps T b c) (hT : ∀ i, i ∈ T → i ∈ S ∨ a.heap.size ≤ i) : Keeps S a c :=
  ⟨k.os.trans h.os, k.tape.trans h.tape, k.output.trans h.output, Nat.le_trans h.size k.size, fun i hi hn => (k.block i (Nat.lt_of_lt_of_le hi h.size) (fun hm => by
    rcases hT i hm with h1 | h1
    · exact hn h1
    · omega)).trans (h.block i hi hn)⟩
def zM : List Value := [.string ⟨#[]⟩, .string ⟨#[]⟩, .int .i64 0, .bool false]
set_option maxRecDepth 100000 in
theorem alloc_msg (W : World) : (Instr.alloc 23 true (.tuple #[])).run Tryd.prog W = .ok (.pointer (some ⟨W.heap.size, 0, none⟩)) (W.alloc (.cells zM.toArray 23)) := by
  simp [Instr.alloc, newVar, go_sem, zM]
set_option maxRecDepth 100000 in
set_option maxHeartbeats 8000000 in
theorem ofConnect_c (k : Int) (g : Nat) (f : Int) (b : List UInt8) (w : World) (hW : WrapAt w g ((zP k).cells Nl Nl) f b) (hb : b.length ≤ 140737488351232) (hE : EnvU w) :
    Calls Tryd.prog 105 #[.pointer (some ⟨g, 0, none⟩)] w (TellsL w g f b ({ zP k with c := (cOf b).1 }, (cOf b).2)) := by
  have HW := hd hW
  have hsz : (sOf b).size ≤ 140737488351232 := by rw [sOf_sizeP]; exact hb
  have cb := HW.out.cb
  have HE := hd hE; clear hE hW
  go_enter Tryd.func105, Tryd.ntmps105
  go_wp2_with fail
  refine (conOf_c (sOf b) _ HE.out hsz).mono ?_
  rintro e w1 ⟨rfl, hb1⟩
  have h1 := HW.out.keep hb1 HW.out.lt
  clear cb
  go_wp2_with (first
    | ((with_reducible refine wpl_at (o := ⟨none, .store 25 (.tmp 14) (.tmp 10), _, _, _, _⟩) ?_); refine wpl_storeMid rfl rfl _ _ _ rfl g 7 (cOf b).1.cells _ (wrapL (({ zP k with c := (cOf b).1 } : Pac).cells Nl Nl) f b) rfl rfl info_con (Con.one _) h1.at' rfl (by show 7 + 13 ≤ 26; decide) h1.free ?_; intro w5 h5 f5 k5 z5))
  go_ret
  exact ⟨Nl, Nl, rfl, ⟨h5, rfl, f5⟩, PacOwn.nil _ _ rfl rfl, (Keeps.below hb1).trans k5⟩

set_option maxRecDepth 100000 in
set_option maxHeartbeats 8000000 in
theorem ofConnack_c (k : Int) (g : Nat) (f : Int) (b : List UInt8) (w : World) (hW : WrapAt w g ((zP k).cells Nl Nl) f b) (hb : b.length ≤ 140737488351232) :
    Calls Tryd.prog 106 #[.pointer (some ⟨g, 0, none⟩)] w (TellsL w g f b ({ zP k with pr := (aOf b).1, code := (aOf b).2.1 }, (aOf b).2.2)) := by
  have HW := hd hW
  have hsz : (sOf b).size ≤ 140737488351232 := by rw [sOf_sizeP]; exact hb
  have cb := HW.out.cb
  clear hW
  go_enter Tryd.func106, Tryd.ntmps106
  go_wp2_with fail
  refine (OfAck_c (sOf b) _).mono ?_
  rintro e w1 ⟨rfl, hb1⟩
  have h1 := HW.out.keep hb1 HW.out.lt
  clear cb
  have c20 := h1.cell (j := 20) (u := .bool false) rfl
  have c21 := h1.cell (j := 21) (u := .int .i64 0) rfl
  have f20 := h1.free 20
  have f21 := h1.free 21
  go_wp2_with fail
  go_ret
  exact ⟨Nl, Nl, rfl, (h1.setL 20 _ (by decide)).setL 21 _ (by decide), PacOwn.nil _ _ rfl rfl, (((Keeps.below hb1).setCell (.inl (by simp)) _).setCell (.inl (by simp)) _)⟩

set_option maxRecDepth 100000 in
set_option maxHeartbeats 8000000 in
theorem ofId_c (k : Int) (g : Nat) (f : Int) (b : List UInt8) (w : World) (hW : WrapAt w g ((zP k).cells Nl Nl) f b) (hb : b.length ≤ 140737488351232) :
    Calls Tryd.prog 108 #[.pointer (some ⟨g, 0, none⟩)] w (TellsL w g f b ({ zP k with id := (pOfId b).1 }, (pOfId b).2)) := by
  have HW := hd hW
  have hsz : (sOf b).size ≤ 140737488351232 := by rw [sOf_sizeP]; exact hb
  have cb := HW.out.cb
  clear hW
  go_enter Tryd.func108, Tryd.ntmps108
  go_wp2_with fail
  refine (OfId_c (sOf b) _ hsz).mono ?_
  rintro e w1 ⟨rfl, hb1⟩
  have h1 := HW.out.keep hb1 HW.out.lt
  clear cb
  have c1 := h1.cell (j := 1) (u := .int .i64 0) rfl
  have f1 := h1.free 1
  go_wp2_with fail
  go_ret
  exact ⟨Nl, Nl, rfl, h1.setL 1 _ (by decide), PacOwn.nil _ _ rfl rfl, ((Keeps.below hb1).setCell (.inl (by simp)) _)⟩

set_option maxRecDepth 100000 in
set_option maxHeartbeats 8000000 in
theorem ofSuback_c (k : Int) (g : Nat) (f : Int) (b : List UInt8) (w : World) (hW : WrapAt w g ((zP k).cells Nl Nl) f b) (hb : b.length ≤ 140737488351232) :
    Calls Tryd.prog 110 #[.pointer (some ⟨g, 0, none⟩)] w (TellsL w g f b ({ zP k with id := (sbOfAck b).1, cs := (sbOfAck b).2.1 }, (sbOfAck b).2.2)) := by
  have HW := hd hW
  have hsz : (sOf b).size ≤ 140737488351232 := by rw [sOf_sizeP]; exact hb
  have cb := HW.out.cb
  clear hW
  go_enter Tryd.func110, Tryd.ntmps110
  go_wp2_with fail
  refine (subOfAck_c (sOf b) _ hsz).mono ?_
  rintro e w1 ⟨v, rfl, ho1, hb1⟩
  have h1 := HW.out.keep hb1 HW.out.lt
  clear cb
  have hl := sbOfAck_len b
  have ho : OwnI w.heap.size w1 v (sbOfAck b).2.1 := ho1
  obtain ⟨va, vc, rfl⟩ := Owns.slice ho
  have c1 := h1.cell (j := 1) (u := .int .i64 0) rfl
  have c23 := h1.cell (j := 23) (u := .slice none 0 0) rfl
  have f1 := h1.free 1
  have f23 := h1.free 23
  have HO := hd ho
  clear ho1 ho
  go_wp2_with fail
  go_ret
  have hlt := HW.out.lt
  refine ⟨Nl, _, rfl, (h1.setL 1 _ (by decide)).setL 23 _ (by decide), ⟨OwnW.nil _ _, Owns.set (Owns.set HO.out (by exact hlt) _) (by exact hlt) _, by simp [zP, Pac.zero], ?_⟩, (((Keeps.below hb1).setCell (.inl (by simp)) _).setCell (.inl (by simp)) _)⟩
  show (sbOfAck b).2.1.length * 8 ≤ 140737488351232
  omega

set_option maxRecDepth 100000 in
set_option maxHeartbeats 8000000 in
theorem ofNothing_c (k : Int) (g : Nat) (f : Int) (b : List UInt8) (w : World) (hW : WrapAt w g ((zP k).cells Nl Nl) f b) (hb : b.length ≤ 140737488351232) :
    Calls Tryd.prog 111 #[.pointer (some ⟨g, 0, none⟩)] w (TellsL w g f b (zP k, if b.isEmpty then 0 else 4)) := by
  have HW := hd hW
  have hsz : (sOf b).size ≤ 140737488351232 := by rw [sOf_sizeP]; exact hb
  have cb := HW.out.cb
  clear hW
  by_cases hbe : b = []
  · have hne : (!(sOf b).toList.isEmpty) = false := by
      have := neq_empty (sOf b)
      rw [this]
      show (!b.isEmpty) = false
      rw [hbe]; rfl
    have hr : (if b.isEmpty = true then (0 : Int) else 4) = 0 := by rw [hbe]; rfl
    rw [hr]
    clear hr hbe
    go_enter Tryd.func111, Tryd.ntmps111
    go_wp2_with fail
    go_ret
    exact ⟨Nl, Nl, rfl, HW.out, PacOwn.nil _ _ rfl rfl, Keeps.refl _ _⟩
  · have hne : (!(sOf b).toList.isEmpty) = true := by
      have := neq_empty (sOf b)
      rw [this]
      show (!b.isEmpty) = true
      cases b with
      | nil => exact absurd rfl hbe
      | cons x t => rfl
    have hr : (if b.isEmpty = true then (0 : Int) else 4) = 4 := by
      cases b with
      | nil => exact absurd rfl hbe
      | cons x t => rfl
    rw [hr]
    clear hr
    go_enter Tryd.func111, Tryd.ntmps111
    go_wp2_with fail
    go_ret
    exact ⟨Nl, Nl, rfl, HW.out, PacOwn.nil _ _ rfl rfl, Keeps.refl _ _⟩

set_option maxRecDepth 100000 in
set_option maxHeartbeats 8000000 in
theorem ofPublish_c (k : Int) (g : Nat) (f : Int) (b : List UInt8) (w : World) (hW : WrapAt w g ((zP k).cells Nl Nl) f b) (hb : b.length ≤ 140737488351232) (hE : EnvU w) (hH : EnvH w) :
    Calls Tryd.prog 107 #[.pointer (some ⟨g, 0, none⟩)] w (TellsL w g f b ({ zP k with tp := sOf (pOf b (hQos f)).1, tx := sOf (pOf b (hQos f)).2.1, q := pOfQ b (hQos f), rt := hRet f, dup := hDup f, id := (pOf b (hQos f)).2.2.1 }, (pOf b (hQos f)).2.2.2)) := by
  have HW := hd hW
  have hsz : (sOf b).size ≤ 140737488351232 := by rw [sOf_sizeP]; exact hb
  have cb := HW.out.cb
  have HE := hd hE; have HH := hd hH; clear hE hH hW
  have c24 := HW.out.cf
  obtain ⟨X, Y, I, E, hP⟩ : ∃ X Y I E, pOf b (hQos f) = (X, Y, I, E) := ⟨_, _, _, _, rfl⟩
  obtain ⟨q, hq⟩ : ∃ q, pOfQ b (hQos f) = q := ⟨_, rfl⟩
  have hpo := fun W hW => pubOf_c (sOf b) (hQos f) W hW hsz
  have hsb : sB (sOf b) = b := rfl
  unfold GivesM at hpo
  rw [hsb, hP, hq] at hpo
  have HPO := hd hpo
  rw [hP, hq]
  clear hpo hP hq
  go_enter Tryd.func107, Tryd.ntmps107
  go_wp2_with fail
  refine (Told_c f _ HH.out).mono ?_
  rintro e w' ⟨rfl, rfl⟩
  go_wp2_with fail
  refine (HPO.out _ HE.out).mono ?_
  rintro e w1 ⟨rfl, hb1⟩
  have h1 := HW.out.keep hb1 HW.out.lt
  have hlt := h1.lt
  clear cb c24
  have hone4 : ∀ v ∈ ([.string (sOf X), .string (sOf Y), .int .i64 q, .bool false] : List Value), v.oneCell' = true := by intro v hv; simp at hv; rcases hv with rfl | rfl | rfl | rfl <;> rfl
  have hone5 : ∀ v ∈ ([.string (sOf X), .string (sOf Y), .int .i64 q, .bool (hRet f)] : List Value), v.oneCell' = true := by intro v hv; simp at hv; rcases hv with rfl | rfl | rfl | rfl <;> rfl
  go_wp2_with (first
    | (with_reducible refine wpl_alloc (o := ⟨some 6, .alloc 23, _, _, _, _⟩) rfl _ rfl zM alloc_msg _ rfl ?_; intro w6 h6 f6 b6 z6; have h2 := h1.keep b6 hlt; have K6 : Keeps [g] w w6 := (Keeps.below hb1).trans (Keeps.below b6))
    | ((with_reducible refine wpl_at (o := ⟨none, .store 23 (.tmp 6) (.tmp 25), _, _, _, _⟩) ?_); refine wpl_storeAll rfl rfl _ _ _ rfl w1.heap.size [.string (sOf X), .string (sOf Y), .int .i64 q, .bool false] zM rfl rfl info_msg hone4 h6 rfl f6 ?_; intro w7 h7 f7 k7 z7; have h3 := h2.keeps k7 (by simp; omega); have K7 : Keeps [g] w w7 := K6.next k7 (by intro i hi; simp at hi; subst hi; have := hb1.size; right; omega); have e3 := h7.at 3 (u := .bool false) rfl; have g3 := f7 3)
    | ((with_reducible refine wpl_at (o := ⟨some 33, .load 23 (.tmp 6), _, _, _, _⟩) ?_); refine wpl_loadAt rfl _ _ rfl w1.heap.size 0 rfl [.string (sOf X), .string (sOf Y), .int .i64 q, .bool (hRet f)] _ (h7.set 3 (.bool (hRet f)) (show 3 < 4 by decide)).range Tryd.underlying23 rfl info_msg ?_)
    | ((with_reducible refine wpl_at (o := ⟨none, .store 23 (.tmp 38) (.tmp 33), _, _, _, _⟩) ?_); refine wpl_storeMid rfl rfl _ _ _ rfl g 3 [.string (sOf X), .string (sOf Y), .int .i64 q, .bool (hRet f)] _ (wrapL (({ zP k with tp := sOf X, tx := sOf Y, q := q, rt := hRet f } : Pac).cells Nl Nl) f b) rfl rfl info_msg hone5 (h3.at'.other w1.heap.size 3 (.bool (hRet f)) (by omega)) rfl (by show 3 + 4 ≤ 26; decide) (h3.free.set _ _) ?_; intro w8 h8 f8 k8 z8; have K8 : Keeps [g] w w8 := (K7.setCell (p := ⟨w1.heap.size, 3, none⟩) (.inr (by have := hb1.size; show w.heap.size ≤ w1.heap.size; omega)) (.bool (hRet f))).trans k8; have hW8 : WrapAt w8 g (({ zP k with tp := sOf X, tx := sOf Y, q := q, rt := hRet f } : Pac).cells Nl Nl) f b := ⟨h8, rfl, f8⟩; have e1 := hW8.cell (j := 1) (u := .int .i64 0) rfl; have e2 := hW8.cell (j := 2) (u := .bool false) rfl; have g1 := f8 1; have g2 := f8 2))
  go_ret
  exact ⟨Nl, Nl, rfl, (hW8.setL 1 _ (by decide)).setL 2 _ (by decide), PacOwn.nil _ _ rfl rfl, (K8.setCell (.inl (by simp)) _).setCell (.inl (by simp)) _⟩

set_option maxRecDepth 100000 in
set_option maxHeartbeats 8000000 in
theorem ofWishes_c (k : Int) (g : Nat) (f : Int) (b : List UInt8) (w : World) (hW : WrapAt w g ((zP k).cells Nl Nl) f b) (hb : b.length ≤ 140737488351232) (hE : EnvU w) :
    Calls Tryd.prog 109 #[.pointer (some ⟨g, 0, none⟩)] w (TellsL w g f b ({ zP k with id := (sbOf b (k == 10)).1, fs := (sbOf b (k == 10)).2.1 }, (sbOf b (k == 10)).2.2)) := by
  have HW := hd hW
  have hsz : (sOf b).size ≤ 140737488351232 := by rw [sOf_sizeP]; exact hb
  have cb := HW.out.cb
  have HE := hd hE; clear hE hW
  have hl := sbOf_len b (k == 10)
  obtain ⟨I, l, E, hS⟩ : ∃ I l E, sbOf b (k == 10) = (I, l, E) := ⟨_, _, _, rfl⟩
  have hso := fun W hW => subsOf_c (sOf b) (k == 10) W hW hsz
  have hsb : sB (sOf b) = b := rfl
  unfold GivesW at hso
  rw [hsb, hS] at hso
  rw [hS] at hl ⊢
  simp only at hl hso
  have HSO := hd hso
  clear hso hS
  have c0 := HW.out.cell (j := 0) (u := .int .i64 k) rfl
  go_enter Tryd.func109, Tryd.ntmps109
  go_wp2_with fail
  have hW1 := HW.out.drew
  clear cb c0
  have c0 := hW1.cell (j := 0) (u := .int .i64 k) rfl
  have cb := hW1.cb
  have hE1 := HE.out.below ((Below.refl w.heap.size w).drew)
  have k1 : Keeps [g] w w.drew := (Keeps.refl _ _).drew
  have hz1 : w.drew.heap.size = w.heap.size := rfl
  refine wp_region_M (fun W => W.cell? ⟨g, 25, none⟩ = some (.string (sOf b)) ∧ W.cell? ⟨g, 0, none⟩ = some (.int .i64 k)) 25 [(0, false), (1, false), (2, false), (3, false), (4, false), (5, false), (6, false), (7, false), (8, false), (9, false), (10, false), (11, false), (12, true), (13, false), (14, false), (15, false), (16, false), (17, false), (18, false), (19, false), (20, true), (21, false), (22, false), (23, false), (24, true), (25, true)] (by kernel_rfl) (by kernel_rfl) (fun _ _ _ _ h => h) ⟨cb, c0⟩ ?_
  clear HW HE cb c0
  generalize w.drew = w1 at *
  apply wpM_still (by rfl) (by rfl)
  · intro W hC
    go_simp
    rfl
  go_simp
  apply wpM_still (by rfl) (by rfl)
  · intro W hC
    go_simp
    rfl
  go_simp
  apply wpM_still (by rfl) (by rfl)
  · intro W hC
    go_simp
    rfl
  go_simp
  apply wpM_still (by rfl) (by rfl)
  · intro W hC
    go_simp
    rfl
  go_simp
  apply wpM_still (by rfl) (by rfl)
  · intro W hC
    go_simp
    rfl
  go_simp
  apply wpM_still (by rfl) (by rfl)
  · intro W hC
    have d := hC.1
    go_simp
    rfl
  go_simp
  apply wpM_still (by rfl) (by rfl)
  · intro W hC
    go_simp
    rfl
  go_simp
  apply wpM_still (by rfl) (by rfl)
  · intro W hC
    go_simp
    rfl
  go_simp
  apply wpM_still (by rfl) (by rfl)
  · intro W hC
    go_simp
    rfl
  go_simp
  apply wpM_still (by rfl) (by rfl)
  · intro W hC
    go_simp
    rfl
  go_simp
  apply wpM_still (by rfl) (by rfl)
  · intro W hC
    have d := hC.2
    go_simp
    rfl
  go_simp
  apply wpM_still (by rfl) (by rfl)
  · intro W hC
    go_simp
    rfl
  go_simp
  apply wpM_move (by rfl) (by rfl)
  intro K hK
  go_simp
  refine (HSO.out _ hE1).mono ?_
  rintro e w2 ⟨v, rfl, ho2, hb2⟩
  go_simp
  have ho : OwnW w.heap.size w2 v l := by rw [← hz1]; exact ho2
  have h2 := hW1.keep hb2 hW1.lt
  have hlt := hW1.lt
  rw [hz1] at hlt
  refine hK _ _ (fun _ => ⟨h2.cb, h2.cell (j := 0) (u := .int .i64 k) rfl⟩) ?_
  clear hK K ho2
  obtain ⟨va, vc, rfl⟩ := Owns.slice ho
  apply wpM_still (by rfl) (by rfl)
  · intro W hC
    go_simp
    rfl
  go_simp
  apply wpM_still (by rfl) (by rfl)
  · intro W hC
    go_simp
    rfl
  go_simp
  apply wpM_still (by rfl) (by rfl)
  · intro W hC
    go_simp
    rfl
  go_simp
  apply wpM_still (by rfl) (by rfl)
  · intro W hC
    go_simp
    rfl
  go_simp
  apply wpM_still (by rfl) (by rfl)
  · intro W hC
    go_simp
    rfl
  go_simp
  apply wpM_still (by rfl) (by rfl)
  · intro W hC
    go_simp
    rfl
  go_simp
  apply wpM_still (by rfl) (by rfl)
  · intro W hC
    go_simp
    rfl
  go_simp
  apply wpM_move (by rfl) (by rfl)
  intro K hK
  have c1 := h2.cell (j := 1) (u := .int .i64 0) rfl
  have f1 := h2.free 1
  go_simp
  have h3 := h2.setL 1 (.int .i64 I) (by decide)
  have ho3 := Owns.set ho (p := ⟨g, 1, none⟩) (by exact hlt) (.int .i64 I)
  have k3 : Keeps [g] w (w2.setCell ⟨g, 1, none⟩ (.int .i64 I)) := (k1.trans (Keeps.below hb2)).setCell (.inl (by simp)) _
  refine hK _ _ (fun _ => ⟨h3.cb, h3.cell (j := 0) (u := .int .i64 k) rfl⟩) ?_
  clear hK K c1 f1 h2 ho
  generalize w2.setCell ⟨g, 1, none⟩ (.int .i64 I) = w3 at *
  apply wpM_still (by rfl) (by rfl)
  · intro W hC
    go_simp
    rfl
  go_simp
  apply wpM_still (by rfl) (by rfl)
  · intro W hC
    go_simp
    rfl
  go_simp
  apply wpM_still (by rfl) (by rfl)
  · intro W hC
    go_simp
    rfl
  go_simp
  apply wpM_move (by rfl) (by rfl)
  intro K hK
  have c22 := h3.cell (j := 22) (u := .slice none 0 0) rfl
  have f22 := h3.free 22
  go_simp
  have h4 := h3.setL 22 (.slice va l.length vc) (by decide)
  have ho4 := Owns.set ho3 (p := ⟨g, 22, none⟩) (by exact hlt) (.slice va l.length vc)
  have k4 := k3.setCell (p := ⟨g, 22, none⟩) (.inl (by simp)) (.slice va l.length vc)
  refine hK _ _ (fun _ => ⟨h4.cb, h4.cell (j := 0) (u := .int .i64 k) rfl⟩) ?_
  clear hK K c22 f22 h3 ho3
  generalize w3.setCell ⟨g, 22, none⟩ (.slice va l.length vc) = w4 at *
  apply wpM_move (by rfl) (by rfl)
  intro K hK
  go_simp
  refine hK _ _ (fun h => absurd h (by decide)) ?_
  clear hK K
  refine wpM_nil ?_
  go_wp2_with fail
  go_ret
  refine ⟨_, Nl, rfl, h4, ⟨ho4, OwnI.nil _ _, ?_, by simp [zP, Pac.zero]⟩, k4⟩
  show l.length * 24 ≤ 140737488351232
  omega

def tellF (k : Int) : FuncId := if k = 1 then 105 else if k = 2 then 106 else if k = 3 then 107 else if k = 4 then 108 else if k = 5 then 108 else if k = 6 then 108 else if k = 7 then 108 else if k = 8 then 109 else if k = 9 then 110 else if k = 10 then 109 else if k = 11 then 108 else 111
theorem tellF_call (k : Int) (args : Array Value) (W : World) : (callFunc (tellF k) args).run Tryd.prog W = .ok (.enter (tellF k) args) W := by
  unfold tellF
  by_cases h1 : k = 1
  · rw [if_pos h1]
    exact call_of Tryd.func105 (by kernel_rfl) (by kernel_rfl) args W
  rw [if_neg h1]
  by_cases h2 : k = 2
  · rw [if_pos h2]
    exact call_of Tryd.func106 (by kernel_rfl) (by kernel_rfl) args W
  rw [if_neg h2]
  by_cases h3 : k = 3
  · rw [if_pos h3]
    exact call_of Tryd.func107 (by kernel_rfl) (by kernel_rfl) args W
  rw [if_neg h3]
  by_cases h4 : k = 4
  · rw [if_pos h4]
    exact call_of Tryd.func108 (by kernel_rfl) (by kernel_rfl) args W
  rw [if_neg h4]
  by_cases h5 : k = 5
  · rw [if_pos h5]
    exact call_of Tryd.func108 (by kernel_rfl) (by kernel_rfl) args W
  rw [if_neg h5]
  by_cases h6 : k = 6
  · rw [if_pos h6]
    exact call_of Tryd.func108 (by kernel_rfl) (by kernel_rfl) args W
  rw [if_neg h6]
  by_cases h7 : k = 7
  · rw [if_pos h7]
    exact call_of Tryd.func108 (by kernel_rfl) (by kernel_rfl) args W
  rw [if_neg h7]
  by_cases h8 : k = 8
  · rw [if_pos h8]
    exact call_of Tryd.func109 (by kernel_rfl) (by kernel_rfl) args W
  rw [if_neg h8]
  by_cases h9 : k = 9
  · rw [if_pos h9]
    exact call_of Tryd.func110 (by kernel_rfl) (by kernel_rfl) args W
  rw [if_neg h9]
  by_cases h10 : k = 10
  · rw [if_pos h10]
    exact call_of Tryd.func109 (by kernel_rfl) (by kernel_rfl) args W
  rw [if_neg h10]
  by_cases h11 : k = 11
  · rw [if_pos h11]
    exact call_of Tryd.func108 (by kernel_rfl) (by kernel_rfl) args W
  rw [if_neg h11]
  exact call_of Tryd.func111 (by kernel_rfl) (by kernel_rfl) args W
set_option maxRecDepth 100000 in
set_option maxHeartbeats 8000000 in
theorem teller_c (g : Nat) (k : Int) (w : World) (c0 : w.cell? ⟨g, 0, none⟩ = some (.int .i64 k)) :
    Calls Tryd.prog 63 #[.pointer (some ⟨g, 0, none⟩)] w fun e w' => e = .returned (.func (.func (tellF k)) #[.pointer (some ⟨g, 0, none⟩)] #[]) ∧ w = w' := by
  by_cases h1 : k = 1
  · subst h1
    go_enter Tryd.func63, Tryd.ntmps63
    go_wp2_with fail
    go_ret
    exact ⟨rfl, rfl⟩
  by_cases h2 : k = 2
  · subst h2
    clear h1
    go_enter Tryd.func63, Tryd.ntmps63
    go_wp2_with fail
    go_ret
    exact ⟨rfl, rfl⟩
  by_cases h3 : k = 3
  · subst h3
    clear h1 h2
    go_enter Tryd.func63, Tryd.ntmps63
    go_wp2_with fail
    go_ret
    exact ⟨rfl, rfl⟩
  by_cases h4 : k = 4
  · subst h4
    clear h1 h2 h3
    go_enter Tryd.func63, Tryd.ntmps63
    go_wp2_with fail
    go_ret
    exact ⟨rfl, rfl⟩
  by_cases h5 : k = 5
  · subst h5
    clear h1 h2 h3 h4
    go_enter Tryd.func63, Tryd.ntmps63
    go_wp2_with fail
    go_ret
    exact ⟨rfl, rfl⟩
  by_cases h6 : k = 6
  · subst h6
    clear h1 h2 h3 h4 h5
    go_enter Tryd.func63, Tryd.ntmps63
    go_wp2_with fail
    go_ret
    exact ⟨rfl, rfl⟩
  by_cases h7 : k = 7
  · subst h7
    clear h1 h2 h3 h4 h5 h6
    go_enter Tryd.func63, Tryd.ntmps63
    go_wp2_with fail
    go_ret
    exact ⟨rfl, rfl⟩
  by_cases h8 : k = 8
  · subst h8
    clear h1 h2 h3 h4 h5 h6 h7
    go_enter Tryd.func63, Tryd.ntmps63
    go_wp2_with fail
    go_ret
    exact ⟨rfl, rfl⟩
  by_cases h9 : k = 9
  · subst h9
    clear h1 h2 h3 h4 h5 h6 h7 h8
    go_enter Tryd.func63, Tryd.ntmps63
    go_wp2_with fail
    go_ret
    exact ⟨rfl, rfl⟩
  by_cases h10 : k = 10
  · subst h10
    clear h1 h2 h3 h4 h5 h6 h7 h8 h9
    go_enter Tryd.func63, Tryd.ntmps63
    go_wp2_with fail
    go_ret
    exact ⟨rfl, rfl⟩
  by_cases h11 : k = 11
  · subst h11
    clear h1 h2 h3 h4 h5 h6 h7 h8 h9 h10
    go_enter Tryd.func63, Tryd.ntmps63
    go_wp2_with fail
    go_ret
    exact ⟨rfl, rfl⟩
  have b1 : (k == 1) = false := by simpa using h1
  have b2 : (k == 2) = false := by simpa using h2
  have b3 : (k == 3) = false := by simpa using h3
  have b4 : (k == 4) = false := by simpa using h4
  have b5 : (k == 5) = false := by simpa using h5
  have b6 : (k == 6) = false := by simpa using h6
  have b7 : (k == 7) = false := by simpa using h7
  have b8 : (k == 8) = false := by simpa using h8
  have b9 : (k == 9) = false := by simpa using h9
  have b10 : (k == 10) = false := by simpa using h10
  have b11 : (k == 11) = false := by simpa using h11
  have hF : tellF k = 111 := by unfold tellF; simp only [if_neg h1, if_neg h2, if_neg h3, if_neg h4, if_neg h5, if_neg h6, if_neg h7, if_neg h8, if_neg h9, if_neg h10, if_neg h11]
  rw [hF]
  clear hF h1 h2 h3 h4 h5 h6 h7 h8 h9 h10 h11
  go_enter Tryd.func63, Tryd.ntmps63
  go_wp2_with fail
  go_ret
  exact ⟨rfl, rfl⟩

theorem told_all (k : Int) (g : Nat) (f : Int) (b : List UInt8) (w : World) (hW : WrapAt w g ((zP k).cells Nl Nl) f b) (hb : b.length ≤ 140737488351232) (hE : EnvU w) (hH : EnvH w) :
    Calls Tryd.prog (tellF k) #[.pointer (some ⟨g, 0, none⟩)] w (TellsL w g f b (paTold k f b)) := by
  by_cases h1 : k = 1
  · subst h1
    exact ofConnect_c 1 g f b w hW hb hE
  by_cases h2 : k = 2
  · subst h2
    exact ofConnack_c 2 g f b w hW hb
  by_cases h3 : k = 3
  · subst h3
    exact ofPublish_c 3 g f b w hW hb hE hH
  by_cases h4 : k = 4
  · subst h4
    exact ofId_c 4 g f b w hW hb
  by_cases h5 : k = 5
  · subst h5
    exact ofId_c 5 g f b w hW hb
  by_cases h6 : k = 6
  · subst h6
    exact ofId_c 6 g f b w hW hb
  by_cases h7 : k = 7
  · subst h7
    exact ofId_c 7 g f b w hW hb
  by_cases h8 : k = 8
  · subst h8
    exact ofWishes_c 8 g f b w hW hb hE
  by_cases h9 : k = 9
  · subst h9
    exact ofSuback_c 9 g f b w hW hb
  by_cases h10 : k = 10
  · subst h10
    exact ofWishes_c 10 g f b w hW hb hE
  by_cases h11 : k = 11
  · subst h11
    exact ofId_c 11 g f b w hW hb
  have hF : tellF k = 111 := by unfold tellF; simp only [if_neg h1, if_neg h2, if_neg h3, if_neg h4, if_neg h5, if_neg h6, if_neg h7, if_neg h8, if_neg h9, if_neg h10, if_neg h11]
  have hT : paTold k f b = (zP k, if b.isEmpty then 0 else 4) := by
    unfold paTold
    rw [if_neg h1, if_neg h2, if_neg h3, if_neg (by omega), if_neg h8, if_neg h10, if_neg h9]
    rfl
  rw [hF, hT]
  exact ofNothing_c k g f b w hW hb
end Go.Proofs.YtclicjokgfiegaaDoor

/- Packets: told: the walk of Of. -/
namespace Go.Proofs.YtclicjokgfiegaaDoor
open Go.RowKit
set_option linter.unusedVariables false
set_option linter.unusedSimpArgs false

theorem results_cell_tmp {P : Program} {fn : Func} {tmps : Array Value} {a b : Nat} {t : TypeId} {g : Nat} {v u : Value} {w : World} (hf : fn.results = #[.cell a t, .tmp b]) (ha : tmps.getD a undef = .pointer (some ⟨g, 0, none⟩))
    (hl : (loadVar t ⟨g, 0, none⟩).run P w = .ok v w) (hb : tmps.getD b undef = u) : (results fn tmps).run P w = .ok (.tuple #[v, u]) w := by
  have two : ∀ (f : ResultVar → Sem Value) (x y : ResultVar), #[x, y].mapM f = (do let a ← f x; let b ← f y; pure #[a, b]) := fun f x y => by simp
  unfold results
  rw [hf, two]
  simp only [Sem.run_bind, Sem.run_pure, ha, asAddr, Result.andThen_ok, hl, hb]
  rfl
/-- What Of leaves. -/
def GivesO (w : World) (r : Pac × Int) (e : Ending) (w' : World) : Prop := ∃ vf vc, e = .returned (.tuple #[.agg (r.1.cells vf vc).toArray, .int .i64 r.2]) ∧ PacOwn w.heap.size w' r.1 vf vc ∧ Below w.heap.size w w'
theorem sB_lenP (b : ByteArray) : (sB b).length = b.size := by rw [sB_len]
set_option maxRecDepth 100000 in
theorem build_wrap3 (k f : Int) (b : ByteArray) (W : World) : (Instr.build 86 #[(0, .agg (zK k).toArray), (1, .int .i64 f), (2, .string b)]).run Tryd.prog W = .ok (.agg (wrapL ((zP k).cells Nl Nl) f (sB b)).toArray) W := by
  simp [Instr.build, go_sem, zK, Pac.cells, zP, Pac.zero, Con.zero, wrapL, show ∀ x : ByteArray, sOf (sB x) = x from fun x => by cases x; simp [sOf, sB]]
set_option maxRecDepth 100000 in
set_option maxHeartbeats 8000000 in
theorem packOf_c (k f n : Int) (b : ByteArray) (w : World) (hs : b.size ≤ 140737488351232) (hH : EnvH w) (hE : EnvU w) :
    Calls Tryd.prog 29 #[.agg #[.int .i64 k, .int .i64 f, .int .i64 n, .string b]] w (GivesO w (paOf k f n (sB b))) := by
  have HE := hd hE; have HH := hd hH
  clear hE hH
  go_enter Tryd.func29, Tryd.ntmps29
  go_wp2_with (first
    | (with_reducible refine wpl_box (o := ⟨some 1, .box 74 (.tmp 0), _, _, _, _⟩) rfl _ _ rfl [.int .i64 k, .int .i64 f, .int .i64 n, .string b] rfl w.heap.size rfl ?_; intro w1 h1 f1 b1 z1)
    | (with_reducible refine wpl_alloc (o := ⟨some 2, .alloc 29, _, _, _, _⟩) rfl _ rfl (zK 0) alloc_pac _ z1 ?_; intro w2 h2 f2 b2 z2; replace h1 := h1.keep b2 (by omega); have B2 : Below w.heap.size w w2 := b1.trans (b2.mono (by omega)); clear f1 b1 b2; have c0 := h1.at 0 (u := .int .i64 k) rfl; have c1 := h1.at 1 (u := .int .i64 f) rfl; have c2 := h1.at 2 (u := .int .i64 n) rfl; have c3 := h1.at 3 (u := .string b) rfl))
  refine (hRight_c k f _ (HH.out.below B2 (Nat.le_refl _))).mono ?_
  rintro e w' ⟨rfl, rfl⟩
  by_cases hr : hRight k f = 0
  rotate_left
  · have hrb : (hRight k f != 0) = true := by simpa using hr
    have ho : paOf k f n (sB b) = (Pac.zero, hRight k f) := by unfold paOf; rw [if_pos hr]
    have HO0 := hd ho
    clear ho
    go_wp2_with (first
      | ((with_reducible refine wpl_at (o := ⟨none, .store 29 (.tmp 2) (.tmp 17), _, _, _, _⟩) ?_); refine wpl_storeAll rfl rfl _ _ _ rfl (w.heap.size + 1) (zK 0) (zK 0) rfl rfl info_pac (zK_one 0) h2 rfl f2 ?_; intro w9 h9 f9 k9 z9))
    rw [HO0.out]
    refine bodyPost_ret (v := .tuple #[.agg (Pac.zero.cells Nl Nl).toArray, .int .i64 (hRight k f)]) (results_cell_tmp Tryd.results29 rfl (ret_pac h9 rfl) rfl) rfl ?_
    exact ⟨Nl, Nl, rfl, PacOwn.nil (p := Pac.zero) _ _ rfl rfl, B2.trans (k9.toBelow B2.size (by simp))⟩
  rw [hr]
  by_cases hn : n = (b.size : Int)
  rotate_left
  · have hnb : (n != (b.size : Int)) = true := by simpa using hn
    have ho : paOf k f n (sB b) = (Pac.zero, 4) := by unfold paOf; rw [if_neg (by simpa using hr), if_pos (by rw [sB_lenP]; exact hn)]
    have HO0 := hd ho
    clear ho
    go_wp2_with (first
      | ((with_reducible refine wpl_at (o := ⟨none, .store 29 (.tmp 2) (.tmp 26), _, _, _, _⟩) ?_); refine wpl_storeAll rfl rfl _ _ _ rfl (w.heap.size + 1) (zK 0) (zK 0) rfl rfl info_pac (zK_one 0) h2 rfl f2 ?_; intro w9 h9 f9 k9 z9))
    rw [HO0.out]
    refine bodyPost_ret (v := .tuple #[.agg (Pac.zero.cells Nl Nl).toArray, .int .i64 (4)]) (results_cell_tmp Tryd.results29 rfl (ret_pac h9 rfl) rfl) rfl ?_
    exact ⟨Nl, Nl, rfl, PacOwn.nil (p := Pac.zero) _ _ rfl rfl, B2.trans (k9.toBelow B2.size (by simp))⟩
  have ho : paOf k f n (sB b) = if (paTold k f (sB b)).2 ≠ 0 then (Pac.zero, (paTold k f (sB b)).2) else ((paTold k f (sB b)).1, 0) := by
    unfold paOf
    rw [if_neg (by simpa using hr), if_neg (by rw [sB_lenP]; simpa using hn)]
  have HO := hd ho
  clear ho hr
  have hnb : (n != (b.size : Int)) = false := by simpa using hn
  go_wp2_with (first
    | ((with_reducible refine wpl_at (o := ⟨some 30, .build 29 #[(0, .tmp 29)], _, _, _, _⟩) ?_); refine wpl_build rfl _ _ rfl #[(0, .int .i64 k)] (by simp [Act.eval]) _ (fun W => build_pac k W) ?_)
    | ((with_reducible refine wpl_at (o := ⟨some 36, .build 86 #[(0, .tmp 30), (1, .tmp 33), (2, .tmp 35)], _, _, _, _⟩) ?_); refine wpl_build rfl _ _ rfl #[(0, .agg (zK k).toArray), (1, .int .i64 f), (2, .string b)] (by simp [Act.eval]) _ (fun W => build_wrap3 k f b W) ?_)
    | (with_reducible refine wpl_box (o := ⟨some 37, .box 86 (.tmp 36), _, _, _, _⟩) rfl _ _ rfl (wrapL ((zP k).cells Nl Nl) f (sB b)) rfl (w.heap.size + 1 + 1) (by omega) ?_; intro w3 h3 f3 b3 z3))
  have hW : WrapAt w3 (w.heap.size + 1 + 1) ((zP k).cells Nl Nl) f (sB b) := ⟨h3, rfl, f3⟩
  replace h2 := h2.keep b3 (by omega)
  replace f2 := f2.keep b3 (by omega)
  have B3 : Below w.heap.size w w3 := B2.trans (b3.mono (by omega))
  clear h1 h3 f3 b3 B2 c0 c1 c2 c3
  have c0 := hW.cell (j := 0) (u := .int .i64 k) rfl
  refine (teller_c (w.heap.size + 1 + 1) k w3 c0).mono ?_
  rintro e w' ⟨rfl, rfl⟩
  have hcf := fun (k : Int) (args : Array Value) (W : World) => tellF_call k args W
  clear c0 hnb
  go_wp2_with fail
  have hta := told_all k (w.heap.size + 1 + 1) f (sB b) w3 hW (by rw [sB_lenP]; exact hs) (HE.out.below B3) (HH.out.below B3 (Nat.le_refl _))
  obtain ⟨r, hr⟩ : ∃ r, paTold k f (sB b) = r := ⟨_, rfl⟩
  rw [hr] at hta
  have HO' : Hd (paOf k f n (sB b) = if r.2 ≠ 0 then (Pac.zero, r.2) else (r.1, 0)) := hd (by rw [← hr]; exact HO.out)
  clear HO hr
  refine hta.mono ?_
  clear hta
  rintro e w4 ⟨vf, vc, rfl, hW4, hr4, hk4⟩
  have B4 : Below w.heap.size w w4 := B3.trans (hk4.toBelow B3.size (by simp; omega))
  replace h2 := h2.keeps hk4 (by simp)
  replace f2 := f2.keeps hk4 (by omega) (by simp)
  clear hW hk4 B3
  obtain ⟨q, E⟩ := r
  by_cases hE0 : E = 0
  rotate_left
  · have hEb : (E != 0) = true := by simpa using hE0
    go_wp2_with (first
      | ((with_reducible refine wpl_at (o := ⟨none, .store 29 (.tmp 2) (.tmp 44), _, _, _, _⟩) ?_); refine wpl_storeAll rfl rfl _ _ _ rfl (w.heap.size + 1) (zK 0) (zK 0) rfl rfl info_pac (zK_one 0) h2 rfl f2 ?_; intro w9 h9 f9 k9 z9))
    rw [HO'.out, if_pos hE0]
    refine bodyPost_ret (v := .tuple #[.agg (Pac.zero.cells Nl Nl).toArray, .int .i64 (E)]) (results_cell_tmp Tryd.results29 rfl (ret_pac h9 rfl) rfl) rfl ?_
    exact ⟨Nl, Nl, rfl, PacOwn.nil (p := Pac.zero) _ _ rfl rfl, B4.trans (k9.toBelow B4.size (by simp))⟩
  subst hE0
  have hone := Pac.one q vf vc hr4.rd.f.oneCell hr4.rd.c.oneCell
  go_wp2_with (first
    | ((with_reducible refine wpl_at (o := ⟨some 49, .load 29 (.tmp 48), _, _, _, _⟩) ?_); refine wpl_loadAt rfl _ _ rfl (w.heap.size + 1 + 1) 0 rfl (q.cells vf vc) _ (hW4.part 0 (by intro j v hv; rw [Nat.zero_add]; exact hv)) Tryd.underlying29 rfl info_pac ?_)
    | ((with_reducible refine wpl_at (o := ⟨none, .store 29 (.tmp 2) (.tmp 49), _, _, _, _⟩) ?_); refine wpl_storeAll rfl rfl _ _ _ rfl (w.heap.size + 1) (q.cells vf vc) (zK 0) rfl rfl info_pac hone h2 rfl f2 ?_; intro w9 h9 f9 k9 z9))
  rw [HO'.out, if_neg (by simp)]
  refine bodyPost_ret (v := .tuple #[.agg (q.cells vf vc).toArray, .int .i64 0]) (results_cell_tmp Tryd.results29 rfl (ret_pac h9 rfl) rfl) rfl ?_
  exact ⟨vf, vc, rfl, (hr4.keeps k9 (by intro j hj; simp at hj; omega)).le (by omega), B4.trans (k9.toBelow B4.size (by simp))⟩
end Go.Proofs.YtclicjokgfiegaaDoor

/- Who comes: what bytes tell, by the reference: the walks (printed by wip/gen/conref.py). -/
namespace Go.Proofs.YtclicjokgfiegaaDoor
open Go.RowKit
set_option linter.unusedVariables false
set_option linter.unusedSimpArgs false

def q4 (l : List UInt8) (s : Int × Int) : Int × Int := rTextS (uGet l s.1) true s
def q5 (hw : Bool) (l : List UInt8) (s : Int × Int) : Int × Int := rTextS (uGet l (q4 l s).1) hw (q4 l s)
def q6 (hw : Bool) (l : List UInt8) (s : Int × Int) : Int × Int := rTextS (uGetRaw l (q5 hw l s).1) hw (q5 hw l s)
def q7 (hw hu : Bool) (l : List UInt8) (s : Int × Int) : Int × Int := rTextS (uGet l (q6 hw l s).1) hu (q6 hw l s)
def q8 (hw hu hp : Bool) (l : List UInt8) (s : Int × Int) : Int × Int := rTextS (uGetRaw l (q7 hw hu l s).1) hp (q7 hw hu l s)
def qCon (c : Con) (l : List UInt8) (s : Int × Int) (q : Int) (r : Bool) : Con :=
  ⟨c.level, c.clean, c.keep, sOf (uGet l s.1).1, c.hasWill, if c.hasWill = true then sOf (uGet l (q4 l s).1).1 else c.topic, if c.hasWill = true then sOf (uGetRaw l (q5 c.hasWill l s).1).1 else c.text, if c.hasWill = true then q else c.qos, if c.hasWill = true then r else c.retain,
    c.hasUser, if c.hasUser = true then sOf (uGet l (q6 c.hasWill l s).1).1 else c.user, c.hasPass, if c.hasPass = true then sOf (uGetRaw l (q7 c.hasWill c.hasUser l s).1).1 else c.pass⟩
def qRest (c : Con) (l : List UInt8) (s : Int × Int) (q : Int) (r : Bool) : Con × Int :=
  if (q8 c.hasWill c.hasUser c.hasPass l s).2 ≠ 0 then (Con.zero, (q8 c.hasWill c.hasUser c.hasPass l s).2)
  else if (q8 c.hasWill c.hasUser c.hasPass l s).1 ≠ l.length then (Con.zero, 4) else (qCon c l s q r, 0)

theorem qText_stuck (g : List UInt8 × Int × Int) (is : Bool) {st : Int × Int} (h : st.2 ≠ 0) : rTextS g is st = st := by
  unfold rTextS; repeat' split
  all_goals first | rfl | contradiction
theorem q7_bad {hw hu hp : Bool} {l : List UInt8} {s : Int × Int} (h : (q7 hw hu l s).2 ≠ 0) : q8 hw hu hp l s = q7 hw hu l s := qText_stuck _ _ h
theorem q6_bad {hw hu hp : Bool} {l : List UInt8} {s : Int × Int} (h : (q6 hw l s).2 ≠ 0) : q8 hw hu hp l s = q6 hw l s := by
  have e : q7 hw hu l s = q6 hw l s := qText_stuck _ _ h
  rw [q7_bad (by rw [e]; exact h), e]
theorem q5_bad {hw hu hp : Bool} {l : List UInt8} {s : Int × Int} (h : (q5 hw l s).2 ≠ 0) : q8 hw hu hp l s = q5 hw l s := by
  have e : q6 hw l s = q5 hw l s := qText_stuck _ _ h
  rw [q6_bad (by rw [e]; exact h), e]
theorem q4_bad {hw hu hp : Bool} {l : List UInt8} {s : Int × Int} (h : (q4 l s).2 ≠ 0) : q8 hw hu hp l s = q4 l s := by
  have e : q5 hw l s = q4 l s := qText_stuck _ _ h
  rw [q5_bad (by rw [e]; exact h), e]
theorem qRest_bad {c : Con} {l : List UInt8} {s : Int × Int} {q : Int} {r : Bool} {k : Int × Int} (h : q8 c.hasWill c.hasUser c.hasPass l s = k) (hk : k.2 ≠ 0) : qRest c l s q r = (Con.zero, k.2) := by
  unfold qRest; rw [h, if_pos hk]

def GivesQ (w : World) (r : Con × Int) (e : Ending) (w' : World) : Prop :=
  e = .returned (.tuple #[.agg r.1.cells.toArray, .int .i64 r.2]) ∧ Below w.heap.size w w'

/-- The state of the reference's rest: its result's block, its own. -/
structure RQ (w W : World) (gr gc : Nat) (c : Con) : Prop where
  cr : ConAt W gr Con.zero
  fr : Free W gr
  con : ConAt W gc c
  fc : Free W gc
  b : Below w.heap.size w W
theorem Free.below {w w' : World} {b : Nat} (h : Free w b) (hb : Below w.heap.size w w') (hl : b < w.heap.size) : Free w' b := fun o => (bfree hb _ _ hl).trans (h o)
theorem RQ.call {w W W' : World} {gr gc : Nat} {c : Con} (h : RQ w W gr gc c) (hb : Below W.heap.size W W') : RQ w W' gr gc c :=
  ⟨h.cr.keep hb h.cr.lt, h.fr.below hb h.cr.lt, h.con.keep hb h.con.lt, h.fc.below hb h.con.lt, Below.up h.b hb⟩
theorem RQ.set2 {w W : World} {gr gc : Nat} {c : Con} (h : RQ w W gr gc c) (hne : gr ≠ gc) (hl : w.heap.size ≤ gc) (x : Int) : RQ w (W.setCell ⟨gc, 2, none⟩ (.int .i64 x)) gr gc { c with keep := x } :=
  ⟨h.cr.keeps ((Keeps.refl [gc] W).setCell (.inl (by simp)) _) (by simp [hne]), h.fr.set _ _, h.con.set2 x, h.fc.set _ _, h.b.setCell hl _⟩
theorem RQ.set3 {w W : World} {gr gc : Nat} {c : Con} (h : RQ w W gr gc c) (hne : gr ≠ gc) (hl : w.heap.size ≤ gc) (x : ByteArray) : RQ w (W.setCell ⟨gc, 3, none⟩ (.string x)) gr gc { c with client := x } :=
  ⟨h.cr.keeps ((Keeps.refl [gc] W).setCell (.inl (by simp)) _) (by simp [hne]), h.fr.set _ _, h.con.set3 x, h.fc.set _ _, h.b.setCell hl _⟩
theorem RQ.set5 {w W : World} {gr gc : Nat} {c : Con} (h : RQ w W gr gc c) (hne : gr ≠ gc) (hl : w.heap.size ≤ gc) (x : ByteArray) : RQ w (W.setCell ⟨gc, 5, none⟩ (.string x)) gr gc { c with topic := x } :=
  ⟨h.cr.keeps ((Keeps.refl [gc] W).setCell (.inl (by simp)) _) (by simp [hne]), h.fr.set _ _, h.con.set5 x, h.fc.set _ _, h.b.setCell hl _⟩
theorem RQ.set6 {w W : World} {gr gc : Nat} {c : Con} (h : RQ w W gr gc c) (hne : gr ≠ gc) (hl : w.heap.size ≤ gc) (x : ByteArray) : RQ w (W.setCell ⟨gc, 6, none⟩ (.string x)) gr gc { c with text := x } :=
  ⟨h.cr.keeps ((Keeps.refl [gc] W).setCell (.inl (by simp)) _) (by simp [hne]), h.fr.set _ _, h.con.set6 x, h.fc.set _ _, h.b.setCell hl _⟩
theorem RQ.set7 {w W : World} {gr gc : Nat} {c : Con} (h : RQ w W gr gc c) (hne : gr ≠ gc) (hl : w.heap.size ≤ gc) (x : Int) : RQ w (W.setCell ⟨gc, 7, none⟩ (.int .i64 x)) gr gc { c with qos := x } :=
  ⟨h.cr.keeps ((Keeps.refl [gc] W).setCell (.inl (by simp)) _) (by simp [hne]), h.fr.set _ _, h.con.set7 x, h.fc.set _ _, h.b.setCell hl _⟩
theorem RQ.set8 {w W : World} {gr gc : Nat} {c : Con} (h : RQ w W gr gc c) (hne : gr ≠ gc) (hl : w.heap.size ≤ gc) (x : Bool) : RQ w (W.setCell ⟨gc, 8, none⟩ (.bool x)) gr gc { c with retain := x } :=
  ⟨h.cr.keeps ((Keeps.refl [gc] W).setCell (.inl (by simp)) _) (by simp [hne]), h.fr.set _ _, h.con.set8 x, h.fc.set _ _, h.b.setCell hl _⟩
theorem RQ.set10 {w W : World} {gr gc : Nat} {c : Con} (h : RQ w W gr gc c) (hne : gr ≠ gc) (hl : w.heap.size ≤ gc) (x : ByteArray) : RQ w (W.setCell ⟨gc, 10, none⟩ (.string x)) gr gc { c with user := x } :=
  ⟨h.cr.keeps ((Keeps.refl [gc] W).setCell (.inl (by simp)) _) (by simp [hne]), h.fr.set _ _, h.con.set10 x, h.fc.set _ _, h.b.setCell hl _⟩
theorem RQ.set12 {w W : World} {gr gc : Nat} {c : Con} (h : RQ w W gr gc c) (hne : gr ≠ gc) (hl : w.heap.size ≤ gc) (x : ByteArray) : RQ w (W.setCell ⟨gc, 12, none⟩ (.string x)) gr gc { c with pass := x } :=
  ⟨h.cr.keeps ((Keeps.refl [gc] W).setCell (.inl (by simp)) _) (by simp [hne]), h.fr.set _ _, h.con.set12 x, h.fc.set _ _, h.b.setCell hl _⟩
theorem ConAt.put {W : World} {b : Nat} {c0 : Con} (h : ConAt W b c0) (c : Con) : ConAt (((((((((((((W.setCell ⟨b, 0, none⟩ (.int .i64 c.level)).setCell ⟨b, 1, none⟩ (.bool c.clean)).setCell ⟨b, 2, none⟩ (.int .i64 c.keep)).setCell ⟨b, 3, none⟩ (.string c.client)).setCell ⟨b, 4, none⟩ (.bool c.hasWill)).setCell ⟨b, 5, none⟩ (.string c.topic)).setCell ⟨b, 6, none⟩ (.string c.text)).setCell ⟨b, 7, none⟩ (.int .i64 c.qos)).setCell ⟨b, 8, none⟩ (.bool c.retain)).setCell ⟨b, 9, none⟩ (.bool c.hasUser)).setCell ⟨b, 10, none⟩ (.string c.user)).setCell ⟨b, 11, none⟩ (.bool c.hasPass)).setCell ⟨b, 12, none⟩ (.string c.pass)) b c :=
  (((((((((((((h.set0 c.level).set1 c.clean).set2 c.keep).set3 c.client).set4 c.hasWill).set5 c.topic).set6 c.text).set7 c.qos).set8 c.retain).set9 c.hasUser).set10 c.user).set11 c.hasPass).set12 c.pass)
theorem below_put {w W : World} {b : Nat} (h : Below w.heap.size w W) (hb : w.heap.size ≤ b) (c : Con) : Below w.heap.size w (((((((((((((W.setCell ⟨b, 0, none⟩ (.int .i64 c.level)).setCell ⟨b, 1, none⟩ (.bool c.clean)).setCell ⟨b, 2, none⟩ (.int .i64 c.keep)).setCell ⟨b, 3, none⟩ (.string c.client)).setCell ⟨b, 4, none⟩ (.bool c.hasWill)).setCell ⟨b, 5, none⟩ (.string c.topic)).setCell ⟨b, 6, none⟩ (.string c.text)).setCell ⟨b, 7, none⟩ (.int .i64 c.qos)).setCell ⟨b, 8, none⟩ (.bool c.retain)).setCell ⟨b, 9, none⟩ (.bool c.hasUser)).setCell ⟨b, 10, none⟩ (.string c.user)).setCell ⟨b, 11, none⟩ (.bool c.hasPass)).setCell ⟨b, 12, none⟩ (.string c.pass)) := by
  iterate 13 refine Below.setCell ?_ hb _
  exact h

theorem qRead {w' : World} {gr : Nat} {tmps : Array Value} {C : Con} {x : Int} (h2 : tmps[10]?.getD undef = .pointer (some ⟨gr, 0, none⟩)) (h3 : tmps[11]?.getD undef = .int .i64 x) (hc : ConAt w' gr C) :
    (results Tryd.f156 tmps).run Tryd.prog w' = .ok (.tuple #[.agg C.cells.toArray, .int .i64 x]) w' := by
  simp only [ConAt] at hc
  obtain ⟨d0, d1, d2, d3, d4, d5, d6, d7, d8, d9, d10, d11, d12, dl⟩ := hc
  simp [results, Tryd.results156, go_sem, h2, h3, d0, d1, d2, d3, d4, d5, d6, d7, d8, d9, d10, d11, d12, Con.cells]

theorem qDone {w w' : World} {C X : Con} {l : List UInt8} {s : Int × Int} {q : Int} {r : Bool} {e : Int} (h : qRest C l s q r = (X, e)) (hb : Below w.heap.size w w') : GivesQ w (qRest C l s q r) (.returned (.tuple #[.agg X.cells.toArray, .int .i64 e])) w' := by
  unfold GivesQ; rw [h]; exact ⟨rfl, hb⟩
theorem qRest_form {c : Con} {l : List UInt8} {s : Int × Int} {q : Int} {r : Bool} {n : Int} (h : q8 c.hasWill c.hasUser c.hasPass l s = (n, 0)) (hk : n ≠ l.length) : qRest c l s q r = (Con.zero, 4) := by
  unfold qRest; rw [h, if_neg (by simp), if_pos hk]
theorem qRest_ok {c : Con} {l : List UInt8} {s : Int × Int} {q : Int} {r : Bool} {n : Int} (h : q8 c.hasWill c.hasUser c.hasPass l s = (n, 0)) (hk : n = l.length) : qRest c l s q r = (qCon c l s q r, 0) := by
  unfold qRest; rw [h, if_neg (by simp), if_neg (by simp [hk])]
theorem q5_on {l : List UInt8} {s : Int × Int} {n : Int} (h : q4 l s = (n, 0)) : q5 true l s = ((uGet l n).2.1, (uGet l n).2.2) := by unfold q5; rw [h]; rfl
theorem q6_on {l : List UInt8} {s : Int × Int} {n : Int} (h : q5 true l s = (n, 0)) : q6 true l s = ((uGetRaw l n).2.1, (uGetRaw l n).2.2) := by unfold q6; rw [h]; rfl
theorem q7_on {hw : Bool} {l : List UInt8} {s : Int × Int} {n : Int} (h : q6 hw l s = (n, 0)) : q7 hw true l s = ((uGet l n).2.1, (uGet l n).2.2) := by unfold q7; rw [h]; rfl
theorem q8_on {hw hu : Bool} {l : List UInt8} {s : Int × Int} {n : Int} (h : q7 hw hu l s = (n, 0)) : q8 hw hu true l s = ((uGetRaw l n).2.1, (uGetRaw l n).2.2) := by unfold q8; rw [h]; rfl
theorem q6_off (l : List UInt8) (s : Int × Int) : q6 false l s = q4 l s := rfl
theorem q7_off (hw : Bool) (l : List UInt8) (s : Int × Int) : q7 hw false l s = q6 hw l s := rfl
theorem q8_off (hw hu : Bool) (l : List UInt8) (s : Int × Int) : q8 hw hu false l s = q7 hw hu l s := rfl

end Go.Proofs.YtclicjokgfiegaaDoor

/- Who comes: what bytes tell, by the reference: plain laws: the program answers so. -/
namespace Go.Proofs.YtclicjokgfiegaaDoor
open Go.RowKit
set_option linter.unusedVariables false
set_option linter.unusedSimpArgs false

theorem k9_of3 {l : List UInt8} {s : Int × Int} (h : (k3 l s).2 ≠ 0) : k9 l s = k3 l s := by
  have e4 : k4 l s = k3 l s := qText_stuck _ _ h
  have e5 : k5 l s = k3 l s := by unfold k5; rw [e4]; exact qText_stuck _ _ h
  have e6 : k6 l s = k3 l s := by unfold k6; rw [e5]; exact qText_stuck _ _ h
  have e7 : k7 l s = k3 l s := by unfold k7; rw [e6]; exact qText_stuck _ _ h
  have e8 : k8 l s = k3 l s := by unfold k8; rw [e7]; exact qText_stuck _ _ h
  unfold k9
  rw [e8, if_neg (by simp [h])]
theorem k9_of2 {l : List UInt8} {s : Int × Int} (h : (k2 l s).2 ≠ 0) : k9 l s = k2 l s := by
  have e3 : k3 l s = k2 l s := by unfold k3 rTwoS; rw [if_pos h]
  rw [k9_of3 (by rw [e3]; exact h), e3]
theorem k9_of1 {l : List UInt8} {s : Int × Int} (h : (k1 l s).2 ≠ 0) : k9 l s = k1 l s := by
  have e2 : k2 l s = k1 l s := by unfold k2; rw [if_neg (by simp [h])]
  rw [k9_of2 (by rw [e2]; exact h), e2]

/-! ### what Of answers, step by step -/
theorem cOf_get {l : List UInt8} {e : Int} (h : (uGet l 0).2.2 = e) (he : e ≠ 0) : cOf l = (Con.zero, e) := by
  have hn : cNm l = [] := uGet_bad (by rw [h]; exact he)
  have ht : (cT0 l).2 = e := h
  unfold cOf
  rw [if_pos (by rw [hn]; simp)]
  unfold cFin rFail
  rw [if_neg (by simp [ht, he])]
  simp [ht, he]
theorem cOf_name {l : List UInt8} (h : (uGet l 0).2.2 = 0) (hn : (uGet l 0).1 ≠ [77, 81, 84, 84]) : cOf l = (Con.zero, 15) := by
  have ht : (cT0 l).2 = 0 := h
  unfold cOf
  rw [if_pos (show cNm l ≠ _ from hn)]
  unfold cFin rFail
  rw [if_pos ht]
  rfl
theorem cOf_lv {l : List UInt8} {n : Int} (h : uGet l 0 = ([77, 81, 84, 84], n, 0)) (hl : (l.length : Int) ≤ n) : cOf l = (Con.zero, 2) := by
  have hn : cNm l = [77, 81, 84, 84] := by unfold cNm; rw [h]; rfl
  have ht : cT0 l = (n, 0) := by unfold cT0; rw [h]; rfl
  have hv : cLv l = 0 := by unfold cLv rOneV; rw [ht, if_neg (by simp), if_pos hl]
  have h1 : cT1 l = (n, 2) := by unfold cT1 rOneS; rw [ht, if_neg (by simp), if_pos hl]
  unfold cOf
  rw [if_neg (by simp [hn]), hv, if_neg (by decide), h1]
  rfl
theorem cOf_lv4 {l : List UInt8} {n : Int} (h : uGet l 0 = ([77, 81, 84, 84], n, 0)) (hl : n < l.length) (hb : (bN l n.toNat : Int) ≠ 4) : cOf l = ({ Con.zero with level := (bN l n.toNat : Int) }, 0) := by
  have hn : cNm l = [77, 81, 84, 84] := by unfold cNm; rw [h]; rfl
  have ht : cT0 l = (n, 0) := by unfold cT0; rw [h]; rfl
  have hv : cLv l = bN l n.toNat := by unfold cLv rOneV; rw [ht, if_neg (by simp), if_neg (by simp only; omega)]
  have h1 : cT1 l = (n + 1, 0) := by unfold cT1 rOneS; rw [ht, if_neg (by simp), if_neg (by simp only; omega)]
  unfold cOf
  rw [if_neg (by simp [hn]), hv, if_neg hb, h1]
  rfl
/-- level 4: the rest tells -/
theorem cOf_4 {l : List UInt8} {n : Int} (h : uGet l 0 = ([77, 81, 84, 84], n, 0)) (hl : n < l.length) (hb : (bN l n.toNat : Int) = 4) : cOf l = cFin (kCon 4 l (n + 1, 0)) (k9 l (n + 1, 0)) := by
  have hn : cNm l = [77, 81, 84, 84] := by unfold cNm; rw [h]; rfl
  have ht : cT0 l = (n, 0) := by unfold cT0; rw [h]; rfl
  have hv : cLv l = bN l n.toNat := by unfold cLv rOneV; rw [ht, if_neg (by simp), if_neg (by simp only; omega)]
  have h1 : cT1 l = (n + 1, 0) := by unfold cT1 rOneS; rw [ht, if_neg (by simp), if_neg (by simp only; omega)]
  unfold cOf
  rw [if_neg (by simp [hn]), hv, if_pos hb, h1]
theorem cFin_bad {C : Con} {s : Int × Int} (h : s.2 ≠ 0) : cFin C s = (Con.zero, s.2) := by unfold cFin; rw [if_neg h]
theorem c4_short {l : List UInt8} {n : Int} (hl : (l.length : Int) ≤ n) : cFin (kCon 4 l (n, 0)) (k9 l (n, 0)) = (Con.zero, 2) := by
  have h1 : k1 l (n, 0) = (n, 2) := by unfold k1 rOneS; rw [if_neg (by simp), if_pos hl]
  rw [k9_of1 (by rw [h1]; simp), h1]
  rfl
theorem kf_is {l : List UInt8} {n : Int} (hl : n < l.length) : kf l (n, 0) = bN l n.toNat := by unfold kf rOneV; rw [if_neg (by simp), if_neg (by simp only; omega)]
theorem k1_is {l : List UInt8} {n : Int} (hl : n < l.length) : k1 l (n, 0) = (n + 1, 0) := by unfold k1 rOneS; rw [if_neg (by simp), if_neg (by simp only; omega)]
theorem c4_flags {l : List UInt8} {n : Int} (hl : n < l.length) (hm : cMay (bN l n.toNat) = false) : cFin (kCon 4 l (n, 0)) (k9 l (n, 0)) = (Con.zero, 10) := by
  have h2 : k2 l (n, 0) = (n + 1, 10) := by unfold k2; rw [k1_is hl, kf_is hl, hm, if_pos ⟨rfl, rfl⟩]; rfl
  rw [k9_of2 (by rw [h2]; simp), h2]
  rfl
theorem k2_is {l : List UInt8} {n : Int} (hl : n < l.length) (hm : cMay (bN l n.toNat) = true) : k2 l (n, 0) = (n + 1, 0) := by
  unfold k2; rw [k1_is hl, kf_is hl, hm, if_neg (by simp)]
theorem k3_is {l : List UInt8} {n : Int} (hl : n < l.length) (hm : cMay (bN l n.toNat) = true) : k3 l (n, 0) = ((uGet2 l (n + 1)).2.1, (uGet2 l (n + 1)).2.2) := by
  unfold k3; rw [k2_is hl hm]; rfl
theorem c4_two {l : List UInt8} {n : Int} (hl : n < l.length) (hm : cMay (bN l n.toNat) = true) (he : (uGet2 l (n + 1)).2.2 ≠ 0) : cFin (kCon 4 l (n, 0)) (k9 l (n, 0)) = (Con.zero, (uGet2 l (n + 1)).2.2) := by
  have h3 := k3_is hl hm
  rw [k9_of3 (by rw [h3]; exact he), h3]
  exact cFin_bad he

/-- the flags' bits as the reference reads them -/
theorem fb_of {f : Int} (h0 : 0 ≤ f) (h1 : f ≤ 255) : fb f 2 = (f / 2 % 2 == 1) ∧ fb f 4 = (f / 4 % 2 == 1) ∧ fb f 32 = (f / 32 % 2 == 1) ∧ fb f 64 = (f / 64 % 2 == 1) ∧ fb f 128 = decide (128 ≤ f) := by
  obtain ⟨-, b2, b4, b32, b64, b128, -⟩ := bits_of h0 h1
  unfold fb
  rw [b2, b4, b32, b64, b128]
  have c : ∀ x : Int, x = 0 ∨ x = 1 → ∀ k : Int, 0 < k → (x * k != 0) = (x == 1) := by
    intro x hx k hk
    rcases hx with rfl | rfl
    · simp
    · have : k ≠ 0 := by omega
      simp [this]
  refine ⟨c _ (by omega) 2 (by omega), c _ (by omega) 4 (by omega), c _ (by omega) 32 (by omega), c _ (by omega) 64 (by omega), ?_⟩
  rw [c _ (by omega) 128 (by omega)]
  by_cases h : 128 ≤ f
  · rw [decide_eq_true h]; have : f / 128 % 2 = 1 := by omega
    rw [this]; rfl
  · rw [decide_eq_false h]; have : f / 128 % 2 = 0 := by omega
    rw [this]; rfl

/-- WHAT STANDS BEHIND KEEP: the program's answer is the reference's. -/
theorem c4_rest {l : List UInt8} {n m N : Int} (hl : n < l.length) (hm : cMay (bN l n.toNat) = true) (hg : uGet2 l (n + 1) = (N, m, 0)) :
    cFin (kCon 4 l (n, 0)) (k9 l (n, 0)) = qRest ⟨4, fb (bN l n.toNat) 2, N, ⟨#[]⟩, fb (bN l n.toNat) 4, ⟨#[]⟩, ⟨#[]⟩, 0, false, fb (bN l n.toNat) 128, ⟨#[]⟩, fb (bN l n.toNat) 64, ⟨#[]⟩⟩ l (m, 0) (bits .and .i64 ((bN l n.toNat : Int) / 8) 3) (fb (bN l n.toNat) 32) := by
  have h3 := k3_is hl hm
  rw [hg] at h3
  have hf := kf_is hl
  have hN : rTwoV l (k2 l (n, 0)) = N := by rw [k2_is hl hm]; unfold rTwoV; rw [if_neg (by simp)]; simp only; rw [hg]
  have e4 : k4 l (n, 0) = q4 l (m, 0) := by unfold k4; rw [h3]; rfl
  have e5 : k5 l (n, 0) = q5 (fb (bN l n.toNat) 4) l (m, 0) := by unfold k5; rw [e4, hf]; rfl
  have e6 : k6 l (n, 0) = q6 (fb (bN l n.toNat) 4) l (m, 0) := by unfold k6; rw [e5, hf]; rfl
  have e7 : k7 l (n, 0) = q7 (fb (bN l n.toNat) 4) (fb (bN l n.toNat) 128) l (m, 0) := by unfold k7; rw [e6, hf]; rfl
  have e8 : k8 l (n, 0) = q8 (fb (bN l n.toNat) 4) (fb (bN l n.toNat) 128) (fb (bN l n.toNat) 64) l (m, 0) := by unfold k8; rw [e7, hf]; rfl
  -- where no will is, the flags bear none of it
  have hno : fb (bN l n.toNat) 4 = false → bits .and .i64 ((bN l n.toNat : Int) / 8) 3 = 0 ∧ fb (bN l n.toNat) 32 = false := by
    intro hw
    have hr := bN_lt l n.toNat
    obtain ⟨b2, b4, b32, b64, b128⟩ := fb_of (f := (bN l n.toNat : Int)) (by omega) (by omega)
    obtain ⟨-, -, -, -, -, -, b8⟩ := bits_of (f := (bN l n.toNat : Int)) (by omega) (by omega)
    rw [b4] at hw
    unfold cMay at hm
    rw [hw] at hm
    simp only [Bool.false_or, Bool.and_eq_true, beq_iff_eq] at hm
    rw [b8, b32]
    refine ⟨hm.2.2.1.1, ?_⟩
    rw [hm.2.2.1.2]; rfl
  unfold qRest
  simp only
  rw [← e8]
  unfold k9
  by_cases h8 : (k8 l (n, 0)).2 = 0
  rotate_left
  · rw [if_neg (by simp [h8]), if_pos h8]
    exact cFin_bad h8
  by_cases hx : (k8 l (n, 0)).1 = l.length
  rotate_left
  · rw [if_pos ⟨h8, hx⟩, if_neg (by simp [h8]), if_pos hx]
    unfold rFail; rw [h8, if_pos rfl]
    exact cFin_bad (by simp)
  rw [if_neg (by simp [hx]), if_neg (by simp [h8]), if_neg (by simp [hx])]
  unfold cFin
  rw [if_pos h8]
  -- no text was an error, for the last state is none
  have s4 : (q4 l (m, 0)).2 = 0 := by
    by_cases h : (q4 l (m, 0)).2 = 0
    · exact h
    · rw [e8, q4_bad h] at h8; exact absurd h8 h
  have s5 : (q5 (fb (bN l n.toNat) 4) l (m, 0)).2 = 0 := by
    by_cases h : (q5 (fb (bN l n.toNat) 4) l (m, 0)).2 = 0
    · exact h
    · rw [e8, q5_bad h] at h8; exact absurd h8 h
  have s6 : (q6 (fb (bN l n.toNat) 4) l (m, 0)).2 = 0 := by
    by_cases h : (q6 (fb (bN l n.toNat) 4) l (m, 0)).2 = 0
    · exact h
    · rw [e8, q6_bad h] at h8; exact absurd h8 h
  have s7 : (q7 (fb (bN l n.toNat) 4) (fb (bN l n.toNat) 128) l (m, 0)).2 = 0 := by
    by_cases h : (q7 (fb (bN l n.toNat) 4) (fb (bN l n.toNat) 128) l (m, 0)).2 = 0
    · exact h
    · rw [e8, q7_bad h] at h8; exact absurd h8 h
  have tv : ∀ (g : List UInt8 × Int × Int) (is : Bool) (s : Int × Int), s.2 = 0 → sOf (rTextV g is s) = if is = true then sOf g.1 else ⟨#[]⟩ := by
    intro g is s hs
    unfold rTextV
    cases is
    · rfl
    · rw [if_neg (by simp), if_neg (by simp [hs])]; rfl
  unfold kCon qCon
  simp only
  rw [hN, h3, e4, e5, e6, e7, hf, tv _ _ _ rfl, tv _ _ _ s4, tv _ _ _ s5, tv _ _ _ s6, tv _ _ _ s7]
  rw [if_pos rfl]
  cases hw : fb (bN l n.toNat) 4
  · obtain ⟨z1, z2⟩ := hno hw
    rw [z1, z2]
    rfl
  · rfl
end Go.Proofs.YtclicjokgfiegaaDoor
