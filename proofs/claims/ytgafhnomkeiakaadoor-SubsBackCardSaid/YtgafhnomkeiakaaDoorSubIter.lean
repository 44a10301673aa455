/- Wishes: the program's iterator over filters: its contract. -/
import Derived.RangeFuncNested
import Derived.RangeFuncBound
import Derived.RangeFuncCalls
import Derived.RangeFuncLeaves
import Derived.RangeFuncBox
import Derived.Shelf.Abstract
import Derived.Shelf.RegionOpen
import Derived.WalkKit
import Derived.OwnWalkIn
import Derived.TacticsInMore
import Derived.LoopNIn
import Derived.LoopIn
import Derived.Maps.AppendAt
import Derived.Test.YtgafhnomkeiakaaDoorSubRefOf
namespace Go.Proofs.YtgafhnomkeiakaaDoor
open Go.RowKit Go.Shelf
set_option linter.unusedVariables false
set_option linter.unusedSimpArgs false
attribute [local go_sem] Oper.semAt_some

/-- the place behind k reads; what the k-th read hands out -/
def sbPlace (ends : Bool) (l : List UInt8) : Nat → Int
  | 0 => 2
  | k + 1 => (sbRead l (sbPlace ends l k) ends).2.1
abbrev Item := Wish × Int
def sbItem (ends : Bool) (l : List UInt8) (k : Nat) : Item := ((sbRead l (sbPlace ends l k) ends).1, (sbRead l (sbPlace ends l k) ends).2.2)
def sbItems (ends : Bool) (l : List UInt8) (k : Nat) : List Item := (List.range k).map (sbItem ends l)
theorem sbItems_succ (ends : Bool) (l : List UInt8) (k : Nat) : sbItems ends l (k + 1) = sbItems ends l k ++ [sbItem ends l k] := by simp [sbItems, List.range_succ]
theorem sbItems_len (ends : Bool) (l : List UInt8) (k : Nat) : (sbItems ends l k).length = k := by simp [sbItems]
/-- k reads went well -/
def sbWell (ends : Bool) (l : List UInt8) (k : Nat) : Prop := ∀ j, j < k → (sbItem ends l j).2 = 0 ∧ sbPlace ends l j < l.length
theorem sbWell.place {ends : Bool} {l : List UInt8} : ∀ {k : Nat}, sbWell ends l k → 2 ≤ l.length → 2 + (k : Int) ≤ sbPlace ends l k ∧ sbPlace ends l k ≤ l.length
  | 0, _, h2 => by simp [sbPlace]; omega
  | k + 1, h, h2 => by
    have ih := sbWell.place (k := k) (fun j hj => h j (by omega)) h2
    have hk := sbRead_rng (h k (by omega)).1
    simp only [sbPlace]
    omega
def itemV (x : Item) : Array Value := #[.agg #[.string x.1.1, .int .i64 x.1.2], .int .i64 x.2]
def sbDone (ends : Bool) (l : List UInt8) (xs : List Item) : Prop :=
  ∃ k, xs = sbItems ends l k ∧ sbWell ends l k ∧ (l.length : Int) ≤ sbPlace ends l k ∨ xs = sbItems ends l (k + 1) ∧ sbWell ends l k ∧ sbPlace ends l k < l.length ∧ (sbItem ends l k).2 ≠ 0
def sbStop (ends : Bool) (l : List UInt8) (xs : List Item) : Prop := ∃ k, xs = sbItems ends l (k + 1) ∧ sbWell ends l k ∧ sbPlace ends l k < l.length

/-- A frame: the blocks below B, but those of a list, lie as they lay. -/
structure KeepsU (S : List Nat) (B : Nat) (w w' : World) : Prop where
  os : w'.os = w.os
  tape : w'.tape = w.tape
  output : w'.output = w.output
  size : w.heap.size ≤ w'.heap.size
  block : ∀ k, k < B → k ∉ S → w'.heap[k]? = w.heap[k]?
theorem KeepsU.refl (S : List Nat) (B : Nat) (w : World) : KeepsU S B w w := ⟨rfl, rfl, rfl, Nat.le_refl _, fun _ _ _ => rfl⟩
theorem KeepsU.trans {S : List Nat} {B : Nat} {a b c : World} (h : KeepsU S B a b) (k : KeepsU S B b c) : KeepsU S B a c :=
  ⟨k.os.trans h.os, k.tape.trans h.tape, k.output.trans h.output, Nat.le_trans h.size k.size, fun i hi hn => (k.block i hi hn).trans (h.block i hi hn)⟩
theorem KeepsU.below {S : List Nat} {B n : Nat} {w w' : World} (h : Below n w w') (hn : B ≤ n) : KeepsU S B w w' := ⟨h.os, h.tape, h.output, h.size, fun k hk _ => h.block k (by omega)⟩
theorem KeepsU.alloc {S : List Nat} {B : Nat} {a w : World} (h : KeepsU S B a w) (hB : B ≤ w.heap.size) (o : Obj) : KeepsU S B a (w.alloc o) :=
  h.trans (KeepsU.below ((Below.refl _ w).alloc (Nat.le_refl _) o) hB)
theorem KeepsU.setCell {S : List Nat} {B : Nat} {a w : World} (h : KeepsU S B a w) {p : Addr} (hp : p.block ∈ S ∨ B ≤ p.block) (u : Value) : KeepsU S B a (w.setCell p u) :=
  ⟨h.os, h.tape, h.output, by simpa [World.setCell] using h.size, fun k hk hn => (Below.heap_setCell _ _ _ _ (fun e => by
    rcases hp with hp | hp
    · exact hn (e ▸ hp)
    · omega)).trans (h.block k hk hn)⟩
theorem KeepsU.cell {S : List Nat} {B : Nat} {w w' : World} (h : KeepsU S B w w') {b o : Nat} (hb : b < B) (hn : b ∉ S) : w'.cell? ⟨b, o, none⟩ = w.cell? ⟨b, o, none⟩ := World.cell?_of_block (w := w) (h.block b hb hn)
theorem KeepsU.toBelow {S : List Nat} {B C : Nat} {w w' : World} (h : KeepsU S B w w') (hC : C ≤ B) (hS : ∀ k, k ∈ S → C ≤ k) : Below C w w' :=
  ⟨h.os, h.tape, h.output, h.size, fun k hk => h.block k (by omega) (fun hm => by have := hS k hm; omega)⟩
theorem Bs.keepsU {S : List Nat} {B : Nat} {w w' : World} {v : Value} {l : List UInt8} (h : Bs w v l) (hk : KeepsU S B w w') (ho : ∀ a n c, v = .slice (some a) n c → a.block < B ∧ a.block ∉ S) : Bs w' v l := by
  obtain ⟨a, c, rfl, h1, h2, h3, h4⟩ := h
  refine ⟨a, c, rfl, h1, h2, h3, fun ad had j u hu => ?_⟩
  subst had
  obtain ⟨hlt, hno⟩ := ho ad _ _ rfl
  have e : w'.cell? (ad.add j) = w.cell? (ad.add j) := World.cell?_of_block (w := w) (by
    have : (ad.add j).block = ad.block := by unfold Addr.add; split <;> rfl
    rw [this]
    exact hk.block _ hlt hno)
  rw [e]
  exact h4 ad rfl j u hu

theorem grown_of_below {w w' : World} (h : Below w.heap.size w w') : w.grownBy w' none := ⟨h.os, h.tape, h.output, h.size, fun k hk _ => h.block k hk⟩

set_option maxRecDepth 100000 in
set_option maxHeartbeats 4000000 in
theorem wishes1_in (n : Nat) (hn : 1 ≤ n) (lp Bb Be : Nat) (S : List Nat) (B : Nat) (v : Value) (l : List UInt8) (ends : Bool) (J Jx : List Item → World → Prop)
    (W : World) (hJ : AbidesFrom W.heap.size J)
    (hY : ∀ pre x W, J pre W → pre.length < l.length → YieldAt Fence.wide (n - 1) Tryd.prog lp (itemV x) W fun e W' =>
      (e = .returned (.bool true) ∧ J (pre ++ [x]) W' ∧ KeepsU S B W W') ∨ (e = .returned (.bool false) ∧ Jx (pre ++ [x]) W'))
    (hBb : W.cell? ⟨Bb, 0, none⟩ = some v) (hBe : W.cell? ⟨Be, 0, none⟩ = some (.bool ends)) (hv : Bs W v l) (hn0 : B ≤ W.heap.size) (hb0 : Bb < B ∧ Bb ∉ S) (he0 : Be < B ∧ Be ∉ S) (hvb : ∀ a n c, v = .slice (some a) n c → a.block < B ∧ a.block ∉ S)
    (hE : ∀ W', KeepsU S B W W' → EnvU W') (hl2 : 2 ≤ l.length) (hlm : l.length ≤ 140737488351232) (h0 : J [] W) :
    CallsIn Fence.wide n Tryd.prog 60 #[.func (.yield lp) #[] #[], .pointer (some ⟨Bb, 0, none⟩), .pointer (some ⟨Be, 0, none⟩)] W fun e W' => (∃ v, e = .returned v) ∧
      ((∃ ys, sbDone ends l ys ∧ J ys W') ∨ (∃ pre, sbStop ends l pre ∧ Jx pre W')) := by
  obtain ⟨a, c, rfl⟩ := hv.slice
  have HE := hd hE; have HV := hd hv; have HY := hd hY; clear hE hv hY
  refine callsIn_of_wp Tryd.func60 rfl trivial ?_ rfl
  simp only [Tryd.ntmps60, List.size_toArray, List.length_cons, List.length_nil, Nat.reduceAdd, Nat.reduceSub, Array.replicate_succ, Array.replicate_zero, List.push_toArray, List.append_toArray, List.nil_append, List.cons_append]
  gi_wp2
  gi_loopw [4] (fun p wr => ∃ k : Nat, p = .int .i64 (sbPlace ends l k) ∧ sbWell ends l k ∧ J (sbItems ends l k) wr ∧ KeepsU S B W wr)
    (fun p wr => leftTo l.length p)
  case atStart => exact ⟨0, rfl, fun j hj => by omega, h0, KeepsU.refl _ _ _⟩
  case round =>
    obtain ⟨k, rfl, hw, hJk, hB⟩ := hrel
    have hcb := (hB.cell hb0.1 hb0.2).trans hBb
    have hce := (hB.cell he0.1 he0.2).trans hBe
    have hBs := hB.size
    by_cases hpl : sbPlace ends l k < (l.length : Int)
    rotate_left
    · gi_wp2
      go_end0
      exact ⟨⟨_, rfl⟩, .inl ⟨_, ⟨k, .inl ⟨rfl, hw, by omega⟩⟩, hJk⟩⟩
    have hpk := hw.place hl2
    have hvr : Bs wr (.slice a l.length c) l := HV.out.keepsU hB hvb
    have hrd := read_c _ l (sbPlace ends l k) ends wr (HE.out _ hB) hvr (by omega)
    have hrr := @sbRead_rng l (sbPlace ends l k) ends
    have hpn : sbPlace ends l (k + 1) = (sbRead l (sbPlace ends l k) ends).2.1 := rfl
    have hit : sbItem ends l k = ((sbRead l (sbPlace ends l k) ends).1, (sbRead l (sbPlace ends l k) ends).2.2) := rfl
    have hY1 := HY.out (sbItems ends l k) (sbItem ends l k)
    rw [hit] at hY1
    have hdone : (sbItem ends l k).2 ≠ 0 → sbDone ends l (sbItems ends l k ++ [sbItem ends l k]) := fun h => ⟨k, .inr ⟨(sbItems_succ ends l k).symm, hw, hpl, h⟩⟩
    have hstop : sbStop ends l (sbItems ends l k ++ [sbItem ends l k]) := ⟨k, (sbItems_succ ends l k).symm, hw, hpl⟩
    have hnext : (sbItem ends l k).2 = 0 → sbWell ends l (k + 1) := fun h j hj => by
      rcases Nat.lt_succ_iff_lt_or_eq.1 hj with hj | rfl
      · exact hw j hj
      · exact ⟨h, hpl⟩
    have hsucc := sbItems_succ ends l k
    rw [hit] at hdone hstop hnext hsucc
    clear hit
    generalize sbRead l (sbPlace ends l k) ends = r at hrd hrr hpn hY1 hdone hstop hnext hsucc
    obtain ⟨⟨T, q⟩, tn, er⟩ := r
    unfold GivesRd at hrd
    simp only at hrd hrr hpn hY1 hdone hstop hnext hsucc
    have HRD := hd hrd; have HY1 := hd hY1; clear hrd hY1
    gi_wp2
    refine ⟨trivial, (callsIn_wide.2 HRD.out).mono ?_⟩
    rintro e w3 ⟨rfl, hb3⟩
    have hb3s := hb3.size
    have hJ3 : J (sbItems ends l k) (w3.alloc (.cells #[.string T, .int .i64 q] 47)) :=
      hJ _ _ _ none (hJ _ _ _ none hJk (grown_of_below hb3) (fun r e => by cases e)) (World.grownBy_alloc w3 _ none) (fun r e => by cases e)
    have hB3 : KeepsU S B W (w3.alloc (.cells #[.string T, .int .i64 q] 47)) := (hB.trans (KeepsU.below hb3 (by omega))).alloc (by omega) _
    obtain ⟨fn, tmps, assign, body, hy, hR⟩ := HY1.out _ hJ3 (by rw [sbItems_len]; omega)
    simp only [itemV] at hy
    clear HRD HY1 HY hb3 hJk hcb hce
    gi_wp2
    refine hR.mono ?_
    rintro e W3 (⟨rfl, hJ4, hk4⟩ | ⟨rfl, hJx4⟩)
    · by_cases hz : er = 0
      · subst hz
        obtain ⟨p0, p1, p2⟩ := hrr rfl
        gi_wp2
        go_roundw
        case rel => exact ⟨k + 1, by rw [hpn], hnext (by simp), by rw [hsucc]; exact hJ4, hB3.trans hk4⟩
        case measure => simp [leftTo]; omega
      · have hzb : (er != 0) = true := by simpa using hz
        gi_wp2
        refine bodyPost_ret (results_none rfl _ _ _) rfl ?_
        exact ⟨⟨_, rfl⟩, .inl ⟨_, hdone hz, hJ4⟩⟩
    · gi_wp2
      refine bodyPost_ret (results_none rfl _ _ _) rfl ?_
      exact ⟨⟨_, rfl⟩, .inr ⟨_, hstop, hJx4⟩⟩
end Go.Proofs.YtgafhnomkeiakaaDoor
