/- A frame: of what was there only the blocks of a list, and new ones, have turned. Of no function of the program. -/
import Derived.Test.YtgafhnomkeiakaaDoorPubOf
namespace Go.Proofs.YtgafhnomkeiakaaDoor
open Go.RowKit
set_option linter.unusedVariables false

structure Keeps (S : List Nat) (w w' : World) : Prop where
  os : w'.os = w.os
  tape : w'.tape = w.tape
  output : w'.output = w.output
  size : w.heap.size ≤ w'.heap.size
  block : ∀ k, k < w.heap.size → k ∉ S → w'.heap[k]? = w.heap[k]?

theorem Keeps.refl (S : List Nat) (w : World) : Keeps S w w := ⟨rfl, rfl, rfl, Nat.le_refl _, fun _ _ _ => rfl⟩
theorem Keeps.trans {S : List Nat} {a b c : World} (h : Keeps S a b) (k : Keeps S b c) : Keeps S a c :=
  ⟨k.os.trans h.os, k.tape.trans h.tape, k.output.trans h.output, Nat.le_trans h.size k.size, fun i hi hn => (k.block i (Nat.lt_of_lt_of_le hi h.size) hn).trans (h.block i hi hn)⟩
theorem Keeps.mono {S S' : List Nat} {w w' : World} (h : Keeps S w w') (hs : ∀ k, k ∈ S → k ∈ S') : Keeps S' w w' :=
  ⟨h.os, h.tape, h.output, h.size, fun k hk hn => h.block k hk (fun hm => hn (hs k hm))⟩
theorem Keeps.below {S : List Nat} {w w' : World} (h : Below w.heap.size w w') : Keeps S w w' := ⟨h.os, h.tape, h.output, h.size, fun k hk _ => h.block k hk⟩
theorem Keeps.alloc {S : List Nat} {a w : World} (h : Keeps S a w) (o : Obj) : Keeps S a (w.alloc o) :=
  h.trans ⟨rfl, rfl, rfl, by simp, fun k hk _ => Below.heap_alloc _ _ _ hk⟩
theorem Keeps.setCell {S : List Nat} {a w : World} (h : Keeps S a w) {p : Addr} (hp : p.block ∈ S ∨ a.heap.size ≤ p.block) (u : Value) : Keeps S a (w.setCell p u) :=
  ⟨h.os, h.tape, h.output, by simpa [World.setCell] using h.size, fun k hk hn => (Below.heap_setCell _ _ _ _ (fun e => by
    rcases hp with hp | hp
    · exact hn (e ▸ hp)
    · omega)).trans (h.block k hk hn)⟩
theorem Keeps.drewN {S : List Nat} {a w : World} (h : Keeps S a w) (n : Nat) : Keeps S a (w.drewN n) := ⟨h.os, h.tape, h.output, h.size, h.block⟩
theorem Keeps.drew {S : List Nat} {a w : World} (h : Keeps S a w) : Keeps S a w.drew := ⟨h.os, h.tape, h.output, h.size, h.block⟩
theorem Keeps.cell {S : List Nat} {w w' : World} (h : Keeps S w w') {b o : Nat} (hb : b < w.heap.size) (hn : b ∉ S) : w'.cell? ⟨b, o, none⟩ = w.cell? ⟨b, o, none⟩ := World.cell?_of_block (w := w) (h.block b hb hn)
theorem Keeps.free {S : List Nat} {w w' : World} (h : Keeps S w w') {b o : Nat} (hb : b < w.heap.size) (hn : b ∉ S) : w'.frozen? ⟨b, o, none⟩ = w.frozen? ⟨b, o, none⟩ := World.frozen?_of_block (w := w) (h.block b hb hn)
/-- What a call that makes nothing turn below its own start leaves of it all. -/
theorem Keeps.toBelow {S : List Nat} {B : Nat} {w w' : World} (h : Keeps S w w') (hB : B ≤ w.heap.size) (hS : ∀ k, k ∈ S → B ≤ k) : Below B w w' :=
  ⟨h.os, h.tape, h.output, h.size, fun k hk => h.block k (by omega) (fun hm => by have := hS k hm; omega)⟩

/-- A slice that points into none of these blocks. -/
def OutOf (v : Value) (S : List Nat) : Prop := ∀ a n c, v = .slice (some a) n c → a.block ∉ S
theorem Rd.keeps {S : List Nat} {w w' : World} {v : Value} {n : Nat} {xs : List Value} (h : Rd w v n xs) (hk : Keeps S w w') (ho : OutOf v S) : Rd w' v n xs := by
  by_cases hx : xs = []
  · subst hx
    obtain ⟨a, c, rfl, h1, h2, h3, h4⟩ := h
    exact ⟨a, c, rfl, h1, h2, h3, fun ad _ j u hu => by simp at hu⟩
  · have hblk := h.block hx
    obtain ⟨a, c, rfl, h1, h2, h3, h4⟩ := h
    refine ⟨a, c, rfl, h1, h2, h3, fun ad had j u hu => ?_⟩
    subst had
    have hlt := hblk ad _ _ rfl
    have hno := ho ad _ _ rfl
    have e : w'.cell? (ad.add j) = w.cell? (ad.add j) := World.cell?_of_block (w := w) (by
      have : (ad.add j).block = ad.block := by unfold Addr.add; split <;> rfl
      rw [this]
      exact hk.block _ hlt hno)
    rw [e]
    exact h4 ad rfl j u hu
theorem Bs.keeps {S : List Nat} {w w' : World} {v : Value} {l : List UInt8} (h : Bs w v l) (hk : Keeps S w w') (ho : OutOf v S) : Bs w' v l := Rd.keeps h hk ho
end Go.Proofs.YtgafhnomkeiakaaDoor
