/- Packets out of chunks: the framer's parts: the walks. -/
import Derived.Test.YtgafhnomkeiakaaDoorFrAs
import Derived.Test.YtgafhnomkeiakaaDoorKeeps
import Derived.Test.YtgafhnomkeiakaaDoorRegion
import Derived.Test.YtgafhnomkeiakaaDoorHeadGet
namespace Go.Proofs.YtgafhnomkeiakaaDoor
open Go.RowKit
set_option linter.unusedVariables false
set_option linter.unusedSimpArgs false

/-- A framer's cells: what waits, how many were taken, whether it is dead. -/
structure FrAt (w : World) (g : Nat) (l : List UInt8) (taken dead : Int) (S : List Nat := []) : Prop where
  row : ∃ v, w.cell? ⟨g, 0, none⟩ = some v ∧ Bs w v l ∧ (l ≠ [] → OutOf v (g :: S))
  c1 : w.cell? ⟨g, 1, none⟩ = some (.int .i64 taken)
  c2 : w.cell? ⟨g, 2, none⟩ = some (.int .i64 dead)
  c3 : w.cell? ⟨g, 3, none⟩ = some (.bool true)
  fr : ∀ o, w.frozen? ⟨g, o, none⟩ = false
  lt : g < w.heap.size
  ltS : ∀ k, k ∈ S → k < w.heap.size

theorem OutOf.head {v : Value} {g : Nat} {S : List Nat} (h : OutOf v (g :: S)) : OutOf v [g] := fun a n c e hm => h a n c e (by simp at hm; simp [hm])
theorem OutOf.tail {v : Value} {g : Nat} {S : List Nat} (h : OutOf v (g :: S)) : OutOf v S := fun a n c e hm => h a n c e (by simp [hm])
/-- A slice that is empty, or points into none of the blocks that have turned, is as readable. -/
theorem Bs.keepsL {S : List Nat} {w w' : World} {v : Value} {l : List UInt8} (h : Bs w v l) (hk : Keeps S w w') (ho : l ≠ [] → OutOf v S) : Bs w' v l := by
  by_cases hl : l = []
  · subst hl
    obtain ⟨a, c, rfl, h1, h2, h3, h4⟩ := h
    exact ⟨a, c, rfl, h1, h2, h3, fun ad _ j u hu => by simp at hu⟩
  · exact h.keeps hk (ho hl)
/-- What happens beside a framer, in blocks of S and new ones: it stands; and from now on other blocks may be the other's. -/
theorem FrAt.after {w w' : World} {g : Nat} {l : List UInt8} {t d : Int} {S S' : List Nat} (h : FrAt w g l t d S) (hk : Keeps S w w') (hg : g ∉ S)
    (hS : ∀ k, k ∈ S' → k ∈ S ∨ w.heap.size ≤ k) (hl : ∀ k, k ∈ S' → k < w'.heap.size) : FrAt w' g l t d S' := by
  obtain ⟨⟨v, c0, hv, ho⟩, c1, c2, c3, fr, lt, ltS⟩ := h
  refine ⟨⟨v, (hk.cell lt hg).trans c0, hv.keepsL hk (fun hl => (ho hl).tail), fun hl a n c e hm => ?_⟩, (hk.cell lt hg).trans c1, (hk.cell lt hg).trans c2, (hk.cell lt hg).trans c3, fun o => (hk.free lt hg).trans (fr o), Nat.lt_of_lt_of_le lt hk.size, hl⟩
  have h1 := ho hl a n c e
  simp only [List.mem_cons, not_or] at h1 hm
  rcases hm with hm | hm
  · exact h1.1 hm
  · rcases hS _ hm with h2 | h2
    · exact h1.2 h2
    · have hblk := Rd.block hv (by simpa using hl) a n c e
      omega

set_option maxRecDepth 100000 in
theorem none_c (g : Nat) (w : World) (h3 : w.cell? ⟨g, 3, none⟩ = some (.bool true)) : Calls Tryd.prog 48 #[.pointer (some ⟨g, 0, none⟩)] w fun e w' => e = .returned (.bool false) ∧ w = w' := by
  go_enter Tryd.func48, Tryd.ntmps48
  go_wp2_with fail
  go_ret
  exact ⟨rfl, rfl⟩
set_option maxRecDepth 100000 in
theorem noneZ_c (g : Nat) (w : World) (h3 : w.cell? ⟨g, 3, none⟩ = some (.bool false)) : Calls Tryd.prog 48 #[.pointer (some ⟨g, 0, none⟩)] w fun e w' => e = .returned (.bool true) ∧ w = w' := by
  go_enter Tryd.func48, Tryd.ntmps48
  go_wp2_with fail
  go_ret
  exact ⟨rfl, rfl⟩
set_option maxRecDepth 100000 in
theorem noneN_c (w : World) : Calls Tryd.prog 48 #[.pointer none] w fun e w' => e = .returned (.bool true) ∧ w = w' := by
  go_enter Tryd.func48, Tryd.ntmps48
  go_wp2_with fail
  go_ret
  exact ⟨rfl, rfl⟩

set_option maxRecDepth 100000 in
theorem frNew_c (w : World) : Calls Tryd.prog 23 #[] w fun e w' => e = .returned (.pointer (some ⟨w.heap.size, 0, none⟩)) ∧ FrAt w' w.heap.size [] 0 0 ∧ Below w.heap.size w w' := by
  go_enter Tryd.func23, Tryd.ntmps23
  go_wp2_with fail
  go_ret
  exact ⟨rfl, ⟨⟨.slice none 0 0, by simp [go_sem], Rd.nil _, fun h => absurd rfl h⟩, by simp [go_sem], by simp [go_sem], by simp [go_sem], fun o => by simp [go_sem], by simp, fun _ h => by cases h⟩, by go_grown⟩

set_option maxRecDepth 100000 in
theorem waits_c (g : Nat) (l : List UInt8) (t d : Int) {S : List Nat} (w : World) (h : FrAt w g l t d S) : Calls Tryd.prog 28 #[.pointer (some ⟨g, 0, none⟩)] w fun e w' => e = .returned (.int .i64 l.length) ∧ w = w' := by
  obtain ⟨⟨v, c0, hv, ho⟩, c1, c2, c3, fr, lt, ltS⟩ := h
  obtain ⟨a, c, rfl⟩ := hv.slice
  go_enter Tryd.func28, Tryd.ntmps28
  go_wp2_with fail
  refine (none_c g _ c3).mono ?_
  rintro e w' ⟨rfl, rfl⟩
  go_wp2_with fail
  go_ret
  exact ⟨rfl, rfl⟩
set_option maxRecDepth 100000 in
theorem taken_c (g : Nat) (l : List UInt8) (t d : Int) {S : List Nat} (w : World) (h : FrAt w g l t d S) : Calls Tryd.prog 32 #[.pointer (some ⟨g, 0, none⟩)] w fun e w' => e = .returned (.int .i64 t) ∧ w = w' := by
  obtain ⟨⟨v, c0, hv, ho⟩, c1, c2, c3, fr, lt, ltS⟩ := h
  go_enter Tryd.func32, Tryd.ntmps32
  go_wp2_with fail
  refine (none_c g _ c3).mono ?_
  rintro e w' ⟨rfl, rfl⟩
  go_wp2_with fail
  go_ret
  exact ⟨rfl, rfl⟩
set_option maxRecDepth 100000 in
theorem dead_c (g : Nat) (l : List UInt8) (t d : Int) {S : List Nat} (w : World) (h : FrAt w g l t d S) : Calls Tryd.prog 29 #[.pointer (some ⟨g, 0, none⟩)] w fun e w' => e = .returned (.bool (d != 0)) ∧ w = w' := by
  obtain ⟨⟨v, c0, hv, ho⟩, c1, c2, c3, fr, lt, ltS⟩ := h
  go_enter Tryd.func29, Tryd.ntmps29
  go_wp2_with fail
  refine (none_c g _ c3).mono ?_
  rintro e w' ⟨rfl, rfl⟩
  go_wp2_with fail
  go_ret
  exact ⟨rfl, rfl⟩
set_option maxRecDepth 100000 in
theorem tooShort_c (w : World) : Calls Tryd.prog 51 #[] w fun e w' => e = .returned (fV 2) ∧ w = w' := by
  unfold fV
  go_enter Tryd.func51, Tryd.ntmps51
  go_wp2_with fail
  go_ret
  exact ⟨rfl, rfl⟩

set_option maxRecDepth 100000 in
set_option maxHeartbeats 4000000 in
theorem die_c (g : Nat) (l : List UInt8) (t d e : Int) {S : List Nat} (w : World) (hE : EnvR w) (h : FrAt w g l t d S) : Calls Tryd.prog 52 #[.pointer (some ⟨g, 0, none⟩), fV e] w fun r w' => r = .returned (.int .i64 e) ∧ FrAt w' g [] t e S ∧ Keeps [g] w w' := by
  obtain ⟨⟨v, c0, hv, ho⟩, c1, c2, c3, fr, lt, ltS⟩ := h
  have hlt : 0 < w.heap.size := by
    rcases Nat.lt_or_ge 0 w.heap.size with h | h
    · exact h
    · unfold EnvR at hE; simp [World.cell?, Array.getElem?_eq_none h] at hE
  have hE1 : EnvR (w.alloc (.cells #[.int .i64 0] 111)) := by unfold EnvR at hE ⊢; rw [World.cell?_alloc_lt _ _ ⟨0, 0, none⟩ hlt]; exact hE
  have hA := errAs_c e w.heap.size (.int .i64 0) (w.alloc (.cells #[.int .i64 0] 111)) hE1 (by simp [go_sem]) (by simp [go_sem])
  have hA2 : Calls Tryd.prog 66 #[fV e, .iface 117 (.pointer (some ⟨w.heap.size, 0, none⟩))] (w.alloc (.cells #[.int .i64 0] 111)) fun ev w' => ev = .returned (.bool true) ∧ w'.cell? ⟨w.heap.size, 0, none⟩ = some (.int .i64 e) ∧ Below w.heap.size w w' ∧ w.heap.size < w'.heap.size := by
    refine hA.mono ?_
    rintro ev w' ⟨rfl, rfl⟩
    refine ⟨rfl, ?_, ?_, by simp; omega⟩
    · rw [World.cell?_setCell_same' _ _ _ (by
        rw [World.cell?_alloc_lt _ _ ⟨w.heap.size, 0, none⟩ (by simp; omega), World.cell?_alloc_lt _ _ ⟨w.heap.size, 0, none⟩ (by simp; omega), World.cell?_alloc_lt _ _ ⟨w.heap.size, 0, none⟩ (by simp; omega), World.cell?_alloc_lt _ _ ⟨w.heap.size, 0, none⟩ (by simp), World.cell?_alloc_new w _ _ 0]; rfl)]
    · exact (((((((Below.refl _ w).alloc (Nat.le_refl _) _).alloc (by simp) _).alloc (by simp; omega) _).alloc (by simp; omega) _).alloc (by simp; omega) _).setCell (Nat.le_refl _) _)
  have HA := hd hA2; clear hA hA2
  go_enter Tryd.func52, Tryd.ntmps52
  go_wp2_with fail
  refine HA.out.mono ?_
  rintro r w1 ⟨rfl, hx, hb1, hl1⟩
  replace c0 := (bcell hb1 g 0 lt).trans c0
  replace c1 := (bcell hb1 g 1 lt).trans c1
  replace c2 := (bcell hb1 g 2 lt).trans c2
  replace c3 := (bcell hb1 g 3 lt).trans c3
  have f0 := (bfree hb1 g 0 lt).trans (fr 0)
  have f2 := (bfree hb1 g 2 lt).trans (fr 2)
  have hgn : w.heap.size ≠ g := by omega
  clear HA
  go_wp2_with fail
  go_ret
  refine ⟨rfl, ⟨⟨.slice none 0 0, by simp [go_sem, c0], Rd.nil _, fun h => absurd rfl h⟩, by simp [go_sem, c1], by simp [go_sem, c2], by simp [go_sem, c3], fun o => by simp [go_sem]; exact (bfree hb1 g o lt).trans (fr o), by simp; omega, fun k hk => by have := ltS k hk; have := hb1.size; simp; omega⟩, (((Keeps.below hb1).setCell (.inl (by simp)) _).setCell (.inl (by simp)) _)⟩
end Go.Proofs.YtgafhnomkeiakaaDoor
