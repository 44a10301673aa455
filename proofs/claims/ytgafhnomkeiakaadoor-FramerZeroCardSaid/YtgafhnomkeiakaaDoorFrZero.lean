/- A framer that nobody made: the walk. -/
import Derived.Test.YtgafhnomkeiakaaDoorFrLaws
namespace Go.Proofs.YtgafhnomkeiakaaDoor
open Go.RowKit
set_option linter.unusedVariables false
set_option linter.unusedSimpArgs false

set_option maxRecDepth 100000 in
set_option maxHeartbeats 4000000 in
theorem FramerZero_w (s : ByteArray) (w : World) (hE : EnvF w) : Calls Tryd.prog 11 #[.string s] w fun e w' => e = .returned (.bool true) ∧ Below w.heap.size w w' := by
  have HE := hd hE; clear hE
  go_enter Tryd.func11, Tryd.ntmps11
  go_wp2_with fail
  refine (nextNil_c _).mono ?_
  rintro e w1 ⟨rfl, hb1⟩
  have hl1 : w.heap.size < w1.heap.size := by have := hb1.size; simp at this; omega
  have z3 := (bcell hb1 w.heap.size 3 (by simp)).trans (World.cell?_alloc_new w _ _ 3)
  replace z3 : w1.cell? ⟨w.heap.size, 3, none⟩ = some (.bool false) := z3
  have hb : Below w.heap.size w w1 := Below.up (by go_grown) hb1
  clear hb1
  go_wp2_with fail
  refine (nextZ_c w.heap.size _ (by simp; omega) (by simp [go_sem, z3, hl1])).mono ?_
  rintro e w2 ⟨rfl, hb2⟩
  have hl2 : w1.heap.size < w2.heap.size := by have := hb2.size; simp at this; omega
  have hl : w.heap.size < w2.heap.size := by omega
  replace z3 := (bcell hb2 w.heap.size 3 (by simp; omega)).trans ((World.cell?_alloc_lt _ _ ⟨w.heap.size, 3, none⟩ hl1).trans z3)
  have x0 := (bcell hb2 w1.heap.size 0 (by simp)).trans (World.cell?_alloc_new w1 _ _ 0)
  have x1 := (bcell hb2 w1.heap.size 1 (by simp)).trans (World.cell?_alloc_new w1 _ _ 1)
  have x2 := (bcell hb2 w1.heap.size 2 (by simp)).trans (World.cell?_alloc_new w1 _ _ 2)
  have x3 := (bcell hb2 w1.heap.size 3 (by simp)).trans (World.cell?_alloc_new w1 _ _ 3)
  replace x0 : w2.cell? ⟨w1.heap.size, 0, none⟩ = some (.int .i64 0) := x0
  replace x1 : w2.cell? ⟨w1.heap.size, 1, none⟩ = some (.int .i64 0) := x1
  replace x2 : w2.cell? ⟨w1.heap.size, 2, none⟩ = some (.int .i64 0) := x2
  replace x3 : w2.cell? ⟨w1.heap.size, 3, none⟩ = some (.string ⟨#[]⟩) := x3
  replace hb := Below.up (Below.up hb ((Below.refl _ _).alloc (Nat.le_refl _) _)) hb2
  clear hb2
  go_wp2_with fail
  refine (feedNil_c s _).mono ?_
  rintro e w3 ⟨rfl, rfl⟩
  go_wp2_with fail
  refine (feedZ_c w.heap.size s _ (by simp [go_sem, z3, hl])).mono ?_
  rintro e w3 ⟨rfl, rfl⟩
  go_wp2_with fail
  refine (waitsNil_c _).mono ?_
  rintro e w3 ⟨rfl, rfl⟩
  go_wp2_with fail
  refine (takenZ_c w.heap.size _ (by simp [go_sem, z3, hl])).mono ?_
  rintro e w3 ⟨rfl, rfl⟩
  go_wp2_with fail
  refine (deadNil_c _).mono ?_
  rintro e w3 ⟨rfl, rfl⟩
  go_wp2_with fail
  refine (deadZ_c w.heap.size _ (by simp [go_sem, z3, hl])).mono ?_
  rintro e w3 ⟨rfl, rfl⟩
  go_wp2_with fail
  replace hb := Below.up hb ((Below.refl w2.heap.size w2).alloc (Nat.le_refl _) (.cells #[.int .i64 0, .int .i64 0, .int .i64 0, .string ⟨#[]⟩] 54))
  refine (awake12_c _ (HE.out.below hb)).mono ?_
  rintro e w4 ⟨rfl, hb4⟩
  go_wp2_with fail
  go_ret
  exact ⟨rfl, Below.up hb hb4⟩
end Go.Proofs.YtgafhnomkeiakaaDoor
