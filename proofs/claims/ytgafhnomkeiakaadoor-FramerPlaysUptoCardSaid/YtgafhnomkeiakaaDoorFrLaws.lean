/- The laws of packets out of chunks: awake, Zero: the walks. -/
import Derived.Test.YtgafhnomkeiakaaDoorFrNext
namespace Go.Proofs.YtgafhnomkeiakaaDoor
open Go.RowKit
set_option linter.unusedVariables false
set_option linter.unusedSimpArgs false

def EnvF (w : World) : Prop := EnvH w ∧ EnvR w
theorem EnvF.below {w w' : World} (h : EnvF w) (hb : Below w.heap.size w w') : EnvF w' := ⟨h.1.below hb (Nat.le_refl _), h.2.below hb⟩

theorem next_c (g : Nat) (s : FrS) {S : List Nat} (w : World) (hE : EnvF w) (h : FrAt w g s.1 s.2.1 s.2.2 S) (hlm : s.1.length ≤ 140737488355328) (ht : 0 ≤ s.2.1 ∧ s.2.1 ≤ 140737488355328) :
    Calls Tryd.prog 31 #[.pointer (some ⟨g, 0, none⟩)] w (fun e w' => GivesNext w g (frNext s) e w' S) := by
  obtain ⟨l, t, d⟩ := s
  by_cases hd0 : d = 0
  · subst hd0
    exact nextLive_c g l t w hE.1 hE.2 h hlm ht
  · have e : frNext (l, t, d) = ((pk0, false, d), (l, t, d)) := by rw [frNext, if_pos hd0]
    rw [e]
    exact nextDead_c g l t d w h hd0

theorem sOf_nil : sOf [] = ⟨#[]⟩ := rfl

set_option maxRecDepth 100000 in
set_option maxHeartbeats 2000000 in
theorem awake12_c (w : World) (hE : EnvF w) : Calls Tryd.prog 30 #[] w fun e w' => e = .returned (.bool true) ∧ Below w.heap.size w w' := by
  have HE := hd hE; clear hE
  have e1 : frNext ([192], 0, 0) = ((pk0, false, 0), ([192], 0, 0)) := by decide +kernel
  have e2 : frNext ([192, 0, 192], 0, 0) = ((((12, 0, 0), []), true, 0), ([192], 1, 0)) := by decide +kernel
  have HE1 := hd e1; have HE2 := hd e2; clear e1 e2
  go_enter Tryd.func30, Tryd.ntmps30
  go_wp2_with fail
  refine (frNew_c _).mono ?_
  rintro e w1 ⟨rfl, hf1, hb1⟩
  have hl1 : w.heap.size < w1.heap.size := hf1.lt
  go_wp2_with fail
  refine (feed_c _ [] 0 0 ⟨#[192]⟩ _ hf1 (by decide)).mono ?_
  rintro e w2 ⟨rfl, hf2, hk2⟩
  replace hb1 : Below w.heap.size w w2 := hb1.trans (hk2.toBelow (Nat.le_of_lt hl1) (by simp))
  replace hf2 : FrAt w2 w.heap.size [192] 0 0 := hf2
  clear hf1 hk2 hl1
  go_wp2_with fail
  refine (next_c _ ([192], 0, 0) _ (HE.out.below hb1) hf2 (by decide) (by decide)).mono ?_
  rw [HE1.out]; simp only [GivesNext, pkV, pk0, sOf_nil]
  rintro e w3 ⟨rfl, hf3, hk3⟩
  replace hb1 : Below w.heap.size w w3 := hb1.trans (hk3.toBelow (Nat.le_of_lt hf2.lt) (by simp))
  clear hf2 hk3
  have hl3 := hf3.lt
  have hbx : Below w3.heap.size w3 (w3.alloc (Obj.cells #[.int .i64 0, .int .i64 0, .int .i64 0, .string ⟨#[]⟩] 54)) := (Below.refl _ _).alloc (Nat.le_refl _) _
  replace hf3 := hf3.below hbx
  replace hb1 := Below.up hb1 hbx
  clear hbx
  go_wp2_with fail
  refine (feed_c _ [192] 0 0 ⟨#[0, 192]⟩ _ hf3 (by decide)).mono ?_
  rintro e w4 ⟨rfl, hf4, hk4⟩
  replace hb1 : Below w.heap.size w w4 := hb1.trans (hk4.toBelow (Nat.le_of_lt hf3.lt) (by simp))
  replace hf4 : FrAt w4 w.heap.size [192, 0, 192] 0 0 := hf4
  clear hf3 hk4
  go_wp2_with fail
  refine (next_c _ ([192, 0, 192], 0, 0) _ (HE.out.below hb1) hf4 (by decide) (by decide)).mono ?_
  rw [HE2.out]; simp only [GivesNext, pkV, pk0, sOf_nil]
  rintro e w5 ⟨rfl, hf5, hk5⟩
  replace hb1 : Below w.heap.size w w5 := hb1.trans (hk5.toBelow (Nat.le_of_lt hf4.lt) (by simp))
  have hl5 := hf5.lt
  clear hf4 hk5
  have HF5 := hd hf5; clear hf5
  go_wp2_with fail
  refine (waits_c _ [192] 1 0 _ (HF5.out.below ((Below.refl _ _).alloc (Nat.le_refl _) _))).mono ?_
  rintro e w6 ⟨rfl, rfl⟩
  go_wp2_with fail
  go_ret
  exact ⟨rfl, by go_grown⟩

set_option maxRecDepth 100000 in
set_option maxHeartbeats 2000000 in
theorem feedNil_c (s : ByteArray) (w : World) : Calls Tryd.prog 25 #[.pointer none, .string s] w fun e w' => e = .returned (.int .i64 8) ∧ w = w' := by
  go_enter Tryd.func25, Tryd.ntmps25
  go_wp2_with fail
  refine (noneN_c _).mono ?_
  rintro e w' ⟨rfl, rfl⟩
  go_wp2_with fail
  go_ret
  exact ⟨rfl, rfl⟩
set_option maxRecDepth 100000 in
set_option maxHeartbeats 2000000 in
theorem feedZ_c (g : Nat) (s : ByteArray) (w : World) (h3 : w.cell? ⟨g, 3, none⟩ = some (.bool false)) : Calls Tryd.prog 25 #[.pointer (some ⟨g, 0, none⟩), .string s] w fun e w' => e = .returned (.int .i64 8) ∧ w = w' := by
  go_enter Tryd.func25, Tryd.ntmps25
  go_wp2_with fail
  refine (noneZ_c _ _ h3).mono ?_
  rintro e w' ⟨rfl, rfl⟩
  go_wp2_with fail
  go_ret
  exact ⟨rfl, rfl⟩
set_option maxRecDepth 100000 in
set_option maxHeartbeats 2000000 in
theorem nextNil_c (w : World) : Calls Tryd.prog 31 #[.pointer none] w fun e w' => e = .returned (.tuple #[.agg #[.int .i64 0, .int .i64 0, .int .i64 0, .string ⟨#[]⟩], .bool false, .int .i64 8]) ∧ Below w.heap.size w w' := by
  go_enter Tryd.func31, Tryd.ntmps31
  go_wp2_with fail
  refine (noneN_c _).mono ?_
  rintro e w' ⟨rfl, rfl⟩
  go_wp2_with fail
  refine bodyPost_ret (nextRead (a := 0) (b := 0) (c := 0) (x := 8) (s := ⟨#[]⟩) (ok := false) rfl rfl rfl (by simp [go_sem]) (by simp [go_sem]) (by simp [go_sem]) (by simp [go_sem])) rfl ⟨rfl, by go_grown⟩
set_option maxRecDepth 100000 in
set_option maxHeartbeats 2000000 in
theorem nextZ_c (g : Nat) (w : World) (hg : g < w.heap.size) (h3 : w.cell? ⟨g, 3, none⟩ = some (.bool false)) : Calls Tryd.prog 31 #[.pointer (some ⟨g, 0, none⟩)] w fun e w' => e = .returned (.tuple #[.agg #[.int .i64 0, .int .i64 0, .int .i64 0, .string ⟨#[]⟩], .bool false, .int .i64 8]) ∧ Below w.heap.size w w' := by
  go_enter Tryd.func31, Tryd.ntmps31
  go_wp2_with fail
  refine (noneZ_c g _ (by simp [go_sem, h3, hg])).mono ?_
  rintro e w' ⟨rfl, rfl⟩
  go_wp2_with fail
  refine bodyPost_ret (nextRead (a := 0) (b := 0) (c := 0) (x := 8) (s := ⟨#[]⟩) (ok := false) rfl rfl rfl (by simp [go_sem]) (by simp [go_sem]) (by simp [go_sem]) (by simp [go_sem])) rfl ⟨rfl, by go_grown⟩
set_option maxRecDepth 100000 in
theorem waitsNil_c (w : World) : Calls Tryd.prog 28 #[.pointer none] w fun e w' => e = .returned (.int .i64 0) ∧ w = w' := by
  go_enter Tryd.func28, Tryd.ntmps28
  go_wp2_with fail
  refine (noneN_c _).mono ?_
  rintro e w' ⟨rfl, rfl⟩
  go_wp2_with fail
  go_ret
  exact ⟨rfl, rfl⟩
set_option maxRecDepth 100000 in
theorem takenZ_c (g : Nat) (w : World) (h3 : w.cell? ⟨g, 3, none⟩ = some (.bool false)) : Calls Tryd.prog 32 #[.pointer (some ⟨g, 0, none⟩)] w fun e w' => e = .returned (.int .i64 0) ∧ w = w' := by
  go_enter Tryd.func32, Tryd.ntmps32
  go_wp2_with fail
  refine (noneZ_c g _ h3).mono ?_
  rintro e w' ⟨rfl, rfl⟩
  go_wp2_with fail
  go_ret
  exact ⟨rfl, rfl⟩
set_option maxRecDepth 100000 in
theorem deadNil_c (w : World) : Calls Tryd.prog 29 #[.pointer none] w fun e w' => e = .returned (.bool false) ∧ w = w' := by
  go_enter Tryd.func29, Tryd.ntmps29
  go_wp2_with fail
  refine (noneN_c _).mono ?_
  rintro e w' ⟨rfl, rfl⟩
  go_wp2_with fail
  go_ret
  exact ⟨rfl, rfl⟩
set_option maxRecDepth 100000 in
theorem deadZ_c (g : Nat) (w : World) (h3 : w.cell? ⟨g, 3, none⟩ = some (.bool false)) : Calls Tryd.prog 29 #[.pointer (some ⟨g, 0, none⟩)] w fun e w' => e = .returned (.bool false) ∧ w = w' := by
  go_enter Tryd.func29, Tryd.ntmps29
  go_wp2_with fail
  refine (noneZ_c g _ h3).mono ?_
  rintro e w' ⟨rfl, rfl⟩
  go_wp2_with fail
  go_ret
  exact ⟨rfl, rfl⟩
end Go.Proofs.YtgafhnomkeiakaaDoor
