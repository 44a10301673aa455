/- A bundle of texts (merged for the limit on files): SpParts. -/
import Derived.Test.YtclicjokgfiegaaGreatDoorZa4
/- Spots and topics: the levels of a spot's topic: the walk. -/
namespace Go.Proofs.YtclicjokgfiegaaGreatDoor
open Go.RowKit
set_option linter.unusedVariables false
set_option linter.unusedSimpArgs false

/-- A spot in memory. -/
def SpAt (w : World) (b : Nat) (k : Int) (g n d : List UInt8) : Prop :=
  w.cell? ⟨b, 0, none⟩ = some (.int .i64 k) ∧ w.cell? ⟨b, 1, none⟩ = some (.string (sOf g)) ∧ w.cell? ⟨b, 2, none⟩ = some (.string (sOf n)) ∧ w.cell? ⟨b, 3, none⟩ = some (.string (sOf d)) ∧ b < w.heap.size
theorem SpAt.keep {B : Nat} {w w' : World} {b : Nat} {k : Int} {g n d : List UInt8} (h : SpAt w b k g n d) (hb : Below B w w') (hB : b < B) : SpAt w' b k g n d := by
  obtain ⟨h0, h1, h2, h3, h4⟩ := h
  exact ⟨(bcell hb _ _ hB).trans h0, (bcell hb _ _ hB).trans h1, (bcell hb _ _ hB).trans h2, (bcell hb _ _ hB).trans h3, Nat.lt_of_lt_of_le h4 hb.size⟩
theorem ls_new (w : World) (t : TypeId) (p : List (List UInt8)) (hp : p.length ≤ maxLen) : Ls (w.alloc (.cells (p.map txV).toArray t)) (.slice (some ⟨w.heap.size, 0, none⟩) p.length p.length) p := by
  refine ⟨_, _, rfl, Nat.le_refl _, hp, (fun e => by cases e), fun ad e j u hu => ?_⟩
  cases e
  have h := World.cell?_alloc_new w (p.map txV).toArray t j
  have hu' : (p.map txV).toArray[j]? = some u := by simpa using hu
  rw [hu'] at h
  have e : (⟨w.heap.size, 0, none⟩ : Addr).add j = ⟨w.heap.size, j, none⟩ := by
    unfold Addr.add
    split <;> simp_all
  rw [e]
  exact h

set_option maxRecDepth 100000 in
set_option maxHeartbeats 4000000 in
theorem parts9_c (k : Int) (g n d : List UInt8) (w : World) (hW : EnvW w) (h : k = 9) : Calls Tryz.prog 112 #[spV ⟨k, g, n, d⟩] w fun e w' => ∃ va vb, e = .returned (.tuple #[va, vb]) ∧ Ls w' va [rootT, [83, 84, 65, 84, 69], n] ∧ Ls w' vb [n] ∧ Below w.heap.size w w' := by
  have hwid : sWidth k = 3 := by unfold sWidth; rw [if_pos h]
  clear h
  have HW := hd hW
  clear hW
  obtain ⟨wd, hwd⟩ : ∃ wd, sWord k = wd := ⟨_, rfl⟩
  
  have HWD := hd hwd
  clear hwd
  unfold spV
  go_enter Tryz.func112, Tryz.ntmps112
  go_wp2_with fail
  refine (width_c k _).mono ?_
  rw [hwid]
  rintro e w0 ⟨rfl, rfl⟩
  go_wp2_with fail
  have hB : Below w.heap.size w (w.alloc (.cells #[.int .i64 k, .string (sOf g), .string (sOf n), .string (sOf d)] 93)).drew := by go_grown
  have hS : SpAt (w.alloc (.cells #[.int .i64 k, .string (sOf g), .string (sOf n), .string (sOf d)] 93)).drew w.heap.size k g n d := ⟨by simp [go_sem], by simp [go_sem], by simp [go_sem], by simp [go_sem], by simp [go_sem]⟩
  generalize hw1 : (w.alloc (.cells #[.int .i64 k, .string (sOf g), .string (sOf n), .string (sOf d)] 93)).drew = w1 at *
  refine wp_region_T (fun W => SpAt W w.heap.size k g n d) 7 (.still 0 (.still 1 (.still 3 (.still 4 (.fork 2 (.still 6 (.move 5 (.move 7 .done))) 5 (.move 2 (.still 6 (.move 7 .done)))))))) (by kernel_rfl) (by kernel_rfl) (fun _ _ _ _ h => h) (by rw [hw1]; exact hS) ?_
  apply wpT_still (by rfl) (by rfl)
  · intro W hC
    obtain ⟨d0, d1, d2, d3, d4⟩ := hC
    go_simp
    rfl
  go_simp
  apply wpT_still (by rfl) (by rfl)
  · intro W hC
    obtain ⟨d0, d1, d2, d3, d4⟩ := hC
    go_simp
    rfl
  go_simp
  apply wpT_still (by rfl) (by rfl)
  · intro W hC
    obtain ⟨d0, d1, d2, d3, d4⟩ := hC
    go_simp
    rfl
  go_simp
  apply wpT_still (by rfl) (by rfl)
  · intro W hC
    obtain ⟨d0, d1, d2, d3, d4⟩ := hC
    go_simp
    rfl
  go_simp
  refine wpT_fork (by rfl) (by rfl) (by rfl) (by rfl) ?_ ?_
  · intro K hK
    go_simp
    have hA := ls_new w1 9 [rootT, [83, 84, 65, 84, 69], n] (by unfold maxLen; simp)
    have hx := ((Below.refl w1.heap.size w1).alloc (Nat.le_refl _) (.cells ([rootT, [83, 84, 65, 84, 69], n].map txV).toArray 9))
    replace hS := hS.keep hx hS.2.2.2.2
    replace hB := Below.up hB hx
    clear hx
    simp only [List.map, txV, List.toArray] at hA hS hB 
    refine hK _ _ (fun _ => hS) ?_
    clear hK K
    apply wpT_still (by rfl) (by rfl)
    · intro W hC
      obtain ⟨d0, d1, d2, d3, d4⟩ := hC
      go_simp
      rfl
    go_simp
    apply wpT_move (by rfl) (by rfl)
    intro K hK
    go_simp
    have hBl := ls_new (w1.alloc (Obj.cells #[.string ⟨#[115, 112, 66, 118, 49, 46, 48]⟩, .string ⟨#[83, 84, 65, 84, 69]⟩, .string (sOf n)] 9)) 9 [n] (by unfold maxLen; simp)
    rw [World.size_alloc] at hBl
    have hx := ((Below.refl (w1.alloc (Obj.cells #[.string ⟨#[115, 112, 66, 118, 49, 46, 48]⟩, .string ⟨#[83, 84, 65, 84, 69]⟩, .string (sOf n)] 9)).heap.size (w1.alloc (Obj.cells #[.string ⟨#[115, 112, 66, 118, 49, 46, 48]⟩, .string ⟨#[83, 84, 65, 84, 69]⟩, .string (sOf n)] 9))).alloc (Nat.le_refl _) (.cells ([n].map txV).toArray 9))
    replace hA := hA.below' hx (Nat.le_refl _)
    replace hS := hS.keep hx hS.2.2.2.2
    replace hB := Below.up hB hx
    clear hx
    simp only [List.map, txV, List.toArray] at hBl hS hB hA
    refine hK _ _ (fun _ => hS) ?_
    clear hK K
    apply wpT_move (by rfl) (by rfl)
    intro K hK
    go_simp
    refine hK _ _ (fun h => absurd h (by decide)) ?_
    clear hK K
    refine wpT_done ?_
    go_wp2_with fail
    exact bodyPost_ret (v := .tuple #[Value.slice (some ⟨w1.heap.size, 0, none⟩) 3 3, Value.slice (some ⟨w1.heap.size + 1, 0, none⟩) 1 1]) (by simp [results, Tryz.results112, go_sem]) rfl ⟨_, _, rfl, hA, hBl, hB⟩
  · intro K hK
    go_simp
    have hBl := ls_new w1 9 [n] (by unfold maxLen; simp)
    have hx := ((Below.refl w1.heap.size w1).alloc (Nat.le_refl _) (.cells ([n].map txV).toArray 9))
    replace hS := hS.keep hx hS.2.2.2.2
    replace hB := Below.up hB hx
    clear hx
    simp only [List.map, txV, List.toArray] at hBl hS hB 
    refine hK _ _ (fun _ => hS) ?_
    clear hK K
    apply wpT_move (by rfl) (by rfl)
    intro K hK
    go_simp
    have hA := ls_new (w1.alloc (Obj.cells #[.string (sOf n)] 9)) 9 [rootT, [83, 84, 65, 84, 69], n] (by unfold maxLen; simp)
    rw [World.size_alloc] at hA
    have hx := ((Below.refl (w1.alloc (Obj.cells #[.string (sOf n)] 9)).heap.size (w1.alloc (Obj.cells #[.string (sOf n)] 9))).alloc (Nat.le_refl _) (.cells ([rootT, [83, 84, 65, 84, 69], n].map txV).toArray 9))
    replace hBl := hBl.below' hx (Nat.le_refl _)
    replace hS := hS.keep hx hS.2.2.2.2
    replace hB := Below.up hB hx
    clear hx
    simp only [List.map, txV, List.toArray] at hA hS hB hBl
    refine hK _ _ (fun _ => hS) ?_
    clear hK K
    apply wpT_still (by rfl) (by rfl)
    · intro W hC
      obtain ⟨d0, d1, d2, d3, d4⟩ := hC
      go_simp
      rfl
    go_simp
    apply wpT_move (by rfl) (by rfl)
    intro K hK
    go_simp
    refine hK _ _ (fun h => absurd h (by decide)) ?_
    clear hK K
    refine wpT_done ?_
    go_wp2_with fail
    exact bodyPost_ret (v := .tuple #[Value.slice (some ⟨w1.heap.size + 1, 0, none⟩) 3 3, Value.slice (some ⟨w1.heap.size, 0, none⟩) 1 1]) (by simp [results, Tryz.results112, go_sem]) rfl ⟨_, _, rfl, hA, hBl, hB⟩

set_option maxRecDepth 100000 in
set_option maxHeartbeats 4000000 in
theorem parts5_c (k : Int) (g n d : List UInt8) (w : World) (hW : EnvW w) (h : 5 ≤ k ∧ k ≤ 8) : Calls Tryz.prog 112 #[spV ⟨k, g, n, d⟩] w fun e w' => ∃ va vb, e = .returned (.tuple #[va, vb]) ∧ Ls w' va [rootT, g, sWord k, n, d] ∧ Ls w' vb [g, n, d] ∧ Below w.heap.size w w' := by
  have hwid : sWidth k = 5 := by unfold sWidth; rw [if_neg (by omega), if_pos (by omega)]
  clear h
  have HW := hd hW
  clear hW
  obtain ⟨wd, hwd⟩ : ∃ wd, sWord k = wd := ⟨_, rfl⟩
  rw [hwd]
  have HWD := hd hwd
  clear hwd
  unfold spV
  go_enter Tryz.func112, Tryz.ntmps112
  go_wp2_with fail
  refine (width_c k _).mono ?_
  rw [hwid]
  rintro e w0 ⟨rfl, rfl⟩
  go_wp2_with fail
  have hB : Below w.heap.size w (w.alloc (.cells #[.int .i64 k, .string (sOf g), .string (sOf n), .string (sOf d)] 93)).drew := by go_grown
  have hS : SpAt (w.alloc (.cells #[.int .i64 k, .string (sOf g), .string (sOf n), .string (sOf d)] 93)).drew w.heap.size k g n d := ⟨by simp [go_sem], by simp [go_sem], by simp [go_sem], by simp [go_sem], by simp [go_sem]⟩
  generalize hw1 : (w.alloc (.cells #[.int .i64 k, .string (sOf g), .string (sOf n), .string (sOf d)] 93)).drew = w1 at *
  refine wp_region_T (fun W => SpAt W w.heap.size k g n d) 18 (.still 0 (.still 1 (.still 2 (.still 3 (.still 5 (.still 6 (.still 7 (.still 8 (.still 10 (.still 11 (.still 12 (.still 13 (.still 14 (.still 15 (.fork 4 (.fork 9 (.still 17 (.move 16 (.move 18 .done))) 16 (.move 9 (.still 17 (.move 18 .done)))) 16 (.move 4 (.move 9 (.still 17 (.move 18 .done))))))))))))))))))) (by kernel_rfl) (by kernel_rfl) (fun _ _ _ _ h => h) (by rw [hw1]; exact hS) ?_
  apply wpT_still (by rfl) (by rfl)
  · intro W hC
    obtain ⟨d0, d1, d2, d3, d4⟩ := hC
    go_simp
    rfl
  go_simp
  apply wpT_still (by rfl) (by rfl)
  · intro W hC
    obtain ⟨d0, d1, d2, d3, d4⟩ := hC
    go_simp
    rfl
  go_simp
  apply wpT_still (by rfl) (by rfl)
  · intro W hC
    obtain ⟨d0, d1, d2, d3, d4⟩ := hC
    go_simp
    rfl
  go_simp
  apply wpT_still (by rfl) (by rfl)
  · intro W hC
    obtain ⟨d0, d1, d2, d3, d4⟩ := hC
    go_simp
    rfl
  go_simp
  apply wpT_still (by rfl) (by rfl)
  · intro W hC
    obtain ⟨d0, d1, d2, d3, d4⟩ := hC
    go_simp
    rfl
  go_simp
  apply wpT_still (by rfl) (by rfl)
  · intro W hC
    obtain ⟨d0, d1, d2, d3, d4⟩ := hC
    go_simp
    rfl
  go_simp
  apply wpT_still (by rfl) (by rfl)
  · intro W hC
    obtain ⟨d0, d1, d2, d3, d4⟩ := hC
    go_simp
    rfl
  go_simp
  apply wpT_still (by rfl) (by rfl)
  · intro W hC
    obtain ⟨d0, d1, d2, d3, d4⟩ := hC
    go_simp
    rfl
  go_simp
  apply wpT_still (by rfl) (by rfl)
  · intro W hC
    obtain ⟨d0, d1, d2, d3, d4⟩ := hC
    go_simp
    rfl
  go_simp
  apply wpT_still (by rfl) (by rfl)
  · intro W hC
    obtain ⟨d0, d1, d2, d3, d4⟩ := hC
    go_simp
    rfl
  go_simp
  apply wpT_still (by rfl) (by rfl)
  · intro W hC
    obtain ⟨d0, d1, d2, d3, d4⟩ := hC
    go_simp
    rfl
  go_simp
  apply wpT_still (by rfl) (by rfl)
  · intro W hC
    obtain ⟨d0, d1, d2, d3, d4⟩ := hC
    go_simp
    rfl
  go_simp
  apply wpT_still (by rfl) (by rfl)
  · intro W hC
    obtain ⟨d0, d1, d2, d3, d4⟩ := hC
    go_simp
    rfl
  go_simp
  apply wpT_still (by rfl) (by rfl)
  · intro W hC
    obtain ⟨d0, d1, d2, d3, d4⟩ := hC
    go_simp
    rfl
  go_simp
  refine wpT_fork (by rfl) (by rfl) (by rfl) (by rfl) ?_ ?_
  · intro K hK
    go_simp
    refine (Word_c k _ (HW.out.below hB (Nat.le_refl _))).mono ?_
    rw [HWD.out]
    rintro e w9 ⟨rfl, rfl⟩
    go_simp
    refine hK _ _ (fun _ => hS) ?_
    clear hK K
    refine wpT_fork (by rfl) (by rfl) (by rfl) (by rfl) ?_ ?_
    · intro K hK
      go_simp
      have hA := ls_new w1 9 [rootT, g, wd, n, d] (by unfold maxLen; simp)
      have hx := ((Below.refl w1.heap.size w1).alloc (Nat.le_refl _) (.cells ([rootT, g, wd, n, d].map txV).toArray 9))
      replace hS := hS.keep hx hS.2.2.2.2
      replace hB := Below.up hB hx
      clear hx
      simp only [List.map, txV, List.toArray] at hA hS hB 
      refine hK _ _ (fun _ => hS) ?_
      clear hK K
      apply wpT_still (by rfl) (by rfl)
      · intro W hC
        obtain ⟨d0, d1, d2, d3, d4⟩ := hC
        go_simp
        rfl
      go_simp
      apply wpT_move (by rfl) (by rfl)
      intro K hK
      go_simp
      have hBl := ls_new (w1.alloc (Obj.cells #[.string ⟨#[115, 112, 66, 118, 49, 46, 48]⟩, .string (sOf g), .string (sOf wd), .string (sOf n), .string (sOf d)] 9)) 9 [g, n, d] (by unfold maxLen; simp)
      rw [World.size_alloc] at hBl
      have hx := ((Below.refl (w1.alloc (Obj.cells #[.string ⟨#[115, 112, 66, 118, 49, 46, 48]⟩, .string (sOf g), .string (sOf wd), .string (sOf n), .string (sOf d)] 9)).heap.size (w1.alloc (Obj.cells #[.string ⟨#[115, 112, 66, 118, 49, 46, 48]⟩, .string (sOf g), .string (sOf wd), .string (sOf n), .string (sOf d)] 9))).alloc (Nat.le_refl _) (.cells ([g, n, d].map txV).toArray 9))
      replace hA := hA.below' hx (Nat.le_refl _)
      replace hS := hS.keep hx hS.2.2.2.2
      replace hB := Below.up hB hx
      clear hx
      simp only [List.map, txV, List.toArray] at hBl hS hB hA
      refine hK _ _ (fun _ => hS) ?_
      clear hK K
      apply wpT_move (by rfl) (by rfl)
      intro K hK
      go_simp
      refine hK _ _ (fun h => absurd h (by decide)) ?_
      clear hK K
      refine wpT_done ?_
      go_wp2_with fail
      exact bodyPost_ret (v := .tuple #[Value.slice (some ⟨w1.heap.size, 0, none⟩) 5 5, Value.slice (some ⟨w1.heap.size + 1, 0, none⟩) 3 3]) (by simp [results, Tryz.results112, go_sem]) rfl ⟨_, _, rfl, hA, hBl, hB⟩
    · intro K hK
      go_simp
      have hBl := ls_new w1 9 [g, n, d] (by unfold maxLen; simp)
      have hx := ((Below.refl w1.heap.size w1).alloc (Nat.le_refl _) (.cells ([g, n, d].map txV).toArray 9))
      replace hS := hS.keep hx hS.2.2.2.2
      replace hB := Below.up hB hx
      clear hx
      simp only [List.map, txV, List.toArray] at hBl hS hB 
      refine hK _ _ (fun _ => hS) ?_
      clear hK K
      apply wpT_move (by rfl) (by rfl)
      intro K hK
      go_simp
      have hA := ls_new (w1.alloc (Obj.cells #[.string (sOf g), .string (sOf n), .string (sOf d)] 9)) 9 [rootT, g, wd, n, d] (by unfold maxLen; simp)
      rw [World.size_alloc] at hA
      have hx := ((Below.refl (w1.alloc (Obj.cells #[.string (sOf g), .string (sOf n), .string (sOf d)] 9)).heap.size (w1.alloc (Obj.cells #[.string (sOf g), .string (sOf n), .string (sOf d)] 9))).alloc (Nat.le_refl _) (.cells ([rootT, g, wd, n, d].map txV).toArray 9))
      replace hBl := hBl.below' hx (Nat.le_refl _)
      replace hS := hS.keep hx hS.2.2.2.2
      replace hB := Below.up hB hx
      clear hx
      simp only [List.map, txV, List.toArray] at hA hS hB hBl
      refine hK _ _ (fun _ => hS) ?_
      clear hK K
      apply wpT_still (by rfl) (by rfl)
      · intro W hC
        obtain ⟨d0, d1, d2, d3, d4⟩ := hC
        go_simp
        rfl
      go_simp
      apply wpT_move (by rfl) (by rfl)
      intro K hK
      go_simp
      refine hK _ _ (fun h => absurd h (by decide)) ?_
      clear hK K
      refine wpT_done ?_
      go_wp2_with fail
      exact bodyPost_ret (v := .tuple #[Value.slice (some ⟨w1.heap.size + 1, 0, none⟩) 5 5, Value.slice (some ⟨w1.heap.size, 0, none⟩) 3 3]) (by simp [results, Tryz.results112, go_sem]) rfl ⟨_, _, rfl, hA, hBl, hB⟩
  · intro K hK
    go_simp
    have hBl := ls_new w1 9 [g, n, d] (by unfold maxLen; simp)
    have hx := ((Below.refl w1.heap.size w1).alloc (Nat.le_refl _) (.cells ([g, n, d].map txV).toArray 9))
    replace hS := hS.keep hx hS.2.2.2.2
    replace hB := Below.up hB hx
    clear hx
    simp only [List.map, txV, List.toArray] at hBl hS hB 
    refine hK _ _ (fun _ => hS) ?_
    clear hK K
    apply wpT_move (by rfl) (by rfl)
    intro K hK
    go_simp
    refine (Word_c k _ (HW.out.below hB (Nat.le_refl _))).mono ?_
    rw [HWD.out]
    rintro e w9 ⟨rfl, rfl⟩
    go_simp
    refine hK _ _ (fun _ => hS) ?_
    clear hK K
    apply wpT_move (by rfl) (by rfl)
    intro K hK
    go_simp
    have hA := ls_new (w1.alloc (Obj.cells #[.string (sOf g), .string (sOf n), .string (sOf d)] 9)) 9 [rootT, g, wd, n, d] (by unfold maxLen; simp)
    rw [World.size_alloc] at hA
    have hx := ((Below.refl (w1.alloc (Obj.cells #[.string (sOf g), .string (sOf n), .string (sOf d)] 9)).heap.size (w1.alloc (Obj.cells #[.string (sOf g), .string (sOf n), .string (sOf d)] 9))).alloc (Nat.le_refl _) (.cells ([rootT, g, wd, n, d].map txV).toArray 9))
    replace hBl := hBl.below' hx (Nat.le_refl _)
    replace hS := hS.keep hx hS.2.2.2.2
    replace hB := Below.up hB hx
    clear hx
    simp only [List.map, txV, List.toArray] at hA hS hB hBl
    refine hK _ _ (fun _ => hS) ?_
    clear hK K
    apply wpT_still (by rfl) (by rfl)
    · intro W hC
      obtain ⟨d0, d1, d2, d3, d4⟩ := hC
      go_simp
      rfl
    go_simp
    apply wpT_move (by rfl) (by rfl)
    intro K hK
    go_simp
    refine hK _ _ (fun h => absurd h (by decide)) ?_
    clear hK K
    refine wpT_done ?_
    go_wp2_with fail
    exact bodyPost_ret (v := .tuple #[Value.slice (some ⟨w1.heap.size + 1, 0, none⟩) 5 5, Value.slice (some ⟨w1.heap.size, 0, none⟩) 3 3]) (by simp [results, Tryz.results112, go_sem]) rfl ⟨_, _, rfl, hA, hBl, hB⟩

set_option maxRecDepth 100000 in
set_option maxHeartbeats 4000000 in
theorem parts4_c (k : Int) (g n d : List UInt8) (w : World) (hW : EnvW w) (h : 1 ≤ k ∧ k ≤ 4) : Calls Tryz.prog 112 #[spV ⟨k, g, n, d⟩] w fun e w' => ∃ va vb, e = .returned (.tuple #[va, vb]) ∧ Ls w' va [rootT, g, sWord k, n] ∧ Ls w' vb [g, n] ∧ Below w.heap.size w w' := by
  have hwid : sWidth k = 4 := by unfold sWidth; rw [if_neg (by omega), if_neg (by omega)]
  clear h
  have HW := hd hW
  clear hW
  obtain ⟨wd, hwd⟩ : ∃ wd, sWord k = wd := ⟨_, rfl⟩
  rw [hwd]
  have HWD := hd hwd
  clear hwd
  unfold spV
  go_enter Tryz.func112, Tryz.ntmps112
  go_wp2_with fail
  refine (width_c k _).mono ?_
  rw [hwid]
  rintro e w0 ⟨rfl, rfl⟩
  go_wp2_with fail
  have hB : Below w.heap.size w (w.alloc (.cells #[.int .i64 k, .string (sOf g), .string (sOf n), .string (sOf d)] 93)).drew := by go_grown
  have hS : SpAt (w.alloc (.cells #[.int .i64 k, .string (sOf g), .string (sOf n), .string (sOf d)] 93)).drew w.heap.size k g n d := ⟨by simp [go_sem], by simp [go_sem], by simp [go_sem], by simp [go_sem], by simp [go_sem]⟩
  generalize hw1 : (w.alloc (.cells #[.int .i64 k, .string (sOf g), .string (sOf n), .string (sOf d)] 93)).drew = w1 at *
  refine wp_region_T (fun W => SpAt W w.heap.size k g n d) 14 (.still 0 (.still 1 (.still 2 (.still 3 (.still 5 (.still 6 (.still 8 (.still 9 (.still 10 (.still 11 (.fork 4 (.fork 7 (.still 13 (.move 12 (.move 14 .done))) 12 (.move 7 (.still 13 (.move 14 .done)))) 12 (.move 4 (.move 7 (.still 13 (.move 14 .done))))))))))))))) (by kernel_rfl) (by kernel_rfl) (fun _ _ _ _ h => h) (by rw [hw1]; exact hS) ?_
  apply wpT_still (by rfl) (by rfl)
  · intro W hC
    obtain ⟨d0, d1, d2, d3, d4⟩ := hC
    go_simp
    rfl
  go_simp
  apply wpT_still (by rfl) (by rfl)
  · intro W hC
    obtain ⟨d0, d1, d2, d3, d4⟩ := hC
    go_simp
    rfl
  go_simp
  apply wpT_still (by rfl) (by rfl)
  · intro W hC
    obtain ⟨d0, d1, d2, d3, d4⟩ := hC
    go_simp
    rfl
  go_simp
  apply wpT_still (by rfl) (by rfl)
  · intro W hC
    obtain ⟨d0, d1, d2, d3, d4⟩ := hC
    go_simp
    rfl
  go_simp
  apply wpT_still (by rfl) (by rfl)
  · intro W hC
    obtain ⟨d0, d1, d2, d3, d4⟩ := hC
    go_simp
    rfl
  go_simp
  apply wpT_still (by rfl) (by rfl)
  · intro W hC
    obtain ⟨d0, d1, d2, d3, d4⟩ := hC
    go_simp
    rfl
  go_simp
  apply wpT_still (by rfl) (by rfl)
  · intro W hC
    obtain ⟨d0, d1, d2, d3, d4⟩ := hC
    go_simp
    rfl
  go_simp
  apply wpT_still (by rfl) (by rfl)
  · intro W hC
    obtain ⟨d0, d1, d2, d3, d4⟩ := hC
    go_simp
    rfl
  go_simp
  apply wpT_still (by rfl) (by rfl)
  · intro W hC
    obtain ⟨d0, d1, d2, d3, d4⟩ := hC
    go_simp
    rfl
  go_simp
  apply wpT_still (by rfl) (by rfl)
  · intro W hC
    obtain ⟨d0, d1, d2, d3, d4⟩ := hC
    go_simp
    rfl
  go_simp
  refine wpT_fork (by rfl) (by rfl) (by rfl) (by rfl) ?_ ?_
  · intro K hK
    go_simp
    refine (Word_c k _ (HW.out.below hB (Nat.le_refl _))).mono ?_
    rw [HWD.out]
    rintro e w9 ⟨rfl, rfl⟩
    go_simp
    refine hK _ _ (fun _ => hS) ?_
    clear hK K
    refine wpT_fork (by rfl) (by rfl) (by rfl) (by rfl) ?_ ?_
    · intro K hK
      go_simp
      have hA := ls_new w1 9 [rootT, g, wd, n] (by unfold maxLen; simp)
      have hx := ((Below.refl w1.heap.size w1).alloc (Nat.le_refl _) (.cells ([rootT, g, wd, n].map txV).toArray 9))
      replace hS := hS.keep hx hS.2.2.2.2
      replace hB := Below.up hB hx
      clear hx
      simp only [List.map, txV, List.toArray] at hA hS hB 
      refine hK _ _ (fun _ => hS) ?_
      clear hK K
      apply wpT_still (by rfl) (by rfl)
      · intro W hC
        obtain ⟨d0, d1, d2, d3, d4⟩ := hC
        go_simp
        rfl
      go_simp
      apply wpT_move (by rfl) (by rfl)
      intro K hK
      go_simp
      have hBl := ls_new (w1.alloc (Obj.cells #[.string ⟨#[115, 112, 66, 118, 49, 46, 48]⟩, .string (sOf g), .string (sOf wd), .string (sOf n)] 9)) 9 [g, n] (by unfold maxLen; simp)
      rw [World.size_alloc] at hBl
      have hx := ((Below.refl (w1.alloc (Obj.cells #[.string ⟨#[115, 112, 66, 118, 49, 46, 48]⟩, .string (sOf g), .string (sOf wd), .string (sOf n)] 9)).heap.size (w1.alloc (Obj.cells #[.string ⟨#[115, 112, 66, 118, 49, 46, 48]⟩, .string (sOf g), .string (sOf wd), .string (sOf n)] 9))).alloc (Nat.le_refl _) (.cells ([g, n].map txV).toArray 9))
      replace hA := hA.below' hx (Nat.le_refl _)
      replace hS := hS.keep hx hS.2.2.2.2
      replace hB := Below.up hB hx
      clear hx
      simp only [List.map, txV, List.toArray] at hBl hS hB hA
      refine hK _ _ (fun _ => hS) ?_
      clear hK K
      apply wpT_move (by rfl) (by rfl)
      intro K hK
      go_simp
      refine hK _ _ (fun h => absurd h (by decide)) ?_
      clear hK K
      refine wpT_done ?_
      go_wp2_with fail
      exact bodyPost_ret (v := .tuple #[Value.slice (some ⟨w1.heap.size, 0, none⟩) 4 4, Value.slice (some ⟨w1.heap.size + 1, 0, none⟩) 2 2]) (by simp [results, Tryz.results112, go_sem]) rfl ⟨_, _, rfl, hA, hBl, hB⟩
    · intro K hK
      go_simp
      have hBl := ls_new w1 9 [g, n] (by unfold maxLen; simp)
      have hx := ((Below.refl w1.heap.size w1).alloc (Nat.le_refl _) (.cells ([g, n].map txV).toArray 9))
      replace hS := hS.keep hx hS.2.2.2.2
      replace hB := Below.up hB hx
      clear hx
      simp only [List.map, txV, List.toArray] at hBl hS hB 
      refine hK _ _ (fun _ => hS) ?_
      clear hK K
      apply wpT_move (by rfl) (by rfl)
      intro K hK
      go_simp
      have hA := ls_new (w1.alloc (Obj.cells #[.string (sOf g), .string (sOf n)] 9)) 9 [rootT, g, wd, n] (by unfold maxLen; simp)
      rw [World.size_alloc] at hA
      have hx := ((Below.refl (w1.alloc (Obj.cells #[.string (sOf g), .string (sOf n)] 9)).heap.size (w1.alloc (Obj.cells #[.string (sOf g), .string (sOf n)] 9))).alloc (Nat.le_refl _) (.cells ([rootT, g, wd, n].map txV).toArray 9))
      replace hBl := hBl.below' hx (Nat.le_refl _)
      replace hS := hS.keep hx hS.2.2.2.2
      replace hB := Below.up hB hx
      clear hx
      simp only [List.map, txV, List.toArray] at hA hS hB hBl
      refine hK _ _ (fun _ => hS) ?_
      clear hK K
      apply wpT_still (by rfl) (by rfl)
      · intro W hC
        obtain ⟨d0, d1, d2, d3, d4⟩ := hC
        go_simp
        rfl
      go_simp
      apply wpT_move (by rfl) (by rfl)
      intro K hK
      go_simp
      refine hK _ _ (fun h => absurd h (by decide)) ?_
      clear hK K
      refine wpT_done ?_
      go_wp2_with fail
      exact bodyPost_ret (v := .tuple #[Value.slice (some ⟨w1.heap.size + 1, 0, none⟩) 4 4, Value.slice (some ⟨w1.heap.size, 0, none⟩) 2 2]) (by simp [results, Tryz.results112, go_sem]) rfl ⟨_, _, rfl, hA, hBl, hB⟩
  · intro K hK
    go_simp
    have hBl := ls_new w1 9 [g, n] (by unfold maxLen; simp)
    have hx := ((Below.refl w1.heap.size w1).alloc (Nat.le_refl _) (.cells ([g, n].map txV).toArray 9))
    replace hS := hS.keep hx hS.2.2.2.2
    replace hB := Below.up hB hx
    clear hx
    simp only [List.map, txV, List.toArray] at hBl hS hB 
    refine hK _ _ (fun _ => hS) ?_
    clear hK K
    apply wpT_move (by rfl) (by rfl)
    intro K hK
    go_simp
    refine (Word_c k _ (HW.out.below hB (Nat.le_refl _))).mono ?_
    rw [HWD.out]
    rintro e w9 ⟨rfl, rfl⟩
    go_simp
    refine hK _ _ (fun _ => hS) ?_
    clear hK K
    apply wpT_move (by rfl) (by rfl)
    intro K hK
    go_simp
    have hA := ls_new (w1.alloc (Obj.cells #[.string (sOf g), .string (sOf n)] 9)) 9 [rootT, g, wd, n] (by unfold maxLen; simp)
    rw [World.size_alloc] at hA
    have hx := ((Below.refl (w1.alloc (Obj.cells #[.string (sOf g), .string (sOf n)] 9)).heap.size (w1.alloc (Obj.cells #[.string (sOf g), .string (sOf n)] 9))).alloc (Nat.le_refl _) (.cells ([rootT, g, wd, n].map txV).toArray 9))
    replace hBl := hBl.below' hx (Nat.le_refl _)
    replace hS := hS.keep hx hS.2.2.2.2
    replace hB := Below.up hB hx
    clear hx
    simp only [List.map, txV, List.toArray] at hA hS hB hBl
    refine hK _ _ (fun _ => hS) ?_
    clear hK K
    apply wpT_still (by rfl) (by rfl)
    · intro W hC
      obtain ⟨d0, d1, d2, d3, d4⟩ := hC
      go_simp
      rfl
    go_simp
    apply wpT_move (by rfl) (by rfl)
    intro K hK
    go_simp
    refine hK _ _ (fun h => absurd h (by decide)) ?_
    clear hK K
    refine wpT_done ?_
    go_wp2_with fail
    exact bodyPost_ret (v := .tuple #[Value.slice (some ⟨w1.heap.size + 1, 0, none⟩) 4 4, Value.slice (some ⟨w1.heap.size, 0, none⟩) 2 2]) (by simp [results, Tryz.results112, go_sem]) rfl ⟨_, _, rfl, hA, hBl, hB⟩
end Go.Proofs.YtclicjokgfiegaaGreatDoor
