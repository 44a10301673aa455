/- The laws of heads. -/
import Derived.Test.YtkjkimebjhlhmaaDoorHeadGet
namespace Go.Proofs.YtkjkimebjhlhmaaDoor
open Go.RowKit
set_option linter.unusedVariables false

set_option maxRecDepth 100000 in
set_option maxHeartbeats 1000000 in
theorem HeadPuts_w (k f n : Int) (w : World) (hE : EnvH w) :
    Calls Tryd.prog 3 #[.agg #[.int .i64 k, .int .i64 f, .int .i64 n]] w fun e w' => e = .returned (.bool true) ∧ Below w.heap.size w w' := by
  have HE := hd hE; clear hE
  go_enter Tryd.func3, Tryd.ntmps3
  go_wp2_with fail
  have hb0 : Below w.heap.size w (w.alloc (Obj.cells #[Value.int IntKind.i64 k, Value.int IntKind.i64 f, Value.int IntKind.i64 n] 23)) := (Below.refl _ _).alloc (Nat.le_refl _) _
  have c0 : (w.alloc (Obj.cells #[Value.int IntKind.i64 k, Value.int IntKind.i64 f, Value.int IntKind.i64 n] 23)).cell? ⟨w.heap.size, 0, none⟩ = some (.int .i64 k) := World.cell?_alloc_new w _ _ 0
  have c1 : (w.alloc (Obj.cells #[Value.int IntKind.i64 k, Value.int IntKind.i64 f, Value.int IntKind.i64 n] 23)).cell? ⟨w.heap.size, 1, none⟩ = some (.int .i64 f) := World.cell?_alloc_new w _ _ 1
  have c2 : (w.alloc (Obj.cells #[Value.int IntKind.i64 k, Value.int IntKind.i64 f, Value.int IntKind.i64 n] 23)).cell? ⟨w.heap.size, 2, none⟩ = some (.int .i64 n) := World.cell?_alloc_new w _ _ 2
  have hlt : w.heap.size < (w.alloc (Obj.cells #[Value.int IntKind.i64 k, Value.int IntKind.i64 f, Value.int IntKind.i64 n] 23)).heap.size := by simp
  generalize hw0 : (w.alloc (Obj.cells #[Value.int IntKind.i64 k, Value.int IntKind.i64 f, Value.int IntKind.i64 n] 23)) = w0 at hb0 c0 c1 c2 hlt ⊢
  clear hw0
  refine (Put_c _ _ _ _ (HE.out.below hb0 (Nat.le_refl _))).mono ?_
  rintro e w1 ⟨v, rfl, hown, hb1⟩
  have d0 := (hb1.cell (p := ⟨w.heap.size, 0, none⟩) hlt).trans c0
  have d1 := (hb1.cell (p := ⟨w.heap.size, 1, none⟩) hlt).trans c1
  have d2 := (hb1.cell (p := ⟨w.heap.size, 2, none⟩) hlt).trans c2
  go_wp2_with fail
  refine (refPut_c _ _ _ _).mono ?_
  rintro e w2 ⟨v2, rfl, hown2, hb2⟩
  go_wp2_with fail
  have hlt1 := Nat.lt_of_lt_of_le hlt hb1.size
  have hb02 : Below w0.heap.size w0 w2 := hb1.trans (hb2.mono hb1.size)
  refine wp_region_in (fun W => Below w0.heap.size w0 W ∧ Below w2.heap.size w2 W) (by kernel_rfl) (by kernel_rfl) ⟨hb02.drew, (Below.refl _ _).drew⟩ ?_
  have g0 : ∀ x : In (fun W => Below w0.heap.size w0 W ∧ Below w2.heap.size w2 W), x.w.cell? ⟨w.heap.size, 0, none⟩ = some (.int .i64 k) := fun x => (x.h.1.cell (p := ⟨w.heap.size, 0, none⟩) hlt).trans c0
  have g1 : ∀ x : In (fun W => Below w0.heap.size w0 W ∧ Below w2.heap.size w2 W), x.w.cell? ⟨w.heap.size, 1, none⟩ = some (.int .i64 f) := fun x => (x.h.1.cell (p := ⟨w.heap.size, 1, none⟩) hlt).trans c1
  have s1 : ∀ x : In (fun W => Below w0.heap.size w0 W ∧ Below w2.heap.size w2 W), (convert 24 9 v).run Tryd.prog x.w = .ok (.string ⟨(hPutB k f n).toArray⟩) x.w := fun x => run_str ((hown.bs.below' hb2 (Nat.le_refl _)).below' x.h.2 (Nat.le_refl _))
  have s2 : ∀ x : In (fun W => Below w0.heap.size w0 W ∧ Below w2.heap.size w2 W), (convert 24 9 v2).run Tryd.prog x.w = .ok (.string ⟨(hPutB k f n).toArray⟩) x.w := fun x => run_str (hown2.bs.below' x.h.2 (Nat.le_refl _))
  haveI : Nonempty (In (fun W => Below w0.heap.size w0 W ∧ Below w2.heap.size w2 W)) := ⟨⟨w2, hb02, Below.refl _ _⟩⟩
  have G := hd (And.intro hown (And.intro hb02 (And.intro d0 (And.intro d1 (And.intro d2 (And.intro c0 (And.intro c1 c2)))))))
  clear hown hown2 d0 d1 d2 c0 c1 c2 
  have HEx : Hd (∀ x : In (fun W => Below w0.heap.size w0 W ∧ Below w2.heap.size w2 W), EnvH x.w) := hd (fun x => (HE.out.below hb0 (Nat.le_refl _)).below x.h.1 (Nat.le_refl _))
  have Hcl : Hd (∀ x : In (fun W => Below w0.heap.size w0 W ∧ Below w2.heap.size w2 W), ∀ w', Below x.w.heap.size x.w w' → Below w0.heap.size w0 w' ∧ Below w2.heap.size w2 w') := hd (fun x w' h => ⟨x.h.1.trans (h.mono x.h.1.size), x.h.2.trans (h.mono x.h.2.size)⟩)
  repeat (quiet_step (first
    | (go_at_call 9; rename_i x; exact In.call (Right_c _ _ _ (HEx.out x)) (fun e w' h => ⟨h.1, h.2 ▸ x.h⟩))
    | (go_at_call 10; rename_i x; exact In.call (refRight_c _ _ _) (fun e w' h => ⟨h.1, h.2 ▸ x.h⟩))
    | (go_at_call 11; rename_i x; exact In.call (awakeHead_c _ (HEx.out x)) (fun e w' h => ⟨h.1, Hcl.out x w' h.2⟩))))
  refine wpQuiet_nil ?_
  rintro _ ⟨x, rfl⟩
  go_wp2
  go_ret
  exact ⟨rfl, hb0.trans (x.h.1.mono hb0.size)⟩

set_option maxRecDepth 100000 in
set_option maxHeartbeats 1000000 in
theorem HeadReads_w (v : Value) (l : List UInt8) (at' : Int) (w : World) (hE : EnvH w) (hv : Bs w v l) :
    Calls Tryd.prog 5 #[v, .int .i64 at'] w fun e w' => e = .returned (.bool true) ∧ Below w.heap.size w w' := by
  have HE := hd hE; clear hE
  go_enter Tryd.func5, Tryd.ntmps5
  go_wp2_with fail
  refine (Get_c _ _ _ _ HE.out hv).mono ?_
  rintro e w1 ⟨rfl, hb1⟩
  obtain ⟨r1, r2, r3, r4, r5, hR⟩ : ∃ r1 r2 r3 r4 r5, hGet l at' = ((r1, r2, r3), r4, r5) := ⟨_, _, _, _, _, rfl⟩
  rw [hR]
  have HR := hd hR; clear hR
  simp only
  go_wp2_with fail
  have hb1' : Below w.heap.size w (w1.alloc (Obj.cells #[Value.int IntKind.i64 r1, Value.int IntKind.i64 r2, Value.int IntKind.i64 r3] 23)) := hb1.alloc hb1.size _
  refine (refGet_c _ _ _ _ (hv.below' hb1' (Nat.le_refl _))).mono ?_
  rintro e w2 ⟨rfl, hb2⟩
  rw [HR.out]
  simp only
  have c0 := (hb2.cell (p := ⟨w1.heap.size, 0, none⟩) (by simp)).trans (World.cell?_alloc_new w1 _ _ 0)
  have c1 := (hb2.cell (p := ⟨w1.heap.size, 1, none⟩) (by simp)).trans (World.cell?_alloc_new w1 _ _ 1)
  have c2 := (hb2.cell (p := ⟨w1.heap.size, 2, none⟩) (by simp)).trans (World.cell?_alloc_new w1 _ _ 2)
  have hlt : w1.heap.size < w2.heap.size := by have := hb2.size; simp at this; omega
  have hb12 : Below w.heap.size w w2 := hb1'.trans (hb2.mono hb1'.size)
  clear hb1 hb1' hb2
  go_wp2_with fail
  have hb3 : Below w.heap.size w (w2.alloc (Obj.cells #[Value.int IntKind.i64 r1, Value.int IntKind.i64 r2, Value.int IntKind.i64 r3] 23)) := hb12.alloc hb12.size _
  refine (awakeHead_c _ (HE.out.below hb3 (Nat.le_refl _))).mono ?_
  rintro e w3 ⟨rfl, hb4⟩
  go_wp2
  go_ret
  exact ⟨rfl, hb3.trans (hb4.mono hb3.size)⟩
end Go.Proofs.YtkjkimebjhlhmaaDoor
