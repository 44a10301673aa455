/- The laws of heads. -/
import Derived.Test.YtkjkimebjhlhmaaDoorHead
import Derived.Test.YtkjkimebjhlhmaaDoorClose
namespace Go.Proofs.YtkjkimebjhlhmaaDoor
open Go.RowKit
set_option linter.unusedVariables false

/-- The table of flags, as a row's list says it. -/
def mayLits : List Lit := [.bool true, .bool true, .bool true, .bool true, .bool true, .bool true, .bool false, .bool false, .bool false, .bool false, .bool true, .bool true, .bool true, .bool true, .bool false, .bool false]
theorem envH_of {W : World} {l : List (String × DataW Unit)} (h : laidMetH Tryd.prog l W) (i : Nat) (hi : (l.filter fun x => x.2.handleName?.isNone)[i]? = some ("crier/head.may", .agg (mayLits.map DataW.lit))) : EnvH W := by
  obtain ⟨h1, h2⟩ := laid_lits h i hi (g := 0) (t := 49) (e := 4) (k := 16) (by kernel_rfl) (by kernel_rfl) Tryd.underlying49 (.inl Tryd.underlying4) (by kernel_rfl) (by kernel_rfl)
  refine ⟨h1, fun i hi => ?_⟩
  rw [h2 i (by simpa [mayLits] using hi)]
  match i, hi with
  | 0, _ => rfl
  | 1, _ => rfl
  | 2, _ => rfl
  | 3, _ => rfl
  | 4, _ => rfl
  | 5, _ => rfl
  | 6, _ => rfl
  | 7, _ => rfl
  | 8, _ => rfl
  | 9, _ => rfl
  | 10, _ => rfl
  | 11, _ => rfl
  | 12, _ => rfl
  | 13, _ => rfl
  | 14, _ => rfl
  | 15, _ => rfl
  | n + 16, h => exact absurd h (by omega)

set_option maxRecDepth 100000 in
set_option maxHeartbeats 1000000 in
theorem HeadPuts_w (k f n : Int) (w : World) (hE : EnvH w) :
    Calls Tryd.prog 3 #[.agg #[.int .i64 k, .int .i64 f, .int .i64 n]] w fun e w' => e = .returned (.bool true) ∧ Below w.heap.size w w' := by
  have HE := hd hE; clear hE
  go_enter Tryd.func3, Tryd.ntmps3
  go_wp2_with fail
  have hb0 : Below w.heap.size w (w.alloc (Obj.cells #[Value.int IntKind.i64 k, Value.int IntKind.i64 f, Value.int IntKind.i64 n] 23)) := (Below.refl _ _).alloc (Nat.le_refl _) _
  have c0 : (w.alloc (Obj.cells #[Value.int IntKind.i64 k, Value.int IntKind.i64 f, Value.int IntKind.i64 n] 23)).cell? ⟨w.heap.size, 0, none⟩ = some (.int .i64 k) := World.cell?_alloc_new w _ _ 0
  have c1 : (w.alloc (Obj.cells #[Value.int IntKind.i64 k, Value.int IntKind.i64 f, Value.int IntKind.i64 n] 23)).cell? ⟨w.heap.size, 1, none⟩ = some (.int .i64 f) := World.cell?_alloc_new w _ _ 1
  have c2 : (w.alloc (Obj.cells #[Value.int IntKind.i64 k, Value.int IntKind.i64 f, Value.int IntKind.i64 n] 23)).cell? ⟨w.heap.size, 2, none⟩ = some (.int .i64 n) := World.cell?_alloc_new w _ _ 2
  have hlt : w.heap.size < (w.alloc (Obj.cells #[Value.int IntKind.i64 k, Value.int IntKind.i64 f, Value.int IntKind.i64 n] 23)).heap.size := by simp
  generalize hw0 : (w.alloc (Obj.cells #[Value.int IntKind.i64 k, Value.int IntKind.i64 f, Value.int IntKind.i64 n] 23)) = w0 at hb0 c0 c1 c2 hlt ⊢
  clear hw0
  refine (Put_c _ _ _ _ (HE.out.below hb0 (Nat.le_refl _))).mono ?_
  rintro e w1 ⟨v, rfl, hown, hb1⟩
  have d0 := (hb1.cell (p := ⟨w.heap.size, 0, none⟩) hlt).trans c0
  have d1 := (hb1.cell (p := ⟨w.heap.size, 1, none⟩) hlt).trans c1
  have d2 := (hb1.cell (p := ⟨w.heap.size, 2, none⟩) hlt).trans c2
  go_wp2_with fail
  refine (refPut_c _ _ _ _).mono ?_
  rintro e w2 ⟨v2, rfl, hown2, hb2⟩
  go_wp2_with fail
  have hlt1 := Nat.lt_of_lt_of_le hlt hb1.size
  have hb02 : Below w0.heap.size w0 w2 := hb1.trans (hb2.mono hb1.size)
  refine wp_region_in (fun W => Below w0.heap.size w0 W ∧ Below w2.heap.size w2 W) (by kernel_rfl) (by kernel_rfl) ⟨hb02.drew, (Below.refl _ _).drew⟩ ?_
  have g0 : ∀ x : In (fun W => Below w0.heap.size w0 W ∧ Below w2.heap.size w2 W), x.w.cell? ⟨w.heap.size, 0, none⟩ = some (.int .i64 k) := fun x => (x.h.1.cell (p := ⟨w.heap.size, 0, none⟩) hlt).trans c0
  have g1 : ∀ x : In (fun W => Below w0.heap.size w0 W ∧ Below w2.heap.size w2 W), x.w.cell? ⟨w.heap.size, 1, none⟩ = some (.int .i64 f) := fun x => (x.h.1.cell (p := ⟨w.heap.size, 1, none⟩) hlt).trans c1
  have s1 : ∀ x : In (fun W => Below w0.heap.size w0 W ∧ Below w2.heap.size w2 W), (convert 24 9 v).run Tryd.prog x.w = .ok (.string ⟨(hPutB k f n).toArray⟩) x.w := fun x => run_str ((hown.bs.below' hb2 (Nat.le_refl _)).below' x.h.2 (Nat.le_refl _))
  have s2 : ∀ x : In (fun W => Below w0.heap.size w0 W ∧ Below w2.heap.size w2 W), (convert 24 9 v2).run Tryd.prog x.w = .ok (.string ⟨(hPutB k f n).toArray⟩) x.w := fun x => run_str (hown2.bs.below' x.h.2 (Nat.le_refl _))
  haveI : Nonempty (In (fun W => Below w0.heap.size w0 W ∧ Below w2.heap.size w2 W)) := ⟨⟨w2, hb02, Below.refl _ _⟩⟩
  have G := hd (And.intro hown (And.intro hb02 (And.intro d0 (And.intro d1 (And.intro d2 (And.intro c0 (And.intro c1 c2)))))))
  clear hown hown2 d0 d1 d2 c0 c1 c2 
  have HEx : Hd (∀ x : In (fun W => Below w0.heap.size w0 W ∧ Below w2.heap.size w2 W), EnvH x.w) := hd (fun x => (HE.out.below hb0 (Nat.le_refl _)).below x.h.1 (Nat.le_refl _))
  have Hcl : Hd (∀ x : In (fun W => Below w0.heap.size w0 W ∧ Below w2.heap.size w2 W), ∀ w', Below x.w.heap.size x.w w' → Below w0.heap.size w0 w' ∧ Below w2.heap.size w2 w') := hd (fun x w' h => ⟨x.h.1.trans (h.mono x.h.1.size), x.h.2.trans (h.mono x.h.2.size)⟩)
  repeat (quiet_step (first
    | (go_at_call 9; rename_i x; exact In.call (Right_c _ _ _ (HEx.out x)) (fun e w' h => ⟨h.1, h.2 ▸ x.h⟩))
    | (go_at_call 10; rename_i x; exact In.call (refRight_c _ _ _) (fun e w' h => ⟨h.1, h.2 ▸ x.h⟩))
    | (go_at_call 11; rename_i x; exact In.call (awakeHead_c _ (HEx.out x)) (fun e w' h => ⟨h.1, Hcl.out x w' h.2⟩))))
  refine wpQuiet_nil ?_
  rintro _ ⟨x, rfl⟩
  go_wp2
  go_ret
  exact ⟨rfl, hb0.trans (x.h.1.mono hb0.size)⟩
end Go.Proofs.YtkjkimebjhlhmaaDoor
