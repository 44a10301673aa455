/- Faults of a head: errors.Is over them (after the kit's worked text on sentinels). -/
import Derived.Test.YtgafhnomkeiakaaDoorHead
import Derived.Test.YtgafhnomkeiakaaDoorPubPut
import Derived.LaidEql
import Derived.Stop.Asserts
import Derived.RowKitTokens
namespace Go.Proofs.YtgafhnomkeiakaaDoor
open Go.RowKit Go.Extern.Stop Go.Stop Go.Extern
set_option linter.unusedVariables false
set_option linter.unusedSimpArgs false

/-- a fault, as an error -/
def fV (e : Int) : Value := .iface 111 (.agg #[.int .i64 e])

theorem fComp : (Tryd.prog.info? 111).map (·.comparable) = some true := by kernel_rfl
theorem fHeld : Tryd.prog.stoodInHeld 111 = false := by kernel_rfl
theorem fPart (x : Int) (w : World) : (part 24 #[.int .i64 x] 0).run Tryd.prog w = .ok (.int .i64 x) w := by kernel_rfl
theorem run_eqFault (a b : Int) (w : World) : (binOp .eql 96 (fV a) (fV b)).run Tryd.prog w = .ok (.bool (a == b)) w := by
  obtain ⟨i, hi, hcmp⟩ := Option.map_eq_some_iff.1 fComp
  have hs := fun d => run_equalIn_struct (P := Tryd.prog) w d 111 #[.int .i64 a] #[.int .i64 b] (by kernel_rfl) fHeld
  have h : ∀ d, (Op.equalIn (d + 3) 96 (fV a) (fV b)).run Tryd.prog w = .ok (a == b) w := by
    intro d
    unfold fV
    simp [Op.equalIn, run_underlying Tryd.underlying96, typeInfo, hi, hcmp]
    simp [fPart, Result.andThen]
    by_cases hab : a = b <;> simp [hab]
  unfold fV at h ⊢
  simp only [binOp]
  simp [Op.equal, Op.maxDepth, h 9997]

/-! ### what errors.Is asks of the target; of the method sets -/
theorem fTypeOf (e : Int) (w : World) : (Extern.ReflectliteType.typeOf #[fV e]).run Tryd.prog w = .ok (.iface 126 (.agg #[.pointer (some ⟨4, 111, none⟩)])) w := by kernel_rfl
def fCmp : Array Value → Sem Value := Extern.ReflectliteType.method fun t => do Extern.Rtype.noPackHeld "Comparable" t; pure (.bool (← typeInfo t).comparable)
theorem fComparable (w : World) : (fCmp #[.agg #[.pointer (some ⟨4, 111, none⟩)]]).run Tryd.prog w = .ok (.bool true) w := by kernel_rfl
theorem fMethodComparable (v : Value) (w : World) : (Go.method 113 126 v "Comparable").run Tryd.prog w = .ok (106, v) w := by kernel_rfl
theorem fNoIs (v : Value) (xT : TypeId) (w : World) : (Instr.typeAssert (.iface 111 v) xT 128 true).run Tryd.prog w = .ok (.tuple #[.nilIface, .bool false]) w := run_typeAssert_lacksB Tryd.underlying128 (by kernel_rfl) (by kernel_rfl) v xT w
theorem fNoUnwrap (v : Value) (xT : TypeId) (w : World) : (Instr.typeAssert (.iface 111 v) xT 131 true).run Tryd.prog w = .ok (.tuple #[.nilIface, .bool false]) w := run_typeAssert_lacksB Tryd.underlying131 (by kernel_rfl) (by kernel_rfl) v xT w
theorem fNoUnwraps (v : Value) (xT : TypeId) (w : World) : (Instr.typeAssert (.iface 111 v) xT 132 true).run Tryd.prog w = .ok (.tuple #[.nilIface, .bool false]) w := run_typeAssert_lacksB Tryd.underlying132 (by kernel_rfl) (by kernel_rfl) v xT w

set_option maxRecDepth 100000 in
set_option maxHeartbeats 4000000 in
theorem errIsNil_c (b : Int) (w : World) : Calls Tryd.prog 50 #[.nilIface, fV b] w fun e w' => e = .returned (.bool false) ∧ w' = w := by
  have hn := run_eql_iface_nil_left (P := Tryd.prog) w 111 (.agg #[.int .i64 b]) Tryd.underlying96
  unfold fV
  go_enter Tryd.func50, Tryd.ntmps50
  go_wp2_with fail
  go_ret
  exact ⟨rfl, rfl⟩

set_option maxRecDepth 100000 in
set_option maxHeartbeats 4000000 in
theorem errIs_c (a b : Int) (w : World) : Calls Tryd.prog 50 #[fV a, fV b] w fun e w' => e = .returned (.bool (a == b)) ∧ w' = w := by
  have h8 := @run_callFunc_extern Tryd.prog 64 _ Extern.ReflectliteType.typeOf Tryd.func64 (by kernel_rfl) (by kernel_rfl) (by kernel_rfl) (by kernel_rfl)
  have h32 := @run_callFunc_extern Tryd.prog 106 _ fCmp Tryd.func106 (by kernel_rfl) (by kernel_rfl) (by kernel_rfl) (by kernel_rfl)
  have tT := fTypeOf b
  have cT := fComparable
  have mR := fMethodComparable
  have nE := fNoIs
  have uE := fNoUnwrap
  have vE := fNoUnwraps
  have heq := run_eqFault a b w
  by_cases hab : a = b
  · subst hab
    rw [beq_self_eq_true] at heq ⊢
    unfold fV at tT heq ⊢
    go_enter Tryd.func50, Tryd.ntmps50
    go_wp2
    refine wp_loop_rounds 1 ?_
    rw [rounds_succ]
    go_wp2
    go_ret
    exact ⟨rfl, rfl⟩
  · have hb : (a == b) = false := by simpa using hab
    rw [hb] at heq ⊢
    unfold fV at tT heq ⊢
    go_enter Tryd.func50, Tryd.ntmps50
    go_wp2
    refine wp_loop_rounds 1 ?_
    rw [rounds_succ]
    go_wp2
    go_ret
    exact ⟨rfl, rfl⟩
end Go.Proofs.YtgafhnomkeiakaaDoor
