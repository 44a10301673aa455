/- The handle of the type error, out of a row's list. -/
import Derived.Test.YtgafhnomkeiakaaDoorFrAs
import Derived.Test.YtgafhnomkeiakaaDoorHeadVars
import Derived.LaidHandle
namespace Go.Proofs.YtgafhnomkeiakaaDoor
open Go.RowKit

theorem errGlobal : Tryd.prog.globalNamed "errors.errorType" = some 0 := by kernel_rfl
theorem errRt : (Tryd.prog.cutTypes.find? (·.1 == "internal/reflectlite.rtype")).map (·.2) = some 126 := by kernel_rfl
theorem errRow : ((List.range Tryd.prog.types.size).filter fun t => Tryd.prog.rowNamed t [101, 114, 114, 111, 114]) = [96] := by kernel_rfl
theorem envR_of {W : World} {l : List (String × DataW Unit)} (h : laidMetH Tryd.prog l W) (i : Nat) (hi : (l.filter fun x => x.2.handleName?.isSome)[i]? = some ("errors.errorType", .iface "internal/reflectlite.rtype" (.agg [.ptr (.lit (.string [101, 114, 114, 111, 114]))]))) : EnvR W := by
  obtain ⟨-, h2⟩ := laidMetH_iff.1 h
  obtain ⟨name, u, ty, e1, e2, e3, e4, e5⟩ := h2 _ (List.mem_of_getElem? hi)
  have en : name = [101, 114, 114, 111, 114] := (Option.some.inj e1).symm
  subst en
  obtain rfl := Option.some.inj (errRt.symm.trans e2)
  have hm : ty ∈ (List.range Tryd.prog.types.size).filter fun t => Tryd.prog.rowNamed t [101, 114, 114, 111, 114] := List.mem_filter.2 ⟨List.mem_range.2 e3, e4⟩
  rw [errRow] at hm
  obtain rfl := List.mem_singleton.1 hm
  have hh : typeHandle Tryd.prog 96 = .pointer (some ⟨4, 96, none⟩) := by kernel_rfl
  rw [hh] at e5
  unfold EnvR
  simpa using World.var?_cell errGlobal e5 0

/-- The variables of the framer's laws, laid. -/
def layMay : Obj → Obj
  | .cells _ t frozen => .cells #[.bool true, .bool true, .bool true, .bool true, .bool true, .bool true, .bool false, .bool false, .bool false, .bool false, .bool true, .bool true, .bool true, .bool true, .bool false, .bool false] t frozen
  | o => o
def layErr : Obj → Obj
  | .cells _ t frozen => .cells #[.iface 126 (.agg #[.pointer (some ⟨4, 96, none⟩)])] t frozen
  | o => o
def layF (h : Array Obj) : Array Obj := (h.modify 3 layMay).modify 0 layErr
end Go.Proofs.YtgafhnomkeiakaaDoor
