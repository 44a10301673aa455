/- The tables of utf8, out of a row's list. -/
import Derived.Test.YtopopdghmfbciaaDoorUtf2
import Derived.Test.YtopopdghmfbciaaDoorClose
import Derived.Lib.LaidU8T
namespace Go.Proofs.YtopopdghmfbciaaDoor
open Go.RowKit

theorem u8extra : U8Extra Tryd.prog Tryd.laysValid_ren := {
  n3 := by kernel_rfl
  n4 := by kernel_rfl
  y3 := by kernel_rfl
  y4 := by kernel_rfl
  c5 := by kernel_rfl
  c119 := by kernel_rfl
  c138 := by kernel_rfl }

theorem envU_of {W : World} {l : List (String × DataW Unit)} (h : laidMetH Tryd.prog l W) (i j : Nat) (dF dA : DataW Unit)
    (hi : (l.filter fun x => x.2.handleName?.isNone)[i]? = some ("unicode/utf8.first", dF)) (hj : (l.filter fun x => x.2.handleName?.isNone)[j]? = some ("unicode/utf8.acceptRanges", dA))
    (hF : dF = Lib.firstData) (hA : dA = Lib.acceptData) : EnvU W := by
  subst hF hA
  obtain ⟨h1, _⟩ := laidMetH_iff.1 h
  obtain ⟨ps, hv, _⟩ := h1
  exact utf8Tabs_of_readsT (U8Types.of196 Tryd.laysValid) u8extra (laidVars_get _ ps hv i _ _ hi) (laidVars_get _ ps hv j _ _ hj)
theorem first_is : Go.Pinned.utf8First = Lib.firstData := by kernel_rfl
/-- The tables, laid into a heap. -/
def layFirst : Obj → Obj
  | .cells _ t frozen => .cells ((List.range 256).map fun c => Value.int .u8 (Lib.firstT c : Int)).toArray t frozen
  | o => o
def layAccept : Obj → Obj
  | .cells _ t frozen => .cells ((List.range 16).flatMap fun i => [Value.int .u8 (Lib.accLo i : Int), Value.int .u8 (Lib.accHi i : Int)]).toArray t frozen
  | o => o
def layU (h : Array Obj) : Array Obj := (h.modify 2 layFirst).modify 3 layAccept

end Go.Proofs.YtopopdghmfbciaaDoor
