/- The table of flags, out of a row's list. -/
import Derived.Test.YtgafhnomkeiakaaDoorHead
import Derived.Test.YtgafhnomkeiakaaDoorClose
namespace Go.Proofs.YtgafhnomkeiakaaDoor
open Go.RowKit

/-- The table of flags, as a row's list says it. -/
def mayLits : List Lit := [.bool true, .bool true, .bool true, .bool true, .bool true, .bool true, .bool false, .bool false, .bool false, .bool false, .bool true, .bool true, .bool true, .bool true, .bool false, .bool false]
theorem envH_of {W : World} {l : List (String × DataW Unit)} (h : laidMetH Tryd.prog l W) (i : Nat) (hi : (l.filter fun x => x.2.handleName?.isNone)[i]? = some ("crier/head.may", .agg (mayLits.map DataW.lit))) : EnvH W := by
  obtain ⟨h1, h2⟩ := laid_lits h i hi (g := 3) (t := 158) (e := 4) (k := 16) (by kernel_rfl) (by kernel_rfl) Tryd.underlying158 (.inl Tryd.underlying4) (by kernel_rfl) (by kernel_rfl)
  refine ⟨h1, fun i hi => ?_⟩
  rw [h2 i (by simpa [mayLits] using hi)]
  match i, hi with
  | 0, _ => rfl
  | 1, _ => rfl
  | 2, _ => rfl
  | 3, _ => rfl
  | 4, _ => rfl
  | 5, _ => rfl
  | 6, _ => rfl
  | 7, _ => rfl
  | 8, _ => rfl
  | 9, _ => rfl
  | 10, _ => rfl
  | 11, _ => rfl
  | 12, _ => rfl
  | 13, _ => rfl
  | 14, _ => rfl
  | 15, _ => rfl
  | n + 16, h => exact absurd h (by omega)

end Go.Proofs.YtgafhnomkeiakaaDoor
