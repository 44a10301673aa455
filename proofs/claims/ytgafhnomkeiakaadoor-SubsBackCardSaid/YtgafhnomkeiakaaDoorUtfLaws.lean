/- The laws of texts. -/
import Derived.Test.YtgafhnomkeiakaaDoorUtf5
namespace Go.Proofs.YtgafhnomkeiakaaDoor
open Go.RowKit
set_option linter.unusedVariables false

theorem GivesB.out {w w' : World} {l : List UInt8} {err : Int} {e : Ending} (h : GivesB w l err e w') : ∃ v, e = .returned (.tuple #[v, .int .i64 err]) ∧ Bs w' v l ∧ Below w.heap.size w w' := by
  obtain ⟨v, he, ho, hb⟩ := h
  exact ⟨v, he, ho.bs, hb⟩

end Go.Proofs.YtgafhnomkeiakaaDoor
