/- A bundle of texts (merged for the limit on files): ConPut2. -/
import Derived.Test.YtjlnlgemngpelaaGreatDoorZa9
import Derived.Test.YtjlnlgemngpelaaGreatDoorZa16
/- Who comes: what lays them, by the reference: the walk (printed by wip/gen/conput2.py). -/
namespace Go.Proofs.YtjlnlgemngpelaaGreatDoor
open Go.RowKit
set_option linter.unusedVariables false
set_option linter.unusedSimpArgs false

theorem cPut_of {c : Con} (h : cErr c = 0) {k : List UInt8 × Int} (hk : cS5 c = k) (h2 : k.2 ≠ 0) : cPutE c = k.2 := by
  rw [cPutE, if_neg (by rw [h]; decide), hk, if_pos h2]

end Go.Proofs.YtjlnlgemngpelaaGreatDoor
