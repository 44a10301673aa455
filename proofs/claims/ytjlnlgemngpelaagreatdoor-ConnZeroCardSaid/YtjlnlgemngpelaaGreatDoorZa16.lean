/- A bundle of texts (merged for the limit on files): ConWrongR. -/
import Derived.Test.YtjlnlgemngpelaaGreatDoorZa7
/- Who comes: who may not come so: the walks (printed by wip/gen/conwrong.py). -/
namespace Go.Proofs.YtjlnlgemngpelaaGreatDoor
open Go.RowKit
set_option linter.unusedVariables false
set_option linter.unusedSimpArgs false



end Go.Proofs.YtjlnlgemngpelaaGreatDoor
