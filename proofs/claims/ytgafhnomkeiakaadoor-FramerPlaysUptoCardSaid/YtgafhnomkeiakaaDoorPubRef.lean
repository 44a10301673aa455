/- Messages: the reference's walks; what bytes tell; the numbers. -/
import Derived.Test.YtgafhnomkeiakaaDoorPubPut
import Derived.Test.YtgafhnomkeiakaaDoorPubOfPlain
import Derived.WalkSpells
namespace Go.Proofs.YtgafhnomkeiakaaDoor
open Go.RowKit
set_option linter.unusedVariables false

end Go.Proofs.YtgafhnomkeiakaaDoor
