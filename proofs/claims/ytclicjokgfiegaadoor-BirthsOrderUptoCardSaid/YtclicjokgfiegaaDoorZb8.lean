/- A bundle of texts (merged for the limit on files): SpRef. -/
import Derived.Test.YtclicjokgfiegaaDoorZb6
import Derived.Test.YtclicjokgfiegaaDoorZb7
import Derived.BigQuiet
/- Spots and topics: the reference: the walks. -/
namespace Go.Proofs.YtclicjokgfiegaaDoor
open Go.RowKit
set_option linter.unusedVariables false
set_option linter.unusedSimpArgs false

end Go.Proofs.YtclicjokgfiegaaDoor
