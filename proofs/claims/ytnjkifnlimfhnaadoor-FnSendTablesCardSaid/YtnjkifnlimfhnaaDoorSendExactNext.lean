/- The walk of FnExactSendNext. -/
import Derived.Test.YtnjkifnlimfhnaaDoorEntCopy
import Derived.Test.YtnjkifnlimfhnaaDoorEntEq
import Derived.Test.YtnjkifnlimfhnaaDoorEntOpen
namespace Go.Proofs.YtnjkifnlimfhnaaDoor
open Go.RowKit
set_option linter.unusedVariables false

end Go.Proofs.YtnjkifnlimfhnaaDoor
