/- The laws' own comparison of tables that are the same. -/
import Derived.Test.YtnjkifnlimfhnaaDoorSendS
import Derived.Deep.LoopGhost
namespace Go.Proofs.YtnjkifnlimfhnaaDoor
open Go.RowKit
set_option linter.unusedVariables false

end Go.Proofs.YtnjkifnlimfhnaaDoor
