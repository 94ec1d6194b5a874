/- The laws' own comparison of tables that are the same. -/
import Derived.Test.YtnjkifnlimfhnaaSendS
import Derived.Deep.LoopGhost
namespace Go.Proofs.Ytnjkifnlimfhnaa
open Go.RowKit
set_option linter.unusedVariables false

end Go.Proofs.Ytnjkifnlimfhnaa
