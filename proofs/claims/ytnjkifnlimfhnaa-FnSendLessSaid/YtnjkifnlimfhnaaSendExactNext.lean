/- The walk of FnExactSendNext. -/
import Derived.Test.YtnjkifnlimfhnaaEntCopy
import Derived.Test.YtnjkifnlimfhnaaEntEq
import Derived.Test.YtnjkifnlimfhnaaEntOpen
namespace Go.Proofs.Ytnjkifnlimfhnaa
open Go.RowKit
set_option linter.unusedVariables false

end Go.Proofs.Ytnjkifnlimfhnaa
