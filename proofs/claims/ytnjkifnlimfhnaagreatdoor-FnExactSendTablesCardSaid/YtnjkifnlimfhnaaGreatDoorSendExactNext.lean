/- The walk of FnExactSendNext. -/
import Derived.Test.YtnjkifnlimfhnaaGreatDoorEntCopy
import Derived.Test.YtnjkifnlimfhnaaGreatDoorEntEq
import Derived.Test.YtnjkifnlimfhnaaGreatDoorEntOpen
namespace Go.Proofs.YtnjkifnlimfhnaaGreatDoor
open Go.RowKit
set_option linter.unusedVariables false

end Go.Proofs.YtnjkifnlimfhnaaGreatDoor
