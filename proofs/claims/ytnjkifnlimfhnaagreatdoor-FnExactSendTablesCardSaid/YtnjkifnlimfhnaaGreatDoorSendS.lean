/- spec.l42Ok, spec.SendNext. -/
import Derived.Test.YtnjkifnlimfhnaaGreatDoorFind2
namespace Go.Proofs.YtnjkifnlimfhnaaGreatDoor
open Go.RowKit
set_option linter.unusedVariables false

end Go.Proofs.YtnjkifnlimfhnaaGreatDoor
