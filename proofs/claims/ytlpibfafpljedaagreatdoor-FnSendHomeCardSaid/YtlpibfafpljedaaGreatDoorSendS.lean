/- spec.l42Ok, spec.SendNext. -/
import Derived.Test.YtlpibfafpljedaaGreatDoorFind2
namespace Go.Proofs.YtlpibfafpljedaaGreatDoor
open Go.RowKit
set_option linter.unusedVariables false

end Go.Proofs.YtlpibfafpljedaaGreatDoor
