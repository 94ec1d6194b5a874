/- The walk of FnExactSendNext. -/
import Derived.Test.YtlpibfafpljedaaGreatDoorEntCopy
import Derived.Test.YtlpibfafpljedaaGreatDoorEntEq
import Derived.Test.YtlpibfafpljedaaGreatDoorEntOpen
namespace Go.Proofs.YtlpibfafpljedaaGreatDoor
open Go.RowKit
set_option linter.unusedVariables false

end Go.Proofs.YtlpibfafpljedaaGreatDoor
