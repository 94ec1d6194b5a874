/- The laws' own comparison of tables that are the same. -/
import Derived.Test.YtlpibfafpljedaaGreatDoorSendS
import Derived.Deep.LoopGhost
namespace Go.Proofs.YtlpibfafpljedaaGreatDoor
open Go.RowKit
set_option linter.unusedVariables false

end Go.Proofs.YtlpibfafpljedaaGreatDoor
