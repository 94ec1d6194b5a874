/- laws.lyInts: whether two slices hold the same numbers. -/
import Derived.Test.YtlpibfafpljedaaGreatDoorRanksPlain
import Derived.Deep.LoopGhost
import Derived.Deep.QuietTactic
import Derived.BigQuiet
namespace Go.Proofs.YtlpibfafpljedaaGreatDoor
open Go.RowKit
set_option linter.unusedVariables false

end Go.Proofs.YtlpibfafpljedaaGreatDoor
