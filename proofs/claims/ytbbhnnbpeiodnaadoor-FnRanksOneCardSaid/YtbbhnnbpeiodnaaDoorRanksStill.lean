/- impl.still, spec.l32Still. -/
import Derived.Test.YtbbhnnbpeiodnaaDoorRanksPick
import Derived.Deep.RegionHeld3
namespace Go.Proofs.YtbbhnnbpeiodnaaDoor
open Go.RowKit
set_option linter.unusedVariables false

end Go.Proofs.YtbbhnnbpeiodnaaDoor
