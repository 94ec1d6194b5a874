/- The walk of FnExactRanksStill. -/
import Derived.Test.YtbbhnnbpeiodnaaDoorRanksPickAll
import Derived.Test.YtbbhnnbpeiodnaaDoorRanksSize
namespace Go.Proofs.YtbbhnnbpeiodnaaDoor
open Go.RowKit
set_option linter.unusedVariables false

end Go.Proofs.YtbbhnnbpeiodnaaDoor
