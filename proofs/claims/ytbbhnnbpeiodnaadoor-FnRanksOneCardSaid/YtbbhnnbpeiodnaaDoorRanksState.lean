/- impl.isState: waysOk, of ranks of three houses. -/
import Derived.Test.YtbbhnnbpeiodnaaDoorRanksSl2
namespace Go.Proofs.YtbbhnnbpeiodnaaDoor
open Go.RowKit
set_option linter.unusedVariables false

end Go.Proofs.YtbbhnnbpeiodnaaDoor
