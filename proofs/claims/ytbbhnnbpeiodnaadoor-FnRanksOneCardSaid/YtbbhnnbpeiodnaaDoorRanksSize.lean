/- The laws' own measures and comparisons of slices: szIntS.., eqIntS... -/
import Derived.Test.YtbbhnnbpeiodnaaDoorRanksCopy
import Derived.Deep.LoopGhost
import Derived.Deep.QuietTactic
import Derived.BigQuiet
namespace Go.Proofs.YtbbhnnbpeiodnaaDoor
open Go.RowKit
set_option linter.unusedVariables false

/-- what is left, or -1 -/
def SzPost (small : Prop) (left : Int) (w : World) (e : Ending) (w' : World) : Prop := ∃ k : Int, e = .returned (.int .i64 k) ∧ k ≤ left ∧ -1 ≤ k ∧ (0 ≤ k → small) ∧ w' = w
end Go.Proofs.YtbbhnnbpeiodnaaDoor
