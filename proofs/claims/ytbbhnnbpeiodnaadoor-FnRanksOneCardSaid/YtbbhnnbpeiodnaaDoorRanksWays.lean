/- spec.l32Ways: waysOk. -/
import Derived.Test.YtbbhnnbpeiodnaaDoorRanksCmp
namespace Go.Proofs.YtbbhnnbpeiodnaaDoor
open Go.RowKit
set_option linter.unusedVariables false

def InRel (row : List (List Int)) (p : List Int) (bv : Bool) (j : Nat) : Prop := (bv = true → stateOk row p = true) ∧ (bv = false → p ≠ [] ∧ ∀ i, i < j → row.getD i [] ≠ p)

end Go.Proofs.YtbbhnnbpeiodnaaDoor
