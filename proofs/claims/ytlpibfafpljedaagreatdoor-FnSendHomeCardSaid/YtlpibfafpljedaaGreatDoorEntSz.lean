/- The laws' own measures of tables: szEntryS, szEntrySS. -/
import Derived.Test.YtlpibfafpljedaaGreatDoorSendS
import Derived.Deep.LoopGhost
namespace Go.Proofs.YtlpibfafpljedaaGreatDoor
open Go.RowKit
set_option linter.unusedVariables false

def SmallE (l : List Ent) : Prop := l.length ≤ 1048576
def SmallT (l : List (List Ent)) : Prop := l.length ≤ 1048576 ∧ ∀ i, i < l.length → SmallE (l.getD i [])
/-- what is left, or -1 -/
def SzPost (small : Prop) (left : Int) (w : World) (e : Ending) (w' : World) : Prop := ∃ k : Int, e = .returned (.int .i64 k) ∧ k ≤ left ∧ -1 ≤ k ∧ (0 ≤ k → small) ∧ w' = w
end Go.Proofs.YtlpibfafpljedaaGreatDoor
