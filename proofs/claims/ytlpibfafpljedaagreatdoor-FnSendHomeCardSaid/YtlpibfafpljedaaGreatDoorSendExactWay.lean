/- The walk of FnExactSendWay. -/
import Derived.Test.YtlpibfafpljedaaGreatDoorWayS
import Derived.Test.YtlpibfafpljedaaGreatDoorSendExactNext
namespace Go.Proofs.YtlpibfafpljedaaGreatDoor
open Go.RowKit
set_option linter.unusedVariables false

theorem wayF_len (ls : List (List Ent)) (h x : Int) : (wayF ls h x).1.length ≤ 6 := by
  unfold wayF
  split
  · rename_i hc
    have h5 := (tablesOk_at hc.1).2.1
    have := goW_len (nextF ls x) ls.length ls.length h [h]
    simp at this
    omega
  · simp
end Go.Proofs.YtlpibfafpljedaaGreatDoor
