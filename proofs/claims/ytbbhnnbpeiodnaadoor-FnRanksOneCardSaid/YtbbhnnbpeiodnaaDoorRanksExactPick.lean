/- The walk of FnExactRanksPick. -/
import Derived.Test.YtbbhnnbpeiodnaaDoorRanksExactStill
import Derived.Test.YtbbhnnbpeiodnaaDoorRanksMark2
namespace Go.Proofs.YtbbhnnbpeiodnaaDoor
open Go.RowKit
set_option linter.unusedVariables false

theorem pickF_mem (rank ways : List (List Int)) : pickF rank ways = [] ∨ pickF rank ways ∈ rank := by
  unfold pickF
  cases h : rank.find? (pickHit ways) with
  | none => exact .inl rfl
  | some x => exact .inr (List.mem_of_find?_eq_some h)
theorem ranksPickF_len (r : List (List (List Int))) (ways : List (List Int)) (h : Int) : (ranksPickF r ways h).length ≤ 4 := by
  unfold ranksPickF
  by_cases hc : ranksOk r = true ∧ waysOk r ways = true ∧ 1 ≤ h ∧ h ≤ 3
  · rw [if_pos hc]
    rcases pickF_mem (r.getD (h - 1).toNat []) ways with e | e
    · rw [e]; simp
    · exact (good_of_ranksOk hc.1 (by omega) _ e).2.1
  · rw [if_neg hc]; simp

end Go.Proofs.YtbbhnnbpeiodnaaDoor
