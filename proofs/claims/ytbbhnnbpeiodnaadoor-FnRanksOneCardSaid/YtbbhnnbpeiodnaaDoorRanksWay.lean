/- spec.l32Way: wayOk. -/
import Derived.Test.YtbbhnnbpeiodnaaDoorRanksHas
import Derived.Deep.QuietTactic
import Derived.BigQuiet
namespace Go.Proofs.YtbbhnnbpeiodnaaDoor
open Go.RowKit
set_option linter.unusedVariables false

theorem ret_b {a b : Bool} (h : a = b) : Ending.returned (.bool a) = Ending.returned (.bool b) := by rw [h]
set_option maxHeartbeats 400000 in
theorem in_any (n lo hi : Int) (w : World) :
    Calls Tryd.prog 14 #[.int .i64 n, .int .i64 lo, .int .i64 hi] w fun e w' => e = .returned (.bool (decide (lo ≤ n) && decide (n ≤ hi))) ∧ w' = w := by
  go_enter Tryd.func14, Tryd.ntmps14
  go_wp2
  all_goals
    go_ret
    refine ⟨ret_b ?_, rfl⟩
    simp [*] <;> omega

def stepOk (p : List Int) (i : Nat) : Bool := decide (1 ≤ p.getD i 0) && decide (p.getD i 0 ≤ 3) && !(p.take i).contains (p.getD i 0)
theorem wayOk_bad {p : List Int} {h : Int} {k : Nat} (hk : k < p.length - 1) (hb : stepOk p k = false) : wayOk p h = false := by
  unfold wayOk
  rw [Bool.and_eq_false_iff]
  right
  rw [List.all_eq_false]
  exact ⟨k, by simpa using hk, by unfold stepOk at hb; rw [hb]; simp⟩
theorem wayOk_good {p : List Int} {h : Int} (ha : ∀ j, j < p.length - 1 → stepOk p j = true) : wayOk p h = (decide (2 ≤ p.length) && decide (p.getD 0 0 = h) && decide (p.getD (p.length - 1) 0 = 0)) := by
  unfold wayOk
  have : ((List.range (p.length - 1)).all fun i => decide (1 ≤ p.getD i 0) && decide (p.getD i 0 ≤ 3) && !(p.take i).contains (p.getD i 0)) = true := by
    rw [List.all_eq_true]
    intro j hj
    exact ha j (by simpa using hj)
  rw [this, Bool.and_true]
end Go.Proofs.YtbbhnnbpeiodnaaDoor
