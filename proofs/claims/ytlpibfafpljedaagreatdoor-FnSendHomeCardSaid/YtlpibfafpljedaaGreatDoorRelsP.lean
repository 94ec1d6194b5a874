/- What houses are to each other: plain words. -/
import Derived.Test.YtlpibfafpljedaaGreatDoorDrawRng
import Derived.Test.YtlpibfafpljedaaGreatDoorTab
import Derived.Test.YtlpibfafpljedaaGreatDoorRanksHas
namespace Go.Proofs.YtlpibfafpljedaaGreatDoor
open Go.RowKit
set_option linter.unusedVariables false

def backF (x : Int) : Int := if x = 1 then 3 else if x = 3 then 1 else x
def relAt (rs : List (List Int)) (i k : Nat) : Int := (rs.getD i []).getD k 0
def relOkF (rs : List (List Int)) (n i k : Nat) : Bool := decide ((rs.getD k []).length = n) && (decide (0 ≤ relAt rs i k) && decide (relAt rs i k ≤ 3)) && decide (relAt rs k i = backF (relAt rs i k)) && (decide (i ≠ k) || decide (relAt rs i k = 0))
def relsOkF (rs : List (List Int)) : Bool := ((List.range rs.length).all fun i => decide ((rs.getD i []).length = rs.length) && (List.range rs.length).all (relOkF rs rs.length i)) && (decide (1 ≤ rs.length) && decide (rs.length ≤ 5))
theorem relsOk_bad1 {rs : List (List Int)} {n i : Nat} (hn : rs.length = n) (hi : i < n) (h : (rs.getD i []).length ≠ n) : relsOkF rs = false := by
  subst hn
  unfold relsOkF
  rw [Bool.and_eq_false_iff]; left
  rw [List.all_eq_false]
  exact ⟨i, List.mem_range.2 hi, by simp only [Bool.and_eq_true, decide_eq_true_eq, not_and]; intro h'; exact absurd h' h⟩
theorem relsOk_bad2 {rs : List (List Int)} {n i k : Nat} (hn : rs.length = n) (hi : i < n) (hk : k < n) (h : relOkF rs n i k = false) : relsOkF rs = false := by
  subst hn
  unfold relsOkF
  rw [Bool.and_eq_false_iff]; left
  rw [List.all_eq_false]
  refine ⟨i, List.mem_range.2 hi, ?_⟩
  rw [Bool.and_eq_true, not_and]
  intro _ h'
  rw [List.all_eq_true] at h'
  rw [h' k (List.mem_range.2 hk)] at h
  cases h
theorem relsOk_good {rs : List (List Int)} {n : Nat} (hn : rs.length = n) (h : ∀ i, i < n → (rs.getD i []).length = n ∧ ∀ k, k < n → relOkF rs n i k = true) : relsOkF rs = (decide (1 ≤ n) && decide (n ≤ 5)) := by
  subst hn
  unfold relsOkF
  have : ((List.range rs.length).all fun i => decide ((rs.getD i []).length = rs.length) && (List.range rs.length).all (relOkF rs rs.length i)) = true := by
    rw [List.all_eq_true]
    intro i hi
    have hi := List.mem_range.1 hi
    rw [Bool.and_eq_true, List.all_eq_true]
    exact ⟨decide_eq_true (h i hi).1, fun k hk => (h i hi).2 k (List.mem_range.1 hk)⟩
  rw [this, Bool.true_and]
theorem backF_in {x : Int} (h0 : 0 ≤ x) (h3 : x ≤ 3) : 0 ≤ backF x ∧ backF x ≤ 3 := by unfold backF; split <;> (try split) <;> omega
set_option maxHeartbeats 1000000 in
theorem l12Back_is (x : Int) (h0 : 0 ≤ x) (h3 : x ≤ 3) (w : World) : Calls Tryz.prog 59 #[.int .i64 x] w fun e w' => e = .returned (.int .i64 (backF x)) ∧ Below w.heap.size w w' := by
  have : x = 0 ∨ x = 1 ∨ x = 2 ∨ x = 3 := by omega
  rcases this with rfl | rfl | rfl | rfl <;>
  · go_enter Tryz.func59, Tryz.ntmps59
    go_wp2_with fail
    go_ret
    exact ⟨rfl, by repeat (first | exact Below.refl _ _ | assumption | refine Below.drew ?_ | refine belowDrewN ?_ _ | refine Below.alloc ?_ (by first | exact Nat.le_refl _ | omega | (simp; done) | (simp; omega)) _ | refine Below.setCell ?_ (by first | exact Nat.le_refl _ | omega | (simp; done) | (simp; omega)) _)⟩
end Go.Proofs.YtlpibfafpljedaaGreatDoor
