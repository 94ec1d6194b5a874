/- Plain: what RanksPick, RanksStill, RanksPlay give. -/
import Derived.Test.YtbbhnnbpeiodnaaDoorRanksPlain
namespace Go.Proofs.YtbbhnnbpeiodnaaDoor
set_option linter.unusedVariables false
def ranksPickF (r : List (List (List Int))) (ways : List (List Int)) (h : Int) : List Int :=
  if ranksOk r = true ∧ waysOk r ways = true ∧ 1 ≤ h ∧ h ≤ 3 then pickF (r.getD (h - 1).toNat []) ways else []
def ranksStillF (r : List (List (List Int))) (ways : List (List Int)) : Bool := ranksOk r && waysOk r ways && stillF r ways
theorem waysOk_len3 {r : List (List (List Int))} {ways : List (List Int)} (h : waysOk r ways = true) : ways.length = r.length := by
  unfold waysOk at h
  rw [Bool.and_eq_true] at h
  simpa using h.1
theorem ranksPickF_no {r : List (List (List Int))} {ways : List (List Int)} {h : Int} (hn : ¬ (ranksOk r = true ∧ waysOk r ways = true ∧ 1 ≤ h ∧ h ≤ 3)) : ranksPickF r ways h = [] := by
  unfold ranksPickF; rw [if_neg hn]
theorem ranksPickF_yes {r : List (List (List Int))} {ways : List (List Int)} {h : Nat} (h1 : ranksOk r = true) (h2 : waysOk r ways = true) (h3 : h < 3) : ranksPickF r ways ((h : Int) + 1) = pickF (r.getD h []) ways := by
  unfold ranksPickF; rw [if_pos ⟨h1, h2, by omega, by omega⟩]
  congr 2
  omega
/-- one more house picks -/
def stepW (r : List (List (List Int))) (ways : List (List Int)) (h : Int) : List (List Int) := ways.set (h - 1).toNat (pickF (r.getD (h - 1).toNat []) ways)
def playW (r : List (List (List Int))) (order : List Int) : List (List Int) := order.foldl (stepW r) [[], [], []]
def orderOk (order : List Int) : Bool := decide (order.length ≤ 60) && order.all fun h => decide (1 ≤ h) && decide (h ≤ 3)
def playF (r : List (List (List Int))) (order : List Int) : List (List Int) × Bool := if ranksOk r = true ∧ orderOk order = true then (playW r order, true) else ([], false)
theorem stepW_len (r : List (List (List Int))) (ways : List (List Int)) (h : Int) : (stepW r ways h).length = ways.length := by unfold stepW; simp
theorem foldW_len (r : List (List (List Int))) : ∀ (order : List Int) (ways : List (List Int)), (order.foldl (stepW r) ways).length = ways.length
  | [], _ => rfl
  | h :: t, ways => by rw [List.foldl_cons, foldW_len r t, stepW_len]
theorem playW_len (r : List (List (List Int))) (order : List Int) : (playW r order).length = 3 := foldW_len r order _
theorem playW_snoc (r : List (List (List Int))) (order : List Int) (h : Int) : playW r (order ++ [h]) = stepW r (playW r order) h := by
  unfold playW; rw [List.foldl_append]; rfl
end Go.Proofs.YtbbhnnbpeiodnaaDoor
