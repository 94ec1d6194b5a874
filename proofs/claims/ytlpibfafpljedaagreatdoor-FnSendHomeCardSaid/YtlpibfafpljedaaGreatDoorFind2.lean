/- spec.l2Find: the best entry of a table. -/
import Derived.Test.YtlpibfafpljedaaGreatDoorSendI
namespace Go.Proofs.YtlpibfafpljedaaGreatDoor
open Go.RowKit
set_option linter.unusedVariables false

theorem best_none {l : List Ent} {x : Int} : BestAt l x 0 (-1) := .inl ⟨rfl, fun i hi => by omega⟩
theorem best_skip {l : List Ent} {x best : Int} {k : Nat} (h : BestAt l x k best) (hh : hasF (l.getD k (0, 0, 0)).1 (l.getD k (0, 0, 0)).2.1 x = false) : BestAt l x (k + 1) best := by
  rcases h with ⟨h1, h2⟩ | ⟨j, h1, h2, h3, h4⟩
  · exact .inl ⟨h1, fun i hi => if e : i = k then e ▸ hh else h2 i (by omega)⟩
  · refine .inr ⟨j, h1, by omega, h3, fun i hi hi2 => ?_⟩
    by_cases e : i = k
    · subst e; rw [hh] at hi2; cases hi2
    · exact h4 i (by omega) hi2
theorem best_keep {l : List Ent} {x : Int} {k j : Nat} (h : BestAt l x k (j : Int)) (hle : (l.getD k (0, 0, 0)).2.1 ≤ (l.getD j (0, 0, 0)).2.1) : BestAt l x (k + 1) (j : Int) := by
  rcases h with ⟨h1, h2⟩ | ⟨j', h1, h2, h3, h4⟩
  · omega
  · obtain rfl : j = j' := by omega
    refine .inr ⟨j, rfl, by omega, h3, fun i hi hi2 => ?_⟩
    by_cases e : i = k
    · subst e; exact hle
    · exact h4 i (by omega) hi2
theorem best_new {l : List Ent} {x best : Int} {k : Nat} (h : BestAt l x k best) (hh : hasF (l.getD k (0, 0, 0)).1 (l.getD k (0, 0, 0)).2.1 x = true) (hb : best < 0 ∨ ∃ j : Nat, best = (j : Int) ∧ (l.getD j (0, 0, 0)).2.1 < (l.getD k (0, 0, 0)).2.1) : BestAt l x (k + 1) (k : Int) := by
  refine .inr ⟨k, rfl, by omega, hh, fun i hi hi2 => ?_⟩
  by_cases e : i = k
  · subst e; exact Int.le_refl _
  · rcases h with ⟨h1, h2⟩ | ⟨j', h1, h2, h3, h4⟩
    · have := h2 i (by omega); rw [this] at hi2; cases hi2
    · have h5 := h4 i (by omega) hi2
      rcases hb with hb | ⟨j, hb1, hb2⟩
      · omega
      · obtain rfl : j = j' := by omega
        omega
theorem best_lt {l : List Ent} {x best : Int} {k : Nat} (h : BestAt l x k best) : best = -1 ∨ ∃ j : Nat, best = (j : Int) ∧ j < k := by
  rcases h with ⟨h1, _⟩ | ⟨j, h1, h2, _⟩
  · exact .inl h1
  · exact .inr ⟨j, h1, h2⟩

end Go.Proofs.YtlpibfafpljedaaGreatDoor
