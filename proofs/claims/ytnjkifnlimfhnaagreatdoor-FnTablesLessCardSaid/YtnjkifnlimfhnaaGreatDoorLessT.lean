/- impl.TableLess, walked. -/
import Derived.Test.YtnjkifnlimfhnaaGreatDoorLessI
namespace Go.Proofs.YtnjkifnlimfhnaaGreatDoor
open Go.RowKit
set_option linter.unusedVariables false

theorem tabs_two {W : World} {s1 s2 : Value} {l1 l2 : List Ent} (h1 : EntsAt W s1 l1) (h2 : EntsAt W s2 l2) (T : TypeId) : TabsAt (W.alloc (.cells #[s1, s2] T)) (.slice (some ⟨W.heap.size, 0, none⟩) 2 2) [l1, l2] := by
  have hA := Below.alloc (Below.refl W.heap.size W) (Nat.le_refl _) (.cells #[s1, s2] T)
  refine ⟨fun i => if i = 0 then s1 else s2, ⟨_, 2, rfl, Nat.le_refl _, by unfold maxLen; omega, .inr ⟨W.heap.size, 0, rfl, by simp, fun i hi => ?_⟩⟩, fun i hi => ?_⟩
  · have hi2 : i = 0 ∨ i = 1 := by simp at hi; omega
    rcases hi2 with rfl | rfl <;> simp
  · have hi2 : i = 0 ∨ i = 1 := by simp at hi; omega
    rcases hi2 with rfl | rfl
    · exact h1.below hA
    · exact h2.below hA
def LessPost (l : List Ent) (w : World) (e : Ending) (w' : World) : Prop := ∃ (v' : Value) (l' : List Ent), e = .returned v' ∧ EntNew w' w.heap.size v' l' ∧ (tableOkF l = true → tableOkF l' = true ∧ SameF l' l) ∧ Below w.heap.size w w'
theorem less_ret {l l' : List Ent} {w w' : World} {v' : Value} (h1 : EntNew w' w.heap.size v' l') (h2 : tableOkF l = true → tableOkF l' = true ∧ SameF l' l) (h3 : Below w.heap.size w w') : LessPost l w (.returned v') w' := ⟨v', l', rfl, h1, h2, h3⟩
end Go.Proofs.YtnjkifnlimfhnaaGreatDoor
