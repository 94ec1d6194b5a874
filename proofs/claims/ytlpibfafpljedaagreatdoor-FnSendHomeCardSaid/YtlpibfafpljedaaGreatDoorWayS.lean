/- spec.SendWay, walked. -/
import Derived.Test.YtlpibfafpljedaaGreatDoorWayI
namespace Go.Proofs.YtlpibfafpljedaaGreatDoor
open Go.RowKit
set_option linter.unusedVariables false

theorem own_zero (w : World) : OwnInts (w.alloc (.cells #[] 3)) w.heap.size (.slice (some ⟨w.heap.size, 0, none⟩) 0 0) [] :=
  World.ownsRow_lit (base := w.heap.size) (e := 3) (size := 1) w #[] 0 (Nat.le_refl _) (by simp [maxLen]) rfl
end Go.Proofs.YtlpibfafpljedaaGreatDoor
