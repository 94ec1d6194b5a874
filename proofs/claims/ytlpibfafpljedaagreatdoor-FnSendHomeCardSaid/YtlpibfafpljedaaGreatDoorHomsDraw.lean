/- spec.DrawHomesOk. -/
import Derived.Test.YtlpibfafpljedaaGreatDoorDrawHoms
import Derived.Test.YtlpibfafpljedaaGreatDoorHomsForm
namespace Go.Proofs.YtlpibfafpljedaaGreatDoor
open Go.RowKit
set_option linter.unusedVariables false

def HomsDrawn (w : World) (e : Ending) (w' : World) : Prop :=
  ∃ (v hv : Value) (rs : List (List Int)) (l : List Ent) (n : Nat), e = .returned (.tuple #[v, hv]) ∧ RowsAt w' v rs ∧ rs.length = n ∧ 2 ≤ n ∧ n ≤ 5 ∧ EntsAt w' hv l ∧ l.length ≤ 6 ∧ Below w.heap.size w w'
theorem RS.rows {k : Nat} {a : Option Addr} {len' cap : Nat} {zs : List Int} {w W : World} {q n : Nat} {v : Value} (h : RS k a len' cap zs w W q v n n) : ∃ rs, rs.length = n ∧ RowsAt W v rs := by
  obtain ⟨rs, h1, h2, _⟩ := h.mat.rows
  exact ⟨rs, h1, h2⟩
end Go.Proofs.YtlpibfafpljedaaGreatDoor
