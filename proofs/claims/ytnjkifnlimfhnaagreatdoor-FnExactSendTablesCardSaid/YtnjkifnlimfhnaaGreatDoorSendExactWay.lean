/- The walk of FnExactSendWay. -/
import Derived.Test.YtnjkifnlimfhnaaGreatDoorWayS
import Derived.Test.YtnjkifnlimfhnaaGreatDoorSendExactNext
namespace Go.Proofs.YtnjkifnlimfhnaaGreatDoor
open Go.RowKit
set_option linter.unusedVariables false

theorem eqIs {W : World} {u u2 : Value} {B B2 : Nat} {l : List Int} (h : OwnInts W B u l) (h2 : OwnInts W B2 u2 l) : Calls Tryz.prog 56 #[u, u2] W fun e w' => e = .returned (.bool true) ∧ Below W.heap.size W w' :=
  (eqIntS_any u u2 l l W h.ints h2.ints).mono fun e w' ⟨h1, h2⟩ => ⟨by rw [h1]; simp, h2.below _⟩
theorem wayF_len (ls : List (List Ent)) (h x : Int) : (wayF ls h x).1.length ≤ 6 := by
  unfold wayF
  split
  · rename_i hc
    have h5 := (tablesOk_at hc.1).2.1
    have := goW_len (nextF ls x) ls.length ls.length h [h]
    simp at this
    omega
  · simp
end Go.Proofs.YtnjkifnlimfhnaaGreatDoor
