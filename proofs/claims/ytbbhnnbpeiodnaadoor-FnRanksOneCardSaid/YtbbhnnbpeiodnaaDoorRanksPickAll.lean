/- RanksPick, RanksStill of the program and of the reference. -/
import Derived.Test.YtbbhnnbpeiodnaaDoorRanksStill
import Derived.Test.YtbbhnnbpeiodnaaDoorRanksWays
import Derived.Test.YtbbhnnbpeiodnaaDoorRanksState
import Derived.Test.YtbbhnnbpeiodnaaDoorRanksImplOk2
import Derived.Test.YtbbhnnbpeiodnaaDoorRanksSpecOk
import Derived.Test.YtbbhnnbpeiodnaaDoorRanksPlain2
namespace Go.Proofs.YtbbhnnbpeiodnaaDoor
open Go.RowKit
set_option linter.unusedVariables false

theorem OwnInts.mono {w : World} {B B' : Nat} {v : Value} {l : List Int} (h : OwnInts w B v l) (hb : B' ≤ B) : OwnInts w B' v l := by
  refine ⟨h.1, ?_⟩
  rcases h.2 with h | ⟨g, cap, cur, h1, h2, h3⟩
  · exact .inl h
  · exact .inr ⟨g, cap, cur, h1, Nat.le_trans hb h2, h3⟩
theorem drew_below {P : Program} {f : FuncId} {args : Array Value} {w : World} {v : Value} (h : Calls P f args w fun e w' => e = .returned v ∧ Drew w w') : Calls P f args w fun e w' => e = .returned v ∧ Below w.heap.size w w' :=
  h.mono fun _ _ ⟨he, hd⟩ => ⟨he, hd.below _⟩

end Go.Proofs.YtbbhnnbpeiodnaaDoor
