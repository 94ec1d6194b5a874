/- The walk of FnRanksPick. -/
import Derived.Test.YtbbhnnbpeiodnaaDoorRanksDraws2
import Derived.Test.YtbbhnnbpeiodnaaDoorRanksPlain3
import Derived.Test.YtbbhnnbpeiodnaaDoorRanksInts
namespace Go.Proofs.YtbbhnnbpeiodnaaDoor
open Go.RowKit
set_option linter.unusedVariables false

theorem lyOne {l : List Int} : ∀ W u u2, IntsAt W u l → IntsAt W u2 l → Calls Tryd.prog 20 #[u, u2] W fun e w' => e = .returned (.bool true) ∧ Below W.heap.size W w' := fun W u u2 hu hu2 => by
  have := drew_below (lyInts_any u u2 l l W hu hu2); simpa using this

end Go.Proofs.YtbbhnnbpeiodnaaDoor
