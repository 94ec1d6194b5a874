/- The draws of ways that houses like, and of ways that they have. -/
import Derived.Test.YtbbhnnbpeiodnaaDoorRanksDraws
namespace Go.Proofs.YtbbhnnbpeiodnaaDoor
open Go.RowKit
set_option linter.unusedVariables false
set_option maxRecDepth 100000

def WaysPost (k : Nat) (a : Option Addr) (len cap : Nat) (zs : List Int) (p : Nat) (w : World) (e : Ending) (w' : World) : Prop :=
  ∃ v u r ways p', e = .returned (.tuple #[v, u]) ∧ TableIn w' w.heap.size v r ∧ WaysOwn w' w.heap.size u ways ∧ RdAt w' k a len cap zs p' ∧ p' ≤ p + 200 ∧ (∃ l, ways = (playF r l).1) ∧ Only k w w'
theorem WaysOwn.lift {w : World} {lo lo' : Nat} {v : Value} {ws : List (List Int)} (h : WaysOwn w lo v ws) (hle : lo' ≤ lo) : WaysOwn w lo' v ws := by
  rcases h with h | ⟨g, vs, h1, h2, h3⟩
  · exact .inl h
  · exact .inr ⟨g, vs, h1, Nat.le_trans hle h2, ⟨h3.vl, h3.wl, h3.own, fun i hi => (h3.rows i hi).lift hle, h3.apart⟩⟩
def StillDraw (w : World) (e : Ending) (w' : World) : Prop :=
  ∃ v u r ways, e = .returned (.tuple #[v, u]) ∧ GridAt w' v r ∧ RowsAt w' u ways ∧ (∃ l, ways = (playF r l).1) ∧ Below w.heap.size w w'
def PickDraw (w : World) (e : Ending) (w' : World) : Prop :=
  ∃ v u r ways, ∃ h : Nat, e = .returned (.tuple #[v, u, .int .i64 ((h : Int) + 1)]) ∧ h ≤ 5 ∧ GridAt w' v r ∧ RowsAt w' u ways ∧ (∃ l, ways = (playF r l).1) ∧ Below w.heap.size w w'
end Go.Proofs.YtbbhnnbpeiodnaaDoor
