/- Plain facts of plays: two and three flaps at once, flaps far from each other, one more flap. -/
import Derived.Test.YtbjonkjigfnnnaaDampDraws
namespace Go.Proofs.Ytbjonkjigfnnnaa
set_option linter.unusedVariables false

set_option maxRecDepth 100000 in
theorem quick_two : ∀ n : Nat, n < 90 → playD [(n : Int), n] = ((200, 8 * ((n / 8 : Nat) : Int), false), true) := by decide +kernel
set_option maxRecDepth 100000 in
theorem quick_three : ∀ n : Nat, n < 90 → playD [(n : Int), n, n] = ((300, 8 * ((n / 8 : Nat) : Int), true), true) := by decide +kernel

/-- times far from each other -/
def far (s k : Nat) : List Int := (List.range k).map fun i => ((s + 16 * i : Nat) : Int)
theorem far_length (s k : Nat) : (far s k).length = k := by simp [far]
theorem far_succ (s k : Nat) : far s (k + 1) = far s k ++ [((s + 16 * k : Nat) : Int)] := by simp [far, List.range_succ]
set_option maxRecDepth 100000 in
theorem far_steady : ∀ s : Nat, s < 9 → ∀ k : Nat, k < 8 → s + 16 * k ≤ 115 → (playD (far s k)).2 = true ∧ (playD (far s k)).1.2.2 = false ∧ (playD (far s k)).1.1 < 200 := by decide +kernel
end Go.Proofs.Ytbjonkjigfnnnaa
