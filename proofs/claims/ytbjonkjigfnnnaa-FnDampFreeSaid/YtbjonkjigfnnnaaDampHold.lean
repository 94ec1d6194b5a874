/- The plain law of FnDampFree: what is held back is held back till it is let go. -/
import Derived.Test.YtbjonkjigfnnnaaDampDraws
import Derived.Test.YtbjonkjigfnnnaaDampBound
import Derived.Test.YtbjonkjigfnnnaaDampNow
namespace Go.Proofs.Ytbjonkjigfnnnaa
set_option linter.unusedVariables false

theorem half_pow (q k : Nat) : q / 2 ^ (k + 1) = q / 2 / 2 ^ k := by rw [Nat.pow_succ, Nat.mul_comm, Nat.div_div_eq_div_mul]
theorem hv_half : ∀ (k q : Nat), decide (80 ≤ q / 2 ^ k) = decide (k < hv q) := by
  intro k
  induction k with
  | zero =>
    intro q
    rw [Nat.pow_zero, Nat.div_one]
    by_cases h : 80 ≤ q
    · have := hv_pos h; simp [h]; omega
    · rw [hv_lt (by omega)]; simp; omega
  | succ k ih =>
    intro q
    by_cases h : 80 ≤ q
    · rw [half_pow, ih, hv_ge h]; rw [decide_eq_decide]; omega
    · rw [hv_lt (by omega)]
      have : q / 2 ^ (k + 1) ≤ q := Nat.div_le_self _ _
      generalize q / 2 ^ (k + 1) = x at *
      simp; omega
theorem hold_till {p t : Int} {o : Bool} {now : Int} (h : okB p t o = true) (h1 : t ≤ now) (h2 : now ≤ 99) : okNow p t o now = true ∧ nowO p t o now = (o && decide (now < freeOf p t o)) := by
  have hn : okNow p t o now = true := by simp [okNow, h, h1, h2]
  refine ⟨hn, ?_⟩
  cases o
  · rw [nowO_yes hn]; simp
  · rw [nowO_yes hn, hv_half, freeOf_on h]
    obtain ⟨a, b⟩ := whiles_in h1
    generalize whiles t now = k at *
    generalize hv p.toNat = m at *
    simp only [Bool.true_and, decide_eq_decide]
    omega
end Go.Proofs.Ytbjonkjigfnnnaa
