/- Plain facts on pains, with no program in sight: how often a pain is halved till it is let go; what a pain is behind some whiles. -/
import Derived.Test.YtbjonkjigfnnnaaDampA
namespace Go.Proofs.Ytbjonkjigfnnnaa
set_option linter.unusedVariables false

/-- how many halves till a pain is less than 80 -/
def hv (q : Nat) : Nat := if q < 80 then 0 else 1 + hv (q / 2)
termination_by q
decreasing_by omega

theorem hv_lt {q : Nat} (h : q < 80) : hv q = 0 := by rw [hv]; simp [h]
theorem hv_ge {q : Nat} (h : 80 ≤ q) : hv q = 1 + hv (q / 2) := by rw [hv, if_neg (by omega)]

theorem hv_le (n : Nat) : ∀ q, q < 80 * 2 ^ n → hv q ≤ n := by
  induction n with
  | zero => intro q h; rw [hv_lt (by omega)]; omega
  | succ n ih =>
    intro q h
    by_cases hq : q < 80
    · rw [hv_lt hq]; omega
    · rw [hv_ge (by omega)]
      have := ih (q / 2) (by rw [Nat.pow_succ] at h; omega)
      omega
theorem hv_seven {q : Nat} (h : q ≤ 9999) : hv q ≤ 7 := hv_le 7 q (by omega)
theorem hv_pos {q : Nat} (h : 80 ≤ q) : 1 ≤ hv q := by rw [hv_ge h]; omega
theorem hv_mono : ∀ p q : Nat, p ≤ q → hv p ≤ hv q := by
  intro p
  induction p using Nat.strongRecOn with
  | _ p ih =>
    intro q h
    by_cases hp : p < 80
    · rw [hv_lt hp]; omega
    · rw [hv_ge (by omega), hv_ge (q := q) (by omega)]
      have := ih (p / 2) (by omega) (q / 2) (by omega)
      omega

/-- when a pain is let go -/
def freeOf (p t : Int) (o : Bool) : Int := if okB p t o then (if o then t + 8 * (hv p.toNat : Int) else t) else -1

theorem okB_in {p t : Int} {o : Bool} (h : okB p t o = true) : 0 ≤ p ∧ p ≤ 9999 ∧ 0 ≤ t ∧ t ≤ 99 ∧ (o = true → 80 ≤ p) ∧ (o = false → p < 250) := by
  unfold okB at h
  cases o <;> simp at h <;> simp <;> omega
theorem freeOf_bad {p t : Int} {o : Bool} (h : okB p t o = false) : freeOf p t o = -1 := by simp [freeOf, h]
theorem freeOf_off {p t : Int} (h : okB p t false = true) : freeOf p t false = t := by simp [freeOf, h]
theorem freeOf_on {p t : Int} (h : okB p t true = true) : freeOf p t true = t + 8 * (hv p.toNat : Int) := by simp [freeOf, h]
end Go.Proofs.Ytbjonkjigfnnnaa
