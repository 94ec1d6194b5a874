/- Ranges: isAddr, many, RangeOk of the program. -/
import Derived.Test.YtgpdkplpneklgaaNest
import Derived.Deep.RegionHeld3
import Derived.Deep.RegionWith
import Derived.Deep.QuietTactic
import Derived.BigQuiet
namespace Go.Proofs.Ytgpdkplpneklgaa
open Go.RowKit
set_option linter.unusedVariables false

def addrF (x : Int) : Bool := decide (0 ≤ x) && decide (x ≤ 255)
/-- how many addresses begin with so many bits that are given -/
def sizeF (b : Int) : Int := 2 ^ (8 - b).toNat
def rangeOkF (f b : Int) : Bool := decide (0 ≤ b) && decide (b ≤ 8) && addrF f && decide (f % sizeF b = 0)

theorem isAddr_any (x : Int) (w : World) : Calls Try.prog 55 #[.int .i64 x] w fun e w' => e = .returned (.bool (addrF x)) ∧ Drew w w' := by
  obtain ⟨c, hc⟩ : ∃ c, addrF x = c := ⟨_, rfl⟩
  rw [hc]
  unfold addrF at hc
  by_cases h1 : 0 ≤ x
  · by_cases h2 : x ≤ 255
    · have : c = true := by rw [← hc]; simp [h1, h2]
      subst this
      clear hc
      go_enter Try.func55, Try.ntmps55
      go_wp2_with fail
      go_ret
      exact ⟨rfl, Drew.refl _⟩
    · have : c = false := by rw [← hc]; simp [h2]
      subst this
      clear hc
      go_enter Try.func55, Try.ntmps55
      go_wp2_with fail
      go_ret
      exact ⟨rfl, Drew.refl _⟩
  · have : c = false := by rw [← hc]; simp [h1]
    subst this
    clear hc
    have h1' : ¬ 0 ≤ x := h1
    go_enter Try.func55, Try.ntmps55
    go_wp2_with fail
    go_ret
    exact ⟨rfl, Drew.refl _⟩

theorem many_any (f b : Int) (h0 : 0 ≤ b) (h8 : b ≤ 8) (w : World) : Calls Try.prog 66 #[.agg #[.int .i64 f, .int .i64 b]] w fun e w' => e = .returned (.int .i64 (sizeF b)) ∧ Below w.heap.size w w' := by
  have hb : b = 0 ∨ b = 1 ∨ b = 2 ∨ b = 3 ∨ b = 4 ∨ b = 5 ∨ b = 6 ∨ b = 7 ∨ b = 8 := by omega
  rcases hb with rfl | rfl | rfl | rfl | rfl | rfl | rfl | rfl | rfl
  all_goals
    go_enter Try.func66, Try.ntmps66
    go_wp2_with fail
    go_ret
    exact ⟨by first | rfl | decide, by repeat (first | exact Below.refl _ _ | assumption | refine Below.drew ?_ | refine belowDrewN ?_ _ | refine Below.alloc ?_ (by first | exact Nat.le_refl _ | omega | (simp; done) | (simp; omega)) _ | refine Below.setCell ?_ (by first | exact Nat.le_refl _ | omega | (simp; done) | (simp; omega)) _)⟩
theorem sizeF_pos (b : Int) : 0 < sizeF b := by unfold sizeF; exact Int.pow_pos (by omega)
theorem sizeF_le (b : Int) (h0 : 0 ≤ b) : sizeF b ≤ 256 := by
  unfold sizeF
  have h : (8 - b).toNat ≤ 8 := by omega
  obtain ⟨k, hk⟩ : ∃ k, (8 - b).toNat = k := ⟨_, rfl⟩
  rw [hk] at h ⊢
  match k, h with
  | 0, _ => decide
  | 1, _ => decide
  | 2, _ => decide
  | 3, _ => decide
  | 4, _ => decide
  | 5, _ => decide
  | 6, _ => decide
  | 7, _ => decide
  | 8, _ => decide
set_option maxHeartbeats 2000000 in
theorem rangeOk_any (f b : Int) (w : World) : Calls Try.prog 39 #[.agg #[.int .i64 f, .int .i64 b]] w fun e w' => e = .returned (.bool (rangeOkF f b)) ∧ Below w.heap.size w w' := by
  obtain ⟨c, hc⟩ : ∃ c, rangeOkF f b = c := ⟨_, rfl⟩
  rw [hc]
  obtain ⟨d, hd⟩ : ∃ d, addrF f = d := ⟨_, rfl⟩
  have had : ∀ W, Calls Try.prog 55 #[.int .i64 f] W fun e w' => e = .returned (.bool d) ∧ Drew W w' := fun W => by rw [← hd]; exact isAddr_any f W
  unfold rangeOkF at hc
  rw [hd] at hc
  have HAD := Lib.hid had
  have HD := Lib.hid hd
  clear had hd
  by_cases h0 : 0 ≤ b
  · by_cases h8 : b ≤ 8
    · cases d
      · have : c = false := by rw [← hc]; simp
        subst this
        clear hc
        go_enter Try.func39, Try.ntmps39
        go_wp2_with fail
        go_quiet ((go_at_call 55; (first | refine quietA (HAD.out _) | refine quietB (HAD.out _))))
        go_wp2_with fail
        go_ret
        exact ⟨rfl, by repeat (first | exact Below.refl _ _ | assumption | refine Below.drew ?_ | refine belowDrewN ?_ _ | refine Below.alloc ?_ (by first | exact Nat.le_refl _ | omega | (simp; done) | (simp; omega)) _ | refine Below.setCell ?_ (by first | exact Nat.le_refl _ | omega | (simp; done) | (simp; omega)) _)⟩
      · have hm := fun W => many_any f b h0 h8 W
        have hp := sizeF_pos b
        have hl := sizeF_le b h0
        obtain ⟨S, hS⟩ : ∃ S, sizeF b = S := ⟨_, rfl⟩
        rw [hS] at hm hp hl hc
        have ha : 0 ≤ f ∧ f ≤ 255 := by have := HD.out; unfold addrF at this; simp at this; exact this
        have hc2 : c = (f % S == 0) := by rw [← hc]; simp [h0, h8]; rfl
        have HM := Lib.hid hm
        have HC := Lib.hid hc2
        have hne : S ≠ 0 := by omega
        have htm : f.tmod S = f % S := Int.tmod_eq_emod_of_nonneg ha.1
        obtain ⟨a1, a2⟩ := ha
        clear hc hm hS hc2
        go_enter Try.func39, Try.ntmps39
        go_wp2_with fail
        go_region_held3 (fun w' => w'.cell? ⟨w.heap.size, 0, none⟩ = some (.int .i64 f) ∧ w'.cell? ⟨w.heap.size, 1, none⟩ = some (.int .i64 b)) ((simp [go_sem, *])) (first | (go_at_call 55; refine (HAD.out _).mono ?_; rintro e w1 ⟨rfl, q, rfl⟩) | (go_at_call 66; refine (HM.out _).mono ?_; rintro e w2 ⟨rfl, hb2⟩; have hc2 := (hb2.cell (p := ⟨w.heap.size, 0, none⟩) (by simp)); have hc3 := (hb2.cell (p := ⟨w.heap.size, 1, none⟩) (by simp)); have hB : Below w.heap.size w w2 := (by refine Below.trans ?_ (hb2.mono (by first | exact Nat.le_refl _ | omega | (simp; done) | (simp; omega))); repeat (first | exact Below.refl _ _ | assumption | refine Below.drew ?_ | refine belowDrewN ?_ _ | refine Below.alloc ?_ (by first | exact Nat.le_refl _ | omega | (simp; done) | (simp; omega)) _ | refine Below.setCell ?_ (by first | exact Nat.le_refl _ | omega | (simp; done) | (simp; omega)) _)); clear hb2))
        all_goals
          go_wp2_with fail
          go_ret
          exact ⟨by rw [HC.out]; rfl, hB⟩
    · have : c = false := by rw [← hc]; simp [h8]
      subst this
      clear hc
      have h8' : decide (b ≤ 8) = false := decide_eq_false h8
      go_enter Try.func39, Try.ntmps39
      go_wp2_with fail
      go_quiet (fail)
      go_wp2_with fail
      go_ret
      exact ⟨rfl, by repeat (first | exact Below.refl _ _ | assumption | refine Below.drew ?_ | refine belowDrewN ?_ _ | refine Below.alloc ?_ (by first | exact Nat.le_refl _ | omega | (simp; done) | (simp; omega)) _ | refine Below.setCell ?_ (by first | exact Nat.le_refl _ | omega | (simp; done) | (simp; omega)) _)⟩
  · have : c = false := by rw [← hc]; simp [h0]
    subst this
    clear hc
    have h0' : decide (0 ≤ b) = false := decide_eq_false h0
    go_enter Try.func39, Try.ntmps39
    go_wp2_with fail
    go_quiet (fail)
    go_wp2_with fail
    go_ret
    exact ⟨rfl, by repeat (first | exact Below.refl _ _ | assumption | refine Below.drew ?_ | refine belowDrewN ?_ _ | refine Below.alloc ?_ (by first | exact Nat.le_refl _ | omega | (simp; done) | (simp; omega)) _ | refine Below.setCell ?_ (by first | exact Nat.le_refl _ | omega | (simp; done) | (simp; omega)) _)⟩
end Go.Proofs.Ytgpdkplpneklgaa
