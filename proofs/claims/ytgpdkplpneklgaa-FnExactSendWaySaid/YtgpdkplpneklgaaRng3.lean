/- Ranges: the reference's RangeOk, l1Cmp, l1Has. -/
import Derived.Test.YtgpdkplpneklgaaRng2
namespace Go.Proofs.Ytgpdkplpneklgaa
open Go.RowKit
set_option linter.unusedVariables false

theorem emod_beq (f S : Int) : (f % S == 0) = decide (f % S = 0) := rfl
set_option maxHeartbeats 2000000 in
theorem specRangeOk_any (f b : Int) (w : World) : Calls Try.prog 42 #[.agg #[.int .i64 f, .int .i64 b]] w fun e w' => e = .returned (.bool (rangeOkF f b)) ∧ Below w.heap.size w w' := by
  obtain ⟨c, hc⟩ : ∃ c, rangeOkF f b = c := ⟨_, rfl⟩
  rw [hc]
  obtain ⟨d1, hd1⟩ : ∃ d, (decide (0 ≤ b) && decide (b ≤ 8)) = d := ⟨_, rfl⟩
  obtain ⟨d2, hd2⟩ : ∃ d, (decide (0 ≤ f) && decide (f ≤ 255)) = d := ⟨_, rfl⟩
  have hi1 : ∀ W, Calls Try.prog 43 #[.int .i64 b, .int .i64 0, .int .i64 8] W fun e w' => e = .returned (.bool d1) ∧ Drew W w' := fun W => by
    rw [← hd1]; exact (in_any b 0 8 W).mono fun e w' ⟨h1, h2⟩ => ⟨h1, by rw [h2]; exact Drew.refl _⟩
  have hi2 : ∀ W, Calls Try.prog 43 #[.int .i64 f, .int .i64 0, .int .i64 255] W fun e w' => e = .returned (.bool d2) ∧ Drew W w' := fun W => by
    rw [← hd2]; exact (in_any f 0 255 W).mono fun e w' ⟨h1, h2⟩ => ⟨h1, by rw [h2]; exact Drew.refl _⟩
  unfold rangeOkF addrF at hc
  rw [hd1, hd2] at hc
  have HI1 := Lib.hid hi1
  have HI2 := Lib.hid hi2
  clear hi1 hi2
  cases d1
  · have : c = false := by rw [← hc]; simp
    subst this
    clear hc hd1 hd2
    go_enter Try.func42, Try.ntmps42
    go_wp2_with fail
    go_quiet ((go_at_call_of 43 (Value.int IntKind.i64 b); (first | refine quietA (HI1.out _) | refine quietB (HI1.out _))))
    go_wp2_with fail
    go_ret
    exact ⟨rfl, by repeat (first | exact Below.refl _ _ | assumption | refine Below.drew ?_ | refine belowDrewN ?_ _ | refine Below.alloc ?_ (by first | exact Nat.le_refl _ | omega | (simp; done) | (simp; omega)) _ | refine Below.setCell ?_ (by first | exact Nat.le_refl _ | omega | (simp; done) | (simp; omega)) _)⟩
  · cases d2
    · have : c = false := by rw [← hc]; simp
      subst this
      clear hc hd1 hd2
      go_enter Try.func42, Try.ntmps42
      go_wp2_with fail
      go_quiet ((first | (go_at_call_of 43 (Value.int IntKind.i64 b); (first | refine quietA (HI1.out _) | refine quietB (HI1.out _))) | (go_at_call_of 43 (Value.int IntKind.i64 f); (first | refine quietA (HI2.out _) | refine quietB (HI2.out _)))))
      go_wp2_with fail
      go_ret
      exact ⟨rfl, by repeat (first | exact Below.refl _ _ | assumption | refine Below.drew ?_ | refine belowDrewN ?_ _ | refine Below.alloc ?_ (by first | exact Nat.le_refl _ | omega | (simp; done) | (simp; omega)) _ | refine Below.setCell ?_ (by first | exact Nat.le_refl _ | omega | (simp; done) | (simp; omega)) _)⟩
    · have hb : 0 ≤ b ∧ b ≤ 8 := by simp at hd1; exact hd1
      have ha : 0 ≤ f ∧ f ≤ 255 := by simp at hd2; exact hd2
      have hp := sizeF_pos b
      have hl := sizeF_le b hb.1
      have hsz : ∀ W, Calls Try.prog 64 #[.int .i64 b] W fun e w' => e = .returned (.int .i64 (sizeF b)) ∧ Drew W w' := fun W => (l1Size_any b hb.1 hb.2 W).mono fun e w' ⟨h1, h2⟩ => ⟨h1, by rw [h2]; exact Drew.refl _⟩
      obtain ⟨S, hS⟩ : ∃ S, sizeF b = S := ⟨_, rfl⟩
      rw [hS] at hsz hp hl hc
      have hc2 : c = (f % S == 0) := by rw [← hc]; simp; rfl
      have HS := Lib.hid hsz
      have HC := Lib.hid hc2
      have hne : S ≠ 0 := by omega
      have htm : f.tmod S = f % S := Int.tmod_eq_emod_of_nonneg ha.1
      obtain ⟨a1, a2⟩ := ha
      clear hc hd1 hd2 hsz hS hc2 hb
      go_enter Try.func42, Try.ntmps42
      go_wp2_with fail
      go_quiet ((first | (go_at_call_of 43 (Value.int IntKind.i64 b); (first | refine quietA (HI1.out _) | refine quietB (HI1.out _))) | (go_at_call_of 43 (Value.int IntKind.i64 f); (first | refine quietA (HI2.out _) | refine quietB (HI2.out _))) | (go_at_call 64; (first | refine quietA (HS.out _) | refine quietB (HS.out _)))))
      go_wp2_with fail
      go_ret
      exact ⟨by rw [HC.out]; rfl, by repeat (first | exact Below.refl _ _ | assumption | refine Below.drew ?_ | refine belowDrewN ?_ _ | refine Below.alloc ?_ (by first | exact Nat.le_refl _ | omega | (simp; done) | (simp; omega)) _ | refine Below.setCell ?_ (by first | exact Nat.le_refl _ | omega | (simp; done) | (simp; omega)) _)⟩

theorem l1Cmp_any (f b f2 b2 : Int) (w : World) :
    Calls Try.prog 44 #[.agg #[.int .i64 f, .int .i64 b], .agg #[.int .i64 f2, .int .i64 b2]] w fun e w' => e = .returned (.int .i64 (rcmpF f b f2 b2)) ∧ Below w.heap.size w w' := by
  obtain ⟨c, hc⟩ : ∃ c, rcmpF f b f2 b2 = c := ⟨_, rfl⟩
  rw [hc]
  unfold rcmpF cmpI at hc
  by_cases h1 : f < f2
  · have : c = -1 := by rw [← hc]; simp [h1]
    subst this
    clear hc
    go_enter Try.func44, Try.ntmps44
    go_wp2_with fail
    go_ret
    exact ⟨rfl, by repeat (first | exact Below.refl _ _ | assumption | refine Below.drew ?_ | refine belowDrewN ?_ _ | refine Below.alloc ?_ (by first | exact Nat.le_refl _ | omega | (simp; done) | (simp; omega)) _ | refine Below.setCell ?_ (by first | exact Nat.le_refl _ | omega | (simp; done) | (simp; omega)) _)⟩
  · by_cases h2 : f2 < f
    · have : c = 1 := by rw [← hc]; simp [h1, h2]
      subst this
      clear hc
      go_enter Try.func44, Try.ntmps44
      go_wp2_with fail
      go_ret
      exact ⟨rfl, by repeat (first | exact Below.refl _ _ | assumption | refine Below.drew ?_ | refine belowDrewN ?_ _ | refine Below.alloc ?_ (by first | exact Nat.le_refl _ | omega | (simp; done) | (simp; omega)) _ | refine Below.setCell ?_ (by first | exact Nat.le_refl _ | omega | (simp; done) | (simp; omega)) _)⟩
    · by_cases h3 : b < b2
      · have : c = -1 := by rw [← hc]; simp [h1, h2, h3]
        subst this
        clear hc
        go_enter Try.func44, Try.ntmps44
        go_wp2_with fail
        go_ret
        exact ⟨rfl, by repeat (first | exact Below.refl _ _ | assumption | refine Below.drew ?_ | refine belowDrewN ?_ _ | refine Below.alloc ?_ (by first | exact Nat.le_refl _ | omega | (simp; done) | (simp; omega)) _ | refine Below.setCell ?_ (by first | exact Nat.le_refl _ | omega | (simp; done) | (simp; omega)) _)⟩
      · by_cases h4 : b2 < b
        · have : c = 1 := by rw [← hc]; simp [h1, h2, h3, h4]
          subst this
          clear hc
          go_enter Try.func44, Try.ntmps44
          go_wp2_with fail
          go_ret
          exact ⟨rfl, by repeat (first | exact Below.refl _ _ | assumption | refine Below.drew ?_ | refine belowDrewN ?_ _ | refine Below.alloc ?_ (by first | exact Nat.le_refl _ | omega | (simp; done) | (simp; omega)) _ | refine Below.setCell ?_ (by first | exact Nat.le_refl _ | omega | (simp; done) | (simp; omega)) _)⟩
        · have : c = 0 := by rw [← hc]; simp [h1, h2, h3, h4]
          subst this
          clear hc
          go_enter Try.func44, Try.ntmps44
          go_wp2_with fail
          go_ret
          exact ⟨rfl, by repeat (first | exact Below.refl _ _ | assumption | refine Below.drew ?_ | refine belowDrewN ?_ _ | refine Below.alloc ?_ (by first | exact Nat.le_refl _ | omega | (simp; done) | (simp; omega)) _ | refine Below.setCell ?_ (by first | exact Nat.le_refl _ | omega | (simp; done) | (simp; omega)) _)⟩

/-- whether an address is in a range -/
def hasF (f b x : Int) : Bool := decide (x / sizeF b = f / sizeF b)
set_option maxHeartbeats 2000000 in
theorem l1Has_any (f b x : Int) (h0 : 0 ≤ b) (h8 : b ≤ 8) (hf : 0 ≤ f) (hf2 : f ≤ 255) (hx : 0 ≤ x) (hx2 : x ≤ 255) (w : World) :
    Calls Try.prog 73 #[.agg #[.int .i64 f, .int .i64 b], .int .i64 x] w fun e w' => e = .returned (.bool (hasF f b x)) ∧ Below w.heap.size w w' := by
  have hp := sizeF_pos b
  have hl := sizeF_le b h0
  have hsz : ∀ W, Calls Try.prog 64 #[.int .i64 b] W fun e w' => e = .returned (.int .i64 (sizeF b)) ∧ Drew W w' := fun W => (l1Size_any b h0 h8 W).mono fun e w' ⟨h1, h2⟩ => ⟨h1, by rw [h2]; exact Drew.refl _⟩
  obtain ⟨c, hc⟩ : ∃ c, hasF f b x = c := ⟨_, rfl⟩
  rw [hc]
  unfold hasF at hc
  obtain ⟨S, hS⟩ : ∃ S, sizeF b = S := ⟨_, rfl⟩
  rw [hS] at hsz hp hl hc
  have HS := Lib.hid hsz
  have hc2 : c = (x / S == f / S) := by rw [← hc]; rfl
  have HC := Lib.hid hc2
  have hne : S ≠ 0 := by omega
  have ht1 : x.tdiv S = x / S := Int.tdiv_eq_ediv_of_nonneg hx
  have ht2 : f.tdiv S = f / S := Int.tdiv_eq_ediv_of_nonneg hf
  have hb1 : 0 ≤ x / S ∧ x / S ≤ 255 := ⟨Int.ediv_nonneg hx (by omega), by have := Int.ediv_le_self S hx; omega⟩
  have hb2 : 0 ≤ f / S ∧ f / S ≤ 255 := ⟨Int.ediv_nonneg hf (by omega), by have := Int.ediv_le_self S hf; omega⟩
  obtain ⟨xq, hxq⟩ : ∃ q, x / S = q := ⟨_, rfl⟩
  obtain ⟨fq, hfq⟩ : ∃ q, f / S = q := ⟨_, rfl⟩
  rw [hxq] at ht1 hb1
  rw [hfq] at ht2 hb2
  have HXQ := Lib.hid hxq
  have HFQ := Lib.hid hfq
  have w1 : IntKind.i64.wrap xq = xq := IntWalk.i64_in _ (by omega)
  have w2 : IntKind.i64.wrap fq = fq := IntWalk.i64_in _ (by omega)
  clear hc hS hsz hc2 hxq hfq h0 h8
  go_enter Try.func73, Try.ntmps73
  go_wp2_with fail
  go_quiet ((go_at_call 64; (first | refine quietA (HS.out _) | refine quietB (HS.out _))))
  go_wp2_with fail
  go_ret
  exact ⟨by rw [HC.out, HXQ.out, HFQ.out]; rfl, by repeat (first | exact Below.refl _ _ | assumption | refine Below.drew ?_ | refine belowDrewN ?_ _ | refine Below.alloc ?_ (by first | exact Nat.le_refl _ | omega | (simp; done) | (simp; omega)) _ | refine Below.setCell ?_ (by first | exact Nat.le_refl _ | omega | (simp; done) | (simp; omega)) _)⟩
end Go.Proofs.Ytgpdkplpneklgaa
