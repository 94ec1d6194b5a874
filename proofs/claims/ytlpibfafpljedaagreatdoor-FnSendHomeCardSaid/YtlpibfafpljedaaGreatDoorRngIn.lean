/- impl's Range.covers, RangeHas, RangeIn, RangeMany at valid ranges. -/
import Derived.Test.YtlpibfafpljedaaGreatDoorTab
import Derived.Deep.RegionHeld3
namespace Go.Proofs.YtlpibfafpljedaaGreatDoor
open Go.RowKit
set_option linter.unusedVariables false
set_option maxRecDepth 100000

theorem rangeOk_parts {f b : Int} (h : rangeOkF f b = true) : 0 ≤ b ∧ b ≤ 8 ∧ 0 ≤ f ∧ f ≤ 255 ∧ f % sizeF b = 0 := by
  unfold rangeOkF addrF at h
  simp only [Bool.and_eq_true, decide_eq_true_eq] at h
  exact ⟨h.1.1.1, h.1.1.2, h.1.2.1, h.1.2.2, h.2⟩
theorem has_iff {f b x : Int} (h : rangeOkF f b = true) : hasF f b x = true ↔ f ≤ x ∧ x < f + sizeF b := by
  obtain ⟨_, _, _, _, hm⟩ := rangeOk_parts h
  have hp := sizeF_pos b
  unfold hasF
  rw [decide_eq_true_eq]
  obtain ⟨S, hS⟩ : ∃ S, sizeF b = S := ⟨_, rfl⟩
  rw [hS] at hm hp ⊢
  have hf : f = S * (f / S) := by have := Int.mul_ediv_add_emod f S; omega
  obtain ⟨q, hq⟩ : ∃ q, f / S = q := ⟨_, rfl⟩
  rw [hq] at hf ⊢
  have hx := Int.mul_ediv_add_emod x S
  have hx0 := Int.emod_nonneg x (show S ≠ 0 by omega)
  have hx1 := Int.emod_lt_of_pos x hp
  constructor
  · intro e
    rw [e] at hx
    omega
  · rintro ⟨h1, h2⟩
    have e1 : q ≤ x / S := (Int.le_ediv_iff_mul_le hp).2 (by rw [Int.mul_comm]; omega)
    have e2 : x / S < q + 1 := (Int.ediv_lt_iff_lt_mul hp).2 (by rw [Int.add_mul, Int.mul_comm q S]; omega)
    omega
set_option maxHeartbeats 4000000 in
theorem covers_any (f b x : Int) (hr : rangeOkF f b = true) (hx0 : 0 ≤ x) (hx1 : x ≤ 255) (w : World) :
    Calls Tryz.prog 27 #[.agg #[.int .i64 f, .int .i64 b], .int .i64 x] w fun e w' => e = .returned (.bool (hasF f b x)) ∧ Below w.heap.size w w' := by
  have hiff := has_iff (x := x) hr
  obtain ⟨h0, h8, hf0, hf1, _⟩ := rangeOk_parts hr
  have hp := sizeF_pos b
  have hl := sizeF_le b h0
  have hmy := fun W => many_any f b h0 h8 W
  obtain ⟨c, hc⟩ : ∃ c, hasF f b x = c := ⟨_, rfl⟩
  rw [hc] at hiff ⊢
  obtain ⟨S, hS⟩ : ∃ S, sizeF b = S := ⟨_, rfl⟩
  rw [hS] at hiff hp hl hmy
  have HMY := Lib.hid hmy
  have HIF := Lib.hid hiff
  have hwS : IntKind.i64.wrap (f + S) = f + S := IntWalk.i64_in _ (by omega)
  clear hmy hiff hr hc hS
  by_cases h1 : f ≤ x
  · have hd : decide (f ≤ x) = true := decide_eq_true h1
    have hc2 : c = decide (x < f + S) := by
      cases c
      · symm; rw [decide_eq_false_iff_not]; intro h; have := HIF.out.2 ⟨h1, h⟩; cases this
      · symm; rw [decide_eq_true_eq]; exact (HIF.out.1 rfl).2
    have HC2 := Lib.hid hc2
    clear hc2
    go_enter Tryz.func27, Tryz.ntmps27
    go_wp2_with fail
    refine wp_region_noPanic ?_
    refine wp_region_held_drew (S := (fun W => W.cell? ⟨w.heap.size, 0, none⟩ = some (.int .i64 f) ∧ W.cell? ⟨w.heap.size, 1, none⟩ = some (.int .i64 b))) (by kernel_rfl) (by simp) (fun hHeld => ?_)
    refine wpAnyH_take (i := 0) (v := _) (by (simp only [List.getElem?_toArray, List.getElem?_cons_zero]) <;> rfl) (by kernel_rfl) (by kernel_rfl) (by kernel_rfl) (fun _ _ _ h => h) (Or.inl ⟨by rfl, fun w hSw => by ((try dsimp only at hSw); go_simp) <;> with_reducible rfl⟩) (by assumption) ?_
    (try simp only [Act.put, List.setIfInBounds_toArray, List.set_cons_zero, List.set_cons_succ])
    refine wpAnyH_take (i := 1) (v := _) (by (simp only [List.getElem?_toArray, List.getElem?_cons_succ, List.getElem?_cons_zero]) <;> rfl) (by kernel_rfl) (by kernel_rfl) (by kernel_rfl) (fun _ _ _ h => h) (Or.inl ⟨by rfl, fun w hSw => by ((try dsimp only at hSw); go_simp) <;> with_reducible rfl⟩) (by assumption) ?_
    (try simp only [Act.put, List.setIfInBounds_toArray, List.set_cons_zero, List.set_cons_succ])
    refine wpAnyH_take (i := 2) (v := _) (by (simp only [List.getElem?_toArray, List.getElem?_cons_succ, List.getElem?_cons_zero]) <;> rfl) (by kernel_rfl) (by kernel_rfl) (by kernel_rfl) (fun _ _ _ h => h) (Or.inl ⟨by rfl, fun w hSw => by ((try dsimp only at hSw); go_simp) <;> with_reducible rfl⟩) (by assumption) ?_
    (try simp only [Act.put, List.setIfInBounds_toArray, List.set_cons_zero, List.set_cons_succ])
    refine wpAnyH_take (i := 3) (v := _) (by (simp only [List.getElem?_toArray, List.getElem?_cons_succ, List.getElem?_cons_zero]) <;> rfl) (by kernel_rfl) (by kernel_rfl) (by kernel_rfl) (fun _ _ _ h => h) (Or.inl ⟨by rfl, fun w hSw => by ((try dsimp only at hSw); go_simp) <;> with_reducible rfl⟩) (by assumption) ?_
    (try simp only [Act.put, List.setIfInBounds_toArray, List.set_cons_zero, List.set_cons_succ])
    refine wpAnyH_take (i := 4) (v := _) (by (simp only [List.getElem?_toArray, List.getElem?_cons_succ, List.getElem?_cons_zero]) <;> rfl) (by kernel_rfl) (by kernel_rfl) (by kernel_rfl) (fun _ _ _ h => h) (Or.inl ⟨by rfl, fun w hSw => by ((try dsimp only at hSw); go_simp) <;> with_reducible rfl⟩) (by assumption) ?_
    (try simp only [Act.put, List.setIfInBounds_toArray, List.set_cons_zero, List.set_cons_succ])
    refine wpAnyH_take (i := 5) (v := _) (by (simp only [List.getElem?_toArray, List.getElem?_cons_succ, List.getElem?_cons_zero]) <;> rfl) (by kernel_rfl) (by kernel_rfl) (by kernel_rfl) (fun _ _ _ h => h) (Or.inl ⟨by rfl, fun w hSw => by ((try dsimp only at hSw); go_simp) <;> with_reducible rfl⟩) (by assumption) ?_
    (try simp only [Act.put, List.setIfInBounds_toArray, List.set_cons_zero, List.set_cons_succ])
    refine wpAnyH_take (i := 6) (v := _) (by (simp only [List.getElem?_toArray, List.getElem?_cons_succ, List.getElem?_cons_zero]) <;> rfl) (by kernel_rfl) (by kernel_rfl) (by kernel_rfl) (fun _ _ _ h => h) (Or.inl ⟨by rfl, fun w hSw => by ((try dsimp only at hSw); go_simp) <;> with_reducible rfl⟩) (by assumption) ?_
    (try simp only [Act.put, List.setIfInBounds_toArray, List.set_cons_zero, List.set_cons_succ])
    refine wpAnyH_take (i := 7) (v := _) (by (simp only [List.getElem?_toArray, List.getElem?_cons_succ, List.getElem?_cons_zero]) <;> rfl) (by kernel_rfl) (by kernel_rfl) (by kernel_rfl) (fun _ _ _ h => h) (Or.inl ⟨by rfl, fun w hSw => by ((try dsimp only at hSw); go_simp) <;> with_reducible rfl⟩) (by assumption) ?_
    (try simp only [Act.put, List.setIfInBounds_toArray, List.set_cons_zero, List.set_cons_succ])
    refine wpAnyH_take (i := 8) (v := _) (by (simp only [List.getElem?_toArray, List.getElem?_cons_succ, List.getElem?_cons_zero]) <;> rfl) (by kernel_rfl) (by kernel_rfl) (by kernel_rfl) (fun _ _ _ h => h) (Or.inl ⟨by rfl, fun w hSw => by ((try dsimp only at hSw); go_simp) <;> with_reducible rfl⟩) (by assumption) ?_
    (try simp only [Act.put, List.setIfInBounds_toArray, List.set_cons_zero, List.set_cons_succ])
    refine wpAnyH_ready (rs := [9]) (by kernel_rfl) (by simp) ?_
    refine AllReadyH.cons (by (simp only [List.getElem?_toArray, List.getElem?_cons_succ, List.getElem?_cons_zero]) <;> rfl) (fun K hK => ?_) AllReadyH.nil
    go_simp
    (go_at_call 44; refine (HMY.out _).mono ?_; rintro e w3 ⟨rfl, hb3⟩; have hb13 : Below (w.alloc (.cells #[.int .i64 f, .int .i64 b] 34)).heap.size (w.alloc (.cells #[.int .i64 f, .int .i64 b] 34)) w3 := (Below.drew (Below.refl _ _)).trans hb3; have z0 : w3.cell? ⟨w.heap.size, 0, none⟩ = some (.int .i64 f) := (hb13.cell (p := ⟨w.heap.size, 0, none⟩) (by simp)).trans (by simp); have z1 : w3.cell? ⟨w.heap.size, 1, none⟩ = some (.int .i64 b) := (hb13.cell (p := ⟨w.heap.size, 1, none⟩) (by simp)).trans (by simp); have B3 : Below w.heap.size w w3 := (Below.alloc (Below.refl _ _) (Nat.le_refl _) _).trans (hb13.mono (by simp)))
    refine hK.out _ _ (by exact ⟨z0, z1⟩) (fun hHeld => ?_)
    (try simp only [Act.put, List.setIfInBounds_toArray, List.set_cons_zero, List.set_cons_succ])
    refine wpAnyH_take (i := 10) (v := _) (by (simp only [List.getElem?_toArray, List.getElem?_cons_succ, List.getElem?_cons_zero]) <;> rfl) (by kernel_rfl) (by kernel_rfl) (by kernel_rfl) (fun _ _ _ h => h) (Or.inl ⟨by rfl, fun w hSw => by ((try dsimp only at hSw); go_simp) <;> with_reducible rfl⟩) (by assumption) ?_
    (try simp only [Act.put, List.setIfInBounds_toArray, List.set_cons_zero, List.set_cons_succ])
    refine wpAnyH_take (i := 11) (v := _) (by (simp only [List.getElem?_toArray, List.getElem?_cons_succ, List.getElem?_cons_zero]) <;> rfl) (by kernel_rfl) (by kernel_rfl) (by kernel_rfl) (fun _ _ _ h => h) (Or.inl ⟨by rfl, fun w hSw => by ((try dsimp only at hSw); go_simp) <;> with_reducible rfl⟩) (by assumption) ?_
    (try simp only [Act.put, List.setIfInBounds_toArray, List.set_cons_zero, List.set_cons_succ])
    refine wpAnyH_take (i := 12) (v := _) (by (simp only [List.getElem?_toArray, List.getElem?_cons_succ, List.getElem?_cons_zero]) <;> rfl) (by kernel_rfl) (by kernel_rfl) (by kernel_rfl) (fun _ _ _ h => h) (Or.inl ⟨by rfl, fun w hSw => by ((try dsimp only at hSw); go_simp) <;> with_reducible rfl⟩) (by assumption) ?_
    (try simp only [Act.put, List.setIfInBounds_toArray, List.set_cons_zero, List.set_cons_succ])
    refine wpAnyH_take (i := 13) (v := _) (by (simp only [List.getElem?_toArray, List.getElem?_cons_succ, List.getElem?_cons_zero]) <;> rfl) (by kernel_rfl) (by kernel_rfl) (by kernel_rfl) (fun _ _ _ h => h) (Or.inl ⟨by rfl, fun w hSw => by ((try dsimp only at hSw); go_simp) <;> with_reducible rfl⟩) (by assumption) ?_
    (try simp only [Act.put, List.setIfInBounds_toArray, List.set_cons_zero, List.set_cons_succ])
    refine wpAnyH_done (by kernel_rfl) ?_ _
    refine NoPanic.normal ?_
    go_wp2_with fail
    go_ret
    exact ⟨by rw [HC2.out]; rfl, B3⟩
  · have hd : decide (f ≤ x) = false := decide_eq_false h1
    have hc2 : c = false := by
      cases c
      · rfl
      · exact absurd (HIF.out.1 rfl).1 h1
    subst hc2
    go_enter Tryz.func27, Tryz.ntmps27
    go_wp2_with fail
    refine wp_region_noPanic ?_
    refine wp_region_held_drew (S := (fun W => W.cell? ⟨w.heap.size, 0, none⟩ = some (.int .i64 f) ∧ W.cell? ⟨w.heap.size, 1, none⟩ = some (.int .i64 b))) (by kernel_rfl) (by simp) (fun hHeld => ?_)
    refine wpAnyH_take (i := 0) (v := _) (by (simp only [List.getElem?_toArray, List.getElem?_cons_zero]) <;> rfl) (by kernel_rfl) (by kernel_rfl) (by kernel_rfl) (fun _ _ _ h => h) (Or.inl ⟨by rfl, fun w hSw => by ((try dsimp only at hSw); go_simp) <;> with_reducible rfl⟩) (by assumption) ?_
    (try simp only [Act.put, List.setIfInBounds_toArray, List.set_cons_zero, List.set_cons_succ])
    refine wpAnyH_take (i := 1) (v := _) (by (simp only [List.getElem?_toArray, List.getElem?_cons_succ, List.getElem?_cons_zero]) <;> rfl) (by kernel_rfl) (by kernel_rfl) (by kernel_rfl) (fun _ _ _ h => h) (Or.inl ⟨by rfl, fun w hSw => by ((try dsimp only at hSw); go_simp) <;> with_reducible rfl⟩) (by assumption) ?_
    (try simp only [Act.put, List.setIfInBounds_toArray, List.set_cons_zero, List.set_cons_succ])
    refine wpAnyH_take (i := 2) (v := _) (by (simp only [List.getElem?_toArray, List.getElem?_cons_succ, List.getElem?_cons_zero]) <;> rfl) (by kernel_rfl) (by kernel_rfl) (by kernel_rfl) (fun _ _ _ h => h) (Or.inl ⟨by rfl, fun w hSw => by ((try dsimp only at hSw); go_simp) <;> with_reducible rfl⟩) (by assumption) ?_
    (try simp only [Act.put, List.setIfInBounds_toArray, List.set_cons_zero, List.set_cons_succ])
    refine wpAnyH_take (i := 3) (v := _) (by (simp only [List.getElem?_toArray, List.getElem?_cons_succ, List.getElem?_cons_zero]) <;> rfl) (by kernel_rfl) (by kernel_rfl) (by kernel_rfl) (fun _ _ _ h => h) (Or.inl ⟨by rfl, fun w hSw => by ((try dsimp only at hSw); go_simp) <;> with_reducible rfl⟩) (by assumption) ?_
    (try simp only [Act.put, List.setIfInBounds_toArray, List.set_cons_zero, List.set_cons_succ])
    refine wpAnyH_take (i := 4) (v := _) (by (simp only [List.getElem?_toArray, List.getElem?_cons_succ, List.getElem?_cons_zero]) <;> rfl) (by kernel_rfl) (by kernel_rfl) (by kernel_rfl) (fun _ _ _ h => h) (Or.inl ⟨by rfl, fun w hSw => by ((try dsimp only at hSw); go_simp) <;> with_reducible rfl⟩) (by assumption) ?_
    (try simp only [Act.put, List.setIfInBounds_toArray, List.set_cons_zero, List.set_cons_succ])
    refine wpAnyH_take (i := 5) (v := _) (by (simp only [List.getElem?_toArray, List.getElem?_cons_succ, List.getElem?_cons_zero]) <;> rfl) (by kernel_rfl) (by kernel_rfl) (by kernel_rfl) (fun _ _ _ h => h) (Or.inr ⟨by rfl, rfl⟩) (by assumption) ?_
    (try simp only [Act.put, List.setIfInBounds_toArray, List.set_cons_zero, List.set_cons_succ])
    refine wpAnyH_take (i := 6) (v := _) (by (simp only [List.getElem?_toArray, List.getElem?_cons_succ, List.getElem?_cons_zero]) <;> rfl) (by kernel_rfl) (by kernel_rfl) (by kernel_rfl) (fun _ _ _ h => h) (Or.inr ⟨by rfl, rfl⟩) (by assumption) ?_
    (try simp only [Act.put, List.setIfInBounds_toArray, List.set_cons_zero, List.set_cons_succ])
    refine wpAnyH_take (i := 7) (v := _) (by (simp only [List.getElem?_toArray, List.getElem?_cons_succ, List.getElem?_cons_zero]) <;> rfl) (by kernel_rfl) (by kernel_rfl) (by kernel_rfl) (fun _ _ _ h => h) (Or.inr ⟨by rfl, rfl⟩) (by assumption) ?_
    (try simp only [Act.put, List.setIfInBounds_toArray, List.set_cons_zero, List.set_cons_succ])
    refine wpAnyH_take (i := 8) (v := _) (by (simp only [List.getElem?_toArray, List.getElem?_cons_succ, List.getElem?_cons_zero]) <;> rfl) (by kernel_rfl) (by kernel_rfl) (by kernel_rfl) (fun _ _ _ h => h) (Or.inr ⟨by rfl, rfl⟩) (by assumption) ?_
    (try simp only [Act.put, List.setIfInBounds_toArray, List.set_cons_zero, List.set_cons_succ])
    refine wpAnyH_take (i := 9) (v := _) (by (simp only [List.getElem?_toArray, List.getElem?_cons_succ, List.getElem?_cons_zero]) <;> rfl) (by kernel_rfl) (by kernel_rfl) (by kernel_rfl) (fun _ _ _ h => h) (Or.inr ⟨by rfl, rfl⟩) (by assumption) ?_
    (try simp only [Act.put, List.setIfInBounds_toArray, List.set_cons_zero, List.set_cons_succ])
    refine wpAnyH_take (i := 10) (v := _) (by (simp only [List.getElem?_toArray, List.getElem?_cons_succ, List.getElem?_cons_zero]) <;> rfl) (by kernel_rfl) (by kernel_rfl) (by kernel_rfl) (fun _ _ _ h => h) (Or.inr ⟨by rfl, rfl⟩) (by assumption) ?_
    (try simp only [Act.put, List.setIfInBounds_toArray, List.set_cons_zero, List.set_cons_succ])
    refine wpAnyH_take (i := 11) (v := _) (by (simp only [List.getElem?_toArray, List.getElem?_cons_succ, List.getElem?_cons_zero]) <;> rfl) (by kernel_rfl) (by kernel_rfl) (by kernel_rfl) (fun _ _ _ h => h) (Or.inr ⟨by rfl, rfl⟩) (by assumption) ?_
    (try simp only [Act.put, List.setIfInBounds_toArray, List.set_cons_zero, List.set_cons_succ])
    refine wpAnyH_take (i := 12) (v := _) (by (simp only [List.getElem?_toArray, List.getElem?_cons_succ, List.getElem?_cons_zero]) <;> rfl) (by kernel_rfl) (by kernel_rfl) (by kernel_rfl) (fun _ _ _ h => h) (Or.inl ⟨by rfl, fun w hSw => by ((try dsimp only at hSw); go_simp) <;> with_reducible rfl⟩) (by assumption) ?_
    (try simp only [Act.put, List.setIfInBounds_toArray, List.set_cons_zero, List.set_cons_succ])
    refine wpAnyH_take (i := 13) (v := _) (by (simp only [List.getElem?_toArray, List.getElem?_cons_succ, List.getElem?_cons_zero]) <;> rfl) (by kernel_rfl) (by kernel_rfl) (by kernel_rfl) (fun _ _ _ h => h) (Or.inl ⟨by rfl, fun w hSw => by ((try dsimp only at hSw); go_simp) <;> with_reducible rfl⟩) (by assumption) ?_
    (try simp only [Act.put, List.setIfInBounds_toArray, List.set_cons_zero, List.set_cons_succ])
    refine wpAnyH_done (by kernel_rfl) ?_ _
    refine NoPanic.normal ?_
    go_wp2_with fail
    go_ret
    exact ⟨rfl, by repeat (first | exact Below.refl _ _ | assumption | refine Below.drew ?_ | refine belowDrewN ?_ _ | refine Below.alloc ?_ (by first | exact Nat.le_refl _ | omega | (simp; done) | (simp; omega)) _ | refine Below.setCell ?_ (by first | exact Nat.le_refl _ | omega | (simp; done) | (simp; omega)) _)⟩
set_option maxHeartbeats 4000000 in
theorem rangeHas_any (f b x : Int) (hr : rangeOkF f b = true) (hx0 : 0 ≤ x) (hx1 : x ≤ 255) (w : World) :
    Calls Tryz.prog 14 #[.agg #[.int .i64 f, .int .i64 b], .int .i64 x] w fun e w' => e = .returned (.bool (hasF f b x)) ∧ Below w.heap.size w w' := by
  have hk := fun W => rangeOk_any f b W
  rw [hr] at hk
  have had := fun W => isAddr_any x W
  have ha : addrF x = true := by unfold addrF; rw [decide_eq_true hx0, decide_eq_true hx1]; rfl
  rw [ha] at had
  have HK := Lib.hid hk
  have HA := Lib.hid had
  have HC := Lib.hid (fun W => covers_any f b x hr hx0 hx1 W)
  have hal := Below.alloc (Below.refl w.heap.size w) (Nat.le_refl _) (.cells #[.int .i64 f, .int .i64 b] 34)
  have hc0 : ∀ W, Below (w.alloc (.cells #[.int .i64 f, .int .i64 b] 34)).heap.size (w.alloc (.cells #[.int .i64 f, .int .i64 b] 34)) W → W.cell? ⟨w.heap.size, 0, none⟩ = some (.int .i64 f) ∧ W.cell? ⟨w.heap.size, 1, none⟩ = some (.int .i64 b) ∧ Below w.heap.size w W := fun W hW => ⟨(hW.cell (p := ⟨w.heap.size, 0, none⟩) (by simp)).trans (by simp), (hW.cell (p := ⟨w.heap.size, 1, none⟩) (by simp)).trans (by simp), hal.trans (hW.mono (by simp))⟩
  have HCE := Lib.hid hc0
  clear hk had ha hal hc0
  go_enter Tryz.func14, Tryz.ntmps14
  go_wp2_with fail
  refine (HK.out _).mono ?_
  rintro e w1 ⟨rfl, hb1⟩
  have L1 := Lib.hid hb1
  obtain ⟨c0, c1, b1⟩ := HCE.out _ hb1
  clear hb1
  go_wp2_with fail
  refine (HA.out _).mono ?_
  rintro e w2 ⟨rfl, hb2⟩
  have L2 := Lib.hid (L1.out.trans (hb2.below _))
  obtain ⟨d0, d1, b2⟩ := HCE.out _ L2.out
  clear hb2 c0 c1
  go_wp2_with fail
  refine (HC.out _).mono ?_
  rintro e w3 ⟨rfl, hb3⟩
  have B3 : Below w.heap.size w w3 := b2.trans (hb3.mono b2.size)
  clear hb3
  go_wp2_with fail
  go_ret
  exact ⟨rfl, B3⟩
def inF (f b f2 b2 : Int) : Bool := decide (b2 ≤ b) && hasF f2 b2 f
set_option maxHeartbeats 4000000 in
theorem rangeIn_any (f b f2 b2 : Int) (hr : rangeOkF f b = true) (hr2 : rangeOkF f2 b2 = true) (w : World) :
    Calls Tryz.prog 10 #[.agg #[.int .i64 f, .int .i64 b], .agg #[.int .i64 f2, .int .i64 b2]] w fun e w' => e = .returned (.bool (inF f b f2 b2)) ∧ Below w.heap.size w w' := by
  have hk1 := fun W => rangeOk_any f b W
  have hk2 := fun W => rangeOk_any f2 b2 W
  rw [hr] at hk1
  rw [hr2] at hk2
  obtain ⟨h0, h8, hf0, hf1, _⟩ := rangeOk_parts hr
  have HK1 := Lib.hid hk1
  have HK2 := Lib.hid hk2
  have HC := Lib.hid (fun W => covers_any f2 b2 f hr2 hf0 hf1 W)
  obtain ⟨WA, hWA⟩ : ∃ W, W = (w.alloc (.cells #[.int .i64 f, .int .i64 b] 34)).alloc (.cells #[.int .i64 f2, .int .i64 b2] 34) := ⟨_, rfl⟩
  have hsz : (w.alloc (.cells #[.int .i64 f, .int .i64 b] 34)).heap.size = w.heap.size + 1 := World.size_alloc _ _
  have hal : Below w.heap.size w WA := by rw [hWA]; repeat (first | exact Below.refl _ _ | assumption | refine Below.drew ?_ | refine belowDrewN ?_ _ | refine Below.alloc ?_ (by first | exact Nat.le_refl _ | omega | (simp; done) | (simp; omega)) _ | refine Below.setCell ?_ (by first | exact Nat.le_refl _ | omega | (simp; done) | (simp; omega)) _)
  have hsA : WA.heap.size = w.heap.size + 2 := by rw [hWA, World.size_alloc, hsz]
  have q0 : WA.cell? ⟨w.heap.size, 0, none⟩ = some (.int .i64 f) := by rw [hWA]; exact (World.cell?_alloc_past _ _ _ (by rw [hsz]; omega)).trans (by simp)
  have q1 : WA.cell? ⟨w.heap.size, 1, none⟩ = some (.int .i64 b) := by rw [hWA]; exact (World.cell?_alloc_past _ _ _ (by rw [hsz]; omega)).trans (by simp)
  have q2 : WA.cell? ⟨w.heap.size + 1, 0, none⟩ = some (.int .i64 f2) := by rw [hWA, ← hsz]; simp
  have q3 : WA.cell? ⟨w.heap.size + 1, 1, none⟩ = some (.int .i64 b2) := by rw [hWA, ← hsz]; simp
  have hc0 : ∀ W, Below WA.heap.size WA W → W.cell? ⟨w.heap.size, 0, none⟩ = some (.int .i64 f) ∧ W.cell? ⟨w.heap.size, 1, none⟩ = some (.int .i64 b) ∧ W.cell? ⟨w.heap.size + 1, 0, none⟩ = some (.int .i64 f2) ∧ W.cell? ⟨w.heap.size + 1, 1, none⟩ = some (.int .i64 b2) ∧ Below w.heap.size w W := fun W hW =>
    ⟨(hW.cell (p := ⟨w.heap.size, 0, none⟩) (by show w.heap.size < WA.heap.size; omega)).trans q0, (hW.cell (p := ⟨w.heap.size, 1, none⟩) (by show w.heap.size < WA.heap.size; omega)).trans q1, (hW.cell (p := ⟨w.heap.size + 1, 0, none⟩) (by show w.heap.size + 1 < WA.heap.size; omega)).trans q2, (hW.cell (p := ⟨w.heap.size + 1, 1, none⟩) (by show w.heap.size + 1 < WA.heap.size; omega)).trans q3, hal.trans (hW.mono (by omega))⟩
  rw [hWA] at hc0
  have HCE := Lib.hid hc0
  clear hk1 hk2 hal hc0 hsA q0 q1 q2 q3 hsz hWA
  unfold inF
  by_cases hb : b2 ≤ b
  · have hd : decide (b2 ≤ b) = true := decide_eq_true hb
    go_enter Tryz.func10, Tryz.ntmps10
    go_wp2_with fail
    refine (HK1.out _).mono ?_
    rintro e w1 ⟨rfl, hb1⟩
    have L1 := Lib.hid hb1
    obtain ⟨c0, c1, c2, c3, b1⟩ := HCE.out _ hb1
    clear hb1
    go_wp2_with fail
    refine (HK2.out _).mono ?_
    rintro e w2 ⟨rfl, hb2⟩
    have L2 := Lib.hid (L1.out.trans (hb2.mono L1.out.size))
    obtain ⟨d0, d1, d2, d3, b2'⟩ := HCE.out _ L2.out
    clear hb2 c0 c1 c2 c3
    go_wp2_with fail
    refine (HC.out _).mono ?_
    rintro e w3 ⟨rfl, hb3⟩
    have B3 : Below w.heap.size w w3 := b2'.trans (hb3.mono b2'.size)
    clear hb3
    go_wp2_with fail
    go_ret
    exact ⟨by simp [hb], B3⟩
  · have hd : decide (b2 ≤ b) = false := decide_eq_false hb
    go_enter Tryz.func10, Tryz.ntmps10
    go_wp2_with fail
    refine (HK1.out _).mono ?_
    rintro e w1 ⟨rfl, hb1⟩
    have L1 := Lib.hid hb1
    obtain ⟨c0, c1, c2, c3, b1⟩ := HCE.out _ hb1
    clear hb1
    go_wp2_with fail
    refine (HK2.out _).mono ?_
    rintro e w2 ⟨rfl, hb2⟩
    have L2 := Lib.hid (L1.out.trans (hb2.mono L1.out.size))
    obtain ⟨d0, d1, d2, d3, b2'⟩ := HCE.out _ L2.out
    clear hb2 c0 c1 c2 c3
    go_wp2_with fail
    go_ret
    exact ⟨by simp; omega, b2'⟩
end Go.Proofs.YtlpibfafpljedaaGreatDoor
