/- impl.still, spec.l32Still. -/
import Derived.Test.YtlkchhedlbaomaaRanksPick
import Derived.Deep.RegionHeld3
namespace Go.Proofs.Ytlkchhedlbaomaa
open Go.RowKit
set_option linter.unusedVariables false

set_option maxHeartbeats 4000000 in
theorem still_any (v u : Value) (r : List (List (List Int))) (ways : List (List Int)) (w : World) (hv : GridAt w v r) (hu : RowsAt w u ways)
    (hr3 : r.length = 3) (hu3 : ways.length = 3) (hgood : ∀ h, h < 3 → ∀ p, p ∈ r.getD h [] → GoodWay p) :
    Calls Try.prog 63 #[v, u] w fun e w' => e = .returned (.bool (stillF r ways)) ∧ Below w.heap.size w w' := by
  obtain ⟨ua, uc, rfl, huc, hum⟩ := hu.form
  obtain ⟨va, vc, rfl, hvc, hvm⟩ := hv.form
  obtain ⟨B, hB⟩ : ∃ B, stillF r ways = B := ⟨_, rfl⟩
  rw [hB]
  rw [hu3] at huc hu ⊢
  rw [hr3] at hvc hv ⊢
  have HB := Lib.hid hB
  have H := Lib.hid hv
  have U := Lib.hid hu
  have HR3 := Lib.hid hr3
  have HU3 := Lib.hid hu3
  have HG := Lib.hid hgood
  clear hB hv hu hr3 hu3 hgood
  go_enter Try.func63, Try.ntmps63
  go_wp2_with fail
  go_loopg [9] 3 (fun g i wr => ∃ k : Nat, i = .int .i64 k ∧ k + g = 3 ∧ Hid (Below w.heap.size w wr) ∧ Hid (∀ j, j < k → pickF (r.getD j []) ways = ways.getD j []))
  case atStart => exact ⟨0, rfl, by omega, Lib.hid (Below.refl _ _), Lib.hid fun j hj => by omega⟩
  case round =>
    obtain ⟨k, rfl, hk, hbe, hno⟩ := hrel
    by_cases hg : gk = 0
    · subst hg
      obtain rfl : k = 3 := by omega
      have e := stillF_good hno.out
      rw [HB.out] at e
      subst e
      go_wp2_with fail
      go_ret
      exact ⟨rfl, hbe.out⟩
    · have hkn : k < 3 := by omega
      obtain ⟨ub, uoff, v2, rfl, hub, hux, hp⟩ := (U.out.below hbe.out).get k hkn
      obtain ⟨c, hcc⟩ : ∃ c, decide (pickF (r.getD k []) ways = ways.getD k []) = c := ⟨_, rfl⟩
      have hpk := preferred_any _ _ r ways k wr (H.out.below hbe.out) (U.out.below hbe.out) HR3.out HU3.out hkn (HG.out k hkn)
      have heq : ∀ v' w1, OwnInts w1 wr.heap.size v' (pickF (r.getD k []) ways) → Below wr.heap.size wr w1 → Calls Try.prog 73 #[v', v2] w1 fun e w' => e = .returned (.bool c) ∧ Drew w1 w' := fun v' w1 ho hb => by
        rw [← hcc]; exact slEqual_any _ _ _ _ _ ho.ints (hp.below hb)
      have HC := Lib.hid hcc
      have HPK := Lib.hid hpk
      have HEQ := Lib.hid heq
      have HK := Lib.hid hk
      clear hcc hpk heq hk hp
      cases c
      · have e := HB.out
        rw [stillF_bad hkn (by have := HC.out; simpa using this)] at e
        subst e
        go_wp2_with (first | (go_at_call 61; refine (HPK.out).mono ?_; rintro e w1 ⟨v', rfl, ho, hb1⟩; have HO := Lib.hid ho; clear ho) | (go_at_call 73; refine (HEQ.out _ _ HO.out hb1).mono ?_; rintro e w2 ⟨rfl, q, rfl⟩))
        go_ret
        exact ⟨rfl, (hbe.out.trans (hb1.mono hbe.out.size)).trans (belowDrewN (Below.refl _ _) _)⟩
      · go_wp2_with (first | (go_at_call 61; refine (HPK.out).mono ?_; rintro e w1 ⟨v', rfl, ho, hb1⟩; have HO := Lib.hid ho; clear ho) | (go_at_call 73; refine (HEQ.out _ _ HO.out hb1).mono ?_; rintro e w2 ⟨rfl, q, rfl⟩))
        go_roundg (gk - 1)
        case measure => omega
        case rel =>
          refine ⟨k + 1, by go_num, by have := HK.out; omega, Lib.hid ((hbe.out.trans (hb1.mono hbe.out.size)).trans (belowDrewN (Below.refl _ _) _)), Lib.hid fun i hi => ?_⟩
          by_cases hik : i = k
          · subst hik; simpa using HC.out
          · exact hno.out i (by omega)

set_option maxHeartbeats 4000000 in
theorem l32Still_any (v u : Value) (r : List (List (List Int))) (ways : List (List Int)) (w : World) (hv : GridAt w v r) (hu : RowsAt w u ways)
    (hr3 : r.length = 3) (hu3 : ways.length = 3) (hgood : ∀ h, h < 3 → ∀ p, p ∈ r.getD h [] → GoodWay p) :
    Calls Try.prog 65 #[v, u] w fun e w' => e = .returned (.bool (stillF r ways)) ∧ Below w.heap.size w w' := by
  obtain ⟨ua, uc, rfl, huc, hum⟩ := hu.form
  obtain ⟨va, vc, rfl, hvc, hvm⟩ := hv.form
  obtain ⟨B, hB⟩ : ∃ B, stillF r ways = B := ⟨_, rfl⟩
  rw [hB]
  rw [hu3] at huc hu ⊢
  rw [hr3] at hvc hv ⊢
  have HB := Lib.hid hB
  have H := Lib.hid hv
  have U := Lib.hid hu
  have HR3 := Lib.hid hr3
  have HU3 := Lib.hid hu3
  have HG := Lib.hid hgood
  clear hB hv hu hr3 hu3 hgood
  go_enter Try.func65, Try.ntmps65
  go_wp2_with fail
  go_loopg [5] 3 (fun g i wr => ∃ k : Nat, i = .int .i64 ((k : Int) + 1) ∧ k + g = 3 ∧ Hid (Below w.heap.size w wr) ∧ Hid (∀ j, j < k → pickF (r.getD j []) ways = ways.getD j []))
  case atStart => exact ⟨0, rfl, by omega, Lib.hid (Below.refl _ _), Lib.hid fun j hj => by omega⟩
  case round =>
    obtain ⟨k, rfl, hk, hbe, hno⟩ := hrel
    by_cases hg : gk = 0
    · subst hg
      obtain rfl : k = 3 := by omega
      have e := stillF_good hno.out
      rw [HB.out] at e
      subst e
      go_wp2_with fail
      go_ret
      exact ⟨rfl, hbe.out⟩
    · have hkn : k < 3 := by omega
      have hkI : (k : Int) < 3 := by omega
      have i1 : (k : Int) + 1 - 1 = (k : Int) := by omega
      have i3 : IntKind.i64.wrap (k : Int) = (k : Int) := IntWalk.i64_in _ (by omega)
      have k0 : (0 : Int) ≤ (k : Int) := by omega
      obtain ⟨ub, uoff, v2, rfl, hub, hux, hp⟩ := (U.out.below hbe.out).get k hkn
      obtain ⟨c, hcc⟩ : ∃ c, cmpF (pickF (r.getD k []) ways) (ways.getD k []) = c := ⟨_, rfl⟩
      have hpk : ∀ W, Below wr.heap.size wr W → Calls Try.prog 58 #[.slice va 3 vc, .slice (some ⟨ub, uoff, none⟩) 3 uc, .int .i64 ((k : Int) + 1)] W fun e w' => ∃ v', e = .returned v' ∧ OwnInts w' W.heap.size v' (pickF (r.getD k []) ways) ∧ Below W.heap.size W w' := fun W hW =>
        l32Pick_any _ _ r ways k W ((H.out.below hbe.out).below hW) ((U.out.below hbe.out).below hW) HR3.out HU3.out hkn (HG.out k hkn)
      have heq : ∀ v' w1 B, OwnInts w1 B v' (pickF (r.getD k []) ways) → Below wr.heap.size wr w1 → Calls Try.prog 56 #[v', v2] w1 fun e w' => e = .returned (.int .i64 c) ∧ Drew w1 w' := fun v' w1 B ho hb => by
        rw [← hcc]; exact cmp_any _ _ _ _ _ ho.ints (hp.below hb)
      have HC := Lib.hid hcc
      have HPK := Lib.hid hpk
      have HEQ := Lib.hid heq
      have HK := Lib.hid hk
      clear hcc hpk heq hk hp
      by_cases hc0 : c = 0
      · subst hc0
        go_wp2_with fail
        go_region_held3 (fun w' => w'.cell? ⟨ub, uoff + k, none⟩ = some v2) ((simp [go_sem, *])) (first | (go_at_call 58; refine (HPK.out _ (by repeat (first | exact Below.refl _ _ | assumption | refine Below.drew ?_ | refine belowDrewN ?_ _ | refine Below.alloc ?_ (by first | exact Nat.le_refl _ | omega | (simp; done) | (simp; omega)) _ | refine Below.setCell ?_ (by first | exact Nat.le_refl _ | omega | (simp; done) | (simp; omega)) _))).mono ?_; rintro e w1 ⟨v', rfl, ho, hb1⟩; have HO := Lib.hid ho; have hB1 : Below wr.heap.size wr w1 := (by refine Below.trans ?_ (hb1.mono (by first | exact Nat.le_refl _ | omega | (simp; done) | (simp; omega))); repeat (first | exact Below.refl _ _ | assumption | refine Below.drew ?_ | refine belowDrewN ?_ _ | refine Below.alloc ?_ (by first | exact Nat.le_refl _ | omega | (simp; done) | (simp; omega)) _ | refine Below.setCell ?_ (by first | exact Nat.le_refl _ | omega | (simp; done) | (simp; omega)) _)); obtain ⟨hc1, hf1⟩ := bcell hB1; clear ho hb1) | (go_at_call 56; refine (HEQ.out _ _ _ HO.out hB1).mono ?_; rintro e w2 ⟨rfl, q, rfl⟩))
        all_goals
          go_wp2_with fail
          go_roundg (gk - 1)
          case measure => omega
          case rel =>
            refine ⟨k + 1, by go_num, by have := HK.out; omega, Lib.hid ((hbe.out.trans (hB1.mono hbe.out.size)).trans (belowDrewN (Below.refl _ _) _)), Lib.hid fun i hi => ?_⟩
            by_cases hik : i = k
            · subst hik; exact (cmpF_zero _ _).1 HC.out
            · exact hno.out i (by omega)
      · have e := HB.out
        rw [stillF_bad hkn (by intro e2; exact hc0 (by rw [← HC.out]; exact (cmpF_zero _ _).2 e2))] at e
        subst e
        have hc0' : (c != 0) = true := by simp [hc0]
        clear hc0
        go_wp2_with fail
        go_region_held3 (fun w' => w'.cell? ⟨ub, uoff + k, none⟩ = some v2) ((simp [go_sem, *])) (first | (go_at_call 58; refine (HPK.out _ (by repeat (first | exact Below.refl _ _ | assumption | refine Below.drew ?_ | refine belowDrewN ?_ _ | refine Below.alloc ?_ (by first | exact Nat.le_refl _ | omega | (simp; done) | (simp; omega)) _ | refine Below.setCell ?_ (by first | exact Nat.le_refl _ | omega | (simp; done) | (simp; omega)) _))).mono ?_; rintro e w1 ⟨v', rfl, ho, hb1⟩; have HO := Lib.hid ho; have hB1 : Below wr.heap.size wr w1 := (by refine Below.trans ?_ (hb1.mono (by first | exact Nat.le_refl _ | omega | (simp; done) | (simp; omega))); repeat (first | exact Below.refl _ _ | assumption | refine Below.drew ?_ | refine belowDrewN ?_ _ | refine Below.alloc ?_ (by first | exact Nat.le_refl _ | omega | (simp; done) | (simp; omega)) _ | refine Below.setCell ?_ (by first | exact Nat.le_refl _ | omega | (simp; done) | (simp; omega)) _)); obtain ⟨hc1, hf1⟩ := bcell hB1; clear ho hb1) | (go_at_call 56; refine (HEQ.out _ _ _ HO.out hB1).mono ?_; rintro e w2 ⟨rfl, q, rfl⟩))
        all_goals
          go_wp2_with fail
          go_ret
          exact ⟨rfl, (hbe.out.trans (hB1.mono hbe.out.size)).trans (belowDrewN (Below.refl _ _) _)⟩
end Go.Proofs.Ytlkchhedlbaomaa
