/- The walk of FnRanksStill. -/
import Derived.Test.YtlkchhedlbaomaaRanksLawPick
import Derived.Deep.DeepCutAuto
namespace Go.Proofs.Ytlkchhedlbaomaa
open Go.RowKit
set_option linter.unusedVariables false

def canF (r : List (List (List Int))) (ways : List (List Int)) (k : Nat) : Bool := (List.range k).all fun h => decide (pickF (r.getD h []) ways = ways.getD h [])
theorem canF_succ (r : List (List (List Int))) (ways : List (List Int)) (k : Nat) : canF r ways (k + 1) = (canF r ways k && decide (pickF (r.getD k []) ways = ways.getD k [])) := by
  unfold canF; rw [List.range_succ, List.all_append]; simp
set_option maxRecDepth 100000 in
set_option maxHeartbeats 8000000 in
theorem ranksStill_walk (a : Option Addr) (len cap : Nat) (zs : List Int) (w : World) (h : IsRow .u8 w a len cap zs) :
    Calls Try.prog 12 #[.slice a len cap] w fun e w' => e = .returned (.bool true) ∧ Below w.heap.size w w' := by
  obtain ⟨hm, hc⟩ := h.bounds
  have hc' := hc
  unfold maxLen at hc'
  have H := Lib.hid h
  have BB := Lib.hid (Below.refl w.heap.size w)
  clear h
  go_enter Try.func12, Try.ntmps12
  by_cases hl : 1048576 < len
  · go_wp2_with fail
    go_ret
    exact ⟨rfl, Below.refl _ _⟩
  · go_wp2_with fail
    refine (drawStill_any _ _ _ zs _ H.out).mono ?_
    rintro e w1 ⟨v, u, r, ways, rfl, hg, hu, hpl, hb⟩
    obtain ⟨va, vc, e', hvc, hvm⟩ := hg.form
    subst e'
    obtain ⟨ua, uc, e', huc, hum⟩ := hu.form
    subst e'
    have G := Lib.hid hg
    have U := Lib.hid hu
    have HPL := Lib.hid hpl
    have BB := Lib.hid (BB.out.trans (hb.mono BB.out.size))
    clear hg hu hpl hb
    obtain ⟨R, hR⟩ : ∃ R, ranksStillF r ways = R := ⟨_, rfl⟩
    have hspec : ∀ W, Below w1.heap.size w1 W → Calls Try.prog 38 #[.slice va r.length vc, .slice ua ways.length uc] W fun e w' => e = .returned (.bool R) ∧ Below W.heap.size W w' := fun W hW => by
      rw [← hR]; exact specStill_any _ _ _ _ _ (G.out.below hW) (U.out.below hW)
    have himpl := implStill_any _ _ _ _ _ G.out U.out
    rw [hR] at himpl
    obtain ⟨b1, hb1⟩ : ∃ b, ranksOk r = b := ⟨_, rfl⟩
    have hok : ∀ W, Below w1.heap.size w1 W → Calls Try.prog 20 #[.slice va r.length vc] W fun e w' => e = .returned (.bool b1) ∧ Below W.heap.size W w' := fun W hW => by
      rw [← hb1]; exact implRanksOk_any _ _ _ (G.out.below hW)
    have HSP := Lib.hid hspec
    have HIM := Lib.hid himpl
    have HOK := Lib.hid hok
    have HR := Lib.hid hR
    have HB1 := Lib.hid hb1
    have B1 := Lib.hid (Below.refl w1.heap.size w1)
    clear hspec himpl hok hR hb1
    go_wp2_with fail
    refine (HIM.out).mono ?_
    rintro e w2 ⟨rfl, hb⟩
    have BB := Lib.hid (BB.out.trans (hb.mono BB.out.size))
    have B1 := Lib.hid (B1.out.trans (hb.mono B1.out.size))
    clear hb
    have hne : (R != R) = false := by simp
    have heq : (R == R) = true := by simp
    go_wp2_with fail
    refine (HSP.out _ B1.out).mono ?_
    rintro e w3 ⟨rfl, hb⟩
    have BB := Lib.hid (BB.out.trans (hb.mono BB.out.size))
    have B1 := Lib.hid (B1.out.trans (hb.mono B1.out.size))
    clear hb
    go_wp2_with fail
    refine (HOK.out _ B1.out).mono ?_
    rintro e w5 ⟨rfl, hb⟩
    have BB := Lib.hid (BB.out.trans (hb.mono BB.out.size))
    have B1 := Lib.hid (B1.out.trans (hb.mono B1.out.size))
    clear hb
    by_cases hmain : b1 = true ∧ ways.length = 3
    · obtain ⟨h1, h3⟩ := hmain
      subst h1
      have hr3 := ranksOk_len HB1.out
      obtain ⟨lo, hlo⟩ := HPL.out
      have hways : waysOk r ways = true := by rw [hlo]; exact playF_ways HB1.out (by rw [← hlo]; exact h3)
      have hRS : R = canF r ways 3 := by
        rw [← HR.out]
        unfold ranksStillF
        rw [HB1.out, hways]
        rfl
      have hpick : ∀ (W : World) (k : Nat), k < 3 → Below w1.heap.size w1 W → Calls Try.prog 30 #[.slice va r.length vc, .slice ua ways.length uc, .int .i64 ((k : Int) + 1)] W fun e w' => ∃ v', e = .returned v' ∧ OwnInts w' W.heap.size v' (pickF (r.getD k []) ways) ∧ Below W.heap.size W w' := fun W k hk hW => by
        have := implPick_any _ _ _ _ ((k : Int) + 1) W (G.out.below hW) (U.out.below hW)
        rw [ranksPickF_yes HB1.out hways hk] at this
        exact this
      rw [h3] at hpick huc U
      have HPICK := Lib.hid hpick
      have HRS := Lib.hid hRS
      have HU3 := Lib.hid h3
      rw [h3] at HSP ⊢
      clear hr3 hlo hways hRS hpick h3
      go_wp2_with fail
      go_loopg [6, 7] 3 (fun g s i wr => ∃ k : Nat, i = .int .i64 ((k : Int) + 1) ∧ k + g = 3 ∧ Hid (Below w1.heap.size w1 wr) ∧ Hid (Below w.heap.size w wr) ∧ ∃ b : Bool, s = .bool b ∧ Hid (b = canF r ways k))
      case atStart => exact ⟨0, rfl, by omega, B1, BB, true, rfl, Lib.hid rfl⟩
      case round =>
        obtain ⟨k, rfl, hk, hB1, hBB, b, rfl, hb⟩ := hrel
        by_cases hg : gk = 0
        · subst hg
          obtain rfl : k = 3 := by omega
          obtain rfl : b = R := by rw [hb.out, HRS.out]
          go_wp2_with fail
          go_ret
          exact ⟨rfl, hBB.out⟩
        · have hkn : k < 3 := by omega
          have hkI : (k : Int) < 3 := by omega
          have hkJ : (k : Int) + 1 ≤ 3 := by omega
          have i1 : (k : Int) + 1 - 1 = (k : Int) := by omega
          have i3 : IntKind.i64.wrap (k : Int) = (k : Int) := IntWalk.i64_in _ (by omega)
          have k0 : (0 : Int) ≤ (k : Int) := by omega
          obtain ⟨ub, uoff, v2, rfl, hub, hux, hp⟩ := (U.out.below hB1.out).get k hkn
          obtain ⟨c, hcc⟩ : ∃ c, decide (pickF (r.getD k []) ways = ways.getD k []) = c := ⟨_, rfl⟩
          have hly : ∀ v' w1 B, OwnInts w1 B v' (pickF (r.getD k []) ways) → Below wr.heap.size wr w1 → Calls Try.prog 29 #[v', v2] w1 fun e w' => e = .returned (.bool c) ∧ Drew w1 w' := fun v' w1 B ho hb => by
            rw [← hcc]; exact lyInts_any _ _ _ _ _ ho.ints (hp.below hb)
          have HLY := Lib.hid hly
          have HC := Lib.hid hcc
          have HK := Lib.hid hk
          clear hly hcc hk hp
          cases b
          · go_wp2_with fail
            go_quiet (fail)
            go_wp2_with fail
            go_roundg (gk - 1)
            case measure => omega
            case rel =>
              exact ⟨k + 1, by go_num, by have := HK.out; omega, Lib.hid (belowDrewN hB1.out _), Lib.hid (belowDrewN hBB.out _), false, rfl, Lib.hid (by rw [canF_succ, ← hb.out]; rfl)⟩
          · go_wp2_with fail
            go_region_held3 (fun w' => w'.cell? ⟨ub, uoff + k, none⟩ = some v2) ((simp [go_sem, *])) (first | (go_at_call 30; refine (HPICK.out _ k hkn (by refine hB1.out.trans (Below.mono ?_ hB1.out.size); repeat (first | exact Below.refl _ _ | assumption | refine Below.drew ?_ | refine belowDrewN ?_ _ | refine Below.alloc ?_ (by first | exact Nat.le_refl _ | omega | (simp; done) | (simp; omega)) _ | refine Below.setCell ?_ (by first | exact Nat.le_refl _ | omega | (simp; done) | (simp; omega)) _))).mono ?_; rintro e w6 ⟨v', rfl, ho, hb6⟩; have HO := Lib.hid ho; have hB6 : Below wr.heap.size wr w6 := (by refine Below.trans ?_ (hb6.mono (by first | exact Nat.le_refl _ | omega | (simp; done) | (simp; omega))); repeat (first | exact Below.refl _ _ | assumption | refine Below.drew ?_ | refine belowDrewN ?_ _ | refine Below.alloc ?_ (by first | exact Nat.le_refl _ | omega | (simp; done) | (simp; omega)) _ | refine Below.setCell ?_ (by first | exact Nat.le_refl _ | omega | (simp; done) | (simp; omega)) _)); obtain ⟨hc1, hf1⟩ := bcell hB6; clear ho hb6) | (go_at_call 29; refine (HLY.out _ _ _ HO.out hB6).mono ?_; rintro e w7 ⟨rfl, q, rfl⟩))
            all_goals
              go_wp2_with fail
              go_roundg (gk - 1)
              case measure => omega
              case rel =>
                have hB7 := hB6.trans (belowDrewN (Below.refl wr.heap.size w6) q)
                exact ⟨k + 1, by go_num, by have := HK.out; omega, Lib.hid (hB1.out.trans (hB7.mono hB1.out.size)), Lib.hid (hBB.out.trans (hB7.mono hBB.out.size)), c, rfl, Lib.hid (by rw [canF_succ, ← hb.out, HC.out]; rfl)⟩
    · have hrest : b1 = false ∨ (b1 = true ∧ ¬ ways.length = 3) := by
        cases b1 <;> simp at hmain ⊢
        exact hmain
      clear hmain
      rcases hrest with e | ⟨e, h3⟩
      all_goals
        subst e
        first
          | (have hx3 : ((ways.length : Int) != 3) = true := by simp; omega)
          | skip
        try clear h3
        go_wp2_with fail
        refine (HSP.out _ B1.out).mono ?_
        rintro e w6 ⟨rfl, hb⟩
        go_wp2_with fail
        go_ret
        exact ⟨rfl, BB.out.trans (hb.mono BB.out.size)⟩
end Go.Proofs.Ytlkchhedlbaomaa
