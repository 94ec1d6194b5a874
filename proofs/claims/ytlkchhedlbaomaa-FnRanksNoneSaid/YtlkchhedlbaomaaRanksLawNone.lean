/- The walk of FnRanksNone. -/
import Derived.Test.YtlkchhedlbaomaaRanksLawPick
import Derived.Test.YtlkchhedlbaomaaRanksLy
import Derived.Test.YtlkchhedlbaomaaRanksWays2
import Derived.Test.YtlkchhedlbaomaaRanksPlain5
import Derived.Test.YtlkchhedlbaomaaRanksManyI
namespace Go.Proofs.Ytlkchhedlbaomaa
open Go.RowKit
set_option linter.unusedVariables false

theorem none_lit (w : World) : GridAt ((((w.alloc (.cells #[] 27)).alloc (.cells #[] 27)).alloc (.cells #[] 27)).alloc (.cells #[.slice (some ⟨w.heap.size, 0, none⟩) 0 0, .slice (some ⟨w.heap.size + 1, 0, none⟩) 0 0, .slice (some ⟨w.heap.size + 1 + 1, 0, none⟩) 0 0] 26)) (.slice (some ⟨w.heap.size + 1 + 1 + 1, 0, none⟩) 3 3) [[], [], []] := by
  have h0 := rows_lit w w.heap.size w.heap.size rfl (Nat.le_refl _) [] [] rfl (by decide) (fun i hi => absurd hi (Nat.not_lt_zero _))
  have h1 := rows_lit (w.alloc (.cells #[] 27)) (w.heap.size + 1) w.heap.size (by simp) (by omega) [] [] rfl (by decide) (fun i hi => absurd hi (Nat.not_lt_zero _))
  have h2 := rows_lit ((w.alloc (.cells #[] 27)).alloc (.cells #[] 27)) (w.heap.size + 1 + 1) w.heap.size (by simp) (by omega) [] [] rfl (by decide) (fun i hi => absurd hi (Nat.not_lt_zero _))
  refine (grid_lit _ (w.heap.size + 1 + 1 + 1) w.heap.size (by simp) (by omega) [.slice (some ⟨w.heap.size, 0, none⟩) 0 0, .slice (some ⟨w.heap.size + 1, 0, none⟩) 0 0, .slice (some ⟨w.heap.size + 1 + 1, 0, none⟩) 0 0] [[], [], []] rfl (by decide) (fun i hi => ?_)).grid
  match i, hi with
  | 0, _ => exact (h0.alloc _).alloc _
  | 1, _ => exact h1.alloc _
  | 2, _ => exact h2

set_option maxRecDepth 100000 in
set_option maxHeartbeats 8000000 in
theorem ranksNone_walk (a : Option Addr) (len cap : Nat) (zs : List Int) (w : World) (h : IsRow .u8 w a len cap zs) :
    Calls Try.prog 15 #[.slice a len cap] w fun e w' => e = .returned (.bool true) ∧ Below w.heap.size w w' := by
  obtain ⟨hm, hc⟩ := h.bounds
  have hc' := hc
  unfold maxLen at hc'
  have H := Lib.hid h
  have BB := Lib.hid (Below.refl w.heap.size w)
  clear h
  go_enter Try.func15, Try.ntmps15
  by_cases hl : 1048576 < len
  · go_wp2_with fail
    go_ret
    exact ⟨rfl, Below.refl _ _⟩
  · go_wp2_with fail
    refine (drawPlay_any _ _ _ zs _ H.out).mono ?_
    rintro e w1 ⟨v, ub, uc, r, order, rfl, hg, hu, hb⟩
    obtain ⟨va, vc, e', hvc, hvm⟩ := hg.form
    subst e'
    obtain ⟨_, huc, hum⟩ := hu.len
    have G := Lib.hid hg
    have U := Lib.hid hu
    have BB := Lib.hid (BB.out.trans (hb.mono BB.out.size))
    clear hg hu hb
    obtain ⟨P, hP⟩ : ∃ P, (playF r order).1 = P := ⟨_, rfl⟩
    obtain ⟨d, hd⟩ : ∃ d, (playF r order).2 = d := ⟨_, rfl⟩
    have himpl : ∀ W, Below w1.heap.size w1 W → Calls Try.prog 27 #[.slice va r.length vc, .slice (some ⟨ub, 0, none⟩) order.length uc] W fun e w' => ∃ v', e = .returned (.tuple #[v', .bool d]) ∧ WaysOwn w' W.heap.size v' P ∧ Below W.heap.size W w' := fun W hW => by rw [← hP, ← hd]; exact implPlay_any _ _ r order W (G.out.below hW) (U.out.below hW)
    have hspec := specPlay_any _ _ r order w1 G.out U.out
    have hspec' : Calls Try.prog 26 #[.slice va r.length vc, .slice (some ⟨ub, 0, none⟩) order.length uc] w1 fun e w' => ∃ v', e = .returned (.tuple #[v', .bool d]) ∧ WaysOwn w' w1.heap.size v' P ∧ Below w1.heap.size w1 w' := by rw [← hP, ← hd]; exact hspec
    have HIM := Lib.hid himpl
    have HSP := Lib.hid hspec'
    have HPP := Lib.hid hP
    have HDD := Lib.hid hd
    have B1 := Lib.hid (Below.refl w1.heap.size w1)
    clear himpl hspec hspec' hP hd
    go_wp2_with fail
    refine (HSP.out).mono ?_
    rintro e w2 ⟨v2, rfl, ho, hb⟩
    obtain ⟨sa2, sc2, e', _, _⟩ := ho.rowsAt.form
    subst e'
    have W0 := Lib.hid ho.rowsAt
    have BB := Lib.hid (BB.out.trans (hb.mono BB.out.size))
    have B1 := Lib.hid (B1.out.trans (hb.mono B1.out.size))
    clear ho hb
    go_wp2_with fail
    refine (HIM.out _ B1.out).mono ?_
    rintro e w3 ⟨v3, rfl, ho, hb⟩
    obtain ⟨sa3, sc3, e', hsc3, hsm3⟩ := ho.rowsAt.form
    subst e'
    have X0 := Lib.hid ho.rowsAt
    have W0 := Lib.hid (W0.out.below hb)
    have BB := Lib.hid (BB.out.trans (hb.mono BB.out.size))
    have B1 := Lib.hid (B1.out.trans (hb.mono B1.out.size))
    clear ho hb
    have hdd : (d != d) = false := by simp
    have hde : (d == d) = true := by simp
    cases d
    · go_wp2_with (go_at_call 28; refine (lyWaysOne _ _ _ X0.out W0.out).mono ?_; rintro e w4 ⟨rfl, q4, rfl⟩)
      refine (lyWaysOne _ _ _ (X0.out.drew ⟨_, rfl⟩) (W0.out.drew ⟨_, rfl⟩)).mono ?_
      rintro e w5 ⟨rfl, q5, rfl⟩
      go_wp2_with fail
      go_ret
      exact ⟨rfl, belowDrewN BB.out _⟩
    · go_wp2_with fail
      refine (lyWaysOne _ _ _ X0.out W0.out).mono ?_
      rintro e w4 ⟨rfl, hd4⟩
      have X0 := Lib.hid (X0.out.drew hd4)
      have BB := Lib.hid (BB.out.trans (hd4.below _))
      have B1 := Lib.hid (B1.out.trans (hd4.below _))
      clear hd4 W0
      have hyes : ranksOk r = true ∧ orderOk order = true := by
        by_cases h : ranksOk r = true ∧ orderOk order = true
        · exact h
        · have e := HDD.out; rw [playF_no h] at e; cases e
      have hP : P = playW r order := by rw [← HPP.out, playF_yes hyes.1 hyes.2]
      subst hP
      have hol := orderOk_len hyes.2
      have hpl := playW_len r order
      have hr3 := ranksOk_len hyes.1
      rw [hpl] at X0 hsc3 ⊢
      have G4 := Lib.hid (G.out.below B1.out)
      rw [hr3] at G4 hvc ⊢
      have HN := Lib.hid (fun k (hk : r.getD k [] = []) => play_none (r := r) (order := order) (h := k) hk)
      clear hr3 hpl hyes hol HIM HSP
      go_wp2_with fail
      go_loopg [9] 3 (fun g i wr => ∃ k : Nat, i = .int .i64 ((k : Int) + 1) ∧ k + g = 3 ∧ wr = w4)
      case atStart => exact ⟨0, rfl, by omega, rfl⟩
      case round =>
        obtain ⟨k, rfl, hk, rfl⟩ := hrel
        by_cases hg : gk = 0
        · subst hg
          obtain rfl : k = 3 := by omega
          go_wp2_with fail
          refine (implMany_any _ _ _ (none_lit _)).mono ?_
          rintro e w5 ⟨rfl, hb⟩
          have hm := many_none
          have BB := Lib.hid (BB.out.trans ((by repeat (first | exact Below.refl _ _ | assumption | refine Below.drew ?_ | refine belowDrewN ?_ _ | refine Below.alloc ?_ (by first | exact Nat.le_refl _ | omega | (simp; done) | (simp; omega)) _ | refine Below.setCell ?_ (by first | exact Nat.le_refl _ | omega | (simp; done) | (simp; omega)) _) : Below wr.heap.size wr _).trans (hb.mono (by first | exact Nat.le_refl _ | omega | (simp; done) | (simp; omega))) |>.mono BB.out.size))
          clear hb
          rw [hm]
          go_wp2_with fail
          go_ret
          exact ⟨rfl, BB.out⟩
        · have hkn : k < 3 := by omega
          have hkI : (k : Int) < 3 := by omega
          have hkJ : (k : Int) + 1 ≤ 3 := by omega
          have i1 : (k : Int) + 1 - 1 = (k : Int) := by omega
          have i3 : IntKind.i64.wrap (k : Int) = (k : Int) := IntWalk.i64_in _ (by omega)
          have k0 : (0 : Int) ≤ (k : Int) := by omega
          obtain ⟨gb, goff, v5, rfl, hgb, hgx, hrow⟩ := G4.out.get k hkn
          obtain ⟨ra, rc, rfl, hrc, hrm⟩ := hrow.form
          obtain ⟨xb, xoff, v6, rfl, hxb, hxx, hway⟩ := X0.out.get k hkn
          obtain ⟨wa, wc, rfl, hwc, hwm⟩ := hway.form
          have HK := Lib.hid hk
          clear hk hg hrow hway
          by_cases hz : r.getD k [] = []
          · have hw0 := HN.out k hz
            rw [hz] at hgx
            rw [hw0] at hxx
            clear hz hw0
            go_wp2_with fail
            go_roundg (gk - 1)
            case measure => have := HK.out; omega
            case rel => exact ⟨k + 1, by go_num, by have := HK.out; omega, rfl⟩
          · obtain ⟨n, hn⟩ : ∃ n, (r.getD k []).length = n := ⟨_, rfl⟩
            have hn0 : n ≠ 0 := fun e => hz (List.length_eq_zero_iff.1 (by omega))
            have hne : ((n : Int) == 0) = false := by simp only [beq_eq_false_iff_ne, ne_eq]; omega
            rw [hn] at hgx
            clear hz hn hn0
            go_wp2_with fail
            go_roundg (gk - 1)
            case measure => have := HK.out; omega
            case rel => exact ⟨k + 1, by go_num, by have := HK.out; omega, rfl⟩
end Go.Proofs.Ytlkchhedlbaomaa
