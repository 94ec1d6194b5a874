/- The walk of FnRanksHome. -/
import Derived.Test.YtlkchhedlbaomaaRanksLawPick
import Derived.Test.YtlkchhedlbaomaaRanksLy
import Derived.Test.YtlkchhedlbaomaaRanksWays2
import Derived.Test.YtlkchhedlbaomaaRanksPlain5
import Derived.Test.YtlkchhedlbaomaaRanksManyI
import Derived.Test.YtlkchhedlbaomaaRanksGrid
import Derived.Deep.RegionHeld3
namespace Go.Proofs.Ytlkchhedlbaomaa
open Go.RowKit
set_option linter.unusedVariables false

def directF (k : Nat) : List (List (List Int)) := (List.range k).map fun (i : Nat) => [[((i : Nat) : Int) + 1, 0]]
theorem directF_len (k : Nat) : (directF k).length = k := by simp [directF]
theorem directF_succ (k : Nat) : directF (k + 1) = directF k ++ [[[(k : Int) + 1, 0]]] := by simp [directF, List.range_succ]
theorem directF_three : directF 3 = [[[1, 0]], [[2, 0]], [[3, 0]]] := by decide +kernel
/-- one way from home, in a list of its own, in a list of its own -/
theorem direct_one (w : World) (lo : Nat) (hlo : lo ≤ w.heap.size) (x : Int) (o : Obj) :
    RankOwn (((w.alloc (.cells #[.int .i64 x, .int .i64 0] 3)).alloc (.cells #[.slice (some ⟨w.heap.size, 0, none⟩) 2 2] 27)).alloc o) lo lo (.slice (some ⟨w.heap.size + 1, 0, none⟩) 1 1) [[x, 0]] := by
  have h1 := ints_lit w w.heap.size lo rfl hlo [x, 0] (by simp)
  have h2 := rank_one (w.alloc (.cells #[.int .i64 x, .int .i64 0] 3)) (w.heap.size + 1) lo lo (by simp) (by omega) _ _ h1
  exact h2.below ((Below.refl _ _).alloc (Nat.le_refl _) _)

set_option maxRecDepth 100000 in
set_option maxHeartbeats 8000000 in
theorem ranksHome_walk (a : Option Addr) (len cap : Nat) (zs : List Int) (w : World) (h : IsRow .u8 w a len cap zs) :
    Calls Try.prog 14 #[.slice a len cap] w fun e w' => e = .returned (.bool true) ∧ Below w.heap.size w w' := by
  obtain ⟨hm, hc⟩ := h.bounds
  have hc' := hc
  unfold maxLen at hc'
  have H := Lib.hid h
  have BB := Lib.hid (Below.refl w.heap.size w)
  clear h
  go_enter Try.func14, Try.ntmps14
  by_cases hl : 1048576 < len
  · go_wp2_with fail
    go_ret
    exact ⟨rfl, Below.refl _ _⟩
  · go_wp2_with fail
    refine (drawPlay_any _ _ _ zs _ H.out).mono ?_
    rintro e w1 ⟨v, ub, uc, r, order, rfl, hg, hu, hb⟩
    obtain ⟨va, vc, e', hvc, hvm⟩ := hg.form
    subst e'
    obtain ⟨_, huc, hum⟩ := hu.len
    have G := Lib.hid hg
    have U := Lib.hid hu
    have BB := Lib.hid (BB.out.trans (hb.mono BB.out.size))
    clear hg hu hb
    obtain ⟨P, hP⟩ : ∃ P, (playF r order).1 = P := ⟨_, rfl⟩
    obtain ⟨d, hd⟩ : ∃ d, (playF r order).2 = d := ⟨_, rfl⟩
    have himpl : ∀ W, Below w1.heap.size w1 W → Calls Try.prog 27 #[.slice va r.length vc, .slice (some ⟨ub, 0, none⟩) order.length uc] W fun e w' => ∃ v', e = .returned (.tuple #[v', .bool d]) ∧ WaysOwn w' W.heap.size v' P ∧ Below W.heap.size W w' := fun W hW => by rw [← hP, ← hd]; exact implPlay_any _ _ r order W (G.out.below hW) (U.out.below hW)
    have hspec := specPlay_any _ _ r order w1 G.out U.out
    have hspec' : Calls Try.prog 26 #[.slice va r.length vc, .slice (some ⟨ub, 0, none⟩) order.length uc] w1 fun e w' => ∃ v', e = .returned (.tuple #[v', .bool d]) ∧ WaysOwn w' w1.heap.size v' P ∧ Below w1.heap.size w1 w' := by rw [← hP, ← hd]; exact hspec
    have HIM := Lib.hid himpl
    have HSP := Lib.hid hspec'
    have HPP := Lib.hid hP
    have HDD := Lib.hid hd
    have B1 := Lib.hid (Below.refl w1.heap.size w1)
    clear himpl hspec hspec' hP hd
    go_wp2_with fail
    refine (HSP.out).mono ?_
    rintro e w2 ⟨v2, rfl, ho, hb⟩
    obtain ⟨sa2, sc2, e', _, _⟩ := ho.rowsAt.form
    subst e'
    have W0 := Lib.hid ho.rowsAt
    have BB := Lib.hid (BB.out.trans (hb.mono BB.out.size))
    have B1 := Lib.hid (B1.out.trans (hb.mono B1.out.size))
    clear ho hb
    go_wp2_with fail
    refine (HIM.out _ B1.out).mono ?_
    rintro e w3 ⟨v3, rfl, ho, hb⟩
    obtain ⟨sa3, sc3, e', hsc3, hsm3⟩ := ho.rowsAt.form
    subst e'
    have X0 := Lib.hid ho.rowsAt
    have W0 := Lib.hid (W0.out.below hb)
    have BB := Lib.hid (BB.out.trans (hb.mono BB.out.size))
    have B1 := Lib.hid (B1.out.trans (hb.mono B1.out.size))
    clear ho hb
    have hdd : (d != d) = false := by simp
    have hde : (d == d) = true := by simp
    cases d
    · go_wp2_with (go_at_call 28; refine (lyWaysOne _ _ _ X0.out W0.out).mono ?_; rintro e w4 ⟨rfl, q4, rfl⟩)
      refine (lyWaysOne _ _ _ (X0.out.drew ⟨_, rfl⟩) (W0.out.drew ⟨_, rfl⟩)).mono ?_
      rintro e w5 ⟨rfl, q5, rfl⟩
      go_wp2_with fail
      go_ret
      exact ⟨rfl, belowDrewN BB.out _⟩
    · go_wp2_with fail
      refine (lyWaysOne _ _ _ X0.out W0.out).mono ?_
      rintro e w4 ⟨rfl, hd4⟩
      have X0 := Lib.hid (X0.out.drew hd4)
      have BB := Lib.hid (BB.out.trans (hd4.below _))
      have B1 := Lib.hid (B1.out.trans (hd4.below _))
      clear hd4 W0
      have hyes : ranksOk r = true ∧ orderOk order = true := by
        by_cases h : ranksOk r = true ∧ orderOk order = true
        · exact h
        · have e := HDD.out; rw [playF_no h] at e; cases e
      have hP : P = playW r order := by rw [← HPP.out, playF_yes hyes.1 hyes.2]
      subst hP
      have hol := orderOk_len hyes.2
      have hpl := playW_len r order
      have hr3 := ranksOk_len hyes.1
      have HPW := Lib.hid hyes
      rw [hpl] at X0 hsc3 ⊢
      obtain ⟨lo, hlo⟩ : ∃ lo, w4.heap.size = lo := ⟨_, rfl⟩
      obtain ⟨i2, hi2, hz20, hz21, hz22⟩ := info_parts info_r3D
      obtain ⟨n, hn⟩ : ∃ n, order.length = n := ⟨_, rfl⟩
      have hU := U.out
      rw [hn] at hU hol huc ⊢
      have UU := Lib.hid hU
      have HN := Lib.hid hn
      have h0 : Hid (GridOwn (w4.alloc (.cells #[] 26)) lo lo (.slice (some ⟨w4.heap.size, 0, none⟩) 0 0) (directF 0)) := Lib.hid ⟨[], rfl, World.ownsRow_made w4 #[] 0 (by omega) (Nat.zero_le _) rfl, fun i hi => absurd hi (Nat.not_lt_zero _)⟩
      have hb0 : Hid (Below lo w4 (w4.alloc (.cells #[] 26))) := Lib.hid ((Below.refl _ _).alloc (by omega) _)
      have HLO := Lib.hid hlo
      clear hr3 hpl hyes HIM HSP hU hn hlo
      go_wp2_with fail
      go_loopg [9, 10] 3 (fun g v i wr => ∃ (k : Nat) (da : Option Addr) (dc : Nat), v = .slice da k dc ∧ i = .int .i64 ((k : Int) + 1) ∧ k + g = 3 ∧ k ≤ dc ∧ dc ≤ 9223372036854775807 ∧ Hid (GridOwn wr lo lo (.slice da k dc) (directF k)) ∧ Hid (Below lo w4 wr))
      case atStart => exact ⟨0, _, _, rfl, rfl, rfl, Nat.le_refl _, by omega, h0, hb0⟩
      case round =>
        obtain ⟨k, da, dc, rfl, rfl, hk, hkd, hdm, hgo, hbe⟩ := hrel
        by_cases hg : gk = 0
        · subst hg
          obtain rfl : k = 3 := by omega
          have hG := hgo.out.grid
          rw [directF_three] at hG
          have HG3 := Lib.hid hG
          have hplay := playF_yes direct_ok HPW.out.2
          have hcall := implPlay_any _ _ _ _ wr HG3.out (UU.out.below (B1.out.trans (hbe.out.mono (by rw [← HLO.out]; exact B1.out.size))))
          unfold PlayPost at hcall
          rw [hplay] at hcall
          have HCALL := Lib.hid hcall
          clear hG hplay hcall hgo hk
          go_wp2_with fail
          refine (HCALL.out).mono ?_
          rintro e w6 ⟨v6, rfl, ho, hb⟩
          have hr6 := ho.rowsAt
          obtain ⟨sa6, sc6, e', hs6, hm6⟩ := hr6.form
          subst e'
          rw [playW_len] at hr6 hs6 ⊢
          have X6 := Lib.hid hr6
          have G6 := Lib.hid (HG3.out.below hb)
          have hB6 := hbe.out.trans (hb.mono (by rw [← HLO.out]; exact hbe.out.size))
          have BB6 := Lib.hid (BB.out.trans (hB6.mono (by rw [← HLO.out]; exact BB.out.size)))
          have U6 := Lib.hid (UU.out.below (B1.out.trans (hB6.mono (by rw [← HLO.out]; exact B1.out.size))))
          clear ho hb hr6 hB6 HG3 hbe
          go_wp2_with fail
          go_loopg [13] n (fun g i wr => ∃ k : Nat, i = .int .i64 (k : Int) ∧ k + g = n ∧ Hid (Below w6.heap.size w6 wr))
          case atStart => exact ⟨0, rfl, by omega, Lib.hid (Below.refl _ _)⟩
          case round =>
            obtain ⟨k, rfl, hk, hbr⟩ := hrel
            by_cases hg : gk = 0
            · subst hg
              obtain rfl : k = n := by omega
              have hmany := implMany_any _ _ _ (G6.out.below hbr.out)
              rw [many_direct] at hmany
              have HM := Lib.hid hmany
              clear hmany
              go_wp2_with (go_at_call 33; refine (HM.out).mono ?_; rintro e w7 ⟨rfl, hb7⟩)
              go_ret
              exact ⟨rfl, BB6.out.trans ((hbr.out.trans (hb7.mono hbr.out.size)).mono BB6.out.size)⟩
            · have hkn : k < n := by omega
              have hkI : (k : Int) < (n : Int) := by omega
              obtain ⟨x1, x3⟩ := orderOk_at HPW.out.2 (by rw [HN.out]; exact hkn : k < order.length)
              obtain ⟨j, hj⟩ : ∃ j : Nat, order.getD k 0 = (j : Int) + 1 := ⟨(order.getD k 0 - 1).toNat, by omega⟩
              have hj3 : j < 3 := by omega
              have hpd := play_direct HPW.out.2 (by rw [HN.out]; exact hkn : k < order.length)
              rw [hj, show ((j : Int) + 1 - 1).toNat = j by omega] at hpd
              obtain ⟨ub', uoff, e, hub, hux⟩ := (U6.out.below hbr.out).get k hkn
              simp only [Option.some.injEq, Addr.mk.injEq] at e
              obtain ⟨rfl, rfl, _⟩ := e
              rw [hj, Nat.zero_add] at hux
              obtain ⟨xb, xoff, v9, rfl, hxb, hxx, hway⟩ := (X6.out.below hbr.out).get j hj3
              rw [hpd] at hway
              obtain ⟨wa, wc, rfl, hwc, hwm⟩ := hway.form
              have hly : ∀ W u, Below wr.heap.size wr W → IntsAt W u [(j : Int) + 1, 0] → Calls Try.prog 29 #[.slice wa 2 wc, u] W fun e w' => e = .returned (.bool true) ∧ Drew W w' := fun W u hW hu => by
                have := lyInts_any _ u _ _ W (hway.below hW) hu; simpa using this
              have HLY := Lib.hid hly
              have HLIT : Hid (∀ W, Drew (wr.alloc (.cells #[.int .i64 ((j : Int) + 1), .int .i64 0] 3)) W → IntsAt W (.slice (some ⟨wr.heap.size, 0, none⟩) 2 2) [(j : Int) + 1, 0]) := Lib.hid fun W hW => (ints_lit wr _ 0 rfl (Nat.zero_le _) [(j : Int) + 1, 0] (by simp)).1.drew hW
              have HK := Lib.hid hk
              have i1 : (j : Int) + 1 - 1 = (j : Int) := by omega
              have j0 : (0 : Int) ≤ (j : Int) := by omega
              have i3 : IntKind.i64.wrap (j : Int) = (j : Int) := IntWalk.i64_in _ (by omega)
              have k0 : (0 : Int) ≤ (k : Int) := by omega
              have hubw : ub < wr.heap.size := hub
              have hjI : (j : Int) < 3 := by omega
              clear hly hk hg hj hpd hway x1 x3
              go_wp2_with fail
              go_region_held3 (fun w' => w'.cell? ⟨ub, k, none⟩ = some (.int .i64 ((j : Int) + 1)) ∧ w'.cell? ⟨xb, xoff + j, none⟩ = some (.slice wa 2 wc)) ((simp [go_sem, *])) (first | (go_at_call 29; refine (HLY.out _ _ (by repeat (first | exact Below.refl _ _ | assumption | refine Below.drew ?_ | refine belowDrewN ?_ _ | refine Below.alloc ?_ (by first | exact Nat.le_refl _ | omega | (simp; done) | (simp; omega)) _ | refine Below.setCell ?_ (by first | exact Nat.le_refl _ | omega | (simp; done) | (simp; omega)) _)) (HLIT.out _ (by first | exact Drew.refl _ | exact ⟨1, rfl⟩))).mono ?_; rintro e w7 ⟨rfl, hd7⟩; have hB7 : Below wr.heap.size wr w7 := (by refine Below.trans ?_ (hd7.below _); repeat (first | exact Below.refl _ _ | assumption | refine Below.drew ?_ | refine belowDrewN ?_ _ | refine Below.alloc ?_ (by first | exact Nat.le_refl _ | omega | (simp; done) | (simp; omega)) _ | refine Below.setCell ?_ (by first | exact Nat.le_refl _ | omega | (simp; done) | (simp; omega)) _)); obtain ⟨hc1, hf1⟩ := bcell hB7; clear hd7))
              all_goals
                go_wp2_with fail
                go_roundg (gk - 1)
                case measure => have := HK.out; omega
                case rel => exact ⟨k + 1, by go_num, by have := HK.out; omega, Lib.hid (hbr.out.trans (hB7.mono hbr.out.size))⟩
        · have hkn : k < 3 := by omega
          have hkI : (k : Int) < 3 := by omega
          have hkJ : (k : Int) + 1 ≤ 3 := by omega
          obtain ⟨vs, hvl, hown, hrows⟩ := hgo.out
          rw [directF_len] at hvl hown
          have hsz := hbe.out.size
          have hloz : lo ≤ wr.heap.size := by rw [← HLO.out]; exact hsz
          have HV := Lib.hid hvl
          have HOWN := Lib.hid hown
          have HROWS := Lib.hid hrows
          have HK := Lib.hid hk
          have HBE := Lib.hid hbe
          clear hvl hown hrows hk hg hsz hbe
          go_wp2_with (at_builtin; refine wpList_append_own _ rfl (.tmp 60) (.tmp 64) 23 rfl lo 26 i2 (.slice none 0 0) 1 24 Try.underlying23 hi2 hz20 hz21 hz22 rfl (by decide) _ _ _ rfl (World.ownsRow.alloc (World.ownsRow.alloc (World.ownsRow.alloc (HOWN.out) _) _) _) ⟨wr.heap.size + 1 + 1, 0, none⟩ 1 1 [.slice (some ⟨wr.heap.size + 1, 0, none⟩) 1 1] rfl rfl (by intro j u hu; have := cell_one_new ((wr.alloc (.cells #[.int .i64 ((k : Int) + 1), .int .i64 0] 3)).alloc (.cells #[.slice (some ⟨wr.heap.size, 0, none⟩) 2 2] 27)) _ 26 j u hu; simpa using this) (by simp [Value.oneCell']) (by unfold maxLen; omega) (by omega) (by simp; omega) ?_; intro v' w5 hown5 hgrow5 _)
          obtain ⟨da', dc', e', hr1, hr2⟩ := owns_form hown5
          have b4 : Below wr.heap.size wr (((wr.alloc (.cells #[.int .i64 ((k : Int) + 1), .int .i64 0] 3)).alloc (.cells #[.slice (some ⟨wr.heap.size, 0, none⟩) 2 2] 27)).alloc (.cells #[.slice (some ⟨wr.heap.size + 1, 0, none⟩) 1 1] 26)) := by repeat (first | exact Below.refl _ _ | assumption | refine Below.drew ?_ | refine belowDrewN ?_ _ | refine Below.alloc ?_ (by first | exact Nat.le_refl _ | omega | (simp; done) | (simp; omega)) _ | refine Below.setCell ?_ (by first | exact Nat.le_refl _ | omega | (simp; done) | (simp; omega)) _)
          have HG5 : Hid (GridOwn w5 lo lo v' (directF (k + 1))) := Lib.hid (by
            rw [directF_succ]
            exact GridOwn.append ⟨by rw [directF_len]; exact HV.out, by rw [directF_len]; exact owns_belowR HOWN.out b4, fun i hi => (HROWS.out i hi).below b4⟩ (direct_one wr lo hloz _ _) (by rw [directF_len]; exact hown5) hgrow5)
          have HB5 := Lib.hid ((HBE.out.trans (b4.mono hloz)).grown hgrow5 (by simp; omega) (fun g hg => (World.ownsRow.lt HOWN.out g hg).1))
          clear hown5 hgrow5 b4
          subst e'
          go_roundg (gk - 1)
          case measure => have := HK.out; omega
          case rel => exact ⟨k + 1, _, _, rfl, by go_num, by have := HK.out; omega, hr1, hr2, HG5, HB5⟩
end Go.Proofs.Ytlkchhedlbaomaa
