/- The walk of FnTablesLess. -/
import Derived.Test.YtnjkifnlimfhnaaGreatDoorSendT
import Derived.Test.YtnjkifnlimfhnaaGreatDoorDropI
namespace Go.Proofs.YtnjkifnlimfhnaaGreatDoor
open Go.RowKit
set_option linter.unusedVariables false
set_option maxRecDepth 100000

theorem rem_small (x L : Nat) (h1 : 1 ≤ L) (h4 : L ≤ 1000) : ∃ k : Nat, k < L ∧ (x : Int).tmod (L : Int) = (k : Int) ∧ IntKind.i64.wrap (k : Int) = (k : Int) := by
  have hk := Nat.mod_lt x (show L > 0 by omega)
  refine ⟨x % L, hk, ?_, IntWalk.i64_in _ (by omega)⟩
  rw [Int.tmod_eq_emod_of_nonneg (by omega)]; rfl
set_option maxHeartbeats 16000000 in
theorem tablesLess_walk (a : Option Addr) (len cap : Nat) (zs : List Int) (a2 : Option Addr) (len2 cap2 : Nat) (zs2 : List Int) (w : World) (h : IsRow .u8 w a len cap zs) (hh2 : IsRow .u8 w a2 len2 cap2 zs2) (hE : ErrOk w) :
    Calls Tryz.prog 3 #[.slice a len cap, .slice a2 len2 cap2] w fun e w' => e = .returned (.bool true) ∧ Below w.heap.size w w' := by
  obtain ⟨hm, hc⟩ := h.bounds
  have hc' := hc
  unfold maxLen at hc'
  obtain ⟨hm2, hc2⟩ := hh2.bounds
  have hc2' := hc2
  unfold maxLen at hc2'
  have H := Lib.hid h
  have HE := Lib.hid hE
  clear h hE hh2
  go_enter Tryz.func3, Tryz.ntmps3
  by_cases hl : 1048576 < len
  · go_wp2_with fail
    go_ret
    exact ⟨rfl, Below.refl _ _⟩
  by_cases hl2 : 1048576 < len2
  · go_wp2_with fail
    go_ret
    exact ⟨rfl, Below.refl _ _⟩
  · go_wp2_with fail
    refine (drawSendTables_any _ _ _ zs _ H.out).mono ?_
    rintro e w1 ⟨v, hv, rs, l, n, rfl, hr, hq, hn2, hn5, hh, hl6, hb⟩
    obtain ⟨ra, rc, e', hrc, hrm⟩ := hr.form
    subst e'
    obtain ⟨la, lc, e', hlc, hlm⟩ := hh.form
    subst e'
    rw [hq.1] at hr hrc ⊢
    obtain ⟨L, hL⟩ : ∃ L, l.length = L := ⟨_, rfl⟩
    rw [hL] at hh hlc hl6 ⊢
    have hE1 := HE.out.below hb
    have himp := implSendTables_any _ _ rs l n w1 hr hh hq.1 hE1
    have hspc : ∀ W, Below w1.heap.size w1 W → Calls Tryz.prog 11 #[.slice ra n rc, .slice la L lc] W fun e w' => ∃ v', e = .returned v' ∧ TabsL w' W.heap.size v' (sendTabsF rs l n) ∧ Below W.heap.size W w' := fun W hW => specSendTables_any _ _ rs l n W (hr.below hW) hq (hh.below hW) (by omega) hn5 (by omega)
    have hhok : ∀ W, Below w1.heap.size w1 W → Calls Tryz.prog 12 #[.slice ra n rc, .slice la L lc] W fun e w' => e = .returned (.bool (homesOkF rs l)) ∧ Below W.heap.size W w' := fun W hW => implHomesOk_any _ _ rs l W (hr.below hW) (hh.below hW)
    obtain ⟨T, hT⟩ : ∃ T, sendTabsF rs l n = T := ⟨_, rfl⟩
    rw [hT] at himp hspc
    obtain ⟨B, hB⟩ : ∃ B, homesOkF rs l = B := ⟨_, rfl⟩
    rw [hB] at hhok
    have HIM := Lib.hid himp
    have HSP := Lib.hid hspc
    have HHO := Lib.hid hhok
    have HB := Lib.hid hB
    have HT := Lib.hid hT
    have HQ := Lib.hid hq
    have HH := Lib.hid hh
    have HR := Lib.hid hr
    have HL := Lib.hid hL
    have BB := Lib.hid hb
    have HE1 := Lib.hid hE1
    clear himp hspc hhok hB hT hq hh hr hb hE1 hL
    go_wp2_with fail
    refine HIM.out.mono ?_
    rintro e w2 ⟨tv, rfl, hT2, hb2⟩
    obtain ⟨ta, tc, e', htc, htm⟩ := hT2.form
    subst e'
    obtain ⟨N, hN⟩ : ∃ N, T.length = N := ⟨_, rfl⟩
    rw [hN] at hT2 htc ⊢
    have T2 := Lib.hid hT2
    have B2 := Lib.hid hb2
    clear hT2 hb2
    go_wp2_with fail
    refine (HSP.out w2 B2.out).mono ?_
    rintro e w3 ⟨sv, rfl, hS3, hb3⟩
    have B3 := Lib.hid (B2.out.trans (hb3.mono B2.out.size))
    have T3 := Lib.hid (T2.out.below hb3)
    have HLY := Lib.hid (lyTables_same _ _ T w3 T3.out.tabs hS3.tabs)
    clear hS3 hb3 T2
    go_wp2_with fail
    refine HLY.out.mono ?_
    rintro e w4 ⟨rfl, hb4⟩
    have B4 := Lib.hid (B3.out.trans (hb4.mono B3.out.size))
    have T4 := Lib.hid (T3.out.below hb4)
    clear hb4 T3 HLY
    go_wp2_with fail
    refine (HHO.out w4 B4.out).mono ?_
    rintro e w5 ⟨rfl, hb5⟩
    have B5 := Lib.hid (B4.out.trans (hb5.mono B4.out.size))
    have T5 := Lib.hid (T4.out.below hb5)
    clear hb5 T4
    have hfin : ∀ W, Below w1.heap.size w1 W → Below w.heap.size w W := fun W hW => BB.out.trans (hW.mono BB.out.size)
    have HFN := Lib.hid hfin
    clear hfin
    cases B
    · go_wp2_with fail
      refine (HSP.out w5 B5.out).mono ?_
      rintro e w6 ⟨sv6, rfl, hS6, hb6⟩
      have B6 := Lib.hid (B5.out.trans (hb6.mono B5.out.size))
      have HLY := Lib.hid (lyTables_same _ _ T w6 (T5.out.below hb6).tabs hS6.tabs)
      clear hS6 hb6
      go_wp2_with fail
      refine HLY.out.mono ?_
      rintro e w7 ⟨rfl, hb7⟩
      have B7 := Lib.hid (B6.out.trans (hb7.mono B6.out.size))
      clear hb7
      go_wp2_with fail
      go_ret
      exact ⟨rfl, HFN.out _ B7.out⟩
    · have hNn : N = n := by rw [← hN, ← HT.out]; exact sendTabs_len2 HB.out
      subst hNn
      have hget : ∀ k, k < N → T.getD k [] = tabF rs N l k L := fun k hk => by rw [← HT.out, sendTabs_get HB.out HQ.out.1 hk, HL.out]
      have htok : ∀ k, k < N → tableOkF (T.getD k []) = true := fun k hk => by rw [hget k hk, ← HL.out]; exact tabF_ok HQ.out.1 hn5 hk HB.out
      have hless : ∀ k h, k < L → h < N → (sendTabsF rs (l.take k ++ l.drop (k + 1)) N).getD h [] = dropF (T.getD h []) (l.getD k (0, 0, 0)).1 (l.getD k (0, 0, 0)).2.1 := fun k h hk hh => by
        rw [← HT.out]
        exact less_tabs HB.out HQ.out.1 (by rw [HL.out]; exact hk) hh
      have hllen : ∀ k, k < L → (sendTabsF rs (l.take k ++ l.drop (k + 1)) N).length = N := fun k hk => sendTabs_len2 (homes_drop HB.out (by rw [HL.out]; exact hk))
      have hrok : ∀ i, i < L → rangeOkF (l.getD i (0, 0, 0)).1 (l.getD i (0, 0, 0)).2.1 = true := fun i hi => (homes_house HB.out (by rw [HL.out]; exact hi)).2.2
      have hl4 : L ≤ 4 := by have := (homesOk_all HB.out).2.1; rw [HL.out] at this; exact this
      have TT := Lib.hid T5.out.tabs
      have HTOK := Lib.hid htok
      have HLESS := Lib.hid hless
      have HLL := Lib.hid hllen
      have HROK := Lib.hid hrok
      clear htok hless hllen hrok hget hN T5 HIM HSP HHO HB HT
      have hNN : ((N : Int) == (N : Int)) = true := by simp
      by_cases hL0 : L = 0
      · subst hL0
        go_wp2_with fail
        go_ret
        exact ⟨rfl, HFN.out _ B5.out⟩
      · have hLb : ((L : Int) == 0) = false := by simp [hL0]
        have hLne : (L : Int) ≠ 0 := by omega
        obtain ⟨k, hkL, hk1, hk2⟩ := rem_small len2 L (by omega) (by omega)
        have hkI : (k : Int) < (L : Int) := by omega
        have k0 : (0 : Int) ≤ (k : Int) := by omega
        have hwk : IntKind.i64.wrap ((k : Int) + 1) = (k : Int) + 1 := IntWalk.i64_in _ (by omega)
        obtain ⟨lb, loff, rfl, hlb, y0, y1, y2⟩ := HH.out.get k hkL
        have E5 := Lib.hid (HH.out.below B5.out)
        have hkL1 : (k : Int) + 1 ≤ (L : Int) := by omega
        have hkc : (k : Int) ≤ (lc : Int) := by omega
        have hk10 : (0 : Int) ≤ (k : Int) + 1 := by omega
        have hkc1 : (k : Int) + 1 ≤ (lc : Int) := by omega
        have hkL0 : k ≤ L := by omega
        have hkLn : k + 1 ≤ L := by omega
        have hkk : (k : Int) ≤ (k : Int) + 1 := by omega
        have hro := HROK.out k hkL
        have hls := fun h => HLESS.out k h hkL
        have hln := HLL.out k hkL
        have HRL := Lib.hid HR.out
        have HST := Lib.hid (fun W v hW hh => implSendTables_any (.slice ra N rc) v rs (l.take k ++ l.drop (k + 1)) N W (HR.out.below hW) hh HQ.out.1 (HE1.out.below hW))
        obtain ⟨T2, hT2⟩ : ∃ t, sendTabsF rs (l.take k ++ l.drop (k + 1)) N = t := ⟨_, rfl⟩
        rw [hT2] at HST hls hln
        obtain ⟨ent, hent⟩ : ∃ e, l.getD k (0, 0, 0) = e := ⟨_, rfl⟩
        rw [hent] at y0 y1 y2 hro hls
        obtain ⟨lf, lbt, lho⟩ := ent
        simp only at y0 y1 y2 hro hls
        have hys := fun W (hW : Below w1.heap.size w1 W) => (show W.cell? ⟨lb, loff + k * 3, none⟩ = some (.int .i64 lf) ∧ W.cell? ⟨lb, loff + k * 3 + 1, none⟩ = some (.int .i64 lbt) from ⟨(hW.cell (p := ⟨lb, loff + k * 3, none⟩) hlb).trans y0, (hW.cell (p := ⟨lb, loff + k * 3 + 1, none⟩) hlb).trans y1⟩)
        have HYS := Lib.hid hys
        have HRO := Lib.hid hro
        have HLS := Lib.hid hls
        have HLN := Lib.hid hln
        have hs15 : w1.heap.size ≤ w5.heap.size := B5.out.size
        clear hT2 hent y0 y1 y2 hro hls hln hys HLESS HLL HROK
        go_upto_region 10 with fail
        go_cut [9] (fun s9 wx => ∃ (xa : Option Addr) (xc : Nat), s9 = .slice xa N xc ∧ Hid (TabsAt wx (.slice xa N xc) T2) ∧ Hid (Below w5.heap.size w5 wx))
        case first =>
          by_cases hck : lc = k + 1
          · obtain rfl : L = k + 1 := by omega
            subst hck
            go_region_law (first
              | (refine step_append_homs rfl (.tmp 55) (.tmp 58) rfl w5.heap.size _ _ [] (l.take k) k (by rw [List.length_take, HL.out]; simp <;> omega) rfl (HomNew.zero _) rfl (EntsAt.below (EntsAt.take E5.out (k := k) (by omega)) (by repeat (first | exact Below.refl _ _ | assumption | refine Below.drew ?_ | refine belowDrewN ?_ _ | refine Below.alloc ?_ (by first | exact Nat.le_refl _ | omega | (simp; done) | (simp; omega)) _ | refine Below.setCell ?_ (by first | exact Nat.le_refl _ | omega | (simp; done) | (simp; omega)) _))) (by omega) (by simp) ?_; intro ad6 c6 w6 hH6 hb6 hs6; have H6 := Lib.hid hH6; have B6 : Hid (Below w5.heap.size w5 w6) := Lib.hid (Below.trans (by repeat (first | exact Below.refl _ _ | assumption | refine Below.drew ?_ | refine belowDrewN ?_ _ | refine Below.alloc ?_ (by first | exact Nat.le_refl _ | omega | (simp; done) | (simp; omega)) _ | refine Below.setCell ?_ (by first | exact Nat.le_refl _ | omega | (simp; done) | (simp; omega)) _)) hb6); clear hH6 hb6)
              | (refine step_append_homs rfl (.tmp 59) (.tmp 63) rfl w5.heap.size _ _ (([] : List Ent) ++ l.take k) (l.drop (k + 1)) ((k + 1) - 1) (by rw [List.nil_append, List.length_take, List.length_drop, HL.out]; omega) rfl H6.out rfl (by first | exact EntsAt.below (EntsAt.dropAt E5.out (k := k + 1) (by omega)) B6.out | exact entsAt_nil (by rw [List.length_drop, HL.out]; omega) (by omega) (by omega)) (by omega) B6.out.size ?_; intro ad7 c7 w7 hH7 hb7 hs7; have H7 := Lib.hid hH7; have B7 : Hid (Below w5.heap.size w5 w7) := Lib.hid (Below.trans B6.out hb7); clear hH7 hb7)
              | (go_simp; go_at_call 9; refine (HST.out _ _ (by first | exact B5.out.trans (B7.out.mono hs15) | exact Below.drew (B5.out.trans (B7.out.mono hs15))) (by first | exact H7.out.ents | exact H7.out.ents.below (Below.drew (Below.refl _ _)))).mono ?_; rintro e w8 ⟨v8, rfl, hT8, hb8⟩; have T8 := Lib.hid hT8.tabs; have B8 : Hid (Below w5.heap.size w5 w8) := Lib.hid (by refine Below.trans ?_ (hb8.mono (by first | exact B7.out.size | exact B7.out.size)); first | exact B7.out | exact Below.drew B7.out); obtain ⟨xa, xc, e', _, _⟩ := hT8.form; subst e'; rw [HLN.out] at T8 ⊢; clear hT8 hb8))
            all_goals
              go_wp2_with fail
              go_meet
              exact ⟨_, _, rfl, T8, B8⟩
          · go_region_law (first
              | (refine step_append_homs rfl (.tmp 55) (.tmp 58) rfl w5.heap.size _ _ [] (l.take k) k (by rw [List.length_take, HL.out]; simp <;> omega) rfl (HomNew.zero _) rfl (EntsAt.below (EntsAt.take E5.out (k := k) (by omega)) (by repeat (first | exact Below.refl _ _ | assumption | refine Below.drew ?_ | refine belowDrewN ?_ _ | refine Below.alloc ?_ (by first | exact Nat.le_refl _ | omega | (simp; done) | (simp; omega)) _ | refine Below.setCell ?_ (by first | exact Nat.le_refl _ | omega | (simp; done) | (simp; omega)) _))) (by omega) (by simp) ?_; intro ad6 c6 w6 hH6 hb6 hs6; have H6 := Lib.hid hH6; have B6 : Hid (Below w5.heap.size w5 w6) := Lib.hid (Below.trans (by repeat (first | exact Below.refl _ _ | assumption | refine Below.drew ?_ | refine belowDrewN ?_ _ | refine Below.alloc ?_ (by first | exact Nat.le_refl _ | omega | (simp; done) | (simp; omega)) _ | refine Below.setCell ?_ (by first | exact Nat.le_refl _ | omega | (simp; done) | (simp; omega)) _)) hb6); clear hH6 hb6)
              | (refine step_append_homs rfl (.tmp 59) (.tmp 63) rfl w5.heap.size _ _ (([] : List Ent) ++ l.take k) (l.drop (k + 1)) (L - 1) (by rw [List.nil_append, List.length_take, List.length_drop, HL.out]; omega) rfl H6.out rfl (by first | exact EntsAt.below (EntsAt.dropAt E5.out (k := k + 1) (by omega)) B6.out | exact entsAt_nil (by rw [List.length_drop, HL.out]; omega) (by omega) (by omega)) (by omega) B6.out.size ?_; intro ad7 c7 w7 hH7 hb7 hs7; have H7 := Lib.hid hH7; have B7 : Hid (Below w5.heap.size w5 w7) := Lib.hid (Below.trans B6.out hb7); clear hH7 hb7)
              | (go_simp; go_at_call 9; refine (HST.out _ _ (by first | exact B5.out.trans (B7.out.mono hs15) | exact Below.drew (B5.out.trans (B7.out.mono hs15))) (by first | exact H7.out.ents | exact H7.out.ents.below (Below.drew (Below.refl _ _)))).mono ?_; rintro e w8 ⟨v8, rfl, hT8, hb8⟩; have T8 := Lib.hid hT8.tabs; have B8 : Hid (Below w5.heap.size w5 w8) := Lib.hid (by refine Below.trans ?_ (hb8.mono (by first | exact B7.out.size | exact B7.out.size)); first | exact B7.out | exact Below.drew B7.out); obtain ⟨xa, xc, e', _, _⟩ := hT8.form; subst e'; rw [HLN.out] at T8 ⊢; clear hT8 hb8))
            all_goals
              go_wp2_with fail
              go_meet
              exact ⟨_, _, rfl, T8, B8⟩
        case rest =>
          obtain ⟨xa, xc, rfl, T8, B8⟩ := hcut
          obtain ⟨w8, hw8⟩ : ∃ W, W = wc := ⟨_, rfl⟩
          subst hw8
          have A8 := Lib.hid (B5.out.trans (B8.out.mono hs15))
          clear HST E5
          go_wp2_with fail
          go_loopg [10] N (fun gk s10 wr => ∃ h : Nat, s10 = .int .i64 (h : Int) ∧ h + gk = N ∧ Hid (Below w1.heap.size w1 wr) ∧ Hid (Below w5.heap.size w5 wr) ∧ Hid (Below w8.heap.size w8 wr))
          case atStart => exact ⟨0, rfl, by omega, A8, B8, Lib.hid (Below.refl _ _)⟩
          case round =>
            clear B2 B3 B4 B5 B8 A8
            obtain ⟨h, rfl, hh, B, LL, XX⟩ := hrel
            by_cases hg : gk = 0
            · subst hg
              obtain rfl : h = N := by omega
              have hdn : decide ((h : Int) < (h : Int)) = false := by simp
              go_wp2_with fail
              go_ret
              exact ⟨rfl, HFN.out _ B.out⟩
            · have hhN : h < N := by omega
              have hhI : (h : Int) < (N : Int) := by omega
              have h0 : (0 : Int) ≤ (h : Int) := by omega
              have hgk : 1 ≤ gk := by omega
              have HHH := Lib.hid hh
              obtain ⟨tb, toff, tu, rfl, htb, z0, htu⟩ := (TT.out.below LL.out).get h hhN
              obtain ⟨tua, tuc, e, htuc, _⟩ := htu.form
              subst e
              obtain ⟨xb, xoff, xu, rfl, hxb, x0, hxu⟩ := (T8.out.below XX.out).get h hhN
              obtain ⟨xua, xuc, e, hxuc, _⟩ := hxu.form
              subst e
              have htk := HTOK.out h hhN
              have hls := HLS.out h hhN
              rw [hls] at hxu x0
              obtain ⟨y0, y1⟩ := HYS.out wr B.out
              obtain ⟨tab, htab⟩ : ∃ t, T.getD h [] = t := ⟨_, rfl⟩
              rw [htab] at htu z0 htk hxu x0
              have HDP := Lib.hid (fun W (hW : Below wr.heap.size wr W) => tableDrop_any _ tab lf lbt W (htu.below hW) htk HRO.out)
              obtain ⟨tab2, htab2⟩ : ∃ t, dropF tab lf lbt = t := ⟨_, rfl⟩
              unfold DropPost at HDP
              rw [htab2] at HDP hxu x0
              have HXU := Lib.hid hxu
              clear hh hg htk hls htab htab2 htu hxu hxuc htuc
              go_wp2_with fail
              refine wp_region_noPanic ?_
              refine wp_region_held_drew (S := (fun W => W.cell? ⟨tb, toff + h, none⟩ = some (.slice tua tab.length tuc) ∧ W.cell? ⟨lb, loff + k * 3, none⟩ = some (.int .i64 lf) ∧ W.cell? ⟨lb, loff + k * 3 + 1, none⟩ = some (.int .i64 lbt))) (by kernel_rfl) (by exact ⟨z0, y0, y1⟩) (fun hHeld => ?_)
              refine wpAnyH_take (i := 0) (v := _) (by (simp only [List.getElem?_toArray, List.getElem?_cons_zero]) <;> rfl) (by kernel_rfl) (by kernel_rfl) (by kernel_rfl) (fun _ _ _ h => h) (Or.inl ⟨by rfl, fun w hSw => by ((try dsimp only at hSw); go_simp) <;> with_reducible rfl⟩) (by assumption) ?_
              (try simp only [Act.put, List.setIfInBounds_toArray, List.set_cons_zero, List.set_cons_succ])
              refine wpAnyH_take (i := 1) (v := _) (by (simp only [List.getElem?_toArray, List.getElem?_cons_succ, List.getElem?_cons_zero]) <;> rfl) (by kernel_rfl) (by kernel_rfl) (by kernel_rfl) (fun _ _ _ h => h) (Or.inl ⟨by rfl, fun w hSw => by ((try dsimp only at hSw); go_simp) <;> with_reducible rfl⟩) (by assumption) ?_
              (try simp only [Act.put, List.setIfInBounds_toArray, List.set_cons_zero, List.set_cons_succ])
              refine wpAnyH_take (i := 2) (v := _) (by (simp only [List.getElem?_toArray, List.getElem?_cons_succ, List.getElem?_cons_zero]) <;> rfl) (by kernel_rfl) (by kernel_rfl) (by kernel_rfl) (fun _ _ _ h => h) (Or.inl ⟨by rfl, fun w hSw => by ((try dsimp only at hSw); go_simp) <;> with_reducible rfl⟩) (by assumption) ?_
              (try simp only [Act.put, List.setIfInBounds_toArray, List.set_cons_zero, List.set_cons_succ])
              refine wpAnyH_take (i := 3) (v := _) (by (simp only [List.getElem?_toArray, List.getElem?_cons_succ, List.getElem?_cons_zero]) <;> rfl) (by kernel_rfl) (by kernel_rfl) (by kernel_rfl) (fun _ _ _ h => h) (Or.inl ⟨by rfl, fun w hSw => by ((try dsimp only at hSw); go_simp) <;> with_reducible rfl⟩) (by assumption) ?_
              (try simp only [Act.put, List.setIfInBounds_toArray, List.set_cons_zero, List.set_cons_succ])
              refine wpAnyH_take (i := 4) (v := _) (by (simp only [List.getElem?_toArray, List.getElem?_cons_succ, List.getElem?_cons_zero]) <;> rfl) (by kernel_rfl) (by kernel_rfl) (by kernel_rfl) (fun _ _ _ h => h) (Or.inl ⟨by rfl, fun w hSw => by ((try dsimp only at hSw); go_simp) <;> with_reducible rfl⟩) (by assumption) ?_
              (try simp only [Act.put, List.setIfInBounds_toArray, List.set_cons_zero, List.set_cons_succ])
              refine wpAnyH_take (i := 5) (v := _) (by (simp only [List.getElem?_toArray, List.getElem?_cons_succ, List.getElem?_cons_zero]) <;> rfl) (by kernel_rfl) (by kernel_rfl) (by kernel_rfl) (fun _ _ _ h => h) (Or.inl ⟨by rfl, fun w hSw => by ((try dsimp only at hSw); go_simp) <;> with_reducible rfl⟩) (by assumption) ?_
              (try simp only [Act.put, List.setIfInBounds_toArray, List.set_cons_zero, List.set_cons_succ])
              refine wpAnyH_take (i := 6) (v := _) (by (simp only [List.getElem?_toArray, List.getElem?_cons_succ, List.getElem?_cons_zero]) <;> rfl) (by kernel_rfl) (by kernel_rfl) (by kernel_rfl) (fun _ _ _ h => h) (Or.inl ⟨by rfl, fun w hSw => by ((try dsimp only at hSw); go_simp) <;> with_reducible rfl⟩) (by assumption) ?_
              (try simp only [Act.put, List.setIfInBounds_toArray, List.set_cons_zero, List.set_cons_succ])
              refine wpAnyH_take (i := 7) (v := _) (by (simp only [List.getElem?_toArray, List.getElem?_cons_succ, List.getElem?_cons_zero]) <;> rfl) (by kernel_rfl) (by kernel_rfl) (by kernel_rfl) (fun _ _ _ h => h) (Or.inl ⟨by rfl, fun w hSw => by ((try dsimp only at hSw); go_simp) <;> with_reducible rfl⟩) (by assumption) ?_
              (try simp only [Act.put, List.setIfInBounds_toArray, List.set_cons_zero, List.set_cons_succ])
              refine wpAnyH_take (i := 8) (v := _) (by (simp only [List.getElem?_toArray, List.getElem?_cons_succ, List.getElem?_cons_zero]) <;> rfl) (by kernel_rfl) (by kernel_rfl) (by kernel_rfl) (fun _ _ _ h => h) (Or.inl ⟨by rfl, fun w hSw => by ((try dsimp only at hSw); go_simp) <;> with_reducible rfl⟩) (by assumption) ?_
              (try simp only [Act.put, List.setIfInBounds_toArray, List.set_cons_zero, List.set_cons_succ])
              refine wpAnyH_ready (rs := [9]) (by kernel_rfl) (by simp) ?_
              refine AllReadyH.cons (by (simp only [List.getElem?_toArray, List.getElem?_cons_succ, List.getElem?_cons_zero]) <;> rfl) (fun K hK => ?_) AllReadyH.nil
              go_simp
              (go_at_call 13; refine (HDP.out _ (Below.drew (Below.refl _ _))).mono ?_; rintro e w9 ⟨v9, fd, rfl, hE9, hb9⟩; have hb8 : Below wr.heap.size wr w9 := (Below.drew (Below.refl _ _)).trans hb9; have E9 := Lib.hid hE9.ents; have B9 := Lib.hid (B.out.trans (hb8.mono B.out.size)); have L9 := Lib.hid (LL.out.trans (hb8.mono LL.out.size)); have X9 := Lib.hid (XX.out.trans (hb8.mono XX.out.size)); have HLY := Lib.hid (lyTable_same _ _ tab2 w9 (HXU.out.below hb8) hE9.ents); have q0 := (hb8.cell (p := ⟨tb, toff + h, none⟩) htb).trans z0; obtain ⟨q1, q2⟩ := HYS.out w9 B9.out; have p0 := (hb8.cell (p := ⟨xb, xoff + h, none⟩) hxb).trans x0; obtain ⟨da, dc, e', _, _⟩ := hE9.form; subst e'; clear hE9 hb9 hb8)
              refine hK.out _ _ (by exact ⟨q0, q1, q2⟩) (fun hHeld => ?_)
              (try simp only [Act.put, List.setIfInBounds_toArray, List.set_cons_zero, List.set_cons_succ])
              refine wpAnyH_take (i := 10) (v := _) (by (simp only [List.getElem?_toArray, List.getElem?_cons_succ, List.getElem?_cons_zero]) <;> rfl) (by kernel_rfl) (by kernel_rfl) (by kernel_rfl) (fun _ _ _ h => h) (Or.inl ⟨by rfl, fun w hSw => by ((try dsimp only at hSw); go_simp) <;> with_reducible rfl⟩) (by assumption) ?_
              (try simp only [Act.put, List.setIfInBounds_toArray, List.set_cons_zero, List.set_cons_succ])
              refine wpAnyH_take (i := 11) (v := _) (by (simp only [List.getElem?_toArray, List.getElem?_cons_succ, List.getElem?_cons_zero]) <;> rfl) (by kernel_rfl) (by kernel_rfl) (by kernel_rfl) (fun _ _ _ h => h) (Or.inl ⟨by rfl, fun w hSw => by ((try dsimp only at hSw); go_simp) <;> with_reducible rfl⟩) (by assumption) ?_
              (try simp only [Act.put, List.setIfInBounds_toArray, List.set_cons_zero, List.set_cons_succ])
              refine wpAnyH_take (i := 12) (v := _) (by (simp only [List.getElem?_toArray, List.getElem?_cons_succ, List.getElem?_cons_zero]) <;> rfl) (by kernel_rfl) (by kernel_rfl) (by kernel_rfl) (fun _ _ _ h => h) (Or.inl ⟨by rfl, fun w hSw => by ((try dsimp only at hSw); go_simp) <;> with_reducible rfl⟩) (by assumption) ?_
              (try simp only [Act.put, List.setIfInBounds_toArray, List.set_cons_zero, List.set_cons_succ])
              refine wpAnyH_take (i := 13) (v := _) (by (simp only [List.getElem?_toArray, List.getElem?_cons_succ, List.getElem?_cons_zero]) <;> rfl) (by kernel_rfl) (by kernel_rfl) (by kernel_rfl) (fun _ _ _ h => h) (Or.inl ⟨by rfl, fun w hSw => by ((try dsimp only at hSw); go_simp) <;> with_reducible rfl⟩) (by assumption) ?_
              (try simp only [Act.put, List.setIfInBounds_toArray, List.set_cons_zero, List.set_cons_succ])
              refine wpAnyH_take (i := 14) (v := _) (by (simp only [List.getElem?_toArray, List.getElem?_cons_succ, List.getElem?_cons_zero]) <;> rfl) (by kernel_rfl) (by kernel_rfl) (by kernel_rfl) (fun _ _ _ h => h) (Or.inl ⟨by rfl, fun w hSw => by ((try dsimp only at hSw); go_simp) <;> with_reducible rfl⟩) (by assumption) ?_
              (try simp only [Act.put, List.setIfInBounds_toArray, List.set_cons_zero, List.set_cons_succ])
              refine wpAnyH_done (by kernel_rfl) ?_ _
              refine NoPanic.normal ?_
              go_wp2_with fail
              refine (HLY.out).mono ?_
              rintro e wq ⟨rfl, hbq⟩
              have Bq := Lib.hid (B9.out.trans (hbq.mono B9.out.size))
              have Lq := Lib.hid (L9.out.trans (hbq.mono L9.out.size))
              have Xq := Lib.hid (X9.out.trans (hbq.mono X9.out.size))
              clear hbq
              go_wp2_with fail
              go_roundg (gk - 1)
              case measure => omega
              case rel => exact ⟨h + 1, by go_num, by have := HHH.out; omega, Bq, Lq, Xq⟩
end Go.Proofs.YtnjkifnlimfhnaaGreatDoor
