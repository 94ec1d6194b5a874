/- impl.SendTables, walked: rows of blocks of their own. -/
import Derived.Test.YtnjkifnlimfhnaaGreatDoorSendT
namespace Go.Proofs.YtnjkifnlimfhnaaGreatDoor
open Go.RowKit
set_option linter.unusedVariables false
set_option maxRecDepth 100000

set_option maxHeartbeats 16000000 in
theorem implSendTablesX_any (v hv : Value) (rs : List (List Int)) (l : List Ent) (n : Nat) (w : World) (hr : RowsAt w v rs) (hh : EntsAt w hv l) (hn : rs.length = n) (hE : ErrOk w) :
    Calls Tryz.prog 9 #[v, hv] w fun e w' => ∃ v', e = .returned v' ∧ TabsX w' w.heap.size v' (sendTabsF rs l n) ∧ Below w.heap.size w w' := by
  obtain ⟨ra, rc, rfl, hrc, hrm⟩ := hr.form
  obtain ⟨la, lc, rfl, hlc, hlm⟩ := hh.form
  have hok := implHomesOk_any _ _ rs l w hr hh
  rw [hn] at hr hrc hok ⊢
  obtain ⟨L, hL⟩ : ∃ L, l.length = L := ⟨_, rfl⟩
  rw [hL] at hh hlc hok ⊢
  obtain ⟨B, hB⟩ : ∃ B, homesOkF rs l = B := ⟨_, rfl⟩
  rw [hB] at hok
  have HOK := Lib.hid hok
  have HB := Lib.hid hB
  cases B
  · have hF : sendTabsF rs l n = [] := by unfold sendTabsF; rw [hB]; rfl
    rw [hF]
    clear hok hB hF hr hh hE hn hL
    go_enter Tryz.func9, Tryz.ntmps9
    go_wp2_with fail
    refine HOK.out.mono ?_
    rintro e w1 ⟨rfl, hb1⟩
    go_wp2_with fail
    go_ret
    exact ⟨_, rfl, ⟨[], rfl, ⟨rfl, .inl ⟨rfl, rfl⟩⟩, fun i hi => absurd hi (Nat.not_lt_zero _), fun i j hi => absurd hi (Nat.not_lt_zero _)⟩, hb1⟩
  · have hF : sendTabsF rs l n = homesTo rs n l L := by unfold sendTabsF; rw [hB, if_pos rfl, hL]
    rw [hF]
    have hall := homesOk_all hB
    have hbd := rels_bounds hall.1
    rw [hn] at hbd
    obtain ⟨hn1, hn5⟩ := hbd
    have hL4 := hall.2.1
    rw [hL] at hL4
    obtain ⟨i0, hi, hz0, hz1, hz2⟩ := info_parts info_s1
    have hend : ∀ W (j : Nat), Below w.heap.size w W → j < n → Calls Tryz.prog 36 #[.slice ra n rc, .int .i64 ((j : Int) + 1)] W fun r w' => ∃ v', r = .returned v' ∧ RowsL w' W.heap.size v' (end31 rs ((j : Int) + 1) n) ∧ Below W.heap.size W w' := fun W j hb hj => netEnd_any _ rs n j W (hr.below hb) hall.1 hn hj (hE.below hb)
    have hho : ∀ c, c < L → 1 ≤ (l.getD c (0, 0, 0)).2.2 ∧ (l.getD c (0, 0, 0)).2.2 ≤ (n : Int) := fun c hc => by
      have := homes_house hB (by rw [hL]; exact hc : c < l.length)
      rw [hn] at this
      exact ⟨this.1, this.2.1⟩
    have hput : ∀ c h, c < L → h < n → putHome (end31 rs (l.getD c (0, 0, 0)).2.2 n) (l.getD c (0, 0, 0)) h ((homesTo rs n l c).getD h []) = impPut (end31 rs (l.getD c (0, 0, 0)).2.2 n) (l.getD c (0, 0, 0)) h ((homesTo rs n l c).getD h []) := fun c h hc hh => by
      have e1 := homesTo_tabF (rs := rs) (homes_rise hB) (fun i hi => hho i (by omega)) c (by omega) h hh
      rw [e1]
      exact putHome_imp hh (endTo31_far _) (fun he => endTo31_home he.symm hh _) (tabF_less (homes_rise hB) (by omega))
    have HEND := Lib.hid hend
    have HHO := Lib.hid hho
    have HPUT := Lib.hid hput
    have H := Lib.hid hh
    have HLN := Lib.hid (fun e : Int => (endTo31_ways (home := e) hn hn1 (4 * n * n)).len)
    have HSH := Lib.hid (fun c h (hc : c ≤ 4) (hh : h < n) => (show ((homesTo rs n l c).getD h []).length ≤ 4 by have := homesTo_short rs n l c h hh; omega))
    clear hok hB hF hr hh hE hn hL hall hend hho hput
    go_enter Tryz.func9, Tryz.ntmps9
    go_wp2_with fail
    refine HOK.out.mono ?_
    rintro e w1 ⟨rfl, hb1⟩
    have hs1 := hb1.size
    have B1 := Lib.hid hb1
    clear hb1
    go_wp2_with (at_make; refine wpList_make_full _ rfl (.tmp 16) (.tmp 16) 27 rfl w.heap.size 31 i0 (.slice none 0 0) 1 Tryz.underlying27 hi hz0 hz1 .i64 .i64 n n n rfl rfl rfl rfl (by rw [hz2]; omega) (by unfold maxLen; omega) hs1 ?_; intro w2 hown hgrow)
    have hb2 : Below w.heap.size w w2 := B1.out.grown hgrow hs1 (by intro k hk; cases hk)
    obtain ⟨G, hG⟩ : ∃ G, G = w1.heap.size := ⟨_, rfl⟩
    rw [← hG] at hown ⊢
    have O2 : Hid (TabsX w2 w.heap.size (.slice (some ⟨G, 0, none⟩) n n) (homesTo rs n l 0)) := Lib.hid (by rw [homesTo_zero]; exact made_tabs hown)
    have B2 := Lib.hid hb2
    have hGl : w.heap.size ≤ G := by omega
    clear hown hgrow hb2 hG hi hz0 hz1 hz2 HOK
    go_loopg [20] L (fun gk s20 wr => ∃ c : Nat, s20 = .int .i64 (c : Int) ∧ c + gk = L ∧ Hid (TabsX wr w.heap.size (.slice (some ⟨G, 0, none⟩) n n) (homesTo rs n l c)) ∧ Hid (Below w.heap.size w wr))
    case atStart => exact ⟨0, rfl, by omega, O2, B2⟩
    case round =>
      clear O2 B2
      obtain ⟨c, rfl, hc, O, BB⟩ := hrel
      by_cases hg : gk = 0
      · subst hg
        obtain rfl : c = L := by omega
        have hdn : decide ((c : Int) < (c : Int)) = false := by simp
        go_wp2_with fail
        go_ret
        exact ⟨_, rfl, O.out, BB.out⟩
      · have hcL : c < L := by omega
        have hcI : (c : Int) < (L : Int) := by omega
        have c0 : (0 : Int) ≤ (c : Int) := by omega
        have hgk : 1 ≤ gk := by omega
        have HC := Lib.hid hc
        obtain ⟨lb, loff, rfl, hlb, y0, y1, y2⟩ := (H.out.below BB.out).get c hcL
        obtain ⟨ent, hent⟩ : ∃ e, l.getD c (0, 0, 0) = e := ⟨_, rfl⟩
        have hho := HHO.out c hcL
        have hpt := fun h hh => HPUT.out c h hcL hh
        rw [hent] at y0 y1 y2 hho hpt
        obtain ⟨f, bt, ho⟩ := ent
        simp only at y0 y1 y2 hho hpt
        obtain ⟨jj, rfl⟩ : ∃ j : Nat, ho = (j : Int) + 1 := ⟨(ho - 1).toNat, by omega⟩
        have hjj : jj < n := by omega
        have hnx : homesTo rs n l (c + 1) = homeTo (end31 rs ((jj : Int) + 1) n) n (f, bt, (jj : Int) + 1) (homesTo rs n l c) n := by rw [homesTo_succ, hent]; rfl
        have hwl := HLN.out ((jj : Int) + 1)
        obtain ⟨tabs, htabs⟩ : ∃ t, homesTo rs n l c = t := ⟨_, rfl⟩
        have htl : tabs.length = n := by rw [← htabs]; exact homesTo_len _ _ _ _
        have hts : ∀ h, h < n → (tabs.getD h []).length ≤ 4 := fun h hh => by rw [← htabs]; exact HSH.out c h (by omega) hh
        rw [htabs] at O hnx hpt
        have hGw : G < wr.heap.size := by
          obtain ⟨g, _, _, e, _, hgl, _⟩ := O.out.get htl jj hjj
          simp only [Value.slice.injEq, Option.some.injEq, Addr.mk.injEq] at e
          obtain ⟨⟨rfl, _⟩, _⟩ := e
          exact hgl
        have hal := Below.alloc (Below.refl wr.heap.size wr) (Nat.le_refl _) (.cells #[.int .i64 f, .int .i64 bt, .int .i64 ((jj : Int) + 1)] 37)
        have hce := HEND.out (wr.alloc (.cells #[.int .i64 f, .int .i64 bt, .int .i64 ((jj : Int) + 1)] 37)) jj (BB.out.trans (hal.mono BB.out.size)) hjj
        have hwl' : (end31 rs ((jj : Int) + 1) n).length = n := hwl
        obtain ⟨ways, hways⟩ : ∃ t, end31 rs ((jj : Int) + 1) n = t := ⟨_, rfl⟩
        rw [hways] at hce hnx hpt hwl'
        have HCE := Lib.hid hce
        have HNX := Lib.hid hnx
        have HTS := Lib.hid hts
        have HPT := Lib.hid hpt
        have HEL := Lib.hid hwl'
        have HTL := Lib.hid htl
        have HAL := Lib.hid hal
        have OA := Lib.hid (O.out.below hal)
        obtain ⟨GG, hGG⟩ : ∃ G, G = gk := ⟨_, rfl⟩
        obtain ⟨wq, hwq⟩ : ∃ W, W = wr := ⟨_, rfl⟩
        subst hwq
        clear hc hg hent hho hpt hnx hwl hwl' htabs htl hts hal hce hways O
        go_wp2_with fail
        refine HCE.out.mono ?_
        rintro e w2 ⟨wv, rfl, hR2, hb2⟩
        have hsA : (wq.alloc (.cells #[.int .i64 f, .int .i64 bt, .int .i64 ((jj : Int) + 1)] 37)).heap.size = wq.heap.size + 1 := World.size_alloc _ _
        have hb2s := hb2.size
        have x0 : w2.cell? ⟨wq.heap.size, 0, none⟩ = some (.int .i64 f) := (hb2.cell (p := ⟨wq.heap.size, 0, none⟩) (by simp)).trans (by simp)
        have x1 : w2.cell? ⟨wq.heap.size, 1, none⟩ = some (.int .i64 bt) := (hb2.cell (p := ⟨wq.heap.size, 1, none⟩) (by simp)).trans (by simp)
        have x2 : w2.cell? ⟨wq.heap.size, 2, none⟩ = some (.int .i64 ((jj : Int) + 1)) := (hb2.cell (p := ⟨wq.heap.size, 2, none⟩) (by simp)).trans (by simp)
        have B2 : Hid (Below w.heap.size w w2) := Lib.hid (BB.out.trans ((HAL.out.trans (hb2.mono (by omega))).mono BB.out.size))
        have T2 : Hid (TabsX w2 w.heap.size (.slice (some ⟨G, 0, none⟩) n n) (homeTo ways n (f, bt, (jj : Int) + 1) tabs 0)) := Lib.hid (by rw [homeTo_zero HTL.out]; exact OA.out.below hb2)
        have R2 := Lib.hid (hR2.lift (Nat.zero_le _))
        have hXG : wq.heap.size ≠ G := by omega
        have X2 : Hid (HomeB w2 wq.heap.size f bt ((jj : Int) + 1)) := Lib.hid ((hb2.block wq.heap.size (by omega)).trans (heap_alloc_new wq _))
        obtain ⟨wva, wvc, e, hwvc, hwvm⟩ := hR2.form
        subst e
        rw [HEL.out] at R2 hwvc ⊢
        clear hR2 hb2 x0 x1 x2 HCE hsA hb2s OA
        go_wp2_with fail
        go_loopg [29] n (fun gk s29 wr => ∃ h : Nat, s29 = .int .i64 (h : Int) ∧ h + gk = n ∧ Hid (TabsX wr w.heap.size (.slice (some ⟨G, 0, none⟩) n n) (homeTo ways n (f, bt, (jj : Int) + 1) tabs h)) ∧ Hid (RowsL wr 0 (.slice wva n wvc) ways) ∧ Hid (HomeB wr wq.heap.size f bt ((jj : Int) + 1)) ∧ Hid (Below w.heap.size w wr))
        case atStart => exact ⟨0, rfl, by omega, T2, R2, X2, B2⟩
        case round =>
          clear T2 R2 X2 B2
          obtain ⟨h, rfl, hh, O, R, XX, BB2⟩ := hrel
          by_cases hg : gk = 0
          · subst hg
            obtain rfl : h = n := by omega
            have hdn : decide ((h : Int) < (h : Int)) = false := by simp
            go_wp2_with fail
            go_roundg (GG - 1)
            case measure => omega
            case rel => exact ⟨c + 1, by go_num, by have := HC.out; omega, Lib.hid (by rw [HNX.out]; exact O.out), BB2⟩
          · have hin : h < n := by omega
            have hiI : (h : Int) < (n : Int) := by omega
            have h0 : (0 : Int) ≤ (h : Int) := by omega
            have hgk2 : 1 ≤ gk := by omega
            have HH := Lib.hid hh
            obtain ⟨g, cap', u, e, hgl, hgs, z0, z1, hu⟩ := O.out.get (homeTo_len _ _ _ _ _) h hin
            simp only [Value.slice.injEq, Option.some.injEq, Addr.mk.injEq] at e
            obtain ⟨⟨rfl, _⟩, _, rfl⟩ := e
            have htb : (homeTo ways n (f, bt, (jj : Int) + 1) tabs h).getD h [] = tabs.getD h [] := by rw [homeTo_get hin, if_neg (by omega)]
            have hpt := HPT.out h hin
            unfold impPut at hpt
            rw [htb] at hu
            obtain ⟨tb, htb2⟩ : ∃ t, tabs.getD h [] = t := ⟨_, rfl⟩
            have htl := HTS.out h hin
            rw [htb2] at hu hpt htl
            obtain ⟨wb, woff, wu, rfl, hwb, q0, hz⟩ := R.out.rows.get h hin
            obtain ⟨wa1, wc1, e, hwc1, hwm1⟩ := hz.form
            subst e
            obtain ⟨way, hway⟩ : ∃ p, ways.getD h [] = p := ⟨_, rfl⟩
            rw [hway] at hz q0 hwc1 hpt
            obtain ⟨m, hm⟩ : ∃ m, way.length = m := ⟨_, rfl⟩
            rw [hm] at hz q0 hwc1
            obtain ⟨x0, x1, x2⟩ := XX.out.cells
            have HU := Lib.hid hu
            obtain ⟨ua, uc, e, huc, hum⟩ := hu.form
            subst e
            obtain ⟨tl, htlen⟩ : ∃ t, tb.length = t := ⟨_, rfl⟩
            rw [htlen] at z0 htl HU
            have HPU := Lib.hid hpt
            have HM := Lib.hid hm
            have HTB := Lib.hid htb2
            have HWZ := Lib.hid hz
            have HTLL := Lib.hid htlen
            clear hpt htb hu htb2 hm hway hh hg hz htlen huc hum
            by_cases hm0 : m = 0
            · subst hm0
              have hwe : way = [] := List.length_eq_zero_iff.1 HM.out
              have hpu : Hid (putHome ways (f, bt, (jj : Int) + 1) h (tabs.getD h []) = tabs.getD h []) := Lib.hid (by rw [HTB.out, HPU.out, if_pos hwe])
              go_wp2_with fail
              go_roundg (gk - 1)
              case measure => omega
              case rel => exact ⟨h + 1, by go_num, by have := HH.out; omega, Lib.hid (by rw [homeTo_same hin hpu.out]; exact O.out), R, XX, BB2⟩
            · have hmb : ((m : Int) == 0) = false := by simp [hm0]
              have hwne : way ≠ [] := by intro e; apply hm0; rw [← HM.out, e]; rfl
              have hpu : Hid (putHome ways (f, bt, (jj : Int) + 1) h (tabs.getD h []) = tb ++ [(f, bt, if 1 < m then way.getD 1 0 else (jj : Int) + 1)]) := Lib.hid (by rw [HTB.out, HPU.out, if_neg hwne]; unfold viaF; rw [HM.out])
              have UU : EntNew wr w.heap.size (.slice ua tl uc) tb := HU.out
              by_cases h1 : 1 < m
              · have h1I : (1 : Int) < (m : Int) := by omega
                obtain ⟨b2, off2, rfl, hb2, hy⟩ := HWZ.out.get 1 h1
                obtain ⟨via, hvia⟩ : ∃ o, way.getD 1 0 = o := ⟨_, rfl⟩
                rw [if_pos h1, hvia] at hpu
                rw [hvia] at hy
                clear hvia hwne
                go_wp2_with fail
                refine wp_region_noPanic ?_
                refine wp_region_held_drew (S := (fun W => W.cell? ⟨wq.heap.size, 0, none⟩ = some (.int .i64 f) ∧ W.cell? ⟨wq.heap.size, 1, none⟩ = some (.int .i64 bt))) (by kernel_rfl) (by exact ⟨x0, x1⟩) (fun hHeld => ?_)
                refine wpAnyH_take (i := 0) (v := _) (by (simp only [List.getElem?_toArray, List.getElem?_cons_zero]) <;> rfl) (by kernel_rfl) (by kernel_rfl) (by kernel_rfl) (fun _ _ _ h => h) (Or.inl ⟨by rfl, fun w hSw => by ((try dsimp only at hSw); go_simp) <;> with_reducible rfl⟩) (by assumption) ?_
                (try simp only [Act.put, List.setIfInBounds_toArray, List.set_cons_zero, List.set_cons_succ])
                refine wpAnyH_take (i := 1) (v := _) (by (simp only [List.getElem?_toArray, List.getElem?_cons_succ, List.getElem?_cons_zero]) <;> rfl) (by kernel_rfl) (by kernel_rfl) (by kernel_rfl) (fun _ _ _ h => h) (Or.inl ⟨by rfl, fun w hSw => by ((try dsimp only at hSw); go_simp) <;> with_reducible rfl⟩) (by assumption) ?_
                (try simp only [Act.put, List.setIfInBounds_toArray, List.set_cons_zero, List.set_cons_succ])
                refine wpAnyH_take (i := 2) (v := _) (by (simp only [List.getElem?_toArray, List.getElem?_cons_succ, List.getElem?_cons_zero]) <;> rfl) (by kernel_rfl) (by kernel_rfl) (by kernel_rfl) (fun _ _ _ h => h) (Or.inl ⟨by rfl, fun w hSw => by ((try dsimp only at hSw); go_simp) <;> with_reducible rfl⟩) (by assumption) ?_
                (try simp only [Act.put, List.setIfInBounds_toArray, List.set_cons_zero, List.set_cons_succ])
                refine wpAnyH_take (i := 3) (v := _) (by (simp only [List.getElem?_toArray, List.getElem?_cons_succ, List.getElem?_cons_zero]) <;> rfl) (by kernel_rfl) (by kernel_rfl) (by kernel_rfl) (fun _ _ _ h => h) (Or.inl ⟨by rfl, fun w hSw => by ((try dsimp only at hSw); go_simp) <;> with_reducible rfl⟩) (by assumption) ?_
                (try simp only [Act.put, List.setIfInBounds_toArray, List.set_cons_zero, List.set_cons_succ])
                refine wpAnyH_take (i := 4) (v := _) (by (simp only [List.getElem?_toArray, List.getElem?_cons_succ, List.getElem?_cons_zero]) <;> rfl) (by kernel_rfl) (by kernel_rfl) (by kernel_rfl) (fun _ _ _ h => h) (Or.inl ⟨by rfl, fun w hSw => by ((try dsimp only at hSw); go_simp) <;> with_reducible rfl⟩) (by assumption) ?_
                (try simp only [Act.put, List.setIfInBounds_toArray, List.set_cons_zero, List.set_cons_succ])
                refine wpAnyH_take (i := 6) (v := _) (by (simp only [List.getElem?_toArray, List.getElem?_cons_succ, List.getElem?_cons_zero]) <;> rfl) (by kernel_rfl) (by kernel_rfl) (by kernel_rfl) (fun _ _ _ h => h) (Or.inl ⟨by rfl, fun w hSw => by ((try dsimp only at hSw); go_simp) <;> with_reducible rfl⟩) (by assumption) ?_
                (try simp only [Act.put, List.setIfInBounds_toArray, List.set_cons_zero, List.set_cons_succ])
                refine wpAnyH_take (i := 7) (v := _) (by (simp only [List.getElem?_toArray, List.getElem?_cons_succ, List.getElem?_cons_zero]) <;> rfl) (by kernel_rfl) (by kernel_rfl) (by kernel_rfl) (fun _ _ _ h => h) (Or.inl ⟨by rfl, fun w hSw => by ((try dsimp only at hSw); go_simp) <;> with_reducible rfl⟩) (by assumption) ?_
                (try simp only [Act.put, List.setIfInBounds_toArray, List.set_cons_zero, List.set_cons_succ])
                refine wpAnyH_take (i := 8) (v := _) (by (simp only [List.getElem?_toArray, List.getElem?_cons_succ, List.getElem?_cons_zero]) <;> rfl) (by kernel_rfl) (by kernel_rfl) (by kernel_rfl) (fun _ _ _ h => h) (Or.inl ⟨by rfl, fun w hSw => by ((try dsimp only at hSw); go_simp) <;> with_reducible rfl⟩) (by assumption) ?_
                (try simp only [Act.put, List.setIfInBounds_toArray, List.set_cons_zero, List.set_cons_succ])
                refine wpAnyH_take (i := 9) (v := _) (by (simp only [List.getElem?_toArray, List.getElem?_cons_succ, List.getElem?_cons_zero]) <;> rfl) (by kernel_rfl) (by kernel_rfl) (by kernel_rfl) (fun _ _ _ h => h) (Or.inl ⟨by rfl, fun w hSw => by ((try dsimp only at hSw); go_simp) <;> with_reducible rfl⟩) (by assumption) ?_
                (try simp only [Act.put, List.setIfInBounds_toArray, List.set_cons_zero, List.set_cons_succ])
                refine wpAnyH_ready (rs := [5, 10]) (by kernel_rfl) (by simp) ?_
                refine AllReadyH.cons (by (simp only [List.getElem?_toArray, List.getElem?_cons_succ, List.getElem?_cons_zero]) <;> rfl) (fun K hK => ?_) (AllReadyH.cons (by (simp only [List.getElem?_toArray, List.getElem?_cons_succ, List.getElem?_cons_zero]) <;> rfl) (fun K hK => ?_) AllReadyH.nil)
                · go_simp
                  refine hK.out _ _ (by exact ⟨x0, x1⟩) (fun hHeld => ?_)
                  (try simp only [Act.put, List.setIfInBounds_toArray, List.set_cons_zero, List.set_cons_succ])
                  refine wpAnyH_ready (rs := [10]) (by kernel_rfl) (by simp) ?_
                  refine AllReadyH.cons (by (simp only [List.getElem?_toArray, List.getElem?_cons_succ, List.getElem?_cons_zero]) <;> rfl) (fun K hK => ?_) AllReadyH.nil
                  go_simp
                  skip
                  refine hK.out _ _ (by exact ⟨(World.cell?_alloc_past _ _ _ (by show wq.heap.size < wr.heap.size; exact heap_lt XX.out)).trans x0, (World.cell?_alloc_past _ _ _ (by show wq.heap.size < wr.heap.size; exact heap_lt XX.out)).trans x1⟩) (fun hHeld => ?_)
                  (try simp only [Act.put, List.setIfInBounds_toArray, List.set_cons_zero, List.set_cons_succ])
                  refine wpAnyH_ready (rs := [11]) (by kernel_rfl) (by simp) ?_
                  refine AllReadyH.cons (by (simp only [List.getElem?_toArray, List.getElem?_cons_succ, List.getElem?_cons_zero]) <;> rfl) (fun K hK => ?_) AllReadyH.nil
                  (refine step_append_entD (W := wr.drew) rfl (.tmp 52) (.tmp 57) rfl w.heap.size (.slice ua tl uc) tb (f, bt, via) rfl (UU.below (Below.drew (Below.refl _ _))) rfl (by rw [HTLL.out]; omega) BB2.out.size ?_; intro ad c3 w3 hE3 hG3 hor3; obtain ⟨⟨y0, y1⟩, ⟨yq, g0, g1⟩, hT3, hR3, hX3, hB3⟩ := put_end O.out (homeTo_len _ _ _ _ _) hin z0 R.out XX.out BB2.out hGl hXG UU hE3 hG3 hor3; have T3 := Lib.hid hT3; have R3 := Lib.hid hR3; have X3 := Lib.hid hX3; have B3 := Lib.hid hB3; have HE3 := Lib.hid hE3; clear hT3 hR3 hX3 hB3 hG3 hor3 hE3)
                  refine hK.out _ _ (by exact ⟨y0, y1⟩) (fun hHeld => ?_)
                  (try simp only [Act.put, List.setIfInBounds_toArray, List.set_cons_zero, List.set_cons_succ])
                  refine wpAnyH_take (i := 12) (v := _) (by (simp only [List.getElem?_toArray, List.getElem?_cons_succ, List.getElem?_cons_zero]) <;> rfl) (by kernel_rfl) (by kernel_rfl) (by kernel_rfl) (fun _ _ _ h => h) (Or.inl ⟨by rfl, fun w hSw => by ((try dsimp only at hSw); go_simp) <;> with_reducible rfl⟩) (by assumption) ?_
                  (try simp only [Act.put, List.setIfInBounds_toArray, List.set_cons_zero, List.set_cons_succ])
                  refine wpAnyH_ready (rs := [13]) (by kernel_rfl) (by simp) ?_
                  refine AllReadyH.cons (by (simp only [List.getElem?_toArray, List.getElem?_cons_succ, List.getElem?_cons_zero]) <;> rfl) (fun K hK => ?_) AllReadyH.nil
                  go_simp
                  skip
                  refine hK.out _ _ (by exact (X3.out.cells.imp id And.left)) (fun hHeld => ?_)
                  (try simp only [Act.put, List.setIfInBounds_toArray, List.set_cons_zero, List.set_cons_succ])
                  refine wpAnyH_done (by kernel_rfl) ?_ _
                  refine NoPanic.normal ?_
                  go_wp2_with fail
                  go_roundg (gk - 1)
                  case measure => omega
                  case rel => exact ⟨h + 1, by go_num, by have := HH.out; omega, Lib.hid (by have := T3.out; rw [← hpu.out, homeTo_set hin] at this; exact this), R3, X3, B3⟩
                · go_simp
                  refine hK.out _ _ (by exact ⟨(World.cell?_alloc_past _ _ _ (by show wq.heap.size < wr.heap.size; exact heap_lt XX.out)).trans x0, (World.cell?_alloc_past _ _ _ (by show wq.heap.size < wr.heap.size; exact heap_lt XX.out)).trans x1⟩) (fun hHeld => ?_)
                  (try simp only [Act.put, List.setIfInBounds_toArray, List.set_cons_zero, List.set_cons_succ])
                  have zA : (wr.alloc (.cells #[.int .i64 f, .int .i64 bt, .int .i64 via] 61)).cell? ⟨G, h, none⟩ = some (.slice ua tl uc) := (World.cell?_alloc_past _ _ _ hgs).trans z0
                  refine wpAnyH_ready (rs := [5]) (by kernel_rfl) (by simp) ?_
                  refine AllReadyH.cons (by (simp only [List.getElem?_toArray, List.getElem?_cons_succ, List.getElem?_cons_zero]) <;> rfl) (fun K hK => ?_) AllReadyH.nil
                  go_simp
                  skip
                  refine hK.out _ _ (by exact ⟨(World.cell?_alloc_past _ _ _ (by show wq.heap.size < wr.heap.size; exact heap_lt XX.out)).trans x0, (World.cell?_alloc_past _ _ _ (by show wq.heap.size < wr.heap.size; exact heap_lt XX.out)).trans x1⟩) (fun hHeld => ?_)
                  (try simp only [Act.put, List.setIfInBounds_toArray, List.set_cons_zero, List.set_cons_succ])
                  refine wpAnyH_ready (rs := [11]) (by kernel_rfl) (by simp) ?_
                  refine AllReadyH.cons (by (simp only [List.getElem?_toArray, List.getElem?_cons_succ, List.getElem?_cons_zero]) <;> rfl) (fun K hK => ?_) AllReadyH.nil
                  (refine step_append_entD (W := wr.drew) rfl (.tmp 52) (.tmp 57) rfl w.heap.size (.slice ua tl uc) tb (f, bt, via) rfl (UU.below (Below.drew (Below.refl _ _))) rfl (by rw [HTLL.out]; omega) BB2.out.size ?_; intro ad c3 w3 hE3 hG3 hor3; obtain ⟨⟨y0, y1⟩, ⟨yq, g0, g1⟩, hT3, hR3, hX3, hB3⟩ := put_end O.out (homeTo_len _ _ _ _ _) hin z0 R.out XX.out BB2.out hGl hXG UU hE3 hG3 hor3; have T3 := Lib.hid hT3; have R3 := Lib.hid hR3; have X3 := Lib.hid hX3; have B3 := Lib.hid hB3; have HE3 := Lib.hid hE3; clear hT3 hR3 hX3 hB3 hG3 hor3 hE3)
                  refine hK.out _ _ (by exact ⟨y0, y1⟩) (fun hHeld => ?_)
                  (try simp only [Act.put, List.setIfInBounds_toArray, List.set_cons_zero, List.set_cons_succ])
                  refine wpAnyH_take (i := 12) (v := _) (by (simp only [List.getElem?_toArray, List.getElem?_cons_succ, List.getElem?_cons_zero]) <;> rfl) (by kernel_rfl) (by kernel_rfl) (by kernel_rfl) (fun _ _ _ h => h) (Or.inl ⟨by rfl, fun w hSw => by ((try dsimp only at hSw); go_simp) <;> with_reducible rfl⟩) (by assumption) ?_
                  (try simp only [Act.put, List.setIfInBounds_toArray, List.set_cons_zero, List.set_cons_succ])
                  refine wpAnyH_ready (rs := [13]) (by kernel_rfl) (by simp) ?_
                  refine AllReadyH.cons (by (simp only [List.getElem?_toArray, List.getElem?_cons_succ, List.getElem?_cons_zero]) <;> rfl) (fun K hK => ?_) AllReadyH.nil
                  go_simp
                  skip
                  refine hK.out _ _ (by exact (X3.out.cells.imp id And.left)) (fun hHeld => ?_)
                  (try simp only [Act.put, List.setIfInBounds_toArray, List.set_cons_zero, List.set_cons_succ])
                  refine wpAnyH_done (by kernel_rfl) ?_ _
                  refine NoPanic.normal ?_
                  go_wp2_with fail
                  go_roundg (gk - 1)
                  case measure => omega
                  case rel => exact ⟨h + 1, by go_num, by have := HH.out; omega, Lib.hid (by have := T3.out; rw [← hpu.out, homeTo_set hin] at this; exact this), R3, X3, B3⟩
              · have h1I : ¬ (1 : Int) < (m : Int) := by omega
                have h1d : decide ((1 : Int) < (m : Int)) = false := decide_eq_false h1I
                rw [if_neg h1] at hpu
                clear hwne
                go_wp2_with fail
                refine wp_region_noPanic ?_
                refine wp_region_held_drew (S := (fun W => W.cell? ⟨wq.heap.size, 0, none⟩ = some (.int .i64 f) ∧ W.cell? ⟨wq.heap.size, 1, none⟩ = some (.int .i64 bt))) (by kernel_rfl) (by exact ⟨x0, x1⟩) (fun hHeld => ?_)
                refine wpAnyH_take (i := 0) (v := _) (by (simp only [List.getElem?_toArray, List.getElem?_cons_zero]) <;> rfl) (by kernel_rfl) (by kernel_rfl) (by kernel_rfl) (fun _ _ _ h => h) (Or.inl ⟨by rfl, fun w hSw => by ((try dsimp only at hSw); go_simp) <;> with_reducible rfl⟩) (by assumption) ?_
                (try simp only [Act.put, List.setIfInBounds_toArray, List.set_cons_zero, List.set_cons_succ])
                refine wpAnyH_take (i := 1) (v := _) (by (simp only [List.getElem?_toArray, List.getElem?_cons_succ, List.getElem?_cons_zero]) <;> rfl) (by kernel_rfl) (by kernel_rfl) (by kernel_rfl) (fun _ _ _ h => h) (Or.inl ⟨by rfl, fun w hSw => by ((try dsimp only at hSw); go_simp) <;> with_reducible rfl⟩) (by assumption) ?_
                (try simp only [Act.put, List.setIfInBounds_toArray, List.set_cons_zero, List.set_cons_succ])
                refine wpAnyH_take (i := 2) (v := _) (by (simp only [List.getElem?_toArray, List.getElem?_cons_succ, List.getElem?_cons_zero]) <;> rfl) (by kernel_rfl) (by kernel_rfl) (by kernel_rfl) (fun _ _ _ h => h) (Or.inl ⟨by rfl, fun w hSw => by ((try dsimp only at hSw); go_simp) <;> with_reducible rfl⟩) (by assumption) ?_
                (try simp only [Act.put, List.setIfInBounds_toArray, List.set_cons_zero, List.set_cons_succ])
                refine wpAnyH_take (i := 3) (v := _) (by (simp only [List.getElem?_toArray, List.getElem?_cons_succ, List.getElem?_cons_zero]) <;> rfl) (by kernel_rfl) (by kernel_rfl) (by kernel_rfl) (fun _ _ _ h => h) (Or.inl ⟨by rfl, fun w hSw => by ((try dsimp only at hSw); go_simp) <;> with_reducible rfl⟩) (by assumption) ?_
                (try simp only [Act.put, List.setIfInBounds_toArray, List.set_cons_zero, List.set_cons_succ])
                refine wpAnyH_take (i := 4) (v := _) (by (simp only [List.getElem?_toArray, List.getElem?_cons_succ, List.getElem?_cons_zero]) <;> rfl) (by kernel_rfl) (by kernel_rfl) (by kernel_rfl) (fun _ _ _ h => h) (Or.inl ⟨by rfl, fun w hSw => by ((try dsimp only at hSw); go_simp) <;> with_reducible rfl⟩) (by assumption) ?_
                (try simp only [Act.put, List.setIfInBounds_toArray, List.set_cons_zero, List.set_cons_succ])
                refine wpAnyH_take (i := 6) (v := _) (by (simp only [List.getElem?_toArray, List.getElem?_cons_succ, List.getElem?_cons_zero]) <;> rfl) (by kernel_rfl) (by kernel_rfl) (by kernel_rfl) (fun _ _ _ h => h) (Or.inl ⟨by rfl, fun w hSw => by ((try dsimp only at hSw); go_simp) <;> with_reducible rfl⟩) (by assumption) ?_
                (try simp only [Act.put, List.setIfInBounds_toArray, List.set_cons_zero, List.set_cons_succ])
                refine wpAnyH_take (i := 7) (v := _) (by (simp only [List.getElem?_toArray, List.getElem?_cons_succ, List.getElem?_cons_zero]) <;> rfl) (by kernel_rfl) (by kernel_rfl) (by kernel_rfl) (fun _ _ _ h => h) (Or.inl ⟨by rfl, fun w hSw => by ((try dsimp only at hSw); go_simp) <;> with_reducible rfl⟩) (by assumption) ?_
                (try simp only [Act.put, List.setIfInBounds_toArray, List.set_cons_zero, List.set_cons_succ])
                refine wpAnyH_take (i := 8) (v := _) (by (simp only [List.getElem?_toArray, List.getElem?_cons_succ, List.getElem?_cons_zero]) <;> rfl) (by kernel_rfl) (by kernel_rfl) (by kernel_rfl) (fun _ _ _ h => h) (Or.inl ⟨by rfl, fun w hSw => by ((try dsimp only at hSw); go_simp) <;> with_reducible rfl⟩) (by assumption) ?_
                (try simp only [Act.put, List.setIfInBounds_toArray, List.set_cons_zero, List.set_cons_succ])
                refine wpAnyH_take (i := 9) (v := _) (by (simp only [List.getElem?_toArray, List.getElem?_cons_succ, List.getElem?_cons_zero]) <;> rfl) (by kernel_rfl) (by kernel_rfl) (by kernel_rfl) (fun _ _ _ h => h) (Or.inl ⟨by rfl, fun w hSw => by ((try dsimp only at hSw); go_simp) <;> with_reducible rfl⟩) (by assumption) ?_
                (try simp only [Act.put, List.setIfInBounds_toArray, List.set_cons_zero, List.set_cons_succ])
                refine wpAnyH_ready (rs := [5, 10]) (by kernel_rfl) (by simp) ?_
                refine AllReadyH.cons (by (simp only [List.getElem?_toArray, List.getElem?_cons_succ, List.getElem?_cons_zero]) <;> rfl) (fun K hK => ?_) (AllReadyH.cons (by (simp only [List.getElem?_toArray, List.getElem?_cons_succ, List.getElem?_cons_zero]) <;> rfl) (fun K hK => ?_) AllReadyH.nil)
                · go_simp
                  refine hK.out _ _ (by exact ⟨x0, x1⟩) (fun hHeld => ?_)
                  (try simp only [Act.put, List.setIfInBounds_toArray, List.set_cons_zero, List.set_cons_succ])
                  refine wpAnyH_ready (rs := [10]) (by kernel_rfl) (by simp) ?_
                  refine AllReadyH.cons (by (simp only [List.getElem?_toArray, List.getElem?_cons_succ, List.getElem?_cons_zero]) <;> rfl) (fun K hK => ?_) AllReadyH.nil
                  go_simp
                  skip
                  refine hK.out _ _ (by exact ⟨(World.cell?_alloc_past _ _ _ (by show wq.heap.size < wr.heap.size; exact heap_lt XX.out)).trans x0, (World.cell?_alloc_past _ _ _ (by show wq.heap.size < wr.heap.size; exact heap_lt XX.out)).trans x1⟩) (fun hHeld => ?_)
                  (try simp only [Act.put, List.setIfInBounds_toArray, List.set_cons_zero, List.set_cons_succ])
                  refine wpAnyH_ready (rs := [11]) (by kernel_rfl) (by simp) ?_
                  refine AllReadyH.cons (by (simp only [List.getElem?_toArray, List.getElem?_cons_succ, List.getElem?_cons_zero]) <;> rfl) (fun K hK => ?_) AllReadyH.nil
                  (refine step_append_entD (W := wr.drew) rfl (.tmp 52) (.tmp 57) rfl w.heap.size (.slice ua tl uc) tb (f, bt, ((jj : Int) + 1)) rfl (UU.below (Below.drew (Below.refl _ _))) rfl (by rw [HTLL.out]; omega) BB2.out.size ?_; intro ad c3 w3 hE3 hG3 hor3; obtain ⟨⟨y0, y1⟩, ⟨yq, g0, g1⟩, hT3, hR3, hX3, hB3⟩ := put_end O.out (homeTo_len _ _ _ _ _) hin z0 R.out XX.out BB2.out hGl hXG UU hE3 hG3 hor3; have T3 := Lib.hid hT3; have R3 := Lib.hid hR3; have X3 := Lib.hid hX3; have B3 := Lib.hid hB3; have HE3 := Lib.hid hE3; clear hT3 hR3 hX3 hB3 hG3 hor3 hE3)
                  refine hK.out _ _ (by exact ⟨y0, y1⟩) (fun hHeld => ?_)
                  (try simp only [Act.put, List.setIfInBounds_toArray, List.set_cons_zero, List.set_cons_succ])
                  refine wpAnyH_take (i := 12) (v := _) (by (simp only [List.getElem?_toArray, List.getElem?_cons_succ, List.getElem?_cons_zero]) <;> rfl) (by kernel_rfl) (by kernel_rfl) (by kernel_rfl) (fun _ _ _ h => h) (Or.inl ⟨by rfl, fun w hSw => by ((try dsimp only at hSw); go_simp) <;> with_reducible rfl⟩) (by assumption) ?_
                  (try simp only [Act.put, List.setIfInBounds_toArray, List.set_cons_zero, List.set_cons_succ])
                  refine wpAnyH_ready (rs := [13]) (by kernel_rfl) (by simp) ?_
                  refine AllReadyH.cons (by (simp only [List.getElem?_toArray, List.getElem?_cons_succ, List.getElem?_cons_zero]) <;> rfl) (fun K hK => ?_) AllReadyH.nil
                  go_simp
                  skip
                  refine hK.out _ _ (by exact (X3.out.cells.imp id And.left)) (fun hHeld => ?_)
                  (try simp only [Act.put, List.setIfInBounds_toArray, List.set_cons_zero, List.set_cons_succ])
                  refine wpAnyH_done (by kernel_rfl) ?_ _
                  refine NoPanic.normal ?_
                  go_wp2_with fail
                  go_roundg (gk - 1)
                  case measure => omega
                  case rel => exact ⟨h + 1, by go_num, by have := HH.out; omega, Lib.hid (by have := T3.out; rw [← hpu.out, homeTo_set hin] at this; exact this), R3, X3, B3⟩
                · go_simp
                  refine hK.out _ _ (by exact ⟨(World.cell?_alloc_past _ _ _ (by show wq.heap.size < wr.heap.size; exact heap_lt XX.out)).trans x0, (World.cell?_alloc_past _ _ _ (by show wq.heap.size < wr.heap.size; exact heap_lt XX.out)).trans x1⟩) (fun hHeld => ?_)
                  (try simp only [Act.put, List.setIfInBounds_toArray, List.set_cons_zero, List.set_cons_succ])
                  have zA : (wr.alloc (.cells #[.int .i64 f, .int .i64 bt, .int .i64 ((jj : Int) + 1)] 61)).cell? ⟨G, h, none⟩ = some (.slice ua tl uc) := (World.cell?_alloc_past _ _ _ hgs).trans z0
                  refine wpAnyH_ready (rs := [5]) (by kernel_rfl) (by simp) ?_
                  refine AllReadyH.cons (by (simp only [List.getElem?_toArray, List.getElem?_cons_succ, List.getElem?_cons_zero]) <;> rfl) (fun K hK => ?_) AllReadyH.nil
                  go_simp
                  skip
                  refine hK.out _ _ (by exact ⟨(World.cell?_alloc_past _ _ _ (by show wq.heap.size < wr.heap.size; exact heap_lt XX.out)).trans x0, (World.cell?_alloc_past _ _ _ (by show wq.heap.size < wr.heap.size; exact heap_lt XX.out)).trans x1⟩) (fun hHeld => ?_)
                  (try simp only [Act.put, List.setIfInBounds_toArray, List.set_cons_zero, List.set_cons_succ])
                  refine wpAnyH_ready (rs := [11]) (by kernel_rfl) (by simp) ?_
                  refine AllReadyH.cons (by (simp only [List.getElem?_toArray, List.getElem?_cons_succ, List.getElem?_cons_zero]) <;> rfl) (fun K hK => ?_) AllReadyH.nil
                  (refine step_append_entD (W := wr.drew) rfl (.tmp 52) (.tmp 57) rfl w.heap.size (.slice ua tl uc) tb (f, bt, ((jj : Int) + 1)) rfl (UU.below (Below.drew (Below.refl _ _))) rfl (by rw [HTLL.out]; omega) BB2.out.size ?_; intro ad c3 w3 hE3 hG3 hor3; obtain ⟨⟨y0, y1⟩, ⟨yq, g0, g1⟩, hT3, hR3, hX3, hB3⟩ := put_end O.out (homeTo_len _ _ _ _ _) hin z0 R.out XX.out BB2.out hGl hXG UU hE3 hG3 hor3; have T3 := Lib.hid hT3; have R3 := Lib.hid hR3; have X3 := Lib.hid hX3; have B3 := Lib.hid hB3; have HE3 := Lib.hid hE3; clear hT3 hR3 hX3 hB3 hG3 hor3 hE3)
                  refine hK.out _ _ (by exact ⟨y0, y1⟩) (fun hHeld => ?_)
                  (try simp only [Act.put, List.setIfInBounds_toArray, List.set_cons_zero, List.set_cons_succ])
                  refine wpAnyH_take (i := 12) (v := _) (by (simp only [List.getElem?_toArray, List.getElem?_cons_succ, List.getElem?_cons_zero]) <;> rfl) (by kernel_rfl) (by kernel_rfl) (by kernel_rfl) (fun _ _ _ h => h) (Or.inl ⟨by rfl, fun w hSw => by ((try dsimp only at hSw); go_simp) <;> with_reducible rfl⟩) (by assumption) ?_
                  (try simp only [Act.put, List.setIfInBounds_toArray, List.set_cons_zero, List.set_cons_succ])
                  refine wpAnyH_ready (rs := [13]) (by kernel_rfl) (by simp) ?_
                  refine AllReadyH.cons (by (simp only [List.getElem?_toArray, List.getElem?_cons_succ, List.getElem?_cons_zero]) <;> rfl) (fun K hK => ?_) AllReadyH.nil
                  go_simp
                  skip
                  refine hK.out _ _ (by exact (X3.out.cells.imp id And.left)) (fun hHeld => ?_)
                  (try simp only [Act.put, List.setIfInBounds_toArray, List.set_cons_zero, List.set_cons_succ])
                  refine wpAnyH_done (by kernel_rfl) ?_ _
                  refine NoPanic.normal ?_
                  go_wp2_with fail
                  go_roundg (gk - 1)
                  case measure => omega
                  case rel => exact ⟨h + 1, by go_num, by have := HH.out; omega, Lib.hid (by have := T3.out; rw [← hpu.out, homeTo_set hin] at this; exact this), R3, X3, B3⟩
end Go.Proofs.YtnjkifnlimfhnaaGreatDoor
