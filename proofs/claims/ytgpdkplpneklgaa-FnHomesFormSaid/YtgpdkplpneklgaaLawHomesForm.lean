/- The walk of FnHomesForm. -/
import Derived.Test.YtgpdkplpneklgaaHomsDraw
import Derived.Test.YtgpdkplpneklgaaHomsOkI
namespace Go.Proofs.Ytgpdkplpneklgaa
open Go.RowKit
set_option linter.unusedVariables false

theorem rem4 (x L : Nat) (h1 : 1 ≤ L) (h4 : L ≤ 4) : ∃ k : Nat, k < L ∧ (x : Int).tmod (L : Int) = (k : Int) ∧ IntKind.i64.wrap (k : Int) = (k : Int) := by
  have := Nat.mod_lt x (show L > 0 by omega)
  refine ⟨x % L, this, ?_, IntWalk.i64_in _ (by omega)⟩
  rw [Int.tmod_eq_emod_of_nonneg (by omega)]; rfl
set_option maxRecDepth 100000 in
set_option maxHeartbeats 8000000 in
theorem homesForm_walk (a : Option Addr) (len cap : Nat) (zs : List Int) (a2 : Option Addr) (len2 cap2 : Nat) (zs2 : List Int) (w : World) (h : IsRow .u8 w a len cap zs) (h2 : IsRow .u8 w a2 len2 cap2 zs2) :
    Calls Try.prog 3 #[.slice a len cap, .slice a2 len2 cap2] w fun e w' => e = .returned (.bool true) ∧ Below w.heap.size w w' := by
  obtain ⟨hm, hc⟩ := h.bounds
  obtain ⟨hm2, hc2⟩ := h2.bounds
  have hc' := hc
  have hc2' := hc2
  unfold maxLen at hc' hc2'
  have H := Lib.hid h
  clear h h2
  go_enter Try.func3, Try.ntmps3
  by_cases hl : 1048576 < len
  · go_wp2_with fail
    go_ret
    exact ⟨rfl, Below.refl _ _⟩
  · by_cases hl2 : 1048576 < len2
    · go_wp2_with fail
      go_ret
      exact ⟨rfl, Below.refl _ _⟩
    · go_wp2_with fail
      refine (drawHomesOk_any _ _ _ zs _ H.out).mono ?_
      rintro e w1 ⟨v, hv, rs, l, n, rfl, hrr, hrl, hn2, hn5, hE, hl6, hb⟩
      obtain ⟨va, vc, e', hvc, hvm⟩ := hrr.form
      subst e'
      obtain ⟨ha, hac, e', hhc, hhm⟩ := hE.form
      subst e'
      obtain ⟨L, hL⟩ : ∃ L, l.length = L := ⟨_, rfl⟩
      rw [hL] at hE hhc hl6 ⊢
      rw [hrl] at hrr hvc ⊢
      have himp : ∀ W u l', Below w1.heap.size w1 W → EntsAt W u l' → Calls Try.prog 10 #[.slice va n vc, u] W fun e w' => e = .returned (.bool (homesOkF rs l')) ∧ Below W.heap.size W w' := fun W u l' hW hu => implHomesOk_any _ _ rs l' W (hrr.below hW) hu
      have hspc : ∀ W, Below w1.heap.size w1 W → Calls Try.prog 11 #[.slice va n vc, .slice ha L hac] W fun e w' => e = .returned (.bool (homesOkF rs l)) ∧ Below W.heap.size W w' := fun W hW => specHomesOk_any _ _ rs l W (hrr.below hW) (hE.below hW)
      obtain ⟨B, hB⟩ : ∃ B, homesOkF rs l = B := ⟨_, rfl⟩
      rw [hB] at hspc
      have himp0 := himp w1 _ l (Below.refl _ _) hE
      rw [hB] at himp0
      have HI0 := Lib.hid himp0
      have HIM := Lib.hid himp
      have HSP := Lib.hid hspc
      have HB := Lib.hid hB
      have HL := Lib.hid hL
      have HRL := Lib.hid hrl
      have E1 := Lib.hid hE
      have BB := Lib.hid hb
      clear himp0 himp hspc hB hL hE hb hrr hrl
      have hBB : (B != B) = false := by simp
      have hBE : (B == B) = true := by simp
      go_wp2_with fail
      refine HI0.out.mono ?_
      rintro e w2 ⟨rfl, hb2⟩
      have B2 := Lib.hid hb2
      clear hb2
      go_wp2_with fail
      refine (HSP.out w2 B2.out).mono ?_
      rintro e w3 ⟨rfl, hb3⟩
      have B3 := Lib.hid (B2.out.trans (hb3.mono B2.out.size))
      clear hb3
      have hfin : ∀ W, Below w1.heap.size w1 W → Below w.heap.size w W := fun W hW => BB.out.trans (hW.mono BB.out.size)
      have HFN := Lib.hid hfin
      clear hfin
      cases B
      · go_wp2_with fail
        refine (HSP.out w3 B3.out).mono ?_
        rintro e w4 ⟨rfl, hb4⟩
        have B4 := Lib.hid (B3.out.trans (hb4.mono B3.out.size))
        clear hb4
        go_wp2_with fail
        go_ret
        exact ⟨rfl, HFN.out _ B4.out⟩
      · by_cases hL0 : L = 0
        · subst hL0
          go_wp2_with fail
          refine (HSP.out w3 B3.out).mono ?_
          rintro e w4 ⟨rfl, hb4⟩
          have B4 := Lib.hid (B3.out.trans (hb4.mono B3.out.size))
          clear hb4
          go_wp2_with fail
          go_ret
          exact ⟨rfl, HFN.out _ B4.out⟩
        · have hLb : ((L : Int) == 0) = false := by simp [hL0]
          have hLne : (L : Int) ≠ 0 := by omega
          have hL4 : L ≤ 4 := by have := (homesOk_all HB.out).2.1; rw [HL.out] at this; exact this
          obtain ⟨k, hkL, hk1, hk2⟩ := rem4 len2 L (by omega) hL4
          have hkI : (k : Int) < (L : Int) := by omega
          have k0 : (0 : Int) ≤ (k : Int) := by omega
          have hwk : IntKind.i64.wrap ((k : Int) + 1) = (k : Int) + 1 := IntWalk.i64_in _ (by omega)
          obtain ⟨b, off, rfl, _⟩ := E1.out.get 0 (by omega)
          have E3 := Lib.hid (E1.out.below B3.out)
          have hkL1 : (k : Int) + 1 ≤ (L : Int) := by omega
          have hkc : (k : Int) ≤ (hac : Int) := by omega
          have hk10 : (0 : Int) ≤ (k : Int) + 1 := by omega
          have hkc1 : (k : Int) + 1 ≤ (hac : Int) := by omega
          have hck2 : ¬ hac = k := by omega
          have hkL0 : k ≤ L := by omega
          have hkLn : k + 1 ≤ L := by omega
          have hkk : (k : Int) ≤ (k : Int) + 1 := by omega
          have hkk2 : ¬ k + 1 = k := by omega
          go_upto_region 8 with fail
          by_cases hck : hac = k + 1
          · obtain rfl : L = k + 1 := by omega
            subst hck
            go_cut [9] (fun s9 wx => ∃ (ad : Option Addr) (c : Nat), s9 = .slice ad ((k + 1) - 1) c ∧ Hid (HomNew wx w3.heap.size (.slice ad ((k + 1) - 1) c) (l.take k ++ l.drop (k + 1))) ∧ Hid (Below w3.heap.size w3 wx))
            case first =>
              go_region_law (first
                | (refine step_append_homs rfl (.tmp 52) (.tmp 55) rfl w3.heap.size _ _ [] (l.take k) k (by rw [List.length_take, HL.out]; simp <;> omega) rfl (HomNew.zero _) rfl (EntsAt.below (EntsAt.take E3.out (k := k) (by omega)) (by repeat (first | exact Below.refl _ _ | assumption | refine Below.drew ?_ | refine belowDrewN ?_ _ | refine Below.alloc ?_ (by first | exact Nat.le_refl _ | omega | (simp; done) | (simp; omega)) _ | refine Below.setCell ?_ (by first | exact Nat.le_refl _ | omega | (simp; done) | (simp; omega)) _))) (by omega) (by simp) ?_; intro ad5 c5 w5 hH5 hb5 hs5; have H5 := Lib.hid hH5; have B5 : Hid (Below w3.heap.size w3 w5) := Lib.hid (Below.trans (by repeat (first | exact Below.refl _ _ | assumption | refine Below.drew ?_ | refine belowDrewN ?_ _ | refine Below.alloc ?_ (by first | exact Nat.le_refl _ | omega | (simp; done) | (simp; omega)) _ | refine Below.setCell ?_ (by first | exact Nat.le_refl _ | omega | (simp; done) | (simp; omega)) _)) hb5); clear hH5 hb5)
                | (refine step_append_homs rfl (.tmp 56) (.tmp 60) rfl w3.heap.size _ _ (([] : List Ent) ++ l.take k) (l.drop (k + 1)) ((k + 1) - 1) (by rw [List.nil_append, List.length_take, List.length_drop, HL.out]; omega) rfl H5.out rfl (by first | exact EntsAt.below (EntsAt.dropAt E3.out (k := k + 1) (by omega)) B5.out | exact entsAt_nil (by rw [List.length_drop, HL.out]; omega) (by omega) (by omega)) (by omega) B5.out.size ?_; intro ad6 c6 w6 hH6 hb6 hs6; have H6 := Lib.hid hH6; have B6 : Hid (Below w3.heap.size w3 w6) := Lib.hid (Below.trans B5.out hb6); clear hH6 hb6))
              all_goals
                go_wp2_with fail
                go_meet
                exact ⟨_, _, rfl, H6, B6⟩
            case rest =>
              obtain ⟨ad6, c6, rfl, H6, B6⟩ := hcut
              obtain ⟨w6, hw6⟩ : ∃ W, W = wc := ⟨_, rfl⟩
              subst hw6
              have E6 := Lib.hid (E3.out.below B6.out)
              have A6 := Lib.hid (B3.out.trans (B6.out.mono B3.out.size))
              go_upto_region 9 with fail
              go_cut [10] (fun s10 wx => ∃ (ad : Option Addr) (c : Nat), s10 = .slice ad ((k + 1) + 1) c ∧ Hid (HomNew wx w6.heap.size (.slice ad ((k + 1) + 1) c) (l.take (k + 1) ++ l.drop k)) ∧ Hid (Below w6.heap.size w6 wx))
              case first =>
                go_region_law (first
                  | (refine step_append_homs rfl (.tmp 62) (.tmp 66) rfl w6.heap.size _ _ [] (l.take (k + 1)) (k + 1) (by rw [List.length_take, HL.out]; simp <;> omega) rfl (HomNew.zero _) rfl (EntsAt.below (EntsAt.take E6.out (k := k + 1) (by omega)) (by repeat (first | exact Below.refl _ _ | assumption | refine Below.drew ?_ | refine belowDrewN ?_ _ | refine Below.alloc ?_ (by first | exact Nat.le_refl _ | omega | (simp; done) | (simp; omega)) _ | refine Below.setCell ?_ (by first | exact Nat.le_refl _ | omega | (simp; done) | (simp; omega)) _))) (by omega) (by simp) ?_; intro ad7 c7 w7 hH7 hb7 hs7; have H7 := Lib.hid hH7; have B7 : Hid (Below w6.heap.size w6 w7) := Lib.hid (Below.trans (by repeat (first | exact Below.refl _ _ | assumption | refine Below.drew ?_ | refine belowDrewN ?_ _ | refine Below.alloc ?_ (by first | exact Nat.le_refl _ | omega | (simp; done) | (simp; omega)) _ | refine Below.setCell ?_ (by first | exact Nat.le_refl _ | omega | (simp; done) | (simp; omega)) _)) hb7); clear hH7 hb7)
                  | (refine step_append_homs rfl (.tmp 67) (.tmp 70) rfl w6.heap.size _ _ (([] : List Ent) ++ l.take (k + 1)) (l.drop k) ((k + 1) + 1) (by rw [List.nil_append, List.length_take, List.length_drop, HL.out]; omega) rfl H7.out rfl (by have hq := EntsAt.below (EntsAt.dropAt E6.out (k := k) (by omega)) B7.out; first | exact hq | (rw [show k + 1 - k = 1 by omega] at hq; exact hq)) (by omega) B7.out.size ?_; intro ad8 c8 w8 hH8 hb8 hs8; have H8 := Lib.hid hH8; have B8 : Hid (Below w6.heap.size w6 w8) := Lib.hid (Below.trans B7.out hb8); clear hH8 hb8))
                all_goals
                  go_wp2_with fail
                  go_meet
                  exact ⟨_, _, rfl, H8, B8⟩
              case rest =>
                obtain ⟨ad8, c8, rfl, H8, B8⟩ := hcut
                obtain ⟨w8, hw8⟩ : ∃ W, W = wc := ⟨_, rfl⟩
                subst hw8
                have E8 := Lib.hid (E6.out.below B8.out)
                have A8 := Lib.hid (A6.out.trans (B8.out.mono A6.out.size))
                have H68 := Lib.hid (H6.out.below B8.out)
                go_wp2_with (at_builtin; refine wpList_append_homs rfl (.tmp 72) (.tmp 73) rfl w8.heap.size _ _ [] l (k + 1) (by rw [List.length_nil, HL.out, Nat.zero_add]) rfl (HomNew.zero w8) rfl (E8.out.below (Below.alloc (Below.refl _ _) (Nat.le_refl _) _)) (by omega) (by simp) ?_; intro ad9 c9 w9 hH9 hb9 hs9; have H9 : Hid (HomNew w9 w8.heap.size (.slice ad9 (k + 1) c9) l) := Lib.hid hH9; have B9 : Hid (Below w8.heap.size w8 w9) := Lib.hid (Below.trans (Below.alloc (Below.refl _ _) (Nat.le_refl _) _) hb9); clear hH9 hb9; obtain ⟨g, eg, hg1, hg2, ⟨u, hgu⟩, hgf⟩ := HomNew.cells (k := k) H9.out HL.out hkL; subst eg)
                have B10 : Hid (Below w8.heap.size w8 (w9.setCell ⟨g, k * 3 + 2, none⟩ (.int .i64 ((n : Int) + 1)))) := Lib.hid (Below.setCell B9.out hg1 _)
                have H10 : Hid (HomNew (w9.setCell ⟨g, k * 3 + 2, none⟩ (.int .i64 ((n : Int) + 1))) w8.heap.size (.slice (some ⟨g, 0, none⟩) (k + 1) c9) (l.set k ((l.getD k (0, 0, 0)).1, (l.getD k (0, 0, 0)).2.1, (n : Int) + 1))) := Lib.hid (H9.out.set HL.out hkL _)
                have A10 := Lib.hid (A8.out.trans (B10.out.mono A8.out.size))
                have e1 := less_ok HB.out (by rw [HL.out]; exact hkL : k < l.length)
                have e2 := twice_bad (rs := rs) (by rw [HL.out]; exact hkL : k < l.length)
                have e3 := house_bad (rs := rs) (by rw [HL.out]; exact hkL : k < l.length) (l.getD k (0, 0, 0)).1 (l.getD k (0, 0, 0)).2.1
                rw [HRL.out] at e3
                have C1 := HIM.out _ _ _ A10.out (H68.out.below B10.out).ents
                rw [e1] at C1
                have C2 := fun W hW => HIM.out W _ _ (A10.out.trans (hW.mono A10.out.size)) ((H8.out.below B10.out).below (w1 := W) hW).ents
                rw [e2] at C2
                have C3 := fun W hW => HIM.out W _ _ (A10.out.trans (hW.mono A10.out.size)) (H10.out.below (w1 := W) hW).ents
                rw [e3] at C3
                have K1 := Lib.hid C1
                have K2 := Lib.hid C2
                have K3 := Lib.hid C3
                clear e1 e2 e3 C1 C2 C3 hgu hgf
                refine K1.out.mono ?_
                rintro e w11 ⟨rfl, hb11⟩
                have B11 := Lib.hid hb11
                clear hb11
                go_wp2_with fail
                refine (K2.out w11 B11.out).mono ?_
                rintro e w12 ⟨rfl, hb12⟩
                have B12 := Lib.hid (B11.out.trans (hb12.mono B11.out.size))
                clear hb12
                go_wp2_with fail
                refine (K3.out w12 B12.out).mono ?_
                rintro e w13 ⟨rfl, hb13⟩
                have B13 := Lib.hid (B12.out.trans (hb13.mono B12.out.size))
                clear hb13
                go_wp2_with fail
                go_ret
                exact ⟨rfl, HFN.out _ (A10.out.trans (B13.out.mono A10.out.size))⟩
          · skip
            go_cut [9] (fun s9 wx => ∃ (ad : Option Addr) (c : Nat), s9 = .slice ad (L - 1) c ∧ Hid (HomNew wx w3.heap.size (.slice ad (L - 1) c) (l.take k ++ l.drop (k + 1))) ∧ Hid (Below w3.heap.size w3 wx))
            case first =>
              go_region_law (first
                | (refine step_append_homs rfl (.tmp 52) (.tmp 55) rfl w3.heap.size _ _ [] (l.take k) k (by rw [List.length_take, HL.out]; simp <;> omega) rfl (HomNew.zero _) rfl (EntsAt.below (EntsAt.take E3.out (k := k) (by omega)) (by repeat (first | exact Below.refl _ _ | assumption | refine Below.drew ?_ | refine belowDrewN ?_ _ | refine Below.alloc ?_ (by first | exact Nat.le_refl _ | omega | (simp; done) | (simp; omega)) _ | refine Below.setCell ?_ (by first | exact Nat.le_refl _ | omega | (simp; done) | (simp; omega)) _))) (by omega) (by simp) ?_; intro ad5 c5 w5 hH5 hb5 hs5; have H5 := Lib.hid hH5; have B5 : Hid (Below w3.heap.size w3 w5) := Lib.hid (Below.trans (by repeat (first | exact Below.refl _ _ | assumption | refine Below.drew ?_ | refine belowDrewN ?_ _ | refine Below.alloc ?_ (by first | exact Nat.le_refl _ | omega | (simp; done) | (simp; omega)) _ | refine Below.setCell ?_ (by first | exact Nat.le_refl _ | omega | (simp; done) | (simp; omega)) _)) hb5); clear hH5 hb5)
                | (refine step_append_homs rfl (.tmp 56) (.tmp 60) rfl w3.heap.size _ _ (([] : List Ent) ++ l.take k) (l.drop (k + 1)) (L - 1) (by rw [List.nil_append, List.length_take, List.length_drop, HL.out]; omega) rfl H5.out rfl (by first | exact EntsAt.below (EntsAt.dropAt E3.out (k := k + 1) (by omega)) B5.out | exact entsAt_nil (by rw [List.length_drop, HL.out]; omega) (by omega) (by omega)) (by omega) B5.out.size ?_; intro ad6 c6 w6 hH6 hb6 hs6; have H6 := Lib.hid hH6; have B6 : Hid (Below w3.heap.size w3 w6) := Lib.hid (Below.trans B5.out hb6); clear hH6 hb6))
              all_goals
                go_wp2_with fail
                go_meet
                exact ⟨_, _, rfl, H6, B6⟩
            case rest =>
              obtain ⟨ad6, c6, rfl, H6, B6⟩ := hcut
              obtain ⟨w6, hw6⟩ : ∃ W, W = wc := ⟨_, rfl⟩
              subst hw6
              have E6 := Lib.hid (E3.out.below B6.out)
              have A6 := Lib.hid (B3.out.trans (B6.out.mono B3.out.size))
              go_upto_region 9 with fail
              go_cut [10] (fun s10 wx => ∃ (ad : Option Addr) (c : Nat), s10 = .slice ad (L + 1) c ∧ Hid (HomNew wx w6.heap.size (.slice ad (L + 1) c) (l.take (k + 1) ++ l.drop k)) ∧ Hid (Below w6.heap.size w6 wx))
              case first =>
                go_region_law (first
                  | (refine step_append_homs rfl (.tmp 62) (.tmp 66) rfl w6.heap.size _ _ [] (l.take (k + 1)) (k + 1) (by rw [List.length_take, HL.out]; simp <;> omega) rfl (HomNew.zero _) rfl (EntsAt.below (EntsAt.take E6.out (k := k + 1) (by omega)) (by repeat (first | exact Below.refl _ _ | assumption | refine Below.drew ?_ | refine belowDrewN ?_ _ | refine Below.alloc ?_ (by first | exact Nat.le_refl _ | omega | (simp; done) | (simp; omega)) _ | refine Below.setCell ?_ (by first | exact Nat.le_refl _ | omega | (simp; done) | (simp; omega)) _))) (by omega) (by simp) ?_; intro ad7 c7 w7 hH7 hb7 hs7; have H7 := Lib.hid hH7; have B7 : Hid (Below w6.heap.size w6 w7) := Lib.hid (Below.trans (by repeat (first | exact Below.refl _ _ | assumption | refine Below.drew ?_ | refine belowDrewN ?_ _ | refine Below.alloc ?_ (by first | exact Nat.le_refl _ | omega | (simp; done) | (simp; omega)) _ | refine Below.setCell ?_ (by first | exact Nat.le_refl _ | omega | (simp; done) | (simp; omega)) _)) hb7); clear hH7 hb7)
                  | (refine step_append_homs rfl (.tmp 67) (.tmp 70) rfl w6.heap.size _ _ (([] : List Ent) ++ l.take (k + 1)) (l.drop k) (L + 1) (by rw [List.nil_append, List.length_take, List.length_drop, HL.out]; omega) rfl H7.out rfl (by have hq := EntsAt.below (EntsAt.dropAt E6.out (k := k) (by omega)) B7.out; first | exact hq | (rw [show k + 1 - k = 1 by omega] at hq; exact hq)) (by omega) B7.out.size ?_; intro ad8 c8 w8 hH8 hb8 hs8; have H8 := Lib.hid hH8; have B8 : Hid (Below w6.heap.size w6 w8) := Lib.hid (Below.trans B7.out hb8); clear hH8 hb8))
                all_goals
                  go_wp2_with fail
                  go_meet
                  exact ⟨_, _, rfl, H8, B8⟩
              case rest =>
                obtain ⟨ad8, c8, rfl, H8, B8⟩ := hcut
                obtain ⟨w8, hw8⟩ : ∃ W, W = wc := ⟨_, rfl⟩
                subst hw8
                have E8 := Lib.hid (E6.out.below B8.out)
                have A8 := Lib.hid (A6.out.trans (B8.out.mono A6.out.size))
                have H68 := Lib.hid (H6.out.below B8.out)
                go_wp2_with (at_builtin; refine wpList_append_homs rfl (.tmp 72) (.tmp 73) rfl w8.heap.size _ _ [] l L (by rw [List.length_nil, HL.out, Nat.zero_add]) rfl (HomNew.zero w8) rfl (E8.out.below (Below.alloc (Below.refl _ _) (Nat.le_refl _) _)) (by omega) (by simp) ?_; intro ad9 c9 w9 hH9 hb9 hs9; have H9 : Hid (HomNew w9 w8.heap.size (.slice ad9 L c9) l) := Lib.hid hH9; have B9 : Hid (Below w8.heap.size w8 w9) := Lib.hid (Below.trans (Below.alloc (Below.refl _ _) (Nat.le_refl _) _) hb9); clear hH9 hb9; obtain ⟨g, eg, hg1, hg2, ⟨u, hgu⟩, hgf⟩ := HomNew.cells (k := k) H9.out HL.out hkL; subst eg)
                have B10 : Hid (Below w8.heap.size w8 (w9.setCell ⟨g, k * 3 + 2, none⟩ (.int .i64 ((n : Int) + 1)))) := Lib.hid (Below.setCell B9.out hg1 _)
                have H10 : Hid (HomNew (w9.setCell ⟨g, k * 3 + 2, none⟩ (.int .i64 ((n : Int) + 1))) w8.heap.size (.slice (some ⟨g, 0, none⟩) L c9) (l.set k ((l.getD k (0, 0, 0)).1, (l.getD k (0, 0, 0)).2.1, (n : Int) + 1))) := Lib.hid (H9.out.set HL.out hkL _)
                have A10 := Lib.hid (A8.out.trans (B10.out.mono A8.out.size))
                have e1 := less_ok HB.out (by rw [HL.out]; exact hkL : k < l.length)
                have e2 := twice_bad (rs := rs) (by rw [HL.out]; exact hkL : k < l.length)
                have e3 := house_bad (rs := rs) (by rw [HL.out]; exact hkL : k < l.length) (l.getD k (0, 0, 0)).1 (l.getD k (0, 0, 0)).2.1
                rw [HRL.out] at e3
                have C1 := HIM.out _ _ _ A10.out (H68.out.below B10.out).ents
                rw [e1] at C1
                have C2 := fun W hW => HIM.out W _ _ (A10.out.trans (hW.mono A10.out.size)) ((H8.out.below B10.out).below (w1 := W) hW).ents
                rw [e2] at C2
                have C3 := fun W hW => HIM.out W _ _ (A10.out.trans (hW.mono A10.out.size)) (H10.out.below (w1 := W) hW).ents
                rw [e3] at C3
                have K1 := Lib.hid C1
                have K2 := Lib.hid C2
                have K3 := Lib.hid C3
                clear e1 e2 e3 C1 C2 C3 hgu hgf
                refine K1.out.mono ?_
                rintro e w11 ⟨rfl, hb11⟩
                have B11 := Lib.hid hb11
                clear hb11
                go_wp2_with fail
                refine (K2.out w11 B11.out).mono ?_
                rintro e w12 ⟨rfl, hb12⟩
                have B12 := Lib.hid (B11.out.trans (hb12.mono B11.out.size))
                clear hb12
                go_wp2_with fail
                refine (K3.out w12 B12.out).mono ?_
                rintro e w13 ⟨rfl, hb13⟩
                have B13 := Lib.hid (B12.out.trans (hb13.mono B12.out.size))
                clear hb13
                go_wp2_with fail
                go_ret
                exact ⟨rfl, HFN.out _ (A10.out.trans (B13.out.mono A10.out.size))⟩
end Go.Proofs.Ytgpdkplpneklgaa
