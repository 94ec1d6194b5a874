/- The walk of FnExactSendTables. -/
import Derived.Test.YtnjkifnlimfhnaaGreatDoorMarkU
import Derived.Test.YtnjkifnlimfhnaaGreatDoorSendX
import Derived.Test.YtnjkifnlimfhnaaGreatDoorHomsOpen
import Derived.Test.YtnjkifnlimfhnaaGreatDoorHomsOkI
namespace Go.Proofs.YtnjkifnlimfhnaaGreatDoor
open Go.RowKit
set_option linter.unusedVariables false

set_option maxRecDepth 100000 in
set_option maxHeartbeats 16000000 in
theorem exactSendTables_walk (v : Value) (r : List (List Int)) (hv : Value) (l : List Ent) (w : World) (hr : RowsAt w v r) (hh : EntsAt w hv l) (hE : ErrOk w) :
    Calls Tryz.prog 6 #[v, hv] w fun e w' => e = .returned (.bool true) ∧ Below w.heap.size w w' := by
  have hsz := szIntSS_any v r 1048576 w hr (by omega) (by omega)
  have hsz2 := fun left (h0 : 0 ≤ left) h1 => szHomeS_any hv l left w hh h0 h1
  have hco : Small2 r → ∀ W, Below w.heap.size w W → Calls Tryz.prog 22 #[v] W fun e w' => ∃ v', e = .returned v' ∧ RowsNew w' W.heap.size v' r ∧ Below W.heap.size W w' := fun hs W hW => toIntSS_new v r W (hr.below hW) hs
  have hco2 : SmallE l → ∀ W, Below w.heap.size w W → Calls Tryz.prog 23 #[hv] W fun e w' => ∃ v', e = .returned v' ∧ HomNew w' W.heap.size v' l ∧ Below W.heap.size W w' := fun hs W hW => toHomeS_any hv l W (hh.below hW) hs
  obtain ⟨a, cap, rfl, hc, hm⟩ := hr.form
  obtain ⟨a2, cap2, rfl, hc2, hm2⟩ := hh.form
  obtain ⟨hT5, hTs⟩ := tabs_small (rs := r) (l := l)
  obtain ⟨T, hT⟩ : ∃ T, sendTabsF r l r.length = T := ⟨_, rfl⟩
  rw [hT] at hT5 hTs
  have hok : ∀ W u u2, RowsAt W u r → EntsAt W u2 l → ErrOk W → Calls Tryz.prog 9 #[u, u2] W fun e w' => ∃ v', e = .returned v' ∧ TabsX w' W.heap.size v' T ∧ Below W.heap.size W w' := fun W u u2 h1 h2 h3 => by rw [← hT]; exact implSendTablesX_any u u2 r l r.length W h1 h2 rfl h3
  have hos : ∀ W u u2, RowsAt W u r → EntsAt W u2 l → Calls Tryz.prog 11 #[u, u2] W fun e w' => ∃ v', e = .returned v' ∧ TabsL w' W.heap.size v' T ∧ Below W.heap.size W w' := fun W u u2 h1 h2 => by rw [← hT]; exact specTabs_any u u2 r l W h1 h2
  have heq : ∀ W u u2, RowsAt W u r → RowsAt W u2 r → Calls Tryz.prog 25 #[u, u2] W fun e w' => e = .returned (.bool true) ∧ Below W.heap.size W w' := fun W u u2 hu hu2 => by
    have := eqIntSS_any u u2 r r W hu hu2
    exact this.mono fun e w' h => ⟨by rw [h.1]; simp, h.2.below _⟩
  have heq2 : ∀ W u u2, EntsAt W u l → EntsAt W u2 l → Calls Tryz.prog 26 #[u, u2] W fun e w' => e = .returned (.bool true) ∧ Below W.heap.size W w' := fun W u u2 hu hu2 => eqHomeS_same u u2 l W hu hu2
  have heq3 : ∀ W u u2, TabsAt W u T → TabsAt W u2 T → Calls Tryz.prog 24 #[u, u2] W fun e w' => e = .returned (.bool true) ∧ Below W.heap.size W w' := fun W u u2 hu hu2 => eqEntrySS_same u u2 T W hu hu2
  have hmk : ∀ W lo u, TabsX W lo u T → lo ≤ W.heap.size → Calls Tryz.prog 29 #[u, .int .i64 1] W (MarkTabsPost lo u T W) := fun W lo u h1 h2 => markTabs_own lo u T W h1 h2 hT5 hTs
  have hhd : ∀ W u, TabsAt W u (numTo T T.length) → Calls Tryz.prog 30 #[u, .int .i64 1] W fun e w' => e = .returned (.int .i64 (1 + (offE T T.length : Int) * 3)) ∧ w' = W := fun W u h => heldTabs_any u T W h hT5 hTs
  obtain ⟨Q, hQ⟩ : ∃ Q : Nat, offE T T.length * 3 = Q := ⟨_, rfl⟩
  have hQI : (offE T T.length : Int) * 3 = (Q : Int) := by omega
  unfold MarkTabsPost at hmk
  rw [hQI] at hhd
  simp only [hQI] at hmk
  have hq0 : ¬ (1 : Int) + (Q : Int) < 0 := by omega
  have hq1 : ((1 : Int) + (Q : Int) != 1 + (Q : Int)) = false := by simp
  have HSZ := Lib.hid hsz
  have HS2 := Lib.hid hsz2
  have HCO := Lib.hid hco
  have HC2 := Lib.hid hco2
  have HOK := Lib.hid hok
  have HOS := Lib.hid hos
  have HEQ := Lib.hid heq
  have HE2 := Lib.hid heq2
  have HE3 := Lib.hid heq3
  have HMK := Lib.hid hmk
  have HHD := Lib.hid hhd
  have HE := Lib.hid hE
  clear hsz hsz2 hco hco2 hok hos heq heq2 heq3 hmk hhd hr hh hE hT hT5 hTs hQ hQI
  go_enter Tryz.func6, Tryz.ntmps6
  go_wp2_with fail
  refine (HSZ.out).mono ?_
  rintro e w1 ⟨k, rfl, hk1, hk2, hsm, rfl⟩
  have HSM := Lib.hid hsm
  clear hsm
  by_cases hk : k < 0
  · go_wp2_with fail
    go_ret
    exact ⟨rfl, Below.refl _ _⟩
  · have SM := Lib.hid (HSM.out (by omega))
    go_wp2_with fail
    refine (HS2.out k (by omega) (by omega)).mono ?_
    rintro e w2 ⟨k2, rfl, hk3, hk4, hsm, rfl⟩
    have HSM2 := Lib.hid hsm
    clear hsm
    by_cases hk2 : k2 < 0
    · go_wp2_with fail
      go_ret
      exact ⟨rfl, Below.refl _ _⟩
    · have SM2 := Lib.hid (HSM2.out (by omega))
      go_wp2_with fail
      refine (HCO.out SM.out _ (Below.refl _ _)).mono ?_
      rintro e w3 ⟨v3, rfl, hn3, hb3⟩
      have G3 := Lib.hid hn3.rows
      have B3 := Lib.hid hb3
      clear hn3 hb3
      go_wp2_with fail
      refine (HC2.out SM2.out _ B3.out).mono ?_
      rintro e w4 ⟨v4, rfl, hn4, hb4⟩
      have G4 := Lib.hid hn4.ents
      have G34 := Lib.hid (G3.out.below hb4)
      have B4 := Lib.hid (B3.out.trans (hb4.mono B3.out.size))
      clear hn4 hb4
      go_wp2_with fail
      refine (HOS.out _ _ _ G34.out G4.out).mono ?_
      rintro e w5 ⟨v5, rfl, ht5, hb5⟩
      have B5 := Lib.hid (B4.out.trans (hb5.mono B4.out.size))
      have W5 := Lib.hid ht5.tabs
      obtain ⟨wa, wc, e5, _, _⟩ := ht5.form
      subst e5
      clear ht5 hb5 G3 G34 G4
      go_wp2_with fail
      refine (HCO.out SM.out _ B5.out).mono ?_
      rintro e w6 ⟨v6, rfl, hn6, hb6⟩
      have N6 := Lib.hid hn6
      have B6 := Lib.hid (B5.out.trans (hb6.mono B5.out.size))
      have C6 := Lib.hid hb6
      obtain ⟨xa, xn, xc, e6⟩ := isSlice2 hn6
      subst e6
      clear hn6 hb6
      go_wp2_with fail
      refine (HC2.out SM2.out _ B6.out).mono ?_
      rintro e w7 ⟨v7, rfl, hn7, hb7⟩
      have N7 := Lib.hid hn7
      have N67 := Lib.hid (N6.out.below hb7)
      have U7 := Lib.hid hn7.upto
      have R7 := Lib.hid (N6.out.has (Nat.le_refl _) |>.below hb7)
      have B7 := Lib.hid (B6.out.trans (hb7.mono B6.out.size))
      have C7 := Lib.hid (C6.out.trans (hb7.mono C6.out.size))
      have s67 := hb7.size
      obtain ⟨ya, yc, e7, _, _⟩ := hn7.form
      subst e7
      clear hn7 hb7 N6
      go_wp2_with fail
      refine (HOK.out _ _ _ N67.out.rows N7.out.ents (HE.out.below B7.out)).mono ?_
      rintro e w8 ⟨v8, rfl, hx8, hb8⟩
      have X8 := Lib.hid hx8
      have N68 := Lib.hid (N67.out.below hb8)
      have N78 := Lib.hid (N7.out.below hb8)
      have R8 := Lib.hid (R7.out.below hb8)
      have B8 := Lib.hid (B7.out.trans (hb8.mono B7.out.size))
      have C8 := Lib.hid (C7.out.trans (hb8.mono C7.out.size))
      have s78 := hb8.size
      obtain ⟨ga, gc, e8, _, _⟩ := hx8.form
      subst e8
      clear hx8 hb8 N67 N7 R7
      go_wp2_with fail
      refine (HE3.out _ _ _ X8.out.tabs.tabs (W5.out.below C8.out)).mono ?_
      rintro e w9 ⟨rfl, hb9⟩
      have X9 := Lib.hid (X8.out.below hb9)
      have N69 := Lib.hid (N68.out.below hb9)
      have N79 := Lib.hid (N78.out.below hb9)
      have R9 := Lib.hid (R8.out.below hb9)
      have B9 := Lib.hid (B8.out.trans (hb9.mono B8.out.size))
      have C9 := Lib.hid (C8.out.trans (hb9.mono C8.out.size))
      have s89 := hb9.size
      clear hb9 X8 N68 N78 R8
      go_wp2_with fail
      refine (HCO.out SM.out _ B9.out).mono ?_
      rintro e w10 ⟨v10, rfl, hn10, hb10⟩
      have G10 := Lib.hid hn10.rows
      have X10 := Lib.hid (X9.out.below hb10)
      have N610 := Lib.hid (N69.out.below hb10)
      have N710 := Lib.hid (N79.out.below hb10)
      have R10 := Lib.hid (R9.out.below hb10)
      have B10 := Lib.hid (B9.out.trans (hb10.mono B9.out.size))
      have C10 := Lib.hid (C9.out.trans (hb10.mono C9.out.size))
      have s910 := hb10.size
      clear hn10 hb10 X9 N69 N79 R9
      go_wp2_with fail
      refine (HEQ.out _ _ _ N610.out.rows G10.out).mono ?_
      rintro e w11 ⟨rfl, hb11⟩
      have X11 := Lib.hid (X10.out.below hb11)
      have N711 := Lib.hid (N710.out.below hb11)
      have R11 := Lib.hid (R10.out.below hb11)
      have B11 := Lib.hid (B10.out.trans (hb11.mono B10.out.size))
      have C11 := Lib.hid (C10.out.trans (hb11.mono C10.out.size))
      have s1011 := hb11.size
      clear hb11 X10 N610 N710 R10 G10
      go_wp2_with fail
      refine (HC2.out SM2.out _ B11.out).mono ?_
      rintro e w12 ⟨v12, rfl, hn12, hb12⟩
      have G12 := Lib.hid hn12.ents
      have X12 := Lib.hid (X11.out.below hb12)
      have N712 := Lib.hid (N711.out.below hb12)
      have R12 := Lib.hid (R11.out.below hb12)
      have B12 := Lib.hid (B11.out.trans (hb12.mono B11.out.size))
      have C12 := Lib.hid (C11.out.trans (hb12.mono C11.out.size))
      have s1112 := hb12.size
      clear hn12 hb12 X11 N711 R11
      go_wp2_with fail
      refine (HE2.out _ _ _ N712.out.ents G12.out).mono ?_
      rintro e w13 ⟨rfl, hb13⟩
      have X13 := Lib.hid (X12.out.below hb13)
      have N713 := Lib.hid (N712.out.below hb13)
      have R13 := Lib.hid (R12.out.below hb13)
      have B13 := Lib.hid (B12.out.trans (hb13.mono B12.out.size))
      have C13 := Lib.hid (C12.out.trans (hb13.mono C12.out.size))
      have s1213 := hb13.size
      clear hb13 X12 N712 R12 G12
      go_wp2_with fail
      refine (marks2 w5.heap.size w6.heap.size _ r 1 w13 R13.out SM.out (by omega) (by omega)).mono ?_
      rintro e w14 ⟨k14, rfl, p0, p1, hm14⟩
      have s1314 := hm14.size
      have B14 := Lib.hid (B13.out.trans (hm14.below B5.out.size))
      have C14 := Lib.hid (C13.out.trans (hm14.below (Nat.le_refl _)))
      have X14 := Lib.hid (X13.out.out hm14.keptOut (by omega))
      have N714 := Lib.hid (N713.out.out hm14.keptOut (by omega))
      clear hm14 X13 N713 R13
      go_wp2_with fail
      refine (markHomeS_any w6.heap.size w7.heap.size _ l k14 w14 N714.out U7.out SM2.out p0 (by omega)).mono ?_
      rintro e w15 ⟨rfl, hm15⟩
      have s1415 := hm15.size
      have B15 := Lib.hid (B14.out.trans (hm15.below (Nat.le_trans B5.out.size C6.out.size)))
      have C15 := Lib.hid (C14.out.trans (hm15.below C6.out.size))
      have X15 := Lib.hid (X14.out.out hm15 (by omega))
      have hk15 : ¬ k14 + (l.length : Int) * 3 < 0 := by omega
      have hk15d : decide (k14 + (l.length : Int) * 3 < 0) = false := decide_eq_false hk15
      clear hm15 X14 N714
      go_wp2_with fail
      refine (HE3.out _ _ _ X15.out.tabs.tabs (W5.out.below C15.out)).mono ?_
      rintro e w16 ⟨rfl, hb16⟩
      have X16 := Lib.hid (X15.out.below hb16)
      have B16 := Lib.hid (B15.out.trans (hb16.mono B15.out.size))
      have C16 := Lib.hid (C15.out.trans (hb16.mono C15.out.size))
      have s1516 := hb16.size
      clear hb16 X15
      go_wp2_with fail
      refine (HMK.out _ _ _ X16.out (by omega)).mono ?_
      rintro e w17 ⟨rfl, hx17, hb17, hs17⟩
      have X17 := Lib.hid hx17
      have B17 := Lib.hid (B16.out.trans (hb17.mono B7.out.size))
      have C17 := Lib.hid (C16.out.trans (hb17.mono C7.out.size))
      clear hx17 hb17 X16
      go_wp2_with fail
      refine (HHD.out w17 _ X17.out.tabs.tabs).mono ?_
      rintro e w18 ⟨rfl, rfl⟩
      go_wp2_with fail
      refine (HCO.out SM.out _ B17.out).mono ?_
      rintro e w19 ⟨v19, rfl, hn19, hb19⟩
      have G19 := Lib.hid hn19.rows
      have X19 := Lib.hid (X17.out.below hb19)
      have B19 := Lib.hid (B17.out.trans (hb19.mono B17.out.size))
      have C19 := Lib.hid (C17.out.trans (hb19.mono C17.out.size))
      clear hn19 hb19 X17
      go_wp2_with fail
      refine (HC2.out SM2.out _ B19.out).mono ?_
      rintro e w20 ⟨v20, rfl, hn20, hb20⟩
      have G20 := Lib.hid hn20.ents
      have G1920 := Lib.hid (G19.out.below hb20)
      have X20 := Lib.hid (X19.out.below hb20)
      have B20 := Lib.hid (B19.out.trans (hb20.mono B19.out.size))
      have C20 := Lib.hid (C19.out.trans (hb20.mono C19.out.size))
      clear hn20 hb20 X19 G19
      go_wp2_with fail
      refine (HOK.out _ _ _ G1920.out G20.out (HE.out.below B20.out)).mono ?_
      rintro e w21 ⟨v21, rfl, hx21, hb21⟩
      have Y21 := Lib.hid hx21.tabs.tabs
      have X21 := Lib.hid (X20.out.below hb21)
      have B21 := Lib.hid (B20.out.trans (hb21.mono B20.out.size))
      have C21 := Lib.hid (C20.out.trans (hb21.mono C20.out.size))
      clear hx21 hb21 X20
      go_wp2_with fail
      refine (HE3.out _ _ _ Y21.out (W5.out.below C21.out)).mono ?_
      rintro e w22 ⟨rfl, hb22⟩
      have X22 := Lib.hid (X21.out.below hb22)
      have B22 := Lib.hid (B21.out.trans (hb22.mono B21.out.size))
      clear hb22 X21
      go_wp2_with fail
      refine (HHD.out w22 _ X22.out.tabs.tabs).mono ?_
      rintro e w23 ⟨rfl, rfl⟩
      go_wp2_with fail
      go_ret
      exact ⟨rfl, B22.out⟩
end Go.Proofs.YtnjkifnlimfhnaaGreatDoor
