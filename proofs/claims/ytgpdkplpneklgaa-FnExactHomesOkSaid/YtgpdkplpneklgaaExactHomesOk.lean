/- The walk of FnExactHomesOk. -/
import Derived.Test.YtgpdkplpneklgaaIntSS
import Derived.Test.YtgpdkplpneklgaaHomsCopy
import Derived.Test.YtgpdkplpneklgaaHomsOpen
import Derived.Test.YtgpdkplpneklgaaHomsOkI
namespace Go.Proofs.Ytgpdkplpneklgaa
open Go.RowKit
set_option linter.unusedVariables false

set_option maxRecDepth 100000 in
set_option maxHeartbeats 4000000 in
theorem exactHomesOk_walk (v : Value) (r : List (List Int)) (hv : Value) (l : List Ent) (w : World) (hr : RowsAt w v r) (hh : EntsAt w hv l) :
    Calls Try.prog 4 #[v, hv] w fun e w' => e = .returned (.bool true) ∧ Below w.heap.size w w' := by
  have hsz := szIntSS_any v r 1048576 w hr (by omega) (by omega)
  have hsz2 := fun left (h0 : 0 ≤ left) h1 => szHomeS_any hv l left w hh h0 h1
  have hco : Small2 r → ∀ W, Below w.heap.size w W → Calls Try.prog 14 #[v] W fun e w' => ∃ v', e = .returned v' ∧ RowsNew w' W.heap.size v' r ∧ Below W.heap.size W w' := fun hs W hW => toIntSS_new v r W (hr.below hW) hs
  have hco2 : SmallE l → ∀ W, Below w.heap.size w W → Calls Try.prog 15 #[hv] W fun e w' => ∃ v', e = .returned v' ∧ HomNew w' W.heap.size v' l ∧ Below W.heap.size W w' := fun hs W hW => toHomeS_any hv l W (hh.below hW) hs
  obtain ⟨a, cap, rfl, hc, hm⟩ := hr.form
  obtain ⟨a2, cap2, rfl, hc2, hm2⟩ := hh.form
  obtain ⟨B, hB⟩ : ∃ B, homesOkF r l = B := ⟨_, rfl⟩
  have hok : ∀ W u u2, RowsAt W u r → EntsAt W u2 l → Calls Try.prog 10 #[u, u2] W fun e w' => e = .returned (.bool B) ∧ Below W.heap.size W w' := fun W u u2 h1 h2 => by rw [← hB]; exact implHomesOk_any u u2 r l W h1 h2
  have hos : ∀ W u u2, RowsAt W u r → EntsAt W u2 l → Calls Try.prog 11 #[u, u2] W fun e w' => e = .returned (.bool B) ∧ Below W.heap.size W w' := fun W u u2 h1 h2 => by rw [← hB]; exact specHomesOk_any u u2 r l W h1 h2
  have heq : ∀ W u u2, RowsAt W u r → RowsAt W u2 r → Calls Try.prog 16 #[u, u2] W fun e w' => e = .returned (.bool true) ∧ Below W.heap.size W w' := fun W u u2 hu hu2 => by
    have := eqIntSS_any u u2 r r W hu hu2
    exact this.mono fun e w' h => ⟨by rw [h.1]; simp, h.2.below _⟩
  have heq2 : ∀ W u u2, EntsAt W u l → EntsAt W u2 l → Calls Try.prog 17 #[u, u2] W fun e w' => e = .returned (.bool true) ∧ Below W.heap.size W w' := fun W u u2 hu hu2 => eqHomeS_same u u2 l W hu hu2
  have hBB : (B != B) = false := by simp
  have HSZ := Lib.hid hsz
  have HS2 := Lib.hid hsz2
  have HCO := Lib.hid hco
  have HC2 := Lib.hid hco2
  have HOK := Lib.hid hok
  have HOS := Lib.hid hos
  have HEQ := Lib.hid heq
  have HE2 := Lib.hid heq2
  clear hsz hsz2 hco hco2 hok hos heq heq2 hB hr hh
  go_enter Try.func4, Try.ntmps4
  go_wp2_with fail
  refine (HSZ.out).mono ?_
  rintro e w1 ⟨k, rfl, hk1, hk2, hsm, rfl⟩
  have HSM := Lib.hid hsm
  clear hsm
  by_cases hk : k < 0
  · go_wp2_with fail
    go_ret
    exact ⟨rfl, Below.refl _ _⟩
  · have SM := Lib.hid (HSM.out (by omega))
    go_wp2_with fail
    refine (HS2.out k (by omega) (by omega)).mono ?_
    rintro e w2 ⟨k2, rfl, hk3, hk4, hsm, rfl⟩
    have HSM2 := Lib.hid hsm
    clear hsm
    by_cases hk2 : k2 < 0
    · go_wp2_with fail
      go_ret
      exact ⟨rfl, Below.refl _ _⟩
    · have SM2 := Lib.hid (HSM2.out (by omega))
      go_wp2_with fail
      refine (HCO.out SM.out _ (Below.refl _ _)).mono ?_
      rintro e w3 ⟨v3, rfl, hn3, hb3⟩
      have G3 := Lib.hid hn3.rows
      have B3 := Lib.hid hb3
      clear hn3 hb3
      go_wp2_with fail
      refine (HC2.out SM2.out _ B3.out).mono ?_
      rintro e w4 ⟨v4, rfl, hn4, hb4⟩
      have G4 := Lib.hid hn4.ents
      have G34 := Lib.hid (G3.out.below hb4)
      have B4 := Lib.hid (B3.out.trans (hb4.mono B3.out.size))
      clear hn4 hb4
      go_wp2_with fail
      refine (HOS.out _ _ _ G34.out G4.out).mono ?_
      rintro e w5 ⟨rfl, hb5⟩
      have B5 := Lib.hid (B4.out.trans (hb5.mono B4.out.size))
      clear hb5
      go_wp2_with fail
      refine (HCO.out SM.out _ B5.out).mono ?_
      rintro e w6 ⟨v6, rfl, hn6, hb6⟩
      have G6 := Lib.hid hn6.rows
      have B6 := Lib.hid (B5.out.trans (hb6.mono B5.out.size))
      obtain ⟨xa, xn, xc, e6⟩ := isSlice2 hn6
      subst e6
      clear hn6 hb6
      go_wp2_with fail
      refine (HC2.out SM2.out _ B6.out).mono ?_
      rintro e w7 ⟨v7, rfl, hn7, hb7⟩
      have G7 := Lib.hid hn7.ents
      have G67 := Lib.hid (G6.out.below hb7)
      have B7 := Lib.hid (B6.out.trans (hb7.mono B6.out.size))
      obtain ⟨ya, yc, e7, _, _⟩ := hn7.form
      subst e7
      clear hn7 hb7
      go_wp2_with fail
      refine (HOK.out _ _ _ G67.out G7.out).mono ?_
      rintro e w8 ⟨rfl, hb8⟩
      have G78 := Lib.hid (G7.out.below hb8)
      have G68 := Lib.hid (G67.out.below hb8)
      have B8 := Lib.hid (B7.out.trans (hb8.mono B7.out.size))
      clear hb8
      go_wp2_with fail
      refine (HCO.out SM.out _ B8.out).mono ?_
      rintro e w9 ⟨v9, rfl, hn9, hb9⟩
      have G9 := Lib.hid hn9.rows
      have G69 := Lib.hid (G68.out.below hb9)
      have G79 := Lib.hid (G78.out.below hb9)
      have B9 := Lib.hid (B8.out.trans (hb9.mono B8.out.size))
      clear hn9 hb9
      go_wp2_with fail
      refine (HEQ.out _ _ _ G69.out G9.out).mono ?_
      rintro e w10 ⟨rfl, hb10⟩
      have G710 := Lib.hid (G79.out.below hb10)
      have B10 := Lib.hid (B9.out.trans (hb10.mono B9.out.size))
      clear hb10
      go_wp2_with fail
      refine (HC2.out SM2.out _ B10.out).mono ?_
      rintro e w11 ⟨v11, rfl, hn11, hb11⟩
      have G11 := Lib.hid hn11.ents
      have G711 := Lib.hid (G710.out.below hb11)
      have B11 := Lib.hid (B10.out.trans (hb11.mono B10.out.size))
      clear hn11 hb11
      go_wp2_with fail
      refine (HE2.out _ _ _ G711.out G11.out).mono ?_
      rintro e w12 ⟨rfl, hb12⟩
      have B12 := Lib.hid (B11.out.trans (hb12.mono B11.out.size))
      clear hb12
      go_wp2_with fail
      go_ret
      exact ⟨rfl, B12.out⟩
end Go.Proofs.Ytgpdkplpneklgaa
