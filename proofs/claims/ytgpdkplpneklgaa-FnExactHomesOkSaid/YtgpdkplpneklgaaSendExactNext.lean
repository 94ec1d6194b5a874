/- The walk of FnExactSendNext. -/
import Derived.Test.YtgpdkplpneklgaaEntCopy
import Derived.Test.YtgpdkplpneklgaaEntEq
import Derived.Test.YtgpdkplpneklgaaEntOpen
namespace Go.Proofs.Ytgpdkplpneklgaa
open Go.RowKit
set_option linter.unusedVariables false

set_option maxHeartbeats 2000000 in
theorem exactSendNext_walk (v : Value) (r : List (List Ent)) (h x : Int) (w : World) (hv : TabsAt w v r) (_hh : (Lit.int .i64 h).wf = true) (_hx : (Lit.int .i64 x).wf = true) :
    Calls Try.prog 5 #[v, .int .i64 h, .int .i64 x] w fun e w' => e = .returned (.bool true) ∧ Below w.heap.size w w' := by
  have hsz := szEntrySS_any v r 1048576 w hv (by omega) (by omega)
  have hco : SmallT r → ∀ W, Below w.heap.size w W → Calls Try.prog 20 #[v] W fun e w' => ∃ v', e = .returned v' ∧ TabNew w' W.heap.size v' r ∧ Below W.heap.size W w' := fun hs W hW => toEntrySS_any v r W (hv.below hW) hs
  obtain ⟨a, cap, rfl, hc, hm⟩ := hv.form
  obtain ⟨B, hB⟩ : ∃ B, sendF r h x = B := ⟨_, rfl⟩
  have hok : ∀ W u, TabsAt W u r → Calls Try.prog 21 #[u, .int .i64 h, .int .i64 x] W fun e w' => e = .returned (.int .i64 B) ∧ Below W.heap.size W w' := fun W u hu => by rw [← hB]; exact implSendNext_any u r h x W hu
  have hos : ∀ W u, TabsAt W u r → Calls Try.prog 19 #[u, .int .i64 h, .int .i64 x] W fun e w' => e = .returned (.int .i64 B) ∧ Below W.heap.size W w' := fun W u hu => by rw [← hB]; exact specSendNext_any u r h x W hu
  have heq : ∀ W u u2, TabsAt W u r → TabsAt W u2 r → Calls Try.prog 22 #[u, u2] W fun e w' => e = .returned (.bool true) ∧ Below W.heap.size W w' := fun W u u2 hu hu2 => eqEntrySS_same u u2 r W hu hu2
  have hBB : (B != B) = false := by simp
  have HSZ := Lib.hid hsz
  have HCO := Lib.hid hco
  have HOK := Lib.hid hok
  have HOS := Lib.hid hos
  have HEQ := Lib.hid heq
  clear hsz hco hok hos heq hB hv
  go_enter Try.func5, Try.ntmps5
  go_wp2_with fail
  refine (HSZ.out).mono ?_
  rintro e w1 ⟨k, rfl, hk1, hk2, hsm, rfl⟩
  have HSM := Lib.hid hsm
  clear hsm
  by_cases hk : k < 0
  · go_wp2_with fail
    go_ret
    exact ⟨rfl, Below.refl _ _⟩
  · have HS : Hid (SmallT r) := Lib.hid (HSM.out (by omega))
    go_wp2_with fail
    refine (HCO.out HS.out _ (Below.refl _ _)).mono ?_
    rintro e w2 ⟨v2, rfl, hn2, hb2⟩
    have G2 := Lib.hid hn2.tabs
    clear hn2
    go_wp2_with fail
    refine (HOS.out _ _ G2.out).mono ?_
    rintro e w3 ⟨rfl, hb3⟩
    have B3 := Lib.hid (hb2.trans (hb3.mono hb2.size))
    go_wp2_with fail
    refine (HCO.out HS.out _ B3.out).mono ?_
    rintro e w4 ⟨v4, rfl, hn4, hb4⟩
    have G4 := Lib.hid hn4.tabs
    have B4 := Lib.hid (B3.out.trans (hb4.mono B3.out.size))
    clear hn4
    go_wp2_with fail
    refine (HOK.out _ _ G4.out).mono ?_
    rintro e w5 ⟨rfl, hb5⟩
    have G5 := Lib.hid (G4.out.below hb5)
    have B5 := Lib.hid (B4.out.trans (hb5.mono B4.out.size))
    go_wp2_with fail
    refine (HCO.out HS.out _ B5.out).mono ?_
    rintro e w6 ⟨v6, rfl, hn6, hb6⟩
    have G6 := Lib.hid hn6.tabs
    have G7 := Lib.hid (G5.out.below hb6)
    have B6 := Lib.hid (B5.out.trans (hb6.mono B5.out.size))
    clear hn6
    go_wp2_with fail
    refine (HEQ.out _ _ _ G7.out G6.out).mono ?_
    rintro e w7 ⟨rfl, hb7⟩
    go_wp2_with fail
    go_ret
    exact ⟨rfl, B6.out.trans (hb7.mono B6.out.size)⟩
end Go.Proofs.Ytgpdkplpneklgaa
