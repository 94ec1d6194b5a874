/- The walk of FnExactRanksMany. -/
import Derived.Test.YtlkchhedlbaomaaRanksPickAll
import Derived.Test.YtlkchhedlbaomaaRanksSize
import Derived.Test.YtlkchhedlbaomaaRanksManyI
import Derived.Test.YtlkchhedlbaomaaRanksManyS2
namespace Go.Proofs.Ytlkchhedlbaomaa
open Go.RowKit
set_option linter.unusedVariables false

set_option maxHeartbeats 2000000 in
theorem exactRanksMany_walk (v : Value) (r : List (List (List Int))) (w : World) (hv : GridAt w v r) :
    Calls Try.prog 18 #[v] w fun e w' => e = .returned (.bool true) ∧ Below w.heap.size w w' := by
  have hsz := szIntSSS_any v r 1048576 w hv (by omega) (by omega)
  have hco : Small3 r → ∀ W, Below w.heap.size w W → Calls Try.prog 23 #[v] W fun e w' => ∃ v', e = .returned v' ∧ GridNew w' W.heap.size v' r ∧ Below W.heap.size W w' := fun hs W hW => toIntSSS_new v r W (hv.below hW) hs
  obtain ⟨a, cap, rfl, hc, hm⟩ := hv.form
  obtain ⟨B, hB⟩ : ∃ B, manyF r = B := ⟨_, rfl⟩
  have hok : ∀ W u, GridAt W u r → Calls Try.prog 33 #[u] W fun e w' => e = .returned (.int .i64 B) ∧ Below W.heap.size W w' := fun W u hu => by rw [← hB]; exact implMany_any u r W hu
  have hos : ∀ W u, GridAt W u r → Calls Try.prog 34 #[u] W fun e w' => e = .returned (.int .i64 B) ∧ Below W.heap.size W w' := fun W u hu => by rw [← hB]; exact specMany_any u r W hu
  have heq : ∀ W u u2, GridAt W u r → GridAt W u2 r → Calls Try.prog 24 #[u, u2] W fun e w' => e = .returned (.bool true) ∧ Below W.heap.size W w' := fun W u u2 hu hu2 => by
    have := drew_below (eqIntSSS_any u u2 r r W hu hu2); simpa using this
  have hbb : (B != B) = false := by simp
  have HSZ := Lib.hid hsz
  have HCO := Lib.hid hco
  have HOK := Lib.hid hok
  have HOS := Lib.hid hos
  have HEQ := Lib.hid heq
  clear hsz hco hok hos heq hB hv
  go_enter Try.func18, Try.ntmps18
  go_wp2_with fail
  refine (HSZ.out).mono ?_
  rintro e w1 ⟨k, rfl, hk1, hk2, hsm, rfl⟩
  have HSM := Lib.hid hsm
  clear hsm
  by_cases hk : k < 0
  · go_wp2_with fail
    go_ret
    exact ⟨rfl, Below.refl _ _⟩
  · have HS : Hid (Small3 r) := Lib.hid (HSM.out (by omega))
    go_wp2_with fail
    refine (HCO.out HS.out _ (Below.refl _ _)).mono ?_
    rintro e w2 ⟨v2, rfl, hn2, hb2⟩
    have G2 := Lib.hid hn2.grid
    clear hn2
    go_wp2_with fail
    refine (HOS.out _ _ G2.out).mono ?_
    rintro e w3 ⟨rfl, hb3⟩
    have B3 := Lib.hid (hb2.trans (hb3.mono hb2.size))
    go_wp2_with fail
    refine (HCO.out HS.out _ B3.out).mono ?_
    rintro e w4 ⟨v4, rfl, hn4, hb4⟩
    have G4 := Lib.hid hn4.grid
    have B4 := Lib.hid (B3.out.trans (hb4.mono B3.out.size))
    clear hn4
    go_wp2_with fail
    refine (HOK.out _ _ G4.out).mono ?_
    rintro e w5 ⟨rfl, hb5⟩
    have G5 := Lib.hid (G4.out.below hb5)
    have B5 := Lib.hid (B4.out.trans (hb5.mono B4.out.size))
    go_wp2_with fail
    refine (HCO.out HS.out _ B5.out).mono ?_
    rintro e w6 ⟨v6, rfl, hn6, hb6⟩
    have G6 := Lib.hid hn6.grid
    have G7 := Lib.hid (G5.out.below hb6)
    have B6 := Lib.hid (B5.out.trans (hb6.mono B5.out.size))
    clear hn6
    go_wp2_with fail
    refine (HEQ.out _ _ _ G7.out G6.out).mono ?_
    rintro e w7 ⟨rfl, hb7⟩
    go_wp2_with fail
    go_ret
    exact ⟨rfl, B6.out.trans (hb7.mono B6.out.size)⟩
end Go.Proofs.Ytlkchhedlbaomaa
