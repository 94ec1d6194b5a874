/- The walk of FnExactRanksStill. -/
import Derived.Test.YtlkchhedlbaomaaRanksPickAll
import Derived.Test.YtlkchhedlbaomaaRanksSize
namespace Go.Proofs.Ytlkchhedlbaomaa
open Go.RowKit
set_option linter.unusedVariables false

theorem cpGrid {v : Value} {r : List (List (List Int))} {w : World} (hv : GridAt w v r) (hs : Small3 r) :
    ∀ W, Below w.heap.size w W → Calls Try.prog 23 #[v] W fun e w' => ∃ v', e = .returned v' ∧ GridNew w' W.heap.size v' r ∧ Below W.heap.size W w' := fun W hW => toIntSSS_new v r W (hv.below hW) hs
theorem cpRows {v : Value} {r : List (List Int)} {w : World} (hv : RowsAt w v r) (hs : Small2 r) :
    ∀ W, Below w.heap.size w W → Calls Try.prog 39 #[v] W fun e w' => ∃ v', e = .returned v' ∧ RowsNew w' W.heap.size v' r ∧ Below W.heap.size W w' := fun W hW => toIntSS_new v r W (hv.below hW) hs
theorem eqGrid {r : List (List (List Int))} : ∀ W u u2, GridAt W u r → GridAt W u2 r → Calls Try.prog 24 #[u, u2] W fun e w' => e = .returned (.bool true) ∧ Below W.heap.size W w' := fun W u u2 hu hu2 => by
  have := drew_below (eqIntSSS_any u u2 r r W hu hu2); simpa using this
theorem eqRows {r : List (List Int)} : ∀ W u u2, RowsAt W u r → RowsAt W u2 r → Calls Try.prog 40 #[u, u2] W fun e w' => e = .returned (.bool true) ∧ Below W.heap.size W w' := fun W u u2 hu hu2 => by
  have := drew_below (eqIntSS_any u u2 r r W hu hu2); simpa using this
theorem eqInts {r : List Int} : ∀ W u u2, IntsAt W u r → IntsAt W u2 r → Calls Try.prog 44 #[u, u2] W fun e w' => e = .returned (.bool true) ∧ Below W.heap.size W w' := fun W u u2 hu hu2 => by
  have := drew_below (eqIntS_any u u2 r r W hu hu2); simpa using this

set_option maxHeartbeats 2000000 in
theorem exactRanksStill_walk (v : Value) (r : List (List (List Int))) (u : Value) (ways : List (List Int)) (w : World) (hv : GridAt w v r) (hu : RowsAt w u ways) :
    Calls Try.prog 9 #[v, u] w fun e w' => e = .returned (.bool true) ∧ Below w.heap.size w w' := by
  have hsz := szIntSSS_any v r 1048576 w hv (by omega) (by omega)
  have hsz2 := fun left => szIntSS_any u ways left w hu
  have hco := fun hs => cpGrid hv hs
  have hco2 := fun hs => cpRows hu hs
  obtain ⟨a, cap, rfl, hc, hm⟩ := hv.form
  obtain ⟨ua, uc, rfl, huc, hum⟩ := hu.form
  obtain ⟨B, hB⟩ : ∃ B, ranksStillF r ways = B := ⟨_, rfl⟩
  have hok : ∀ W u u2, GridAt W u r → RowsAt W u2 ways → Calls Try.prog 31 #[u, u2] W fun e w' => e = .returned (.bool B) ∧ Below W.heap.size W w' := fun W u u2 hu hu2 => by rw [← hB]; exact implStill_any u u2 r ways W hu hu2
  have hos : ∀ W u u2, GridAt W u r → RowsAt W u2 ways → Calls Try.prog 38 #[u, u2] W fun e w' => e = .returned (.bool B) ∧ Below W.heap.size W w' := fun W u u2 hu hu2 => by rw [← hB]; exact specStill_any u u2 r ways W hu hu2
  have HSZ := Lib.hid hsz
  have HSZ2 := Lib.hid hsz2
  have HCO := Lib.hid hco
  have HCO2 := Lib.hid hco2
  have HOK := Lib.hid hok
  have HOS := Lib.hid hos
  have BB := Lib.hid (Below.refl w.heap.size w)
  clear hsz hsz2 hco hco2 hok hos hB hv hu
  go_enter Try.func9, Try.ntmps9
  go_wp2_with fail
  refine (HSZ.out).mono ?_
  rintro e w1 ⟨k, rfl, hk1, hk2, hsm, rfl⟩
  have HSM := Lib.hid hsm
  clear hsm
  by_cases hk : k < 0
  · go_wp2_with fail
    go_ret
    exact ⟨rfl, Below.refl _ _⟩
  · have HS : Hid (Small3 r) := Lib.hid (HSM.out (by omega))
    go_wp2_with fail
    refine (HSZ2.out k (by omega) (by omega)).mono ?_
    rintro e w1 ⟨k2, rfl, hj1, hj2, hsm, rfl⟩
    have HSM2 := Lib.hid hsm
    clear hsm
    by_cases hj : k2 < 0
    · go_wp2_with fail
      go_ret
      exact ⟨rfl, Below.refl _ _⟩
    · have HS2 : Hid (Small2 ways) := Lib.hid (HSM2.out (by omega))
      go_wp2_with fail
      refine (HCO.out HS.out _ BB.out).mono ?_
      rintro e w1 ⟨v1, rfl, hn, hb⟩
      have BB := Lib.hid (BB.out.trans (hb.mono BB.out.size))
      have G1 := Lib.hid (hn.grid)
      clear hn
      clear hb
      go_wp2_with fail
      refine (HCO2.out HS2.out _ BB.out).mono ?_
      rintro e w2 ⟨v2, rfl, hn, hb⟩
      have BB := Lib.hid (BB.out.trans (hb.mono BB.out.size))
      have G1 := Lib.hid (G1.out.below hb)
      have G2 := Lib.hid (hn.rows)
      clear hn
      clear hb
      go_wp2_with fail
      refine (HOS.out _ _ _ G1.out G2.out).mono ?_
      rintro e w3 ⟨rfl, hb⟩
      have BB := Lib.hid (BB.out.trans (hb.mono BB.out.size))
      clear hb
      go_wp2_with fail
      refine (HCO.out HS.out _ BB.out).mono ?_
      rintro e w4 ⟨v4, rfl, hn, hb⟩
      have BB := Lib.hid (BB.out.trans (hb.mono BB.out.size))
      have G4 := Lib.hid (hn.grid)
      clear hn
      clear hb
      go_wp2_with fail
      refine (HCO2.out HS2.out _ BB.out).mono ?_
      rintro e w5 ⟨v5, rfl, hn, hb⟩
      have BB := Lib.hid (BB.out.trans (hb.mono BB.out.size))
      have G4 := Lib.hid (G4.out.below hb)
      have G5 := Lib.hid (hn.rows)
      clear hn
      clear hb
      go_wp2_with fail
      refine (HOK.out _ _ _ G4.out G5.out).mono ?_
      rintro e w6 ⟨rfl, hb⟩
      have BB := Lib.hid (BB.out.trans (hb.mono BB.out.size))
      have G4 := Lib.hid (G4.out.below hb)
      have G5 := Lib.hid (G5.out.below hb)
      clear hb
      go_wp2_with fail
      refine (HCO.out HS.out _ BB.out).mono ?_
      rintro e w7 ⟨v7, rfl, hn, hb⟩
      have BB := Lib.hid (BB.out.trans (hb.mono BB.out.size))
      have G4 := Lib.hid (G4.out.below hb)
      have G5 := Lib.hid (G5.out.below hb)
      have G7 := Lib.hid (hn.grid)
      clear hn
      clear hb
      go_wp2_with fail
      refine (eqGrid _ _ _ G4.out G7.out).mono ?_
      rintro e w8 ⟨rfl, hb⟩
      have BB := Lib.hid (BB.out.trans (hb.mono BB.out.size))
      have G5 := Lib.hid (G5.out.below hb)
      clear hb
      go_wp2_with fail
      refine (HCO2.out HS2.out _ BB.out).mono ?_
      rintro e w9 ⟨v9, rfl, hn, hb⟩
      have BB := Lib.hid (BB.out.trans (hb.mono BB.out.size))
      have G5 := Lib.hid (G5.out.below hb)
      have G9 := Lib.hid (hn.rows)
      clear hn
      clear hb
      go_wp2_with fail
      refine (eqRows _ _ _ G5.out G9.out).mono ?_
      rintro e w10 ⟨rfl, hb⟩
      have BB := Lib.hid (BB.out.trans (hb.mono BB.out.size))
      clear hb
      go_wp2_with fail
      go_ret
      exact ⟨rfl, BB.out⟩
end Go.Proofs.Ytlkchhedlbaomaa
