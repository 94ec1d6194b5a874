/- The walk of FnExactRanksPick. -/
import Derived.Test.YtlkchhedlbaomaaRanksExactStill
import Derived.Test.YtlkchhedlbaomaaRanksMark2
namespace Go.Proofs.Ytlkchhedlbaomaa
open Go.RowKit
set_option linter.unusedVariables false

theorem pickF_mem (rank ways : List (List Int)) : pickF rank ways = [] ∨ pickF rank ways ∈ rank := by
  unfold pickF
  cases h : rank.find? (pickHit ways) with
  | none => exact .inl rfl
  | some x => exact .inr (List.mem_of_find?_eq_some h)
theorem ranksPickF_len (r : List (List (List Int))) (ways : List (List Int)) (h : Int) : (ranksPickF r ways h).length ≤ 4 := by
  unfold ranksPickF
  by_cases hc : ranksOk r = true ∧ waysOk r ways = true ∧ 1 ≤ h ∧ h ≤ 3
  · rw [if_pos hc]
    rcases pickF_mem (r.getD (h - 1).toNat []) ways with e | e
    · rw [e]; simp
    · exact (good_of_ranksOk hc.1 (by omega) _ e).2.1
  · rw [if_neg hc]; simp

set_option maxRecDepth 100000 in
set_option maxHeartbeats 4000000 in
theorem exactRanksPick_walk (v : Value) (r : List (List (List Int))) (u : Value) (ways : List (List Int)) (h : Int) (w : World) (hv : GridAt w v r) (hu : RowsAt w u ways) (_wh : (Lit.int .i64 h).wf = true) :
    Calls Try.prog 17 #[v, u, .int .i64 h] w fun e w' => e = .returned (.bool true) ∧ Below w.heap.size w w' := by
  have hsz := szIntSSS_any v r 1048576 w hv (by omega) (by omega)
  have hsz2 := fun left => szIntSS_any u ways left w hu
  have hco := fun hs => cpGrid hv hs
  have hco2 := fun hs => cpRows hu hs
  obtain ⟨a, cap, rfl, hc, hm⟩ := hv.form
  obtain ⟨ua, uc, rfl, huc, hum⟩ := hu.form
  obtain ⟨R, hR⟩ : ∃ R, ranksPickF r ways h = R := ⟨_, rfl⟩
  have hR4 : R.length ≤ 4 := by rw [← hR]; exact ranksPickF_len r ways h
  have hok : ∀ W u u2, GridAt W u r → RowsAt W u2 ways → Calls Try.prog 30 #[u, u2, .int .i64 h] W fun e w' => ∃ v', e = .returned v' ∧ OwnInts w' W.heap.size v' R ∧ Below W.heap.size W w' := fun W u u2 hu hu2 => by rw [← hR]; exact implPick_any u u2 r ways h W hu hu2
  have hos : ∀ W u u2, GridAt W u r → RowsAt W u2 ways → Calls Try.prog 36 #[u, u2, .int .i64 h] W fun e w' => ∃ v', e = .returned v' ∧ OwnInts w' W.heap.size v' R ∧ Below W.heap.size W w' := fun W u u2 hu hu2 => by rw [← hR]; exact specPick_any u u2 r ways h W hu hu2
  have HSZ := Lib.hid hsz
  have HSZ2 := Lib.hid hsz2
  have HCO := Lib.hid hco
  have HCO2 := Lib.hid hco2
  have HOK := Lib.hid hok
  have HOS := Lib.hid hos
  have BB := Lib.hid (Below.refl w.heap.size w)
  clear hsz hsz2 hco hco2 hok hos hR hv hu _wh
  go_enter Try.func17, Try.ntmps17
  go_wp2_with fail
  refine (HSZ.out).mono ?_
  rintro e w ⟨k, rfl, hk1, hk2, hsm, rfl⟩
  have HSM := Lib.hid hsm
  clear hsm
  by_cases hk : k < 0
  · go_wp2_with fail
    go_ret
    exact ⟨rfl, Below.refl _ _⟩
  · have HS : Hid (Small3 r) := Lib.hid (HSM.out (by omega))
    go_wp2_with fail
    refine (HSZ2.out k (by omega) (by omega)).mono ?_
    rintro e w ⟨k2, rfl, hj1, hj2, hsm, rfl⟩
    have HSM2 := Lib.hid hsm
    clear hsm
    by_cases hj : k2 < 0
    · go_wp2_with fail
      go_ret
      exact ⟨rfl, Below.refl _ _⟩
    · have HS2 : Hid (Small2 ways) := Lib.hid (HSM2.out (by omega))
      go_wp2_with fail
      refine (HCO.out HS.out _ BB.out).mono ?_
      rintro e w1 ⟨v1, rfl, hn, hb⟩
      have sw1 := hb.size  -- SIZEKEEP
      have BB := Lib.hid (BB.out.trans (hb.mono BB.out.size))
      have G1 := Lib.hid (hn.grid)
      clear hn
      clear hb
      go_wp2_with fail
      refine (HCO2.out HS2.out _ BB.out).mono ?_
      rintro e w2 ⟨v2, rfl, hn, hb⟩
      have sw2 := hb.size  -- SIZEKEEP
      have BB := Lib.hid (BB.out.trans (hb.mono BB.out.size))
      have G1 := Lib.hid (G1.out.below hb)
      have G2 := Lib.hid (hn.rows)
      clear hn
      clear hb
      go_wp2_with fail
      refine (HOS.out _ _ _ G1.out G2.out).mono ?_
      rintro e w3 ⟨v3, rfl, hn, hb⟩
      have sw3 := hb.size  -- SIZEKEEP
      have BB := Lib.hid (BB.out.trans (hb.mono BB.out.size))
      have W0 := Lib.hid (hn.upto)
      clear hn
      clear hb
      go_wp2_with fail
      refine (HCO.out HS.out _ BB.out).mono ?_
      rintro e w4 ⟨v4, rfl, hn, hb⟩
      have sw4 := hb.size  -- SIZEKEEP
      have BB := Lib.hid (BB.out.trans (hb.mono BB.out.size))
      have W0 := Lib.hid (W0.out.below hb)
      have G4 := Lib.hid (hn.grid)
      have GH := Lib.hid (hn.has (Nat.le_refl _))
      clear hn
      clear hb
      go_wp2_with fail
      refine (HCO2.out HS2.out _ BB.out).mono ?_
      rintro e w5 ⟨v5, rfl, hn, hb⟩
      have sw5 := hb.size  -- SIZEKEEP
      have BB := Lib.hid (BB.out.trans (hb.mono BB.out.size))
      have W0 := Lib.hid (W0.out.below hb)
      have G4 := Lib.hid (G4.out.below hb)
      have GH := Lib.hid (GH.out.below hb)
      have G5 := Lib.hid (hn.rows)
      have RH := Lib.hid (hn.has (Nat.le_refl _))
      clear hn
      clear hb
      go_wp2_with fail
      refine (HOK.out _ _ _ G4.out G5.out).mono ?_
      rintro e w6 ⟨v6, rfl, hn, hb⟩
      have sw6 := hb.size  -- SIZEKEEP
      have BB := Lib.hid (BB.out.trans (hb.mono BB.out.size))
      have W0 := Lib.hid (W0.out.below hb)
      have G4 := Lib.hid (G4.out.below hb)
      have GH := Lib.hid (GH.out.below hb)
      have G5 := Lib.hid (G5.out.below hb)
      have RH := Lib.hid (RH.out.below hb)
      have P6 := Lib.hid (hn)
      clear hn
      clear hb
      go_wp2_with fail
      refine (eqInts _ _ _ P6.out.ints W0.out.1.ints).mono ?_
      rintro e w7 ⟨rfl, hb⟩
      have sw7 := hb.size  -- SIZEKEEP
      have BB := Lib.hid (BB.out.trans (hb.mono BB.out.size))
      have W0 := Lib.hid (W0.out.below hb)
      have G4 := Lib.hid (G4.out.below hb)
      have GH := Lib.hid (GH.out.below hb)
      have G5 := Lib.hid (G5.out.below hb)
      have RH := Lib.hid (RH.out.below hb)
      have P6 := Lib.hid (P6.out.below hb)
      clear hb
      go_wp2_with fail
      refine (HCO.out HS.out _ BB.out).mono ?_
      rintro e w8 ⟨v8, rfl, hn, hb⟩
      have sw8 := hb.size  -- SIZEKEEP
      have BB := Lib.hid (BB.out.trans (hb.mono BB.out.size))
      have W0 := Lib.hid (W0.out.below hb)
      have G4 := Lib.hid (G4.out.below hb)
      have GH := Lib.hid (GH.out.below hb)
      have G5 := Lib.hid (G5.out.below hb)
      have RH := Lib.hid (RH.out.below hb)
      have P6 := Lib.hid (P6.out.below hb)
      have G8 := Lib.hid (hn.grid)
      clear hn
      clear hb
      go_wp2_with fail
      refine (eqGrid _ _ _ G4.out G8.out).mono ?_
      rintro e w9 ⟨rfl, hb⟩
      have sw9 := hb.size  -- SIZEKEEP
      have BB := Lib.hid (BB.out.trans (hb.mono BB.out.size))
      have W0 := Lib.hid (W0.out.below hb)
      have GH := Lib.hid (GH.out.below hb)
      have G5 := Lib.hid (G5.out.below hb)
      have RH := Lib.hid (RH.out.below hb)
      have P6 := Lib.hid (P6.out.below hb)
      clear hb
      go_wp2_with fail
      refine (HCO2.out HS2.out _ BB.out).mono ?_
      rintro e w10 ⟨v10, rfl, hn, hb⟩
      have sw10 := hb.size  -- SIZEKEEP
      have BB := Lib.hid (BB.out.trans (hb.mono BB.out.size))
      have W0 := Lib.hid (W0.out.below hb)
      have GH := Lib.hid (GH.out.below hb)
      have G5 := Lib.hid (G5.out.below hb)
      have RH := Lib.hid (RH.out.below hb)
      have P6 := Lib.hid (P6.out.below hb)
      have G10 := Lib.hid (hn.rows)
      clear hn
      clear hb
      go_wp2_with fail
      refine (eqRows _ _ _ G5.out G10.out).mono ?_
      rintro e w11 ⟨rfl, hb⟩
      have sw11 := hb.size  -- SIZEKEEP
      have BB := Lib.hid (BB.out.trans (hb.mono BB.out.size))
      have W0 := Lib.hid (W0.out.below hb)
      have GH := Lib.hid (GH.out.below hb)
      have RH := Lib.hid (RH.out.below hb)
      have P6 := Lib.hid (P6.out.below hb)
      clear hb
      go_wp2_with fail
      refine (marks3 w3.heap.size w4.heap.size v4 r 1 _ GH.out HS.out (by omega) (by omega)).mono ?_
      rintro e w12 ⟨k3, rfl, p0, p1, hm⟩
      have sw12 := hm.size
      have BB := Lib.hid (BB.out.trans (hm.below (B := w.heap.size) (by omega)))
      have W0 := Lib.hid (W0.out.marked hm (by omega))
      have RH := Lib.hid (RH.out.marked hm)
      have P6 := Lib.hid (P6.out.out hm (by omega))
      clear hm
      go_wp2_with fail
      refine (marks2 w4.heap.size w5.heap.size v5 ways k3 _ RH.out HS2.out p0 (by omega)).mono ?_
      rintro e w13 ⟨k4, rfl, q0, q1, hm⟩
      have sw13 := hm.size
      have BB := Lib.hid (BB.out.trans (hm.below (B := w.heap.size) (by omega)))
      have W0 := Lib.hid (W0.out.marked hm (by omega))
      have P6 := Lib.hid (P6.out.out hm (by omega))
      clear hm
      have hk4 : ¬ k4 < 0 := by omega
      go_wp2_with fail
      refine (eqInts _ _ _ P6.out.ints W0.out.1.ints).mono ?_
      rintro e w14 ⟨rfl, hb⟩
      have sw14 := hb.size  -- SIZEKEEP
      have BB := Lib.hid (BB.out.trans (hb.mono BB.out.size))
      have W0 := Lib.hid (W0.out.below hb)
      have P6 := Lib.hid (P6.out.below hb)
      clear hb
      go_wp2_with fail
      refine (markIntS_any w5.heap.size w14.heap.size v6 R.length 1 _ (P6.out.has (Nat.le_refl _)) (by omega) (by omega)).mono ?_
      rintro e w15 ⟨rfl, hm, hn⟩
      have sw15 := hm.size
      have BB := Lib.hid (BB.out.trans (hm.below (B := w.heap.size) (by omega)))
      have W0 := Lib.hid (W0.out.marked hm (by omega))
      have M6 := Lib.hid (hn)
      clear hm hn
      go_wp2_with fail
      refine (heldIntS_any v6 R.length 1 _ M6.out.ints (by omega) (by omega)).mono ?_
      rintro e w16 ⟨rfl, rfl⟩
      have hq : ¬ (1 + (R.length : Int)) < 0 := by omega
      go_wp2_with fail
      refine (HCO.out HS.out _ BB.out).mono ?_
      rintro e w17 ⟨v17, rfl, hn, hb⟩
      have sw17 := hb.size  -- SIZEKEEP
      have BB := Lib.hid (BB.out.trans (hb.mono BB.out.size))
      have W0 := Lib.hid (W0.out.below hb)
      have M6 := Lib.hid (M6.out.below hb)
      have G1 := Lib.hid (hn.grid)
      clear hn
      clear hb
      go_wp2_with fail
      refine (HCO2.out HS2.out _ BB.out).mono ?_
      rintro e w18 ⟨v18, rfl, hn, hb⟩
      have sw18 := hb.size  -- SIZEKEEP
      have BB := Lib.hid (BB.out.trans (hb.mono BB.out.size))
      have W0 := Lib.hid (W0.out.below hb)
      have M6 := Lib.hid (M6.out.below hb)
      have G1 := Lib.hid (G1.out.below hb)
      have G2 := Lib.hid (hn.rows)
      clear hn
      clear hb
      go_wp2_with fail
      refine (HOK.out _ _ _ G1.out G2.out).mono ?_
      rintro e w19 ⟨v19, rfl, hn, hb⟩
      have sw19 := hb.size  -- SIZEKEEP
      have BB := Lib.hid (BB.out.trans (hb.mono BB.out.size))
      have W0 := Lib.hid (W0.out.below hb)
      have M6 := Lib.hid (M6.out.below hb)
      have P19 := Lib.hid (hn)
      clear hn
      clear hb
      go_wp2_with fail
      refine (eqInts _ _ _ P19.out.ints W0.out.1.ints).mono ?_
      rintro e w20 ⟨rfl, hb⟩
      have sw20 := hb.size  -- SIZEKEEP
      have BB := Lib.hid (BB.out.trans (hb.mono BB.out.size))
      have M6 := Lib.hid (M6.out.below hb)
      clear hb
      go_wp2_with fail
      refine (heldIntS_any v6 R.length 1 _ M6.out.ints (by omega) (by omega)).mono ?_
      rintro e w21 ⟨rfl, rfl⟩
      go_wp2_with fail
      go_ret
      exact ⟨rfl, BB.out⟩
end Go.Proofs.Ytlkchhedlbaomaa
