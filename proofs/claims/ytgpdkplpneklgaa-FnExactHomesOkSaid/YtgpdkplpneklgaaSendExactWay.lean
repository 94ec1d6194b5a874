/- The walk of FnExactSendWay. -/
import Derived.Test.YtgpdkplpneklgaaWayS
import Derived.Test.YtgpdkplpneklgaaSendExactNext
namespace Go.Proofs.Ytgpdkplpneklgaa
open Go.RowKit
set_option linter.unusedVariables false

theorem eqIs {W : World} {u u2 : Value} {B B2 : Nat} {l : List Int} (h : OwnInts W B u l) (h2 : OwnInts W B2 u2 l) : Calls Try.prog 25 #[u, u2] W fun e w' => e = .returned (.bool true) ∧ Below W.heap.size W w' :=
  (eqIntS_any u u2 l l W h.ints h2.ints).mono fun e w' ⟨h1, h2⟩ => ⟨by rw [h1]; simp, h2.below _⟩
theorem wayF_len (ls : List (List Ent)) (h x : Int) : (wayF ls h x).1.length ≤ 6 := by
  unfold wayF
  split
  · rename_i hc
    have h5 := (tablesOk_at hc.1).2.1
    have := goW_len (nextF ls x) ls.length ls.length h [h]
    simp at this
    omega
  · simp
set_option maxRecDepth 100000 in
set_option maxHeartbeats 8000000 in
theorem exactSendWay_walk (v : Value) (r : List (List Ent)) (h x : Int) (w : World) (hv : TabsAt w v r) (_hh : (Lit.int .i64 h).wf = true) (_hx : (Lit.int .i64 x).wf = true) :
    Calls Try.prog 6 #[v, .int .i64 h, .int .i64 x] w fun e w' => e = .returned (.bool true) ∧ Below w.heap.size w w' := by
  have hsz := szEntrySS_any v r 1048576 w hv (by omega) (by omega)
  have hco : SmallT r → ∀ W, Below w.heap.size w W → Calls Try.prog 20 #[v] W fun e w' => ∃ v', e = .returned v' ∧ TabNew w' W.heap.size v' r ∧ Below W.heap.size W w' := fun hs W hW => toEntrySS_any v r W (hv.below hW) hs
  obtain ⟨a, cap, rfl, hc, hm⟩ := hv.form
  have hsm := wayF_len r h x
  obtain ⟨P, hP⟩ : ∃ P, (wayF r h x).1 = P := ⟨_, rfl⟩
  obtain ⟨d, hd⟩ : ∃ d, (wayF r h x).2 = d := ⟨_, rfl⟩
  rw [hP] at hsm
  have hok : ∀ W u, TabsAt W u r → Calls Try.prog 24 #[u, .int .i64 h, .int .i64 x] W fun e w' => ∃ v', e = .returned (.tuple #[v', .bool d]) ∧ OwnInts w' W.heap.size v' P ∧ Below W.heap.size W w' := fun W u hu => by rw [← hP, ← hd]; exact implSendWay_any u r h x W hu
  have hos : ∀ W u, TabsAt W u r → Calls Try.prog 23 #[u, .int .i64 h, .int .i64 x] W fun e w' => ∃ v', e = .returned (.tuple #[v', .bool d]) ∧ OwnInts w' W.heap.size v' P ∧ Below W.heap.size W w' := fun W u hu => by rw [← hP, ← hd]; exact specSendWay_any u r h x W hu
  obtain ⟨E, hE⟩ : ∃ E, P.length = E := ⟨_, rfl⟩
  rw [hE] at hsm
  have hmk : ∀ W lo v, OwnInts W lo v P → Calls Try.prog 27 #[v, .int .i64 1] W fun e w' => e = .returned (.int .i64 (1 + E)) ∧ Marked lo W.heap.size W w' ∧ OwnInts w' lo v (numsFrom 1 E) := fun W lo v h => by
    rw [← hE]; exact (mark1_own lo W.heap.size v P 1 W h (Nat.le_refl _) (by omega) (by omega)).mono fun e w' hh => ⟨hh.1, hh.marked, hh.2.1⟩
  have hhd : ∀ W lo v, OwnInts W lo v (numsFrom 1 E) → Calls Try.prog 28 #[v, .int .i64 1] W fun e w' => e = .returned (.int .i64 (1 + E)) ∧ w' = W := fun W lo v h => heldIntS_any v E 1 W h.ints (by omega) (by omega)
  have HSZ := Lib.hid hsz
  have HCO := Lib.hid hco
  have HOK := Lib.hid hok
  have HOS := Lib.hid hos
  have HMK := Lib.hid hmk
  have HHD := Lib.hid hhd
  have BB := Lib.hid (Below.refl w.heap.size w)
  clear hsz hco hok hos hv hP hd hE hmk hhd
  go_enter Try.func6, Try.ntmps6
  go_wp2_with fail
  refine (HSZ.out).mono ?_
  rintro e w ⟨k, rfl, hk1, hk2, hsm, rfl⟩
  have HSM := Lib.hid hsm
  clear hsm
  by_cases hk : k < 0
  · go_wp2_with fail
    go_ret
    exact ⟨rfl, Below.refl _ _⟩
  · have HS : Hid (SmallT r) := Lib.hid (HSM.out (by omega))
    go_wp2_with fail
    refine (HCO.out HS.out _ BB.out).mono ?_
    rintro e w1 ⟨v1, rfl, hn, hb⟩
    have sw1 := hb.size  -- SIZEKEEP
    have BB := Lib.hid (BB.out.trans (hb.mono BB.out.size))
    have G1 := Lib.hid (hn.tabs)
    clear hn
    clear hb
    go_wp2_with fail
    refine (HOS.out _ _ G1.out).mono ?_
    rintro e w2 ⟨v2, rfl, hn, hb⟩
    have sw2 := hb.size  -- SIZEKEEP
    have BB := Lib.hid (BB.out.trans (hb.mono BB.out.size))
    have W0 := Lib.hid (hn.upto)
    clear hn
    clear hb
    go_wp2_with fail
    refine (HCO.out HS.out _ BB.out).mono ?_
    rintro e w3 ⟨v4, rfl, hn, hb⟩
    have sw3 := hb.size  -- SIZEKEEP
    have BB := Lib.hid (BB.out.trans (hb.mono BB.out.size))
    have W0 := Lib.hid (W0.out.below hb)
    have G4 := Lib.hid (hn.tabs)
    have GH := Lib.hid (hn.has (Nat.le_refl _))
    clear hn
    clear hb
    go_wp2_with fail
    refine (HOK.out _ _ G4.out).mono ?_
    rintro e w4 ⟨v6, rfl, hn, hb⟩
    have sw4 := hb.size  -- SIZEKEEP
    have BB := Lib.hid (BB.out.trans (hb.mono BB.out.size))
    have W0 := Lib.hid (W0.out.below hb)
    have G4 := Lib.hid (G4.out.below hb)
    have GH := Lib.hid (GH.out.below hb)
    have P6 := Lib.hid (hn)
    clear hn
    clear hb
    go_wp2_with fail
    refine (eqIs P6.out W0.out.1).mono ?_
    rintro e w5 ⟨rfl, hb⟩
    have sw5 := hb.size  -- SIZEKEEP
    have BB := Lib.hid (BB.out.trans (hb.mono BB.out.size))
    have W0 := Lib.hid (W0.out.below hb)
    have G4 := Lib.hid (G4.out.below hb)
    have GH := Lib.hid (GH.out.below hb)
    have P6 := Lib.hid (P6.out.below hb)
    clear hb
    go_wp2_with fail
    refine (HCO.out HS.out _ BB.out).mono ?_
    rintro e w6 ⟨v8, rfl, hn, hb⟩
    have sw6 := hb.size  -- SIZEKEEP
    have BB := Lib.hid (BB.out.trans (hb.mono BB.out.size))
    have W0 := Lib.hid (W0.out.below hb)
    have G4 := Lib.hid (G4.out.below hb)
    have GH := Lib.hid (GH.out.below hb)
    have P6 := Lib.hid (P6.out.below hb)
    have G8 := Lib.hid (hn.tabs)
    clear hn
    clear hb
    go_wp2_with fail
    refine (eqEntrySS_same _ _ _ _ G4.out G8.out).mono ?_
    rintro e w7 ⟨rfl, hb⟩
    have sw7 := hb.size  -- SIZEKEEP
    have BB := Lib.hid (BB.out.trans (hb.mono BB.out.size))
    have W0 := Lib.hid (W0.out.below hb)
    have GH := Lib.hid (GH.out.below hb)
    have P6 := Lib.hid (P6.out.below hb)
    clear hb
    go_wp2_with fail
    refine (markEntrySS_any w2.heap.size w3.heap.size v4 r 1 _ GH.out HS.out (by omega) (by omega)).mono ?_
    rintro e w8 ⟨k3, rfl, p0, p1, hm⟩
    have sw8 := hm.size
    have BB := Lib.hid (BB.out.trans (hm.below (B := w.heap.size) (by omega)))
    have W0 := Lib.hid (W0.out.marked hm (by omega))
    have P6 := Lib.hid (P6.out.out hm (by omega))
    clear hm
    have hk3 : ¬ k3 < 0 := by omega
    go_wp2_with fail
    refine (eqIs P6.out W0.out.1).mono ?_
    rintro e w9 ⟨rfl, hb⟩
    have sw9 := hb.size  -- SIZEKEEP
    have BB := Lib.hid (BB.out.trans (hb.mono BB.out.size))
    have W0 := Lib.hid (W0.out.below hb)
    have P6 := Lib.hid (P6.out.below hb)
    clear hb
    go_wp2_with fail
    refine (HMK.out _ _ _ P6.out).mono ?_
    rintro e w10 ⟨rfl, hm, hn⟩
    have sw10 := hm.size
    have BB := Lib.hid (BB.out.trans (hm.below (B := w.heap.size) (by omega)))
    have W0 := Lib.hid (W0.out.marked hm (by omega))
    have M6 := Lib.hid (hn)
    clear hm hn
    go_wp2_with fail
    refine (HHD.out _ _ _ M6.out).mono ?_
    rintro e w11 ⟨rfl, rfl⟩
    have hq : ¬ (1 + (E : Int)) < 0 := by omega
    go_wp2_with fail
    refine (HCO.out HS.out _ BB.out).mono ?_
    rintro e w12 ⟨v12, rfl, hn, hb⟩
    have sw12 := hb.size  -- SIZEKEEP
    have BB := Lib.hid (BB.out.trans (hb.mono BB.out.size))
    have W0 := Lib.hid (W0.out.below hb)
    have M6 := Lib.hid (M6.out.below hb)
    have G1 := Lib.hid (hn.tabs)
    clear hn
    clear hb
    go_wp2_with fail
    refine (HOK.out _ _ G1.out).mono ?_
    rintro e w13 ⟨v13, rfl, hn, hb⟩
    have sw13 := hb.size  -- SIZEKEEP
    have BB := Lib.hid (BB.out.trans (hb.mono BB.out.size))
    have W0 := Lib.hid (W0.out.below hb)
    have M6 := Lib.hid (M6.out.below hb)
    have P13 := Lib.hid (hn)
    clear hn
    clear hb
    go_wp2_with fail
    refine (eqIs P13.out W0.out.1).mono ?_
    rintro e w14 ⟨rfl, hb⟩
    have sw14 := hb.size  -- SIZEKEEP
    have BB := Lib.hid (BB.out.trans (hb.mono BB.out.size))
    have M6 := Lib.hid (M6.out.below hb)
    clear hb
    go_wp2_with fail
    refine (HHD.out _ _ _ M6.out).mono ?_
    rintro e w15 ⟨rfl, rfl⟩
    go_wp2_with fail
    go_ret
    exact ⟨rfl, BB.out⟩
end Go.Proofs.Ytgpdkplpneklgaa
