/- The walk of FnDampFlap. -/
import Derived.Test.YtbjonkjigfnnnaaDampLawFlap
namespace Go.Proofs.Ytbjonkjigfnnnaa
open Go.RowKit
set_option linter.unusedVariables false

set_option maxHeartbeats 4000000 in
theorem lawFlap_walk (a : Option Addr) (len cap : Nat) (zs : List Int) (w : World) (h : IsRow .u8 w a len cap zs) :
    Calls Try.prog 13 #[.slice a len cap] w fun e w' => e = .returned (.bool true) ∧ Below w.heap.size w w' := by
  have H := Lib.hid h
  clear h
  by_cases hl : 1048576 < len
  · go_enter Try.func13, Try.ntmps13
    go_wp2
    go_ret
    exact ⟨rfl, Below.refl _ _⟩
  · go_enter Try.func13, Try.ntmps13
    go_wp2_with fail
    refine (drawFlap_any _ _ _ zs _ H.out).mono ?_
    rintro e wd ⟨p, t, o, now, rfl, hB1⟩
    have hzd := hB1.size
    have hS := fun w => specFlap_any p t o now w
    have hI := fun w => implFlap_any p t o now w
    have XD := Box3.new wd (.int .i64 p) (.int .i64 t) (.bool o) 25
    cases hok : okNow p t o now
    · generalize flapP p t o now = P at hS hI
      generalize nowT p t o now = T at hS hI
      generalize flapO p t o now = O at hS hI
      rw [hok] at hS hI
      have HS := Lib.hid hS
      have HI := Lib.hid hI
      clear hS hI hok
      go_wp2_with fail
      refine (HS.out _).mono ?_
      rintro e ws ⟨rfl, hb1⟩
      have hB1 : Below w.heap.size w ws := (by refine Below.trans ?_ (hb1.mono (by first | exact Nat.le_refl _ | omega | (simp; done) | (simp; omega))); repeat (first | exact Below.refl _ _ | assumption | refine Below.drew ?_ | refine belowDrewN ?_ _ | refine Below.alloc ?_ (by first | exact Nat.le_refl _ | omega | (simp; done) | (simp; omega)) _ | refine Below.setCell ?_ (by first | exact Nat.le_refl _ | omega | (simp; done) | (simp; omega)) _)); have hzws := hB1.size; have XD := Box3.below (by first | exact XD | exact XD.alloc _) hb1 (by first | exact XD.size | (have := XD.size; simp; omega)); have XD_0 := XD.c0; have XD_1 := XD.c1; have XD_2 := XD.c2; have XD_s := XD.size
      have XS := Box3.new ws (.int .i64 P) (.int .i64 T) (.bool O) 25
      go_wp2_with fail
      refine (HI.out _).mono ?_
      rintro e wi ⟨rfl, hb1⟩
      have hB1 : Below w.heap.size w wi := (by refine Below.trans ?_ (hb1.mono (by first | exact Nat.le_refl _ | omega | (simp; done) | (simp; omega))); repeat (first | exact Below.refl _ _ | assumption | refine Below.drew ?_ | refine belowDrewN ?_ _ | refine Below.alloc ?_ (by first | exact Nat.le_refl _ | omega | (simp; done) | (simp; omega)) _ | refine Below.setCell ?_ (by first | exact Nat.le_refl _ | omega | (simp; done) | (simp; omega)) _)); have hzwi := hB1.size; have XD := Box3.below (by first | exact XD | exact XD.alloc _) hb1 (by first | exact XD.size | (have := XD.size; simp; omega)); have XD_0 := XD.c0; have XD_1 := XD.c1; have XD_2 := XD.c2; have XD_s := XD.size; have XS := Box3.below (by first | exact XS | exact XS.alloc _) hb1 (by first | exact XS.size | (have := XS.size; simp; omega)); have XS_0 := XS.c0; have XS_1 := XS.c1; have XS_2 := XS.c2; have XS_s := XS.size
      go_wp2_with fail
      go_ret
      exact ⟨rfl, by repeat (first | exact Below.refl _ _ | assumption | refine Below.drew ?_ | refine belowDrewN ?_ _ | refine Below.alloc ?_ (by first | exact Nat.le_refl _ | omega | (simp; done) | (simp; omega)) _ | refine Below.setCell ?_ (by first | exact Nat.le_refl _ | omega | (simp; done) | (simp; omega)) _)⟩
    · have hY := fun w => implNow_any p t o now w
      have hf := flap_fine hok
      obtain ⟨p0, p1⟩ := nowP_in hok
      rw [flapP_yes hok, flapO_yes hok] at hS hI hf
      rw [hok] at hS hI hY
      generalize nowP p t o now = P at *
      generalize nowT p t o now = T at *
      generalize nowO p t o now = O at *
      have hc := fun w => implOk_any (more P) T (O || decide (250 ≤ more P)) w
      rw [hf] at hc
      clear hok hf
      by_cases hm : P + 100 ≤ 9999
      · have hM : more P = P + 100 := by unfold more; omega
        rw [hM] at hS hI hc
        clear hM
        by_cases h25 : 250 ≤ P + 100
        · have e1 : (O || decide (250 ≤ P + 100)) = true := by simp [h25]
          rw [e1] at hS hI hc
          have HS := Lib.hid hS
          have HI := Lib.hid hI
          have HY := Lib.hid hY
          have HC := Lib.hid hc
          clear hS hI hY hc e1
          cases O
          · go_wp2_with fail
            refine (HS.out _).mono ?_
            rintro e ws ⟨rfl, hb1⟩
            have hB1 : Below w.heap.size w ws := (by refine Below.trans ?_ (hb1.mono (by first | exact Nat.le_refl _ | omega | (simp; done) | (simp; omega))); repeat (first | exact Below.refl _ _ | assumption | refine Below.drew ?_ | refine belowDrewN ?_ _ | refine Below.alloc ?_ (by first | exact Nat.le_refl _ | omega | (simp; done) | (simp; omega)) _ | refine Below.setCell ?_ (by first | exact Nat.le_refl _ | omega | (simp; done) | (simp; omega)) _)); have hzws := hB1.size; have XD := Box3.below (by first | exact XD | exact XD.alloc _) hb1 (by first | exact XD.size | (have := XD.size; simp; omega)); have XD_0 := XD.c0; have XD_1 := XD.c1; have XD_2 := XD.c2; have XD_s := XD.size
            have XS := Box3.new ws (.int .i64 (P + 100)) (.int .i64 T) (.bool true) 25
            go_wp2_with fail
            refine (HI.out _).mono ?_
            rintro e wi ⟨rfl, hb1⟩
            have hB1 : Below w.heap.size w wi := (by refine Below.trans ?_ (hb1.mono (by first | exact Nat.le_refl _ | omega | (simp; done) | (simp; omega))); repeat (first | exact Below.refl _ _ | assumption | refine Below.drew ?_ | refine belowDrewN ?_ _ | refine Below.alloc ?_ (by first | exact Nat.le_refl _ | omega | (simp; done) | (simp; omega)) _ | refine Below.setCell ?_ (by first | exact Nat.le_refl _ | omega | (simp; done) | (simp; omega)) _)); have hzwi := hB1.size; have XD := Box3.below (by first | exact XD | exact XD.alloc _) hb1 (by first | exact XD.size | (have := XD.size; simp; omega)); have XD_0 := XD.c0; have XD_1 := XD.c1; have XD_2 := XD.c2; have XD_s := XD.size; have XS := Box3.below (by first | exact XS | exact XS.alloc _) hb1 (by first | exact XS.size | (have := XS.size; simp; omega)); have XS_0 := XS.c0; have XS_1 := XS.c1; have XS_2 := XS.c2; have XS_s := XS.size
            have XI := Box3.new wi (.int .i64 (P + 100)) (.int .i64 T) (.bool true) 25
            go_wp2_with fail
            refine (HY.out _).mono ?_
            rintro e wy ⟨rfl, hb1⟩
            have hB1 : Below w.heap.size w wy := (by refine Below.trans ?_ (hb1.mono (by first | exact Nat.le_refl _ | omega | (simp; done) | (simp; omega))); repeat (first | exact Below.refl _ _ | assumption | refine Below.drew ?_ | refine belowDrewN ?_ _ | refine Below.alloc ?_ (by first | exact Nat.le_refl _ | omega | (simp; done) | (simp; omega)) _ | refine Below.setCell ?_ (by first | exact Nat.le_refl _ | omega | (simp; done) | (simp; omega)) _)); have hzwy := hB1.size; have XD := Box3.below (by first | exact XD | exact XD.alloc _) hb1 (by first | exact XD.size | (have := XD.size; simp; omega)); have XD_0 := XD.c0; have XD_1 := XD.c1; have XD_2 := XD.c2; have XD_s := XD.size; have XS := Box3.below (by first | exact XS | exact XS.alloc _) hb1 (by first | exact XS.size | (have := XS.size; simp; omega)); have XS_0 := XS.c0; have XS_1 := XS.c1; have XS_2 := XS.c2; have XS_s := XS.size; have XI := Box3.below (by first | exact XI | exact XI.alloc _) hb1 (by first | exact XI.size | (have := XI.size; simp; omega)); have XI_0 := XI.c0; have XI_1 := XI.c1; have XI_2 := XI.c2; have XI_s := XI.size
            have XY := Box3.new wy (.int .i64 P) (.int .i64 T) (.bool false) 25
            go_wp2_with (go_at_call 21; refine (HC.out _).mono ?_; rintro e w1 ⟨rfl, hb1⟩; have hB1 : Below w.heap.size w w1 := (by refine Below.trans ?_ (hb1.mono (by first | exact Nat.le_refl _ | omega | (simp; done) | (simp; omega))); repeat (first | exact Below.refl _ _ | assumption | refine Below.drew ?_ | refine belowDrewN ?_ _ | refine Below.alloc ?_ (by first | exact Nat.le_refl _ | omega | (simp; done) | (simp; omega)) _ | refine Below.setCell ?_ (by first | exact Nat.le_refl _ | omega | (simp; done) | (simp; omega)) _)); have hzw1 := hB1.size; have XD := Box3.below (by first | exact XD | exact XD.alloc _) hb1 (by first | exact XD.size | (have := XD.size; simp; omega)); have XD_0 := XD.c0; have XD_1 := XD.c1; have XD_2 := XD.c2; have XD_s := XD.size; have XS := Box3.below (by first | exact XS | exact XS.alloc _) hb1 (by first | exact XS.size | (have := XS.size; simp; omega)); have XS_0 := XS.c0; have XS_1 := XS.c1; have XS_2 := XS.c2; have XS_s := XS.size; have XI := Box3.below (by first | exact XI | exact XI.alloc _) hb1 (by first | exact XI.size | (have := XI.size; simp; omega)); have XI_0 := XI.c0; have XI_1 := XI.c1; have XI_2 := XI.c2; have XI_s := XI.size; have XY := Box3.below (by first | exact XY | exact XY.alloc _) hb1 (by first | exact XY.size | (have := XY.size; simp; omega)); have XY_0 := XY.c0; have XY_1 := XY.c1; have XY_2 := XY.c2; have XY_s := XY.size)
            go_ret
            exact ⟨rfl, by repeat (first | exact Below.refl _ _ | assumption | refine Below.drew ?_ | refine belowDrewN ?_ _ | refine Below.alloc ?_ (by first | exact Nat.le_refl _ | omega | (simp; done) | (simp; omega)) _ | refine Below.setCell ?_ (by first | exact Nat.le_refl _ | omega | (simp; done) | (simp; omega)) _)⟩
          · go_wp2_with fail
            refine (HS.out _).mono ?_
            rintro e ws ⟨rfl, hb1⟩
            have hB1 : Below w.heap.size w ws := (by refine Below.trans ?_ (hb1.mono (by first | exact Nat.le_refl _ | omega | (simp; done) | (simp; omega))); repeat (first | exact Below.refl _ _ | assumption | refine Below.drew ?_ | refine belowDrewN ?_ _ | refine Below.alloc ?_ (by first | exact Nat.le_refl _ | omega | (simp; done) | (simp; omega)) _ | refine Below.setCell ?_ (by first | exact Nat.le_refl _ | omega | (simp; done) | (simp; omega)) _)); have hzws := hB1.size; have XD := Box3.below (by first | exact XD | exact XD.alloc _) hb1 (by first | exact XD.size | (have := XD.size; simp; omega)); have XD_0 := XD.c0; have XD_1 := XD.c1; have XD_2 := XD.c2; have XD_s := XD.size
            have XS := Box3.new ws (.int .i64 (P + 100)) (.int .i64 T) (.bool true) 25
            go_wp2_with fail
            refine (HI.out _).mono ?_
            rintro e wi ⟨rfl, hb1⟩
            have hB1 : Below w.heap.size w wi := (by refine Below.trans ?_ (hb1.mono (by first | exact Nat.le_refl _ | omega | (simp; done) | (simp; omega))); repeat (first | exact Below.refl _ _ | assumption | refine Below.drew ?_ | refine belowDrewN ?_ _ | refine Below.alloc ?_ (by first | exact Nat.le_refl _ | omega | (simp; done) | (simp; omega)) _ | refine Below.setCell ?_ (by first | exact Nat.le_refl _ | omega | (simp; done) | (simp; omega)) _)); have hzwi := hB1.size; have XD := Box3.below (by first | exact XD | exact XD.alloc _) hb1 (by first | exact XD.size | (have := XD.size; simp; omega)); have XD_0 := XD.c0; have XD_1 := XD.c1; have XD_2 := XD.c2; have XD_s := XD.size; have XS := Box3.below (by first | exact XS | exact XS.alloc _) hb1 (by first | exact XS.size | (have := XS.size; simp; omega)); have XS_0 := XS.c0; have XS_1 := XS.c1; have XS_2 := XS.c2; have XS_s := XS.size
            have XI := Box3.new wi (.int .i64 (P + 100)) (.int .i64 T) (.bool true) 25
            go_wp2_with fail
            refine (HY.out _).mono ?_
            rintro e wy ⟨rfl, hb1⟩
            have hB1 : Below w.heap.size w wy := (by refine Below.trans ?_ (hb1.mono (by first | exact Nat.le_refl _ | omega | (simp; done) | (simp; omega))); repeat (first | exact Below.refl _ _ | assumption | refine Below.drew ?_ | refine belowDrewN ?_ _ | refine Below.alloc ?_ (by first | exact Nat.le_refl _ | omega | (simp; done) | (simp; omega)) _ | refine Below.setCell ?_ (by first | exact Nat.le_refl _ | omega | (simp; done) | (simp; omega)) _)); have hzwy := hB1.size; have XD := Box3.below (by first | exact XD | exact XD.alloc _) hb1 (by first | exact XD.size | (have := XD.size; simp; omega)); have XD_0 := XD.c0; have XD_1 := XD.c1; have XD_2 := XD.c2; have XD_s := XD.size; have XS := Box3.below (by first | exact XS | exact XS.alloc _) hb1 (by first | exact XS.size | (have := XS.size; simp; omega)); have XS_0 := XS.c0; have XS_1 := XS.c1; have XS_2 := XS.c2; have XS_s := XS.size; have XI := Box3.below (by first | exact XI | exact XI.alloc _) hb1 (by first | exact XI.size | (have := XI.size; simp; omega)); have XI_0 := XI.c0; have XI_1 := XI.c1; have XI_2 := XI.c2; have XI_s := XI.size
            have XY := Box3.new wy (.int .i64 P) (.int .i64 T) (.bool true) 25
            go_wp2_with (go_at_call 21; refine (HC.out _).mono ?_; rintro e w1 ⟨rfl, hb1⟩; have hB1 : Below w.heap.size w w1 := (by refine Below.trans ?_ (hb1.mono (by first | exact Nat.le_refl _ | omega | (simp; done) | (simp; omega))); repeat (first | exact Below.refl _ _ | assumption | refine Below.drew ?_ | refine belowDrewN ?_ _ | refine Below.alloc ?_ (by first | exact Nat.le_refl _ | omega | (simp; done) | (simp; omega)) _ | refine Below.setCell ?_ (by first | exact Nat.le_refl _ | omega | (simp; done) | (simp; omega)) _)); have hzw1 := hB1.size; have XD := Box3.below (by first | exact XD | exact XD.alloc _) hb1 (by first | exact XD.size | (have := XD.size; simp; omega)); have XD_0 := XD.c0; have XD_1 := XD.c1; have XD_2 := XD.c2; have XD_s := XD.size; have XS := Box3.below (by first | exact XS | exact XS.alloc _) hb1 (by first | exact XS.size | (have := XS.size; simp; omega)); have XS_0 := XS.c0; have XS_1 := XS.c1; have XS_2 := XS.c2; have XS_s := XS.size; have XI := Box3.below (by first | exact XI | exact XI.alloc _) hb1 (by first | exact XI.size | (have := XI.size; simp; omega)); have XI_0 := XI.c0; have XI_1 := XI.c1; have XI_2 := XI.c2; have XI_s := XI.size; have XY := Box3.below (by first | exact XY | exact XY.alloc _) hb1 (by first | exact XY.size | (have := XY.size; simp; omega)); have XY_0 := XY.c0; have XY_1 := XY.c1; have XY_2 := XY.c2; have XY_s := XY.size)
            go_ret
            exact ⟨rfl, by repeat (first | exact Below.refl _ _ | assumption | refine Below.drew ?_ | refine belowDrewN ?_ _ | refine Below.alloc ?_ (by first | exact Nat.le_refl _ | omega | (simp; done) | (simp; omega)) _ | refine Below.setCell ?_ (by first | exact Nat.le_refl _ | omega | (simp; done) | (simp; omega)) _)⟩
        · have h26 : decide (250 ≤ P + 100) = false := by simp; omega
          cases O
          · have e1 : (false || decide (250 ≤ P + 100)) = false := by simp; omega
            rw [e1] at hS hI hc
            have HS := Lib.hid hS
            have HI := Lib.hid hI
            have HY := Lib.hid hY
            have HC := Lib.hid hc
            clear hS hI hY hc e1
            go_wp2_with fail
            refine (HS.out _).mono ?_
            rintro e ws ⟨rfl, hb1⟩
            have hB1 : Below w.heap.size w ws := (by refine Below.trans ?_ (hb1.mono (by first | exact Nat.le_refl _ | omega | (simp; done) | (simp; omega))); repeat (first | exact Below.refl _ _ | assumption | refine Below.drew ?_ | refine belowDrewN ?_ _ | refine Below.alloc ?_ (by first | exact Nat.le_refl _ | omega | (simp; done) | (simp; omega)) _ | refine Below.setCell ?_ (by first | exact Nat.le_refl _ | omega | (simp; done) | (simp; omega)) _)); have hzws := hB1.size; have XD := Box3.below (by first | exact XD | exact XD.alloc _) hb1 (by first | exact XD.size | (have := XD.size; simp; omega)); have XD_0 := XD.c0; have XD_1 := XD.c1; have XD_2 := XD.c2; have XD_s := XD.size
            have XS := Box3.new ws (.int .i64 (P + 100)) (.int .i64 T) (.bool false) 25
            go_wp2_with fail
            refine (HI.out _).mono ?_
            rintro e wi ⟨rfl, hb1⟩
            have hB1 : Below w.heap.size w wi := (by refine Below.trans ?_ (hb1.mono (by first | exact Nat.le_refl _ | omega | (simp; done) | (simp; omega))); repeat (first | exact Below.refl _ _ | assumption | refine Below.drew ?_ | refine belowDrewN ?_ _ | refine Below.alloc ?_ (by first | exact Nat.le_refl _ | omega | (simp; done) | (simp; omega)) _ | refine Below.setCell ?_ (by first | exact Nat.le_refl _ | omega | (simp; done) | (simp; omega)) _)); have hzwi := hB1.size; have XD := Box3.below (by first | exact XD | exact XD.alloc _) hb1 (by first | exact XD.size | (have := XD.size; simp; omega)); have XD_0 := XD.c0; have XD_1 := XD.c1; have XD_2 := XD.c2; have XD_s := XD.size; have XS := Box3.below (by first | exact XS | exact XS.alloc _) hb1 (by first | exact XS.size | (have := XS.size; simp; omega)); have XS_0 := XS.c0; have XS_1 := XS.c1; have XS_2 := XS.c2; have XS_s := XS.size
            have XI := Box3.new wi (.int .i64 (P + 100)) (.int .i64 T) (.bool false) 25
            go_wp2_with fail
            refine (HY.out _).mono ?_
            rintro e wy ⟨rfl, hb1⟩
            have hB1 : Below w.heap.size w wy := (by refine Below.trans ?_ (hb1.mono (by first | exact Nat.le_refl _ | omega | (simp; done) | (simp; omega))); repeat (first | exact Below.refl _ _ | assumption | refine Below.drew ?_ | refine belowDrewN ?_ _ | refine Below.alloc ?_ (by first | exact Nat.le_refl _ | omega | (simp; done) | (simp; omega)) _ | refine Below.setCell ?_ (by first | exact Nat.le_refl _ | omega | (simp; done) | (simp; omega)) _)); have hzwy := hB1.size; have XD := Box3.below (by first | exact XD | exact XD.alloc _) hb1 (by first | exact XD.size | (have := XD.size; simp; omega)); have XD_0 := XD.c0; have XD_1 := XD.c1; have XD_2 := XD.c2; have XD_s := XD.size; have XS := Box3.below (by first | exact XS | exact XS.alloc _) hb1 (by first | exact XS.size | (have := XS.size; simp; omega)); have XS_0 := XS.c0; have XS_1 := XS.c1; have XS_2 := XS.c2; have XS_s := XS.size; have XI := Box3.below (by first | exact XI | exact XI.alloc _) hb1 (by first | exact XI.size | (have := XI.size; simp; omega)); have XI_0 := XI.c0; have XI_1 := XI.c1; have XI_2 := XI.c2; have XI_s := XI.size
            have XY := Box3.new wy (.int .i64 P) (.int .i64 T) (.bool false) 25
            go_wp2_with (go_at_call 21; refine (HC.out _).mono ?_; rintro e w1 ⟨rfl, hb1⟩; have hB1 : Below w.heap.size w w1 := (by refine Below.trans ?_ (hb1.mono (by first | exact Nat.le_refl _ | omega | (simp; done) | (simp; omega))); repeat (first | exact Below.refl _ _ | assumption | refine Below.drew ?_ | refine belowDrewN ?_ _ | refine Below.alloc ?_ (by first | exact Nat.le_refl _ | omega | (simp; done) | (simp; omega)) _ | refine Below.setCell ?_ (by first | exact Nat.le_refl _ | omega | (simp; done) | (simp; omega)) _)); have hzw1 := hB1.size; have XD := Box3.below (by first | exact XD | exact XD.alloc _) hb1 (by first | exact XD.size | (have := XD.size; simp; omega)); have XD_0 := XD.c0; have XD_1 := XD.c1; have XD_2 := XD.c2; have XD_s := XD.size; have XS := Box3.below (by first | exact XS | exact XS.alloc _) hb1 (by first | exact XS.size | (have := XS.size; simp; omega)); have XS_0 := XS.c0; have XS_1 := XS.c1; have XS_2 := XS.c2; have XS_s := XS.size; have XI := Box3.below (by first | exact XI | exact XI.alloc _) hb1 (by first | exact XI.size | (have := XI.size; simp; omega)); have XI_0 := XI.c0; have XI_1 := XI.c1; have XI_2 := XI.c2; have XI_s := XI.size; have XY := Box3.below (by first | exact XY | exact XY.alloc _) hb1 (by first | exact XY.size | (have := XY.size; simp; omega)); have XY_0 := XY.c0; have XY_1 := XY.c1; have XY_2 := XY.c2; have XY_s := XY.size)
            go_ret
            exact ⟨rfl, by repeat (first | exact Below.refl _ _ | assumption | refine Below.drew ?_ | refine belowDrewN ?_ _ | refine Below.alloc ?_ (by first | exact Nat.le_refl _ | omega | (simp; done) | (simp; omega)) _ | refine Below.setCell ?_ (by first | exact Nat.le_refl _ | omega | (simp; done) | (simp; omega)) _)⟩
          · have e1 : (true || decide (250 ≤ P + 100)) = true := by simp
            rw [e1] at hS hI hc
            have HS := Lib.hid hS
            have HI := Lib.hid hI
            have HY := Lib.hid hY
            have HC := Lib.hid hc
            clear hS hI hY hc e1
            go_wp2_with fail
            refine (HS.out _).mono ?_
            rintro e ws ⟨rfl, hb1⟩
            have hB1 : Below w.heap.size w ws := (by refine Below.trans ?_ (hb1.mono (by first | exact Nat.le_refl _ | omega | (simp; done) | (simp; omega))); repeat (first | exact Below.refl _ _ | assumption | refine Below.drew ?_ | refine belowDrewN ?_ _ | refine Below.alloc ?_ (by first | exact Nat.le_refl _ | omega | (simp; done) | (simp; omega)) _ | refine Below.setCell ?_ (by first | exact Nat.le_refl _ | omega | (simp; done) | (simp; omega)) _)); have hzws := hB1.size; have XD := Box3.below (by first | exact XD | exact XD.alloc _) hb1 (by first | exact XD.size | (have := XD.size; simp; omega)); have XD_0 := XD.c0; have XD_1 := XD.c1; have XD_2 := XD.c2; have XD_s := XD.size
            have XS := Box3.new ws (.int .i64 (P + 100)) (.int .i64 T) (.bool true) 25
            go_wp2_with fail
            refine (HI.out _).mono ?_
            rintro e wi ⟨rfl, hb1⟩
            have hB1 : Below w.heap.size w wi := (by refine Below.trans ?_ (hb1.mono (by first | exact Nat.le_refl _ | omega | (simp; done) | (simp; omega))); repeat (first | exact Below.refl _ _ | assumption | refine Below.drew ?_ | refine belowDrewN ?_ _ | refine Below.alloc ?_ (by first | exact Nat.le_refl _ | omega | (simp; done) | (simp; omega)) _ | refine Below.setCell ?_ (by first | exact Nat.le_refl _ | omega | (simp; done) | (simp; omega)) _)); have hzwi := hB1.size; have XD := Box3.below (by first | exact XD | exact XD.alloc _) hb1 (by first | exact XD.size | (have := XD.size; simp; omega)); have XD_0 := XD.c0; have XD_1 := XD.c1; have XD_2 := XD.c2; have XD_s := XD.size; have XS := Box3.below (by first | exact XS | exact XS.alloc _) hb1 (by first | exact XS.size | (have := XS.size; simp; omega)); have XS_0 := XS.c0; have XS_1 := XS.c1; have XS_2 := XS.c2; have XS_s := XS.size
            have XI := Box3.new wi (.int .i64 (P + 100)) (.int .i64 T) (.bool true) 25
            go_wp2_with fail
            refine (HY.out _).mono ?_
            rintro e wy ⟨rfl, hb1⟩
            have hB1 : Below w.heap.size w wy := (by refine Below.trans ?_ (hb1.mono (by first | exact Nat.le_refl _ | omega | (simp; done) | (simp; omega))); repeat (first | exact Below.refl _ _ | assumption | refine Below.drew ?_ | refine belowDrewN ?_ _ | refine Below.alloc ?_ (by first | exact Nat.le_refl _ | omega | (simp; done) | (simp; omega)) _ | refine Below.setCell ?_ (by first | exact Nat.le_refl _ | omega | (simp; done) | (simp; omega)) _)); have hzwy := hB1.size; have XD := Box3.below (by first | exact XD | exact XD.alloc _) hb1 (by first | exact XD.size | (have := XD.size; simp; omega)); have XD_0 := XD.c0; have XD_1 := XD.c1; have XD_2 := XD.c2; have XD_s := XD.size; have XS := Box3.below (by first | exact XS | exact XS.alloc _) hb1 (by first | exact XS.size | (have := XS.size; simp; omega)); have XS_0 := XS.c0; have XS_1 := XS.c1; have XS_2 := XS.c2; have XS_s := XS.size; have XI := Box3.below (by first | exact XI | exact XI.alloc _) hb1 (by first | exact XI.size | (have := XI.size; simp; omega)); have XI_0 := XI.c0; have XI_1 := XI.c1; have XI_2 := XI.c2; have XI_s := XI.size
            have XY := Box3.new wy (.int .i64 P) (.int .i64 T) (.bool true) 25
            go_wp2_with (go_at_call 21; refine (HC.out _).mono ?_; rintro e w1 ⟨rfl, hb1⟩; have hB1 : Below w.heap.size w w1 := (by refine Below.trans ?_ (hb1.mono (by first | exact Nat.le_refl _ | omega | (simp; done) | (simp; omega))); repeat (first | exact Below.refl _ _ | assumption | refine Below.drew ?_ | refine belowDrewN ?_ _ | refine Below.alloc ?_ (by first | exact Nat.le_refl _ | omega | (simp; done) | (simp; omega)) _ | refine Below.setCell ?_ (by first | exact Nat.le_refl _ | omega | (simp; done) | (simp; omega)) _)); have hzw1 := hB1.size; have XD := Box3.below (by first | exact XD | exact XD.alloc _) hb1 (by first | exact XD.size | (have := XD.size; simp; omega)); have XD_0 := XD.c0; have XD_1 := XD.c1; have XD_2 := XD.c2; have XD_s := XD.size; have XS := Box3.below (by first | exact XS | exact XS.alloc _) hb1 (by first | exact XS.size | (have := XS.size; simp; omega)); have XS_0 := XS.c0; have XS_1 := XS.c1; have XS_2 := XS.c2; have XS_s := XS.size; have XI := Box3.below (by first | exact XI | exact XI.alloc _) hb1 (by first | exact XI.size | (have := XI.size; simp; omega)); have XI_0 := XI.c0; have XI_1 := XI.c1; have XI_2 := XI.c2; have XI_s := XI.size; have XY := Box3.below (by first | exact XY | exact XY.alloc _) hb1 (by first | exact XY.size | (have := XY.size; simp; omega)); have XY_0 := XY.c0; have XY_1 := XY.c1; have XY_2 := XY.c2; have XY_s := XY.size)
            go_ret
            exact ⟨rfl, by repeat (first | exact Below.refl _ _ | assumption | refine Below.drew ?_ | refine belowDrewN ?_ _ | refine Below.alloc ?_ (by first | exact Nat.le_refl _ | omega | (simp; done) | (simp; omega)) _ | refine Below.setCell ?_ (by first | exact Nat.le_refl _ | omega | (simp; done) | (simp; omega)) _)⟩
      · have hM : more P = 9999 := by unfold more; omega
        have e1 : (O || decide (250 ≤ more P)) = true := by simp [hM]
        rw [e1] at hS hI hc
        rw [hM] at hS hI hc
        have HS := Lib.hid hS
        have HI := Lib.hid hI
        have HY := Lib.hid hY
        have HC := Lib.hid hc
        clear hS hI hY hc e1 hM
        cases O
        · go_wp2_with fail
          refine (HS.out _).mono ?_
          rintro e ws ⟨rfl, hb1⟩
          have hB1 : Below w.heap.size w ws := (by refine Below.trans ?_ (hb1.mono (by first | exact Nat.le_refl _ | omega | (simp; done) | (simp; omega))); repeat (first | exact Below.refl _ _ | assumption | refine Below.drew ?_ | refine belowDrewN ?_ _ | refine Below.alloc ?_ (by first | exact Nat.le_refl _ | omega | (simp; done) | (simp; omega)) _ | refine Below.setCell ?_ (by first | exact Nat.le_refl _ | omega | (simp; done) | (simp; omega)) _)); have hzws := hB1.size; have XD := Box3.below (by first | exact XD | exact XD.alloc _) hb1 (by first | exact XD.size | (have := XD.size; simp; omega)); have XD_0 := XD.c0; have XD_1 := XD.c1; have XD_2 := XD.c2; have XD_s := XD.size
          have XS := Box3.new ws (.int .i64 (9999)) (.int .i64 T) (.bool true) 25
          go_wp2_with fail
          refine (HI.out _).mono ?_
          rintro e wi ⟨rfl, hb1⟩
          have hB1 : Below w.heap.size w wi := (by refine Below.trans ?_ (hb1.mono (by first | exact Nat.le_refl _ | omega | (simp; done) | (simp; omega))); repeat (first | exact Below.refl _ _ | assumption | refine Below.drew ?_ | refine belowDrewN ?_ _ | refine Below.alloc ?_ (by first | exact Nat.le_refl _ | omega | (simp; done) | (simp; omega)) _ | refine Below.setCell ?_ (by first | exact Nat.le_refl _ | omega | (simp; done) | (simp; omega)) _)); have hzwi := hB1.size; have XD := Box3.below (by first | exact XD | exact XD.alloc _) hb1 (by first | exact XD.size | (have := XD.size; simp; omega)); have XD_0 := XD.c0; have XD_1 := XD.c1; have XD_2 := XD.c2; have XD_s := XD.size; have XS := Box3.below (by first | exact XS | exact XS.alloc _) hb1 (by first | exact XS.size | (have := XS.size; simp; omega)); have XS_0 := XS.c0; have XS_1 := XS.c1; have XS_2 := XS.c2; have XS_s := XS.size
          have XI := Box3.new wi (.int .i64 (9999)) (.int .i64 T) (.bool true) 25
          go_wp2_with fail
          refine (HY.out _).mono ?_
          rintro e wy ⟨rfl, hb1⟩
          have hB1 : Below w.heap.size w wy := (by refine Below.trans ?_ (hb1.mono (by first | exact Nat.le_refl _ | omega | (simp; done) | (simp; omega))); repeat (first | exact Below.refl _ _ | assumption | refine Below.drew ?_ | refine belowDrewN ?_ _ | refine Below.alloc ?_ (by first | exact Nat.le_refl _ | omega | (simp; done) | (simp; omega)) _ | refine Below.setCell ?_ (by first | exact Nat.le_refl _ | omega | (simp; done) | (simp; omega)) _)); have hzwy := hB1.size; have XD := Box3.below (by first | exact XD | exact XD.alloc _) hb1 (by first | exact XD.size | (have := XD.size; simp; omega)); have XD_0 := XD.c0; have XD_1 := XD.c1; have XD_2 := XD.c2; have XD_s := XD.size; have XS := Box3.below (by first | exact XS | exact XS.alloc _) hb1 (by first | exact XS.size | (have := XS.size; simp; omega)); have XS_0 := XS.c0; have XS_1 := XS.c1; have XS_2 := XS.c2; have XS_s := XS.size; have XI := Box3.below (by first | exact XI | exact XI.alloc _) hb1 (by first | exact XI.size | (have := XI.size; simp; omega)); have XI_0 := XI.c0; have XI_1 := XI.c1; have XI_2 := XI.c2; have XI_s := XI.size
          have XY := Box3.new wy (.int .i64 P) (.int .i64 T) (.bool false) 25
          go_wp2_with (go_at_call 21; refine (HC.out _).mono ?_; rintro e w1 ⟨rfl, hb1⟩; have hB1 : Below w.heap.size w w1 := (by refine Below.trans ?_ (hb1.mono (by first | exact Nat.le_refl _ | omega | (simp; done) | (simp; omega))); repeat (first | exact Below.refl _ _ | assumption | refine Below.drew ?_ | refine belowDrewN ?_ _ | refine Below.alloc ?_ (by first | exact Nat.le_refl _ | omega | (simp; done) | (simp; omega)) _ | refine Below.setCell ?_ (by first | exact Nat.le_refl _ | omega | (simp; done) | (simp; omega)) _)); have hzw1 := hB1.size; have XD := Box3.below (by first | exact XD | exact XD.alloc _) hb1 (by first | exact XD.size | (have := XD.size; simp; omega)); have XD_0 := XD.c0; have XD_1 := XD.c1; have XD_2 := XD.c2; have XD_s := XD.size; have XS := Box3.below (by first | exact XS | exact XS.alloc _) hb1 (by first | exact XS.size | (have := XS.size; simp; omega)); have XS_0 := XS.c0; have XS_1 := XS.c1; have XS_2 := XS.c2; have XS_s := XS.size; have XI := Box3.below (by first | exact XI | exact XI.alloc _) hb1 (by first | exact XI.size | (have := XI.size; simp; omega)); have XI_0 := XI.c0; have XI_1 := XI.c1; have XI_2 := XI.c2; have XI_s := XI.size; have XY := Box3.below (by first | exact XY | exact XY.alloc _) hb1 (by first | exact XY.size | (have := XY.size; simp; omega)); have XY_0 := XY.c0; have XY_1 := XY.c1; have XY_2 := XY.c2; have XY_s := XY.size)
          go_ret
          exact ⟨rfl, by repeat (first | exact Below.refl _ _ | assumption | refine Below.drew ?_ | refine belowDrewN ?_ _ | refine Below.alloc ?_ (by first | exact Nat.le_refl _ | omega | (simp; done) | (simp; omega)) _ | refine Below.setCell ?_ (by first | exact Nat.le_refl _ | omega | (simp; done) | (simp; omega)) _)⟩
        · go_wp2_with fail
          refine (HS.out _).mono ?_
          rintro e ws ⟨rfl, hb1⟩
          have hB1 : Below w.heap.size w ws := (by refine Below.trans ?_ (hb1.mono (by first | exact Nat.le_refl _ | omega | (simp; done) | (simp; omega))); repeat (first | exact Below.refl _ _ | assumption | refine Below.drew ?_ | refine belowDrewN ?_ _ | refine Below.alloc ?_ (by first | exact Nat.le_refl _ | omega | (simp; done) | (simp; omega)) _ | refine Below.setCell ?_ (by first | exact Nat.le_refl _ | omega | (simp; done) | (simp; omega)) _)); have hzws := hB1.size; have XD := Box3.below (by first | exact XD | exact XD.alloc _) hb1 (by first | exact XD.size | (have := XD.size; simp; omega)); have XD_0 := XD.c0; have XD_1 := XD.c1; have XD_2 := XD.c2; have XD_s := XD.size
          have XS := Box3.new ws (.int .i64 (9999)) (.int .i64 T) (.bool true) 25
          go_wp2_with fail
          refine (HI.out _).mono ?_
          rintro e wi ⟨rfl, hb1⟩
          have hB1 : Below w.heap.size w wi := (by refine Below.trans ?_ (hb1.mono (by first | exact Nat.le_refl _ | omega | (simp; done) | (simp; omega))); repeat (first | exact Below.refl _ _ | assumption | refine Below.drew ?_ | refine belowDrewN ?_ _ | refine Below.alloc ?_ (by first | exact Nat.le_refl _ | omega | (simp; done) | (simp; omega)) _ | refine Below.setCell ?_ (by first | exact Nat.le_refl _ | omega | (simp; done) | (simp; omega)) _)); have hzwi := hB1.size; have XD := Box3.below (by first | exact XD | exact XD.alloc _) hb1 (by first | exact XD.size | (have := XD.size; simp; omega)); have XD_0 := XD.c0; have XD_1 := XD.c1; have XD_2 := XD.c2; have XD_s := XD.size; have XS := Box3.below (by first | exact XS | exact XS.alloc _) hb1 (by first | exact XS.size | (have := XS.size; simp; omega)); have XS_0 := XS.c0; have XS_1 := XS.c1; have XS_2 := XS.c2; have XS_s := XS.size
          have XI := Box3.new wi (.int .i64 (9999)) (.int .i64 T) (.bool true) 25
          go_wp2_with fail
          refine (HY.out _).mono ?_
          rintro e wy ⟨rfl, hb1⟩
          have hB1 : Below w.heap.size w wy := (by refine Below.trans ?_ (hb1.mono (by first | exact Nat.le_refl _ | omega | (simp; done) | (simp; omega))); repeat (first | exact Below.refl _ _ | assumption | refine Below.drew ?_ | refine belowDrewN ?_ _ | refine Below.alloc ?_ (by first | exact Nat.le_refl _ | omega | (simp; done) | (simp; omega)) _ | refine Below.setCell ?_ (by first | exact Nat.le_refl _ | omega | (simp; done) | (simp; omega)) _)); have hzwy := hB1.size; have XD := Box3.below (by first | exact XD | exact XD.alloc _) hb1 (by first | exact XD.size | (have := XD.size; simp; omega)); have XD_0 := XD.c0; have XD_1 := XD.c1; have XD_2 := XD.c2; have XD_s := XD.size; have XS := Box3.below (by first | exact XS | exact XS.alloc _) hb1 (by first | exact XS.size | (have := XS.size; simp; omega)); have XS_0 := XS.c0; have XS_1 := XS.c1; have XS_2 := XS.c2; have XS_s := XS.size; have XI := Box3.below (by first | exact XI | exact XI.alloc _) hb1 (by first | exact XI.size | (have := XI.size; simp; omega)); have XI_0 := XI.c0; have XI_1 := XI.c1; have XI_2 := XI.c2; have XI_s := XI.size
          have XY := Box3.new wy (.int .i64 P) (.int .i64 T) (.bool true) 25
          go_wp2_with (go_at_call 21; refine (HC.out _).mono ?_; rintro e w1 ⟨rfl, hb1⟩; have hB1 : Below w.heap.size w w1 := (by refine Below.trans ?_ (hb1.mono (by first | exact Nat.le_refl _ | omega | (simp; done) | (simp; omega))); repeat (first | exact Below.refl _ _ | assumption | refine Below.drew ?_ | refine belowDrewN ?_ _ | refine Below.alloc ?_ (by first | exact Nat.le_refl _ | omega | (simp; done) | (simp; omega)) _ | refine Below.setCell ?_ (by first | exact Nat.le_refl _ | omega | (simp; done) | (simp; omega)) _)); have hzw1 := hB1.size; have XD := Box3.below (by first | exact XD | exact XD.alloc _) hb1 (by first | exact XD.size | (have := XD.size; simp; omega)); have XD_0 := XD.c0; have XD_1 := XD.c1; have XD_2 := XD.c2; have XD_s := XD.size; have XS := Box3.below (by first | exact XS | exact XS.alloc _) hb1 (by first | exact XS.size | (have := XS.size; simp; omega)); have XS_0 := XS.c0; have XS_1 := XS.c1; have XS_2 := XS.c2; have XS_s := XS.size; have XI := Box3.below (by first | exact XI | exact XI.alloc _) hb1 (by first | exact XI.size | (have := XI.size; simp; omega)); have XI_0 := XI.c0; have XI_1 := XI.c1; have XI_2 := XI.c2; have XI_s := XI.size; have XY := Box3.below (by first | exact XY | exact XY.alloc _) hb1 (by first | exact XY.size | (have := XY.size; simp; omega)); have XY_0 := XY.c0; have XY_1 := XY.c1; have XY_2 := XY.c2; have XY_s := XY.size)
          go_ret
          exact ⟨rfl, by repeat (first | exact Below.refl _ _ | assumption | refine Below.drew ?_ | refine belowDrewN ?_ _ | refine Below.alloc ?_ (by first | exact Nat.le_refl _ | omega | (simp; done) | (simp; omega)) _ | refine Below.setCell ?_ (by first | exact Nat.le_refl _ | omega | (simp; done) | (simp; omega)) _)⟩
end Go.Proofs.Ytbjonkjigfnnnaa
