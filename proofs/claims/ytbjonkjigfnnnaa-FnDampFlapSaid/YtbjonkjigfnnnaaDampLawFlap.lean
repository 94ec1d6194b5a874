/- The walks of FnDampFlap and FnFlapMore. -/
import Derived.Test.YtbjonkjigfnnnaaDampLater
namespace Go.Proofs.Ytbjonkjigfnnnaa
open Go.RowKit
set_option linter.unusedVariables false

theorem flap_fine {p t : Int} {o : Bool} {now : Int} (h : okNow p t o now = true) : okB (flapP p t o now) (nowT p t o now) (flapO p t o now) = true := flapD_fine (d := (p, t, o)) (n := now) h

/-- A second flap at the same time. -/
theorem flap_again {p t : Int} {o : Bool} {now : Int} (h : okNow p t o now = true) :
    okNow (flapP p t o now) (nowT p t o now) (flapO p t o now) now = true ∧ flapP (flapP p t o now) (nowT p t o now) (flapO p t o now) now = more (flapP p t o now) ∧
    nowT (flapP p t o now) (nowT p t o now) (flapO p t o now) now = nowT p t o now ∧ flapO (flapP p t o now) (nowT p t o now) (flapO p t o now) now = (flapO p t o now || decide (250 ≤ more (flapP p t o now))) := by
  have hn1 : t ≤ now := by simp [okNow] at h; exact h.1.2
  have hn2 : now ≤ 99 := by simp [okNow] at h; exact h.2
  have hf := flap_fine h
  obtain ⟨w1, w2⟩ := whiles_in hn1
  have hT : nowT p t o now ≤ now ∧ now < nowT p t o now + 8 := by rw [nowT_yes h]; omega
  generalize flapP p t o now = P at *
  generalize nowT p t o now = T at *
  generalize flapO p t o now = O at *
  have hk : okNow P T O now = true := by unfold okNow; rw [hf]; simp; omega
  have hw : whiles T now = 0 := by unfold whiles; omega
  obtain ⟨p0, p1, _, _, hon, _⟩ := okB_in hf
  have e1 : nowP P T O now = P := by rw [nowP_yes hk, hw]; simp; omega
  have e2 : nowO P T O now = O := by
    rw [nowO_yes hk, hw]
    cases O
    · simp
    · have := hon rfl; simp; omega
  refine ⟨hk, ?_, ?_, ?_⟩
  · rw [flapP_yes hk, e1]
  · rw [nowT_yes hk, hw]; simp
  · rw [flapO_yes hk, e1, e2]

set_option maxHeartbeats 2000000 in
theorem flapMore_walk (a : Option Addr) (len cap : Nat) (zs : List Int) (w : World) (h : IsRow .u8 w a len cap zs) :
    Calls Try.prog 14 #[.slice a len cap] w fun e w' => e = .returned (.bool true) ∧ Below w.heap.size w w' := by
  have H := Lib.hid h
  clear h
  by_cases hl : 1048576 < len
  · go_enter Try.func14, Try.ntmps14
    go_wp2
    go_ret
    exact ⟨rfl, Below.refl _ _⟩
  · go_enter Try.func14, Try.ntmps14
    go_wp2_with fail
    refine (drawFlap_any _ _ _ zs _ H.out).mono ?_
    rintro e wd ⟨p, t, o, now, rfl, hB1⟩
    have hzd := hB1.size
    have hS := fun w => specFlap_any p t o now w
    have hI := fun w => implFlap_any p t o now w
    have XD := Box3.new wd (.int .i64 p) (.int .i64 t) (.bool o) 25
    have hag := fun h => flap_again (p := p) (t := t) (o := o) (now := now) h
    have hff := fun h => flap_fine (p := p) (t := t) (o := o) (now := now) h
    generalize flapP p t o now = P at hS hI hag hff
    generalize nowT p t o now = T at hS hI hag hff
    generalize flapO p t o now = O at hS hI hag hff
    cases hok : okNow p t o now
    · rw [hok] at hS hI
      have HS := Lib.hid hS
      have HI := Lib.hid hI
      clear hS hI hok hag hff
      go_wp2_with fail
      refine (HS.out _).mono ?_
      rintro e ws ⟨rfl, hb1⟩
      have hB1 : Below w.heap.size w ws := (by refine Below.trans ?_ (hb1.mono (by first | exact Nat.le_refl _ | omega | (simp; done) | (simp; omega))); repeat (first | exact Below.refl _ _ | assumption | refine Below.drew ?_ | refine belowDrewN ?_ _ | refine Below.alloc ?_ (by first | exact Nat.le_refl _ | omega | (simp; done) | (simp; omega)) _ | refine Below.setCell ?_ (by first | exact Nat.le_refl _ | omega | (simp; done) | (simp; omega)) _)); have hzws := hB1.size; have XD := Box3.below (by first | exact XD | exact XD.alloc _) hb1 (by first | exact XD.size | (have := XD.size; simp; omega)); have XD_0 := XD.c0; have XD_1 := XD.c1; have XD_2 := XD.c2; have XD_s := XD.size
      have XS := Box3.new ws (.int .i64 P) (.int .i64 T) (.bool O) 25
      go_wp2_with fail
      refine (HI.out _).mono ?_
      rintro e wi ⟨rfl, hb1⟩
      have hB1 : Below w.heap.size w wi := (by refine Below.trans ?_ (hb1.mono (by first | exact Nat.le_refl _ | omega | (simp; done) | (simp; omega))); repeat (first | exact Below.refl _ _ | assumption | refine Below.drew ?_ | refine belowDrewN ?_ _ | refine Below.alloc ?_ (by first | exact Nat.le_refl _ | omega | (simp; done) | (simp; omega)) _ | refine Below.setCell ?_ (by first | exact Nat.le_refl _ | omega | (simp; done) | (simp; omega)) _)); have hzwi := hB1.size; have XD := Box3.below (by first | exact XD | exact XD.alloc _) hb1 (by first | exact XD.size | (have := XD.size; simp; omega)); have XD_0 := XD.c0; have XD_1 := XD.c1; have XD_2 := XD.c2; have XD_s := XD.size; have XS := Box3.below (by first | exact XS | exact XS.alloc _) hb1 (by first | exact XS.size | (have := XS.size; simp; omega)); have XS_0 := XS.c0; have XS_1 := XS.c1; have XS_2 := XS.c2; have XS_s := XS.size
      go_wp2_with fail
      go_ret
      exact ⟨rfl, by repeat (first | exact Below.refl _ _ | assumption | refine Below.drew ?_ | refine belowDrewN ?_ _ | refine Below.alloc ?_ (by first | exact Nat.le_refl _ | omega | (simp; done) | (simp; omega)) _ | refine Below.setCell ?_ (by first | exact Nat.le_refl _ | omega | (simp; done) | (simp; omega)) _)⟩
    · obtain ⟨c1, c2, c3, c4⟩ := hag hok
      obtain ⟨p0, p1, _, _, _, _⟩ := okB_in (hff hok)
      have hY := fun w => implFlap_any P T O now w
      rw [c1, c2, c3, c4] at hY
      rw [hok] at hS hI
      have HS := Lib.hid hS
      have HI := Lib.hid hI
      clear hS hI hok hag hff c1 c2 c3 c4
      by_cases hm : P + 100 ≤ 9999
      · have hM : more P = P + 100 := by unfold more; omega
        rw [hM] at hY
        have HY := Lib.hid hY
        clear hM hY
        cases O
        · go_wp2_with fail
          refine (HS.out _).mono ?_
          rintro e ws ⟨rfl, hb1⟩
          have hB1 : Below w.heap.size w ws := (by refine Below.trans ?_ (hb1.mono (by first | exact Nat.le_refl _ | omega | (simp; done) | (simp; omega))); repeat (first | exact Below.refl _ _ | assumption | refine Below.drew ?_ | refine belowDrewN ?_ _ | refine Below.alloc ?_ (by first | exact Nat.le_refl _ | omega | (simp; done) | (simp; omega)) _ | refine Below.setCell ?_ (by first | exact Nat.le_refl _ | omega | (simp; done) | (simp; omega)) _)); have hzws := hB1.size; have XD := Box3.below (by first | exact XD | exact XD.alloc _) hb1 (by first | exact XD.size | (have := XD.size; simp; omega)); have XD_0 := XD.c0; have XD_1 := XD.c1; have XD_2 := XD.c2; have XD_s := XD.size
          have XS := Box3.new ws (.int .i64 P) (.int .i64 T) (.bool false) 25
          go_wp2_with fail
          refine (HI.out _).mono ?_
          rintro e wi ⟨rfl, hb1⟩
          have hB1 : Below w.heap.size w wi := (by refine Below.trans ?_ (hb1.mono (by first | exact Nat.le_refl _ | omega | (simp; done) | (simp; omega))); repeat (first | exact Below.refl _ _ | assumption | refine Below.drew ?_ | refine belowDrewN ?_ _ | refine Below.alloc ?_ (by first | exact Nat.le_refl _ | omega | (simp; done) | (simp; omega)) _ | refine Below.setCell ?_ (by first | exact Nat.le_refl _ | omega | (simp; done) | (simp; omega)) _)); have hzwi := hB1.size; have XD := Box3.below (by first | exact XD | exact XD.alloc _) hb1 (by first | exact XD.size | (have := XD.size; simp; omega)); have XD_0 := XD.c0; have XD_1 := XD.c1; have XD_2 := XD.c2; have XD_s := XD.size; have XS := Box3.below (by first | exact XS | exact XS.alloc _) hb1 (by first | exact XS.size | (have := XS.size; simp; omega)); have XS_0 := XS.c0; have XS_1 := XS.c1; have XS_2 := XS.c2; have XS_s := XS.size
          have XI := Box3.new wi (.int .i64 P) (.int .i64 T) (.bool false) 25
          go_wp2_with fail
          refine (HY.out _).mono ?_
          rintro e wy ⟨rfl, hb1⟩
          have hB1 : Below w.heap.size w wy := (by refine Below.trans ?_ (hb1.mono (by first | exact Nat.le_refl _ | omega | (simp; done) | (simp; omega))); repeat (first | exact Below.refl _ _ | assumption | refine Below.drew ?_ | refine belowDrewN ?_ _ | refine Below.alloc ?_ (by first | exact Nat.le_refl _ | omega | (simp; done) | (simp; omega)) _ | refine Below.setCell ?_ (by first | exact Nat.le_refl _ | omega | (simp; done) | (simp; omega)) _)); have hzwy := hB1.size; have XD := Box3.below (by first | exact XD | exact XD.alloc _) hb1 (by first | exact XD.size | (have := XD.size; simp; omega)); have XD_0 := XD.c0; have XD_1 := XD.c1; have XD_2 := XD.c2; have XD_s := XD.size; have XS := Box3.below (by first | exact XS | exact XS.alloc _) hb1 (by first | exact XS.size | (have := XS.size; simp; omega)); have XS_0 := XS.c0; have XS_1 := XS.c1; have XS_2 := XS.c2; have XS_s := XS.size; have XI := Box3.below (by first | exact XI | exact XI.alloc _) hb1 (by first | exact XI.size | (have := XI.size; simp; omega)); have XI_0 := XI.c0; have XI_1 := XI.c1; have XI_2 := XI.c2; have XI_s := XI.size
          go_wp2_with fail
          go_ret
          exact ⟨rfl, by repeat (first | exact Below.refl _ _ | assumption | refine Below.drew ?_ | refine belowDrewN ?_ _ | refine Below.alloc ?_ (by first | exact Nat.le_refl _ | omega | (simp; done) | (simp; omega)) _ | refine Below.setCell ?_ (by first | exact Nat.le_refl _ | omega | (simp; done) | (simp; omega)) _)⟩
        · go_wp2_with fail
          refine (HS.out _).mono ?_
          rintro e ws ⟨rfl, hb1⟩
          have hB1 : Below w.heap.size w ws := (by refine Below.trans ?_ (hb1.mono (by first | exact Nat.le_refl _ | omega | (simp; done) | (simp; omega))); repeat (first | exact Below.refl _ _ | assumption | refine Below.drew ?_ | refine belowDrewN ?_ _ | refine Below.alloc ?_ (by first | exact Nat.le_refl _ | omega | (simp; done) | (simp; omega)) _ | refine Below.setCell ?_ (by first | exact Nat.le_refl _ | omega | (simp; done) | (simp; omega)) _)); have hzws := hB1.size; have XD := Box3.below (by first | exact XD | exact XD.alloc _) hb1 (by first | exact XD.size | (have := XD.size; simp; omega)); have XD_0 := XD.c0; have XD_1 := XD.c1; have XD_2 := XD.c2; have XD_s := XD.size
          have XS := Box3.new ws (.int .i64 P) (.int .i64 T) (.bool true) 25
          go_wp2_with fail
          refine (HI.out _).mono ?_
          rintro e wi ⟨rfl, hb1⟩
          have hB1 : Below w.heap.size w wi := (by refine Below.trans ?_ (hb1.mono (by first | exact Nat.le_refl _ | omega | (simp; done) | (simp; omega))); repeat (first | exact Below.refl _ _ | assumption | refine Below.drew ?_ | refine belowDrewN ?_ _ | refine Below.alloc ?_ (by first | exact Nat.le_refl _ | omega | (simp; done) | (simp; omega)) _ | refine Below.setCell ?_ (by first | exact Nat.le_refl _ | omega | (simp; done) | (simp; omega)) _)); have hzwi := hB1.size; have XD := Box3.below (by first | exact XD | exact XD.alloc _) hb1 (by first | exact XD.size | (have := XD.size; simp; omega)); have XD_0 := XD.c0; have XD_1 := XD.c1; have XD_2 := XD.c2; have XD_s := XD.size; have XS := Box3.below (by first | exact XS | exact XS.alloc _) hb1 (by first | exact XS.size | (have := XS.size; simp; omega)); have XS_0 := XS.c0; have XS_1 := XS.c1; have XS_2 := XS.c2; have XS_s := XS.size
          have XI := Box3.new wi (.int .i64 P) (.int .i64 T) (.bool true) 25
          go_wp2_with fail
          refine (HY.out _).mono ?_
          rintro e wy ⟨rfl, hb1⟩
          have hB1 : Below w.heap.size w wy := (by refine Below.trans ?_ (hb1.mono (by first | exact Nat.le_refl _ | omega | (simp; done) | (simp; omega))); repeat (first | exact Below.refl _ _ | assumption | refine Below.drew ?_ | refine belowDrewN ?_ _ | refine Below.alloc ?_ (by first | exact Nat.le_refl _ | omega | (simp; done) | (simp; omega)) _ | refine Below.setCell ?_ (by first | exact Nat.le_refl _ | omega | (simp; done) | (simp; omega)) _)); have hzwy := hB1.size; have XD := Box3.below (by first | exact XD | exact XD.alloc _) hb1 (by first | exact XD.size | (have := XD.size; simp; omega)); have XD_0 := XD.c0; have XD_1 := XD.c1; have XD_2 := XD.c2; have XD_s := XD.size; have XS := Box3.below (by first | exact XS | exact XS.alloc _) hb1 (by first | exact XS.size | (have := XS.size; simp; omega)); have XS_0 := XS.c0; have XS_1 := XS.c1; have XS_2 := XS.c2; have XS_s := XS.size; have XI := Box3.below (by first | exact XI | exact XI.alloc _) hb1 (by first | exact XI.size | (have := XI.size; simp; omega)); have XI_0 := XI.c0; have XI_1 := XI.c1; have XI_2 := XI.c2; have XI_s := XI.size
          go_wp2_with fail
          go_ret
          exact ⟨rfl, by repeat (first | exact Below.refl _ _ | assumption | refine Below.drew ?_ | refine belowDrewN ?_ _ | refine Below.alloc ?_ (by first | exact Nat.le_refl _ | omega | (simp; done) | (simp; omega)) _ | refine Below.setCell ?_ (by first | exact Nat.le_refl _ | omega | (simp; done) | (simp; omega)) _)⟩
      · have hM : more P = 9999 := by unfold more; omega
        rw [hM] at hY
        have HY := Lib.hid hY
        clear hM hY
        cases O
        · go_wp2_with fail
          refine (HS.out _).mono ?_
          rintro e ws ⟨rfl, hb1⟩
          have hB1 : Below w.heap.size w ws := (by refine Below.trans ?_ (hb1.mono (by first | exact Nat.le_refl _ | omega | (simp; done) | (simp; omega))); repeat (first | exact Below.refl _ _ | assumption | refine Below.drew ?_ | refine belowDrewN ?_ _ | refine Below.alloc ?_ (by first | exact Nat.le_refl _ | omega | (simp; done) | (simp; omega)) _ | refine Below.setCell ?_ (by first | exact Nat.le_refl _ | omega | (simp; done) | (simp; omega)) _)); have hzws := hB1.size; have XD := Box3.below (by first | exact XD | exact XD.alloc _) hb1 (by first | exact XD.size | (have := XD.size; simp; omega)); have XD_0 := XD.c0; have XD_1 := XD.c1; have XD_2 := XD.c2; have XD_s := XD.size
          have XS := Box3.new ws (.int .i64 P) (.int .i64 T) (.bool false) 25
          go_wp2_with fail
          refine (HI.out _).mono ?_
          rintro e wi ⟨rfl, hb1⟩
          have hB1 : Below w.heap.size w wi := (by refine Below.trans ?_ (hb1.mono (by first | exact Nat.le_refl _ | omega | (simp; done) | (simp; omega))); repeat (first | exact Below.refl _ _ | assumption | refine Below.drew ?_ | refine belowDrewN ?_ _ | refine Below.alloc ?_ (by first | exact Nat.le_refl _ | omega | (simp; done) | (simp; omega)) _ | refine Below.setCell ?_ (by first | exact Nat.le_refl _ | omega | (simp; done) | (simp; omega)) _)); have hzwi := hB1.size; have XD := Box3.below (by first | exact XD | exact XD.alloc _) hb1 (by first | exact XD.size | (have := XD.size; simp; omega)); have XD_0 := XD.c0; have XD_1 := XD.c1; have XD_2 := XD.c2; have XD_s := XD.size; have XS := Box3.below (by first | exact XS | exact XS.alloc _) hb1 (by first | exact XS.size | (have := XS.size; simp; omega)); have XS_0 := XS.c0; have XS_1 := XS.c1; have XS_2 := XS.c2; have XS_s := XS.size
          have XI := Box3.new wi (.int .i64 P) (.int .i64 T) (.bool false) 25
          go_wp2_with fail
          refine (HY.out _).mono ?_
          rintro e wy ⟨rfl, hb1⟩
          have hB1 : Below w.heap.size w wy := (by refine Below.trans ?_ (hb1.mono (by first | exact Nat.le_refl _ | omega | (simp; done) | (simp; omega))); repeat (first | exact Below.refl _ _ | assumption | refine Below.drew ?_ | refine belowDrewN ?_ _ | refine Below.alloc ?_ (by first | exact Nat.le_refl _ | omega | (simp; done) | (simp; omega)) _ | refine Below.setCell ?_ (by first | exact Nat.le_refl _ | omega | (simp; done) | (simp; omega)) _)); have hzwy := hB1.size; have XD := Box3.below (by first | exact XD | exact XD.alloc _) hb1 (by first | exact XD.size | (have := XD.size; simp; omega)); have XD_0 := XD.c0; have XD_1 := XD.c1; have XD_2 := XD.c2; have XD_s := XD.size; have XS := Box3.below (by first | exact XS | exact XS.alloc _) hb1 (by first | exact XS.size | (have := XS.size; simp; omega)); have XS_0 := XS.c0; have XS_1 := XS.c1; have XS_2 := XS.c2; have XS_s := XS.size; have XI := Box3.below (by first | exact XI | exact XI.alloc _) hb1 (by first | exact XI.size | (have := XI.size; simp; omega)); have XI_0 := XI.c0; have XI_1 := XI.c1; have XI_2 := XI.c2; have XI_s := XI.size
          go_wp2_with fail
          go_ret
          exact ⟨rfl, by repeat (first | exact Below.refl _ _ | assumption | refine Below.drew ?_ | refine belowDrewN ?_ _ | refine Below.alloc ?_ (by first | exact Nat.le_refl _ | omega | (simp; done) | (simp; omega)) _ | refine Below.setCell ?_ (by first | exact Nat.le_refl _ | omega | (simp; done) | (simp; omega)) _)⟩
        · go_wp2_with fail
          refine (HS.out _).mono ?_
          rintro e ws ⟨rfl, hb1⟩
          have hB1 : Below w.heap.size w ws := (by refine Below.trans ?_ (hb1.mono (by first | exact Nat.le_refl _ | omega | (simp; done) | (simp; omega))); repeat (first | exact Below.refl _ _ | assumption | refine Below.drew ?_ | refine belowDrewN ?_ _ | refine Below.alloc ?_ (by first | exact Nat.le_refl _ | omega | (simp; done) | (simp; omega)) _ | refine Below.setCell ?_ (by first | exact Nat.le_refl _ | omega | (simp; done) | (simp; omega)) _)); have hzws := hB1.size; have XD := Box3.below (by first | exact XD | exact XD.alloc _) hb1 (by first | exact XD.size | (have := XD.size; simp; omega)); have XD_0 := XD.c0; have XD_1 := XD.c1; have XD_2 := XD.c2; have XD_s := XD.size
          have XS := Box3.new ws (.int .i64 P) (.int .i64 T) (.bool true) 25
          go_wp2_with fail
          refine (HI.out _).mono ?_
          rintro e wi ⟨rfl, hb1⟩
          have hB1 : Below w.heap.size w wi := (by refine Below.trans ?_ (hb1.mono (by first | exact Nat.le_refl _ | omega | (simp; done) | (simp; omega))); repeat (first | exact Below.refl _ _ | assumption | refine Below.drew ?_ | refine belowDrewN ?_ _ | refine Below.alloc ?_ (by first | exact Nat.le_refl _ | omega | (simp; done) | (simp; omega)) _ | refine Below.setCell ?_ (by first | exact Nat.le_refl _ | omega | (simp; done) | (simp; omega)) _)); have hzwi := hB1.size; have XD := Box3.below (by first | exact XD | exact XD.alloc _) hb1 (by first | exact XD.size | (have := XD.size; simp; omega)); have XD_0 := XD.c0; have XD_1 := XD.c1; have XD_2 := XD.c2; have XD_s := XD.size; have XS := Box3.below (by first | exact XS | exact XS.alloc _) hb1 (by first | exact XS.size | (have := XS.size; simp; omega)); have XS_0 := XS.c0; have XS_1 := XS.c1; have XS_2 := XS.c2; have XS_s := XS.size
          have XI := Box3.new wi (.int .i64 P) (.int .i64 T) (.bool true) 25
          go_wp2_with fail
          refine (HY.out _).mono ?_
          rintro e wy ⟨rfl, hb1⟩
          have hB1 : Below w.heap.size w wy := (by refine Below.trans ?_ (hb1.mono (by first | exact Nat.le_refl _ | omega | (simp; done) | (simp; omega))); repeat (first | exact Below.refl _ _ | assumption | refine Below.drew ?_ | refine belowDrewN ?_ _ | refine Below.alloc ?_ (by first | exact Nat.le_refl _ | omega | (simp; done) | (simp; omega)) _ | refine Below.setCell ?_ (by first | exact Nat.le_refl _ | omega | (simp; done) | (simp; omega)) _)); have hzwy := hB1.size; have XD := Box3.below (by first | exact XD | exact XD.alloc _) hb1 (by first | exact XD.size | (have := XD.size; simp; omega)); have XD_0 := XD.c0; have XD_1 := XD.c1; have XD_2 := XD.c2; have XD_s := XD.size; have XS := Box3.below (by first | exact XS | exact XS.alloc _) hb1 (by first | exact XS.size | (have := XS.size; simp; omega)); have XS_0 := XS.c0; have XS_1 := XS.c1; have XS_2 := XS.c2; have XS_s := XS.size; have XI := Box3.below (by first | exact XI | exact XI.alloc _) hb1 (by first | exact XI.size | (have := XI.size; simp; omega)); have XI_0 := XI.c0; have XI_1 := XI.c1; have XI_2 := XI.c2; have XI_s := XI.size
          go_wp2_with fail
          go_ret
          exact ⟨rfl, by repeat (first | exact Below.refl _ _ | assumption | refine Below.drew ?_ | refine belowDrewN ?_ _ | refine Below.alloc ?_ (by first | exact Nat.le_refl _ | omega | (simp; done) | (simp; omega)) _ | refine Below.setCell ?_ (by first | exact Nat.le_refl _ | omega | (simp; done) | (simp; omega)) _)⟩
end Go.Proofs.Ytbjonkjigfnnnaa
