/- The walk of FnDampFree. -/
import Derived.Test.YtbjonkjigfnnnaaDampHold
import Derived.Deep.DeepCutAuto
import Derived.Deep.LoopGhost
import Derived.Deep.QuietTactic
import Derived.BigQuiet
namespace Go.Proofs.Ytbjonkjigfnnnaa
open Go.RowKit
set_option linter.unusedVariables false

set_option maxHeartbeats 2000000 in
theorem lawFree_walk (a : Option Addr) (len cap : Nat) (zs : List Int) (w : World) (h : IsRow .u8 w a len cap zs) :
    Calls Try.prog 18 #[.slice a len cap] w fun e w' => e = .returned (.bool true) ∧ Below w.heap.size w w' := by
  have H := Lib.hid h
  clear h
  by_cases hl : 1048576 < len
  · go_enter Try.func18, Try.ntmps18
    go_wp2
    go_ret
    exact ⟨rfl, Below.refl _ _⟩
  · go_enter Try.func18, Try.ntmps18
    go_wp2_with fail
    refine (drawFree_any _ _ _ zs _ H.out).mono ?_
    rintro e wd ⟨p, t, o, rfl, p0, p1, t0, t1, hB1⟩
    have hzd := hB1.size
    have XD := Box3.new wd (.int .i64 p) (.int .i64 t) (.bool o) 25
    have hI := fun w => implFree_any p t o w
    have hS := fun w => specFree_any p t o w
    have hh := fun now h => hold_till (p := p) (t := t) (o := o) (now := now) h
    have hoff := fun h => freeOf_off (p := p) (t := t) h
    have hN := fun now w => implNow_any p t o now w
    cases hok : okB p t o
    · generalize freeOf p t o = F at hI hS
      have HI := Lib.hid hI
      have HS := Lib.hid hS
      clear hI hS hh hoff hN
      go_wp2_with (first
        | (go_at_call 24; refine (HI.out _).mono ?_; rintro e w1 ⟨rfl, hb1⟩; have hB1 : Below w.heap.size w w1 := (by refine Below.trans ?_ (hb1.mono (by first | exact Nat.le_refl _ | omega | (simp; done) | (simp; omega))); repeat (first | exact Below.refl _ _ | assumption | refine Below.drew ?_ | refine belowDrewN ?_ _ | refine Below.alloc ?_ (by first | exact Nat.le_refl _ | omega | (simp; done) | (simp; omega)) _ | refine Below.setCell ?_ (by first | exact Nat.le_refl _ | omega | (simp; done) | (simp; omega)) _)); obtain ⟨hc1, hf1⟩ := bcell hb1; have hz1 : wd.heap.size < w1.heap.size := (by have := hb1.size; (try simp at this); omega))
        | (go_at_call 23; refine (HS.out _).mono ?_; rintro e w1 ⟨rfl, hb1⟩; have hB1 : Below w.heap.size w w1 := (by refine Below.trans ?_ (hb1.mono (by first | exact Nat.le_refl _ | omega | (simp; done) | (simp; omega))); repeat (first | exact Below.refl _ _ | assumption | refine Below.drew ?_ | refine belowDrewN ?_ _ | refine Below.alloc ?_ (by first | exact Nat.le_refl _ | omega | (simp; done) | (simp; omega)) _ | refine Below.setCell ?_ (by first | exact Nat.le_refl _ | omega | (simp; done) | (simp; omega)) _)); obtain ⟨hc1, hf1⟩ := bcell hb1; have hz1 : wd.heap.size < w1.heap.size := (by have := hb1.size; (try simp at this); omega))
        | (go_at_call 19; refine (specOk_any _ _ _ _).mono ?_; rintro e w1 ⟨rfl, hb1⟩; have hB1 : Below w.heap.size w w1 := (by refine Below.trans ?_ (hb1.mono (by first | exact Nat.le_refl _ | omega | (simp; done) | (simp; omega))); repeat (first | exact Below.refl _ _ | assumption | refine Below.drew ?_ | refine belowDrewN ?_ _ | refine Below.alloc ?_ (by first | exact Nat.le_refl _ | omega | (simp; done) | (simp; omega)) _ | refine Below.setCell ?_ (by first | exact Nat.le_refl _ | omega | (simp; done) | (simp; omega)) _)); obtain ⟨hc1, hf1⟩ := bcell hb1; have hz1 : wd.heap.size < w1.heap.size := (by have := hb1.size; (try simp at this); omega)))
      go_ret
      exact ⟨rfl, by repeat (first | exact Below.refl _ _ | assumption | refine Below.drew ?_ | refine belowDrewN ?_ _ | refine Below.alloc ?_ (by first | exact Nat.le_refl _ | omega | (simp; done) | (simp; omega)) _ | refine Below.setCell ?_ (by first | exact Nat.le_refl _ | omega | (simp; done) | (simp; omega)) _)⟩
    · obtain ⟨_, _, u0, u1, _, _⟩ := okB_in hok
      have hend : o = false → freeOf p t o = t := fun e => by subst e; exact hoff hok
      have HH := Lib.hid (fun (now : Int) => hh now hok)
      clear hoff hh
      generalize freeOf p t o = F at *
      have HI := Lib.hid hI
      have HS := Lib.hid hS
      have HN := Lib.hid hN
      have HEND := Lib.hid hend
      clear hI hS hN hend
      have XD0 := XD.c0
      have XD1 := XD.c1
      have XD2 := XD.c2
      go_wp2_with fail
      refine (HI.out _).mono ?_
      rintro e wi ⟨rfl, hb1⟩
      have hB1 : Below w.heap.size w wi := (by refine Below.trans ?_ (hb1.mono (by first | exact Nat.le_refl _ | omega | (simp; done) | (simp; omega))); repeat (first | exact Below.refl _ _ | assumption | refine Below.drew ?_ | refine belowDrewN ?_ _ | refine Below.alloc ?_ (by first | exact Nat.le_refl _ | omega | (simp; done) | (simp; omega)) _ | refine Below.setCell ?_ (by first | exact Nat.le_refl _ | omega | (simp; done) | (simp; omega)) _)); have hzwi := hB1.size; have XD := Box3.below (by first | exact XD | exact XD.alloc _) hb1 (by first | exact XD.size | (have := XD.size; simp; omega)); have XD_0 := XD.c0; have XD_1 := XD.c1; have XD_2 := XD.c2; have XD_s := XD.size
      go_wp2_with (first
        | (go_at_call 23; refine (HS.out _).mono ?_; rintro e w1 ⟨rfl, hb1⟩; have hB1 : Below w.heap.size w w1 := (by refine Below.trans ?_ (hb1.mono (by first | exact Nat.le_refl _ | omega | (simp; done) | (simp; omega))); repeat (first | exact Below.refl _ _ | assumption | refine Below.drew ?_ | refine belowDrewN ?_ _ | refine Below.alloc ?_ (by first | exact Nat.le_refl _ | omega | (simp; done) | (simp; omega)) _ | refine Below.setCell ?_ (by first | exact Nat.le_refl _ | omega | (simp; done) | (simp; omega)) _)); have hzw1 := hB1.size; have XD := Box3.below (by first | exact XD | exact XD.alloc _) hb1 (by first | exact XD.size | (have := XD.size; simp; omega)); have XD_0 := XD.c0; have XD_1 := XD.c1; have XD_2 := XD.c2; have XD_s := XD.size)
        | (go_at_call 19; refine (specOk_any _ _ _ _).mono ?_; rintro e w1 ⟨rfl, hb1⟩; have hB1 : Below w.heap.size w w1 := (by refine Below.trans ?_ (hb1.mono (by first | exact Nat.le_refl _ | omega | (simp; done) | (simp; omega))); repeat (first | exact Below.refl _ _ | assumption | refine Below.drew ?_ | refine belowDrewN ?_ _ | refine Below.alloc ?_ (by first | exact Nat.le_refl _ | omega | (simp; done) | (simp; omega)) _ | refine Below.setCell ?_ (by first | exact Nat.le_refl _ | omega | (simp; done) | (simp; omega)) _)); have hzw1 := hB1.size; have XD := Box3.below (by first | exact XD | exact XD.alloc _) hb1 (by first | exact XD.size | (have := XD.size; simp; omega)); have XD_0 := XD.c0; have XD_1 := XD.c1; have XD_2 := XD.c2; have XD_s := XD.size))
      all_goals
        go_loopg [5] (100 - t).toNat (fun g v wr => ∃ k : Int, v = .int .i64 k ∧ t ≤ k ∧ k + g = 100 ∧ Box3 wr wd.heap.size (.int .i64 p) (.int .i64 t) (.bool o) ∧ Below w.heap.size w wr)
      case atStart => exact ⟨t, rfl, by omega, by omega, by first | exact XD | exact XD.drew, by repeat (first | exact Below.refl _ _ | assumption | refine Below.drew ?_ | refine belowDrewN ?_ _ | refine Below.alloc ?_ (by first | exact Nat.le_refl _ | omega | (simp; done) | (simp; omega)) _ | refine Below.setCell ?_ (by first | exact Nat.le_refl _ | omega | (simp; done) | (simp; omega)) _)⟩
      case round =>
        obtain ⟨k, rfl, hk0, hk, X, hB⟩ := hrel
        clear XD
        have hszr := hB.size
        have x0 := X.c0
        have x1 := X.c1
        have x2 := X.c2
        have xs := X.size
        by_cases h99 : k ≤ 99
        · obtain ⟨e1, e2⟩ := HH.out k hk0 h99
          have hn := fun w => HN.out k w
          rw [e1, e2] at hn
          generalize nowP p t o k = P' at hn
          generalize nowT p t o k = T' at hn
          have HN2 := Lib.hid hn
          clear hn e1 e2
          by_cases hkF : k < F
          · have hd : (o && decide (k < F)) = o := by simp [hkF]
            rw [hd] at HN2
            clear hd
            cases o
            all_goals
              go_wp2_with fail
              refine (HN2.out _).mono ?_
              rintro e wx ⟨rfl, hb1⟩
              have hB1 : Below w.heap.size w wx := (by refine Below.trans ?_ (hb1.mono (by first | exact Nat.le_refl _ | omega | (simp; done) | (simp; omega))); repeat (first | exact Below.refl _ _ | assumption | refine Below.drew ?_ | refine belowDrewN ?_ _ | refine Below.alloc ?_ (by first | exact Nat.le_refl _ | omega | (simp; done) | (simp; omega)) _ | refine Below.setCell ?_ (by first | exact Nat.le_refl _ | omega | (simp; done) | (simp; omega)) _)); have hzwx := hB1.size; have X := Box3.below (by first | exact X | exact X.alloc _) hb1 (by first | exact X.size | (have := X.size; simp; omega)); have X_0 := X.c0; have X_1 := X.c1; have X_2 := X.c2; have X_s := X.size
              go_wp2_with fail
              go_roundg (gk - 1)
              case measure => omega
              case rel => exact ⟨k + 1, by go_num, by omega, by omega, by first | exact X.alloc _ | exact (X.alloc _).drew | exact (X.alloc _).drewN _ | exact ((X.alloc _).drew).drewN _, by repeat (first | exact Below.refl _ _ | assumption | refine Below.drew ?_ | refine belowDrewN ?_ _ | refine Below.alloc ?_ (by first | exact Nat.le_refl _ | omega | (simp; done) | (simp; omega)) _ | refine Below.setCell ?_ (by first | exact Nat.le_refl _ | omega | (simp; done) | (simp; omega)) _)⟩
          · have hd : (o && decide (k < F)) = false := by simp [hkF]
            rw [hd] at HN2
            clear hd
            cases o
            all_goals
              go_wp2_with fail
              refine (HN2.out _).mono ?_
              rintro e wx ⟨rfl, hb1⟩
              have hB1 : Below w.heap.size w wx := (by refine Below.trans ?_ (hb1.mono (by first | exact Nat.le_refl _ | omega | (simp; done) | (simp; omega))); repeat (first | exact Below.refl _ _ | assumption | refine Below.drew ?_ | refine belowDrewN ?_ _ | refine Below.alloc ?_ (by first | exact Nat.le_refl _ | omega | (simp; done) | (simp; omega)) _ | refine Below.setCell ?_ (by first | exact Nat.le_refl _ | omega | (simp; done) | (simp; omega)) _)); have hzwx := hB1.size; have X := Box3.below (by first | exact X | exact X.alloc _) hb1 (by first | exact X.size | (have := X.size; simp; omega)); have X_0 := X.c0; have X_1 := X.c1; have X_2 := X.c2; have X_s := X.size
              go_wp2_with fail
              go_roundg (gk - 1)
              case measure => omega
              case rel => exact ⟨k + 1, by go_num, by omega, by omega, by first | exact X.alloc _ | exact (X.alloc _).drew | exact (X.alloc _).drewN _ | exact ((X.alloc _).drew).drewN _, by repeat (first | exact Below.refl _ _ | assumption | refine Below.drew ?_ | refine belowDrewN ?_ _ | refine Below.alloc ?_ (by first | exact Nat.le_refl _ | omega | (simp; done) | (simp; omega)) _ | refine Below.setCell ?_ (by first | exact Nat.le_refl _ | omega | (simp; done) | (simp; omega)) _)⟩
        · have HE := HEND.out
          cases o
          · have hF := HE rfl
            go_wp2_with fail
            go_ret
            exact ⟨rfl, by repeat (first | exact Below.refl _ _ | assumption | refine Below.drew ?_ | refine belowDrewN ?_ _ | refine Below.alloc ?_ (by first | exact Nat.le_refl _ | omega | (simp; done) | (simp; omega)) _ | refine Below.setCell ?_ (by first | exact Nat.le_refl _ | omega | (simp; done) | (simp; omega)) _)⟩
          · go_wp2_with fail
            go_ret
            exact ⟨rfl, by repeat (first | exact Below.refl _ _ | assumption | refine Below.drew ?_ | refine belowDrewN ?_ _ | refine Below.alloc ?_ (by first | exact Nat.le_refl _ | omega | (simp; done) | (simp; omega)) _ | refine Below.setCell ?_ (by first | exact Nat.le_refl _ | omega | (simp; done) | (simp; omega)) _)⟩
end Go.Proofs.Ytbjonkjigfnnnaa
