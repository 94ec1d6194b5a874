/- The walk of FnDampNow. -/
import Derived.Test.YtbjonkjigfnnnaaDampLater
import Derived.Deep.LoopGhost
namespace Go.Proofs.Ytbjonkjigfnnnaa
open Go.RowKit
set_option linter.unusedVariables false

set_option maxHeartbeats 2000000 in
theorem lawNow_walk (a : Option Addr) (len cap : Nat) (zs : List Int) (w : World) (h : IsRow .u8 w a len cap zs) :
    Calls Try.prog 11 #[.slice a len cap] w fun e w' => e = .returned (.bool true) ∧ Below w.heap.size w w' := by
  have H := Lib.hid h
  clear h
  by_cases hl : 1048576 < len
  · go_enter Try.func11, Try.ntmps11
    go_wp2
    go_ret
    exact ⟨rfl, Below.refl _ _⟩
  · go_enter Try.func11, Try.ntmps11
    go_wp2_with fail
    refine (drawNow_any _ _ _ zs _ H.out).mono ?_
    rintro e wd ⟨p, t, o, now, rfl, hB1⟩
    have hzd := hB1.size
    have hS := fun w => specNow_any p t o now w
    have hI := fun w => implNow_any p t o now w
    have XD := Box3.new wd (.int .i64 p) (.int .i64 t) (.bool o) 25
    cases hok : okNow p t o now
    · generalize nowP p t o now = P at hS hI
      generalize nowT p t o now = T at hS hI
      generalize nowO p t o now = O at hS hI
      rw [hok] at hS hI
      have HS := Lib.hid hS
      have HI := Lib.hid hI
      clear hS hI hok
      go_wp2_with fail
      refine (HS.out _).mono ?_
      rintro e ws ⟨rfl, hb1⟩
      have hB1 : Below w.heap.size w ws := (by refine Below.trans ?_ (hb1.mono (by first | exact Nat.le_refl _ | omega | (simp; done) | (simp; omega))); repeat (first | exact Below.refl _ _ | assumption | refine Below.drew ?_ | refine belowDrewN ?_ _ | refine Below.alloc ?_ (by first | exact Nat.le_refl _ | omega | (simp; done) | (simp; omega)) _ | refine Below.setCell ?_ (by first | exact Nat.le_refl _ | omega | (simp; done) | (simp; omega)) _)); have hzws := hB1.size; have XD := Box3.below (by first | exact XD | exact XD.alloc _) hb1 (by first | exact XD.size | (have := XD.size; simp; omega)); have XD_0 := XD.c0; have XD_1 := XD.c1; have XD_2 := XD.c2; have XD_s := XD.size
      have XS := Box3.new ws (.int .i64 P) (.int .i64 T) (.bool O) 25
      go_wp2_with fail
      refine (HI.out _).mono ?_
      rintro e wi ⟨rfl, hb1⟩
      have hB1 : Below w.heap.size w wi := (by refine Below.trans ?_ (hb1.mono (by first | exact Nat.le_refl _ | omega | (simp; done) | (simp; omega))); repeat (first | exact Below.refl _ _ | assumption | refine Below.drew ?_ | refine belowDrewN ?_ _ | refine Below.alloc ?_ (by first | exact Nat.le_refl _ | omega | (simp; done) | (simp; omega)) _ | refine Below.setCell ?_ (by first | exact Nat.le_refl _ | omega | (simp; done) | (simp; omega)) _)); have hzwi := hB1.size; have XD := Box3.below (by first | exact XD | exact XD.alloc _) hb1 (by first | exact XD.size | (have := XD.size; simp; omega)); have XD_0 := XD.c0; have XD_1 := XD.c1; have XD_2 := XD.c2; have XD_s := XD.size; have XS := Box3.below (by first | exact XS | exact XS.alloc _) hb1 (by first | exact XS.size | (have := XS.size; simp; omega)); have XS_0 := XS.c0; have XS_1 := XS.c1; have XS_2 := XS.c2; have XS_s := XS.size
      go_wp2_with fail
      go_ret
      exact ⟨rfl, by repeat (first | exact Below.refl _ _ | assumption | refine Below.drew ?_ | refine belowDrewN ?_ _ | refine Below.alloc ?_ (by first | exact Nat.le_refl _ | omega | (simp; done) | (simp; omega)) _ | refine Below.setCell ?_ (by first | exact Nat.le_refl _ | omega | (simp; done) | (simp; omega)) _)⟩
    · have hn1 : t ≤ now := by simp [okNow] at hok; exact hok.1.2
      have hn2 : now ≤ 99 := by simp [okNow] at hok; exact hok.2
      have hb : okB p t o = true := by simp [okNow] at hok; exact hok.1.1
      obtain ⟨p0, p1, t0, t1, hon, hoff⟩ := okB_in hb
      obtain ⟨w1, w2⟩ := whiles_in hn1
      have hf := now_fine hok
      rw [nowP_yes hok, nowT_yes hok, nowO_yes hok] at hS hI hf
      rw [hok] at hS hI
      obtain ⟨q, rfl⟩ : ∃ q : Nat, p = (q : Int) := ⟨p.toNat, by omega⟩
      simp only [Int.toNat_natCast] at hS hI hf
      generalize whiles t now = N at hS hI hf w1 w2
      have hN : (now - t) / 8 = (N : Int) := by omega
      obtain ⟨x, hx⟩ : ∃ x, q / 2 ^ N = x := ⟨_, rfl⟩
      rw [show t + 8 * (N : Int) = t + (N : Int) * 8 by omega] at hS hI hf
      simp only [hx] at hS hI hf
      obtain ⟨O, hO⟩ : ∃ O, (o && decide (80 ≤ x)) = O := ⟨_, rfl⟩
      rw [hO] at hS hI hf
      have HX := Lib.hid hx
      have HO := Lib.hid hO
      have HS := Lib.hid hS
      have HI := Lib.hid hI
      have HF := Lib.hid hf
      clear hS hI hok hx hO hf hon hoff hb
      go_wp2_with fail
      refine (HS.out _).mono ?_
      rintro e ws ⟨rfl, hb1⟩
      have hB1 : Below w.heap.size w ws := (by refine Below.trans ?_ (hb1.mono (by first | exact Nat.le_refl _ | omega | (simp; done) | (simp; omega))); repeat (first | exact Below.refl _ _ | assumption | refine Below.drew ?_ | refine belowDrewN ?_ _ | refine Below.alloc ?_ (by first | exact Nat.le_refl _ | omega | (simp; done) | (simp; omega)) _ | refine Below.setCell ?_ (by first | exact Nat.le_refl _ | omega | (simp; done) | (simp; omega)) _)); have hzws := hB1.size; have XD := Box3.below (by first | exact XD | exact XD.alloc _) hb1 (by first | exact XD.size | (have := XD.size; simp; omega)); have XD_0 := XD.c0; have XD_1 := XD.c1; have XD_2 := XD.c2; have XD_s := XD.size
      have XS := Box3.new ws (.int .i64 x) (.int .i64 (t + (N : Int) * 8)) (.bool O) 25
      go_wp2_with fail
      refine (HI.out _).mono ?_
      rintro e wi ⟨rfl, hb1⟩
      have hB1 : Below w.heap.size w wi := (by refine Below.trans ?_ (hb1.mono (by first | exact Nat.le_refl _ | omega | (simp; done) | (simp; omega))); repeat (first | exact Below.refl _ _ | assumption | refine Below.drew ?_ | refine belowDrewN ?_ _ | refine Below.alloc ?_ (by first | exact Nat.le_refl _ | omega | (simp; done) | (simp; omega)) _ | refine Below.setCell ?_ (by first | exact Nat.le_refl _ | omega | (simp; done) | (simp; omega)) _)); have hzwi := hB1.size; have XD := Box3.below (by first | exact XD | exact XD.alloc _) hb1 (by first | exact XD.size | (have := XD.size; simp; omega)); have XD_0 := XD.c0; have XD_1 := XD.c1; have XD_2 := XD.c2; have XD_s := XD.size; have XS := Box3.below (by first | exact XS | exact XS.alloc _) hb1 (by first | exact XS.size | (have := XS.size; simp; omega)); have XS_0 := XS.c0; have XS_1 := XS.c1; have XS_2 := XS.c2; have XS_s := XS.size
      have XI := Box3.new wi (.int .i64 x) (.int .i64 (t + (N : Int) * 8)) (.bool O) 25
      have hN0 : (N : Int) ≤ 99 := by omega
      go_wp2_with fail
      go_loopg [10, 11] N (fun g pain i wr => ∃ k : Nat, i = .int .i64 k ∧ k + g = N ∧ pain = .int .i64 (q / 2 ^ k : Nat) ∧ wr = wi.alloc (.cells #[.int .i64 x, .int .i64 (t + (N : Int) * 8), .bool O] 25))
      case atStart => exact ⟨0, rfl, by omega, by simp, rfl⟩
      case round =>
        obtain ⟨k, rfl, hk, rfl, rfl⟩ := hrel
        obtain ⟨y, hy⟩ : ∃ y, q / 2 ^ k = y := ⟨_, rfl⟩
        have hyq : y ≤ q := by rw [← hy]; exact Nat.div_le_self _ _
        rw [hy]
        have HY := Lib.hid hy
        have HK := Lib.hid hk
        clear hy hk
        by_cases hg : gk = 0
        · subst hg
          have hk2 := HK.out
          obtain rfl : k = N := by omega
          obtain rfl : y = x := by rw [← HY.out]; exact HX.out
          clear hk2
          have hc := fun w => implOk_any (y : Int) (t + (k : Int) * 8) O w
          rw [HF.out] at hc
          have HC := Lib.hid hc
          have hO := HO.out
          clear hc
          cases o
          · simp at hO
            subst hO
            go_wp2_with (go_at_call 21; refine (HC.out _).mono ?_; rintro e w1 ⟨rfl, hb1⟩; have hB1 : Below w.heap.size w w1 := (by refine Below.trans ?_ (hb1.mono (by first | exact Nat.le_refl _ | omega | (simp; done) | (simp; omega))); repeat (first | exact Below.refl _ _ | assumption | refine Below.drew ?_ | refine belowDrewN ?_ _ | refine Below.alloc ?_ (by first | exact Nat.le_refl _ | omega | (simp; done) | (simp; omega)) _ | refine Below.setCell ?_ (by first | exact Nat.le_refl _ | omega | (simp; done) | (simp; omega)) _)); have hzw1 := hB1.size; have XD := Box3.below (by first | exact XD | exact XD.alloc _) hb1 (by first | exact XD.size | (have := XD.size; simp; omega)); have XD_0 := XD.c0; have XD_1 := XD.c1; have XD_2 := XD.c2; have XD_s := XD.size; have XS := Box3.below (by first | exact XS | exact XS.alloc _) hb1 (by first | exact XS.size | (have := XS.size; simp; omega)); have XS_0 := XS.c0; have XS_1 := XS.c1; have XS_2 := XS.c2; have XS_s := XS.size; have XI := Box3.below (by first | exact XI | exact XI.alloc _) hb1 (by first | exact XI.size | (have := XI.size; simp; omega)); have XI_0 := XI.c0; have XI_1 := XI.c1; have XI_2 := XI.c2; have XI_s := XI.size)
            go_ret
            exact ⟨rfl, by repeat (first | exact Below.refl _ _ | assumption | refine Below.drew ?_ | refine belowDrewN ?_ _ | refine Below.alloc ?_ (by first | exact Nat.le_refl _ | omega | (simp; done) | (simp; omega)) _ | refine Below.setCell ?_ (by first | exact Nat.le_refl _ | omega | (simp; done) | (simp; omega)) _)⟩
          · by_cases h8 : 80 ≤ y
            · simp [h8] at hO
              subst hO
              go_wp2_with (go_at_call 21; refine (HC.out _).mono ?_; rintro e w1 ⟨rfl, hb1⟩; have hB1 : Below w.heap.size w w1 := (by refine Below.trans ?_ (hb1.mono (by first | exact Nat.le_refl _ | omega | (simp; done) | (simp; omega))); repeat (first | exact Below.refl _ _ | assumption | refine Below.drew ?_ | refine belowDrewN ?_ _ | refine Below.alloc ?_ (by first | exact Nat.le_refl _ | omega | (simp; done) | (simp; omega)) _ | refine Below.setCell ?_ (by first | exact Nat.le_refl _ | omega | (simp; done) | (simp; omega)) _)); have hzw1 := hB1.size; have XD := Box3.below (by first | exact XD | exact XD.alloc _) hb1 (by first | exact XD.size | (have := XD.size; simp; omega)); have XD_0 := XD.c0; have XD_1 := XD.c1; have XD_2 := XD.c2; have XD_s := XD.size; have XS := Box3.below (by first | exact XS | exact XS.alloc _) hb1 (by first | exact XS.size | (have := XS.size; simp; omega)); have XS_0 := XS.c0; have XS_1 := XS.c1; have XS_2 := XS.c2; have XS_s := XS.size; have XI := Box3.below (by first | exact XI | exact XI.alloc _) hb1 (by first | exact XI.size | (have := XI.size; simp; omega)); have XI_0 := XI.c0; have XI_1 := XI.c1; have XI_2 := XI.c2; have XI_s := XI.size)
              go_ret
              exact ⟨rfl, by repeat (first | exact Below.refl _ _ | assumption | refine Below.drew ?_ | refine belowDrewN ?_ _ | refine Below.alloc ?_ (by first | exact Nat.le_refl _ | omega | (simp; done) | (simp; omega)) _ | refine Below.setCell ?_ (by first | exact Nat.le_refl _ | omega | (simp; done) | (simp; omega)) _)⟩
            · simp [h8] at hO
              subst hO
              have h9 : decide ((80 : Int) ≤ (y : Int)) = false := by simp; omega
              go_wp2_with (go_at_call 21; refine (HC.out _).mono ?_; rintro e w1 ⟨rfl, hb1⟩; have hB1 : Below w.heap.size w w1 := (by refine Below.trans ?_ (hb1.mono (by first | exact Nat.le_refl _ | omega | (simp; done) | (simp; omega))); repeat (first | exact Below.refl _ _ | assumption | refine Below.drew ?_ | refine belowDrewN ?_ _ | refine Below.alloc ?_ (by first | exact Nat.le_refl _ | omega | (simp; done) | (simp; omega)) _ | refine Below.setCell ?_ (by first | exact Nat.le_refl _ | omega | (simp; done) | (simp; omega)) _)); have hzw1 := hB1.size; have XD := Box3.below (by first | exact XD | exact XD.alloc _) hb1 (by first | exact XD.size | (have := XD.size; simp; omega)); have XD_0 := XD.c0; have XD_1 := XD.c1; have XD_2 := XD.c2; have XD_s := XD.size; have XS := Box3.below (by first | exact XS | exact XS.alloc _) hb1 (by first | exact XS.size | (have := XS.size; simp; omega)); have XS_0 := XS.c0; have XS_1 := XS.c1; have XS_2 := XS.c2; have XS_s := XS.size; have XI := Box3.below (by first | exact XI | exact XI.alloc _) hb1 (by first | exact XI.size | (have := XI.size; simp; omega)); have XI_0 := XI.c0; have XI_1 := XI.c1; have XI_2 := XI.c2; have XI_s := XI.size)
              go_ret
              exact ⟨rfl, by repeat (first | exact Below.refl _ _ | assumption | refine Below.drew ?_ | refine belowDrewN ?_ _ | refine Below.alloc ?_ (by first | exact Nat.le_refl _ | omega | (simp; done) | (simp; omega)) _ | refine Below.setCell ?_ (by first | exact Nat.le_refl _ | omega | (simp; done) | (simp; omega)) _)⟩
        · have hkN : k < N := by have := HK.out; omega
          go_wp2_with fail
          go_roundg (gk - 1)
          case measure => omega
          case rel =>
            refine ⟨k + 1, by go_num, by have := HK.out; omega, ?_, rfl⟩
            rw [Nat.pow_succ, ← Nat.div_div_eq_div_mul, HY.out]
            simp
end Go.Proofs.Ytbjonkjigfnnnaa
