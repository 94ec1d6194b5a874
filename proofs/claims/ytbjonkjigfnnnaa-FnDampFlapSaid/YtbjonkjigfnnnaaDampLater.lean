/- The walk of FnDampLater. -/
import Derived.Test.YtbjonkjigfnnnaaDampDrawNow
namespace Go.Proofs.Ytbjonkjigfnnnaa
open Go.RowKit
set_option linter.unusedVariables false

theorem now_fine {p t : Int} {o : Bool} {now : Int} (h : okNow p t o now = true) : okB (nowP p t o now) (nowT p t o now) (nowO p t o now) = true := by
  have h1 : t ≤ now := by simp [okNow] at h; exact h.1.2
  have h2 : now ≤ 99 := by simp [okNow] at h; exact h.2
  have hb : okB p t o = true := by simp [okNow] at h; exact h.1.1
  obtain ⟨p0, p1, t0, t1, hon, hoff⟩ := okB_in hb
  obtain ⟨w1, w2⟩ := whiles_in h1
  have hle := Nat.div_le_self p.toNat (2 ^ whiles t now)
  rw [nowP_yes h, nowT_yes h, nowO_yes h]
  generalize p.toNat / 2 ^ whiles t now = x at *
  generalize whiles t now = n at *
  unfold okB
  cases o
  · have := hoff rfl; simp; omega
  · by_cases h8 : 80 ≤ x
    · simp [h8]; omega
    · simp [h8]; omega

theorem later_same {p t : Int} {o : Bool} {now later : Int} (h : okNow p t o now = true) (h1 : now ≤ later) (h2 : later ≤ 99) :
    okNow (nowP p t o now) (nowT p t o now) (nowO p t o now) later = true ∧ okNow p t o later = true ∧
    nowP (nowP p t o now) (nowT p t o now) (nowO p t o now) later = nowP p t o later ∧ nowT (nowP p t o now) (nowT p t o now) (nowO p t o now) later = nowT p t o later ∧
    nowO (nowP p t o now) (nowT p t o now) (nowO p t o now) later = nowO p t o later ∧ nowP p t o later ≤ nowP p t o now := by
  have hn1 : t ≤ now := by simp [okNow] at h; exact h.1.2
  have hb : okB p t o = true := by simp [okNow] at h; exact h.1.1
  obtain ⟨p0, p1, t0, t1, hon, hoff⟩ := okB_in hb
  have hf := now_fine h
  obtain ⟨w1, w2⟩ := whiles_in hn1
  have hk : okNow p t o later = true := by unfold okNow; rw [hb]; simp; omega
  have hk2 : okNow (nowP p t o now) (nowT p t o now) (nowO p t o now) later = true := by
    unfold okNow; rw [hf, nowT_yes h]; simp; omega
  obtain ⟨v1, v2⟩ := whiles_in (t := nowT p t o now) (now := later) (by rw [nowT_yes h]; omega)
  obtain ⟨u1, u2⟩ := whiles_in (t := t) (now := later) (by omega)
  rw [nowT_yes h] at v1 v2
  have hw : whiles (t + 8 * (whiles t now : Int)) later + whiles t now = whiles t later := by omega
  have hdiv : p.toNat / 2 ^ whiles t now / 2 ^ whiles (t + 8 * (whiles t now : Int)) later = p.toNat / 2 ^ whiles t later := by
    rw [Nat.div_div_eq_div_mul, ← Nat.pow_add, Nat.add_comm, hw]
  have hle : p.toNat / 2 ^ whiles t later ≤ p.toNat / 2 ^ whiles t now := by rw [← hdiv]; exact Nat.div_le_self _ _
  refine ⟨hk2, hk, ?_, ?_, ?_, ?_⟩
  · rw [nowP_yes hk2, nowP_yes hk, nowP_yes h, nowT_yes h, Int.toNat_natCast, hdiv]
  · rw [nowT_yes hk2, nowT_yes hk, nowT_yes h]; omega
  · rw [nowO_yes hk2, nowO_yes hk, nowO_yes h, nowP_yes h, nowT_yes h, Int.toNat_natCast, hdiv]
    cases o
    · simp
    · by_cases h8 : 80 ≤ p.toNat / 2 ^ whiles t later
      · have : 80 ≤ p.toNat / 2 ^ whiles t now := by omega
        simp [h8, this]
      · simp [h8]
  · rw [nowP_yes hk, nowP_yes h]; omega

set_option maxHeartbeats 2000000 in
theorem later_walk (a : Option Addr) (len cap : Nat) (zs : List Int) (a2 : Option Addr) (len2 cap2 : Nat) (zs2 : List Int) (w : World) (h : IsRow .u8 w a len cap zs) (_h2 : IsRow .u8 w a2 len2 cap2 zs2) :
    Calls Try.prog 10 #[.slice a len cap, .slice a2 len2 cap2] w fun e w' => e = .returned (.bool true) ∧ Below w.heap.size w w' := by
  have H := Lib.hid h
  clear h _h2
  by_cases hl : 1048576 < len
  · go_enter Try.func10, Try.ntmps10
    go_wp2
    go_ret
    exact ⟨rfl, Below.refl _ _⟩
  · by_cases hl2 : 1048576 < len2
    · go_enter Try.func10, Try.ntmps10
      go_wp2
      go_ret
      exact ⟨rfl, Below.refl _ _⟩
    · go_enter Try.func10, Try.ntmps10
      go_wp2_with fail
      refine (drawNow_any _ _ _ zs _ H.out).mono ?_
      rintro e wd ⟨p, t, o, now, rfl, hB1⟩
      have hzd := hB1.size
      have hS := fun w => specNow_any p t o now w
      have hI := fun w => implNow_any p t o now w
      have hls := fun h later => later_same (p := p) (t := t) (o := o) (now := now) (later := later) h
      have hbnd : okNow p t o now = true → 0 ≤ now ∧ now ≤ 99 := by
        intro hk
        have h1 : t ≤ now := by simp [okNow] at hk; exact hk.1.2
        have h2 : now ≤ 99 := by simp [okNow] at hk; exact hk.2
        have hb : okB p t o = true := by simp [okNow] at hk; exact hk.1.1
        obtain ⟨_, _, t0, _⟩ := okB_in hb
        omega
      generalize nowP p t o now = P at hS hI hls
      generalize nowT p t o now = T at hS hI hls
      generalize nowO p t o now = O at hS hI hls
      cases hok : okNow p t o now
      · rw [hok] at hS hI
        have HS := Lib.hid hS
        have HI := Lib.hid hI
        clear hS hI hls hbnd hok
        have XD := Box3.new wd (.int .i64 p) (.int .i64 t) (.bool o) 25
        go_wp2_with fail
        refine (HS.out _).mono ?_
        rintro e ws ⟨rfl, hb1⟩
        have hB1 : Below w.heap.size w ws := (by refine Below.trans ?_ (hb1.mono (by first | exact Nat.le_refl _ | omega | (simp; done) | (simp; omega))); repeat (first | exact Below.refl _ _ | assumption | refine Below.drew ?_ | refine belowDrewN ?_ _ | refine Below.alloc ?_ (by first | exact Nat.le_refl _ | omega | (simp; done) | (simp; omega)) _ | refine Below.setCell ?_ (by first | exact Nat.le_refl _ | omega | (simp; done) | (simp; omega)) _)); have hzws := hB1.size; have XD := Box3.below (by first | exact XD | exact XD.alloc _) hb1 (by first | exact XD.size | (have := XD.size; simp; omega)); have XD_0 := XD.c0; have XD_1 := XD.c1; have XD_2 := XD.c2; have XD_s := XD.size
        have XS := Box3.new ws (.int .i64 P) (.int .i64 T) (.bool O) 25
        go_wp2_with fail
        refine (HI.out _).mono ?_
        rintro e wi ⟨rfl, hb1⟩
        have hB1 : Below w.heap.size w wi := (by refine Below.trans ?_ (hb1.mono (by first | exact Nat.le_refl _ | omega | (simp; done) | (simp; omega))); repeat (first | exact Below.refl _ _ | assumption | refine Below.drew ?_ | refine belowDrewN ?_ _ | refine Below.alloc ?_ (by first | exact Nat.le_refl _ | omega | (simp; done) | (simp; omega)) _ | refine Below.setCell ?_ (by first | exact Nat.le_refl _ | omega | (simp; done) | (simp; omega)) _)); have hzwi := hB1.size; have XD := Box3.below (by first | exact XD | exact XD.alloc _) hb1 (by first | exact XD.size | (have := XD.size; simp; omega)); have XD_0 := XD.c0; have XD_1 := XD.c1; have XD_2 := XD.c2; have XD_s := XD.size; have XS := Box3.below (by first | exact XS | exact XS.alloc _) hb1 (by first | exact XS.size | (have := XS.size; simp; omega)); have XS_0 := XS.c0; have XS_1 := XS.c1; have XS_2 := XS.c2; have XS_s := XS.size
        go_wp2_with fail
        go_ret
        exact ⟨rfl, by repeat (first | exact Below.refl _ _ | assumption | refine Below.drew ?_ | refine belowDrewN ?_ _ | refine Below.alloc ?_ (by first | exact Nat.le_refl _ | omega | (simp; done) | (simp; omega)) _ | refine Below.setCell ?_ (by first | exact Nat.le_refl _ | omega | (simp; done) | (simp; omega)) _)⟩
      · obtain ⟨n0, n1⟩ := hbnd hok
        have hm0 := Int.emod_nonneg (len2 : Int) (show 99 - now + 1 ≠ 0 by omega)
        have hm1 := Int.emod_lt_of_pos (len2 : Int) (show 0 < 99 - now + 1 by omega)
        obtain ⟨c1, c2, c3, c4, c5, c6⟩ := hls hok (now + (len2 : Int) % (99 - now + 1)) (by omega) (by omega)
        have hY := fun w => implNow_any P T O (now + (len2 : Int) % (99 - now + 1)) w
        have hZ := fun w => implNow_any p t o (now + (len2 : Int) % (99 - now + 1)) w
        rw [c1, c3, c4, c5] at hY
        rw [c2] at hZ
        rw [hok] at hS hI
        generalize nowP p t o (now + (len2 : Int) % (99 - now + 1)) = P2 at hY hZ c6
        generalize nowT p t o (now + (len2 : Int) % (99 - now + 1)) = T2 at hY hZ
        generalize nowO p t o (now + (len2 : Int) % (99 - now + 1)) = O2 at hY hZ
        have HS := Lib.hid hS
        have HI := Lib.hid hI
        have HY := Lib.hid hY
        have HZ := Lib.hid hZ
        clear hS hI hls hbnd hok hY hZ c1 c2 c3 c4 c5
        have XD := Box3.new wd (.int .i64 p) (.int .i64 t) (.bool o) 25
        go_wp2_with fail
        refine (HS.out _).mono ?_
        rintro e ws ⟨rfl, hb1⟩
        have hB1 : Below w.heap.size w ws := (by refine Below.trans ?_ (hb1.mono (by first | exact Nat.le_refl _ | omega | (simp; done) | (simp; omega))); repeat (first | exact Below.refl _ _ | assumption | refine Below.drew ?_ | refine belowDrewN ?_ _ | refine Below.alloc ?_ (by first | exact Nat.le_refl _ | omega | (simp; done) | (simp; omega)) _ | refine Below.setCell ?_ (by first | exact Nat.le_refl _ | omega | (simp; done) | (simp; omega)) _)); have hzws := hB1.size; have XD := Box3.below (by first | exact XD | exact XD.alloc _) hb1 (by first | exact XD.size | (have := XD.size; simp; omega)); have XD_0 := XD.c0; have XD_1 := XD.c1; have XD_2 := XD.c2; have XD_s := XD.size
        have XS := Box3.new ws (.int .i64 P) (.int .i64 T) (.bool O) 25
        go_wp2_with fail
        refine (HI.out _).mono ?_
        rintro e wi ⟨rfl, hb1⟩
        have hB1 : Below w.heap.size w wi := (by refine Below.trans ?_ (hb1.mono (by first | exact Nat.le_refl _ | omega | (simp; done) | (simp; omega))); repeat (first | exact Below.refl _ _ | assumption | refine Below.drew ?_ | refine belowDrewN ?_ _ | refine Below.alloc ?_ (by first | exact Nat.le_refl _ | omega | (simp; done) | (simp; omega)) _ | refine Below.setCell ?_ (by first | exact Nat.le_refl _ | omega | (simp; done) | (simp; omega)) _)); have hzwi := hB1.size; have XD := Box3.below (by first | exact XD | exact XD.alloc _) hb1 (by first | exact XD.size | (have := XD.size; simp; omega)); have XD_0 := XD.c0; have XD_1 := XD.c1; have XD_2 := XD.c2; have XD_s := XD.size; have XS := Box3.below (by first | exact XS | exact XS.alloc _) hb1 (by first | exact XS.size | (have := XS.size; simp; omega)); have XS_0 := XS.c0; have XS_1 := XS.c1; have XS_2 := XS.c2; have XS_s := XS.size
        have XI := Box3.new wi (.int .i64 P) (.int .i64 T) (.bool O) 25
        go_wp2_with fail
        refine (HY.out _).mono ?_
        rintro e wy ⟨rfl, hb1⟩
        have hB1 : Below w.heap.size w wy := (by refine Below.trans ?_ (hb1.mono (by first | exact Nat.le_refl _ | omega | (simp; done) | (simp; omega))); repeat (first | exact Below.refl _ _ | assumption | refine Below.drew ?_ | refine belowDrewN ?_ _ | refine Below.alloc ?_ (by first | exact Nat.le_refl _ | omega | (simp; done) | (simp; omega)) _ | refine Below.setCell ?_ (by first | exact Nat.le_refl _ | omega | (simp; done) | (simp; omega)) _)); have hzwy := hB1.size; have XD := Box3.below (by first | exact XD | exact XD.alloc _) hb1 (by first | exact XD.size | (have := XD.size; simp; omega)); have XD_0 := XD.c0; have XD_1 := XD.c1; have XD_2 := XD.c2; have XD_s := XD.size; have XS := Box3.below (by first | exact XS | exact XS.alloc _) hb1 (by first | exact XS.size | (have := XS.size; simp; omega)); have XS_0 := XS.c0; have XS_1 := XS.c1; have XS_2 := XS.c2; have XS_s := XS.size; have XI := Box3.below (by first | exact XI | exact XI.alloc _) hb1 (by first | exact XI.size | (have := XI.size; simp; omega)); have XI_0 := XI.c0; have XI_1 := XI.c1; have XI_2 := XI.c2; have XI_s := XI.size
        have XY := Box3.new wy (.int .i64 P2) (.int .i64 T2) (.bool O2) 25
        go_wp2_with fail
        refine (HZ.out _).mono ?_
        rintro e wz ⟨rfl, hb1⟩
        have hB1 : Below w.heap.size w wz := (by refine Below.trans ?_ (hb1.mono (by first | exact Nat.le_refl _ | omega | (simp; done) | (simp; omega))); repeat (first | exact Below.refl _ _ | assumption | refine Below.drew ?_ | refine belowDrewN ?_ _ | refine Below.alloc ?_ (by first | exact Nat.le_refl _ | omega | (simp; done) | (simp; omega)) _ | refine Below.setCell ?_ (by first | exact Nat.le_refl _ | omega | (simp; done) | (simp; omega)) _)); have hzwz := hB1.size; have XD := Box3.below (by first | exact XD | exact XD.alloc _) hb1 (by first | exact XD.size | (have := XD.size; simp; omega)); have XD_0 := XD.c0; have XD_1 := XD.c1; have XD_2 := XD.c2; have XD_s := XD.size; have XS := Box3.below (by first | exact XS | exact XS.alloc _) hb1 (by first | exact XS.size | (have := XS.size; simp; omega)); have XS_0 := XS.c0; have XS_1 := XS.c1; have XS_2 := XS.c2; have XS_s := XS.size; have XI := Box3.below (by first | exact XI | exact XI.alloc _) hb1 (by first | exact XI.size | (have := XI.size; simp; omega)); have XI_0 := XI.c0; have XI_1 := XI.c1; have XI_2 := XI.c2; have XI_s := XI.size; have XY := Box3.below (by first | exact XY | exact XY.alloc _) hb1 (by first | exact XY.size | (have := XY.size; simp; omega)); have XY_0 := XY.c0; have XY_1 := XY.c1; have XY_2 := XY.c2; have XY_s := XY.size
        go_wp2_with fail
        go_ret
        refine ⟨ret_bool ?_, by repeat (first | exact Below.refl _ _ | assumption | refine Below.drew ?_ | refine belowDrewN ?_ _ | refine Below.alloc ?_ (by first | exact Nat.le_refl _ | omega | (simp; done) | (simp; omega)) _ | refine Below.setCell ?_ (by first | exact Nat.le_refl _ | omega | (simp; done) | (simp; omega)) _)⟩
        simp <;> omega
end Go.Proofs.Ytbjonkjigfnnnaa
