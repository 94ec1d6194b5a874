/- Contracts of DampFlap, the program's and the reference's. -/
import Derived.Test.YtbjonkjigfnnnaaDampNowSpec
namespace Go.Proofs.Ytbjonkjigfnnnaa
open Go.RowKit Go.MuLone
set_option linter.unusedVariables false

def more (q : Int) : Int := min (q + 100) 9999
def flapP (p t : Int) (o : Bool) (now : Int) : Int := if okNow p t o now then more (nowP p t o now) else 0
def flapO (p t : Int) (o : Bool) (now : Int) : Bool := okNow p t o now && (nowO p t o now || decide (250 ≤ more (nowP p t o now)))
theorem flapP_no {p t : Int} {o : Bool} {now : Int} (h : okNow p t o now = false) : flapP p t o now = 0 := by simp [flapP, h]
theorem flapO_no {p t : Int} {o : Bool} {now : Int} (h : okNow p t o now = false) : flapO p t o now = false := by simp [flapO, h]
theorem flapP_yes {p t : Int} {o : Bool} {now : Int} (h : okNow p t o now = true) : flapP p t o now = more (nowP p t o now) := by simp [flapP, h]
theorem flapO_yes {p t : Int} {o : Bool} {now : Int} (h : okNow p t o now = true) : flapO p t o now = (nowO p t o now || decide (250 ≤ more (nowP p t o now))) := by simp [flapO, h]
theorem nowP_in {p t : Int} {o : Bool} {now : Int} (h : okNow p t o now = true) : 0 ≤ nowP p t o now ∧ nowP p t o now ≤ 9999 := by
  have hb : okB p t o = true := by simp [okNow] at h; exact h.1.1
  obtain ⟨p0, p1, t0, t1, hon, hoff⟩ := okB_in hb
  rw [nowP_yes h]
  have := Nat.div_le_self p.toNat (2 ^ whiles t now)
  generalize p.toNat / 2 ^ whiles t now = x at *
  omega

set_option maxHeartbeats 1000000 in
theorem implFlap_no (p t : Int) (o : Bool) (now : Int) (w : World) (h : okNow p t o now = false) :
    Calls Try.prog 30 #[.agg #[.int .i64 p, .int .i64 t, .bool o], .int .i64 now] w (NowPost 0 0 false false w) := by
  have hi := fun w => implNow_any p t o now w
  rw [nowP_no h, nowT_no h, nowO_no h, h] at hi
  have HI := Lib.hid hi
  clear hi
  go_enter Try.func30, Try.ntmps30
  go_wp2_with fail
  refine (HI.out _).mono ?_
  rintro e w1 ⟨rfl, hb1⟩
  have BX := (Box3.new (w.alloc (.cells #[.int .i64 p, .int .i64 t, .bool o] 25)) (.int .i64 0) (.int .i64 0) (.bool false) 25).below hb1 (by simp)
  simp only [World.size_alloc] at BX
  have hB1 : Below w.heap.size w w1 := (by refine Below.trans ?_ (hb1.mono (by first | exact Nat.le_refl _ | omega | (simp; done) | (simp; omega))); repeat (first | exact Below.refl _ _ | assumption | refine Below.drew ?_ | refine belowDrewN ?_ _ | refine Below.alloc ?_ (by first | exact Nat.le_refl _ | omega | (simp; done) | (simp; omega)) _ | refine Below.setCell ?_ (by first | exact Nat.le_refl _ | omega | (simp; done) | (simp; omega)) _)); obtain ⟨hc1, hf1⟩ := bcell hb1; have hz1 : w.heap.size + 1 < w1.heap.size := (by have := hb1.size; (try simp at this); omega)
  go_wp2_with fail
  have Z := (BX.stores (.int .i64 0) (.int .i64 0) (.bool false)).alloc (.cells #[.int .i64 0, .int .i64 0, .bool false] 25)
  have z0 := Z.c0
  have z1 := Z.c1
  have z2 := Z.c2
  refine bodyPost_ret (v := .tuple #[.agg #[.int .i64 (0), .int .i64 (0), .bool (false)], .bool false]) (by simp [results, Try.results30, go_sem, z0, z1, z2]) rfl ?_
  exact ⟨rfl, by repeat (first | exact Below.refl _ _ | assumption | refine Below.drew ?_ | refine belowDrewN ?_ _ | refine Below.alloc ?_ (by first | exact Nat.le_refl _ | omega | (simp; done) | (simp; omega)) _ | refine Below.setCell ?_ (by first | exact Nat.le_refl _ | omega | (simp; done) | (simp; omega)) _)⟩

set_option maxHeartbeats 1000000 in
theorem implFlap_yes (p t : Int) (o : Bool) (now : Int) (w : World) (h : okNow p t o now = true) :
    Calls Try.prog 30 #[.agg #[.int .i64 p, .int .i64 t, .bool o], .int .i64 now] w (NowPost (more (nowP p t o now)) (nowT p t o now) (nowO p t o now || decide (250 ≤ more (nowP p t o now))) true w) := by
  have hi := fun w => implNow_any p t o now w
  obtain ⟨P0, P1⟩ := nowP_in h
  rw [h] at hi
  generalize nowP p t o now = P at *
  generalize nowT p t o now = T at *
  generalize nowO p t o now = O at *
  have HI := Lib.hid hi
  clear hi h
  obtain ⟨M, hM⟩ : ∃ M, more P = M := ⟨_, rfl⟩
  simp only [hM]
  have HM := Lib.hid hM
  clear hM
  go_enter Try.func30, Try.ntmps30
  go_wp2_with fail
  refine (HI.out _).mono ?_
  rintro e w1 ⟨rfl, hb1⟩
  have BX := (Box3.new (w.alloc (.cells #[.int .i64 p, .int .i64 t, .bool o] 25)) (.int .i64 0) (.int .i64 0) (.bool false) 25).below hb1 (by simp)
  simp only [World.size_alloc] at BX
  have hB1 : Below w.heap.size w w1 := (by refine Below.trans ?_ (hb1.mono (by first | exact Nat.le_refl _ | omega | (simp; done) | (simp; omega))); repeat (first | exact Below.refl _ _ | assumption | refine Below.drew ?_ | refine belowDrewN ?_ _ | refine Below.alloc ?_ (by first | exact Nat.le_refl _ | omega | (simp; done) | (simp; omega)) _ | refine Below.setCell ?_ (by first | exact Nat.le_refl _ | omega | (simp; done) | (simp; omega)) _)); obtain ⟨hc1, hf1⟩ := bcell hb1; have hz1 : w.heap.size + 1 < w1.heap.size := (by have := hb1.size; (try simp at this); omega)
  have BX1 := BX.alloc (.cells #[.int .i64 P, .int .i64 T, .bool O] 25)
  go_wp2_with fail
  refine (penaltyOf_any _ _ _ _).mono ?_
  rintro e w2 ⟨rfl, hp, hb2, hs2⟩
  simp only [World.size_alloc] at hs2 hp
  have hB2 : Below w.heap.size w w2 := Below.trans ((hB1.alloc (by omega) _)) (hb2.mono (by simp; omega))
  have BX2 := BX1.below hb2 (by simp; omega)
  have HP := Lib.hid hp
  clear hp hc1 hf1
  go_wp2_with fail
  have hh := flap_any (w1.heap.size + 1 + 1) P T O w2 HP.out P0 P1
  rw [show min (P + 100) 9999 = M from HM.out] at hh
  refine hh.mono ?_
  clear hh
  rintro e w3 ⟨rfl, hp3, hO3, hs3⟩
  have hB3 : Below w.heap.size w w3 := Below.trans hB2 (hO3.below (by omega) (by omega))
  have BX3 := BX2.only hO3 (by omega) (by omega)
  have HP3 := Lib.hid hp3
  clear hp3
  go_wp2_with fail
  refine (tell_any _ _ _ _ _ HP3.out (by omega)).mono ?_
  rintro e w4 ⟨rfl, hO4⟩
  have hB4 : Below w.heap.size w w4 := Below.trans hB3 (hO4.below (by omega) (by omega))
  have BX4 := BX3.only hO4 (by omega) (by omega)
  have r0 := BX4.c0
  have r1 := BX4.c1
  have r2 := BX4.c2
  have g0 := BX4.f0
  have g1 := BX4.f1
  have g2 := BX4.f2
  go_wp2_with fail
  have Z := (BX4).stores (.int .i64 (M)) (.int .i64 (T)) (.bool (O || decide (250 ≤ M)))
  have z0 := Z.c0
  have z1 := Z.c1
  have z2 := Z.c2
  refine bodyPost_ret (v := .tuple #[.agg #[.int .i64 (M), .int .i64 (T), .bool (O || decide (250 ≤ M))], .bool true]) (by simp [results, Try.results30, go_sem, z0, z1, z2]) rfl ?_
  exact ⟨rfl, by repeat (first | exact Below.refl _ _ | assumption | refine Below.drew ?_ | refine belowDrewN ?_ _ | refine Below.alloc ?_ (by first | exact Nat.le_refl _ | omega | (simp; done) | (simp; omega)) _ | refine Below.setCell ?_ (by first | exact Nat.le_refl _ | omega | (simp; done) | (simp; omega)) _)⟩

set_option maxHeartbeats 1000000 in
theorem specFlap_no (p t : Int) (o : Bool) (now : Int) (w : World) (h : okNow p t o now = false) :
    Calls Try.prog 29 #[.agg #[.int .i64 p, .int .i64 t, .bool o], .int .i64 now] w (NowPost 0 0 false false w) := by
  have key : ∀ b : Bool, okB p t o = b → (b = true → now < t ∨ 99 < now) →
      Calls Try.prog 29 #[.agg #[.int .i64 p, .int .i64 t, .bool o], .int .i64 now] w (NowPost 0 0 false false w) := by
    intro b hb hor
    cases b
    · clear hor
      go_enter Try.func29, Try.ntmps29
      go_wp2_with (go_at_call 19; refine (specOk_any _ _ _ _).mono ?_; rintro e w1 ⟨rfl, hb1⟩; have BX := (Box3.new (w.alloc (.cells #[.int .i64 p, .int .i64 t, .bool o] 25)) (.int .i64 0) (.int .i64 0) (.bool false) 25).below hb1 (by simp); simp only [World.size_alloc] at BX; have hB1 : Below w.heap.size w w1 := (by refine Below.trans ?_ (hb1.mono (by first | exact Nat.le_refl _ | omega | (simp; done) | (simp; omega))); repeat (first | exact Below.refl _ _ | assumption | refine Below.drew ?_ | refine belowDrewN ?_ _ | refine Below.alloc ?_ (by first | exact Nat.le_refl _ | omega | (simp; done) | (simp; omega)) _ | refine Below.setCell ?_ (by first | exact Nat.le_refl _ | omega | (simp; done) | (simp; omega)) _)); obtain ⟨hc1, hf1⟩ := bcell hb1; have hz1 : w.heap.size + 1 < w1.heap.size := (by have := hb1.size; (try simp at this); omega))
      have Z := (BX).stores (.int .i64 (0)) (.int .i64 (0)) (.bool (false))
      have z0 := Z.c0
      have z1 := Z.c1
      have z2 := Z.c2
      refine bodyPost_ret (v := .tuple #[.agg #[.int .i64 (0), .int .i64 (0), .bool (false)], .bool false]) (by simp [results, Try.results29, go_sem, z0, z1, z2]) rfl ?_
      exact ⟨rfl, by repeat (first | exact Below.refl _ _ | assumption | refine Below.drew ?_ | refine belowDrewN ?_ _ | refine Below.alloc ?_ (by first | exact Nat.le_refl _ | omega | (simp; done) | (simp; omega)) _ | refine Below.setCell ?_ (by first | exact Nat.le_refl _ | omega | (simp; done) | (simp; omega)) _)⟩
    · have hor' : (decide (t ≤ now) && decide (now ≤ 99)) = false := by have := hor rfl; simp; omega
      clear hor
      go_enter Try.func29, Try.ntmps29
      go_wp2_with (first | (go_at_call 19; refine (specOk_any _ _ _ _).mono ?_; rintro e w1 ⟨rfl, hb1⟩; have BX := (Box3.new (w.alloc (.cells #[.int .i64 p, .int .i64 t, .bool o] 25)) (.int .i64 0) (.int .i64 0) (.bool false) 25).below hb1 (by simp); simp only [World.size_alloc] at BX; have hB1 : Below w.heap.size w w1 := (by refine Below.trans ?_ (hb1.mono (by first | exact Nat.le_refl _ | omega | (simp; done) | (simp; omega))); repeat (first | exact Below.refl _ _ | assumption | refine Below.drew ?_ | refine belowDrewN ?_ _ | refine Below.alloc ?_ (by first | exact Nat.le_refl _ | omega | (simp; done) | (simp; omega)) _ | refine Below.setCell ?_ (by first | exact Nat.le_refl _ | omega | (simp; done) | (simp; omega)) _)); obtain ⟨hc1, hf1⟩ := bcell hb1; have hz1 : w.heap.size + 1 < w1.heap.size := (by have := hb1.size; (try simp at this); omega)) | (go_at_call 38; refine (l6In_any _ _ _ _).mono ?_; rintro e w' ⟨rfl, rfl⟩))
      all_goals
        have Z := (BX).stores (.int .i64 (0)) (.int .i64 (0)) (.bool (false))
        have z0 := Z.c0
        have z1 := Z.c1
        have z2 := Z.c2
        refine bodyPost_ret (v := .tuple #[.agg #[.int .i64 (0), .int .i64 (0), .bool (false)], .bool false]) (by simp [results, Try.results29, go_sem, z0, z1, z2]) rfl ?_
        exact ⟨rfl, by repeat (first | exact Below.refl _ _ | assumption | refine Below.drew ?_ | refine belowDrewN ?_ _ | refine Below.alloc ?_ (by first | exact Nat.le_refl _ | omega | (simp; done) | (simp; omega)) _ | refine Below.setCell ?_ (by first | exact Nat.le_refl _ | omega | (simp; done) | (simp; omega)) _)⟩
  exact key _ rfl (fun hb => by simp [okNow, hb] at h; omega)

set_option maxHeartbeats 1000000 in
theorem specFlap_yes (p t : Int) (o : Bool) (now : Int) (w : World) (h : okNow p t o now = true) :
    Calls Try.prog 29 #[.agg #[.int .i64 p, .int .i64 t, .bool o], .int .i64 now] w (NowPost (more (p.toNat / 2 ^ whiles t now : Nat)) (t + 8 * (whiles t now : Int)) ((o && decide (80 ≤ p.toNat / 2 ^ whiles t now)) || decide (250 ≤ more (p.toNat / 2 ^ whiles t now : Nat))) true w) := by
  have hb : okB p t o = true := by simp [okNow] at h; exact h.1.1
  have h1 : t ≤ now := by simp [okNow] at h; exact h.1.2
  have h2 : now ≤ 99 := by simp [okNow] at h; exact h.2
  obtain ⟨p0, p1, t0, t1, hon, hoff⟩ := okB_in hb
  obtain ⟨hw1, hw2⟩ := whiles_in h1
  have h3 : (decide (t ≤ now) && decide (now ≤ 99)) = true := by simp; omega
  obtain ⟨q, rfl⟩ : ∃ q : Nat, p = (q : Int) := ⟨p.toNat, by omega⟩
  simp only [Int.toNat_natCast]
  generalize whiles t now = n at hw1 hw2 ⊢
  have hql : q / 2 ^ n ≤ q := Nat.div_le_self _ _
  obtain ⟨q2, hq2⟩ : ∃ q2, q / 2 ^ n = q2 := ⟨_, rfl⟩
  simp only [hq2] at hql ⊢
  have HQ := Lib.hid hq2
  clear hq2
  clear hon hoff h
  have hh := fun w => specHalve_any q n q2 t now o w (by omega) t0 h2 hw1 hw2 HQ
  generalize t + 8 * (n : Int) = T at hh ⊢
  generalize (o && decide (80 ≤ q2)) = O at hh ⊢
  have HH := Lib.hid hh
  clear hh
  by_cases hm : (q2 : Int) + 100 ≤ 9999
  · have hM : more (q2 : Int) = (q2 : Int) + 100 := by unfold more; omega
    simp only [hM]
    clear hM
    by_cases h25 : 250 ≤ (q2 : Int) + 100
    · have h26 : Hid ((O || decide (250 ≤ (q2 : Int) + 100)) = true) := by unfold Hid; simp; omega
      go_enter Try.func29, Try.ntmps29
      go_wp2_with (first | (go_at_call 19; refine (specOk_any _ _ _ _).mono ?_; rintro e w1 ⟨rfl, hb1⟩; have BX := (Box3.new (w.alloc (.cells #[.int .i64 (q : Int), .int .i64 t, .bool o] 25)) (.int .i64 0) (.int .i64 0) (.bool false) 25).below hb1 (by simp); simp only [World.size_alloc] at BX; have hB1 : Below w.heap.size w w1 := (by refine Below.trans ?_ (hb1.mono (by first | exact Nat.le_refl _ | omega | (simp; done) | (simp; omega))); repeat (first | exact Below.refl _ _ | assumption | refine Below.drew ?_ | refine belowDrewN ?_ _ | refine Below.alloc ?_ (by first | exact Nat.le_refl _ | omega | (simp; done) | (simp; omega)) _ | refine Below.setCell ?_ (by first | exact Nat.le_refl _ | omega | (simp; done) | (simp; omega)) _)); obtain ⟨hc1, hf1⟩ := bcell hb1; have hz1 : w.heap.size + 1 < w1.heap.size := (by have := hb1.size; (try simp at this); omega)) | (go_at_call 38; refine (l6In_any _ _ _ _).mono ?_; rintro e w' ⟨rfl, rfl⟩))
      refine (HH.out _).mono ?_
      rintro e w2 ⟨rfl, hb2⟩
      have hB2 : Below w.heap.size w w2 := Below.trans hB1 (hb2.mono (by omega))
      have BX2 := BX.below hb2 (by omega)
      have hz2 : w.heap.size + 1 < w2.heap.size := by have := hb2.size; omega
      have BX3 := BX2.alloc (.cells #[.int .i64 q2, .int .i64 T, .bool O] 25)
      clear hc1 hf1
      have r0 := BX2.c0
      have r1 := BX2.c1
      have r2 := BX2.c2
      have g0 := BX2.f0
      have g1 := BX2.f1
      have g2 := BX2.f2
      go_wp2_with fail
      rw [h26.out]
      have Z := (BX2.stores (.int .i64 ((q2 : Int) + 100)) (.int .i64 T) (.bool true)).alloc (.cells #[.int .i64 ((q2 : Int) + 100), .int .i64 T, .bool true] 25)
      have z0 := Z.c0
      have z1 := Z.c1
      have z2 := Z.c2
      refine bodyPost_ret (v := .tuple #[.agg #[.int .i64 ((q2 : Int) + 100), .int .i64 (T), .bool (true)], .bool true]) (by simp [results, Try.results29, go_sem, z0, z1, z2]) rfl ?_
      exact ⟨rfl, by repeat (first | exact Below.refl _ _ | assumption | refine Below.drew ?_ | refine belowDrewN ?_ _ | refine Below.alloc ?_ (by first | exact Nat.le_refl _ | omega | (simp; done) | (simp; omega)) _ | refine Below.setCell ?_ (by first | exact Nat.le_refl _ | omega | (simp; done) | (simp; omega)) _)⟩
    · have h26 : Hid ((O || decide (250 ≤ (q2 : Int) + 100)) = O) := by unfold Hid; simp; omega
      have h27 : decide (250 ≤ (q2 : Int) + 100) = false := by simp; omega
      go_enter Try.func29, Try.ntmps29
      go_wp2_with (first | (go_at_call 19; refine (specOk_any _ _ _ _).mono ?_; rintro e w1 ⟨rfl, hb1⟩; have BX := (Box3.new (w.alloc (.cells #[.int .i64 (q : Int), .int .i64 t, .bool o] 25)) (.int .i64 0) (.int .i64 0) (.bool false) 25).below hb1 (by simp); simp only [World.size_alloc] at BX; have hB1 : Below w.heap.size w w1 := (by refine Below.trans ?_ (hb1.mono (by first | exact Nat.le_refl _ | omega | (simp; done) | (simp; omega))); repeat (first | exact Below.refl _ _ | assumption | refine Below.drew ?_ | refine belowDrewN ?_ _ | refine Below.alloc ?_ (by first | exact Nat.le_refl _ | omega | (simp; done) | (simp; omega)) _ | refine Below.setCell ?_ (by first | exact Nat.le_refl _ | omega | (simp; done) | (simp; omega)) _)); obtain ⟨hc1, hf1⟩ := bcell hb1; have hz1 : w.heap.size + 1 < w1.heap.size := (by have := hb1.size; (try simp at this); omega)) | (go_at_call 38; refine (l6In_any _ _ _ _).mono ?_; rintro e w' ⟨rfl, rfl⟩))
      refine (HH.out _).mono ?_
      rintro e w2 ⟨rfl, hb2⟩
      have hB2 : Below w.heap.size w w2 := Below.trans hB1 (hb2.mono (by omega))
      have BX2 := BX.below hb2 (by omega)
      have hz2 : w.heap.size + 1 < w2.heap.size := by have := hb2.size; omega
      have BX3 := BX2.alloc (.cells #[.int .i64 q2, .int .i64 T, .bool O] 25)
      clear hc1 hf1
      have r0 := BX2.c0
      have r1 := BX2.c1
      have r2 := BX2.c2
      have g0 := BX2.f0
      have g1 := BX2.f1
      have g2 := BX2.f2
      go_wp2_with fail
      rw [h26.out]
      have Z := (BX2.stores (.int .i64 ((q2 : Int) + 100)) (.int .i64 T) (.bool O)).alloc (.cells #[.int .i64 ((q2 : Int) + 100), .int .i64 T, .bool O] 25)
      have z0 := Z.c0
      have z1 := Z.c1
      have z2 := Z.c2
      refine bodyPost_ret (v := .tuple #[.agg #[.int .i64 ((q2 : Int) + 100), .int .i64 (T), .bool (O)], .bool true]) (by simp [results, Try.results29, go_sem, z0, z1, z2]) rfl ?_
      exact ⟨rfl, by repeat (first | exact Below.refl _ _ | assumption | refine Below.drew ?_ | refine belowDrewN ?_ _ | refine Below.alloc ?_ (by first | exact Nat.le_refl _ | omega | (simp; done) | (simp; omega)) _ | refine Below.setCell ?_ (by first | exact Nat.le_refl _ | omega | (simp; done) | (simp; omega)) _)⟩
  · have hM : more (q2 : Int) = 9999 := by unfold more; omega
    simp only [hM]
    clear hM
    have h26 : Hid ((O || decide ((250 : Int) ≤ 9999)) = true) := by unfold Hid; simp
    go_enter Try.func29, Try.ntmps29
    go_wp2_with (first | (go_at_call 19; refine (specOk_any _ _ _ _).mono ?_; rintro e w1 ⟨rfl, hb1⟩; have BX := (Box3.new (w.alloc (.cells #[.int .i64 (q : Int), .int .i64 t, .bool o] 25)) (.int .i64 0) (.int .i64 0) (.bool false) 25).below hb1 (by simp); simp only [World.size_alloc] at BX; have hB1 : Below w.heap.size w w1 := (by refine Below.trans ?_ (hb1.mono (by first | exact Nat.le_refl _ | omega | (simp; done) | (simp; omega))); repeat (first | exact Below.refl _ _ | assumption | refine Below.drew ?_ | refine belowDrewN ?_ _ | refine Below.alloc ?_ (by first | exact Nat.le_refl _ | omega | (simp; done) | (simp; omega)) _ | refine Below.setCell ?_ (by first | exact Nat.le_refl _ | omega | (simp; done) | (simp; omega)) _)); obtain ⟨hc1, hf1⟩ := bcell hb1; have hz1 : w.heap.size + 1 < w1.heap.size := (by have := hb1.size; (try simp at this); omega)) | (go_at_call 38; refine (l6In_any _ _ _ _).mono ?_; rintro e w' ⟨rfl, rfl⟩))
    refine (HH.out _).mono ?_
    rintro e w2 ⟨rfl, hb2⟩
    have hB2 : Below w.heap.size w w2 := Below.trans hB1 (hb2.mono (by omega))
    have BX2 := BX.below hb2 (by omega)
    have hz2 : w.heap.size + 1 < w2.heap.size := by have := hb2.size; omega
    have BX3 := BX2.alloc (.cells #[.int .i64 q2, .int .i64 T, .bool O] 25)
    clear hc1 hf1
    have r0 := BX2.c0
    have r1 := BX2.c1
    have r2 := BX2.c2
    have g0 := BX2.f0
    have g1 := BX2.f1
    have g2 := BX2.f2
    go_wp2_with fail
    rw [h26.out]
    have Z := (BX2.stores (.int .i64 (9999)) (.int .i64 T) (.bool true)).alloc (.cells #[.int .i64 (9999), .int .i64 T, .bool true] 25)
    have z0 := Z.c0
    have z1 := Z.c1
    have z2 := Z.c2
    refine bodyPost_ret (v := .tuple #[.agg #[.int .i64 (9999), .int .i64 (T), .bool (true)], .bool true]) (by simp [results, Try.results29, go_sem, z0, z1, z2]) rfl ?_
    exact ⟨rfl, by repeat (first | exact Below.refl _ _ | assumption | refine Below.drew ?_ | refine belowDrewN ?_ _ | refine Below.alloc ?_ (by first | exact Nat.le_refl _ | omega | (simp; done) | (simp; omega)) _ | refine Below.setCell ?_ (by first | exact Nat.le_refl _ | omega | (simp; done) | (simp; omega)) _)⟩

theorem implFlap_any (p t : Int) (o : Bool) (now : Int) (w : World) :
    Calls Try.prog 30 #[.agg #[.int .i64 p, .int .i64 t, .bool o], .int .i64 now] w (NowPost (flapP p t o now) (nowT p t o now) (flapO p t o now) (okNow p t o now) w) := by
  cases h : okNow p t o now
  · rw [flapP_no h, nowT_no h, flapO_no h]; exact implFlap_no p t o now w h
  · rw [flapP_yes h, flapO_yes h]; exact implFlap_yes p t o now w h

theorem specFlap_any (p t : Int) (o : Bool) (now : Int) (w : World) :
    Calls Try.prog 29 #[.agg #[.int .i64 p, .int .i64 t, .bool o], .int .i64 now] w (NowPost (flapP p t o now) (nowT p t o now) (flapO p t o now) (okNow p t o now) w) := by
  cases h : okNow p t o now
  · rw [flapP_no h, nowT_no h, flapO_no h]; exact specFlap_no p t o now w h
  · rw [flapP_yes h, flapO_yes h, nowP_yes h, nowT_yes h, nowO_yes h]; exact specFlap_yes p t o now w h
end Go.Proofs.Ytbjonkjigfnnnaa
