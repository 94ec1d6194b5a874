/- Contracts of DampNow, the program's and the reference's: both are 'nowP', 'nowT', 'nowO', 'okNow'. -/
import Derived.Test.YtbjonkjigfnnnaaDampPen2
namespace Go.Proofs.Ytbjonkjigfnnnaa
open Go.RowKit Go.MuLone
set_option linter.unusedVariables false

/-- whether a pain can be asked for at a time -/
def okNow (p t : Int) (o : Bool) (now : Int) : Bool := okB p t o && decide (t ≤ now) && decide (now ≤ 99)
/-- how many whiles go by -/
def whiles (t now : Int) : Nat := ((now - t) / 8).toNat
def nowP (p t : Int) (o : Bool) (now : Int) : Int := if okNow p t o now then ((p.toNat / 2 ^ whiles t now : Nat) : Int) else 0
def nowT (p t : Int) (o : Bool) (now : Int) : Int := if okNow p t o now then t + 8 * (whiles t now : Int) else 0
def nowO (p t : Int) (o : Bool) (now : Int) : Bool := okNow p t o now && o && decide (80 ≤ p.toNat / 2 ^ whiles t now)

theorem nowP_no {p t : Int} {o : Bool} {now : Int} (h : okNow p t o now = false) : nowP p t o now = 0 := by simp [nowP, h]
theorem nowT_no {p t : Int} {o : Bool} {now : Int} (h : okNow p t o now = false) : nowT p t o now = 0 := by simp [nowT, h]
theorem nowO_no {p t : Int} {o : Bool} {now : Int} (h : okNow p t o now = false) : nowO p t o now = false := by simp [nowO, h]
theorem nowP_yes {p t : Int} {o : Bool} {now : Int} (h : okNow p t o now = true) : nowP p t o now = ((p.toNat / 2 ^ whiles t now : Nat) : Int) := by simp [nowP, h]
theorem nowT_yes {p t : Int} {o : Bool} {now : Int} (h : okNow p t o now = true) : nowT p t o now = t + 8 * (whiles t now : Int) := by simp [nowT, h]
theorem nowO_yes {p t : Int} {o : Bool} {now : Int} (h : okNow p t o now = true) : nowO p t o now = (o && decide (80 ≤ p.toNat / 2 ^ whiles t now)) := by simp [nowO, h]
theorem whiles_in {t now : Int} (h : t ≤ now) : t + 8 * (whiles t now : Int) ≤ now ∧ now < t + 8 * (whiles t now : Int) + 8 := by
  unfold whiles; omega

def NowPost (p t : Int) (o : Bool) (ok : Bool) (w : World) (e : Ending) (w' : World) : Prop :=
  e = .returned (.tuple #[.agg #[.int .i64 p, .int .i64 t, .bool o], .bool ok]) ∧ Below w.heap.size w w'

set_option maxHeartbeats 1000000 in
theorem implNow_no (p t : Int) (o : Bool) (now : Int) (w : World) (h : okNow p t o now = false) :
    Calls Try.prog 26 #[.agg #[.int .i64 p, .int .i64 t, .bool o], .int .i64 now] w (NowPost 0 0 false false w) := by
  have key : ∀ b : Bool, okB p t o = b → (b = true → now < t ∨ 99 < now) →
      Calls Try.prog 26 #[.agg #[.int .i64 p, .int .i64 t, .bool o], .int .i64 now] w (NowPost 0 0 false false w) := by
    intro b hb hor
    cases b
    · clear hor
      go_enter Try.func26, Try.ntmps26
      go_wp2_with (go_at_call 21; refine (implOk_any _ _ _ _).mono ?_; rintro e w1 ⟨rfl, hb1⟩; have BX := (Box3.new (w.alloc (.cells #[.int .i64 p, .int .i64 t, .bool o] 25)) (.int .i64 0) (.int .i64 0) (.bool false) 25).below hb1 (by simp); simp only [World.size_alloc] at BX; have hB1 : Below w.heap.size w w1 := (by refine Below.trans ?_ (hb1.mono (by first | exact Nat.le_refl _ | omega | (simp; done) | (simp; omega))); repeat (first | exact Below.refl _ _ | assumption | refine Below.drew ?_ | refine belowDrewN ?_ _ | refine Below.alloc ?_ (by first | exact Nat.le_refl _ | omega | (simp; done) | (simp; omega)) _ | refine Below.setCell ?_ (by first | exact Nat.le_refl _ | omega | (simp; done) | (simp; omega)) _)); obtain ⟨hc1, hf1⟩ := bcell hb1; have hz1 : w.heap.size + 1 < w1.heap.size := (by have := hb1.size; (try simp at this); omega))
      have Z := (BX).stores (.int .i64 (0)) (.int .i64 (0)) (.bool (false))
      have z0 := Z.c0
      have z1 := Z.c1
      have z2 := Z.c2
      refine bodyPost_ret (v := .tuple #[.agg #[.int .i64 (0), .int .i64 (0), .bool (false)], .bool false]) (by simp [results, Try.results26, go_sem, z0, z1, z2]) rfl ?_
      exact ⟨rfl, by repeat (first | exact Below.refl _ _ | assumption | refine Below.drew ?_ | refine belowDrewN ?_ _ | refine Below.alloc ?_ (by first | exact Nat.le_refl _ | omega | (simp; done) | (simp; omega)) _ | refine Below.setCell ?_ (by first | exact Nat.le_refl _ | omega | (simp; done) | (simp; omega)) _)⟩
    · have hor' := hor rfl
      clear hor
      by_cases h1 : now < t
      · clear hor'
        go_enter Try.func26, Try.ntmps26
        go_wp2_with (go_at_call 21; refine (implOk_any _ _ _ _).mono ?_; rintro e w1 ⟨rfl, hb1⟩; have BX := (Box3.new (w.alloc (.cells #[.int .i64 p, .int .i64 t, .bool o] 25)) (.int .i64 0) (.int .i64 0) (.bool false) 25).below hb1 (by simp); simp only [World.size_alloc] at BX; have hB1 : Below w.heap.size w w1 := (by refine Below.trans ?_ (hb1.mono (by first | exact Nat.le_refl _ | omega | (simp; done) | (simp; omega))); repeat (first | exact Below.refl _ _ | assumption | refine Below.drew ?_ | refine belowDrewN ?_ _ | refine Below.alloc ?_ (by first | exact Nat.le_refl _ | omega | (simp; done) | (simp; omega)) _ | refine Below.setCell ?_ (by first | exact Nat.le_refl _ | omega | (simp; done) | (simp; omega)) _)); obtain ⟨hc1, hf1⟩ := bcell hb1; have hz1 : w.heap.size + 1 < w1.heap.size := (by have := hb1.size; (try simp at this); omega))
        have Z := (BX).stores (.int .i64 (0)) (.int .i64 (0)) (.bool (false))
        have z0 := Z.c0
        have z1 := Z.c1
        have z2 := Z.c2
        refine bodyPost_ret (v := .tuple #[.agg #[.int .i64 (0), .int .i64 (0), .bool (false)], .bool false]) (by simp [results, Try.results26, go_sem, z0, z1, z2]) rfl ?_
        exact ⟨rfl, by repeat (first | exact Below.refl _ _ | assumption | refine Below.drew ?_ | refine belowDrewN ?_ _ | refine Below.alloc ?_ (by first | exact Nat.le_refl _ | omega | (simp; done) | (simp; omega)) _ | refine Below.setCell ?_ (by first | exact Nat.le_refl _ | omega | (simp; done) | (simp; omega)) _)⟩
      · have h2 : 99 < now := by omega
        have h3 : decide (now < t) = false := by simp; omega
        clear hor'
        go_enter Try.func26, Try.ntmps26
        go_wp2_with (go_at_call 21; refine (implOk_any _ _ _ _).mono ?_; rintro e w1 ⟨rfl, hb1⟩; have BX := (Box3.new (w.alloc (.cells #[.int .i64 p, .int .i64 t, .bool o] 25)) (.int .i64 0) (.int .i64 0) (.bool false) 25).below hb1 (by simp); simp only [World.size_alloc] at BX; have hB1 : Below w.heap.size w w1 := (by refine Below.trans ?_ (hb1.mono (by first | exact Nat.le_refl _ | omega | (simp; done) | (simp; omega))); repeat (first | exact Below.refl _ _ | assumption | refine Below.drew ?_ | refine belowDrewN ?_ _ | refine Below.alloc ?_ (by first | exact Nat.le_refl _ | omega | (simp; done) | (simp; omega)) _ | refine Below.setCell ?_ (by first | exact Nat.le_refl _ | omega | (simp; done) | (simp; omega)) _)); obtain ⟨hc1, hf1⟩ := bcell hb1; have hz1 : w.heap.size + 1 < w1.heap.size := (by have := hb1.size; (try simp at this); omega))
        have Z := (BX).stores (.int .i64 (0)) (.int .i64 (0)) (.bool (false))
        have z0 := Z.c0
        have z1 := Z.c1
        have z2 := Z.c2
        refine bodyPost_ret (v := .tuple #[.agg #[.int .i64 (0), .int .i64 (0), .bool (false)], .bool false]) (by simp [results, Try.results26, go_sem, z0, z1, z2]) rfl ?_
        exact ⟨rfl, by repeat (first | exact Below.refl _ _ | assumption | refine Below.drew ?_ | refine belowDrewN ?_ _ | refine Below.alloc ?_ (by first | exact Nat.le_refl _ | omega | (simp; done) | (simp; omega)) _ | refine Below.setCell ?_ (by first | exact Nat.le_refl _ | omega | (simp; done) | (simp; omega)) _)⟩
  exact key _ rfl (fun hb => by simp [okNow, hb] at h; omega)

set_option maxHeartbeats 1000000 in
theorem implNow_yes (p t : Int) (o : Bool) (now : Int) (w : World) (h : okNow p t o now = true) :
    Calls Try.prog 26 #[.agg #[.int .i64 p, .int .i64 t, .bool o], .int .i64 now] w (NowPost (p.toNat / 2 ^ whiles t now : Nat) (t + 8 * (whiles t now : Int)) (o && decide (80 ≤ p.toNat / 2 ^ whiles t now)) true w) := by
  have hb : okB p t o = true := by simp [okNow] at h; exact h.1.1
  have h1 : t ≤ now := by simp [okNow] at h; exact h.1.2
  have h2 : now ≤ 99 := by simp [okNow] at h; exact h.2
  obtain ⟨p0, p1, t0, t1, hon, hoff⟩ := okB_in hb
  obtain ⟨hw1, hw2⟩ := whiles_in h1
  have h3 : decide (now < t) = false := by simp; omega
  obtain ⟨q, rfl⟩ : ∃ q : Nat, p = (q : Int) := ⟨p.toNat, by omega⟩
  simp only [Int.toNat_natCast]
  generalize whiles t now = n at hw1 hw2 ⊢
  obtain ⟨q2, hq2⟩ : ∃ q2, q / 2 ^ n = q2 := ⟨_, rfl⟩
  simp only [hq2]
  have HQ := Lib.hid hq2
  clear hq2
  clear hon hoff h
  go_enter Try.func26, Try.ntmps26
  go_wp2_with (go_at_call 21; refine (implOk_any _ _ _ _).mono ?_; rintro e w1 ⟨rfl, hb1⟩; have BX := (Box3.new (w.alloc (.cells #[.int .i64 (q : Int), .int .i64 t, .bool o] 25)) (.int .i64 0) (.int .i64 0) (.bool false) 25).below hb1 (by simp); simp only [World.size_alloc] at BX; have hB1 : Below w.heap.size w w1 := (by refine Below.trans ?_ (hb1.mono (by first | exact Nat.le_refl _ | omega | (simp; done) | (simp; omega))); repeat (first | exact Below.refl _ _ | assumption | refine Below.drew ?_ | refine belowDrewN ?_ _ | refine Below.alloc ?_ (by first | exact Nat.le_refl _ | omega | (simp; done) | (simp; omega)) _ | refine Below.setCell ?_ (by first | exact Nat.le_refl _ | omega | (simp; done) | (simp; omega)) _)); obtain ⟨hc1, hf1⟩ := bcell hb1; have hz1 : w.heap.size + 1 < w1.heap.size := (by have := hb1.size; (try simp at this); omega))
  refine (penaltyOf_any _ _ _ _).mono ?_
  rintro e w2 ⟨rfl, hp, hb2, hs2⟩
  have hB2 : Below w.heap.size w w2 := Below.trans hB1 (hb2.mono (by omega))
  have BX2 := BX.below hb2 (by omega)
  have HP := Lib.hid hp
  clear hp hc1 hf1
  go_wp2_with fail
  have hh := halve_any (w1.heap.size + 1) q n t now o w2 HP.out (by omega) t0 h2 hw1 hw2
  simp only [HQ.out] at hh
  refine hh.mono ?_
  clear hh
  rintro e w3 ⟨rfl, hp3, hO3, hs3⟩
  have hB3 : Below w.heap.size w w3 := Below.trans hB2 (hO3.below (by omega) (by omega))
  have BX3 := BX2.only hO3 (by omega) (by omega)
  have HP3 := Lib.hid hp3
  clear hp3
  go_wp2_with fail
  refine (tell_any _ _ _ _ _ HP3.out (by omega)).mono ?_
  rintro e w4 ⟨rfl, hO4⟩
  have hB4 : Below w.heap.size w w4 := Below.trans hB3 (hO4.below (by omega) (by omega))
  have BX4 := BX3.only hO4 (by omega) (by omega)
  have r0 := BX4.c0
  have r1 := BX4.c1
  have r2 := BX4.c2
  have g0 := BX4.f0
  have g1 := BX4.f1
  have g2 := BX4.f2
  go_wp2_with fail
  have Z := (BX4).stores (.int .i64 (q2)) (.int .i64 (t + 8 * (n : Int))) (.bool (o && decide (80 ≤ q2)))
  have z0 := Z.c0
  have z1 := Z.c1
  have z2 := Z.c2
  refine bodyPost_ret (v := .tuple #[.agg #[.int .i64 (q2), .int .i64 (t + 8 * (n : Int)), .bool (o && decide (80 ≤ q2))], .bool true]) (by simp [results, Try.results26, go_sem, z0, z1, z2]) rfl ?_
  exact ⟨rfl, by repeat (first | exact Below.refl _ _ | assumption | refine Below.drew ?_ | refine belowDrewN ?_ _ | refine Below.alloc ?_ (by first | exact Nat.le_refl _ | omega | (simp; done) | (simp; omega)) _ | refine Below.setCell ?_ (by first | exact Nat.le_refl _ | omega | (simp; done) | (simp; omega)) _)⟩
end Go.Proofs.Ytbjonkjigfnnnaa
