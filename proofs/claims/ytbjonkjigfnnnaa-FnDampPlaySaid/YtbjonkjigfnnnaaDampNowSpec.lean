/- The reference's l41Now and DampNow. -/
import Derived.Test.YtbjonkjigfnnnaaDampNow
namespace Go.Proofs.Ytbjonkjigfnnnaa
open Go.RowKit Go.MuLone
set_option linter.unusedVariables false

theorem Box3.set0 {w : World} {B : Nat} {v0 v1 v2 : Value} (h : Box3 w B v0 v1 v2) (v : Value) : Box3 (w.setCell ⟨B, 0, none⟩ v) B v v1 v2 :=
  ⟨setS h.c0, setO (by simp) h.c1, setO (by simp) h.c2, by simp [h.f0], by simp [h.f1], by simp [h.f2]⟩
theorem Box3.set1 {w : World} {B : Nat} {v0 v1 v2 : Value} (h : Box3 w B v0 v1 v2) (v : Value) : Box3 (w.setCell ⟨B, 1, none⟩ v) B v0 v v2 :=
  ⟨setO (by simp) h.c0, setS h.c1, setO (by simp) h.c2, by simp [h.f0], by simp [h.f1], by simp [h.f2]⟩
theorem Box3.set2 {w : World} {B : Nat} {v0 v1 v2 : Value} (h : Box3 w B v0 v1 v2) (v : Value) : Box3 (w.setCell ⟨B, 2, none⟩ v) B v0 v1 v :=
  ⟨setO (by simp) h.c0, setO (by simp) h.c1, setS h.c2, by simp [h.f0], by simp [h.f1], by simp [h.f2]⟩
theorem Box3.off {w : World} {B : Nat} {v0 v1 v2 : Value} (h : Box3 w B v0 v1 v2) {a : Addr} (ha : a.block ≠ B) (v : Value) : Box3 (w.setCell a v) B v0 v1 v2 :=
  ⟨setO (by intro e; subst e; exact ha rfl) h.c0, setO (by intro e; subst e; exact ha rfl) h.c1, setO (by intro e; subst e; exact ha rfl) h.c2, by simp [h.f0], by simp [h.f1], by simp [h.f2]⟩

set_option maxHeartbeats 1000000 in
theorem specHalve_any (q n q2 : Nat) (t now : Int) (o : Bool) (w : World) (hq : q ≤ 9999) (hT : 0 ≤ t) (hnow : now ≤ 99) (hn0 : t + 8 * n ≤ now) (hn1 : now < t + 8 * n + 8) (h2 : Hid (q / 2 ^ n = q2)) :
    Calls Try.prog 41 #[.agg #[.int .i64 q, .int .i64 t, .bool o], .int .i64 now] w fun e w' => e = .returned (.agg #[.int .i64 q2, .int .i64 (t + 8 * n), .bool (o && decide (80 ≤ q2))]) ∧ Below w.heap.size w w' := by
  have B0 := ((Box3.new w (.int .i64 q) (.int .i64 t) (.bool o) 25).alloc (.cells #[.int .i64 0, .int .i64 0, .bool false] 25))
  have B1 := Box3.new (w.alloc (.cells #[.int .i64 q, .int .i64 t, .bool o] 25)) (.int .i64 0) (.int .i64 0) (.bool false) 25
  simp only [World.size_alloc] at B1
  go_enter Try.func41, Try.ntmps41
  go_wp2_with fail
  go_loopg [] n (fun g wr => ∃ (q' : Nat) (T' : Int), Box3 wr w.heap.size (.int .i64 q') (.int .i64 T') (.bool o) ∧ Box3 wr (w.heap.size + 1) (.int .i64 0) (.int .i64 0) (.bool false) ∧ q' ≤ 9999 ∧ 0 ≤ T' ∧ q' / 2 ^ g = q / 2 ^ n ∧ T' + 8 * g = t + 8 * n ∧ Below w.heap.size w wr)
  case atStart => exact ⟨q, t, B0, B1, hq, hT, rfl, rfl, by repeat (first | exact Below.refl _ _ | assumption | refine Below.drew ?_ | refine belowDrewN ?_ _ | refine Below.alloc ?_ (by first | exact Nat.le_refl _ | omega | (simp; done) | (simp; omega)) _ | refine Below.setCell ?_ (by first | exact Nat.le_refl _ | omega | (simp; done) | (simp; omega)) _)⟩
  case round =>
    obtain ⟨q', T', X, Y, hq', hT', he, hTe, hbel⟩ := hrel
    have c0 := X.c0
    have c1 := X.c1
    have c2 := X.c2
    have f0 := X.f0
    have f1 := X.f1
    have f2 := X.f2
    have d0 := Y.c0
    have d1 := Y.c1
    have d2 := Y.c2
    have e0 := Y.f0
    have e1 := Y.f1
    have e2 := Y.f2
    have H2 := Lib.hid (And.intro he hTe)
    have hTe1 : T' + 8 * gk ≤ t + 8 * n := by omega
    have hTe2 : t + 8 * n ≤ T' + 8 * gk := by omega
    clear he hTe B0 B1
    by_cases hg : gk = 0
    · subst hg
      obtain ⟨he, hTe⟩ := H2.out
      simp at he
      have h2' := h2.out
      obtain rfl : q' = q2 := by omega
      clear he h2' hTe
      by_cases h8 : q' < 80
      · have h8' : decide (80 ≤ q') = false := by simp; omega
        go_wp2_with fail
        have Z := (((Y.off (a := ⟨w.heap.size, 2, none⟩) (by simp) (.bool false))).stores (.int .i64 q') (.int .i64 T') (.bool false))
        have z0 := Z.c0
        have z1 := Z.c1
        have z2 := Z.c2
        refine bodyPost_ret (v := .agg #[.int .i64 q', .int .i64 T', .bool false]) (by simp [results, Try.results41, go_sem, z0, z1, z2]) rfl ?_
        have := H2.out.2
        simp at this
        rw [h8', this]
        exact ⟨by simp, by repeat (first | exact Below.refl _ _ | assumption | refine Below.drew ?_ | refine belowDrewN ?_ _ | refine Below.alloc ?_ (by first | exact Nat.le_refl _ | omega | (simp; done) | (simp; omega)) _ | refine Below.setCell ?_ (by first | exact Nat.le_refl _ | omega | (simp; done) | (simp; omega)) _)⟩
      · have h8' : decide (80 ≤ q') = true := by simp; omega
        go_wp2_with fail
        have Z := (Y.stores (.int .i64 q') (.int .i64 T') (.bool o))
        have z0 := Z.c0
        have z1 := Z.c1
        have z2 := Z.c2
        refine bodyPost_ret (v := .agg #[.int .i64 q', .int .i64 T', .bool o]) (by simp [results, Try.results41, go_sem, z0, z1, z2]) rfl ?_
        have := H2.out.2
        simp at this
        rw [h8', this]
        exact ⟨by simp, by repeat (first | exact Below.refl _ _ | assumption | refine Below.drew ?_ | refine belowDrewN ?_ _ | refine Below.alloc ?_ (by first | exact Nat.le_refl _ | omega | (simp; done) | (simp; omega)) _ | refine Below.setCell ?_ (by first | exact Nat.le_refl _ | omega | (simp; done) | (simp; omega)) _)⟩
    · obtain ⟨g, rfl⟩ : ∃ g, gk = g + 1 := ⟨gk - 1, by omega⟩
      go_wp2_with fail
      go_roundg g
      case measure => omega
      case rel =>
        obtain ⟨a1, a2⟩ := H2.out
        refine ⟨q' / 2, T' + 8, ?_, (Y.off (by simp) _).off (by simp) _, by omega, by omega, ?_, by omega, by repeat (first | exact Below.refl _ _ | assumption | refine Below.drew ?_ | refine belowDrewN ?_ _ | refine Below.alloc ?_ (by first | exact Nat.le_refl _ | omega | (simp; done) | (simp; omega)) _ | refine Below.setCell ?_ (by first | exact Nat.le_refl _ | omega | (simp; done) | (simp; omega)) _)⟩
        · have := (X.set1 (.int .i64 (T' + 8))).set0 (.int .i64 (q' / 2 : Nat))
          simpa using this
        · rw [← a1, Nat.div_div_eq_div_mul, Nat.pow_succ, Nat.mul_comm]

set_option maxHeartbeats 1000000 in
theorem specNow_no (p t : Int) (o : Bool) (now : Int) (w : World) (h : okNow p t o now = false) :
    Calls Try.prog 25 #[.agg #[.int .i64 p, .int .i64 t, .bool o], .int .i64 now] w (NowPost 0 0 false false w) := by
  have key : ∀ b : Bool, okB p t o = b → (b = true → now < t ∨ 99 < now) →
      Calls Try.prog 25 #[.agg #[.int .i64 p, .int .i64 t, .bool o], .int .i64 now] w (NowPost 0 0 false false w) := by
    intro b hb hor
    cases b
    · clear hor
      go_enter Try.func25, Try.ntmps25
      go_wp2_with (go_at_call 19; refine (specOk_any _ _ _ _).mono ?_; rintro e w1 ⟨rfl, hb1⟩; have BX := (Box3.new (w.alloc (.cells #[.int .i64 p, .int .i64 t, .bool o] 25)) (.int .i64 0) (.int .i64 0) (.bool false) 25).below hb1 (by simp); simp only [World.size_alloc] at BX; have hB1 : Below w.heap.size w w1 := (by refine Below.trans ?_ (hb1.mono (by first | exact Nat.le_refl _ | omega | (simp; done) | (simp; omega))); repeat (first | exact Below.refl _ _ | assumption | refine Below.drew ?_ | refine belowDrewN ?_ _ | refine Below.alloc ?_ (by first | exact Nat.le_refl _ | omega | (simp; done) | (simp; omega)) _ | refine Below.setCell ?_ (by first | exact Nat.le_refl _ | omega | (simp; done) | (simp; omega)) _)); obtain ⟨hc1, hf1⟩ := bcell hb1; have hz1 : w.heap.size + 1 < w1.heap.size := (by have := hb1.size; (try simp at this); omega))
      have Z := (BX).stores (.int .i64 (0)) (.int .i64 (0)) (.bool (false))
      have z0 := Z.c0
      have z1 := Z.c1
      have z2 := Z.c2
      refine bodyPost_ret (v := .tuple #[.agg #[.int .i64 (0), .int .i64 (0), .bool (false)], .bool false]) (by simp [results, Try.results25, go_sem, z0, z1, z2]) rfl ?_
      exact ⟨rfl, by repeat (first | exact Below.refl _ _ | assumption | refine Below.drew ?_ | refine belowDrewN ?_ _ | refine Below.alloc ?_ (by first | exact Nat.le_refl _ | omega | (simp; done) | (simp; omega)) _ | refine Below.setCell ?_ (by first | exact Nat.le_refl _ | omega | (simp; done) | (simp; omega)) _)⟩
    · have hor' : (decide (t ≤ now) && decide (now ≤ 99)) = false := by have := hor rfl; simp; omega
      clear hor
      go_enter Try.func25, Try.ntmps25
      go_wp2_with (first | (go_at_call 19; refine (specOk_any _ _ _ _).mono ?_; rintro e w1 ⟨rfl, hb1⟩; have BX := (Box3.new (w.alloc (.cells #[.int .i64 p, .int .i64 t, .bool o] 25)) (.int .i64 0) (.int .i64 0) (.bool false) 25).below hb1 (by simp); simp only [World.size_alloc] at BX; have hB1 : Below w.heap.size w w1 := (by refine Below.trans ?_ (hb1.mono (by first | exact Nat.le_refl _ | omega | (simp; done) | (simp; omega))); repeat (first | exact Below.refl _ _ | assumption | refine Below.drew ?_ | refine belowDrewN ?_ _ | refine Below.alloc ?_ (by first | exact Nat.le_refl _ | omega | (simp; done) | (simp; omega)) _ | refine Below.setCell ?_ (by first | exact Nat.le_refl _ | omega | (simp; done) | (simp; omega)) _)); obtain ⟨hc1, hf1⟩ := bcell hb1; have hz1 : w.heap.size + 1 < w1.heap.size := (by have := hb1.size; (try simp at this); omega)) | (go_at_call 38; refine (l6In_any _ _ _ _).mono ?_; rintro e w' ⟨rfl, rfl⟩))
      all_goals
        have Z := (BX).stores (.int .i64 (0)) (.int .i64 (0)) (.bool (false))
        have z0 := Z.c0
        have z1 := Z.c1
        have z2 := Z.c2
        refine bodyPost_ret (v := .tuple #[.agg #[.int .i64 (0), .int .i64 (0), .bool (false)], .bool false]) (by simp [results, Try.results25, go_sem, z0, z1, z2]) rfl ?_
        exact ⟨rfl, by repeat (first | exact Below.refl _ _ | assumption | refine Below.drew ?_ | refine belowDrewN ?_ _ | refine Below.alloc ?_ (by first | exact Nat.le_refl _ | omega | (simp; done) | (simp; omega)) _ | refine Below.setCell ?_ (by first | exact Nat.le_refl _ | omega | (simp; done) | (simp; omega)) _)⟩
  exact key _ rfl (fun hb => by simp [okNow, hb] at h; omega)

set_option maxHeartbeats 1000000 in
theorem specNow_yes (p t : Int) (o : Bool) (now : Int) (w : World) (h : okNow p t o now = true) :
    Calls Try.prog 25 #[.agg #[.int .i64 p, .int .i64 t, .bool o], .int .i64 now] w (NowPost (p.toNat / 2 ^ whiles t now : Nat) (t + 8 * (whiles t now : Int)) (o && decide (80 ≤ p.toNat / 2 ^ whiles t now)) true w) := by
  have hb : okB p t o = true := by simp [okNow] at h; exact h.1.1
  have h1 : t ≤ now := by simp [okNow] at h; exact h.1.2
  have h2 : now ≤ 99 := by simp [okNow] at h; exact h.2
  obtain ⟨p0, p1, t0, t1, hon, hoff⟩ := okB_in hb
  obtain ⟨hw1, hw2⟩ := whiles_in h1
  have h3 : (decide (t ≤ now) && decide (now ≤ 99)) = true := by simp; omega
  obtain ⟨q, rfl⟩ : ∃ q : Nat, p = (q : Int) := ⟨p.toNat, by omega⟩
  simp only [Int.toNat_natCast]
  generalize whiles t now = n at hw1 hw2 ⊢
  obtain ⟨q2, hq2⟩ : ∃ q2, q / 2 ^ n = q2 := ⟨_, rfl⟩
  simp only [hq2]
  have HQ := Lib.hid hq2
  clear hq2
  clear hon hoff h
  go_enter Try.func25, Try.ntmps25
  go_wp2_with (first | (go_at_call 19; refine (specOk_any _ _ _ _).mono ?_; rintro e w1 ⟨rfl, hb1⟩; have BX := (Box3.new (w.alloc (.cells #[.int .i64 (q : Int), .int .i64 t, .bool o] 25)) (.int .i64 0) (.int .i64 0) (.bool false) 25).below hb1 (by simp); simp only [World.size_alloc] at BX; have hB1 : Below w.heap.size w w1 := (by refine Below.trans ?_ (hb1.mono (by first | exact Nat.le_refl _ | omega | (simp; done) | (simp; omega))); repeat (first | exact Below.refl _ _ | assumption | refine Below.drew ?_ | refine belowDrewN ?_ _ | refine Below.alloc ?_ (by first | exact Nat.le_refl _ | omega | (simp; done) | (simp; omega)) _ | refine Below.setCell ?_ (by first | exact Nat.le_refl _ | omega | (simp; done) | (simp; omega)) _)); obtain ⟨hc1, hf1⟩ := bcell hb1; have hz1 : w.heap.size + 1 < w1.heap.size := (by have := hb1.size; (try simp at this); omega)) | (go_at_call 38; refine (l6In_any _ _ _ _).mono ?_; rintro e w' ⟨rfl, rfl⟩))
  refine (specHalve_any q n q2 t now o _ (by omega) t0 h2 hw1 hw2 HQ).mono ?_
  rintro e w2 ⟨rfl, hb2⟩
  have hB2 : Below w.heap.size w w2 := Below.trans hB1 (hb2.mono (by omega))
  have BX2 := BX.below hb2 (by omega)
  have r0 := BX2.c0
  have r1 := BX2.c1
  have r2 := BX2.c2
  have g0 := BX2.f0
  have g1 := BX2.f1
  have g2 := BX2.f2
  clear hc1 hf1
  go_wp2_with fail
  have Z := (BX2).stores (.int .i64 (q2)) (.int .i64 (t + 8 * (n : Int))) (.bool (o && decide (80 ≤ q2)))
  have z0 := Z.c0
  have z1 := Z.c1
  have z2 := Z.c2
  refine bodyPost_ret (v := .tuple #[.agg #[.int .i64 (q2), .int .i64 (t + 8 * (n : Int)), .bool (o && decide (80 ≤ q2))], .bool true]) (by simp [results, Try.results25, go_sem, z0, z1, z2]) rfl ?_
  exact ⟨rfl, by repeat (first | exact Below.refl _ _ | assumption | refine Below.drew ?_ | refine belowDrewN ?_ _ | refine Below.alloc ?_ (by first | exact Nat.le_refl _ | omega | (simp; done) | (simp; omega)) _ | refine Below.setCell ?_ (by first | exact Nat.le_refl _ | omega | (simp; done) | (simp; omega)) _)⟩

theorem implNow_any (p t : Int) (o : Bool) (now : Int) (w : World) :
    Calls Try.prog 26 #[.agg #[.int .i64 p, .int .i64 t, .bool o], .int .i64 now] w (NowPost (nowP p t o now) (nowT p t o now) (nowO p t o now) (okNow p t o now) w) := by
  cases h : okNow p t o now
  · rw [nowP_no h, nowT_no h, nowO_no h]; exact implNow_no p t o now w h
  · rw [nowP_yes h, nowT_yes h, nowO_yes h]; exact implNow_yes p t o now w h

theorem specNow_any (p t : Int) (o : Bool) (now : Int) (w : World) :
    Calls Try.prog 25 #[.agg #[.int .i64 p, .int .i64 t, .bool o], .int .i64 now] w (NowPost (nowP p t o now) (nowT p t o now) (nowO p t o now) (okNow p t o now) w) := by
  cases h : okNow p t o now
  · rw [nowP_no h, nowT_no h, nowO_no h]; exact specNow_no p t o now w h
  · rw [nowP_yes h, nowT_yes h, nowO_yes h]; exact specNow_yes p t o now w h
end Go.Proofs.Ytbjonkjigfnnnaa
