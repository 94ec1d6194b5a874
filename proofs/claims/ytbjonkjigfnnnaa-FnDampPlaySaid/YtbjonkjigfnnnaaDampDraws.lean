/- Pains that are drawn. -/
import Derived.Test.YtbjonkjigfnnnaaDampTimes
import Derived.Test.YtbjonkjigfnnnaaDampDraw
import Derived.Deep.RegionHeld3
namespace Go.Proofs.Ytbjonkjigfnnnaa
open Go.RowKit
set_option linter.unusedVariables false

/-- what a pain in order is -/
def fine (d : Pain) : Prop := okB d.1 d.2.1 d.2.2 = true
theorem flapD_fine {d : Pain} {n : Int} (h : okD d n = true) : fine (flapD d n) := by
  obtain ⟨p, t, o⟩ := d
  have hn : okNow p t o n = true := h
  have h1 : t ≤ n := by simp [okNow] at hn; exact hn.1.2
  have h2 : n ≤ 99 := by simp [okNow] at hn; exact hn.2
  have hb : okB p t o = true := by simp [okNow] at hn; exact hn.1.1
  obtain ⟨p0, p1, t0, t1, hon, hoff⟩ := okB_in hb
  obtain ⟨w1, w2⟩ := whiles_in h1
  have hP := nowP_in hn
  have hO : nowO p t o n = true → 80 ≤ nowP p t o n := by
    rw [nowO_yes hn, nowP_yes hn]
    generalize p.toNat / 2 ^ whiles t n = x
    simp
    omega
  show okB (flapP p t o n) (nowT p t o n) (flapO p t o n) = true
  rw [flapP_yes hn, flapO_yes hn, nowT_yes hn]
  generalize nowP p t o n = P at *
  generalize nowO p t o n = O at *
  have hm : (more P = P + 100 ∧ P + 100 ≤ 9999) ∨ more P = 9999 := by unfold more; omega
  generalize more P = M at *
  unfold okB
  by_cases h25 : 250 ≤ M
  · cases O <;> simp [h25] <;> omega
  · cases O
    · simp [h25]; omega
    · have := hO rfl; simp [h25]; omega
theorem playFrom_fine (l : List Int) : ∀ (d : Pain) (prev : Option Int) (e : Pain), fine d → playFrom d prev l = some e → fine e := by
  induction l with
  | nil => intro d prev e hd h; simp [playFrom] at h; subst h; exact hd
  | cons n r ih =>
    intro d prev e hd h
    cases hk : (okD d n && !early prev n)
    · rw [playFrom_bad hk] at h; simp at h
    · rw [playFrom_good hk] at h
      exact ih _ _ _ (flapD_fine (by simp at hk; exact hk.1)) h
theorem zeroD_fine : fine zeroD := by unfold fine okB zeroD; simp
theorem playD_fine (l : List Int) : fine (playD l).1 := by
  cases h : playFrom zeroD none l with
  | none => rw [playD_none h]; exact zeroD_fine
  | some d => rw [playD_some h]; exact playFrom_fine l _ _ _ zeroD_fine h
theorem fine_in {d : Pain} (h : fine d) : 0 ≤ d.1 ∧ d.1 ≤ 9999 ∧ 0 ≤ d.2.1 ∧ d.2.1 ≤ 100 := by
  obtain ⟨a, b, c, e, _⟩ := okB_in h; omega

/-- Some pain has been drawn off the reader in block k. -/
def DampPost (k : Nat) (a : Option Addr) (len cap : Nat) (zs : List Int) (p : Nat) (w : World) (e : Ending) (w' : World) : Prop :=
  ∃ (d : Pain) (p' : Nat), e = .returned (.agg #[.int .i64 d.1, .int .i64 d.2.1, .bool d.2.2]) ∧ 0 ≤ d.1 ∧ d.1 ≤ 9999 ∧ 0 ≤ d.2.1 ∧ d.2.1 ≤ 100 ∧ RdAt w' k a len cap zs p' ∧ p' ≤ p + 12 ∧ Only k w w'

set_option maxHeartbeats 1000000 in
theorem damp_any (k : Nat) (a : Option Addr) (len' cap : Nat) (zs : List Int) (p : Nat) (w : World) (h : RdAt w k a len' cap zs p) (hp : p ≤ 900) :
    Calls Try.prog 45 #[.pointer (some ⟨k, 0, none⟩)] w (DampPost k a len' cap zs p w) := by
  have hk := lt_of_cell h.c0
  simp only at hk
  have R := Lib.hid h
  clear h
  have B0 := Box3.new w (.int .i64 0) (.int .i64 0) (.bool false) 25
  go_enter Try.func45, Try.ntmps45
  go_wp2_with fail
  refine (times_any k a len' cap zs p _ ((R.out).alloc _) (by omega)).mono ?_
  rintro e w1 ⟨v, l, p1, rfl, hown, hl6, hr1, hp1, hO1⟩
  have R1 := Lib.hid hr1
  have hA1 : Only k w w1 := ((Only.refl _ _).alloc _).trans hO1
  have B1 := B0.only hO1 (by simp) (by omega)
  have hs1 := B1.size
  clear hr1
  go_wp2_with fail
  refine (specPlay_owned w1 hown).mono ?_
  rintro e w2 ⟨rfl, hb2⟩
  have hf := playD_fine l
  generalize playD l = D at hf
  obtain ⟨⟨P, T, O⟩, ok⟩ := D
  obtain ⟨f0, f1, f2, f3⟩ := fine_in hf
  simp only at f0 f1 f2 f3
  have B2 := B1.below hb2 hs1
  have hs2 := hb2.size
  have R2 := Lib.hid ((R1.out).below hb2 (by omega))
  have hA2 : Only k w w2 := hA1.trans (Only.of_below hb2)
  have B3 := B2.alloc (.cells #[.int .i64 P, .int .i64 T, .bool O] 25)
  clear hf hown
  go_wp2_with fail
  have R := R2
  refine (pick_any 24 k a len' cap zs p1 _ (by omega) ((R2.out).alloc _) (by omega)).mono ?_
  rintro e w3 ⟨x, rfl, x0, x1, hr3, hO3, hs3⟩
  have B4 := B3.only hO3 (by simp; omega) (by omega)
  have hA3 : Only k w w3 := (hA2.alloc _).trans hO3
  have V := (Box3.new w2 (.int .i64 P) (.int .i64 T) (.bool O) 25).only hO3 (by simp) (by omega)
  have R3 := Lib.hid hr3
  clear hr3 R
  have R := R3
  by_cases hx : x = 0
  · have hx' : (x == 0) = true := by simp [hx]
    clear hx
    go_wp2_with (first | (go_at_call_of 40 (Value.int IntKind.i64 400); refine (pick_any _ k a len' cap zs _ _ (by omega) (by first | exact R.out | exact (R.out).drew | exact (R.out).alloc _ | exact ((R.out).alloc _).drew | exact (R.out).drewN _) (by omega)).mono ?_; rintro e w1 ⟨xp, rfl, xp0, xp1, hr, hO, hs⟩; (try simp at hs); have R := Lib.hid hr; have hA : Only k w w1 := (by refine Only.trans ?_ hO; repeat (first | exact Only.refl _ _ | assumption | refine Only.drew ?_ | refine Only.drewN ?_ _ | refine Only.alloc ?_ _)); obtain ⟨hc1, hf1⟩ := hO.cells; clear hr; have B4 := B4.only hO B4.size (by omega); have r0 := B4.c0; have r1 := B4.c1; have r2 := B4.c2; have g0 := B4.f0; have g1 := B4.f1; have g2 := B4.f2) | (go_at_call_of 40 (Value.int IntKind.i64 101); refine (pick_any _ k a len' cap zs _ _ (by omega) (by first | exact R.out | exact (R.out).drew | exact (R.out).alloc _ | exact ((R.out).alloc _).drew | exact (R.out).drewN _) (by omega)).mono ?_; rintro e w1 ⟨xt, rfl, xt0, xt1, hr, hO, hs⟩; (try simp at hs); have R := Lib.hid hr; have hA : Only k w w1 := (by refine Only.trans ?_ hO; repeat (first | exact Only.refl _ _ | assumption | refine Only.drew ?_ | refine Only.drewN ?_ _ | refine Only.alloc ?_ _)); obtain ⟨hc1, hf1⟩ := hO.cells; clear hr; have B4 := B4.only hO B4.size (by omega); have r0 := B4.c0; have r1 := B4.c1; have r2 := B4.c2; have g0 := B4.f0; have g1 := B4.f1; have g2 := B4.f2) | (go_at_call_of 40 (Value.int IntKind.i64 2); refine (pick_any _ k a len' cap zs _ _ (by omega) (by first | exact R.out | exact (R.out).drew | exact (R.out).alloc _ | exact ((R.out).alloc _).drew | exact (R.out).drewN _) (by omega)).mono ?_; rintro e w1 ⟨xo, rfl, xo0, xo1, hr, hO, hs⟩; (try simp at hs); have R := Lib.hid hr; have hA : Only k w w1 := (by refine Only.trans ?_ hO; repeat (first | exact Only.refl _ _ | assumption | refine Only.drew ?_ | refine Only.drewN ?_ _ | refine Only.alloc ?_ _)); obtain ⟨hc1, hf1⟩ := hO.cells; clear hr; have B4 := B4.only hO B4.size (by omega); have r0 := B4.c0; have r1 := B4.c1; have r2 := B4.c2; have g0 := B4.f0; have g1 := B4.f1; have g2 := B4.f2))
    have Z := B4.stores (.int .i64 xp) (.int .i64 xt) (.bool (xo == 0))
    have z0 := Z.c0
    have z1 := Z.c1
    have z2 := Z.c2
    refine bodyPost_ret (v := .agg #[.int .i64 xp, .int .i64 xt, .bool (xo == 0)]) (by simp [results, Try.results45, go_sem, z0, z1, z2]) rfl ?_
    exact ⟨(xp, xt, xo == 0), _, rfl, xp0, by simp only; omega, xt0, by simp only; omega, (R.out).below (B := w.heap.size) (by repeat (first | exact Below.refl _ _ | assumption | refine Below.drew ?_ | refine belowDrewN ?_ _ | refine Below.alloc ?_ (by first | exact Nat.le_refl _ | omega | (simp; done) | (simp; omega)) _ | refine Below.setCell ?_ (by first | exact Nat.le_refl _ | omega | (simp; done) | (simp; omega)) _)) hk, by omega, hA.thenBelow (by repeat (first | exact Below.refl _ _ | assumption | refine Below.drew ?_ | refine belowDrewN ?_ _ | refine Below.alloc ?_ (by first | exact Nat.le_refl _ | omega | (simp; done) | (simp; omega)) _ | refine Below.setCell ?_ (by first | exact Nat.le_refl _ | omega | (simp; done) | (simp; omega)) _))⟩
  · have hx' : (x == 0) = false := by simp [hx]
    clear hx
    have r0 := B4.c0
    have r1 := B4.c1
    have r2 := B4.c2
    have g0 := B4.f0
    have g1 := B4.f1
    have g2 := B4.f2
    have v0 := V.c0
    have v1 := V.c1
    have v2 := V.c2
    go_wp2_with fail
    have Z := B4.stores (.int .i64 P) (.int .i64 T) (.bool O)
    have z0 := Z.c0
    have z1 := Z.c1
    have z2 := Z.c2
    refine bodyPost_ret (v := .agg #[.int .i64 P, .int .i64 T, .bool O]) (by simp [results, Try.results45, go_sem, z0, z1, z2]) rfl ?_
    exact ⟨(P, T, O), _, rfl, f0, f1, f2, f3, (R.out).below (B := w.heap.size) (by repeat (first | exact Below.refl _ _ | assumption | refine Below.drew ?_ | refine belowDrewN ?_ _ | refine Below.alloc ?_ (by first | exact Nat.le_refl _ | omega | (simp; done) | (simp; omega)) _ | refine Below.setCell ?_ (by first | exact Nat.le_refl _ | omega | (simp; done) | (simp; omega)) _)) hk, by omega, hA3.thenBelow (by repeat (first | exact Below.refl _ _ | assumption | refine Below.drew ?_ | refine belowDrewN ?_ _ | refine Below.alloc ?_ (by first | exact Nat.le_refl _ | omega | (simp; done) | (simp; omega)) _ | refine Below.setCell ?_ (by first | exact Nat.le_refl _ | omega | (simp; done) | (simp; omega)) _))⟩

set_option maxHeartbeats 1000000 in
/-- The pain of DrawDampFree, of small numbers. -/
theorem drawFree_any (a : Option Addr) (len cap : Nat) (zs : List Int) (w : World) (h : IsRow .u8 w a len cap zs) :
    Calls Try.prog 28 #[.slice a len cap] w (SomeDamp w) := by
  obtain ⟨hm, hc⟩ := h.bounds
  have H := Lib.hid h
  clear h
  have B0 := Box3.new w (.int .i64 0) (.int .i64 0) (.bool false) 25
  go_enter Try.func28, Try.ntmps28
  go_wp2_with fail
  refine (l6Open_any _ _ _ zs _ ((H.out).alloc _) hm hc).mono ?_
  rintro e w1 ⟨len', rfl, rfl, hr⟩
  simp only [World.size_alloc] at hr
  have R := Lib.hid hr
  clear hr
  have B1 := B0.alloc (.cells #[.slice a len' cap, .int .i64 0] 57)
  go_wp2_with fail
  refine (damp_any (w.heap.size + 1) a len' cap zs 0 _ R.out (by omega)).mono ?_
  rintro e w2 ⟨⟨P, T, O⟩, p', rfl, f0, f1, f2, f3, hr2, hp2, hO2⟩
  have B2 := B1.only hO2 B1.size (by omega)
  have hB2 : Below w.heap.size w w2 := (by refine Below.trans ?_ (hO2.below (by omega) (by first | exact Nat.le_refl _ | omega | (simp; done) | (simp; omega))); repeat (first | exact Below.refl _ _ | assumption | refine Below.drew ?_ | refine belowDrewN ?_ _ | refine Below.alloc ?_ (by first | exact Nat.le_refl _ | omega | (simp; done) | (simp; omega)) _ | refine Below.setCell ?_ (by first | exact Nat.le_refl _ | omega | (simp; done) | (simp; omega)) _))
  have r0 := B2.c0
  have r1 := B2.c1
  have r2 := B2.c2
  have g0 := B2.f0
  have g1 := B2.f1
  have g2 := B2.f2
  clear hr2
  go_wp2_with fail
  have Z := B2.stores (.int .i64 P) (.int .i64 T) (.bool O)
  have z0 := Z.c0
  have z1 := Z.c1
  have z2 := Z.c2
  refine bodyPost_ret (v := .agg #[.int .i64 P, .int .i64 T, .bool O]) (by simp [results, Try.results28, go_sem, z0, z1, z2]) rfl ?_
  exact ⟨P, T, O, rfl, by omega, by omega, f2, by omega, by repeat (first | exact Below.refl _ _ | assumption | refine Below.drew ?_ | refine belowDrewN ?_ _ | refine Below.alloc ?_ (by first | exact Nat.le_refl _ | omega | (simp; done) | (simp; omega)) _ | refine Below.setCell ?_ (by first | exact Nat.le_refl _ | omega | (simp; done) | (simp; omega)) _)⟩
end Go.Proofs.Ytbjonkjigfnnnaa
