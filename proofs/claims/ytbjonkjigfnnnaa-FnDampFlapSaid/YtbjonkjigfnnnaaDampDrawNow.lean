/- A pain and a time that are drawn. -/
import Derived.Test.YtbjonkjigfnnnaaDampDraws
import Derived.Deep.DeepCutAuto
namespace Go.Proofs.Ytbjonkjigfnnnaa
open Go.RowKit
set_option linter.unusedVariables false

def SomeNow (w : World) (e : Ending) (w' : World) : Prop :=
  ∃ (p t : Int) (o : Bool) (now : Int), e = .returned (.tuple #[.agg #[.int .i64 p, .int .i64 t, .bool o], .int .i64 now]) ∧ Below w.heap.size w w'

theorem drawNow_ends {w W : World} {s0 s1 : Value} {n p t : Int} {o : Bool} {rest : List Value} (Z : Box3 W w.heap.size (.int .i64 p) (.int .i64 t) (.bool o)) (hB : Below w.heap.size w W) :
    bodyPost Try.prog Try.f31 (SomeNow w) Exit.ret { tmps := (s0 :: s1 :: .pointer (some ⟨w.heap.size, 0, none⟩) :: .int .i64 n :: rest).toArray, defers := [] } W := by
  have z0 := Z.c0
  have z1 := Z.c1
  have z2 := Z.c2
  refine bodyPost_ret (v := .tuple #[.agg #[.int .i64 p, .int .i64 t, .bool o], .int .i64 n]) (by simp [results, Try.results31, go_sem, z0, z1, z2]) rfl ⟨_, _, _, _, rfl, hB⟩

set_option maxHeartbeats 2000000 in
theorem drawNow_any (a : Option Addr) (len cap : Nat) (zs : List Int) (w : World) (h : IsRow .u8 w a len cap zs) :
    Calls Try.prog 31 #[.slice a len cap] w (SomeNow w) := by
  obtain ⟨hm, hc⟩ := h.bounds
  have H := Lib.hid h
  clear h
  have B0 := Box3.new w (.int .i64 0) (.int .i64 0) (.bool false) 25
  go_enter Try.func31, Try.ntmps31
  go_wp2_with fail
  refine (l6Open_any _ _ _ zs _ ((H.out).alloc _) hm hc).mono ?_
  rintro e w1 ⟨len', rfl, rfl, hr⟩
  simp only [World.size_alloc] at hr
  have R := Lib.hid hr
  clear hr
  have B1 := B0.alloc (.cells #[.slice a len' cap, .int .i64 0] 57)
  go_wp2_with fail
  refine (damp_any (w.heap.size + 1) a len' cap zs 0 _ R.out (by omega)).mono ?_
  rintro e w2 ⟨⟨P, T, O⟩, p', rfl, f0, f1, f2, f3, hr2, hp2, hO2⟩
  have B2 := B1.only hO2 B1.size (by omega)
  have hB2 : Below w.heap.size w w2 := (by refine Below.trans ?_ (hO2.below (by omega) (by first | exact Nat.le_refl _ | omega | (simp; done) | (simp; omega))); repeat (first | exact Below.refl _ _ | assumption | refine Below.drew ?_ | refine belowDrewN ?_ _ | refine Below.alloc ?_ (by first | exact Nat.le_refl _ | omega | (simp; done) | (simp; omega)) _ | refine Below.setCell ?_ (by first | exact Nat.le_refl _ | omega | (simp; done) | (simp; omega)) _))
  have hs2 := hO2.size
  simp only [World.size_alloc] at hs2
  have B4 := B2.alloc (.cells #[.int .i64 P, .int .i64 T, .bool O] 25)
  have V := Box3.new w2 (.int .i64 P) (.int .i64 T) (.bool O) 25
  have R := Lib.hid (hr2.alloc (.cells #[.int .i64 P, .int .i64 T, .bool O] 25))
  clear hr2
  have hB3 : Below w.heap.size w (w2.alloc (.cells #[.int .i64 P, .int .i64 T, .bool O] 25)) := by repeat (first | exact Below.refl _ _ | assumption | refine Below.drew ?_ | refine belowDrewN ?_ _ | refine Below.alloc ?_ (by first | exact Nat.le_refl _ | omega | (simp; done) | (simp; omega)) _ | refine Below.setCell ?_ (by first | exact Nat.le_refl _ | omega | (simp; done) | (simp; omega)) _)
  go_upto_region 3 with fail
  generalize w2.alloc (.cells #[.int .i64 P, .int .i64 T, .bool O] 25) = w3 at V B4 R hB3 ⊢
  have r0 := B4.c0
  have r1 := B4.c1
  have r2 := B4.c2
  have g0 := B4.f0
  have g1 := B4.f1
  have g2 := B4.f2
  have v0 := V.c0
  have v1 := V.c1
  have v2 := V.c2
  have hvz := V.size
  have hne : ¬ w2.heap.size = w.heap.size + 1 := by omega
  have hne2 : ¬ w2.heap.size = w.heap.size := by omega
  have hB := hB3
  go_region_held3 (fun w' => w'.cell? ⟨w2.heap.size, 0, none⟩ = some (.int .i64 P) ∧ w'.cell? ⟨w2.heap.size, 1, none⟩ = some (.int .i64 T) ∧ w'.cell? ⟨w2.heap.size, 2, none⟩ = some (.bool O)) ((simp [go_sem, *]))
    (first
      | (go_at_call 40; refine (pick_any _ (w.heap.size + 1) a len' cap zs _ _ (by omega) (by first | exact R.out | exact (R.out).drew) (by omega)).mono ?_; rintro e w1 ⟨x, rfl, x0, x1, hr, hO, hs⟩; (try simp at hs); have R := Lib.hid hr; have hB : Below w.heap.size w w1 := (by refine Below.trans ?_ (hO.below (by omega) (by first | exact Nat.le_refl _ | omega | (simp; done) | (simp; omega))); repeat (first | exact Below.refl _ _ | assumption | refine Below.drew ?_ | refine belowDrewN ?_ _ | refine Below.alloc ?_ (by first | exact Nat.le_refl _ | omega | (simp; done) | (simp; omega)) _ | refine Below.setCell ?_ (by first | exact Nat.le_refl _ | omega | (simp; done) | (simp; omega)) _)); have B4 := Box3.only (by first | exact B4 | exact B4.drew) hO (by first | exact B4.size | (simp; exact B4.size)) (by omega); have V := Box3.only (by first | exact V | exact V.drew) hO (by first | exact V.size | (simp; exact V.size)) (by omega); have r0 := B4.c0; have r1 := B4.c1; have r2 := B4.c2; have g0 := B4.f0; have g1 := B4.f1; have g2 := B4.f2; have v0 := V.c0; have v1 := V.c1; have v2 := V.c2; clear hr))
  all_goals
    go_wp2_with fail
    exact drawNow_ends (B4.stores _ _ _) (by repeat (first | exact Below.refl _ _ | assumption | refine Below.drew ?_ | refine belowDrewN ?_ _ | refine Below.alloc ?_ (by first | exact Nat.le_refl _ | omega | (simp; done) | (simp; omega)) _ | refine Below.setCell ?_ (by first | exact Nat.le_refl _ | omega | (simp; done) | (simp; omega)) _))

theorem drawFlap_any (a : Option Addr) (len cap : Nat) (zs : List Int) (w : World) (h : IsRow .u8 w a len cap zs) :
    Calls Try.prog 36 #[.slice a len cap] w (SomeNow w) := by
  have H := Lib.hid h
  clear h
  have B0 := Box3.new w (.int .i64 0) (.int .i64 0) (.bool false) 25
  go_enter Try.func36, Try.ntmps36
  go_wp2_with fail
  refine (drawNow_any _ _ _ zs _ ((H.out).alloc _)).mono ?_
  rintro e w1 ⟨p, t, o, now, rfl, hb1⟩
  have B1 := B0.below hb1 B0.size
  have hB1 : Below w.heap.size w w1 := (by refine Below.trans ?_ (hb1.mono (by first | exact Nat.le_refl _ | omega | (simp; done) | (simp; omega))); repeat (first | exact Below.refl _ _ | assumption | refine Below.drew ?_ | refine belowDrewN ?_ _ | refine Below.alloc ?_ (by first | exact Nat.le_refl _ | omega | (simp; done) | (simp; omega)) _ | refine Below.setCell ?_ (by first | exact Nat.le_refl _ | omega | (simp; done) | (simp; omega)) _))
  have r0 := B1.c0
  have r1 := B1.c1
  have r2 := B1.c2
  have g0 := B1.f0
  have g1 := B1.f1
  have g2 := B1.f2
  go_wp2_with fail
  have Z := B1.stores (.int .i64 p) (.int .i64 t) (.bool o)
  have z0 := Z.c0
  have z1 := Z.c1
  have z2 := Z.c2
  exact bodyPost_ret (v := .tuple #[.agg #[.int .i64 p, .int .i64 t, .bool o], .int .i64 now]) (by simp [results, Try.results36, go_sem, z0, z1, z2]) rfl ⟨_, _, _, _, rfl, by repeat (first | exact Below.refl _ _ | assumption | refine Below.drew ?_ | refine belowDrewN ?_ _ | refine Below.alloc ?_ (by first | exact Nat.le_refl _ | omega | (simp; done) | (simp; omega)) _ | refine Below.setCell ?_ (by first | exact Nat.le_refl _ | omega | (simp; done) | (simp; omega)) _)⟩
end Go.Proofs.Ytbjonkjigfnnnaa
