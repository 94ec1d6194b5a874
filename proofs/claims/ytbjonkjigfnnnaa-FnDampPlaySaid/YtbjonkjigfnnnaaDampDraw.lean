/- What is drawn: a pain, whatever it is. -/
import Derived.Test.YtbjonkjigfnnnaaKit
import Derived.Test.YtbjonkjigfnnnaaDampA
import Derived.Deep.RegionWith
import Derived.Deep.RegionHeld3
import Derived.Deep.DeepMust
namespace Go.Proofs.Ytbjonkjigfnnnaa
open Go.RowKit
set_option linter.unusedVariables false

/-- Some pain has been drawn, of small numbers; nothing that was there has turned. -/
def SomeDamp (w : World) (e : Ending) (w' : World) : Prop :=
  ∃ (p t : Int) (o : Bool), e = .returned (.agg #[.int .i64 p, .int .i64 t, .bool o]) ∧ -1 ≤ p ∧ p ≤ 10000 ∧ 0 ≤ t ∧ t ≤ 200 ∧ Below w.heap.size w w'

def sel (x : Int) (a b : Int) : Int := if x = 0 then a else if x = 1 then b else if x = 2 then -1 else 10000
theorem sel_eq (x : Int) (h0 : 0 ≤ x) (h4 : x < 4) (a b : Int) (h : x.toNat < ([.int .i64 a, .int .i64 b, .int .i64 (-1), .int .i64 10000] : List Value).length) :
    ([.int .i64 a, .int .i64 b, .int .i64 (-1), .int .i64 10000] : List Value)[x.toNat]'h = .int .i64 (sel x a b) := by
  have : x = 0 ∨ x = 1 ∨ x = 2 ∨ x = 3 := by omega
  rcases this with rfl | rfl | rfl | rfl <;> simp [sel]
theorem sel_in (x : Int) (h0 : 0 ≤ x) (h4 : x < 4) (a b : Int) (a0 : 0 ≤ a) (a1 : a < 100) (b0 : 0 ≤ b) (b1 : b < 300) : -1 ≤ sel x a b ∧ sel x a b ≤ 10000 := by
  unfold sel; split <;> (try split) <;> (try split) <;> omega

theorem drawOk_ends {w W : World} {s0 s1 : Value} {rest : List Value} {p t : Int} {o : Bool} (h0 : W.cell? ⟨w.heap.size, 0, none⟩ = some (.int .i64 p)) (h1 : W.cell? ⟨w.heap.size, 1, none⟩ = some (.int .i64 t)) (h2 : W.cell? ⟨w.heap.size, 2, none⟩ = some (.bool o))
    (p0 : -1 ≤ p) (p1 : p ≤ 10000) (t0 : 0 ≤ t) (t1 : t ≤ 200) (hB : Below w.heap.size w W) :
    bodyPost Try.prog Try.f22 (SomeDamp w) Exit.ret { tmps := (s0 :: s1 :: .pointer (some ⟨w.heap.size, 0, none⟩) :: rest).toArray, defers := [] } W := by
  refine bodyPost_ret (v := .agg #[.int .i64 p, .int .i64 t, .bool o]) (by simp [results, Try.results22, go_sem, h0, h1, h2]) rfl ⟨_, _, _, rfl, p0, p1, t0, t1, hB⟩

set_option maxHeartbeats 4000000 in
theorem drawOk_any (a : Option Addr) (len cap : Nat) (zs : List Int) (w : World) (h : IsRow .u8 w a len cap zs) (hm : len ≤ cap) (hc : cap ≤ maxLen) :
    Calls Try.prog 22 #[.slice a len cap] w (SomeDamp w) := by
  unfold maxLen at hc
  go_enter Try.func22, Try.ntmps22
  have H := Lib.hid h
  clear h
  go_wp2_with (go_at_call 39; refine (l6Open_any _ _ _ zs _ (H.out.alloc _) (by omega) (by unfold maxLen; omega)).mono ?_; rintro e w1 ⟨len', rfl, rfl, hr⟩; simp only [World.size_alloc] at hr; have R := Lib.hid hr; clear hr)
  go_region_with (first | (go_at_call_of 40 (Value.int IntKind.i64 100); refine (pick_any _ (w.heap.size + 1) a len' cap zs _ _ (by omega) (by first | exact R.out | exact (R.out).drew | exact (R.out).alloc _ | exact ((R.out).alloc _).drew) (by omega)).mono ?_; rintro e w1 ⟨xa, rfl, xa0, xa1, hr, hO, hs⟩; (try simp at hs); have R := Lib.hid hr; have hB : Below w.heap.size w w1 := (by refine Below.trans ?_ (hO.below (by first | exact Nat.le_refl _ | omega | (simp; done) | (simp; omega)) (by first | exact Nat.le_refl _ | omega | (simp; done) | (simp; omega))); repeat (first | exact Below.refl _ _ | assumption | refine Below.drew ?_ | refine belowDrewN ?_ _ | refine Below.alloc ?_ (by first | exact Nat.le_refl _ | omega | (simp; done) | (simp; omega)) _ | refine Below.setCell ?_ (by first | exact Nat.le_refl _ | omega | (simp; done) | (simp; omega)) _)); obtain ⟨hc1, hf1⟩ := hO.cells; clear hr) | (go_at_call_of 40 (Value.int IntKind.i64 300); refine (pick_any _ (w.heap.size + 1) a len' cap zs _ _ (by omega) (by first | exact R.out | exact (R.out).drew | exact (R.out).alloc _ | exact ((R.out).alloc _).drew) (by omega)).mono ?_; rintro e w1 ⟨xb, rfl, xb0, xb1, hr, hO, hs⟩; (try simp at hs); have R := Lib.hid hr; have hB : Below w.heap.size w w1 := (by refine Below.trans ?_ (hO.below (by first | exact Nat.le_refl _ | omega | (simp; done) | (simp; omega)) (by first | exact Nat.le_refl _ | omega | (simp; done) | (simp; omega))); repeat (first | exact Below.refl _ _ | assumption | refine Below.drew ?_ | refine belowDrewN ?_ _ | refine Below.alloc ?_ (by first | exact Nat.le_refl _ | omega | (simp; done) | (simp; omega)) _ | refine Below.setCell ?_ (by first | exact Nat.le_refl _ | omega | (simp; done) | (simp; omega)) _)); obtain ⟨hc1, hf1⟩ := hO.cells; clear hr) | (go_at_call_of 40 (Value.int IntKind.i64 102); refine (pick_any _ (w.heap.size + 1) a len' cap zs _ _ (by omega) (by first | exact R.out | exact (R.out).drew | exact (R.out).alloc _ | exact ((R.out).alloc _).drew) (by omega)).mono ?_; rintro e w1 ⟨xt, rfl, xt0, xt1, hr, hO, hs⟩; (try simp at hs); have R := Lib.hid hr; have hB : Below w.heap.size w w1 := (by refine Below.trans ?_ (hO.below (by first | exact Nat.le_refl _ | omega | (simp; done) | (simp; omega)) (by first | exact Nat.le_refl _ | omega | (simp; done) | (simp; omega))); repeat (first | exact Below.refl _ _ | assumption | refine Below.drew ?_ | refine belowDrewN ?_ _ | refine Below.alloc ?_ (by first | exact Nat.le_refl _ | omega | (simp; done) | (simp; omega)) _ | refine Below.setCell ?_ (by first | exact Nat.le_refl _ | omega | (simp; done) | (simp; omega)) _)); obtain ⟨hc1, hf1⟩ := hO.cells; clear hr) | (go_at_call_of 40 (Value.int IntKind.i64 2); refine (pick_any _ (w.heap.size + 1) a len' cap zs _ _ (by omega) (by first | exact R.out | exact (R.out).drew | exact (R.out).alloc _ | exact ((R.out).alloc _).drew) (by omega)).mono ?_; rintro e w1 ⟨xo, rfl, xo0, xo1, hr, hO, hs⟩; (try simp at hs); have R := Lib.hid hr; have hB : Below w.heap.size w w1 := (by refine Below.trans ?_ (hO.below (by first | exact Nat.le_refl _ | omega | (simp; done) | (simp; omega)) (by first | exact Nat.le_refl _ | omega | (simp; done) | (simp; omega))); repeat (first | exact Below.refl _ _ | assumption | refine Below.drew ?_ | refine belowDrewN ?_ _ | refine Below.alloc ?_ (by first | exact Nat.le_refl _ | omega | (simp; done) | (simp; omega)) _ | refine Below.setCell ?_ (by first | exact Nat.le_refl _ | omega | (simp; done) | (simp; omega)) _)); obtain ⟨hc1, hf1⟩ := hO.cells; clear hr) | ((go_at_call_of 40 (Value.int IntKind.i64 4); refine (pick_any _ (w.heap.size + 1) a len' cap zs _ _ (by omega) (by first | exact R.out | exact (R.out).drew | exact (R.out).alloc _ | exact ((R.out).alloc _).drew) (by omega)).mono ?_; rintro e w1 ⟨x4, rfl, x40, x41, hr, hO, hs⟩; (try simp at hs); have R := Lib.hid hr; have hB : Below w.heap.size w w1 := (by refine Below.trans ?_ (hO.below (by first | exact Nat.le_refl _ | omega | (simp; done) | (simp; omega)) (by first | exact Nat.le_refl _ | omega | (simp; done) | (simp; omega))); repeat (first | exact Below.refl _ _ | assumption | refine Below.drew ?_ | refine belowDrewN ?_ _ | refine Below.alloc ?_ (by first | exact Nat.le_refl _ | omega | (simp; done) | (simp; omega)) _ | refine Below.setCell ?_ (by first | exact Nat.le_refl _ | omega | (simp; done) | (simp; omega)) _)); obtain ⟨hc1, hf1⟩ := hO.cells; clear hr); have hsel := sel_eq x4 x40 x41))
  all_goals
    go_wp2
    have q0 : w1.cell? ⟨w.heap.size, 0, none⟩ = some (.int .i64 0) := by simp [*, go_sem]
    have q1 : w1.cell? ⟨w.heap.size, 1, none⟩ = some (.int .i64 0) := by simp [*, go_sem]
    have q2 : w1.cell? ⟨w.heap.size, 2, none⟩ = some (.bool false) := by simp [*, go_sem]
    obtain ⟨z0, z1, z2⟩ := stores3 (v0 := .int .i64 (sel x4 xa xb)) (v1 := .int .i64 xt) (v2 := .bool (xo == 0)) q0 q1 q2
    have hl : w.heap.size < w1.heap.size := by first | omega | (simp [*]; omega)
    first
      | exact drawOk_ends z0 z1 z2 (sel_in x4 x40 x41 xa xb xa0 xa1 xb0 xb1).1 (sel_in x4 x40 x41 xa xb xa0 xa1 xb0 xb1).2 (by omega) (by omega) (by repeat (first | exact Below.refl _ _ | assumption | refine Below.drew ?_ | refine belowDrewN ?_ _ | refine Below.alloc ?_ (by first | exact Nat.le_refl _ | omega | (simp; done) | (simp; omega)) _ | refine Below.setCell ?_ (by first | exact Nat.le_refl _ | omega | (simp; done) | (simp; omega)) _))
      | exact drawOk_ends ((World.cell?_alloc_lt _ _ _ (by simpa using hl)).trans z0) ((World.cell?_alloc_lt _ _ _ (by simpa using hl)).trans z1) ((World.cell?_alloc_lt _ _ _ (by simpa using hl)).trans z2) (sel_in x4 x40 x41 xa xb xa0 xa1 xb0 xb1).1 (sel_in x4 x40 x41 xa xb xa0 xa1 xb0 xb1).2 (by omega) (by omega) (by repeat (first | exact Below.refl _ _ | assumption | refine Below.drew ?_ | refine belowDrewN ?_ _ | refine Below.alloc ?_ (by first | exact Nat.le_refl _ | omega | (simp; done) | (simp; omega)) _ | refine Below.setCell ?_ (by first | exact Nat.le_refl _ | omega | (simp; done) | (simp; omega)) _))
end Go.Proofs.Ytbjonkjigfnnnaa
