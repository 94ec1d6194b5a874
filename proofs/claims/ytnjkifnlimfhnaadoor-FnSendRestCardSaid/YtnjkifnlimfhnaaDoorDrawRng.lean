/- spec.l91Range: some range is drawn. -/
import Derived.Test.YtnjkifnlimfhnaaDoorSendExactWay
import Derived.Deep.RegionWith
import Derived.Deep.RegionLaw
namespace Go.Proofs.YtnjkifnlimfhnaaDoor
open Go.RowKit
set_option linter.unusedVariables false

theorem RdAt.lt {w : World} {k : Nat} {a : Option Addr} {len cap : Nat} {zs : List Int} {p : Nat} (h : RdAt w k a len cap zs p) : k < w.heap.size := lt_of_cell h.c0
theorem RdAt.below {w w' : World} {k : Nat} {a : Option Addr} {len cap : Nat} {zs : List Int} {p : Nat} (h : RdAt w k a len cap zs p) (hb : Below w.heap.size w w') : RdAt w' k a len cap zs p := by
  have hk := h.lt
  refine ⟨(hb.cell (p := ⟨k, 0, none⟩) hk).trans h.c0, (hb.cell (p := ⟨k, 1, none⟩) hk).trans h.c1, (hb.frozen (p := ⟨k, 1, none⟩) hk).trans h.f1, ?_, h.far, h.short⟩
  rcases h.row with r | ⟨x, hx, h1, h2, h3, h4, h5⟩
  · exact .inl r
  · exact .inr ⟨x, hx, h1, h2, h3, fun i hi => (hb.cell (p := x.add i) (lt_of_cell (h4 i hi))).trans (h4 i hi), h5⟩
/-- a row beside the reader and its code is written -/
theorem RdAt.grown {w w' : World} {k : Nat} {a : Option Addr} {len cap : Nat} {zs : List Int} {p lo : Nat} {row : Option Nat} (h : RdAt w k a len cap zs p) (hg : w.grownBy w' row) (hrow : ∀ g, row = some g → lo ≤ g) (hk : k < lo) : RdAt w' k a len cap zs p := by
  have key : ∀ b, b < w.heap.size → b ≤ k → w'.heap[b]? = w.heap[b]? := fun b hb hle => hg.block b hb (by intro e; have := hrow b e.symm; omega)
  have hkw := h.lt
  refine ⟨(World.cell?_of_block (key k hkw (Nat.le_refl _))).trans h.c0, (World.cell?_of_block (key k hkw (Nat.le_refl _))).trans h.c1, (World.frozen?_of_block (key k hkw (Nat.le_refl _))).trans h.f1, ?_, h.far, h.short⟩
  rcases h.row with r | ⟨x, hx, h1, h2, h3, h4, h5⟩
  · exact .inl r
  · refine .inr ⟨x, hx, h1, h2, h3, fun i hi => ?_, h5⟩
    have hxk := h.far x hx (by omega)
    refine (World.cell?_of_block (key (x.add i).block (lt_of_cell (h4 i hi)) ?_)).trans (h4 i hi)
    rw [add_block]; omega
theorem Only.grown {k : Nat} {a w w' : World} {row : Option Nat} (h : Only k a w) (hg : w.grownBy w' row) (hrow : ∀ g, row = some g → a.heap.size ≤ g) : Only k a w' := by
  refine ⟨hg.os.trans h.os, hg.tape.trans h.tape, hg.output.trans h.output, Nat.le_trans h.size hg.size, fun b hb hk => (hg.block b (Nat.lt_of_lt_of_le hb h.size) ?_).trans (h.block b hb hk)⟩
  intro e; have := hrow b e.symm; omega

theorem Only.setFar {k g i : Nat} {a w : World} {u : Value} (h : Only k a w) (hg : a.heap.size ≤ g) : Only k a (w.setCell ⟨g, i, none⟩ u) :=
  ⟨h.os, h.tape, h.output, by rw [show (w.setCell ⟨g, i, none⟩ u).heap.size = w.heap.size by simp [World.setCell]]; exact h.size, fun b hb hk => (Below.heap_setCell _ _ _ _ (by intro e; simp at e; omega)).trans (h.block b hb hk)⟩
theorem RdAt.off {w : World} {k g i lo : Nat} {a : Option Addr} {len cap : Nat} {zs : List Int} {p : Nat} {u : Value} (h : RdAt w k a len cap zs p) (hg : lo ≤ g) (hk : k < lo) : RdAt (w.setCell ⟨g, i, none⟩ u) k a len cap zs p := by
  have key : ∀ q : Addr, q.block ≤ k → (w.setCell ⟨g, i, none⟩ u).cell? q = w.cell? q := fun q hq => World.cell?_of_block (Below.heap_setCell _ _ _ _ (by intro e; simp at e; omega))
  have keyf : ∀ q : Addr, q.block ≤ k → (w.setCell ⟨g, i, none⟩ u).frozen? q = w.frozen? q := fun q hq => World.frozen?_of_block (Below.heap_setCell _ _ _ _ (by intro e; simp at e; omega))
  refine ⟨(key ⟨k, 0, none⟩ (Nat.le_refl _)).trans h.c0, (key ⟨k, 1, none⟩ (Nat.le_refl _)).trans h.c1, (keyf ⟨k, 1, none⟩ (Nat.le_refl _)).trans h.f1, ?_, h.far, h.short⟩
  rcases h.row with r | ⟨x, hx, h1, h2, h3, h4, h5⟩
  · exact .inl r
  · refine .inr ⟨x, hx, h1, h2, h3, fun i hi => (key (x.add i) ?_).trans (h4 i hi), h5⟩
    have := h.far x hx (by omega)
    rw [add_block]; omega
theorem stores2 {w1 : World} {B : Nat} {u0 u1 v0 v1 : Value} (h0 : w1.cell? ⟨B, 0, none⟩ = some u0) (h1 : w1.cell? ⟨B, 1, none⟩ = some u1) :
    ((w1.setCell ⟨B, 0, none⟩ v0).setCell ⟨B, 1, none⟩ v1).cell? ⟨B, 0, none⟩ = some v0 ∧ ((w1.setCell ⟨B, 0, none⟩ v0).setCell ⟨B, 1, none⟩ v1).cell? ⟨B, 1, none⟩ = some v1 := by
  refine ⟨?_, ?_⟩
  · rw [World.cell?_setCell_other _ _ _ _ (by simp)]; exact World.cell?_setCell_same _ _ _ h0
  · exact World.cell?_setCell_same _ _ _ ((World.cell?_setCell_other _ _ _ _ (by simp)).trans h1)
theorem rng_ends {k : Nat} {a : Option Addr} {len' cap : Nat} {zs : List Int} {p q : Nat} {w W : World} (hR : RdAt W k a len' cap zs q) (hA : Only k w W) (hkw : k < w.heap.size) (hp : p ≤ q) (hq : q ≤ p + 8) (u v : Value) :
    (∃ q, p ≤ q ∧ q ≤ p + 8 ∧ RdAt ((W.setCell ⟨w.heap.size, 0, none⟩ u).setCell ⟨w.heap.size, 1, none⟩ v) k a len' cap zs q) ∧ Only k w ((W.setCell ⟨w.heap.size, 0, none⟩ u).setCell ⟨w.heap.size, 1, none⟩ v) :=
  ⟨⟨q, hp, hq, RdAt.off (lo := w.heap.size) (RdAt.off (lo := w.heap.size) hR (Nat.le_refl _) hkw) (Nat.le_refl _) hkw⟩, Only.setFar (Only.setFar hA (Nat.le_refl _)) (Nat.le_refl _)⟩
def sel3 (x a b c : Int) : Int := if x = 0 then a else if x = 1 then b else c
theorem sel3_eq (x : Int) (h0 : 0 ≤ x) (h4 : x < 3) (a b c : Int) (h : x.toNat < ([.int .i64 a, .int .i64 b, .int .i64 c] : List Value).length) :
    ([.int .i64 a, .int .i64 b, .int .i64 c] : List Value)[x.toNat]'h = .int .i64 (sel3 x a b c) := by
  have : x = 0 ∨ x = 1 ∨ x = 2 := by omega
  rcases this with rfl | rfl | rfl <;> simp [sel3]
theorem sel3_in (x a b c lo hi : Int) (h1 : lo ≤ a ∧ a ≤ hi) (h2 : lo ≤ b ∧ b ≤ hi) (h3 : lo ≤ c ∧ c ≤ hi) : lo ≤ sel3 x a b c ∧ sel3 x a b c ≤ hi := by
  unfold sel3; split <;> (try split) <;> omega
theorem quo_facts (x S : Int) (h0 : 0 ≤ x) (h1 : x < 256) (hS : 0 < S) : ∃ Q M : Int, x.tdiv S = Q ∧ IntKind.i64.wrap Q = Q ∧ 0 ≤ Q ∧ Q ≤ 255 ∧ Q * S = M ∧ IntKind.i64.wrap M = M ∧ 0 ≤ M ∧ M ≤ 255 := by
  have a0 : 0 ≤ x / S := Int.ediv_nonneg h0 (by omega)
  have a1 : x / S ≤ 255 := by have := Int.ediv_le_self S h0; omega
  have b0 : 0 ≤ x / S * S := Int.mul_nonneg a0 (by omega)
  have b1 : x / S * S ≤ 255 := by have := Int.ediv_mul_le x (show S ≠ 0 by omega); omega
  exact ⟨x / S, x / S * S, Int.tdiv_eq_ediv_of_nonneg h0, IntWalk.i64_in _ (by omega), a0, a1, rfl, IntWalk.i64_in _ (by omega), b0, b1⟩
def RngPost (k : Nat) (a : Option Addr) (len' cap : Nat) (zs : List Int) (p : Nat) (w : World) (e : Ending) (w' : World) : Prop :=
  ∃ f b : Int, e = .returned (.agg #[.int .i64 f, .int .i64 b]) ∧ -2 ≤ f ∧ f ≤ 257 ∧ -1 ≤ b ∧ b ≤ 9 ∧ (∃ q, p ≤ q ∧ q ≤ p + 8 ∧ RdAt w' k a len' cap zs q) ∧ Only k w w'
set_option maxRecDepth 100000 in
set_option maxHeartbeats 8000000 in
theorem l91Range_any (k : Nat) (a : Option Addr) (len' cap : Nat) (zs : List Int) (p : Nat) (w : World) (hp : p ≤ 95000) (hkw : k < w.heap.size) (hR : RdAt w k a len' cap zs p) :
    Calls Tryd.prog 41 #[.pointer (some ⟨k, 0, none⟩)] w (RngPost k a len' cap zs p w) := by
  have R := Lib.hid hR
  have hA := Only.refl k w
  have hne0 : w.heap.size ≠ k := by omega
  have hne2 : w.heap.size + 1 + 1 ≠ k := by omega
  clear hR
  unfold RngPost
  go_enter Tryd.func41, Tryd.ntmps41
  go_wp2_with fail
  refine (pick_any 9 k a len' cap zs _ _ (by omega) (by first | exact R.out | exact (R.out).drew | exact (R.out).alloc _ | exact ((R.out).alloc _).drew | exact (R.out).drewN _) (by omega)).mono ?_
  rintro e w1 ⟨xa, rfl, xa0, xa1, hr, hO, hs⟩
  (try simp at hs)
  have R := Lib.hid hr
  have hA : Only k w w1 := (by refine Only.trans ?_ hO; repeat (first | exact Only.refl _ _ | assumption | refine Only.drew ?_ | refine Only.drewN ?_ _ | refine Only.alloc ?_ _))
  obtain ⟨hc1, hf1⟩ := hO.cells
  clear hr
  go_wp2_with fail
  refine (pick_any 4 k a len' cap zs _ _ (by omega) (by first | exact R.out | exact (R.out).drew | exact (R.out).alloc _ | exact ((R.out).alloc _).drew | exact (R.out).drewN _) (by omega)).mono ?_
  rintro e w2 ⟨xb, rfl, xb0, xb1, hr, hO, hs⟩
  (try simp at hs)
  have R := Lib.hid hr
  have hA : Only k w w2 := (by refine Only.trans ?_ hO; repeat (first | exact Only.refl _ _ | assumption | refine Only.drew ?_ | refine Only.drewN ?_ _ | refine Only.alloc ?_ _))
  obtain ⟨hc1, hf1⟩ := hO.cells
  clear hr
  go_wp2_with fail
  refine (pick_any 3 k a len' cap zs _ _ (by omega) (by first | exact R.out | exact (R.out).drew | exact (R.out).alloc _ | exact ((R.out).alloc _).drew | exact (R.out).drewN _) (by omega)).mono ?_
  rintro e w3 ⟨xc, rfl, xc0, xc1, hr, hO, hs⟩
  (try simp at hs)
  have R := Lib.hid hr
  have hA : Only k w w3 := (by refine Only.trans ?_ hO; repeat (first | exact Only.refl _ _ | assumption | refine Only.drew ?_ | refine Only.drewN ?_ _ | refine Only.alloc ?_ _))
  obtain ⟨hc1, hf1⟩ := hO.cells
  clear hr
  go_wp2_with fail
  refine (pick_any 3 k a len' cap zs _ _ (by omega) (by first | exact R.out | exact (R.out).drew | exact (R.out).alloc _ | exact ((R.out).alloc _).drew | exact (R.out).drewN _) (by omega)).mono ?_
  rintro e w4 ⟨xd, rfl, xd0, xd1, hr, hO, hs⟩
  (try simp at hs)
  have R := Lib.hid hr
  have hA : Only k w w4 := (by refine Only.trans ?_ hO; repeat (first | exact Only.refl _ _ | assumption | refine Only.drew ?_ | refine Only.drewN ?_ _ | refine Only.alloc ?_ _))
  obtain ⟨hc1, hf1⟩ := hO.cells
  clear hr
  have hin := sel3_in xd xa (1 + xb) (2 + xc) 0 8 (by omega) (by omega) (by omega)
  obtain ⟨B, hB⟩ : ∃ B, sel3 xd xa (1 + xb) (2 + xc) = B := ⟨_, rfl⟩
  rw [hB] at hin
  obtain ⟨b0, b8⟩ := hin
  have hcell : w4.cell? ⟨w.heap.size + 1, xd.toNat, none⟩ = some (.int .i64 B) := by
    rw [hc1 _ _ (by simp; omega) (by omega), show w.heap.size + 1 = w3.heap.size by omega, ← hB]
    have : xd = 0 ∨ xd = 1 ∨ xd = 2 := by omega
    rcases this with rfl | rfl | rfl <;> simp [sel3]
  clear hB
  have hsz4 : w4.heap.size = w.heap.size + 2 := by omega
  obtain ⟨S, hS⟩ : ∃ S, sizeF B = S := ⟨_, rfl⟩
  have hp := sizeF_pos B
  have hl := sizeF_le B b0
  have hsz : ∀ W, Calls Tryd.prog 52 #[.int .i64 B] W fun e w' => e = .returned (.int .i64 S) ∧ w' = W := fun W => by rw [← hS]; exact l1Size_any B b0 b8 W
  rw [hS] at hp hl
  have HS := Lib.hid hsz
  have hS0 : S ≠ 0 := by omega
  clear hsz hS
  go_wp2_with fail
  go_region_law (first
    | (go_simp; (go_at_call_of 40 (Value.int IntKind.i64 256); refine (pick_any _ k a len' cap zs _ _ (by omega) (by first | exact R.out | exact (R.out).drew | exact (R.out).alloc _ | exact ((R.out).alloc _).drew | exact (R.out).drewN _) (by omega)).mono ?_; rintro e w1 ⟨xp, rfl, xp0, xp1, hr, hO, hs⟩; (try simp at hs); have R := Lib.hid hr; have hA : Only k w w1 := (by refine Only.trans ?_ hO; repeat (first | exact Only.refl _ _ | assumption | refine Only.drew ?_ | refine Only.drewN ?_ _ | refine Only.alloc ?_ _)); obtain ⟨hc1, hf1⟩ := hO.cells; clear hr; obtain ⟨Q, M, hQt, hQw, hQ0, hQ1, hM, hMw, hM0, hM1⟩ := quo_facts xp S xp0 xp1 hp; have y0 : w1.cell? ⟨w.heap.size + 1 + 1, 0, none⟩ = some (.int .i64 0) := (by rw [hc1 _ _ (by simp; omega) (by omega), show w.heap.size + 1 + 1 = w4.heap.size by omega]; simp); have y1 : w1.cell? ⟨w.heap.size + 1 + 1, 1, none⟩ = some (.int .i64 B) := (by rw [hc1 _ _ (by simp; omega) (by omega), show w.heap.size + 1 + 1 = w4.heap.size by omega]; simp); have z0 : w1.frozen? ⟨w.heap.size + 1 + 1, 0, none⟩ = false := (by rw [hf1 _ _ (by simp; omega) (by omega), show w.heap.size + 1 + 1 = w4.heap.size by omega]; simp); have z1 : w1.frozen? ⟨w.heap.size + 1 + 1, 1, none⟩ = false := (by rw [hf1 _ _ (by simp; omega) (by omega), show w.heap.size + 1 + 1 = w4.heap.size by omega]; simp)))
    | (go_simp; go_at_call 52; refine (HS.out _).mono ?_; rintro e wz ⟨rfl, rfl⟩))
  all_goals
    have hzz : wz.heap.size = w.heap.size + 1 + 1 + 1 := by first | omega | (simp at *; omega)
    have R := Lib.hid (RdAt.off (g := w.heap.size + 1 + 1) (i := 0) (u := .int .i64 M) (lo := w.heap.size + 1 + 1) R.out (Nat.le_refl _) (by omega))
    have hA := Only.setFar (g := w.heap.size + 1 + 1) (i := 0) (u := .int .i64 M) hA (by omega)
    go_wp2_with fail
    refine (pick_any 40 k a len' cap zs _ _ (by omega) (by first | exact R.out | exact (R.out).drew | exact (R.out).alloc _ | exact ((R.out).alloc _).drew | exact (R.out).drewN _) (by omega)).mono ?_
    rintro e w6 ⟨xq, rfl, xq0, xq1, hr, hO, hs⟩
    (try simp at hs)
    have R := Lib.hid hr
    have hA : Only k w w6 := (by refine Only.trans ?_ hO; repeat (first | exact Only.refl _ _ | assumption | refine Only.drew ?_ | refine Only.drewN ?_ _ | refine Only.alloc ?_ _))
    obtain ⟨hc1, hf1⟩ := hO.cells
    clear hr
    by_cases hq0 : xq = 0
    · subst hq0
      go_wp2_with fail
      refine (pick_any 260 k a len' cap zs _ _ (by omega) (by first | exact R.out | exact (R.out).drew | exact (R.out).alloc _ | exact ((R.out).alloc _).drew | exact (R.out).drewN _) (by omega)).mono ?_
      rintro e w7 ⟨xf, rfl, xf0, xf1, hr, hO, hs⟩
      (try simp at hs)
      have R := Lib.hid hr
      have hA : Only k w w7 := (by refine Only.trans ?_ hO; repeat (first | exact Only.refl _ _ | assumption | refine Only.drew ?_ | refine Only.drewN ?_ _ | refine Only.alloc ?_ _))
      obtain ⟨hc1, hf1⟩ := hO.cells
      clear hr
      go_wp2_with fail
      refine (pick_any 11 k a len' cap zs _ _ (by omega) (by first | exact R.out | exact (R.out).drew | exact (R.out).alloc _ | exact ((R.out).alloc _).drew | exact (R.out).drewN _) (by omega)).mono ?_
      rintro e w8 ⟨xg, rfl, xg0, xg1, hr, hO, hs⟩
      (try simp at hs)
      have R := Lib.hid hr
      have hA : Only k w w8 := (by refine Only.trans ?_ hO; repeat (first | exact Only.refl _ _ | assumption | refine Only.drew ?_ | refine Only.drewN ?_ _ | refine Only.alloc ?_ _))
      obtain ⟨hc1, hf1⟩ := hO.cells
      clear hr
      go_wp2_with fail
      have q0 : w8.cell? ⟨w.heap.size, 0, none⟩ = some (.int .i64 0) := by simp [*, go_sem]
      have q1 : w8.cell? ⟨w.heap.size, 1, none⟩ = some (.int .i64 0) := by simp [*, go_sem]
      obtain ⟨z0, z1⟩ := stores2 (v0 := .int .i64 (xf - 2)) (v1 := .int .i64 (xg - 1)) q0 q1
      refine bodyPost_ret (v := .agg #[.int .i64 (xf - 2), .int .i64 (xg - 1)]) (by simp [results, Tryd.results41, go_sem, z0, z1]) rfl ?_
      exact ⟨_, _, rfl, by omega, by omega, by omega, by omega, rng_ends R.out hA hkw (by omega) (by omega) _ _⟩
    · have hqb : (xq == 0) = false := by simp [hq0]
      go_wp2_with fail
      have q0 : w6.cell? ⟨w.heap.size, 0, none⟩ = some (.int .i64 0) := by simp [*, go_sem]
      have q1 : w6.cell? ⟨w.heap.size, 1, none⟩ = some (.int .i64 0) := by simp [*, go_sem]
      obtain ⟨z0, z1⟩ := stores2 (v0 := .int .i64 M) (v1 := .int .i64 B) q0 q1
      refine bodyPost_ret (v := .agg #[.int .i64 M, .int .i64 B]) (by simp [results, Tryd.results41, go_sem, z0, z1]) rfl ?_
      exact ⟨_, _, rfl, by omega, by omega, by omega, by omega, rng_ends R.out hA hkw (by omega) (by omega) _ _⟩
end Go.Proofs.YtnjkifnlimfhnaaDoor
