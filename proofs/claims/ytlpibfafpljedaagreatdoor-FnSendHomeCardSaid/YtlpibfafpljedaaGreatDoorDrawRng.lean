/- spec.l91Range: some range is drawn. append of one entry to a table of one's own. spec.l2Put: a table with one entry more, or one that has turned. Rows of numbers that may be written, of unknown values; matrices of such. What spec.l91Rels carries: the reader, and a matrix of numbers. Rows of ways in blocks of their own, and appends to them. -/
import Derived.Test.YtlpibfafpljedaaGreatDoorSendExactWay
import Derived.Deep.RegionWith
import Derived.Deep.RegionLaw
import Derived.Deep.DeepCutAuto
namespace Go.Proofs.YtlpibfafpljedaaGreatDoor
open Go.RowKit
set_option linter.unusedVariables false

theorem RdAt.lt {w : World} {k : Nat} {a : Option Addr} {len cap : Nat} {zs : List Int} {p : Nat} (h : RdAt w k a len cap zs p) : k < w.heap.size := lt_of_cell h.c0
theorem RdAt.below {w w' : World} {k : Nat} {a : Option Addr} {len cap : Nat} {zs : List Int} {p : Nat} (h : RdAt w k a len cap zs p) (hb : Below w.heap.size w w') : RdAt w' k a len cap zs p := by
  have hk := h.lt
  refine ⟨(hb.cell (p := ⟨k, 0, none⟩) hk).trans h.c0, (hb.cell (p := ⟨k, 1, none⟩) hk).trans h.c1, (hb.frozen (p := ⟨k, 1, none⟩) hk).trans h.f1, ?_, h.far, h.short⟩
  rcases h.row with r | ⟨x, hx, h1, h2, h3, h4, h5⟩
  · exact .inl r
  · exact .inr ⟨x, hx, h1, h2, h3, fun i hi => (hb.cell (p := x.add i) (lt_of_cell (h4 i hi))).trans (h4 i hi), h5⟩
/-- a row beside the reader and its code is written -/
theorem RdAt.grown {w w' : World} {k : Nat} {a : Option Addr} {len cap : Nat} {zs : List Int} {p lo : Nat} {row : Option Nat} (h : RdAt w k a len cap zs p) (hg : w.grownBy w' row) (hrow : ∀ g, row = some g → lo ≤ g) (hk : k < lo) : RdAt w' k a len cap zs p := by
  have key : ∀ b, b < w.heap.size → b ≤ k → w'.heap[b]? = w.heap[b]? := fun b hb hle => hg.block b hb (by intro e; have := hrow b e.symm; omega)
  have hkw := h.lt
  refine ⟨(World.cell?_of_block (key k hkw (Nat.le_refl _))).trans h.c0, (World.cell?_of_block (key k hkw (Nat.le_refl _))).trans h.c1, (World.frozen?_of_block (key k hkw (Nat.le_refl _))).trans h.f1, ?_, h.far, h.short⟩
  rcases h.row with r | ⟨x, hx, h1, h2, h3, h4, h5⟩
  · exact .inl r
  · refine .inr ⟨x, hx, h1, h2, h3, fun i hi => ?_, h5⟩
    have hxk := h.far x hx (by omega)
    refine (World.cell?_of_block (key (x.add i).block (lt_of_cell (h4 i hi)) ?_)).trans (h4 i hi)
    rw [add_block]; omega
theorem Only.grown {k : Nat} {a w w' : World} {row : Option Nat} (h : Only k a w) (hg : w.grownBy w' row) (hrow : ∀ g, row = some g → a.heap.size ≤ g) : Only k a w' := by
  refine ⟨hg.os.trans h.os, hg.tape.trans h.tape, hg.output.trans h.output, Nat.le_trans h.size hg.size, fun b hb hk => (hg.block b (Nat.lt_of_lt_of_le hb h.size) ?_).trans (h.block b hb hk)⟩
  intro e; have := hrow b e.symm; omega

theorem Only.setFar {k g i : Nat} {a w : World} {u : Value} (h : Only k a w) (hg : a.heap.size ≤ g) : Only k a (w.setCell ⟨g, i, none⟩ u) :=
  ⟨h.os, h.tape, h.output, by rw [show (w.setCell ⟨g, i, none⟩ u).heap.size = w.heap.size by simp [World.setCell]]; exact h.size, fun b hb hk => (Below.heap_setCell _ _ _ _ (by intro e; simp at e; omega)).trans (h.block b hb hk)⟩
theorem RdAt.off {w : World} {k g i lo : Nat} {a : Option Addr} {len cap : Nat} {zs : List Int} {p : Nat} {u : Value} (h : RdAt w k a len cap zs p) (hg : lo ≤ g) (hk : k < lo) : RdAt (w.setCell ⟨g, i, none⟩ u) k a len cap zs p := by
  have key : ∀ q : Addr, q.block ≤ k → (w.setCell ⟨g, i, none⟩ u).cell? q = w.cell? q := fun q hq => World.cell?_of_block (Below.heap_setCell _ _ _ _ (by intro e; simp at e; omega))
  have keyf : ∀ q : Addr, q.block ≤ k → (w.setCell ⟨g, i, none⟩ u).frozen? q = w.frozen? q := fun q hq => World.frozen?_of_block (Below.heap_setCell _ _ _ _ (by intro e; simp at e; omega))
  refine ⟨(key ⟨k, 0, none⟩ (Nat.le_refl _)).trans h.c0, (key ⟨k, 1, none⟩ (Nat.le_refl _)).trans h.c1, (keyf ⟨k, 1, none⟩ (Nat.le_refl _)).trans h.f1, ?_, h.far, h.short⟩
  rcases h.row with r | ⟨x, hx, h1, h2, h3, h4, h5⟩
  · exact .inl r
  · refine .inr ⟨x, hx, h1, h2, h3, fun i hi => (key (x.add i) ?_).trans (h4 i hi), h5⟩
    have := h.far x hx (by omega)
    rw [add_block]; omega
theorem stores2 {w1 : World} {B : Nat} {u0 u1 v0 v1 : Value} (h0 : w1.cell? ⟨B, 0, none⟩ = some u0) (h1 : w1.cell? ⟨B, 1, none⟩ = some u1) :
    ((w1.setCell ⟨B, 0, none⟩ v0).setCell ⟨B, 1, none⟩ v1).cell? ⟨B, 0, none⟩ = some v0 ∧ ((w1.setCell ⟨B, 0, none⟩ v0).setCell ⟨B, 1, none⟩ v1).cell? ⟨B, 1, none⟩ = some v1 := by
  refine ⟨?_, ?_⟩
  · rw [World.cell?_setCell_other _ _ _ _ (by simp)]; exact World.cell?_setCell_same _ _ _ h0
  · exact World.cell?_setCell_same _ _ _ ((World.cell?_setCell_other _ _ _ _ (by simp)).trans h1)
theorem rng_ends {k : Nat} {a : Option Addr} {len' cap : Nat} {zs : List Int} {p q : Nat} {w W : World} (hR : RdAt W k a len' cap zs q) (hA : Only k w W) (hkw : k < w.heap.size) (hp : p ≤ q) (hq : q ≤ p + 8) (u v : Value) :
    (∃ q, p ≤ q ∧ q ≤ p + 8 ∧ RdAt ((W.setCell ⟨w.heap.size, 0, none⟩ u).setCell ⟨w.heap.size, 1, none⟩ v) k a len' cap zs q) ∧ Only k w ((W.setCell ⟨w.heap.size, 0, none⟩ u).setCell ⟨w.heap.size, 1, none⟩ v) :=
  ⟨⟨q, hp, hq, RdAt.off (lo := w.heap.size) (RdAt.off (lo := w.heap.size) hR (Nat.le_refl _) hkw) (Nat.le_refl _) hkw⟩, Only.setFar (Only.setFar hA (Nat.le_refl _)) (Nat.le_refl _)⟩
def sel3 (x a b c : Int) : Int := if x = 0 then a else if x = 1 then b else c
theorem sel3_eq (x : Int) (h0 : 0 ≤ x) (h4 : x < 3) (a b c : Int) (h : x.toNat < ([.int .i64 a, .int .i64 b, .int .i64 c] : List Value).length) :
    ([.int .i64 a, .int .i64 b, .int .i64 c] : List Value)[x.toNat]'h = .int .i64 (sel3 x a b c) := by
  have : x = 0 ∨ x = 1 ∨ x = 2 := by omega
  rcases this with rfl | rfl | rfl <;> simp [sel3]
theorem sel3_in (x a b c lo hi : Int) (h1 : lo ≤ a ∧ a ≤ hi) (h2 : lo ≤ b ∧ b ≤ hi) (h3 : lo ≤ c ∧ c ≤ hi) : lo ≤ sel3 x a b c ∧ sel3 x a b c ≤ hi := by
  unfold sel3; split <;> (try split) <;> omega
theorem quo_facts (x S : Int) (h0 : 0 ≤ x) (h1 : x < 256) (hS : 0 < S) : ∃ Q M : Int, x.tdiv S = Q ∧ IntKind.i64.wrap Q = Q ∧ 0 ≤ Q ∧ Q ≤ 255 ∧ Q * S = M ∧ IntKind.i64.wrap M = M ∧ 0 ≤ M ∧ M ≤ 255 := by
  have a0 : 0 ≤ x / S := Int.ediv_nonneg h0 (by omega)
  have a1 : x / S ≤ 255 := by have := Int.ediv_le_self S h0; omega
  have b0 : 0 ≤ x / S * S := Int.mul_nonneg a0 (by omega)
  have b1 : x / S * S ≤ 255 := by have := Int.ediv_mul_le x (show S ≠ 0 by omega); omega
  exact ⟨x / S, x / S * S, Int.tdiv_eq_ediv_of_nonneg h0, IntWalk.i64_in _ (by omega), a0, a1, rfl, IntWalk.i64_in _ (by omega), b0, b1⟩
def RngPost (k : Nat) (a : Option Addr) (len' cap : Nat) (zs : List Int) (p : Nat) (w : World) (e : Ending) (w' : World) : Prop :=
  ∃ f b : Int, e = .returned (.agg #[.int .i64 f, .int .i64 b]) ∧ -2 ≤ f ∧ f ≤ 257 ∧ -1 ≤ b ∧ b ≤ 9 ∧ (∃ q, p ≤ q ∧ q ≤ p + 8 ∧ RdAt w' k a len' cap zs q) ∧ Only k w w'
set_option maxRecDepth 100000 in
set_option maxHeartbeats 8000000 in
theorem l91Range_any (k : Nat) (a : Option Addr) (len' cap : Nat) (zs : List Int) (p : Nat) (w : World) (hp : p ≤ 95000) (hkw : k < w.heap.size) (hR : RdAt w k a len' cap zs p) :
    Calls Tryz.prog 34 #[.pointer (some ⟨k, 0, none⟩)] w (RngPost k a len' cap zs p w) := by
  have R := Lib.hid hR
  have hA := Only.refl k w
  have hne0 : w.heap.size ≠ k := by omega
  have hne2 : w.heap.size + 1 + 1 ≠ k := by omega
  clear hR
  unfold RngPost
  go_enter Tryz.func34, Tryz.ntmps34
  go_wp2_with fail
  refine (pick_any 9 k a len' cap zs _ _ (by omega) (by first | exact R.out | exact (R.out).drew | exact (R.out).alloc _ | exact ((R.out).alloc _).drew | exact (R.out).drewN _) (by omega)).mono ?_
  rintro e w1 ⟨xa, rfl, xa0, xa1, hr, hO, hs⟩
  (try simp at hs)
  have R := Lib.hid hr
  have hA : Only k w w1 := (by refine Only.trans ?_ hO; repeat (first | exact Only.refl _ _ | assumption | refine Only.drew ?_ | refine Only.drewN ?_ _ | refine Only.alloc ?_ _))
  obtain ⟨hc1, hf1⟩ := hO.cells
  clear hr
  go_wp2_with fail
  refine (pick_any 4 k a len' cap zs _ _ (by omega) (by first | exact R.out | exact (R.out).drew | exact (R.out).alloc _ | exact ((R.out).alloc _).drew | exact (R.out).drewN _) (by omega)).mono ?_
  rintro e w2 ⟨xb, rfl, xb0, xb1, hr, hO, hs⟩
  (try simp at hs)
  have R := Lib.hid hr
  have hA : Only k w w2 := (by refine Only.trans ?_ hO; repeat (first | exact Only.refl _ _ | assumption | refine Only.drew ?_ | refine Only.drewN ?_ _ | refine Only.alloc ?_ _))
  obtain ⟨hc1, hf1⟩ := hO.cells
  clear hr
  go_wp2_with fail
  refine (pick_any 3 k a len' cap zs _ _ (by omega) (by first | exact R.out | exact (R.out).drew | exact (R.out).alloc _ | exact ((R.out).alloc _).drew | exact (R.out).drewN _) (by omega)).mono ?_
  rintro e w3 ⟨xc, rfl, xc0, xc1, hr, hO, hs⟩
  (try simp at hs)
  have R := Lib.hid hr
  have hA : Only k w w3 := (by refine Only.trans ?_ hO; repeat (first | exact Only.refl _ _ | assumption | refine Only.drew ?_ | refine Only.drewN ?_ _ | refine Only.alloc ?_ _))
  obtain ⟨hc1, hf1⟩ := hO.cells
  clear hr
  go_wp2_with fail
  refine (pick_any 3 k a len' cap zs _ _ (by omega) (by first | exact R.out | exact (R.out).drew | exact (R.out).alloc _ | exact ((R.out).alloc _).drew | exact (R.out).drewN _) (by omega)).mono ?_
  rintro e w4 ⟨xd, rfl, xd0, xd1, hr, hO, hs⟩
  (try simp at hs)
  have R := Lib.hid hr
  have hA : Only k w w4 := (by refine Only.trans ?_ hO; repeat (first | exact Only.refl _ _ | assumption | refine Only.drew ?_ | refine Only.drewN ?_ _ | refine Only.alloc ?_ _))
  obtain ⟨hc1, hf1⟩ := hO.cells
  clear hr
  have hin := sel3_in xd xa (1 + xb) (2 + xc) 0 8 (by omega) (by omega) (by omega)
  obtain ⟨B, hB⟩ : ∃ B, sel3 xd xa (1 + xb) (2 + xc) = B := ⟨_, rfl⟩
  rw [hB] at hin
  obtain ⟨b0, b8⟩ := hin
  have hcell : w4.cell? ⟨w.heap.size + 1, xd.toNat, none⟩ = some (.int .i64 B) := by
    rw [hc1 _ _ (by simp; omega) (by omega), show w.heap.size + 1 = w3.heap.size by omega, ← hB]
    have : xd = 0 ∨ xd = 1 ∨ xd = 2 := by omega
    rcases this with rfl | rfl | rfl <;> simp [sel3]
  clear hB
  have hsz4 : w4.heap.size = w.heap.size + 2 := by omega
  obtain ⟨S, hS⟩ : ∃ S, sizeF B = S := ⟨_, rfl⟩
  have hp := sizeF_pos B
  have hl := sizeF_le B b0
  have hsz : ∀ W, Calls Tryz.prog 60 #[.int .i64 B] W fun e w' => e = .returned (.int .i64 S) ∧ w' = W := fun W => by rw [← hS]; exact l1Size_any B b0 b8 W
  rw [hS] at hp hl
  have HS := Lib.hid hsz
  have hS0 : S ≠ 0 := by omega
  clear hsz hS
  go_wp2_with fail
  go_region_law (first
    | (go_simp; (go_at_call_of 33 (Value.int IntKind.i64 256); refine (pick_any _ k a len' cap zs _ _ (by omega) (by first | exact R.out | exact (R.out).drew | exact (R.out).alloc _ | exact ((R.out).alloc _).drew | exact (R.out).drewN _) (by omega)).mono ?_; rintro e w1 ⟨xp, rfl, xp0, xp1, hr, hO, hs⟩; (try simp at hs); have R := Lib.hid hr; have hA : Only k w w1 := (by refine Only.trans ?_ hO; repeat (first | exact Only.refl _ _ | assumption | refine Only.drew ?_ | refine Only.drewN ?_ _ | refine Only.alloc ?_ _)); obtain ⟨hc1, hf1⟩ := hO.cells; clear hr; obtain ⟨Q, M, hQt, hQw, hQ0, hQ1, hM, hMw, hM0, hM1⟩ := quo_facts xp S xp0 xp1 hp; have y0 : w1.cell? ⟨w.heap.size + 1 + 1, 0, none⟩ = some (.int .i64 0) := (by rw [hc1 _ _ (by simp; omega) (by omega), show w.heap.size + 1 + 1 = w4.heap.size by omega]; simp); have y1 : w1.cell? ⟨w.heap.size + 1 + 1, 1, none⟩ = some (.int .i64 B) := (by rw [hc1 _ _ (by simp; omega) (by omega), show w.heap.size + 1 + 1 = w4.heap.size by omega]; simp); have z0 : w1.frozen? ⟨w.heap.size + 1 + 1, 0, none⟩ = false := (by rw [hf1 _ _ (by simp; omega) (by omega), show w.heap.size + 1 + 1 = w4.heap.size by omega]; simp); have z1 : w1.frozen? ⟨w.heap.size + 1 + 1, 1, none⟩ = false := (by rw [hf1 _ _ (by simp; omega) (by omega), show w.heap.size + 1 + 1 = w4.heap.size by omega]; simp)))
    | (go_simp; go_at_call 60; refine (HS.out _).mono ?_; rintro e wz ⟨rfl, rfl⟩))
  all_goals
    have hzz : wz.heap.size = w.heap.size + 1 + 1 + 1 := by first | omega | (simp at *; omega)
    have R := Lib.hid (RdAt.off (g := w.heap.size + 1 + 1) (i := 0) (u := .int .i64 M) (lo := w.heap.size + 1 + 1) R.out (Nat.le_refl _) (by omega))
    have hA := Only.setFar (g := w.heap.size + 1 + 1) (i := 0) (u := .int .i64 M) hA (by omega)
    go_wp2_with fail
    refine (pick_any 40 k a len' cap zs _ _ (by omega) (by first | exact R.out | exact (R.out).drew | exact (R.out).alloc _ | exact ((R.out).alloc _).drew | exact (R.out).drewN _) (by omega)).mono ?_
    rintro e w6 ⟨xq, rfl, xq0, xq1, hr, hO, hs⟩
    (try simp at hs)
    have R := Lib.hid hr
    have hA : Only k w w6 := (by refine Only.trans ?_ hO; repeat (first | exact Only.refl _ _ | assumption | refine Only.drew ?_ | refine Only.drewN ?_ _ | refine Only.alloc ?_ _))
    obtain ⟨hc1, hf1⟩ := hO.cells
    clear hr
    by_cases hq0 : xq = 0
    · subst hq0
      go_wp2_with fail
      refine (pick_any 260 k a len' cap zs _ _ (by omega) (by first | exact R.out | exact (R.out).drew | exact (R.out).alloc _ | exact ((R.out).alloc _).drew | exact (R.out).drewN _) (by omega)).mono ?_
      rintro e w7 ⟨xf, rfl, xf0, xf1, hr, hO, hs⟩
      (try simp at hs)
      have R := Lib.hid hr
      have hA : Only k w w7 := (by refine Only.trans ?_ hO; repeat (first | exact Only.refl _ _ | assumption | refine Only.drew ?_ | refine Only.drewN ?_ _ | refine Only.alloc ?_ _))
      obtain ⟨hc1, hf1⟩ := hO.cells
      clear hr
      go_wp2_with fail
      refine (pick_any 11 k a len' cap zs _ _ (by omega) (by first | exact R.out | exact (R.out).drew | exact (R.out).alloc _ | exact ((R.out).alloc _).drew | exact (R.out).drewN _) (by omega)).mono ?_
      rintro e w8 ⟨xg, rfl, xg0, xg1, hr, hO, hs⟩
      (try simp at hs)
      have R := Lib.hid hr
      have hA : Only k w w8 := (by refine Only.trans ?_ hO; repeat (first | exact Only.refl _ _ | assumption | refine Only.drew ?_ | refine Only.drewN ?_ _ | refine Only.alloc ?_ _))
      obtain ⟨hc1, hf1⟩ := hO.cells
      clear hr
      go_wp2_with fail
      have q0 : w8.cell? ⟨w.heap.size, 0, none⟩ = some (.int .i64 0) := by simp [*, go_sem]
      have q1 : w8.cell? ⟨w.heap.size, 1, none⟩ = some (.int .i64 0) := by simp [*, go_sem]
      obtain ⟨z0, z1⟩ := stores2 (v0 := .int .i64 (xf - 2)) (v1 := .int .i64 (xg - 1)) q0 q1
      refine bodyPost_ret (v := .agg #[.int .i64 (xf - 2), .int .i64 (xg - 1)]) (by simp [results, Tryz.results34, go_sem, z0, z1]) rfl ?_
      exact ⟨_, _, rfl, by omega, by omega, by omega, by omega, rng_ends R.out hA hkw (by omega) (by omega) _ _⟩
    · have hqb : (xq == 0) = false := by simp [hq0]
      go_wp2_with fail
      have q0 : w6.cell? ⟨w.heap.size, 0, none⟩ = some (.int .i64 0) := by simp [*, go_sem]
      have q1 : w6.cell? ⟨w.heap.size, 1, none⟩ = some (.int .i64 0) := by simp [*, go_sem]
      obtain ⟨z0, z1⟩ := stores2 (v0 := .int .i64 M) (v1 := .int .i64 B) q0 q1
      refine bodyPost_ret (v := .agg #[.int .i64 M, .int .i64 B]) (by simp [results, Tryz.results34, go_sem, z0, z1]) rfl ?_
      exact ⟨_, _, rfl, by omega, by omega, by omega, by omega, rng_ends R.out hA hkw (by omega) (by omega) _ _⟩
end Go.Proofs.YtlpibfafpljedaaGreatDoor

namespace Go.Proofs.YtlpibfafpljedaaGreatDoor
open Go.RowKit
set_option linter.unusedVariables false

theorem cell_three_new (W : World) (x y z : Value) (T : TypeId) : ∀ j u, ([x, y, z] : List Value)[j]? = some u → (W.alloc (.cells #[x, y, z] T)).cell? ((⟨W.heap.size, 0, none⟩ : Addr).add j) = some u := by
  intro j u hj
  have hj3 : j < 3 := by
    rcases Nat.lt_or_ge j 3 with h | h
    · exact h
    · rw [List.getElem?_eq_none (by simpa using h)] at hj; cases hj
  have : j = 0 ∨ j = 1 ∨ j = 2 := by omega
  rcases this with rfl | rfl | rfl <;> simp at hj <;> subst hj <;> simp [Addr.add]
theorem EntNew.nil (w : World) (lo : Nat) : EntNew w lo (.slice none 0 0) [] := ⟨[], World.ownsRow_nil _ _ _ _, fun i hi => by simp at hi⟩
theorem EntNew.zero (w : World) : EntNew (w.alloc (.cells #[] 45)) w.heap.size (.slice (some ⟨w.heap.size, 0, none⟩) 0 0) [] :=
  ⟨[], World.ownsRow_lit (base := w.heap.size) (e := 45) (size := 3) w #[] 0 (Nat.le_refl _) (by simp [maxLen]) rfl, fun i hi => by simp at hi⟩
theorem EntNew.form {w : World} {lo : Nat} {v : Value} {l : List Ent} (h : EntNew w lo v l) : ∃ a c, v = .slice a l.length c ∧ l.length ≤ c ∧ c ≤ 9223372036854775807 := h.ents.form
theorem EntNew.snoc {w : World} {lo : Nat} {v' : Value} {l : List Ent} {e : Ent} {xs : List Value} (hl : xs.length = l.length * 3)
    (hx : ∀ i, i < l.length → xs.getD (i * 3) undef = .int .i64 (l.getD i (0, 0, 0)).1 ∧ xs.getD (i * 3 + 1) undef = .int .i64 (l.getD i (0, 0, 0)).2.1 ∧ xs.getD (i * 3 + 2) undef = .int .i64 (l.getD i (0, 0, 0)).2.2)
    (h : w.ownsRow lo 45 3 v' (l.length + 1) (xs ++ [.int .i64 e.1, .int .i64 e.2.1, .int .i64 e.2.2])) : EntNew w lo v' (l ++ [e]) := by
  refine ⟨_, by rw [List.length_append, List.length_singleton]; exact h, fun i hi => ?_⟩
  rw [List.length_append, List.length_singleton] at hi
  by_cases hil : i < l.length
  · obtain ⟨e0, e1, e2⟩ := hx i hil
    have q : (l ++ [e]).getD i (0, 0, 0) = l.getD i (0, 0, 0) := by simp only [List.getD_eq_getElem?_getD]; rw [List.getElem?_append_left hil]
    have r : ∀ j, j < xs.length → (xs ++ [Value.int .i64 e.1, Value.int .i64 e.2.1, Value.int .i64 e.2.2]).getD j undef = xs.getD j undef := fun j hj => by simp only [List.getD_eq_getElem?_getD]; rw [List.getElem?_append_left hj]
    rw [q, r _ (by omega), r _ (by omega), r _ (by omega)]
    exact ⟨e0, e1, e2⟩
  · obtain rfl : i = l.length := by omega
    have q : (l ++ [e]).getD l.length (0, 0, 0) = e := by simp
    have r : ∀ j, (xs ++ [Value.int .i64 e.1, Value.int .i64 e.2.1, Value.int .i64 e.2.2]).getD (l.length * 3 + j) undef = ([.int .i64 e.1, .int .i64 e.2.1, .int .i64 e.2.2] : List Value).getD j undef := fun j => by
      simp only [List.getD_eq_getElem?_getD]; rw [List.getElem?_append_right (by omega), ← hl, Nat.add_sub_cancel_left]
    rw [q]
    exact ⟨r 0, r 1, r 2⟩
theorem owns_form3 {w : World} {lo n : Nat} {T : TypeId} {size : Nat} {v : Value} {us : List Value} (h : w.ownsRow lo T size v n us) : ∃ a cap, v = .slice a n cap := by
  rcases h.2 with ⟨rfl, hn⟩ | ⟨g, cap, cur, rfl, _⟩
  · exact ⟨none, 0, by rw [hn]⟩
  · exact ⟨_, cap, rfl⟩
variable {W : World}
theorem wp_append_ent {o : Oper} {a : Act} {K : Act → World → Prop} {Q : Exit → Act → World → Prop} (s x : Operand)
    (ho : o.op = .call { callee := .builtin .append, args := #[s, x], argTypes := #[42, 42] })
    (lo : Nat) (v : Value) (l : List Ent) (e : Ent) (hs : a.eval s = v) (hO : EntNew W lo v l) (hx : a.eval x = .slice (some ⟨W.heap.size, 0, none⟩) 1 1) (hl : l.length ≤ 1000000) (hlo : lo ≤ W.heap.size)
    (h : ∀ ad c w', EntNew w' lo (.slice ad (l.length + 1) c) (l ++ [e]) → Below lo W w' → w'.heap.size ≥ W.heap.size → K (a.put o.dst (.slice ad (l.length + 1) c)) w') : o.wp Tryz.prog a (W.alloc (.cells #[.int .i64 e.1, .int .i64 e.2.1, .int .i64 e.2.2] 45)) K Q := by
  obtain ⟨i0, hi, hz0, hz1, hz2⟩ := info_parts info_e3
  obtain ⟨xs, hown, hxs⟩ := hO
  refine wp_append_own _ s x 42 ho lo 45 i0 (.agg #[.int .i64 0, .int .i64 0, .int .i64 0]) 3 24 Tryz.underlying42 hi hz0 hz1 hz2 rfl (by decide) v l.length xs hs (World.ownsRow.alloc hown _) ⟨W.heap.size, 0, none⟩ 1 1 [.int .i64 e.1, .int .i64 e.2.1, .int .i64 e.2.2] hx rfl (cell_three_new _ _ _ _ _) ?_ (by unfold maxLen; omega) (by omega) (by simp; omega) ?_
  · intro u hu
    simp at hu
    rcases hu with rfl | rfl | rfl <;> rfl
  · intro v' w' h1 h2 _
    obtain ⟨ad, c, rfl⟩ := owns_form3 h1
    have hb := Below.grown (Below.alloc (Below.refl _ _) hlo _) h2 (by simp; omega) (fun g hg => (World.ownsRow.lt hown g hg).1)
    exact h ad c w' (EntNew.snoc hown.1 hxs h1) hb hb.size
theorem wpList_append_ent {ops : Array Oper} {rest : List Oper} {o : Oper} {a : Act} {Q : Exit → Act → World → Prop} (hgd : o.guard = none) (s x : Operand)
    (ho : o.op = .call { callee := .builtin .append, args := #[s, x], argTypes := #[42, 42] })
    (lo : Nat) (v : Value) (l : List Ent) (e : Ent) (hs : a.eval s = v) (hO : EntNew W lo v l) (hx : a.eval x = .slice (some ⟨W.heap.size, 0, none⟩) 1 1) (hl : l.length ≤ 1000000) (hlo : lo ≤ W.heap.size)
    (h : ∀ ad c w', EntNew w' lo (.slice ad (l.length + 1) c) (l ++ [e]) → Below lo W w' → w'.heap.size ≥ W.heap.size → wpList Tryz.prog ops Q rest (a.put o.dst (.slice ad (l.length + 1) c)) w') : wpList Tryz.prog ops Q (o :: rest) a (W.alloc (.cells #[.int .i64 e.1, .int .i64 e.2.1, .int .i64 e.2.2] 45)) :=
  wpList_plain hgd fun _ hK => wp_append_ent s x ho lo v l e hs hO hx hl hlo fun ad c w' h1 h2 h3 => hK _ _ (h ad c w' h1 h2 h3)
end Go.Proofs.YtlpibfafpljedaaGreatDoor

namespace Go.Proofs.YtlpibfafpljedaaGreatDoor
open Go.RowKit
set_option linter.unusedVariables false

def putStep (e : Ent) (s : List Ent × Bool) (x : Ent) : List Ent × Bool :=
  let c := rcmpF x.1 x.2.1 e.1 e.2.1
  let o := if s.2 = false ∧ 0 ≤ c then s.1 ++ [e] else s.1
  (if c ≠ 0 then o ++ [x] else o, s.2 || decide (0 ≤ c))
def putF (l : List Ent) (e : Ent) : List Ent := if (l.foldl (putStep e) ([], false)).2 then (l.foldl (putStep e) ([], false)).1 else (l.foldl (putStep e) ([], false)).1 ++ [e]
theorem put_len (e : Ent) : ∀ (l : List Ent) (s : List Ent × Bool), (l.foldl (putStep e) s).1.length + (if (l.foldl (putStep e) s).2 then 0 else 1) ≤ s.1.length + (if s.2 then 0 else 1) + l.length
  | [], s => Nat.le_refl _
  | x :: t, s => by
    rw [List.foldl_cons]
    refine Nat.le_trans (put_len e t _) ?_
    obtain ⟨o, p⟩ := s
    unfold putStep
    by_cases h0 : 0 ≤ rcmpF x.1 x.2.1 e.1 e.2.1 <;> by_cases h1 : rcmpF x.1 x.2.1 e.1 e.2.1 = 0 <;> cases p <;> simp [h0, h1] <;> omega
theorem putF_len (l : List Ent) (e : Ent) : (putF l e).length ≤ l.length + 1 := by
  have := put_len e l ([], false)
  unfold putF
  simp at this
  cases h : (l.foldl (putStep e) ([], false)).2
  · rw [h] at this; simp at this ⊢; omega
  · rw [h] at this; simp at this ⊢; omega
set_option maxRecDepth 100000 in
set_option maxHeartbeats 8000000 in
theorem l2Put_any (v : Value) (l : List Ent) (e : Ent) (w : World) (hv : EntsAt w v l) (hl : l.length ≤ 100000) :
    Calls Tryz.prog 21 #[v, entV e] w fun r w' => ∃ v', r = .returned v' ∧ EntNew w' w.heap.size v' (putF l e) ∧ Below w.heap.size w w' := by
  obtain ⟨ef, eb, ev⟩ := e
  unfold entV
  obtain ⟨a, cap, rfl, hc, hm⟩ := hv.form
  obtain ⟨n, hn⟩ : ∃ n, l.length = n := ⟨_, rfl⟩
  rw [hn] at hc hl hv ⊢
  have hlen : ∀ k, k ≤ n → ∀ o p, (l.take k).foldl (putStep (ef, eb, ev)) ([], false) = (o, p) → o.length ≤ k + 1 := fun k hk o p h => by
    have := put_len (ef, eb, ev) (l.take k) ([], false)
    rw [h] at this
    simp at this
    omega
  have HN := Lib.hid hn
  have H := Lib.hid hv
  have HLEN := Lib.hid hlen
  clear hn hv hlen
  dsimp only
  have hB0 := Box3.new w (.int .i64 ef) (.int .i64 eb) (.int .i64 ev) 45
  have HB0 := Lib.hid hB0
  clear hB0
  go_enter Tryz.func21, Tryz.ntmps21
  go_wp2_with fail
  go_loopg [5, 6, 7] n (fun gk s5 s6 s7 wr => ∃ (k : Nat) (o : List Ent) (p : Bool), s7 = .int .i64 (k : Int) ∧ s6 = .bool p ∧ k + gk = n ∧ Hid (EntNew wr (w.heap.size + 1) s5 o) ∧ Hid ((l.take k).foldl (putStep (ef, eb, ev)) ([], false) = (o, p)) ∧ Hid (Below (w.heap.size + 1) (w.alloc (.cells #[.int .i64 ef, .int .i64 eb, .int .i64 ev] 45)) wr))
  case atStart => exact ⟨0, [], false, rfl, rfl, by omega, Lib.hid (by have := EntNew.zero (w.alloc (.cells #[.int .i64 ef, .int .i64 eb, .int .i64 ev] 45)); rw [World.size_alloc] at this; exact this), Lib.hid rfl, Lib.hid (Below.alloc (Below.refl _ _) (by simp) _)⟩
  case round =>
    obtain ⟨k, o, p, rfl, rfl, hk, O, HF, hb⟩ := hrel
    have hol := HLEN.out k (by omega) o p HF.out
    have HOL := Lib.hid hol
    clear hol
    obtain ⟨oa, oc, e, hol1, hol2⟩ := O.out.form
    subst e
    obtain ⟨m, hm'⟩ : ∃ m, o.length = m := ⟨_, rfl⟩
    have B0 := Box3.below HB0.out (by have := hb.out; simpa using this) (by simp)
    have bw0 := B0.c0
    have bw1 := B0.c1
    have bw2 := B0.c2
    have hsw : w.heap.size + 1 ≤ wr.heap.size := by have := hb.out.size; simpa using this
    have hfin : ∀ W, Below (w.heap.size + 1) (w.alloc (.cells #[.int .i64 ef, .int .i64 eb, .int .i64 ev] 45)) W → Below w.heap.size w W := fun W h => Below.trans (Below.alloc (Below.refl _ _) (Nat.le_refl _) _) (h.mono (by omega))
    have HFIN := Lib.hid hfin
    clear hfin
    by_cases hg : gk = 0
    · subst hg
      obtain rfl : k = n := by omega
      have hdn : decide ((k : Int) < (k : Int)) = false := by simp
      have hF := HF.out
      rw [← HN.out, List.take_length] at hF
      cases p
      · have hp : putF l (ef, eb, ev) = o ++ [(ef, eb, ev)] := by unfold putF; rw [hF]; rfl
        have HP := Lib.hid hp
        clear hp hF
        go_wp2_with (at_builtin; refine wpList_append_ent rfl (.tmp 45) (.tmp 47) rfl (w.heap.size + 1) _ o (ef, eb, ev) rfl O.out rfl (by have := HOL.out; omega) hsw ?_; intro va vc w4 hO4 hb4 hs4)
        go_ret
        exact ⟨_, rfl, by rw [HP.out]; rw [hm'] at hO4; exact EntNew.lift (B := w.heap.size + 1) hO4 (by omega), HFIN.out _ (hb.out.trans hb4)⟩
      · have hp : putF l (ef, eb, ev) = o := by unfold putF; rw [hF]; rfl
        have HP := Lib.hid hp
        clear hp hF
        go_wp2_with fail
        go_ret
        exact ⟨_, rfl, by rw [HP.out]; exact EntNew.lift (B := w.heap.size + 1) O.out (by omega), HFIN.out _ hb.out⟩
    · have hkn : k < n := by omega
      have hkI : (k : Int) < (n : Int) := by omega
      have k0 : (0 : Int) ≤ (k : Int) := by omega
      have hgk : 1 ≤ gk := by omega
      obtain ⟨b, off, rfl, hbb0, _⟩ := H.out.get k hkn
      obtain ⟨b', off', e, hbb, c0, c1, c2⟩ := (H.out.below (HFIN.out _ hb.out)).get k hkn
      simp only [Option.some.injEq, Addr.mk.injEq] at e
      obtain ⟨rfl, rfl, _⟩ := e
      obtain ⟨ent, hent⟩ : ∃ e, l.getD k (0, 0, 0) = e := ⟨_, rfl⟩
      rw [hent] at c0 c1 c2
      obtain ⟨f, bt, vi⟩ := ent
      simp only at c0 c1 c2
      have hE : ∀ W, Below (w.heap.size + 1) (w.alloc (.cells #[.int .i64 ef, .int .i64 eb, .int .i64 ev] 45)) W → ∀ q, q = b → W.cell? ⟨b, off + k * 3, none⟩ = some (.int .i64 f) ∧ W.cell? ⟨b, off + k * 3 + 1, none⟩ = some (.int .i64 bt) ∧ W.cell? ⟨b, off + k * 3 + 2, none⟩ = some (.int .i64 vi) := fun W hW _ _ => by
        obtain ⟨_, _, e, _, d0, d1, d2⟩ := (H.out.below (HFIN.out _ hW)).get k hkn
        simp only [Option.some.injEq, Addr.mk.injEq] at e
        obtain ⟨rfl, rfl, _⟩ := e
        rw [hent] at d0 d1 d2
        exact ⟨d0, d1, d2⟩
      have hE := Lib.hid hE
      obtain ⟨c, hc'⟩ : ∃ c, rcmpF f bt ef eb = c := ⟨_, rfl⟩
      have hcm : ∀ W, Calls Tryz.prog 39 #[.agg #[.int .i64 f, .int .i64 bt], .agg #[.int .i64 ef, .int .i64 eb]] W fun e w' => e = .returned (.int .i64 c) ∧ Below W.heap.size W w' := fun W => by rw [← hc']; exact l1Cmp_any f bt ef eb W
      have HCM := Lib.hid hcm
      have HCV := Lib.hid hc'
      have HENT := Lib.hid hent
      have HK := Lib.hid hk
      clear hcm hc' hent hk hg hm'
      cases p
      · rcases Int.lt_trichotomy c 0 with hsign | hsign | hsign
        · have hc0 : c < 0 := hsign
          have hge : decide (0 ≤ c) = false := decide_eq_false (by omega)
          have hne : (c != 0) = true := by simp; omega
          have hc00 : c ≠ 0 := by omega
          have hngeP : ¬ 0 ≤ c := by omega
          have HSG := Lib.hid hsign
          clear hsign
          go_wp2_with fail
          refine wp_region_noPanic ?_
          refine wp_region_held_drew (S := (fun w' => w'.cell? ⟨b, off + k * 3, none⟩ = some (.int .i64 f) ∧ w'.cell? ⟨b, off + k * 3 + 1, none⟩ = some (.int .i64 bt) ∧ w'.cell? ⟨w.heap.size, 0, none⟩ = some (.int .i64 ef) ∧ w'.cell? ⟨w.heap.size, 1, none⟩ = some (.int .i64 eb))) (by kernel_rfl) (by simp [go_sem, *]) (fun hHeld => ?_)
          refine wpAnyH_take (i := 0) (v := _) (by (simp only [List.getElem?_toArray, List.getElem?_cons_zero]) <;> rfl) (by kernel_rfl) (by kernel_rfl) (by kernel_rfl) (fun _ _ _ h => h) (Or.inl ⟨by rfl, fun w hSw => by ((try dsimp only at hSw); go_simp) <;> with_reducible rfl⟩) (by assumption) ?_
          (try simp only [Act.put, List.setIfInBounds_toArray, List.set_cons_zero, List.set_cons_succ])
          refine wpAnyH_take (i := 1) (v := _) (by (simp only [List.getElem?_toArray, List.getElem?_cons_succ, List.getElem?_cons_zero]) <;> rfl) (by kernel_rfl) (by kernel_rfl) (by kernel_rfl) (fun _ _ _ h => h) (Or.inl ⟨by rfl, fun w hSw => by ((try dsimp only at hSw); go_simp) <;> with_reducible rfl⟩) (by assumption) ?_
          (try simp only [Act.put, List.setIfInBounds_toArray, List.set_cons_zero, List.set_cons_succ])
          refine wpAnyH_take (i := 2) (v := _) (by (simp only [List.getElem?_toArray, List.getElem?_cons_succ, List.getElem?_cons_zero]) <;> rfl) (by kernel_rfl) (by kernel_rfl) (by kernel_rfl) (fun _ _ _ h => h) (Or.inl ⟨by rfl, fun w hSw => by ((try dsimp only at hSw); go_simp) <;> with_reducible rfl⟩) (by assumption) ?_
          (try simp only [Act.put, List.setIfInBounds_toArray, List.set_cons_zero, List.set_cons_succ])
          refine wpAnyH_take (i := 3) (v := _) (by (simp only [List.getElem?_toArray, List.getElem?_cons_succ, List.getElem?_cons_zero]) <;> rfl) (by kernel_rfl) (by kernel_rfl) (by kernel_rfl) (fun _ _ _ h => h) (Or.inl ⟨by rfl, fun w hSw => by ((try dsimp only at hSw); go_simp) <;> with_reducible rfl⟩) (by assumption) ?_
          (try simp only [Act.put, List.setIfInBounds_toArray, List.set_cons_zero, List.set_cons_succ])
          refine wpAnyH_take (i := 4) (v := _) (by (simp only [List.getElem?_toArray, List.getElem?_cons_succ, List.getElem?_cons_zero]) <;> rfl) (by kernel_rfl) (by kernel_rfl) (by kernel_rfl) (fun _ _ _ h => h) (Or.inl ⟨by rfl, fun w hSw => by ((try dsimp only at hSw); go_simp) <;> with_reducible rfl⟩) (by assumption) ?_
          (try simp only [Act.put, List.setIfInBounds_toArray, List.set_cons_zero, List.set_cons_succ])
          refine wpAnyH_take (i := 5) (v := _) (by (simp only [List.getElem?_toArray, List.getElem?_cons_succ, List.getElem?_cons_zero]) <;> rfl) (by kernel_rfl) (by kernel_rfl) (by kernel_rfl) (fun _ _ _ h => h) (Or.inl ⟨by rfl, fun w hSw => by ((try dsimp only at hSw); go_simp) <;> with_reducible rfl⟩) (by assumption) ?_
          (try simp only [Act.put, List.setIfInBounds_toArray, List.set_cons_zero, List.set_cons_succ])
          refine wpAnyH_take (i := 6) (v := _) (by (simp only [List.getElem?_toArray, List.getElem?_cons_succ, List.getElem?_cons_zero]) <;> rfl) (by kernel_rfl) (by kernel_rfl) (by kernel_rfl) (fun _ _ _ h => h) (Or.inl ⟨by rfl, fun w hSw => by ((try dsimp only at hSw); go_simp) <;> with_reducible rfl⟩) (by assumption) ?_
          (try simp only [Act.put, List.setIfInBounds_toArray, List.set_cons_zero, List.set_cons_succ])
          refine wpAnyH_ready (rs := [7]) (by kernel_rfl) (by simp) ?_
          refine AllReadyH.cons (by (simp only [List.getElem?_toArray, List.getElem?_cons_succ, List.getElem?_cons_zero]) <;> rfl) (fun K hK => ?_) AllReadyH.nil
          go_simp
          (go_at_call 39; refine (HCM.out _).mono ?_; rintro r w1 ⟨rfl, hb1⟩; have hB1 : Below wr.heap.size wr w1 := (by refine Below.trans ?_ (hb1.mono (by first | exact Nat.le_refl _ | omega | (simp; done) | (simp; omega))); repeat (first | exact Below.refl _ _ | assumption | refine Below.drew ?_ | refine belowDrewN ?_ _ | refine Below.alloc ?_ (by first | exact Nat.le_refl _ | omega | (simp; done) | (simp; omega)) _ | refine Below.setCell ?_ (by first | exact Nat.le_refl _ | omega | (simp; done) | (simp; omega)) _)); have O1 := Lib.hid (O.out.below hB1); have B1 := Box3.below B0 hB1 B0.size; have bx0 := B1.c0; have bx1 := B1.c1; have bx2 := B1.c2; have hs1 : w.heap.size + 1 ≤ w1.heap.size := (by have := hB1.size; omega); have x0 := (hB1.cell (p := ⟨b, off + k * 3, none⟩) hbb).trans c0; have x1 := (hB1.cell (p := ⟨b, off + k * 3 + 1, none⟩) hbb).trans c1; have x2 := (hB1.cell (p := ⟨b, off + k * 3 + 2, none⟩) hbb).trans c2; have BB := Lib.hid (hb.out.trans (hB1.mono (by have := hb.out.size; simp at this; omega))); clear hb1)
          refine hK.out _ _ (by simp [go_sem, *]) (fun hHeld => ?_)
          (try simp only [Act.put, List.setIfInBounds_toArray, List.set_cons_zero, List.set_cons_succ])
          refine wpAnyH_take (i := 8) (v := _) (by (simp only [List.getElem?_toArray, List.getElem?_cons_succ, List.getElem?_cons_zero]) <;> rfl) (by kernel_rfl) (by kernel_rfl) (by kernel_rfl) (fun _ _ _ h => h) (Or.inl ⟨by rfl, fun w hSw => by ((try dsimp only at hSw); go_simp) <;> with_reducible rfl⟩) (by assumption) ?_
          (try simp only [Act.put, List.setIfInBounds_toArray, List.set_cons_zero, List.set_cons_succ])
          refine wpAnyH_done (by kernel_rfl) ?_ _
          refine NoPanic.normal ?_
          go_wp2_with (at_builtin; refine wpList_append_ent rfl (.tmp 36) (.tmp 41) rfl (w.heap.size + 1) _ o (f, bt, vi) rfl O1.out rfl (by have := HOL.out; (try rw [List.length_append]); (try rw [List.length_singleton]); omega) hs1 ?_; intro va5 vc5 w5 hO5 hb5 hs5; have O5 := Lib.hid hO5; have BB5 := Lib.hid (BB.out.trans hb5); clear hO5 hb5)
          go_roundg (gk - 1)
          case measure => omega
          case rel => exact ⟨k + 1, (o ++ [(f, bt, vi)]), false, by go_num, by first | rfl | simp, by have := HK.out; omega, Lib.hid (by first | exact O5.out | (have := O5.out; simpa using this)), Lib.hid (by rw [take_snoc (by rw [HN.out]; exact hkn), List.foldl_append, HF.out, HENT.out]; simp only [List.foldl_cons, List.foldl_nil, putStep, HCV.out]; simp [hc00, hngeP]), BB5⟩
        · have hge : decide (0 ≤ c) = true := decide_eq_true (by omega)
          have hne : (c != 0) = false := by simp [hsign]
          have hgeP : 0 ≤ c := by omega
          have HSG := Lib.hid hsign
          clear hsign
          go_wp2_with fail
          refine wp_region_noPanic ?_
          refine wp_region_held_drew (S := (fun w' => w'.cell? ⟨b, off + k * 3, none⟩ = some (.int .i64 f) ∧ w'.cell? ⟨b, off + k * 3 + 1, none⟩ = some (.int .i64 bt) ∧ w'.cell? ⟨w.heap.size, 0, none⟩ = some (.int .i64 ef) ∧ w'.cell? ⟨w.heap.size, 1, none⟩ = some (.int .i64 eb))) (by kernel_rfl) (by simp [go_sem, *]) (fun hHeld => ?_)
          refine wpAnyH_take (i := 0) (v := _) (by (simp only [List.getElem?_toArray, List.getElem?_cons_zero]) <;> rfl) (by kernel_rfl) (by kernel_rfl) (by kernel_rfl) (fun _ _ _ h => h) (Or.inl ⟨by rfl, fun w hSw => by ((try dsimp only at hSw); go_simp) <;> with_reducible rfl⟩) (by assumption) ?_
          (try simp only [Act.put, List.setIfInBounds_toArray, List.set_cons_zero, List.set_cons_succ])
          refine wpAnyH_take (i := 1) (v := _) (by (simp only [List.getElem?_toArray, List.getElem?_cons_succ, List.getElem?_cons_zero]) <;> rfl) (by kernel_rfl) (by kernel_rfl) (by kernel_rfl) (fun _ _ _ h => h) (Or.inl ⟨by rfl, fun w hSw => by ((try dsimp only at hSw); go_simp) <;> with_reducible rfl⟩) (by assumption) ?_
          (try simp only [Act.put, List.setIfInBounds_toArray, List.set_cons_zero, List.set_cons_succ])
          refine wpAnyH_take (i := 2) (v := _) (by (simp only [List.getElem?_toArray, List.getElem?_cons_succ, List.getElem?_cons_zero]) <;> rfl) (by kernel_rfl) (by kernel_rfl) (by kernel_rfl) (fun _ _ _ h => h) (Or.inl ⟨by rfl, fun w hSw => by ((try dsimp only at hSw); go_simp) <;> with_reducible rfl⟩) (by assumption) ?_
          (try simp only [Act.put, List.setIfInBounds_toArray, List.set_cons_zero, List.set_cons_succ])
          refine wpAnyH_take (i := 3) (v := _) (by (simp only [List.getElem?_toArray, List.getElem?_cons_succ, List.getElem?_cons_zero]) <;> rfl) (by kernel_rfl) (by kernel_rfl) (by kernel_rfl) (fun _ _ _ h => h) (Or.inl ⟨by rfl, fun w hSw => by ((try dsimp only at hSw); go_simp) <;> with_reducible rfl⟩) (by assumption) ?_
          (try simp only [Act.put, List.setIfInBounds_toArray, List.set_cons_zero, List.set_cons_succ])
          refine wpAnyH_take (i := 4) (v := _) (by (simp only [List.getElem?_toArray, List.getElem?_cons_succ, List.getElem?_cons_zero]) <;> rfl) (by kernel_rfl) (by kernel_rfl) (by kernel_rfl) (fun _ _ _ h => h) (Or.inl ⟨by rfl, fun w hSw => by ((try dsimp only at hSw); go_simp) <;> with_reducible rfl⟩) (by assumption) ?_
          (try simp only [Act.put, List.setIfInBounds_toArray, List.set_cons_zero, List.set_cons_succ])
          refine wpAnyH_take (i := 5) (v := _) (by (simp only [List.getElem?_toArray, List.getElem?_cons_succ, List.getElem?_cons_zero]) <;> rfl) (by kernel_rfl) (by kernel_rfl) (by kernel_rfl) (fun _ _ _ h => h) (Or.inl ⟨by rfl, fun w hSw => by ((try dsimp only at hSw); go_simp) <;> with_reducible rfl⟩) (by assumption) ?_
          (try simp only [Act.put, List.setIfInBounds_toArray, List.set_cons_zero, List.set_cons_succ])
          refine wpAnyH_take (i := 6) (v := _) (by (simp only [List.getElem?_toArray, List.getElem?_cons_succ, List.getElem?_cons_zero]) <;> rfl) (by kernel_rfl) (by kernel_rfl) (by kernel_rfl) (fun _ _ _ h => h) (Or.inl ⟨by rfl, fun w hSw => by ((try dsimp only at hSw); go_simp) <;> with_reducible rfl⟩) (by assumption) ?_
          (try simp only [Act.put, List.setIfInBounds_toArray, List.set_cons_zero, List.set_cons_succ])
          refine wpAnyH_ready (rs := [7]) (by kernel_rfl) (by simp) ?_
          refine AllReadyH.cons (by (simp only [List.getElem?_toArray, List.getElem?_cons_succ, List.getElem?_cons_zero]) <;> rfl) (fun K hK => ?_) AllReadyH.nil
          go_simp
          (go_at_call 39; refine (HCM.out _).mono ?_; rintro r w1 ⟨rfl, hb1⟩; have hB1 : Below wr.heap.size wr w1 := (by refine Below.trans ?_ (hb1.mono (by first | exact Nat.le_refl _ | omega | (simp; done) | (simp; omega))); repeat (first | exact Below.refl _ _ | assumption | refine Below.drew ?_ | refine belowDrewN ?_ _ | refine Below.alloc ?_ (by first | exact Nat.le_refl _ | omega | (simp; done) | (simp; omega)) _ | refine Below.setCell ?_ (by first | exact Nat.le_refl _ | omega | (simp; done) | (simp; omega)) _)); have O1 := Lib.hid (O.out.below hB1); have B1 := Box3.below B0 hB1 B0.size; have bx0 := B1.c0; have bx1 := B1.c1; have bx2 := B1.c2; have hs1 : w.heap.size + 1 ≤ w1.heap.size := (by have := hB1.size; omega); have x0 := (hB1.cell (p := ⟨b, off + k * 3, none⟩) hbb).trans c0; have x1 := (hB1.cell (p := ⟨b, off + k * 3 + 1, none⟩) hbb).trans c1; have x2 := (hB1.cell (p := ⟨b, off + k * 3 + 2, none⟩) hbb).trans c2; have BB := Lib.hid (hb.out.trans (hB1.mono (by have := hb.out.size; simp at this; omega))); clear hb1)
          refine hK.out _ _ (by simp [go_sem, *]) (fun hHeld => ?_)
          (try simp only [Act.put, List.setIfInBounds_toArray, List.set_cons_zero, List.set_cons_succ])
          refine wpAnyH_take (i := 8) (v := _) (by (simp only [List.getElem?_toArray, List.getElem?_cons_succ, List.getElem?_cons_zero]) <;> rfl) (by kernel_rfl) (by kernel_rfl) (by kernel_rfl) (fun _ _ _ h => h) (Or.inl ⟨by rfl, fun w hSw => by ((try dsimp only at hSw); go_simp) <;> with_reducible rfl⟩) (by assumption) ?_
          (try simp only [Act.put, List.setIfInBounds_toArray, List.set_cons_zero, List.set_cons_succ])
          refine wpAnyH_done (by kernel_rfl) ?_ _
          refine NoPanic.normal ?_
          go_wp2_with (at_builtin; refine wpList_append_ent rfl (.tmp 30) (.tmp 32) rfl (w.heap.size + 1) _ o (ef, eb, ev) rfl O1.out rfl (by have := HOL.out; omega) hs1 ?_; intro va vc w4 hO4 hb4 hs4; have O4 := Lib.hid hO4; have y0 := hE.out w4 (BB.out.trans hb4) _ rfl; obtain ⟨y0, y1, y2⟩ := y0; have hs4' : w.heap.size + 1 ≤ w4.heap.size := Nat.le_trans hs1 hs4; have BB4 := Lib.hid (BB.out.trans hb4); clear hO4 hb4)
          go_roundg (gk - 1)
          case measure => omega
          case rel => exact ⟨k + 1, (o ++ [(ef, eb, ev)]), true, by go_num, by first | rfl | simp, by have := HK.out; omega, Lib.hid (by first | exact O4.out | (have := O4.out; simpa using this)), Lib.hid (by rw [take_snoc (by rw [HN.out]; exact hkn), List.foldl_append, HF.out, HENT.out]; simp only [List.foldl_cons, List.foldl_nil, putStep, HCV.out]; simp [HSG.out]), BB4⟩
        · have hge : decide (0 ≤ c) = true := decide_eq_true (by omega)
          have hne : (c != 0) = true := by simp; omega
          have hc00 : c ≠ 0 := by omega
          have hgeP : 0 ≤ c := by omega
          have HSG := Lib.hid hsign
          clear hsign
          go_wp2_with fail
          refine wp_region_noPanic ?_
          refine wp_region_held_drew (S := (fun w' => w'.cell? ⟨b, off + k * 3, none⟩ = some (.int .i64 f) ∧ w'.cell? ⟨b, off + k * 3 + 1, none⟩ = some (.int .i64 bt) ∧ w'.cell? ⟨w.heap.size, 0, none⟩ = some (.int .i64 ef) ∧ w'.cell? ⟨w.heap.size, 1, none⟩ = some (.int .i64 eb))) (by kernel_rfl) (by simp [go_sem, *]) (fun hHeld => ?_)
          refine wpAnyH_take (i := 0) (v := _) (by (simp only [List.getElem?_toArray, List.getElem?_cons_zero]) <;> rfl) (by kernel_rfl) (by kernel_rfl) (by kernel_rfl) (fun _ _ _ h => h) (Or.inl ⟨by rfl, fun w hSw => by ((try dsimp only at hSw); go_simp) <;> with_reducible rfl⟩) (by assumption) ?_
          (try simp only [Act.put, List.setIfInBounds_toArray, List.set_cons_zero, List.set_cons_succ])
          refine wpAnyH_take (i := 1) (v := _) (by (simp only [List.getElem?_toArray, List.getElem?_cons_succ, List.getElem?_cons_zero]) <;> rfl) (by kernel_rfl) (by kernel_rfl) (by kernel_rfl) (fun _ _ _ h => h) (Or.inl ⟨by rfl, fun w hSw => by ((try dsimp only at hSw); go_simp) <;> with_reducible rfl⟩) (by assumption) ?_
          (try simp only [Act.put, List.setIfInBounds_toArray, List.set_cons_zero, List.set_cons_succ])
          refine wpAnyH_take (i := 2) (v := _) (by (simp only [List.getElem?_toArray, List.getElem?_cons_succ, List.getElem?_cons_zero]) <;> rfl) (by kernel_rfl) (by kernel_rfl) (by kernel_rfl) (fun _ _ _ h => h) (Or.inl ⟨by rfl, fun w hSw => by ((try dsimp only at hSw); go_simp) <;> with_reducible rfl⟩) (by assumption) ?_
          (try simp only [Act.put, List.setIfInBounds_toArray, List.set_cons_zero, List.set_cons_succ])
          refine wpAnyH_take (i := 3) (v := _) (by (simp only [List.getElem?_toArray, List.getElem?_cons_succ, List.getElem?_cons_zero]) <;> rfl) (by kernel_rfl) (by kernel_rfl) (by kernel_rfl) (fun _ _ _ h => h) (Or.inl ⟨by rfl, fun w hSw => by ((try dsimp only at hSw); go_simp) <;> with_reducible rfl⟩) (by assumption) ?_
          (try simp only [Act.put, List.setIfInBounds_toArray, List.set_cons_zero, List.set_cons_succ])
          refine wpAnyH_take (i := 4) (v := _) (by (simp only [List.getElem?_toArray, List.getElem?_cons_succ, List.getElem?_cons_zero]) <;> rfl) (by kernel_rfl) (by kernel_rfl) (by kernel_rfl) (fun _ _ _ h => h) (Or.inl ⟨by rfl, fun w hSw => by ((try dsimp only at hSw); go_simp) <;> with_reducible rfl⟩) (by assumption) ?_
          (try simp only [Act.put, List.setIfInBounds_toArray, List.set_cons_zero, List.set_cons_succ])
          refine wpAnyH_take (i := 5) (v := _) (by (simp only [List.getElem?_toArray, List.getElem?_cons_succ, List.getElem?_cons_zero]) <;> rfl) (by kernel_rfl) (by kernel_rfl) (by kernel_rfl) (fun _ _ _ h => h) (Or.inl ⟨by rfl, fun w hSw => by ((try dsimp only at hSw); go_simp) <;> with_reducible rfl⟩) (by assumption) ?_
          (try simp only [Act.put, List.setIfInBounds_toArray, List.set_cons_zero, List.set_cons_succ])
          refine wpAnyH_take (i := 6) (v := _) (by (simp only [List.getElem?_toArray, List.getElem?_cons_succ, List.getElem?_cons_zero]) <;> rfl) (by kernel_rfl) (by kernel_rfl) (by kernel_rfl) (fun _ _ _ h => h) (Or.inl ⟨by rfl, fun w hSw => by ((try dsimp only at hSw); go_simp) <;> with_reducible rfl⟩) (by assumption) ?_
          (try simp only [Act.put, List.setIfInBounds_toArray, List.set_cons_zero, List.set_cons_succ])
          refine wpAnyH_ready (rs := [7]) (by kernel_rfl) (by simp) ?_
          refine AllReadyH.cons (by (simp only [List.getElem?_toArray, List.getElem?_cons_succ, List.getElem?_cons_zero]) <;> rfl) (fun K hK => ?_) AllReadyH.nil
          go_simp
          (go_at_call 39; refine (HCM.out _).mono ?_; rintro r w1 ⟨rfl, hb1⟩; have hB1 : Below wr.heap.size wr w1 := (by refine Below.trans ?_ (hb1.mono (by first | exact Nat.le_refl _ | omega | (simp; done) | (simp; omega))); repeat (first | exact Below.refl _ _ | assumption | refine Below.drew ?_ | refine belowDrewN ?_ _ | refine Below.alloc ?_ (by first | exact Nat.le_refl _ | omega | (simp; done) | (simp; omega)) _ | refine Below.setCell ?_ (by first | exact Nat.le_refl _ | omega | (simp; done) | (simp; omega)) _)); have O1 := Lib.hid (O.out.below hB1); have B1 := Box3.below B0 hB1 B0.size; have bx0 := B1.c0; have bx1 := B1.c1; have bx2 := B1.c2; have hs1 : w.heap.size + 1 ≤ w1.heap.size := (by have := hB1.size; omega); have x0 := (hB1.cell (p := ⟨b, off + k * 3, none⟩) hbb).trans c0; have x1 := (hB1.cell (p := ⟨b, off + k * 3 + 1, none⟩) hbb).trans c1; have x2 := (hB1.cell (p := ⟨b, off + k * 3 + 2, none⟩) hbb).trans c2; have BB := Lib.hid (hb.out.trans (hB1.mono (by have := hb.out.size; simp at this; omega))); clear hb1)
          refine hK.out _ _ (by simp [go_sem, *]) (fun hHeld => ?_)
          (try simp only [Act.put, List.setIfInBounds_toArray, List.set_cons_zero, List.set_cons_succ])
          refine wpAnyH_take (i := 8) (v := _) (by (simp only [List.getElem?_toArray, List.getElem?_cons_succ, List.getElem?_cons_zero]) <;> rfl) (by kernel_rfl) (by kernel_rfl) (by kernel_rfl) (fun _ _ _ h => h) (Or.inl ⟨by rfl, fun w hSw => by ((try dsimp only at hSw); go_simp) <;> with_reducible rfl⟩) (by assumption) ?_
          (try simp only [Act.put, List.setIfInBounds_toArray, List.set_cons_zero, List.set_cons_succ])
          refine wpAnyH_done (by kernel_rfl) ?_ _
          refine NoPanic.normal ?_
          go_wp2_with (first | (at_builtin; refine wpList_append_ent rfl (.tmp 30) (.tmp 32) rfl (w.heap.size + 1) _ o (ef, eb, ev) rfl O1.out rfl (by have := HOL.out; omega) hs1 ?_; intro va vc w4 hO4 hb4 hs4; have O4 := Lib.hid hO4; have y0 := hE.out w4 (BB.out.trans hb4) _ rfl; obtain ⟨y0, y1, y2⟩ := y0; have hs4' : w.heap.size + 1 ≤ w4.heap.size := Nat.le_trans hs1 hs4; have BB4 := Lib.hid (BB.out.trans hb4); clear hO4 hb4) | (at_builtin; refine wpList_append_ent rfl (.tmp 36) (.tmp 41) rfl (w.heap.size + 1) _ (o ++ [(ef, eb, ev)]) (f, bt, vi) rfl O4.out rfl (by have := HOL.out; (try rw [List.length_append]); (try rw [List.length_singleton]); omega) hs4' ?_; intro va5 vc5 w5 hO5 hb5 hs5; have O5 := Lib.hid hO5; have BB5 := Lib.hid (BB4.out.trans hb5); clear hO5 hb5))
          go_roundg (gk - 1)
          case measure => omega
          case rel => exact ⟨k + 1, ((o ++ [(ef, eb, ev)]) ++ [(f, bt, vi)]), true, by go_num, by first | rfl | simp, by have := HK.out; omega, Lib.hid (by first | exact O5.out | (have := O5.out; simpa using this)), Lib.hid (by rw [take_snoc (by rw [HN.out]; exact hkn), List.foldl_append, HF.out, HENT.out]; simp only [List.foldl_cons, List.foldl_nil, putStep, HCV.out]; simp [hgeP, hc00]), BB5⟩
      · rcases Int.lt_trichotomy c 0 with hsign | hsign | hsign
        · have hc0 : c < 0 := hsign
          have hge : decide (0 ≤ c) = false := decide_eq_false (by omega)
          have hne : (c != 0) = true := by simp; omega
          have hc00 : c ≠ 0 := by omega
          have hngeP : ¬ 0 ≤ c := by omega
          have HSG := Lib.hid hsign
          clear hsign
          go_wp2_with fail
          refine wp_region_noPanic ?_
          refine wp_region_held_drew (S := (fun w' => w'.cell? ⟨b, off + k * 3, none⟩ = some (.int .i64 f) ∧ w'.cell? ⟨b, off + k * 3 + 1, none⟩ = some (.int .i64 bt) ∧ w'.cell? ⟨w.heap.size, 0, none⟩ = some (.int .i64 ef) ∧ w'.cell? ⟨w.heap.size, 1, none⟩ = some (.int .i64 eb))) (by kernel_rfl) (by simp [go_sem, *]) (fun hHeld => ?_)
          refine wpAnyH_take (i := 0) (v := _) (by (simp only [List.getElem?_toArray, List.getElem?_cons_zero]) <;> rfl) (by kernel_rfl) (by kernel_rfl) (by kernel_rfl) (fun _ _ _ h => h) (Or.inl ⟨by rfl, fun w hSw => by ((try dsimp only at hSw); go_simp) <;> with_reducible rfl⟩) (by assumption) ?_
          (try simp only [Act.put, List.setIfInBounds_toArray, List.set_cons_zero, List.set_cons_succ])
          refine wpAnyH_take (i := 1) (v := _) (by (simp only [List.getElem?_toArray, List.getElem?_cons_succ, List.getElem?_cons_zero]) <;> rfl) (by kernel_rfl) (by kernel_rfl) (by kernel_rfl) (fun _ _ _ h => h) (Or.inl ⟨by rfl, fun w hSw => by ((try dsimp only at hSw); go_simp) <;> with_reducible rfl⟩) (by assumption) ?_
          (try simp only [Act.put, List.setIfInBounds_toArray, List.set_cons_zero, List.set_cons_succ])
          refine wpAnyH_take (i := 2) (v := _) (by (simp only [List.getElem?_toArray, List.getElem?_cons_succ, List.getElem?_cons_zero]) <;> rfl) (by kernel_rfl) (by kernel_rfl) (by kernel_rfl) (fun _ _ _ h => h) (Or.inl ⟨by rfl, fun w hSw => by ((try dsimp only at hSw); go_simp) <;> with_reducible rfl⟩) (by assumption) ?_
          (try simp only [Act.put, List.setIfInBounds_toArray, List.set_cons_zero, List.set_cons_succ])
          refine wpAnyH_take (i := 3) (v := _) (by (simp only [List.getElem?_toArray, List.getElem?_cons_succ, List.getElem?_cons_zero]) <;> rfl) (by kernel_rfl) (by kernel_rfl) (by kernel_rfl) (fun _ _ _ h => h) (Or.inl ⟨by rfl, fun w hSw => by ((try dsimp only at hSw); go_simp) <;> with_reducible rfl⟩) (by assumption) ?_
          (try simp only [Act.put, List.setIfInBounds_toArray, List.set_cons_zero, List.set_cons_succ])
          refine wpAnyH_take (i := 4) (v := _) (by (simp only [List.getElem?_toArray, List.getElem?_cons_succ, List.getElem?_cons_zero]) <;> rfl) (by kernel_rfl) (by kernel_rfl) (by kernel_rfl) (fun _ _ _ h => h) (Or.inl ⟨by rfl, fun w hSw => by ((try dsimp only at hSw); go_simp) <;> with_reducible rfl⟩) (by assumption) ?_
          (try simp only [Act.put, List.setIfInBounds_toArray, List.set_cons_zero, List.set_cons_succ])
          refine wpAnyH_take (i := 5) (v := _) (by (simp only [List.getElem?_toArray, List.getElem?_cons_succ, List.getElem?_cons_zero]) <;> rfl) (by kernel_rfl) (by kernel_rfl) (by kernel_rfl) (fun _ _ _ h => h) (Or.inl ⟨by rfl, fun w hSw => by ((try dsimp only at hSw); go_simp) <;> with_reducible rfl⟩) (by assumption) ?_
          (try simp only [Act.put, List.setIfInBounds_toArray, List.set_cons_zero, List.set_cons_succ])
          refine wpAnyH_take (i := 6) (v := _) (by (simp only [List.getElem?_toArray, List.getElem?_cons_succ, List.getElem?_cons_zero]) <;> rfl) (by kernel_rfl) (by kernel_rfl) (by kernel_rfl) (fun _ _ _ h => h) (Or.inl ⟨by rfl, fun w hSw => by ((try dsimp only at hSw); go_simp) <;> with_reducible rfl⟩) (by assumption) ?_
          (try simp only [Act.put, List.setIfInBounds_toArray, List.set_cons_zero, List.set_cons_succ])
          refine wpAnyH_ready (rs := [7]) (by kernel_rfl) (by simp) ?_
          refine AllReadyH.cons (by (simp only [List.getElem?_toArray, List.getElem?_cons_succ, List.getElem?_cons_zero]) <;> rfl) (fun K hK => ?_) AllReadyH.nil
          go_simp
          (go_at_call 39; refine (HCM.out _).mono ?_; rintro r w1 ⟨rfl, hb1⟩; have hB1 : Below wr.heap.size wr w1 := (by refine Below.trans ?_ (hb1.mono (by first | exact Nat.le_refl _ | omega | (simp; done) | (simp; omega))); repeat (first | exact Below.refl _ _ | assumption | refine Below.drew ?_ | refine belowDrewN ?_ _ | refine Below.alloc ?_ (by first | exact Nat.le_refl _ | omega | (simp; done) | (simp; omega)) _ | refine Below.setCell ?_ (by first | exact Nat.le_refl _ | omega | (simp; done) | (simp; omega)) _)); have O1 := Lib.hid (O.out.below hB1); have B1 := Box3.below B0 hB1 B0.size; have bx0 := B1.c0; have bx1 := B1.c1; have bx2 := B1.c2; have hs1 : w.heap.size + 1 ≤ w1.heap.size := (by have := hB1.size; omega); have x0 := (hB1.cell (p := ⟨b, off + k * 3, none⟩) hbb).trans c0; have x1 := (hB1.cell (p := ⟨b, off + k * 3 + 1, none⟩) hbb).trans c1; have x2 := (hB1.cell (p := ⟨b, off + k * 3 + 2, none⟩) hbb).trans c2; have BB := Lib.hid (hb.out.trans (hB1.mono (by have := hb.out.size; simp at this; omega))); clear hb1)
          refine hK.out _ _ (by simp [go_sem, *]) (fun hHeld => ?_)
          (try simp only [Act.put, List.setIfInBounds_toArray, List.set_cons_zero, List.set_cons_succ])
          refine wpAnyH_take (i := 8) (v := _) (by (simp only [List.getElem?_toArray, List.getElem?_cons_succ, List.getElem?_cons_zero]) <;> rfl) (by kernel_rfl) (by kernel_rfl) (by kernel_rfl) (fun _ _ _ h => h) (Or.inl ⟨by rfl, fun w hSw => by ((try dsimp only at hSw); go_simp) <;> with_reducible rfl⟩) (by assumption) ?_
          (try simp only [Act.put, List.setIfInBounds_toArray, List.set_cons_zero, List.set_cons_succ])
          refine wpAnyH_done (by kernel_rfl) ?_ _
          refine NoPanic.normal ?_
          go_wp2_with (at_builtin; refine wpList_append_ent rfl (.tmp 36) (.tmp 41) rfl (w.heap.size + 1) _ o (f, bt, vi) rfl O1.out rfl (by have := HOL.out; (try rw [List.length_append]); (try rw [List.length_singleton]); omega) hs1 ?_; intro va5 vc5 w5 hO5 hb5 hs5; have O5 := Lib.hid hO5; have BB5 := Lib.hid (BB.out.trans hb5); clear hO5 hb5)
          go_roundg (gk - 1)
          case measure => omega
          case rel => exact ⟨k + 1, (o ++ [(f, bt, vi)]), true, by go_num, by first | rfl | simp, by have := HK.out; omega, Lib.hid (by first | exact O5.out | (have := O5.out; simpa using this)), Lib.hid (by rw [take_snoc (by rw [HN.out]; exact hkn), List.foldl_append, HF.out, HENT.out]; simp only [List.foldl_cons, List.foldl_nil, putStep, HCV.out]; simp [hc00]), BB5⟩
        · have hge : decide (0 ≤ c) = true := decide_eq_true (by omega)
          have hne : (c != 0) = false := by simp [hsign]
          have hgeP : 0 ≤ c := by omega
          have HSG := Lib.hid hsign
          clear hsign
          go_wp2_with fail
          refine wp_region_noPanic ?_
          refine wp_region_held_drew (S := (fun w' => w'.cell? ⟨b, off + k * 3, none⟩ = some (.int .i64 f) ∧ w'.cell? ⟨b, off + k * 3 + 1, none⟩ = some (.int .i64 bt) ∧ w'.cell? ⟨w.heap.size, 0, none⟩ = some (.int .i64 ef) ∧ w'.cell? ⟨w.heap.size, 1, none⟩ = some (.int .i64 eb))) (by kernel_rfl) (by simp [go_sem, *]) (fun hHeld => ?_)
          refine wpAnyH_take (i := 0) (v := _) (by (simp only [List.getElem?_toArray, List.getElem?_cons_zero]) <;> rfl) (by kernel_rfl) (by kernel_rfl) (by kernel_rfl) (fun _ _ _ h => h) (Or.inl ⟨by rfl, fun w hSw => by ((try dsimp only at hSw); go_simp) <;> with_reducible rfl⟩) (by assumption) ?_
          (try simp only [Act.put, List.setIfInBounds_toArray, List.set_cons_zero, List.set_cons_succ])
          refine wpAnyH_take (i := 1) (v := _) (by (simp only [List.getElem?_toArray, List.getElem?_cons_succ, List.getElem?_cons_zero]) <;> rfl) (by kernel_rfl) (by kernel_rfl) (by kernel_rfl) (fun _ _ _ h => h) (Or.inl ⟨by rfl, fun w hSw => by ((try dsimp only at hSw); go_simp) <;> with_reducible rfl⟩) (by assumption) ?_
          (try simp only [Act.put, List.setIfInBounds_toArray, List.set_cons_zero, List.set_cons_succ])
          refine wpAnyH_take (i := 2) (v := _) (by (simp only [List.getElem?_toArray, List.getElem?_cons_succ, List.getElem?_cons_zero]) <;> rfl) (by kernel_rfl) (by kernel_rfl) (by kernel_rfl) (fun _ _ _ h => h) (Or.inl ⟨by rfl, fun w hSw => by ((try dsimp only at hSw); go_simp) <;> with_reducible rfl⟩) (by assumption) ?_
          (try simp only [Act.put, List.setIfInBounds_toArray, List.set_cons_zero, List.set_cons_succ])
          refine wpAnyH_take (i := 3) (v := _) (by (simp only [List.getElem?_toArray, List.getElem?_cons_succ, List.getElem?_cons_zero]) <;> rfl) (by kernel_rfl) (by kernel_rfl) (by kernel_rfl) (fun _ _ _ h => h) (Or.inl ⟨by rfl, fun w hSw => by ((try dsimp only at hSw); go_simp) <;> with_reducible rfl⟩) (by assumption) ?_
          (try simp only [Act.put, List.setIfInBounds_toArray, List.set_cons_zero, List.set_cons_succ])
          refine wpAnyH_take (i := 4) (v := _) (by (simp only [List.getElem?_toArray, List.getElem?_cons_succ, List.getElem?_cons_zero]) <;> rfl) (by kernel_rfl) (by kernel_rfl) (by kernel_rfl) (fun _ _ _ h => h) (Or.inl ⟨by rfl, fun w hSw => by ((try dsimp only at hSw); go_simp) <;> with_reducible rfl⟩) (by assumption) ?_
          (try simp only [Act.put, List.setIfInBounds_toArray, List.set_cons_zero, List.set_cons_succ])
          refine wpAnyH_take (i := 5) (v := _) (by (simp only [List.getElem?_toArray, List.getElem?_cons_succ, List.getElem?_cons_zero]) <;> rfl) (by kernel_rfl) (by kernel_rfl) (by kernel_rfl) (fun _ _ _ h => h) (Or.inl ⟨by rfl, fun w hSw => by ((try dsimp only at hSw); go_simp) <;> with_reducible rfl⟩) (by assumption) ?_
          (try simp only [Act.put, List.setIfInBounds_toArray, List.set_cons_zero, List.set_cons_succ])
          refine wpAnyH_take (i := 6) (v := _) (by (simp only [List.getElem?_toArray, List.getElem?_cons_succ, List.getElem?_cons_zero]) <;> rfl) (by kernel_rfl) (by kernel_rfl) (by kernel_rfl) (fun _ _ _ h => h) (Or.inl ⟨by rfl, fun w hSw => by ((try dsimp only at hSw); go_simp) <;> with_reducible rfl⟩) (by assumption) ?_
          (try simp only [Act.put, List.setIfInBounds_toArray, List.set_cons_zero, List.set_cons_succ])
          refine wpAnyH_ready (rs := [7]) (by kernel_rfl) (by simp) ?_
          refine AllReadyH.cons (by (simp only [List.getElem?_toArray, List.getElem?_cons_succ, List.getElem?_cons_zero]) <;> rfl) (fun K hK => ?_) AllReadyH.nil
          go_simp
          (go_at_call 39; refine (HCM.out _).mono ?_; rintro r w1 ⟨rfl, hb1⟩; have hB1 : Below wr.heap.size wr w1 := (by refine Below.trans ?_ (hb1.mono (by first | exact Nat.le_refl _ | omega | (simp; done) | (simp; omega))); repeat (first | exact Below.refl _ _ | assumption | refine Below.drew ?_ | refine belowDrewN ?_ _ | refine Below.alloc ?_ (by first | exact Nat.le_refl _ | omega | (simp; done) | (simp; omega)) _ | refine Below.setCell ?_ (by first | exact Nat.le_refl _ | omega | (simp; done) | (simp; omega)) _)); have O1 := Lib.hid (O.out.below hB1); have B1 := Box3.below B0 hB1 B0.size; have bx0 := B1.c0; have bx1 := B1.c1; have bx2 := B1.c2; have hs1 : w.heap.size + 1 ≤ w1.heap.size := (by have := hB1.size; omega); have x0 := (hB1.cell (p := ⟨b, off + k * 3, none⟩) hbb).trans c0; have x1 := (hB1.cell (p := ⟨b, off + k * 3 + 1, none⟩) hbb).trans c1; have x2 := (hB1.cell (p := ⟨b, off + k * 3 + 2, none⟩) hbb).trans c2; have BB := Lib.hid (hb.out.trans (hB1.mono (by have := hb.out.size; simp at this; omega))); clear hb1)
          refine hK.out _ _ (by simp [go_sem, *]) (fun hHeld => ?_)
          (try simp only [Act.put, List.setIfInBounds_toArray, List.set_cons_zero, List.set_cons_succ])
          refine wpAnyH_take (i := 8) (v := _) (by (simp only [List.getElem?_toArray, List.getElem?_cons_succ, List.getElem?_cons_zero]) <;> rfl) (by kernel_rfl) (by kernel_rfl) (by kernel_rfl) (fun _ _ _ h => h) (Or.inl ⟨by rfl, fun w hSw => by ((try dsimp only at hSw); go_simp) <;> with_reducible rfl⟩) (by assumption) ?_
          (try simp only [Act.put, List.setIfInBounds_toArray, List.set_cons_zero, List.set_cons_succ])
          refine wpAnyH_done (by kernel_rfl) ?_ _
          refine NoPanic.normal ?_
          go_wp2_with fail
          go_roundg (gk - 1)
          case measure => omega
          case rel => exact ⟨k + 1, o, true, by go_num, by first | rfl | simp, by have := HK.out; omega, Lib.hid (by first | exact O1.out | (have := O1.out; simpa using this)), Lib.hid (by rw [take_snoc (by rw [HN.out]; exact hkn), List.foldl_append, HF.out, HENT.out]; simp only [List.foldl_cons, List.foldl_nil, putStep, HCV.out]; simp [HSG.out]), BB⟩
        · have hge : decide (0 ≤ c) = true := decide_eq_true (by omega)
          have hne : (c != 0) = true := by simp; omega
          have hc00 : c ≠ 0 := by omega
          have hgeP : 0 ≤ c := by omega
          have HSG := Lib.hid hsign
          clear hsign
          go_wp2_with fail
          refine wp_region_noPanic ?_
          refine wp_region_held_drew (S := (fun w' => w'.cell? ⟨b, off + k * 3, none⟩ = some (.int .i64 f) ∧ w'.cell? ⟨b, off + k * 3 + 1, none⟩ = some (.int .i64 bt) ∧ w'.cell? ⟨w.heap.size, 0, none⟩ = some (.int .i64 ef) ∧ w'.cell? ⟨w.heap.size, 1, none⟩ = some (.int .i64 eb))) (by kernel_rfl) (by simp [go_sem, *]) (fun hHeld => ?_)
          refine wpAnyH_take (i := 0) (v := _) (by (simp only [List.getElem?_toArray, List.getElem?_cons_zero]) <;> rfl) (by kernel_rfl) (by kernel_rfl) (by kernel_rfl) (fun _ _ _ h => h) (Or.inl ⟨by rfl, fun w hSw => by ((try dsimp only at hSw); go_simp) <;> with_reducible rfl⟩) (by assumption) ?_
          (try simp only [Act.put, List.setIfInBounds_toArray, List.set_cons_zero, List.set_cons_succ])
          refine wpAnyH_take (i := 1) (v := _) (by (simp only [List.getElem?_toArray, List.getElem?_cons_succ, List.getElem?_cons_zero]) <;> rfl) (by kernel_rfl) (by kernel_rfl) (by kernel_rfl) (fun _ _ _ h => h) (Or.inl ⟨by rfl, fun w hSw => by ((try dsimp only at hSw); go_simp) <;> with_reducible rfl⟩) (by assumption) ?_
          (try simp only [Act.put, List.setIfInBounds_toArray, List.set_cons_zero, List.set_cons_succ])
          refine wpAnyH_take (i := 2) (v := _) (by (simp only [List.getElem?_toArray, List.getElem?_cons_succ, List.getElem?_cons_zero]) <;> rfl) (by kernel_rfl) (by kernel_rfl) (by kernel_rfl) (fun _ _ _ h => h) (Or.inl ⟨by rfl, fun w hSw => by ((try dsimp only at hSw); go_simp) <;> with_reducible rfl⟩) (by assumption) ?_
          (try simp only [Act.put, List.setIfInBounds_toArray, List.set_cons_zero, List.set_cons_succ])
          refine wpAnyH_take (i := 3) (v := _) (by (simp only [List.getElem?_toArray, List.getElem?_cons_succ, List.getElem?_cons_zero]) <;> rfl) (by kernel_rfl) (by kernel_rfl) (by kernel_rfl) (fun _ _ _ h => h) (Or.inl ⟨by rfl, fun w hSw => by ((try dsimp only at hSw); go_simp) <;> with_reducible rfl⟩) (by assumption) ?_
          (try simp only [Act.put, List.setIfInBounds_toArray, List.set_cons_zero, List.set_cons_succ])
          refine wpAnyH_take (i := 4) (v := _) (by (simp only [List.getElem?_toArray, List.getElem?_cons_succ, List.getElem?_cons_zero]) <;> rfl) (by kernel_rfl) (by kernel_rfl) (by kernel_rfl) (fun _ _ _ h => h) (Or.inl ⟨by rfl, fun w hSw => by ((try dsimp only at hSw); go_simp) <;> with_reducible rfl⟩) (by assumption) ?_
          (try simp only [Act.put, List.setIfInBounds_toArray, List.set_cons_zero, List.set_cons_succ])
          refine wpAnyH_take (i := 5) (v := _) (by (simp only [List.getElem?_toArray, List.getElem?_cons_succ, List.getElem?_cons_zero]) <;> rfl) (by kernel_rfl) (by kernel_rfl) (by kernel_rfl) (fun _ _ _ h => h) (Or.inl ⟨by rfl, fun w hSw => by ((try dsimp only at hSw); go_simp) <;> with_reducible rfl⟩) (by assumption) ?_
          (try simp only [Act.put, List.setIfInBounds_toArray, List.set_cons_zero, List.set_cons_succ])
          refine wpAnyH_take (i := 6) (v := _) (by (simp only [List.getElem?_toArray, List.getElem?_cons_succ, List.getElem?_cons_zero]) <;> rfl) (by kernel_rfl) (by kernel_rfl) (by kernel_rfl) (fun _ _ _ h => h) (Or.inl ⟨by rfl, fun w hSw => by ((try dsimp only at hSw); go_simp) <;> with_reducible rfl⟩) (by assumption) ?_
          (try simp only [Act.put, List.setIfInBounds_toArray, List.set_cons_zero, List.set_cons_succ])
          refine wpAnyH_ready (rs := [7]) (by kernel_rfl) (by simp) ?_
          refine AllReadyH.cons (by (simp only [List.getElem?_toArray, List.getElem?_cons_succ, List.getElem?_cons_zero]) <;> rfl) (fun K hK => ?_) AllReadyH.nil
          go_simp
          (go_at_call 39; refine (HCM.out _).mono ?_; rintro r w1 ⟨rfl, hb1⟩; have hB1 : Below wr.heap.size wr w1 := (by refine Below.trans ?_ (hb1.mono (by first | exact Nat.le_refl _ | omega | (simp; done) | (simp; omega))); repeat (first | exact Below.refl _ _ | assumption | refine Below.drew ?_ | refine belowDrewN ?_ _ | refine Below.alloc ?_ (by first | exact Nat.le_refl _ | omega | (simp; done) | (simp; omega)) _ | refine Below.setCell ?_ (by first | exact Nat.le_refl _ | omega | (simp; done) | (simp; omega)) _)); have O1 := Lib.hid (O.out.below hB1); have B1 := Box3.below B0 hB1 B0.size; have bx0 := B1.c0; have bx1 := B1.c1; have bx2 := B1.c2; have hs1 : w.heap.size + 1 ≤ w1.heap.size := (by have := hB1.size; omega); have x0 := (hB1.cell (p := ⟨b, off + k * 3, none⟩) hbb).trans c0; have x1 := (hB1.cell (p := ⟨b, off + k * 3 + 1, none⟩) hbb).trans c1; have x2 := (hB1.cell (p := ⟨b, off + k * 3 + 2, none⟩) hbb).trans c2; have BB := Lib.hid (hb.out.trans (hB1.mono (by have := hb.out.size; simp at this; omega))); clear hb1)
          refine hK.out _ _ (by simp [go_sem, *]) (fun hHeld => ?_)
          (try simp only [Act.put, List.setIfInBounds_toArray, List.set_cons_zero, List.set_cons_succ])
          refine wpAnyH_take (i := 8) (v := _) (by (simp only [List.getElem?_toArray, List.getElem?_cons_succ, List.getElem?_cons_zero]) <;> rfl) (by kernel_rfl) (by kernel_rfl) (by kernel_rfl) (fun _ _ _ h => h) (Or.inl ⟨by rfl, fun w hSw => by ((try dsimp only at hSw); go_simp) <;> with_reducible rfl⟩) (by assumption) ?_
          (try simp only [Act.put, List.setIfInBounds_toArray, List.set_cons_zero, List.set_cons_succ])
          refine wpAnyH_done (by kernel_rfl) ?_ _
          refine NoPanic.normal ?_
          go_wp2_with (at_builtin; refine wpList_append_ent rfl (.tmp 36) (.tmp 41) rfl (w.heap.size + 1) _ o (f, bt, vi) rfl O1.out rfl (by have := HOL.out; (try rw [List.length_append]); (try rw [List.length_singleton]); omega) hs1 ?_; intro va5 vc5 w5 hO5 hb5 hs5; have O5 := Lib.hid hO5; have BB5 := Lib.hid (BB.out.trans hb5); clear hO5 hb5)
          go_roundg (gk - 1)
          case measure => omega
          case rel => exact ⟨k + 1, (o ++ [(f, bt, vi)]), true, by go_num, by first | rfl | simp, by have := HK.out; omega, Lib.hid (by first | exact O5.out | (have := O5.out; simpa using this)), Lib.hid (by rw [take_snoc (by rw [HN.out]; exact hkn), List.foldl_append, HF.out, HENT.out]; simp only [List.foldl_cons, List.foldl_nil, putStep, HCV.out]; simp [hgeP, hc00]), BB5⟩
end Go.Proofs.YtlpibfafpljedaaGreatDoor

namespace Go.Proofs.YtlpibfafpljedaaGreatDoor
open Go.RowKit
set_option linter.unusedVariables false

/-- n numbers, whatever they are, in a block of their own from lo on -/
def HasNums (w : World) (lo : Nat) (v : Value) (n : Nat) : Prop :=
  (v = .slice none 0 0 ∧ n = 0) ∨ ∃ g cap cur, v = .slice (some ⟨g, 0, none⟩) n cap ∧ lo ≤ g ∧ w.heap[g]? = some (.cells cur 3 (0, 0)) ∧ n ≤ cap ∧ cap ≤ maxLen ∧ cur.size = cap ∧ ∀ j, j < n → ∃ x : Int, cur[j]? = some (.int .i64 x)
theorem HasNums.keep {w w' : World} {lo n : Nat} {v : Value} (h : HasNums w lo v n) (hb : ∀ g cur, lo ≤ g → w.heap[g]? = some (.cells cur 3 (0, 0)) → w'.heap[g]? = w.heap[g]?) : HasNums w' lo v n := by
  rcases h with h | ⟨g, cap, cur, h1, h2, h3, h4⟩
  · exact .inl h
  · exact .inr ⟨g, cap, cur, h1, h2, (hb g cur h2 h3).trans h3, h4⟩
theorem HasNums.below {w w' : World} {lo n : Nat} {v : Value} (h : HasNums w lo v n) (hb : Below w.heap.size w w') : HasNums w' lo v n := h.keep fun g cur _ hc => hb.block g (heap_lt hc)
theorem HasNums.only {w w' : World} {lo n k : Nat} {v : Value} (h : HasNums w lo v n) (ho : Only k w w') (hk : k < lo) : HasNums w' lo v n := h.keep fun g cur hg hc => ho.block g (heap_lt hc) (by omega)
theorem HasNums.grown {w w' : World} {lo n : Nat} {v : Value} {row : Option Nat} (h : HasNums w lo v n) (hg : w.grownBy w' row) (hrow : ∀ g, row = some g → ∀ cur mk, w.heap[g]? ≠ some (.cells cur 3 mk)) : HasNums w' lo v n :=
  h.keep fun g cur _ hc => hg.block g (heap_lt hc) (by intro e; exact hrow g e.symm cur _ hc)
theorem HasNums.set {w : World} {lo n : Nat} {v : Value} (h : HasNums w lo v n) (g' j : Nat) (x : Int) : HasNums (w.setCell ⟨g', j, none⟩ (.int .i64 x)) lo v n := by
  rcases h with h | ⟨g, cap, cur, h1, h2, h3, h4, h5, h6, h7⟩
  · exact .inl h
  · by_cases e : g = g'
    · subst e
      refine .inr ⟨g, cap, _, h1, h2, setCell_block h3, h4, h5, by simpa using h6, fun q hq => ?_⟩
      by_cases eq : j = q
      · subst eq; exact ⟨x, Array.getElem?_setIfInBounds_self_of_lt (by omega)⟩
      · obtain ⟨y, hy⟩ := h7 q hq
        exact ⟨y, by rw [Array.getElem?_setIfInBounds_ne eq]; exact hy⟩
    · exact .inr ⟨g, cap, cur, h1, h2, (Below.heap_setCell _ _ _ _ (by simpa using e)).trans h3, h4, h5, h6, h7⟩
theorem HasNums.lift {w : World} {lo lo' n : Nat} {v : Value} (h : HasNums w lo v n) (hl : lo' ≤ lo) : HasNums w lo' v n := by
  rcases h with h | ⟨g, cap, cur, h1, h2, h3⟩
  · exact .inl h
  · exact .inr ⟨g, cap, cur, h1, Nat.le_trans hl h2, h3⟩
theorem HasNums.get {w : World} {lo n : Nat} {v : Value} (h : HasNums w lo v n) (i : Nat) (hi : i < n) :
    ∃ g cap cur x, v = .slice (some ⟨g, 0, none⟩) n cap ∧ lo ≤ g ∧ g < w.heap.size ∧ w.heap[g]? = some (.cells cur 3 (0, 0)) ∧ w.cell? ⟨g, i, none⟩ = some (.int .i64 x) ∧ w.frozen? ⟨g, i, none⟩ = false ∧ n ≤ cap ∧ cap ≤ 9223372036854775807 := by
  rcases h with ⟨_, h⟩ | ⟨g, cap, cur, h1, h2, h3, h4, h5, h6, h7⟩
  · omega
  · obtain ⟨x, hx⟩ := h7 i hi
    exact ⟨g, cap, cur, x, h1, h2, heap_lt h3, h3, by rw [cell_of_row w g i cur 3 (0, 0) h3, hx], frozen_of_row w g i cur 3 h3, h4, by unfold maxLen at h5; exact h5⟩
theorem HasNums.form {w : World} {lo n : Nat} {v : Value} (h : HasNums w lo v n) : ∃ a cap, v = .slice a n cap ∧ n ≤ cap ∧ cap ≤ 9223372036854775807 := by
  rcases h with ⟨rfl, rfl⟩ | ⟨g, cap, cur, h1, h2, h3, h4, h5, _⟩
  · exact ⟨none, 0, rfl, by omega, by omega⟩
  · exact ⟨_, cap, h1, h4, by unfold maxLen at h5; exact h5⟩
theorem HasNums.ints {w : World} {lo n : Nat} {v : Value} (h : HasNums w lo v n) : ∃ l, l.length = n ∧ IntsAt w v l := by
  rcases h with ⟨rfl, rfl⟩ | ⟨g, cap, cur, h1, h2, h3, h4, h5, h6, h7⟩
  · exact ⟨[], rfl, none, 0, rfl, Nat.le_refl _, Nat.zero_le _, .inl rfl⟩
  · obtain ⟨Z, hZ⟩ := Go.Deep.choose_lt (α := Int) h7
    refine ⟨(List.range n).map Z, by simp, ?_⟩
    unfold IntsAt
    rw [show ((List.range n).map Z).length = n by simp]
    refine ⟨_, cap, h1, h4, h5, .inr ⟨g, 0, rfl, heap_lt h3, fun i hi => ?_⟩⟩
    rw [Nat.zero_add, cell_of_row w g i cur 3 (0, 0) h3, hZ i hi]
    simp [hi]
theorem OwnInts.nums {w : World} {lo : Nat} {v : Value} {l : List Int} (h : OwnInts w lo v l) : HasNums w lo v l.length := by
  have h' : w.ownsRow lo 3 1 v l.length (l.map (Value.int .i64)) := h
  rcases h'.2 with ⟨rfl, hn⟩ | ⟨g, cap, cur, rfl, hb, hg, hnc, hcm, hcs, htake⟩
  · exact .inl ⟨rfl, hn⟩
  · refine .inr ⟨g, cap, cur, rfl, hb, hg, hnc, hcm, by simpa using hcs, fun j hj => ⟨l[j], ?_⟩⟩
    rw [Nat.mul_one] at htake
    have e : (cur.toList.take l.length)[j]? = some (.int .i64 l[j]) := by rw [htake]; simp [hj]
    rw [List.getElem?_take_of_lt hj] at e
    simpa using e
theorem owns_blk {w w' : World} {lo n size : Nat} {T : TypeId} {v : Value} {us : List Value} (h : w.ownsRow lo T size v n us) (hb : ∀ g cur, lo ≤ g → w.heap[g]? = some (.cells cur T (0, 0)) → w'.heap[g]? = w.heap[g]?) : w'.ownsRow lo T size v n us := by
  refine ⟨h.1, ?_⟩
  rcases h.2 with h' | ⟨g, cap, cur, h1, h2, h3, h4⟩
  · exact .inl h'
  · exact .inr ⟨g, cap, cur, h1, h2, (hb g cur h2 h3).trans h3, h4⟩
theorem owns_lift {w : World} {lo lo' n size : Nat} {T : TypeId} {v : Value} {us : List Value} (h : w.ownsRow lo T size v n us) (hl : lo' ≤ lo) : w.ownsRow lo' T size v n us := by
  refine ⟨h.1, ?_⟩
  rcases h.2 with h' | ⟨g, cap, cur, h1, h2, h3⟩
  · exact .inl h'
  · exact .inr ⟨g, cap, cur, h1, Nat.le_trans hl h2, h3⟩
/-- m rows of n numbers -/
def MatH (w : World) (lo : Nat) (v : Value) (m n : Nat) : Prop := ∃ vs : List Value, vs.length = m ∧ w.ownsRow lo 37 1 v m vs ∧ ∀ i, i < m → HasNums w lo (vs.getD i undef) n
theorem MatH.below {w w' : World} {lo m n : Nat} {v : Value} (h : MatH w lo v m n) (hb : Below w.heap.size w w') : MatH w' lo v m n := by
  obtain ⟨vs, h1, h2, h3⟩ := h
  exact ⟨vs, h1, owns_belowR h2 hb, fun i hi => (h3 i hi).below hb⟩
theorem MatH.only {w w' : World} {lo m n k : Nat} {v : Value} (h : MatH w lo v m n) (ho : Only k w w') (hk : k < lo) : MatH w' lo v m n := by
  obtain ⟨vs, h1, h2, h3⟩ := h
  exact ⟨vs, h1, owns_blk h2 (fun g cur hg hc => ho.block g (heap_lt hc) (by omega)), fun i hi => (h3 i hi).only ho hk⟩
theorem MatH.lift {w : World} {lo lo' m n : Nat} {v : Value} (h : MatH w lo v m n) (hl : lo' ≤ lo) : MatH w lo' v m n := by
  obtain ⟨vs, h1, h2, h3⟩ := h
  exact ⟨vs, h1, owns_lift h2 hl, fun i hi => (h3 i hi).lift hl⟩
theorem MatH.set {w : World} {lo m n : Nat} {v : Value} (h : MatH w lo v m n) {g : Nat} {cur : Array Value} (hg : w.heap[g]? = some (.cells cur 3 (0, 0))) (j : Nat) (x : Int) : MatH (w.setCell ⟨g, j, none⟩ (.int .i64 x)) lo v m n := by
  obtain ⟨vs, h1, h2, h3⟩ := h
  refine ⟨vs, h1, owns_blk h2 (fun q cur' hq hc => Below.heap_setCell _ _ _ _ (fun e => ?_)), fun i hi => (h3 i hi).set g j x⟩
  simp at e
  subst e
  rw [hg] at hc
  simp at hc
theorem MatH.form {w : World} {lo m n : Nat} {v : Value} (h : MatH w lo v m n) : ∃ a cap, v = .slice a m cap ∧ m ≤ cap ∧ cap ≤ 9223372036854775807 := by
  obtain ⟨vs, h1, h2, h3⟩ := h; exact owns_form h2
theorem MatH.get {w : World} {lo m n : Nat} {v : Value} (h : MatH w lo v m n) (i : Nat) (hi : i < m) : ∃ g cap u, v = .slice (some ⟨g, 0, none⟩) m cap ∧ g < w.heap.size ∧ lo ≤ g ∧ w.cell? ⟨g, i, none⟩ = some u ∧ HasNums w lo u n := by
  obtain ⟨vs, h1, h2, h3⟩ := h
  rcases h2.2 with ⟨_, h'⟩ | ⟨g, cap, cur, rfl, hb, hg, hnc, hcm, hcs, htake⟩
  · omega
  · exact ⟨g, cap, _, rfl, heap_lt hg, hb, by rw [h2.cellAt i (by omega), List.getElem?_eq_getElem (by omega)], by have := h3 i hi; rw [List.getD_eq_getElem?_getD, List.getElem?_eq_getElem (by omega)] at this; exact this⟩
theorem MatH.rows {w : World} {lo m n : Nat} {v : Value} (h : MatH w lo v m n) : ∃ rs, rs.length = m ∧ RowsAt w v rs ∧ ∀ i, i < m → (rs.getD i []).length = n := by
  obtain ⟨vs, h1, h2, h3⟩ := h
  obtain ⟨Z, hZ⟩ := Go.Deep.choose_lt (α := List Int) (fun i hi => (h3 i hi).ints)
  have hsl : SliceAt w v m (fun i => vs.getD i undef) := by
    rcases h2.2 with ⟨rfl, h'⟩ | ⟨g, cap, cur, rfl, hb, hg, hnc, hcm, hcs, htake⟩
    · exact ⟨none, 0, by rw [h'], by omega, Nat.zero_le _, .inl h'⟩
    · refine ⟨_, cap, rfl, hnc, hcm, .inr ⟨g, 0, rfl, heap_lt hg, fun i hi => ?_⟩⟩
      rw [Nat.zero_add, h2.cellAt i (by omega)]
      show vs[i]? = some (vs.getD i undef)
      rw [List.getD_eq_getElem?_getD, List.getElem?_eq_getElem (by omega)]; rfl
  have e : ∀ i, i < m → ((List.range m).map Z).getD i [] = Z i := fun i hi => by simp [hi]
  refine ⟨(List.range m).map Z, by simp, ⟨_, by simpa using hsl, fun i hi => ?_⟩, fun i hi => by rw [e i hi]; exact (hZ i hi).1⟩
  have hi' : i < m := by simpa using hi
  rw [e i hi']; exact (hZ i hi').2
/-- a row more, behind an append that has written no numbers -/
theorem MatH.push {w w' : World} {lo m n : Nat} {v v' u : Value} {vs : List Value} (h1 : vs.length = m) (h2 : w.ownsRow lo 37 1 v m vs) (h3 : ∀ i, i < m → HasNums w lo (vs.getD i undef) n) (hu : HasNums w lo u n)
    (hg : w.grownBy w' v.ownBlock) (hown : w'.ownsRow lo 37 1 v' (m + 1) (vs ++ [u])) : MatH w' lo v' (m + 1) n := by
  have hrow : ∀ g, v.ownBlock = some g → ∀ cur mk, w.heap[g]? ≠ some (.cells cur 3 mk) := fun g hv cur mk hc => by
    rcases h2.2 with ⟨rfl, _⟩ | ⟨g', cap, cur', rfl, _, hg', _⟩
    · cases hv
    · simp [Value.ownBlock] at hv
      subst hv
      rw [hg'] at hc
      simp at hc
  refine ⟨vs ++ [u], by simp [h1], hown, fun i hi => ?_⟩
  by_cases him : i < m
  · have e : (vs ++ [u]).getD i undef = vs.getD i undef := by simp only [List.getD_eq_getElem?_getD]; rw [List.getElem?_append_left (by omega)]
    rw [e]; exact (h3 i him).grown hg hrow
  · obtain rfl : i = m := by omega
    have e : (vs ++ [u]).getD i undef = u := by simp only [List.getD_eq_getElem?_getD]; rw [List.getElem?_append_right (by omega), h1]; simp
    rw [e]; exact hu.grown hg hrow
theorem MatH.zero (w : World) (n : Nat) : MatH (w.alloc (.cells #[] 37)) w.heap.size (.slice (some ⟨w.heap.size, 0, none⟩) 0 0) 0 n :=
  ⟨[], rfl, World.ownsRow_lit (base := w.heap.size) (e := 37) (size := 1) w #[] 0 (Nat.le_refl _) (by simp [maxLen]) rfl, fun i hi => by omega⟩
theorem made_nums {w : World} {lo n : Nat} {v : Value} (h : w.ownsRow lo 3 1 v n (madeCells (Value.int .i64 0).cells (n * 1)).toList) : HasNums w lo v n := by
  have e : (madeCells (Value.int .i64 0).cells (n * 1)).toList = (List.replicate n (0 : Int)).map (Value.int .i64) := by
    apply List.ext_getElem
    · simp [madeCells]
    · intro i h1 h2
      simp [madeCells, Value.cells, Nat.mod_one]
  rw [e] at h
  have : OwnInts w lo v (List.replicate n (0 : Int)) := by unfold OwnInts; rw [List.length_replicate]; exact h
  simpa using this.nums
set_option maxHeartbeats 1000000 in
theorem l12Back_any (x : Int) (h0 : 0 ≤ x) (h3 : x ≤ 3) (w : World) : Calls Tryz.prog 59 #[.int .i64 x] w fun e w' => ∃ y : Int, e = .returned (.int .i64 y) ∧ 0 ≤ y ∧ y ≤ 3 ∧ Below w.heap.size w w' := by
  have : x = 0 ∨ x = 1 ∨ x = 2 ∨ x = 3 := by omega
  rcases this with rfl | rfl | rfl | rfl <;>
  · go_enter Tryz.func59, Tryz.ntmps59
    go_wp2_with fail
    go_ret
    exact ⟨_, rfl, by omega, by omega, by repeat (first | exact Below.refl _ _ | assumption | refine Below.drew ?_ | refine belowDrewN ?_ _ | refine Below.alloc ?_ (by first | exact Nat.le_refl _ | omega | (simp; done) | (simp; omega)) _ | refine Below.setCell ?_ (by first | exact Nat.le_refl _ | omega | (simp; done) | (simp; omega)) _)⟩
end Go.Proofs.YtlpibfafpljedaaGreatDoor

namespace Go.Proofs.YtlpibfafpljedaaGreatDoor
open Go.RowKit
set_option linter.unusedVariables false

structure RS (k : Nat) (a : Option Addr) (len' cap : Nat) (zs : List Int) (w W : World) (q : Nat) (v : Value) (m n : Nat) : Prop where
  rd : RdAt W k a len' cap zs q
  on : Only k w W
  mat : MatH W w.heap.size v m n
  far : k < w.heap.size
section
variable {k : Nat} {a : Option Addr} {len' cap : Nat} {zs : List Int} {w W W' : World} {q m n : Nat} {v : Value}
theorem RS.below (h : RS k a len' cap zs w W q v m n) (hb : Below W.heap.size W W') : RS k a len' cap zs w W' q v m n :=
  ⟨h.rd.below hb, h.on.trans (Only.of_below hb), h.mat.below hb, h.far⟩
theorem RS.drew (h : RS k a len' cap zs w W q v m n) : RS k a len' cap zs w W.drew q v m n := h.below (Below.drew (Below.refl _ _))
theorem RS.alloc (h : RS k a len' cap zs w W q v m n) (o : Obj) : RS k a len' cap zs w (W.alloc o) q v m n := h.below (Below.alloc (Below.refl _ _) (Nat.le_refl _) o)
theorem RS.picked {q' : Nat} (h : RS k a len' cap zs w W q v m n) (hr : RdAt W' k a len' cap zs q') (ho : Only k W W') : RS k a len' cap zs w W' q' v m n :=
  ⟨hr, h.on.trans ho, h.mat.only ho h.far, h.far⟩
theorem RS.set {g : Nat} {cur : Array Value} (h : RS k a len' cap zs w W q v m n) (hg : w.heap.size ≤ g) (hc : W.heap[g]? = some (.cells cur 3 (0, 0))) (j : Nat) (x : Int) : RS k a len' cap zs w (W.setCell ⟨g, j, none⟩ (.int .i64 x)) q v m n :=
  ⟨RdAt.off h.rd hg h.far, Only.setFar h.on hg, h.mat.set hc j x, h.far⟩
theorem RS.size (h : RS k a len' cap zs w W q v m n) : w.heap.size ≤ W.heap.size := h.on.size
theorem RS.push {W2 W4 : World} {vs : List Value} {v' u : Value} (h : RS k a len' cap zs w W q v m n) (h1 : vs.length = m) (h2 : W.ownsRow w.heap.size 37 1 v m vs) (h3 : ∀ i, i < m → HasNums W w.heap.size (vs.getD i undef) n)
    (hb : Below W.heap.size W W2) (hu : HasNums W2 w.heap.size u n) (hg : W2.grownBy W4 v.ownBlock) (hown : W4.ownsRow w.heap.size 37 1 v' (m + 1) (vs ++ [u])) : RS k a len' cap zs w W4 q v' (m + 1) n := by
  have hrow := fun g hv => (World.ownsRow.lt h2 g hv).1
  exact ⟨RdAt.grown (h.rd.below hb) hg hrow h.far, Only.grown (h.on.trans (Only.of_below hb)) hg hrow, MatH.push h1 (owns_belowR h2 hb) (fun i hi => (h3 i hi).below hb) hu hg hown, h.far⟩
end
theorem lit_any (W : World) (u : Value) (T : TypeId) : SliceAt (W.alloc (.cells #[u] T)) (.slice (some ⟨W.heap.size, 0, none⟩) 1 1) 1 (fun _ => u) :=
  ⟨_, 1, rfl, Nat.le_refl _, by unfold maxLen; omega, .inr ⟨W.heap.size, 0, rfl, by simp, fun i hi => by
    obtain rfl : i = 0 := by omega
    simp⟩⟩
theorem info_r2 : (Tryz.prog.info? 37).map (fun i => (i.zero, i.size, i.bytes)) = some (some (.slice none 0 0), 1, 24) := by kernel_rfl
end Go.Proofs.YtlpibfafpljedaaGreatDoor

namespace Go.Proofs.YtlpibfafpljedaaGreatDoor
open Go.RowKit
set_option linter.unusedVariables false

def RowsL (w : World) (lo : Nat) (v : Value) (ll : List (List Int)) : Prop :=
  ∃ vs, vs.length = ll.length ∧ w.ownsRow lo 37 1 v ll.length vs ∧ ∀ i, i < ll.length → OwnInts w lo (vs.getD i undef) (ll.getD i [])
theorem RowsL.below {w w' : World} {lo : Nat} {v : Value} {ll : List (List Int)} (h : RowsL w lo v ll) (hb : Below w.heap.size w w') : RowsL w' lo v ll := by
  obtain ⟨vs, h1, h2, h3⟩ := h
  exact ⟨vs, h1, owns_belowR h2 hb, fun i hi => (h3 i hi).below hb⟩
theorem RowsL.lift {w : World} {lo lo' : Nat} {v : Value} {ll : List (List Int)} (h : RowsL w lo v ll) (hl : lo' ≤ lo) : RowsL w lo' v ll := by
  obtain ⟨vs, h1, h2, h3⟩ := h
  exact ⟨vs, h1, owns_lift h2 hl, fun i hi => (h3 i hi).lift hl⟩
theorem RowsL.form {w : World} {lo : Nat} {v : Value} {ll : List (List Int)} (h : RowsL w lo v ll) : ∃ a cap, v = .slice a ll.length cap ∧ ll.length ≤ cap ∧ cap ≤ 9223372036854775807 := by
  obtain ⟨vs, h1, h2, h3⟩ := h; exact owns_form h2
theorem RowsL.rows {w : World} {lo : Nat} {v : Value} {ll : List (List Int)} (h : RowsL w lo v ll) : RowsAt w v ll := by
  obtain ⟨vs, h1, h2, h3⟩ := h
  refine ⟨fun i => vs.getD i undef, ?_, fun i hi => (h3 i hi).ints⟩
  rcases h2.2 with ⟨rfl, h'⟩ | ⟨g, cap, cur, rfl, hb, hg, hnc, hcm, hcs, htake⟩
  · exact ⟨none, 0, by rw [h'], by omega, Nat.zero_le _, .inl h'⟩
  · refine ⟨_, cap, rfl, hnc, hcm, .inr ⟨g, 0, rfl, heap_lt hg, fun i hi => ?_⟩⟩
    rw [Nat.zero_add, h2.cellAt i (by omega)]
    show vs[i]? = some (vs.getD i undef)
    rw [List.getD_eq_getElem?_getD, List.getElem?_eq_getElem (by omega)]; rfl
theorem RowsL.zero (w : World) : RowsL (w.alloc (.cells #[] 37)) w.heap.size (.slice (some ⟨w.heap.size, 0, none⟩) 0 0) [] :=
  ⟨[], rfl, World.ownsRow_lit (base := w.heap.size) (e := 37) (size := 1) w #[] 0 (Nat.le_refl _) (by simp [maxLen]) rfl, fun i hi => by simp at hi⟩
theorem OwnInts.zero (w : World) : OwnInts (w.alloc (.cells #[] 3)) w.heap.size (.slice (some ⟨w.heap.size, 0, none⟩) 0 0) [] :=
  World.ownsRow_lit (base := w.heap.size) (e := 3) (size := 1) w #[] 0 (Nat.le_refl _) (by simp [maxLen]) rfl
theorem OwnInts.one (w : World) (x : Int) : OwnInts (w.alloc (.cells #[.int .i64 x] 3)) w.heap.size (.slice (some ⟨w.heap.size, 0, none⟩) 1 1) [x] :=
  World.ownsRow_lit (base := w.heap.size) (e := 3) (size := 1) w #[.int .i64 x] 1 (Nat.le_refl _) (by simp [maxLen]) rfl
theorem range_map (l : List Int) : ((List.range l.length).map fun i => Value.int .i64 (l.getD i 0)) = l.map (Value.int .i64) := by
  apply List.ext_getElem
  · simp
  · intro i h1 h2
    simp at h1
    simp [List.getElem?_eq_getElem h1]
theorem OwnInts.grown {w w' : World} {lo : Nat} {u v : Value} {l : List Int} {lo' n : Nat} {vs : List Value} (h : OwnInts w lo u l) (h2 : w.ownsRow lo' 37 1 v n vs) (hg : w.grownBy w' v.ownBlock) : OwnInts w' lo u l :=
  owns_blk h (fun g cur _ hc => hg.block g (heap_lt hc) (by
    intro e
    rcases h2.2 with ⟨rfl, _⟩ | ⟨g', cap, cur', rfl, _, hg', _⟩
    · cases e
    · simp [Value.ownBlock] at e
      subst e
      rw [hg'] at hc
      simp at hc))
theorem RowsL.push {w w' : World} {lo m : Nat} {v v' u : Value} {ll : List (List Int)} {l : List Int} {vs : List Value} (h1 : vs.length = ll.length) (hm : ll.length = m) (h2 : w.ownsRow lo 37 1 v m vs) (h3 : ∀ i, i < m → OwnInts w lo (vs.getD i undef) (ll.getD i [])) (hu : OwnInts w lo u l)
    (hg : w.grownBy w' v.ownBlock) (hown : w'.ownsRow lo 37 1 v' (m + 1) (vs ++ [u])) : RowsL w' lo v' (ll ++ [l]) := by
  have e0 : (ll ++ [l]).length = m + 1 := by simp [hm]
  refine ⟨vs ++ [u], by simp [h1], by rw [e0]; exact hown, fun i hi => ?_⟩
  rw [e0] at hi
  by_cases him : i < m
  · have e : (vs ++ [u]).getD i undef = vs.getD i undef := by simp only [List.getD_eq_getElem?_getD]; rw [List.getElem?_append_left (by omega)]
    have e2 : (ll ++ [l]).getD i [] = ll.getD i [] := by simp only [List.getD_eq_getElem?_getD]; rw [List.getElem?_append_left (by omega)]
    rw [e, e2]; exact (h3 i him).grown h2 hg
  · obtain rfl : i = m := by omega
    have e : (vs ++ [u]).getD i undef = u := by simp only [List.getD_eq_getElem?_getD]; rw [List.getElem?_append_right (by omega), h1, hm]; simp
    have e2 : (ll ++ [l]).getD i [] = l := by simp only [List.getD_eq_getElem?_getD]; rw [List.getElem?_append_right (by omega), hm]; simp
    rw [e, e2]; exact hu.grown h2 hg
variable {W : World}
theorem wpList_append_ints {ops : Array Oper} {rest : List Oper} {o : Oper} {a : Act} {Q : Exit → Act → World → Prop} (hgd : o.guard = none) (s x : Operand)
    (ho : o.op = .call { callee := .builtin .append, args := #[s, x], argTypes := #[37, 37] })
    (B : Nat) (v sv : Value) (pre l : List Int) (N : Nat) (hN : pre.length + l.length = N) (hs : a.eval s = v) (hO : OwnInts W B v pre) (hB : B ≤ W.heap.size) (hx : a.eval x = sv) (hl : IntsAt W sv l) (hlen : N ≤ 1000000)
    (h : ∀ ad c w', OwnInts w' B (.slice ad N c) (pre ++ l) → Below B W w' → w'.heap.size ≥ W.heap.size → wpList Tryz.prog ops Q rest (a.put o.dst (.slice ad N c)) w') : wpList Tryz.prog ops Q (o :: rest) a W := by
  obtain ⟨i0, hi, hz0, hz1, hz2⟩ := info_parts info_intR
  have hO' : W.ownsRow B 3 1 v pre.length (pre.map (Value.int .i64)) := hO
  refine wpList_append_src hgd s x 37 ho B 3 i0 (.int .i64 0) 8 Tryz.underlying37 hi hz0 hz1 hz2 rfl v pre.length (pre.map (Value.int .i64)) hs hO' sv l.length _ hx hl (fun j hj => rfl) (by unfold maxLen; omega) (by omega) hB ?_
  intro v' w' hown hgrow
  rw [range_map] at hown
  have hO2 : OwnInts w' B v' (pre ++ l) := by
    unfold OwnInts
    rw [List.map_append, List.length_append]; exact hown
  obtain ⟨ad, c, rfl, _, _⟩ := hO2.form
  rw [List.length_append, hN] at hO2 ⊢
  have hb : Below B W w' := Below.grown (Below.refl _ _) hgrow hB (fun g hg => (World.ownsRow.lt hO' g hg).1)
  exact h ad c w' hO2 hb hgrow.size
theorem wpList_append_row {ops : Array Oper} {rest : List Oper} {o : Oper} {a : Act} {Q : Exit → Act → World → Prop} (hgd : o.guard = none) (s x : Operand)
    (ho : o.op = .call { callee := .builtin .append, args := #[s, x], argTypes := #[23, 23] })
    (B : Nat) (v u : Value) (ll : List (List Int)) (l : List Int) (N : Nat) (hN : ll.length = N) (hs : a.eval s = v) (hO : RowsL W B v ll) (hB : B ≤ W.heap.size) (g : Nat) (hx : a.eval x = .slice (some ⟨g, 0, none⟩) 1 1) (hgW : g = W.heap.size) (hu : OwnInts W B u l) (hu1 : ∃ ad n c, u = .slice ad n c) (hlen : N ≤ 1000000)
    (h : ∀ ad c w', RowsL w' B (.slice ad (N + 1) c) (ll ++ [l]) → Below B W w' → w'.heap.size ≥ W.heap.size → wpList Tryz.prog ops Q rest (a.put o.dst (.slice ad (N + 1) c)) w') : wpList Tryz.prog ops Q (o :: rest) a (W.alloc (.cells #[u] 37)) := by
  obtain ⟨i2, hi2, hy0, hy1, hy2⟩ := info_parts info_r2
  subst hN
  subst hgW
  obtain ⟨vs, h1, h2, h3⟩ := hO
  have hA := Below.alloc (Below.refl W.heap.size W) (Nat.le_refl _) (.cells #[u] 37)
  refine wpList_append_src hgd s x 23 ho B 37 i2 (.slice none 0 0) 24 Tryz.underlying23 hi2 hy0 hy1 hy2 rfl v ll.length vs hs (owns_belowR h2 hA) (.slice (some ⟨W.heap.size, 0, none⟩) 1 1) 1 (fun _ => u) hx (lit_any W u 37) (fun j hj => by obtain ⟨ad, n, c, rfl⟩ := hu1; rfl) (by unfold maxLen; omega) (by omega) (by simp; omega) ?_
  intro v' w' hown hgrow
  have hR := RowsL.push h1 rfl (owns_belowR h2 hA) (fun i hi => (h3 i hi).below hA) (hu.below hA) hgrow hown
  obtain ⟨ad, c, rfl, _, _⟩ := hR.form
  rw [List.length_append] at hR ⊢
  exact h ad c w' hR (Below.grown (Below.alloc (Below.refl _ _) hB _) hgrow (by simp; omega) (fun g hg => (World.ownsRow.lt h2 g hg).1)) (by have := hgrow.size; simp at this; omega)
end Go.Proofs.YtlpibfafpljedaaGreatDoor
