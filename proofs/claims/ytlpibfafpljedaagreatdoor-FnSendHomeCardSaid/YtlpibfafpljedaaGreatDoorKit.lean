/- The reader of a code: it is opened, and numbers are picked from it: each is from 0 to n-1. -/
import Derived.Test.YtlpibfafpljedaaGreatDoorBase
import Derived.Outline
import Derived.Deep.QuietTactic
import Derived.BigQuiet
import Derived.IntWalk
import Derived.Laws.BitsAllLaws
namespace Go.Proofs.YtlpibfafpljedaaGreatDoor
open Go.RowKit
set_option linter.unusedVariables false

/-- Block k alone may have turned; new blocks may have come. -/
structure Only (k : Nat) (w w' : World) : Prop where
  os : w'.os = w.os
  tape : w'.tape = w.tape
  output : w'.output = w.output
  size : w.heap.size ≤ w'.heap.size
  block : ∀ b, b < w.heap.size → b ≠ k → w'.heap[b]? = w.heap[b]?

theorem Only.refl (k : Nat) (w : World) : Only k w w := ⟨rfl, rfl, rfl, Nat.le_refl _, fun _ _ _ => rfl⟩
theorem Only.trans {k : Nat} {a b c : World} (h : Only k a b) (g : Only k b c) : Only k a c :=
  ⟨g.os.trans h.os, g.tape.trans h.tape, g.output.trans h.output, Nat.le_trans h.size g.size, fun i hi hk => (g.block i (by have := h.size; omega) hk).trans (h.block i hi hk)⟩
theorem Only.below {k B : Nat} {w w' : World} (h : Only k w w') (hB : B ≤ k) (hs : B ≤ w.heap.size) : Below B w w' :=
  ⟨h.os, h.tape, h.output, h.size, fun i hi => h.block i (by omega) (by omega)⟩
theorem Only.of_below {k : Nat} {w w' : World} (h : Below w.heap.size w w') : Only k w w' :=
  ⟨h.os, h.tape, h.output, h.size, fun i hi _ => h.block i hi⟩
theorem Only.cell {k : Nat} {w w' : World} (h : Only k w w') {p : Addr} (hp : p.block < w.heap.size) (hk : p.block ≠ k) : w'.cell? p = w.cell? p :=
  World.cell?_of_block (w := w) (h.block p.block hp hk)
theorem Only.frozen {k : Nat} {w w' : World} (h : Only k w w') {p : Addr} (hp : p.block < w.heap.size) (hk : p.block ≠ k) : w'.frozen? p = w.frozen? p :=
  World.frozen?_of_block (w := w) (h.block p.block hp hk)
theorem Only.cells {k : Nat} {W w1 : World} (h : Only k W w1) : (∀ b o, b < W.heap.size → b ≠ k → w1.cell? ⟨b, o, none⟩ = W.cell? ⟨b, o, none⟩) ∧ (∀ b o, b < W.heap.size → b ≠ k → w1.frozen? ⟨b, o, none⟩ = W.frozen? ⟨b, o, none⟩) :=
  ⟨fun b o hp hk => h.cell (p := ⟨b, o, none⟩) hp hk, fun b o hp hk => h.frozen (p := ⟨b, o, none⟩) hp hk⟩
theorem Only.setCell {k : Nat} {a w : World} (h : Only k a w) {p : Addr} (hp : p.block = k) (u : Value) : Only k a (w.setCell p u) :=
  h.trans ⟨rfl, rfl, rfl, by simp [World.setCell], fun i hi hk => Below.heap_setCell _ _ _ _ (by omega)⟩
theorem Only.alloc {k : Nat} {a w : World} (h : Only k a w) (o : Obj) : Only k a (w.alloc o) :=
  h.trans ⟨rfl, rfl, rfl, by simp, fun i hi hk => Below.heap_alloc _ _ _ hi⟩
theorem Only.drew {k : Nat} {a w : World} (h : Only k a w) : Only k a w.drew := h.trans ⟨rfl, rfl, rfl, Nat.le_refl _, fun _ _ _ => rfl⟩
theorem Only.drewN {k : Nat} {a w : World} (h : Only k a w) (n : Nat) : Only k a (w.drewN n) := h.trans ⟨rfl, rfl, rfl, Nat.le_refl _, fun _ _ _ => rfl⟩

theorem add_at (b off i : Nat) : (⟨b, off, none⟩ : Addr).add i = ⟨b, off + i, none⟩ := by
  unfold Addr.add; split <;> simp_all
theorem add_block (x : Addr) (i : Nat) : (x.add i).block = x.block := by
  unfold Addr.add; split <;> rfl

/-- In block B lie three cells that may be written. -/
structure Box3 (w : World) (B : Nat) (v0 v1 v2 : Value) : Prop where
  c0 : w.cell? ⟨B, 0, none⟩ = some v0
  c1 : w.cell? ⟨B, 1, none⟩ = some v1
  c2 : w.cell? ⟨B, 2, none⟩ = some v2
  f0 : w.frozen? ⟨B, 0, none⟩ = false
  f1 : w.frozen? ⟨B, 1, none⟩ = false
  f2 : w.frozen? ⟨B, 2, none⟩ = false
theorem Box3.below {W w1 : World} {B : Nat} {v0 v1 v2 : Value} (h : Box3 W B v0 v1 v2) (hb : Below W.heap.size W w1) (hB : B < W.heap.size) : Box3 w1 B v0 v1 v2 :=
  ⟨(hb.cell (p := ⟨B, 0, none⟩) hB).trans h.c0, (hb.cell (p := ⟨B, 1, none⟩) hB).trans h.c1, (hb.cell (p := ⟨B, 2, none⟩) hB).trans h.c2, (hb.frozen (p := ⟨B, 0, none⟩) hB).trans h.f0, (hb.frozen (p := ⟨B, 1, none⟩) hB).trans h.f1, (hb.frozen (p := ⟨B, 2, none⟩) hB).trans h.f2⟩
theorem Box3.only {W w1 : World} {B k : Nat} {v0 v1 v2 : Value} (h : Box3 W B v0 v1 v2) (hb : Only k W w1) (hB : B < W.heap.size) (hk : B ≠ k) : Box3 w1 B v0 v1 v2 :=
  ⟨(hb.cell (p := ⟨B, 0, none⟩) hB hk).trans h.c0, (hb.cell (p := ⟨B, 1, none⟩) hB hk).trans h.c1, (hb.cell (p := ⟨B, 2, none⟩) hB hk).trans h.c2, (hb.frozen (p := ⟨B, 0, none⟩) hB hk).trans h.f0, (hb.frozen (p := ⟨B, 1, none⟩) hB hk).trans h.f1, (hb.frozen (p := ⟨B, 2, none⟩) hB hk).trans h.f2⟩
theorem Box3.new (w : World) (v0 v1 v2 : Value) (T : TypeId) : Box3 (w.alloc (.cells #[v0, v1, v2] T)) w.heap.size v0 v1 v2 :=
  ⟨by simp, by simp, by simp, by simp, by simp, by simp⟩
theorem Box3.alloc {w : World} {B : Nat} {v0 v1 v2 : Value} (h : Box3 w B v0 v1 v2) (o : Obj) : Box3 (w.alloc o) B v0 v1 v2 := by
  have hB : B < w.heap.size := by
    have := h.c0; unfold World.cell? at this
    by_cases hb : B < w.heap.size
    · exact hb
    · rw [Array.getElem?_eq_none (by simp; omega)] at this; simp at this
  exact ⟨(World.cell?_alloc_past _ _ _ hB).trans h.c0, (World.cell?_alloc_past _ _ _ hB).trans h.c1, (World.cell?_alloc_past _ _ _ hB).trans h.c2, (World.frozen?_alloc_past _ _ _ hB).trans h.f0, (World.frozen?_alloc_past _ _ _ hB).trans h.f1, (World.frozen?_alloc_past _ _ _ hB).trans h.f2⟩
theorem Box3.drew {w : World} {B : Nat} {v0 v1 v2 : Value} (h : Box3 w B v0 v1 v2) : Box3 w.drew B v0 v1 v2 := ⟨h.c0, h.c1, h.c2, h.f0, h.f1, h.f2⟩
theorem Box3.drewN {w : World} {B : Nat} {v0 v1 v2 : Value} (h : Box3 w B v0 v1 v2) (n : Nat) : Box3 (w.drewN n) B v0 v1 v2 := ⟨h.c0, h.c1, h.c2, h.f0, h.f1, h.f2⟩
theorem Box3.size {w : World} {B : Nat} {v0 v1 v2 : Value} (h : Box3 w B v0 v1 v2) : B < w.heap.size := by
  have := h.c0; unfold World.cell? at this
  by_cases hb : B < w.heap.size
  · exact hb
  · rw [Array.getElem?_eq_none (by simp; omega)] at this; simp at this
theorem Box3.stores {w1 : World} {B : Nat} {u0 u1 u2 : Value} (h : Box3 w1 B u0 u1 u2) (v0 v1 v2 : Value) :
    Box3 (((w1.setCell ⟨B, 0, none⟩ v0).setCell ⟨B, 1, none⟩ v1).setCell ⟨B, 2, none⟩ v2) B v0 v1 v2 := by
  obtain ⟨z0, z1, z2⟩ := stores3 (v0 := v0) (v1 := v1) (v2 := v2) h.c0 h.c1 h.c2
  exact ⟨z0, z1, z2, by simp [h.f0], by simp [h.f1], by simp [h.f2]⟩

/-- In block k lies a reader over the code 'zs', at place p. -/
structure RdAt (w : World) (k : Nat) (a : Option Addr) (len cap : Nat) (zs : List Int) (p : Nat) : Prop where
  c0 : w.cell? ⟨k, 0, none⟩ = some (.slice a len cap)
  c1 : w.cell? ⟨k, 1, none⟩ = some (.int .i64 p)
  f1 : w.frozen? ⟨k, 1, none⟩ = false
  row : IsRow .u8 w a len cap zs
  far : ∀ x, a = some x → 0 < cap → x.block < k
  short : len ≤ 2000

def PickPost (n : Int) (k : Nat) (a : Option Addr) (len cap : Nat) (zs : List Int) (p : Nat) (w : World) (e : Ending) (w' : World) : Prop :=
  ∃ x : Int, e = .returned (.int .i64 x) ∧ 0 ≤ x ∧ x < n ∧ RdAt w' k a len cap zs (p + 1) ∧ Only k w w' ∧ w'.heap.size = w.heap.size

theorem RdAt.next {w : World} {k : Nat} {a : Option Addr} {len cap : Nat} {zs : List Int} {p : Nat} (h : RdAt w k a len cap zs p) {v : Value} (hv : v = .int .i64 ((p + 1 : Nat) : Int)) :
    RdAt (w.setCell ⟨k, 1, none⟩ v) k a len cap zs (p + 1) := by
  subst hv
  refine ⟨?_, ?_, ?_, ?_, h.far, h.short⟩
  · rw [World.cell?_setCell_other _ _ _ _ (by simp)]; exact h.c0
  · exact World.cell?_setCell_same _ _ _ h.c1
  · simp [h.f1]
  · rcases h.row with r | ⟨x, hx, h1, h2, h3, h4, h5⟩
    · exact .inl r
    · refine .inr ⟨x, hx, h1, h2, h3, fun i hi => ?_, h5⟩
      rw [World.cell?_setCell_other _ _ _ _ (by have := h.far x hx (by omega); rw [← add_block x i] at this; intro e; rw [← e] at this; simp at this)]
      exact h4 i hi

/-- the code's i-th byte, wherever the reader's place has been set to -/
theorem RdAt.byte {w : World} {k : Nat} {b off len cap : Nat} {zs : List Int} {p : Nat} (h : RdAt w k (some ⟨b, off, none⟩) len cap zs p) (i : Nat) (hi : i < len) (v : Value) :
    ∃ z : Int, 0 ≤ z ∧ z ≤ 255 ∧ w.cell? ⟨b, off + i, none⟩ = some (.int .u8 z) ∧ (w.setCell ⟨k, 1, none⟩ v).cell? ⟨b, off + i, none⟩ = some (.int .u8 z) := by
  rcases h.row with ⟨e, _⟩ | ⟨x, hx, h1, h2, h3, h4, h5⟩
  · simp at e
  · simp at hx; subst hx
    have hb := h.far _ rfl (by omega)
    have hc := h4 i (by omega)
    have hm : zs.getD i 0 ∈ zs := by simp only [List.getD_eq_getElem?_getD]; rw [List.getElem?_eq_getElem (by omega)]; exact List.getElem_mem _
    rw [add_at] at hc
    have hw := h5 _ hm
    refine ⟨zs.getD i 0, ?_, ?_, hc, ?_⟩
    · simp [Lit.wf, IntKind.min, IntKind.max, IntKind.bits, IntKind.signed] at hw; simp; omega
    · simp [Lit.wf, IntKind.min, IntKind.max, IntKind.bits, IntKind.signed] at hw; simp; omega
    · rw [World.cell?_setCell_other _ _ _ _ (by simp at hb; simp; try omega)]; exact hc

theorem RdAt.drewN {w : World} {k : Nat} {a : Option Addr} {len cap : Nat} {zs : List Int} {p : Nat} (h : RdAt w k a len cap zs p) (n : Nat) : RdAt (w.drewN n) k a len cap zs p :=
  ⟨h.c0, h.c1, h.f1, h.row, h.far, h.short⟩

theorem RdAt.drew {w : World} {k : Nat} {a : Option Addr} {len cap : Nat} {zs : List Int} {p : Nat} (h : RdAt w k a len cap zs p) : RdAt w.drew k a len cap zs p :=
  ⟨h.c0, h.c1, h.f1, h.row, h.far, h.short⟩

set_option maxHeartbeats 1000000 in
theorem pick_none (n : Int) (k : Nat) (a : Option Addr) (cap : Nat) (zs : List Int) (p : Nat) (w : World) (hn : 1 ≤ n)
    (h : RdAt w k a 0 cap zs p) (hpB : p ≤ 100000) :
    Calls Tryz.prog 33 #[.pointer (some ⟨k, 0, none⟩), .int .i64 n] w (PickPost n k a 0 cap zs p w) := by
  have c0 := h.c0
  have c1 := h.c1
  have f1 := h.f1
  have hnd : decide (n < 1) = false := by simp; omega
  have H := Lib.hid h
  clear h
  go_enter Tryz.func33, Tryz.ntmps33
  go_wp2
  go_ret
  refine ⟨_, rfl, by omega, by omega, ?_, (Only.refl _ _).setCell (p := ⟨k, 1, none⟩) rfl _, by simp⟩
  exact H.out.next (by simp)

set_option maxHeartbeats 1000000 in
theorem pick_in (n : Int) (k : Nat) (b off len cap : Nat) (zs : List Int) (p : Nat) (w : World) (hn : 1 ≤ n)
    (h : RdAt w k (some ⟨b, off, none⟩) len cap zs p) (hp : p < len) :
    Calls Tryz.prog 33 #[.pointer (some ⟨k, 0, none⟩), .int .i64 n] w (PickPost n k (some ⟨b, off, none⟩) len cap zs p w) := by
  have c0 := h.c0
  have c1 := h.c1
  have f1 := h.f1
  have hs := h.short
  obtain ⟨z, z0, z1, hz⟩ := h.byte p hp (.int .i64 (p + 1))
  obtain ⟨hz1, hz2⟩ := hz
  have hl : ((len : Int) == 0) = false := by simp; omega
  have H := Lib.hid h
  clear h
  go_enter Tryz.func33, Tryz.ntmps33
  go_wp2
  go_ret
  refine ⟨_, rfl, Int.emod_nonneg _ (by omega), Int.emod_lt_of_pos _ (by omega), ?_, (Only.refl _ _).setCell (p := ⟨k, 1, none⟩) rfl _, by simp⟩
  exact H.out.next (by simp)

theorem xor_some (a b : Nat) (ha : a < 4294967296) (hb : b < 4294967296) : ∃ x : Nat, bits BinOp.xor IntKind.i64 (a : Int) (b : Int) = (x : Int) := by
  refine ⟨a ^^^ b, ?_⟩
  show IntKind.i64.wrap ((BitVec.ofInt 64 (a : Int) ^^^ BitVec.ofInt 64 (b : Int)).toNat : Int) = _
  have h : a ^^^ b < 2 ^ 32 := Nat.xor_lt_two_pow (by omega) (by omega)
  rw [BitVec.toNat_xor, ofInt_u64 a (by omega), ofInt_u64 b (by omega)]
  exact IntWalk.i64_in _ (by omega)

set_option maxHeartbeats 1000000 in
theorem pick_out (n : Int) (k : Nat) (b off len cap : Nat) (zs : List Int) (p : Nat) (w : World) (hn : 1 ≤ n)
    (h : RdAt w k (some ⟨b, off, none⟩) len cap zs p) (hp : len ≤ p) (hl0 : 1 ≤ len) (hpB : p ≤ 100000) :
    Calls Tryz.prog 33 #[.pointer (some ⟨k, 0, none⟩), .int .i64 n] w (PickPost n k (some ⟨b, off, none⟩) len cap zs p w) := by
  have c0 := h.c0
  have c1 := h.c1
  have f1 := h.f1
  have hs := h.short
  have m1 : p % len < len := Nat.mod_lt _ (by omega)
  have m2 : (p * 7 + 3) % len < len := Nat.mod_lt _ (by omega)
  have t1 : (p : Int).tmod (len : Int) = ((p % len : Nat) : Int) := by rw [Int.tmod_eq_emod_of_nonneg (by omega)]; simp
  have t2 : ((p : Int) * 7 + 3).tmod (len : Int) = (((p * 7 + 3) % len : Nat) : Int) := by rw [Int.tmod_eq_emod_of_nonneg (by omega)]; simp
  generalize p % len = i1 at m1 t1
  generalize (p * 7 + 3) % len = i2 at m2 t2
  obtain ⟨y, y0, y1, hy1, hy2⟩ := h.byte i1 m1 (.int .i64 (p + 1))
  obtain ⟨z, z0, z1, hz1, hz2⟩ := h.byte i2 m2 (.int .i64 (p + 1))
  have hl : ((len : Int) == 0) = false := by simp; omega
  have hnd : decide (n < 1) = false := by simp; omega
  have hz0 : ¬ len = 0 := by omega
  have hz1 : ¬ (len : Int) = 0 := by omega
  have v1 : IntKind.i64.wrap ((p : Int) * 7) = (p : Int) * 7 := IntWalk.i64_in _ (by omega)
  have v2 : IntKind.i64.wrap ((p : Int) * 7 + 3) = (p : Int) * 7 + 3 := IntWalk.i64_in _ (by omega)
  have v3 : IntKind.i64.wrap (y * 131) = y * 131 := IntWalk.i64_in _ (by omega)
  have v4 : IntKind.i64.wrap (z * 1117) = z * 1117 := IntWalk.i64_in _ (by omega)
  have v5 : IntKind.i64.wrap (y * 131 + z * 1117) = y * 131 + z * 1117 := IntWalk.i64_in _ (by omega)
  have v6 : IntKind.i64.wrap ((p : Int) * 29) = (p : Int) * 29 := IntWalk.i64_in _ (by omega)
  have v7 : IntKind.i64.wrap (y * 131 + z * 1117 + (p : Int) * 29) = y * 131 + z * 1117 + (p : Int) * 29 := IntWalk.i64_in _ (by omega)
  obtain ⟨q, q0⟩ : ∃ q : Nat, q = p / len := ⟨_, rfl⟩
  have q1 : q ≤ p := by rw [q0]; exact Nat.div_le_self _ _
  have t3 : (p : Int).tdiv (len : Int) = (q : Int) := by rw [Int.tdiv_eq_ediv_of_nonneg (by omega), q0]; simp
  have v8 : IntKind.i64.wrap ((q : Int) * 53) = (q : Int) * 53 := IntWalk.i64_in _ (by omega)
  obtain ⟨s, hs2⟩ : ∃ s : Nat, y * 131 + z * 1117 + (p : Int) * 29 + (q : Int) * 53 = (s : Int) := ⟨(y * 131 + z * 1117 + (p : Int) * 29 + (q : Int) * 53).toNat, by omega⟩
  have hsB : s < 4294967296 := by omega
  have v9 : IntKind.i64.wrap (y * 131 + z * 1117 + (p : Int) * 29 + (q : Int) * 53) = (s : Int) := by rw [← hs2]; exact IntWalk.i64_in _ (by omega)
  obtain ⟨x, hx⟩ := xor_some s (s / 64) hsB (by omega)
  have hx2 : bits BinOp.xor IntKind.i64 (s : Int) ((s : Int) / 64) = (x : Int) := by rw [← hx]; simp
  clear hs2 hx
  clear q0
  have H := Lib.hid h
  clear h
  go_enter Tryz.func33, Tryz.ntmps33
  go_wp2
  go_quiet (fail)
  clear v1 v2 v3 v4 v5 v6 v7 v8 v9 t1 t2 t3
  go_wp2
  go_ret
  refine ⟨_, rfl, Int.emod_nonneg _ (by omega), Int.emod_lt_of_pos _ (by omega), ?_, ((Only.refl _ _).setCell (p := ⟨k, 1, none⟩) rfl _).drewN _, by simp⟩
  exact (H.out.next (by simp)).drewN _

/-- WHATEVER THE PLACE: a number from 0 to n-1; the reader goes on by one. -/
theorem pick_any (n : Int) (k : Nat) (a : Option Addr) (len cap : Nat) (zs : List Int) (p : Nat) (w : World) (hn : 1 ≤ n) (h : RdAt w k a len cap zs p) (hpB : p ≤ 100000) :
    Calls Tryz.prog 33 #[.pointer (some ⟨k, 0, none⟩), .int .i64 n] w (PickPost n k a len cap zs p w) := by
  by_cases hl : len = 0
  · subst hl; exact pick_none n k a cap zs p w hn h hpB
  · rcases h.row with ⟨_, e, _⟩ | ⟨⟨b, off, spot⟩, rfl, h1, h2, h3, h4, h5⟩
    · exact absurd e hl
    · have hspot : spot = none := by simpa [Addr.add] using World.cell?_spot (h4 0 (by omega))
      subst hspot
      by_cases hp : p < len
      · exact pick_in n k b off len cap zs p w hn h hp
      · exact pick_out n k b off len cap zs p w hn h (by omega) (by omega) hpB

theorem lt_of_cell {w : World} {a : Addr} {v : Value} (h : w.cell? a = some v) : a.block < w.heap.size := by
  unfold World.cell? at h
  by_cases hb : a.block < w.heap.size
  · exact hb
  · rw [Array.getElem?_eq_none (by omega)] at h; simp at h

/-- A reader has been made in a new block. -/
def OpenPost (a : Option Addr) (cap : Nat) (zs : List Int) (w : World) (e : Ending) (w' : World) : Prop :=
  ∃ len : Nat, e = .returned (.pointer (some ⟨w.heap.size, 0, none⟩)) ∧ w' = w.alloc (.cells #[.slice a len cap, .int .i64 0] 78) ∧ RdAt w' w.heap.size a len cap zs 0

theorem IsRow.alloc {w : World} {k : IntKind} {a : Option Addr} {len cap : Nat} {zs : List Int} (h : IsRow k w a len cap zs) (o : Obj) : IsRow k (w.alloc o) a len cap zs := by
  rcases h with r | ⟨x, hx, h1, h2, h3, h4, h5⟩
  · exact .inl r
  · refine .inr ⟨x, hx, h1, h2, h3, fun i hi => ?_, h5⟩
    rw [World.cell?_alloc_lt w _ _ (lt_of_cell (h4 i hi))]; exact h4 i hi

theorem RdAt.alloc {w : World} {k : Nat} {a : Option Addr} {len cap : Nat} {zs : List Int} {p : Nat} (h : RdAt w k a len cap zs p) (o : Obj) : RdAt (w.alloc o) k a len cap zs p := by
  refine ⟨?_, ?_, ?_, h.row.alloc o, h.far, h.short⟩
  · rw [World.cell?_alloc_lt w _ _ (lt_of_cell h.c0)]; exact h.c0
  · rw [World.cell?_alloc_lt w _ _ (lt_of_cell h.c1)]; exact h.c1
  · rw [World.frozen?_alloc_past _ _ _ (lt_of_cell h.c1)]; exact h.f1

theorem IsRow.cut {w : World} {k : IntKind} {a : Option Addr} {len len' cap : Nat} {zs : List Int} (h : IsRow k w a len cap zs) (hl : len' ≤ len) : IsRow k w a len' cap zs := by
  rcases h with ⟨r1, r2, r3, r4⟩ | ⟨x, hx, h1, h2, h3, h4, h5⟩
  · exact .inl ⟨r1, by omega, r3, r4⟩
  · exact .inr ⟨x, hx, by omega, h2, h3, h4, h5⟩

theorem rdAt_new {w : World} {a : Option Addr} {len len' cap : Nat} {zs : List Int} (h : IsRow .u8 w a len cap zs) (hl : len' ≤ len) (hs : len' ≤ 2000) (T : TypeId) :
    RdAt (w.alloc (.cells #[.slice a len' cap, .int .i64 0] T)) w.heap.size a len' cap zs 0 := by
  refine ⟨by simp [World.cell?_alloc_at], by simp [World.cell?_alloc_at], by simp, (h.cut hl).alloc _, ?_, hs⟩
  intro x hx hc
  rcases h with ⟨r1, r2, r3, r4⟩ | ⟨x', hx', h1, h2, h3, h4, h5⟩
  · omega
  · rw [hx'] at hx; simp at hx; subst hx
    have := lt_of_cell (h4 0 (by omega))
    rwa [add_block] at this

set_option maxHeartbeats 400000 in
theorem l6Open_any (a : Option Addr) (len cap : Nat) (zs : List Int) (w : World) (h : IsRow .u8 w a len cap zs) (hm : len ≤ cap) (hc : cap ≤ maxLen) :
    Calls Tryz.prog 16 #[.slice a len cap] w (OpenPost a cap zs w) := by
  unfold maxLen at hc
  by_cases hl : 2000 < len
  · go_enter Tryz.func16, Tryz.ntmps16
    have H := Lib.hid h
    clear h
    go_wp2
    go_ret
    exact ⟨2000, rfl, rfl, rdAt_new H.out (by omega) (by omega) _⟩
  · go_enter Tryz.func16, Tryz.ntmps16
    have H := Lib.hid h
    clear h
    go_wp2
    go_ret
    exact ⟨len, rfl, rfl, rdAt_new H.out (by omega) (by omega) _⟩
end Go.Proofs.YtlpibfafpljedaaGreatDoor
