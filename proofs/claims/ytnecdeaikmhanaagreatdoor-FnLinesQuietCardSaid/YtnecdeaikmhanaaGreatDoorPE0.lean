/- A part of the proof; packed by a program of mine out of my texts. -/
import Derived.Test.YtnecdeaikmhanaaGreatDoorRows
import Derived.WalkKit
import Derived.Below
import Derived.Lib.Hide
import Derived.Deep.QuietTactic
import Derived.Outline
import Derived.BigQuiet
import Derived.IntWalk
import Derived.Laws.BitsAllLaws
import Derived.Lib.SplitLaws
import Derived.Lib.IndexMore
import Derived.Lib.AtoiAll
import Derived.Lib.ItoaNum
import Derived.Deep.RegionHeld3
import Derived.Deep.RegionWith
import Derived.Deep.LoopGhost
import Derived.Lib.Join
import Derived.Deep.RegionHeld
namespace Go.Proofs.YtnecdeaikmhanaaGreatDoor
open Go.RowKit
set_option linter.unusedVariables false
theorem own : ownKnob Tryz.prog.godebug = none := by kernel_rfl
def IsRow (k : IntKind) (w : World) (a : Option Addr) (len cap : Nat) (zs : List Int) : Prop :=
  (a = none ∧ len = 0 ∧ cap = 0 ∧ zs = []) ∨
  ∃ x, a = some x ∧ len ≤ cap ∧ cap ≤ maxLen ∧ zs.length = cap ∧ (∀ i, i < zs.length → w.cell? (x.add i) = some (.int k (zs.getD i 0))) ∧ ∀ n ∈ zs, (Lit.int k n).wf = true
theorem IsRow.bounds {k : IntKind} {w : World} {a : Option Addr} {len cap : Nat} {zs : List Int} (h : IsRow k w a len cap zs) : len ≤ cap ∧ cap ≤ maxLen := by
  rcases h with ⟨_, rfl, rfl, _⟩ | ⟨x, _, h1, h2, _⟩
  · exact ⟨Nat.le_refl _, Nat.zero_le _⟩
  · exact ⟨h1, h2⟩
theorem belowDrewN {B : Nat} {a w : World} (h : Below B a w) (n : Nat) : Below B a (w.drewN n) := h.trans ⟨rfl, rfl, rfl, Nat.le_refl _, fun _ _ => rfl⟩
theorem bcell {W w1 : World} (hb : Below W.heap.size W w1) : (∀ b o, b < W.heap.size → w1.cell? ⟨b, o, none⟩ = W.cell? ⟨b, o, none⟩) ∧ (∀ b o, b < W.heap.size → w1.frozen? ⟨b, o, none⟩ = W.frozen? ⟨b, o, none⟩) :=
  ⟨fun b o h => hb.cell (p := ⟨b, o, none⟩) h, fun b o h => hb.frozen (p := ⟨b, o, none⟩) h⟩
end Go.Proofs.YtnecdeaikmhanaaGreatDoor
namespace Go.Proofs.YtnecdeaikmhanaaGreatDoor
open Go.RowKit
section
variable {P : Program} {ops : Array Oper} {Q : Exit → Act → World → Prop} {md : Region.Mode} {S : World → Prop}
theorem tkT {i : Nat} {oi : Oper} {v : Value} {fuel : Nat} {listed : Array Bool} {a : Act} {w : World} (hi : ops[i]? = some oi := by (simp only [List.getElem?_toArray, List.getElem?_cons_succ, List.getElem?_cons_zero]) <;> rfl)
    (hs : Region.noSelect ops = true := by kernel_rfl) (hf : Region.free md ops listed i = true := by kernel_rfl) (hr : (Region.ready md ops listed).contains i = true := by kernel_rfl)
    (hQ : ∀ c a w, Q (.panic c) (a.put oi.dst v) w → Q (.panic c) a w := by exact fun _ _ _ h => h) (hy : YieldsIf P ops S oi v a := by exact Or.inl ⟨by rfl, fun w hSw => by ((try dsimp only at hSw); go_simp) <;> with_reducible rfl⟩) (hS : S w := by assumption)
    (h : wpAnyH P md ops Q S fuel (listed.setIfInBounds i true) (a.put oi.dst v) w) : wpAnyH P md ops Q S (fuel + 1) listed a w := wpAnyH_take hi hs hf hr hQ hy hS h
theorem tkS {i : Nat} {oi : Oper} {v : Value} {fuel : Nat} {listed : Array Bool} {a : Act} {w : World} (hi : ops[i]? = some oi := by (simp only [List.getElem?_toArray, List.getElem?_cons_succ, List.getElem?_cons_zero]) <;> rfl)
    (hs : Region.noSelect ops = true := by kernel_rfl) (hf : Region.free md ops listed i = true := by kernel_rfl) (hr : (Region.ready md ops listed).contains i = true := by kernel_rfl)
    (hQ : ∀ c a w, Q (.panic c) (a.put oi.dst v) w → Q (.panic c) a w := by exact fun _ _ _ h => h) (hy : YieldsIf P ops S oi v a := by exact Or.inr ⟨by rfl, rfl⟩) (hS : S w := by assumption)
    (h : wpAnyH P md ops Q S fuel (listed.setIfInBounds i true) (a.put oi.dst v) w) : wpAnyH P md ops Q S (fuel + 1) listed a w := wpAnyH_take hi hs hf hr hQ hy hS h
theorem bw {B : Nat} {a w : World} (h : Below B a w := by repeat (first | exact Below.refl _ _ | assumption | refine Below.drew ?_ | refine belowDrewN ?_ _ | refine Below.alloc ?_ (by first | exact Nat.le_refl _ | omega | (simp; done) | (simp; omega)) _ | refine Below.setCell ?_ (by first | exact Nat.le_refl _ | omega | (simp; done) | (simp; omega)) _)) : Below B a w := h
theorem pB {α : Type} (l : List α) (i : Nat) (x : α) : l.toArray.setIfInBounds i x = (l.set i x).toArray := List.setIfInBounds_toArray ..
theorem pC {α : Type} (x y : α) (l : List α) : (x :: l).set 0 y = y :: l := rfl
theorem pD {α : Type} (x y : α) (l : List α) (i : Nat) : (x :: l).set (i + 1) y = x :: l.set i y := rfl
end
end Go.Proofs.YtnecdeaikmhanaaGreatDoor
namespace Go.Proofs.YtnecdeaikmhanaaGreatDoor
open Go.RowKit
set_option linter.unusedVariables false
structure Only (k : Nat) (w w' : World) : Prop where
  os : w'.os = w.os
  tape : w'.tape = w.tape
  output : w'.output = w.output
  size : w.heap.size ≤ w'.heap.size
  block : ∀ b, b < w.heap.size → b ≠ k → w'.heap[b]? = w.heap[b]?
theorem Only.refl (k : Nat) (w : World) : Only k w w := ⟨rfl, rfl, rfl, Nat.le_refl _, fun _ _ _ => rfl⟩
theorem Only.trans {k : Nat} {a b c : World} (h : Only k a b) (g : Only k b c) : Only k a c :=
  ⟨g.os.trans h.os, g.tape.trans h.tape, g.output.trans h.output, Nat.le_trans h.size g.size, fun i hi hk => (g.block i (by have := h.size; omega) hk).trans (h.block i hi hk)⟩
theorem Only.below {k B : Nat} {w w' : World} (h : Only k w w') (hB : B ≤ k) (hs : B ≤ w.heap.size) : Below B w w' :=
  ⟨h.os, h.tape, h.output, h.size, fun i hi => h.block i (by omega) (by omega)⟩
theorem Only.of_below {k : Nat} {w w' : World} (h : Below w.heap.size w w') : Only k w w' :=
  ⟨h.os, h.tape, h.output, h.size, fun i hi _ => h.block i hi⟩
theorem Only.cell {k : Nat} {w w' : World} (h : Only k w w') {p : Addr} (hp : p.block < w.heap.size) (hk : p.block ≠ k) : w'.cell? p = w.cell? p :=
  World.cell?_of_block (w := w) (h.block p.block hp hk)
theorem Only.frozen {k : Nat} {w w' : World} (h : Only k w w') {p : Addr} (hp : p.block < w.heap.size) (hk : p.block ≠ k) : w'.frozen? p = w.frozen? p :=
  World.frozen?_of_block (w := w) (h.block p.block hp hk)
theorem Only.cells {k : Nat} {W w1 : World} (h : Only k W w1) : (∀ b o, b < W.heap.size → b ≠ k → w1.cell? ⟨b, o, none⟩ = W.cell? ⟨b, o, none⟩) ∧ (∀ b o, b < W.heap.size → b ≠ k → w1.frozen? ⟨b, o, none⟩ = W.frozen? ⟨b, o, none⟩) :=
  ⟨fun b o hp hk => h.cell (p := ⟨b, o, none⟩) hp hk, fun b o hp hk => h.frozen (p := ⟨b, o, none⟩) hp hk⟩
theorem Only.setCell {k : Nat} {a w : World} (h : Only k a w) {p : Addr} (hp : p.block = k) (u : Value) : Only k a (w.setCell p u) :=
  h.trans ⟨rfl, rfl, rfl, by simp [World.setCell], fun i hi hk => Below.heap_setCell _ _ _ _ (by omega)⟩
theorem Only.alloc {k : Nat} {a w : World} (h : Only k a w) (o : Obj) : Only k a (w.alloc o) :=
  h.trans ⟨rfl, rfl, rfl, by simp, fun i hi hk => Below.heap_alloc _ _ _ hi⟩
theorem Only.drew {k : Nat} {a w : World} (h : Only k a w) : Only k a w.drew := h.trans ⟨rfl, rfl, rfl, Nat.le_refl _, fun _ _ _ => rfl⟩
theorem Only.drewN {k : Nat} {a w : World} (h : Only k a w) (n : Nat) : Only k a (w.drewN n) := h.trans ⟨rfl, rfl, rfl, Nat.le_refl _, fun _ _ _ => rfl⟩
theorem add_at (b off i : Nat) : (⟨b, off, none⟩ : Addr).add i = ⟨b, off + i, none⟩ := by
  unfold Addr.add; split <;> simp_all
theorem add_block (x : Addr) (i : Nat) : (x.add i).block = x.block := by
  unfold Addr.add; split <;> rfl
structure Box3 (w : World) (B : Nat) (v0 v1 v2 : Value) : Prop where
  c0 : w.cell? ⟨B, 0, none⟩ = some v0
  c1 : w.cell? ⟨B, 1, none⟩ = some v1
  c2 : w.cell? ⟨B, 2, none⟩ = some v2
  f0 : w.frozen? ⟨B, 0, none⟩ = false
  f1 : w.frozen? ⟨B, 1, none⟩ = false
  f2 : w.frozen? ⟨B, 2, none⟩ = false
theorem Box3.below {W w1 : World} {B : Nat} {v0 v1 v2 : Value} (h : Box3 W B v0 v1 v2) (hb : Below W.heap.size W w1) (hB : B < W.heap.size) : Box3 w1 B v0 v1 v2 :=
  ⟨(hb.cell (p := ⟨B, 0, none⟩) hB).trans h.c0, (hb.cell (p := ⟨B, 1, none⟩) hB).trans h.c1, (hb.cell (p := ⟨B, 2, none⟩) hB).trans h.c2, (hb.frozen (p := ⟨B, 0, none⟩) hB).trans h.f0, (hb.frozen (p := ⟨B, 1, none⟩) hB).trans h.f1, (hb.frozen (p := ⟨B, 2, none⟩) hB).trans h.f2⟩
theorem Box3.only {W w1 : World} {B k : Nat} {v0 v1 v2 : Value} (h : Box3 W B v0 v1 v2) (hb : Only k W w1) (hB : B < W.heap.size) (hk : B ≠ k) : Box3 w1 B v0 v1 v2 :=
  ⟨(hb.cell (p := ⟨B, 0, none⟩) hB hk).trans h.c0, (hb.cell (p := ⟨B, 1, none⟩) hB hk).trans h.c1, (hb.cell (p := ⟨B, 2, none⟩) hB hk).trans h.c2, (hb.frozen (p := ⟨B, 0, none⟩) hB hk).trans h.f0, (hb.frozen (p := ⟨B, 1, none⟩) hB hk).trans h.f1, (hb.frozen (p := ⟨B, 2, none⟩) hB hk).trans h.f2⟩
theorem Box3.new (w : World) (v0 v1 v2 : Value) (T : TypeId) : Box3 (w.alloc (.cells #[v0, v1, v2] T)) w.heap.size v0 v1 v2 :=
  ⟨by simp, by simp, by simp, by simp, by simp, by simp⟩
theorem Box3.alloc {w : World} {B : Nat} {v0 v1 v2 : Value} (h : Box3 w B v0 v1 v2) (o : Obj) : Box3 (w.alloc o) B v0 v1 v2 := by
  have hB : B < w.heap.size := by
    have := h.c0; unfold World.cell? at this
    by_cases hb : B < w.heap.size
    · exact hb
    · rw [Array.getElem?_eq_none (by simp; omega)] at this; simp at this
  exact ⟨(World.cell?_alloc_past _ _ _ hB).trans h.c0, (World.cell?_alloc_past _ _ _ hB).trans h.c1, (World.cell?_alloc_past _ _ _ hB).trans h.c2, (World.frozen?_alloc_past _ _ _ hB).trans h.f0, (World.frozen?_alloc_past _ _ _ hB).trans h.f1, (World.frozen?_alloc_past _ _ _ hB).trans h.f2⟩
theorem Box3.drew {w : World} {B : Nat} {v0 v1 v2 : Value} (h : Box3 w B v0 v1 v2) : Box3 w.drew B v0 v1 v2 := ⟨h.c0, h.c1, h.c2, h.f0, h.f1, h.f2⟩
theorem Box3.drewN {w : World} {B : Nat} {v0 v1 v2 : Value} (h : Box3 w B v0 v1 v2) (n : Nat) : Box3 (w.drewN n) B v0 v1 v2 := ⟨h.c0, h.c1, h.c2, h.f0, h.f1, h.f2⟩
theorem Box3.size {w : World} {B : Nat} {v0 v1 v2 : Value} (h : Box3 w B v0 v1 v2) : B < w.heap.size := by
  have := h.c0; unfold World.cell? at this
  by_cases hb : B < w.heap.size
  · exact hb
  · rw [Array.getElem?_eq_none (by simp; omega)] at this; simp at this
structure RdAt (w : World) (k : Nat) (a : Option Addr) (len cap : Nat) (zs : List Int) (p : Nat) : Prop where
  c0 : w.cell? ⟨k, 0, none⟩ = some (.slice a len cap)
  c1 : w.cell? ⟨k, 1, none⟩ = some (.int .i64 p)
  f1 : w.frozen? ⟨k, 1, none⟩ = false
  row : IsRow .u8 w a len cap zs
  far : ∀ x, a = some x → 0 < cap → x.block < k
  short : len ≤ 2000
def PickPost (n : Int) (k : Nat) (a : Option Addr) (len cap : Nat) (zs : List Int) (p : Nat) (w : World) (e : Ending) (w' : World) : Prop :=
  ∃ x : Int, e = .returned (.int .i64 x) ∧ 0 ≤ x ∧ x < n ∧ RdAt w' k a len cap zs (p + 1) ∧ Only k w w' ∧ w'.heap.size = w.heap.size
theorem RdAt.next {w : World} {k : Nat} {a : Option Addr} {len cap : Nat} {zs : List Int} {p : Nat} (h : RdAt w k a len cap zs p) {v : Value} (hv : v = .int .i64 ((p + 1 : Nat) : Int)) :
    RdAt (w.setCell ⟨k, 1, none⟩ v) k a len cap zs (p + 1) := by
  subst hv
  refine ⟨?_, ?_, ?_, ?_, h.far, h.short⟩
  · rw [World.cell?_setCell_other _ _ _ _ (by simp)]; exact h.c0
  · exact World.cell?_setCell_same _ _ _ h.c1
  · simp [h.f1]
  · rcases h.row with r | ⟨x, hx, h1, h2, h3, h4, h5⟩
    · exact .inl r
    · refine .inr ⟨x, hx, h1, h2, h3, fun i hi => ?_, h5⟩
      rw [World.cell?_setCell_other _ _ _ _ (by have := h.far x hx (by omega); rw [← add_block x i] at this; intro e; rw [← e] at this; simp at this)]
      exact h4 i hi
theorem RdAt.byte {w : World} {k : Nat} {b off len cap : Nat} {zs : List Int} {p : Nat} (h : RdAt w k (some ⟨b, off, none⟩) len cap zs p) (i : Nat) (hi : i < len) (v : Value) :
    ∃ z : Int, 0 ≤ z ∧ z ≤ 255 ∧ w.cell? ⟨b, off + i, none⟩ = some (.int .u8 z) ∧ (w.setCell ⟨k, 1, none⟩ v).cell? ⟨b, off + i, none⟩ = some (.int .u8 z) := by
  rcases h.row with ⟨e, _⟩ | ⟨x, hx, h1, h2, h3, h4, h5⟩
  · simp at e
  · simp at hx; subst hx
    have hb := h.far _ rfl (by omega)
    have hc := h4 i (by omega)
    have hm : zs.getD i 0 ∈ zs := by simp only [List.getD_eq_getElem?_getD]; rw [List.getElem?_eq_getElem (by omega)]; exact List.getElem_mem _
    rw [add_at] at hc
    have hw := h5 _ hm
    refine ⟨zs.getD i 0, ?_, ?_, hc, ?_⟩
    · simp [Lit.wf, IntKind.min, IntKind.max, IntKind.bits, IntKind.signed] at hw; simp; omega
    · simp [Lit.wf, IntKind.min, IntKind.max, IntKind.bits, IntKind.signed] at hw; simp; omega
    · rw [World.cell?_setCell_other _ _ _ _ (by simp at hb; simp; try omega)]; exact hc
theorem RdAt.drewN {w : World} {k : Nat} {a : Option Addr} {len cap : Nat} {zs : List Int} {p : Nat} (h : RdAt w k a len cap zs p) (n : Nat) : RdAt (w.drewN n) k a len cap zs p :=
  ⟨h.c0, h.c1, h.f1, h.row, h.far, h.short⟩
theorem RdAt.drew {w : World} {k : Nat} {a : Option Addr} {len cap : Nat} {zs : List Int} {p : Nat} (h : RdAt w k a len cap zs p) : RdAt w.drew k a len cap zs p :=
  ⟨h.c0, h.c1, h.f1, h.row, h.far, h.short⟩
set_option maxHeartbeats 1000000 in
theorem pick_none (n : Int) (k : Nat) (a : Option Addr) (cap : Nat) (zs : List Int) (p : Nat) (w : World) (hn : 1 ≤ n)
    (h : RdAt w k a 0 cap zs p) (hpB : p ≤ 100000) :
    Calls Tryz.prog 16 #[.pointer (some ⟨k, 0, none⟩), .int .i64 n] w (PickPost n k a 0 cap zs p w) := by
  have c0 := h.c0
  have c1 := h.c1
  have f1 := h.f1
  have hnd : decide (n < 1) = false := by simp; omega
  have H := Lib.hid h
  clear h
  go_enter Tryz.func16, Tryz.ntmps16
  go_wp2
  go_ret
  refine ⟨_, rfl, by omega, by omega, ?_, (Only.refl _ _).setCell (p := ⟨k, 1, none⟩) rfl _, by simp⟩
  exact H.out.next (by simp)
set_option maxHeartbeats 1000000 in
theorem pick_in (n : Int) (k : Nat) (b off len cap : Nat) (zs : List Int) (p : Nat) (w : World) (hn : 1 ≤ n)
    (h : RdAt w k (some ⟨b, off, none⟩) len cap zs p) (hp : p < len) :
    Calls Tryz.prog 16 #[.pointer (some ⟨k, 0, none⟩), .int .i64 n] w (PickPost n k (some ⟨b, off, none⟩) len cap zs p w) := by
  have c0 := h.c0
  have c1 := h.c1
  have f1 := h.f1
  have hs := h.short
  obtain ⟨z, z0, z1, hz⟩ := h.byte p hp (.int .i64 (p + 1))
  obtain ⟨hz1, hz2⟩ := hz
  have hl : ((len : Int) == 0) = false := by simp; omega
  have H := Lib.hid h
  clear h
  go_enter Tryz.func16, Tryz.ntmps16
  go_wp2
  go_ret
  refine ⟨_, rfl, Int.emod_nonneg _ (by omega), Int.emod_lt_of_pos _ (by omega), ?_, (Only.refl _ _).setCell (p := ⟨k, 1, none⟩) rfl _, by simp⟩
  exact H.out.next (by simp)
theorem xor_some (a b : Nat) (ha : a < 4294967296) (hb : b < 4294967296) : ∃ x : Nat, bits BinOp.xor IntKind.i64 (a : Int) (b : Int) = (x : Int) := by
  refine ⟨a ^^^ b, ?_⟩
  show IntKind.i64.wrap ((BitVec.ofInt 64 (a : Int) ^^^ BitVec.ofInt 64 (b : Int)).toNat : Int) = _
  have h : a ^^^ b < 2 ^ 32 := Nat.xor_lt_two_pow (by omega) (by omega)
  rw [BitVec.toNat_xor, ofInt_u64 a (by omega), ofInt_u64 b (by omega)]
  exact IntWalk.i64_in _ (by omega)
set_option maxHeartbeats 1000000 in
theorem pick_out (n : Int) (k : Nat) (b off len cap : Nat) (zs : List Int) (p : Nat) (w : World) (hn : 1 ≤ n)
    (h : RdAt w k (some ⟨b, off, none⟩) len cap zs p) (hp : len ≤ p) (hl0 : 1 ≤ len) (hpB : p ≤ 100000) :
    Calls Tryz.prog 16 #[.pointer (some ⟨k, 0, none⟩), .int .i64 n] w (PickPost n k (some ⟨b, off, none⟩) len cap zs p w) := by
  have c0 := h.c0
  have c1 := h.c1
  have f1 := h.f1
  have hs := h.short
  have m1 : p % len < len := Nat.mod_lt _ (by omega)
  have m2 : (p * 7 + 3) % len < len := Nat.mod_lt _ (by omega)
  have t1 : (p : Int).tmod (len : Int) = ((p % len : Nat) : Int) := by rw [Int.tmod_eq_emod_of_nonneg (by omega)]; simp
  have t2 : ((p : Int) * 7 + 3).tmod (len : Int) = (((p * 7 + 3) % len : Nat) : Int) := by rw [Int.tmod_eq_emod_of_nonneg (by omega)]; simp
  generalize p % len = i1 at m1 t1
  generalize (p * 7 + 3) % len = i2 at m2 t2
  obtain ⟨y, y0, y1, hy1, hy2⟩ := h.byte i1 m1 (.int .i64 (p + 1))
  obtain ⟨z, z0, z1, hz1, hz2⟩ := h.byte i2 m2 (.int .i64 (p + 1))
  have hl : ((len : Int) == 0) = false := by simp; omega
  have hnd : decide (n < 1) = false := by simp; omega
  have hz0 : ¬ len = 0 := by omega
  have hz1 : ¬ (len : Int) = 0 := by omega
  have v1 : IntKind.i64.wrap ((p : Int) * 7) = (p : Int) * 7 := IntWalk.i64_in _ (by omega)
  have v2 : IntKind.i64.wrap ((p : Int) * 7 + 3) = (p : Int) * 7 + 3 := IntWalk.i64_in _ (by omega)
  have v3 : IntKind.i64.wrap (y * 131) = y * 131 := IntWalk.i64_in _ (by omega)
  have v4 : IntKind.i64.wrap (z * 1117) = z * 1117 := IntWalk.i64_in _ (by omega)
  have v5 : IntKind.i64.wrap (y * 131 + z * 1117) = y * 131 + z * 1117 := IntWalk.i64_in _ (by omega)
  have v6 : IntKind.i64.wrap ((p : Int) * 29) = (p : Int) * 29 := IntWalk.i64_in _ (by omega)
  have v7 : IntKind.i64.wrap (y * 131 + z * 1117 + (p : Int) * 29) = y * 131 + z * 1117 + (p : Int) * 29 := IntWalk.i64_in _ (by omega)
  obtain ⟨q, q0⟩ : ∃ q : Nat, q = p / len := ⟨_, rfl⟩
  have q1 : q ≤ p := by rw [q0]; exact Nat.div_le_self _ _
  have t3 : (p : Int).tdiv (len : Int) = (q : Int) := by rw [Int.tdiv_eq_ediv_of_nonneg (by omega), q0]; simp
  have v8 : IntKind.i64.wrap ((q : Int) * 53) = (q : Int) * 53 := IntWalk.i64_in _ (by omega)
  obtain ⟨s, hs2⟩ : ∃ s : Nat, y * 131 + z * 1117 + (p : Int) * 29 + (q : Int) * 53 = (s : Int) := ⟨(y * 131 + z * 1117 + (p : Int) * 29 + (q : Int) * 53).toNat, by omega⟩
  have hsB : s < 4294967296 := by omega
  have v9 : IntKind.i64.wrap (y * 131 + z * 1117 + (p : Int) * 29 + (q : Int) * 53) = (s : Int) := by rw [← hs2]; exact IntWalk.i64_in _ (by omega)
  obtain ⟨x, hx⟩ := xor_some s (s / 64) hsB (by omega)
  have hx2 : bits BinOp.xor IntKind.i64 (s : Int) ((s : Int) / 64) = (x : Int) := by rw [← hx]; simp
  clear hs2 hx
  clear q0
  have H := Lib.hid h
  clear h
  go_enter Tryz.func16, Tryz.ntmps16
  go_wp2
  go_quiet (fail)
  clear v1 v2 v3 v4 v5 v6 v7 v8 v9 t1 t2 t3
  go_wp2
  go_ret
  refine ⟨_, rfl, Int.emod_nonneg _ (by omega), Int.emod_lt_of_pos _ (by omega), ?_, ((Only.refl _ _).setCell (p := ⟨k, 1, none⟩) rfl _).drewN _, by simp⟩
  exact (H.out.next (by simp)).drewN _
theorem pick_any (n : Int) (k : Nat) (a : Option Addr) (len cap : Nat) (zs : List Int) (p : Nat) (w : World) (hn : 1 ≤ n) (h : RdAt w k a len cap zs p) (hpB : p ≤ 100000) :
    Calls Tryz.prog 16 #[.pointer (some ⟨k, 0, none⟩), .int .i64 n] w (PickPost n k a len cap zs p w) := by
  by_cases hl : len = 0
  · subst hl; exact pick_none n k a cap zs p w hn h hpB
  · rcases h.row with ⟨_, e, _⟩ | ⟨⟨b, off, spot⟩, rfl, h1, h2, h3, h4, h5⟩
    · exact absurd e hl
    · have hspot : spot = none := by simpa [Addr.add] using World.cell?_spot (h4 0 (by omega))
      subst hspot
      by_cases hp : p < len
      · exact pick_in n k b off len cap zs p w hn h hp
      · exact pick_out n k b off len cap zs p w hn h (by omega) (by omega) hpB
theorem lt_of_cell {w : World} {a : Addr} {v : Value} (h : w.cell? a = some v) : a.block < w.heap.size := by
  unfold World.cell? at h
  by_cases hb : a.block < w.heap.size
  · exact hb
  · rw [Array.getElem?_eq_none (by omega)] at h; simp at h
def OpenPost (a : Option Addr) (cap : Nat) (zs : List Int) (w : World) (e : Ending) (w' : World) : Prop :=
  ∃ len : Nat, e = .returned (.pointer (some ⟨w.heap.size, 0, none⟩)) ∧ w' = w.alloc (.cells #[.slice a len cap, .int .i64 0] 50) ∧ RdAt w' w.heap.size a len cap zs 0
theorem IsRow.alloc {w : World} {k : IntKind} {a : Option Addr} {len cap : Nat} {zs : List Int} (h : IsRow k w a len cap zs) (o : Obj) : IsRow k (w.alloc o) a len cap zs := by
  rcases h with r | ⟨x, hx, h1, h2, h3, h4, h5⟩
  · exact .inl r
  · refine .inr ⟨x, hx, h1, h2, h3, fun i hi => ?_, h5⟩
    rw [World.cell?_alloc_lt w _ _ (lt_of_cell (h4 i hi))]; exact h4 i hi
theorem RdAt.alloc {w : World} {k : Nat} {a : Option Addr} {len cap : Nat} {zs : List Int} {p : Nat} (h : RdAt w k a len cap zs p) (o : Obj) : RdAt (w.alloc o) k a len cap zs p := by
  refine ⟨?_, ?_, ?_, h.row.alloc o, h.far, h.short⟩
  · rw [World.cell?_alloc_lt w _ _ (lt_of_cell h.c0)]; exact h.c0
  · rw [World.cell?_alloc_lt w _ _ (lt_of_cell h.c1)]; exact h.c1
  · rw [World.frozen?_alloc_past _ _ _ (lt_of_cell h.c1)]; exact h.f1
theorem IsRow.cut {w : World} {k : IntKind} {a : Option Addr} {len len' cap : Nat} {zs : List Int} (h : IsRow k w a len cap zs) (hl : len' ≤ len) : IsRow k w a len' cap zs := by
  rcases h with ⟨r1, r2, r3, r4⟩ | ⟨x, hx, h1, h2, h3, h4, h5⟩
  · exact .inl ⟨r1, by omega, r3, r4⟩
  · exact .inr ⟨x, hx, by omega, h2, h3, h4, h5⟩
theorem rdAt_new {w : World} {a : Option Addr} {len len' cap : Nat} {zs : List Int} (h : IsRow .u8 w a len cap zs) (hl : len' ≤ len) (hs : len' ≤ 2000) (T : TypeId) :
    RdAt (w.alloc (.cells #[.slice a len' cap, .int .i64 0] T)) w.heap.size a len' cap zs 0 := by
  refine ⟨by simp [World.cell?_alloc_at], by simp [World.cell?_alloc_at], by simp, (h.cut hl).alloc _, ?_, hs⟩
  intro x hx hc
  rcases h with ⟨r1, r2, r3, r4⟩ | ⟨x', hx', h1, h2, h3, h4, h5⟩
  · omega
  · rw [hx'] at hx; simp at hx; subst hx
    have := lt_of_cell (h4 0 (by omega))
    rwa [add_block] at this
set_option maxHeartbeats 400000 in
theorem l6Open_any (a : Option Addr) (len cap : Nat) (zs : List Int) (w : World) (h : IsRow .u8 w a len cap zs) (hm : len ≤ cap) (hc : cap ≤ maxLen) :
    Calls Tryz.prog 15 #[.slice a len cap] w (OpenPost a cap zs w) := by
  unfold maxLen at hc
  by_cases hl : 2000 < len
  · go_enter Tryz.func15, Tryz.ntmps15
    have H := Lib.hid h
    clear h
    go_wp2
    go_ret
    exact ⟨2000, rfl, rfl, rdAt_new H.out (by omega) (by omega) _⟩
  · go_enter Tryz.func15, Tryz.ntmps15
    have H := Lib.hid h
    clear h
    go_wp2
    go_ret
    exact ⟨len, rfl, rfl, rdAt_new H.out (by omega) (by omega) _⟩
end Go.Proofs.YtnecdeaikmhanaaGreatDoor
namespace Go.Proofs.YtnecdeaikmhanaaGreatDoor
open Go.RowKit
set_option linter.unusedVariables false
def SliceAt (w : World) (v : Value) (n : Nat) (f : Nat → Value) : Prop :=
  ∃ a cap, v = .slice a n cap ∧ n ≤ cap ∧ cap ≤ maxLen ∧ (n = 0 ∨ ∃ b off, a = some ⟨b, off, none⟩ ∧ b < w.heap.size ∧ ∀ i, i < n → w.cell? ⟨b, off + i, none⟩ = some (f i))
def IntsAt (w : World) (v : Value) (l : List Int) : Prop := SliceAt w v l.length fun i => .int .i64 (l.getD i 0)
def RowsAt (w : World) (v : Value) (ll : List (List Int)) : Prop := ∃ f, SliceAt w v ll.length f ∧ ∀ i, i < ll.length → IntsAt w (f i) (ll.getD i [])
theorem SliceAt.below {w w' : World} {v : Value} {n : Nat} {f : Nat → Value} (h : SliceAt w v n f) (hb : Below w.heap.size w w') : SliceAt w' v n f := by
  obtain ⟨a, cap, rfl, hc, hm, h⟩ := h
  refine ⟨a, cap, rfl, hc, hm, ?_⟩
  rcases h with h | ⟨b, off, rfl, hlt, hcell⟩
  · exact .inl h
  · exact .inr ⟨b, off, rfl, Nat.lt_of_lt_of_le hlt hb.size, fun i hi => (hb.cell (p := ⟨b, off + i, none⟩) hlt).trans (hcell i hi)⟩
theorem IntsAt.below {w w' : World} {v : Value} {l : List Int} (h : IntsAt w v l) (hb : Below w.heap.size w w') : IntsAt w' v l := SliceAt.below h hb
theorem RowsAt.below {w w' : World} {v : Value} {ll : List (List Int)} (h : RowsAt w v ll) (hb : Below w.heap.size w w') : RowsAt w' v ll := by
  obtain ⟨f, h1, h2⟩ := h
  exact ⟨f, h1.below hb, fun i hi => (h2 i hi).below hb⟩
def Drew (w w' : World) : Prop := ∃ m, w' = w.drewN m
theorem Drew.refl (w : World) : Drew w w := ⟨0, rfl⟩
theorem Drew.more {a w : World} (h : Drew a w) (n : Nat) : Drew a (w.drewN n) := by obtain ⟨m, rfl⟩ := h; exact ⟨m + n, by rw [World.drewN_drewN]⟩
theorem Drew.trans {a b c : World} (h : Drew a b) (g : Drew b c) : Drew a c := by obtain ⟨n, rfl⟩ := g; exact h.more n
theorem Drew.below {w w' : World} (h : Drew w w') (B : Nat) : Below B w w' := by obtain ⟨m, rfl⟩ := h; exact belowDrewN (Below.refl _ _) m
theorem Drew.size {w w' : World} (h : Drew w w') : w'.heap.size = w.heap.size := by obtain ⟨m, rfl⟩ := h; rfl
theorem quietA {P : Program} {f : FuncId} {args : Array Value} {w : World} {q x : Nat} {v : Value} (h : Calls P f args (w.drewN (q + x)) fun e w' => e = .returned v ∧ Drew (w.drewN (q + x)) w') :
    Calls P f args (w.drewN (q + x)) fun e w'' => e = .returned v ∧ ∃ n, w'' = w.drewN (q + n) :=
  h.mono fun _ _ ⟨he, m, hm⟩ => ⟨he, x + m, by rw [hm, World.drewN_drewN, Nat.add_assoc]⟩
theorem quietB {P : Program} {f : FuncId} {args : Array Value} {w : World} {x : Nat} {v : Value} (h : Calls P f args (w.drewN x) fun e w' => e = .returned v ∧ Drew (w.drewN x) w') :
    Calls P f args (w.drewN x) fun e w'' => e = .returned v ∧ ∃ n, w'' = w.drewN n :=
  h.mono fun _ _ ⟨he, m, hm⟩ => ⟨he, x + m, by rw [hm, World.drewN_drewN]⟩
theorem SliceAt.get {w : World} {a : Option Addr} {n cap : Nat} {f : Nat → Value} (h : SliceAt w (.slice a n cap) n f) (i : Nat) (hi : i < n) :
    ∃ b off, a = some ⟨b, off, none⟩ ∧ b < w.heap.size ∧ w.cell? ⟨b, off + i, none⟩ = some (f i) := by
  obtain ⟨a', cap', e, hc, hm, h⟩ := h
  simp only [Value.slice.injEq] at e
  obtain ⟨rfl, _, rfl⟩ := e
  rcases h with h | ⟨b, off, rfl, hlt, hcell⟩
  · omega
  · exact ⟨b, off, rfl, hlt, hcell i hi⟩
theorem SliceAt.form {w : World} {v : Value} {n : Nat} {f : Nat → Value} (h : SliceAt w v n f) : ∃ a cap, v = .slice a n cap ∧ n ≤ cap ∧ cap ≤ 9223372036854775807 := by
  obtain ⟨a, cap, rfl, hc, hm, _⟩ := h
  exact ⟨a, cap, rfl, hc, by unfold maxLen at hm; exact hm⟩
theorem SliceAt.front {w : World} {a : Option Addr} {n cap k : Nat} {f : Nat → Value} (h : SliceAt w (.slice a n cap) n f) (hk : k ≤ n) : SliceAt w (.slice a k cap) k f := by
  obtain ⟨a', cap', e, hc, hm, h⟩ := h
  simp only [Value.slice.injEq] at e
  obtain ⟨rfl, _, rfl⟩ := e
  refine ⟨a, cap, rfl, by omega, hm, ?_⟩
  rcases h with h | ⟨b, off, rfl, hlt, hcell⟩
  · exact .inl (by omega)
  · exact .inr ⟨b, off, rfl, hlt, fun i hi => hcell i (by omega)⟩
theorem IntsAt.form {w : World} {v : Value} {l : List Int} (h : IntsAt w v l) : ∃ a cap, v = .slice a l.length cap ∧ l.length ≤ cap ∧ cap ≤ 9223372036854775807 := SliceAt.form h
theorem IntsAt.take {w : World} {a : Option Addr} {n cap k : Nat} {l : List Int} (h : IntsAt w (.slice a n cap) l) (hk : k ≤ l.length) : IntsAt w (.slice a k cap) (l.take k) := by
  have hn : n = l.length := by obtain ⟨a', c', e, _⟩ := h; simp only [Value.slice.injEq] at e; exact e.2.1
  subst hn
  have g := SliceAt.front h hk
  have hl : (l.take k).length = k := by rw [List.length_take]; omega
  unfold IntsAt
  rw [hl]
  obtain ⟨a', cap', e, hc, hm, g⟩ := g
  refine ⟨a', cap', e, hc, hm, ?_⟩
  rcases g with g | ⟨b, off, rfl, hlt, hcell⟩
  · exact .inl g
  · refine .inr ⟨b, off, rfl, hlt, fun i hi => ?_⟩
    rw [hcell i hi]; simp [hi]
theorem IntsAt.len {w : World} {a : Option Addr} {n cap : Nat} {l : List Int} (h : IntsAt w (.slice a n cap) l) : n = l.length ∧ n ≤ cap ∧ cap ≤ 9223372036854775807 := by
  obtain ⟨a', c', e, hc, hm⟩ := h.form
  simp only [Value.slice.injEq] at e
  obtain ⟨_, rfl, rfl⟩ := e
  exact ⟨rfl, hc, hm⟩
theorem IntsAt.get {w : World} {a : Option Addr} {n cap : Nat} {l : List Int} (h : IntsAt w (.slice a n cap) l) (i : Nat) (hi : i < n) :
    ∃ b off, a = some ⟨b, off, none⟩ ∧ b < w.heap.size ∧ w.cell? ⟨b, off + i, none⟩ = some (.int .i64 (l.getD i 0)) := by
  obtain ⟨rfl, _, _⟩ := h.len
  exact SliceAt.get h i hi
theorem RowsAt.form {w : World} {v : Value} {ll : List (List Int)} (h : RowsAt w v ll) : ∃ a cap, v = .slice a ll.length cap ∧ ll.length ≤ cap ∧ cap ≤ 9223372036854775807 := by
  obtain ⟨f, h, _⟩ := h; exact h.form
theorem RowsAt.len {w : World} {a : Option Addr} {n cap : Nat} {ll : List (List Int)} (h : RowsAt w (.slice a n cap) ll) : n = ll.length ∧ n ≤ cap ∧ cap ≤ 9223372036854775807 := by
  obtain ⟨a', c', e, hc, hm⟩ := h.form
  simp only [Value.slice.injEq] at e
  obtain ⟨_, rfl, rfl⟩ := e
  exact ⟨rfl, hc, hm⟩
theorem RowsAt.get {w : World} {a : Option Addr} {n cap : Nat} {ll : List (List Int)} (h : RowsAt w (.slice a n cap) ll) (i : Nat) (hi : i < n) :
    ∃ b off v, a = some ⟨b, off, none⟩ ∧ b < w.heap.size ∧ w.cell? ⟨b, off + i, none⟩ = some v ∧ IntsAt w v (ll.getD i []) := by
  obtain ⟨rfl, _, _⟩ := h.len
  obtain ⟨f, h1, h2⟩ := h
  obtain ⟨b, off, e, hb, hx⟩ := h1.get i hi
  exact ⟨b, off, f i, e, hb, hx, h2 i hi⟩
theorem RowsAt.take {w : World} {a : Option Addr} {n cap k : Nat} {ll : List (List Int)} (h : RowsAt w (.slice a n cap) ll) (hk : k ≤ ll.length) : RowsAt w (.slice a k cap) (ll.take k) := by
  obtain ⟨rfl, _, _⟩ := h.len
  obtain ⟨f, h1, h2⟩ := h
  have g := SliceAt.front h1 hk
  have hl : (ll.take k).length = k := by rw [List.length_take]; omega
  refine ⟨f, by rw [hl]; exact g, fun i hi => ?_⟩
  rw [hl] at hi
  have := h2 i (by omega)
  have e : (ll.take k).getD i [] = ll.getD i [] := by simp [hi]
  rw [e]; exact this
theorem IntsAt.drew {w w' : World} {v : Value} {l : List Int} (h : IntsAt w v l) (hd : Drew w w') : IntsAt w' v l := h.below (hd.below _)
theorem RowsAt.drew {w w' : World} {v : Value} {l : List (List Int)} (h : RowsAt w v l) (hd : Drew w w') : RowsAt w' v l := h.below (hd.below _)
end Go.Proofs.YtnecdeaikmhanaaGreatDoor
namespace Go.Proofs.YtnecdeaikmhanaaGreatDoor
set_option linter.unusedVariables false
abbrev Bs := List UInt8
def cutStep (c : UInt8) (out : List Bs) (b : UInt8) : List Bs := if b = c then out ++ [[]] else out.dropLast ++ [out.getLastD [] ++ [b]]
def cutC (c : UInt8) (s : Bs) : List Bs := s.foldl (cutStep c) [[]]
theorem cutC_snoc (c : UInt8) (s : Bs) (b : UInt8) : cutC c (s ++ [b]) = cutStep c (cutC c s) b := by unfold cutC; rw [List.foldl_append]; rfl
theorem cutStep_ne {c : UInt8} {out : List Bs} {b : UInt8} (h : out ≠ []) : cutStep c out b ≠ [] := by unfold cutStep; split <;> simp
theorem cutC_ne (c : UInt8) (s : Bs) : cutC c s ≠ [] := by
  unfold cutC
  have : ∀ (s : Bs) (out : List Bs), out ≠ [] → s.foldl (cutStep c) out ≠ [] := by
    intro s
    induction s with
    | nil => intro out h; exact h
    | cons b t ih => intro out h; rw [List.foldl_cons]; exact ih _ (cutStep_ne h)
  exact this s _ (by simp)
def cutR (c : UInt8) : Bs → List Bs
  | [] => [[]]
  | b :: l => if b = c then [] :: cutR c l else match cutR c l with
    | [] => [[b]]
    | h :: t => (b :: h) :: t
theorem cutR_ne (c : UInt8) : ∀ s, cutR c s ≠ []
  | [] => by simp [cutR]
  | b :: l => by
    unfold cutR
    split
    · simp
    · split <;> simp
def gluE (out : List Bs) : List Bs → List Bs
  | [] => out
  | h :: t => out.dropLast ++ ((out.getLastD [] ++ h) :: t)
theorem getLastD_snoc (xs : List Bs) (x : Bs) : (xs ++ [x]).getLastD [] = x := by simp [List.getLastD_eq_getLast?]
theorem last_form {out : List Bs} (h : out ≠ []) : ∃ xs x, out = xs ++ [x] := ⟨_, _, (List.dropLast_concat_getLast h).symm⟩
theorem fold_glue (c : UInt8) : ∀ (s : Bs) (out : List Bs), out ≠ [] → s.foldl (cutStep c) out = gluE out (cutR c s)
  | [], out, h => by
    obtain ⟨xs, x, rfl⟩ := last_form h
    show xs ++ [x] = (xs ++ [x]).dropLast ++ (((xs ++ [x]).getLastD [] ++ []) :: [])
    rw [List.dropLast_concat, getLastD_snoc, List.append_nil]
  | b :: l, out, h => by
    rw [List.foldl_cons, fold_glue c l _ (cutStep_ne h)]
    obtain ⟨xs, x, rfl⟩ := last_form h
    unfold cutStep
    by_cases hb : b = c
    · rw [if_pos hb]
      have e : cutR c (b :: l) = [] :: cutR c l := by
        conv => lhs; unfold cutR
        rw [if_pos hb]
      rw [e]
      cases hR : cutR c l with
      | nil => exact absurd hR (cutR_ne c l)
      | cons h' t =>
        show (xs ++ [x] ++ [[]]).dropLast ++ (((xs ++ [x] ++ [[]]).getLastD [] ++ h') :: t) = (xs ++ [x]).dropLast ++ (((xs ++ [x]).getLastD [] ++ []) :: h' :: t)
        rw [List.dropLast_concat, getLastD_snoc, List.dropLast_concat, getLastD_snoc, List.append_nil, List.nil_append, List.append_assoc]
        rfl
    · rw [if_neg hb]
      cases hR : cutR c l with
      | nil => exact absurd hR (cutR_ne c l)
      | cons h' t =>
        have e : cutR c (b :: l) = (b :: h') :: t := by
          conv => lhs; unfold cutR
          rw [if_neg hb, hR]
        rw [e]
        show ((xs ++ [x]).dropLast ++ [(xs ++ [x]).getLastD [] ++ [b]]).dropLast ++ ((((xs ++ [x]).dropLast ++ [(xs ++ [x]).getLastD [] ++ [b]]).getLastD [] ++ h') :: t) = (xs ++ [x]).dropLast ++ (((xs ++ [x]).getLastD [] ++ (b :: h')) :: t)
        rw [List.dropLast_concat, getLastD_snoc, List.dropLast_concat, getLastD_snoc, List.append_assoc]
        rfl
theorem cutC_R (c : UInt8) (s : Bs) : cutC c s = cutR c s := by
  unfold cutC
  rw [fold_glue c s _ (by simp)]
  cases hR : cutR c s with
  | nil => exact absurd hR (cutR_ne c s)
  | cons h t => simp [gluE]
theorem split_R (c : UInt8) : ∀ s : Bs, Lib.split s [c] = cutR c s
  | [] => rfl
  | b :: l => by
    have ih := split_R c l
    unfold Lib.split at ih ⊢
    unfold cutR
    have hi : Lib.index (b :: l) [c] = if [c].isPrefixOf (b :: l) then 0 else if Lib.index l [c] == -1 then -1 else Lib.index l [c] + 1 := rfl
    by_cases hb : b = c
    · rw [if_pos hb, ← ih]
      subst hb
      rw [Lib.count_cons_eq, Nat.add_comm, Lib.splitK, hi]
      simp [List.isPrefixOf]
    · rw [if_neg hb, ← ih, Lib.count_cons_ne b c l hb]
      have hp : [c].isPrefixOf (b :: l) = false := by simp [List.isPrefixOf]; exact fun h => hb h.symm
      rw [hp] at hi
      cases hk : Lib.count l [c] with
      | zero => simp [Lib.splitK]
      | succ k =>
        have hge := Lib.index_ge l [c]
        by_cases h1 : Lib.index l [c] = -1
        · rw [Lib.splitK, Lib.splitK, hi, h1]; simp
        · obtain ⟨m, hm⟩ : ∃ m : Nat, Lib.index l [c] = m := ⟨(Lib.index l [c]).toNat, by omega⟩
          have e0 : ((m : Int) == -1) = false := beq_eq_false_iff_ne.2 (by omega)
          have e3 : ((m : Int) + 1 == -1) = false := beq_eq_false_iff_ne.2 (by omega)
          have hi2 : Lib.index (b :: l) [c] = (m : Int) + 1 := by rw [hi, hm, e0]; rfl
          have l1 : Lib.splitK [c] 0 (k + 1) (b :: l) = (b :: l).take (m + 1) :: Lib.splitK [c] 0 k (l.drop (m + 1)) := by
            rw [Lib.splitK, hi2, e3]
            have : ((m : Int) + 1).toNat = m + 1 := by omega
            rw [this]; rfl
          have l2 : Lib.splitK [c] 0 (k + 1) l = l.take m :: Lib.splitK [c] 0 k (l.drop (m + 1)) := by
            rw [Lib.splitK, hm, e0]
            have : ((m : Int)).toNat = m := by omega
            rw [this]; rfl
          rw [l1, l2]; rfl
theorem split_C (c : UInt8) (s : Bs) : Lib.split s [c] = cutC c s := by rw [split_R, cutC_R]
theorem cutR_line {c : UInt8} : ∀ {l s : Bs}, c ∉ l → cutR c (l ++ c :: s) = l :: cutR c s
  | [], s, _ => by simp [cutR]
  | b :: l, s, h => by
    have hb : b ≠ c := fun e => h (by rw [e]; exact List.mem_cons_self ..)
    rw [List.cons_append]
    conv => lhs; unfold cutR
    rw [if_neg hb, cutR_line (fun hm => h (List.mem_cons_of_mem _ hm))]
def isDg (b : UInt8) : Bool := decide (48 ≤ b.toNat) && decide (b.toNat ≤ 57)
def dgF (b : UInt8) : Int := (b.toNat : Int) - 48
def numTo (s : Bs) (i : Nat) : Int := (s.take i).foldl (fun n b => 10 * n + dgF b) 0
def numF (s : Bs) : Int := if 1 ≤ s.length ∧ s.length ≤ 3 ∧ s.all isDg = true then numTo s s.length else -1
theorem numTo_zero (s : Bs) : numTo s 0 = 0 := by simp [numTo]
theorem numTo_succ {s : Bs} {i : Nat} (hi : i < s.length) : numTo s (i + 1) = 10 * numTo s i + dgF (s.getD i 0) := by
  unfold numTo
  rw [List.take_add_one, List.getElem?_eq_getElem hi, Option.toList_some, List.foldl_append, List.getD_eq_getElem?_getD, List.getElem?_eq_getElem hi]
  rfl
theorem dgF_in {b : UInt8} (h : isDg b = true) : 0 ≤ dgF b ∧ dgF b ≤ 9 := by
  unfold isDg at h
  rw [Bool.and_eq_true, decide_eq_true_eq, decide_eq_true_eq] at h
  unfold dgF; omega
theorem numF_bad {s : Bs} {i : Nat} (hi : i < s.length) (h : isDg (s.getD i 0) = false) : numF s = -1 := by
  unfold numF
  rw [if_neg]
  rintro ⟨_, _, h3⟩
  rw [List.all_eq_true] at h3
  have := h3 (s.getD i 0) (by rw [List.getD_eq_getElem?_getD, List.getElem?_eq_getElem hi]; exact List.getElem_mem _)
  rw [h] at this
  cases this
theorem numF_long {s : Bs} (h : s.length < 1 ∨ 3 < s.length) : numF s = -1 := by
  unfold numF
  rw [if_neg]
  rintro ⟨_, _, _⟩
  omega
theorem numF_good {s : Bs} (h1 : 1 ≤ s.length) (h3 : s.length ≤ 3) (hd : ∀ i, i < s.length → isDg (s.getD i 0) = true) : numF s = numTo s s.length := by
  unfold numF
  rw [if_pos]
  refine ⟨h1, h3, ?_⟩
  rw [List.all_eq_true]
  intro x hx
  obtain ⟨i, hi, rfl⟩ := List.getElem_of_mem hx
  have := hd i hi
  rw [List.getD_eq_getElem?_getD, List.getElem?_eq_getElem hi] at this
  exact this
def decF (n : Nat) : Bs := if n < 10 then [UInt8.ofNat (48 + n)] else if n < 100 then [UInt8.ofNat (48 + n / 10), UInt8.ofNat (48 + n % 10)] else [UInt8.ofNat (48 + n / 100), UInt8.ofNat (48 + n / 10 % 10), UInt8.ofNat (48 + n % 10)]
theorem decDigits_dec {n : Nat} (h : n < 1000) : Lib.decDigits n = decF n := by
  unfold decF
  rw [Lib.decDigits]
  by_cases h1 : n < 10
  · rw [dif_pos h1, if_pos h1]
  · rw [dif_neg h1, if_neg h1, Lib.decDigits]
    by_cases h2 : n < 100
    · rw [dif_pos (by omega), if_pos h2]; rfl
    · rw [dif_neg (by omega), if_neg h2, Lib.decDigits, dif_pos (by omega), show n / 10 / 10 = n / 100 by omega]; rfl
theorem itoa_dec {n : Nat} (h : n < 1000) : Lib.itoa (n : Int) = decF n := by
  unfold Lib.itoa
  rw [if_neg (by omega), show ((n : Int)).toNat = n by omega, decDigits_dec h]
def rtextF (f b : Int) : Bs := decF f.toNat ++ 47 :: decF b.toNat
def in14 (x : Int) : Bool := decide (1 ≤ x) && decide (x ≤ 4)
theorem decF_len (n : Nat) : 1 ≤ (decF n).length ∧ (decF n).length ≤ 3 := by unfold decF; split <;> (try split) <;> simp
end Go.Proofs.YtnecdeaikmhanaaGreatDoor
namespace Go.Proofs.YtnecdeaikmhanaaGreatDoor
open Go.RowKit
set_option linter.unusedVariables false
def addrF (x : Int) : Bool := decide (0 ≤ x) && decide (x ≤ 255)
def sizeF (b : Int) : Int := 2 ^ (8 - b).toNat
def rangeOkF (f b : Int) : Bool := decide (0 ≤ b) && decide (b ≤ 8) && addrF f && decide (f % sizeF b = 0)
theorem isAddr_any (x : Int) (w : World) : Calls Tryz.prog 67 #[.int .i64 x] w fun e w' => e = .returned (.bool (addrF x)) ∧ Drew w w' := by
  obtain ⟨c, hc⟩ : ∃ c, addrF x = c := ⟨_, rfl⟩
  rw [hc]
  unfold addrF at hc
  by_cases h1 : 0 ≤ x
  · by_cases h2 : x ≤ 255
    · have : c = true := by rw [← hc]; simp [h1, h2]
      subst this
      clear hc
      go_enter Tryz.func67, Tryz.ntmps67
      go_wp2_with fail
      go_ret
      exact ⟨rfl, Drew.refl _⟩
    · have : c = false := by rw [← hc]; simp [h2]
      subst this
      clear hc
      go_enter Tryz.func67, Tryz.ntmps67
      go_wp2_with fail
      go_ret
      exact ⟨rfl, Drew.refl _⟩
  · have : c = false := by rw [← hc]; simp [h1]
    subst this
    clear hc
    have h1' : ¬ 0 ≤ x := h1
    go_enter Tryz.func67, Tryz.ntmps67
    go_wp2_with fail
    go_ret
    exact ⟨rfl, Drew.refl _⟩
theorem many_any (f b : Int) (h0 : 0 ≤ b) (h8 : b ≤ 8) (w : World) : Calls Tryz.prog 127 #[.agg #[.int .i64 f, .int .i64 b]] w fun e w' => e = .returned (.int .i64 (sizeF b)) ∧ Below w.heap.size w w' := by
  have hb : b = 0 ∨ b = 1 ∨ b = 2 ∨ b = 3 ∨ b = 4 ∨ b = 5 ∨ b = 6 ∨ b = 7 ∨ b = 8 := by omega
  rcases hb with rfl | rfl | rfl | rfl | rfl | rfl | rfl | rfl | rfl
  all_goals
    go_enter Tryz.func127, Tryz.ntmps127
    go_wp2_with fail
    go_ret
    exact ⟨by first | rfl | decide, by exact bw⟩
theorem sizeF_pos (b : Int) : 0 < sizeF b := by unfold sizeF; exact Int.pow_pos (by omega)
theorem sizeF_le (b : Int) (h0 : 0 ≤ b) : sizeF b ≤ 256 := by
  unfold sizeF
  have h : (8 - b).toNat ≤ 8 := by omega
  obtain ⟨k, hk⟩ : ∃ k, (8 - b).toNat = k := ⟨_, rfl⟩
  rw [hk] at h ⊢
  match k, h with
  | 0, _ => decide
  | 1, _ => decide
  | 2, _ => decide
  | 3, _ => decide
  | 4, _ => decide
  | 5, _ => decide
  | 6, _ => decide
  | 7, _ => decide
  | 8, _ => decide
set_option maxHeartbeats 2000000 in
theorem rangeOk_any (f b : Int) (w : World) : Calls Tryz.prog 92 #[.agg #[.int .i64 f, .int .i64 b]] w fun e w' => e = .returned (.bool (rangeOkF f b)) ∧ Below w.heap.size w w' := by
  obtain ⟨c, hc⟩ : ∃ c, rangeOkF f b = c := ⟨_, rfl⟩
  rw [hc]
  obtain ⟨d, hd⟩ : ∃ d, addrF f = d := ⟨_, rfl⟩
  have had : ∀ W, Calls Tryz.prog 67 #[.int .i64 f] W fun e w' => e = .returned (.bool d) ∧ Drew W w' := fun W => by rw [← hd]; exact isAddr_any f W
  unfold rangeOkF at hc
  rw [hd] at hc
  have HAD := Lib.hid had
  have HD := Lib.hid hd
  clear had hd
  by_cases h0 : 0 ≤ b
  · by_cases h8 : b ≤ 8
    · cases d
      · have : c = false := by rw [← hc]; simp
        subst this
        clear hc
        go_enter Tryz.func92, Tryz.ntmps92
        go_wp2_with fail
        go_quiet ((go_at_call 67; (first | refine quietA (HAD.out _) | refine quietB (HAD.out _))))
        go_wp2_with fail
        go_ret
        exact ⟨rfl, by exact bw⟩
      · have hm := fun W => many_any f b h0 h8 W
        have hp := sizeF_pos b
        have hl := sizeF_le b h0
        obtain ⟨S, hS⟩ : ∃ S, sizeF b = S := ⟨_, rfl⟩
        rw [hS] at hm hp hl hc
        have ha : 0 ≤ f ∧ f ≤ 255 := by have := HD.out; unfold addrF at this; simp at this; exact this
        have hc2 : c = (f % S == 0) := by rw [← hc]; simp [h0, h8]; rfl
        have HM := Lib.hid hm
        have HC := Lib.hid hc2
        have hne : S ≠ 0 := by omega
        have htm : f.tmod S = f % S := Int.tmod_eq_emod_of_nonneg ha.1
        obtain ⟨a1, a2⟩ := ha
        clear hc hm hS hc2
        go_enter Tryz.func92, Tryz.ntmps92
        go_wp2_with fail
        go_region_held3 (fun w' => w'.cell? ⟨w.heap.size, 0, none⟩ = some (.int .i64 f) ∧ w'.cell? ⟨w.heap.size, 1, none⟩ = some (.int .i64 b)) ((simp [go_sem, *])) (first | (go_at_call 67; refine (HAD.out _).mono ?_; rintro e w1 ⟨rfl, q, rfl⟩) | (go_at_call 127; refine (HM.out _).mono ?_; rintro e w2 ⟨rfl, hb2⟩; have hc2 := (hb2.cell (p := ⟨w.heap.size, 0, none⟩) (by simp)); have hc3 := (hb2.cell (p := ⟨w.heap.size, 1, none⟩) (by simp)); have hB : Below w.heap.size w w2 := (by refine Below.trans ?_ (hb2.mono (by first | exact Nat.le_refl _ | omega | (simp; done) | (simp; omega))); exact bw); clear hb2))
        all_goals
          go_wp2_with fail
          go_ret
          exact ⟨by rw [HC.out]; rfl, hB⟩
    · have : c = false := by rw [← hc]; simp [h8]
      subst this
      clear hc
      have h8' : decide (b ≤ 8) = false := decide_eq_false h8
      go_enter Tryz.func92, Tryz.ntmps92
      go_wp2_with fail
      go_quiet (fail)
      go_wp2_with fail
      go_ret
      exact ⟨rfl, by exact bw⟩
  · have : c = false := by rw [← hc]; simp [h0]
    subst this
    clear hc
    have h0' : decide (0 ≤ b) = false := decide_eq_false h0
    go_enter Tryz.func92, Tryz.ntmps92
    go_wp2_with fail
    go_quiet (fail)
    go_wp2_with fail
    go_ret
    exact ⟨rfl, by exact bw⟩
end Go.Proofs.YtnecdeaikmhanaaGreatDoor
namespace Go.Proofs.YtnecdeaikmhanaaGreatDoor
open Go.RowKit
set_option linter.unusedVariables false
theorem ret_b {a b : Bool} (h : a = b) : Ending.returned (.bool a) = Ending.returned (.bool b) := by rw [h]
set_option maxHeartbeats 400000 in
theorem in_any (n lo hi : Int) (w : World) :
    Calls Tryz.prog 41 #[.int .i64 n, .int .i64 lo, .int .i64 hi] w fun e w' => e = .returned (.bool (decide (lo ≤ n) && decide (n ≤ hi))) ∧ w' = w := by
  go_enter Tryz.func41, Tryz.ntmps41
  go_wp2
  all_goals
    go_ret
    refine ⟨ret_b ?_, rfl⟩
    simp [*] <;> omega
theorem half_size (k : Nat) (hk : k < 8) : (2 : Int) ^ (8 - k) / 2 = 2 ^ (8 - (k + 1)) := by
  match k, hk with
  | 0, _ => decide
  | 1, _ => decide
  | 2, _ => decide
  | 3, _ => decide
  | 4, _ => decide
  | 5, _ => decide
  | 6, _ => decide
  | 7, _ => decide
theorem pow_bd (k : Nat) (hk : k ≤ 8) : 1 ≤ (2 : Int) ^ (8 - k) ∧ (2 : Int) ^ (8 - k) ≤ 256 := by
  match k, hk with
  | 0, _ => decide
  | 1, _ => decide
  | 2, _ => decide
  | 3, _ => decide
  | 4, _ => decide
  | 5, _ => decide
  | 6, _ => decide
  | 7, _ => decide
  | 8, _ => decide
set_option maxHeartbeats 1000000 in
theorem l1Size_any (b : Int) (h0 : 0 ≤ b) (h8 : b ≤ 8) (w : World) : Calls Tryz.prog 147 #[.int .i64 b] w fun e w' => e = .returned (.int .i64 (sizeF b)) ∧ w' = w := by
  obtain ⟨n, rfl⟩ : ∃ n : Nat, b = (n : Int) := ⟨b.toNat, by omega⟩
  have hn : n ≤ 8 := by omega
  have hs : sizeF (n : Int) = 2 ^ (8 - n) := by unfold sizeF; rw [show (8 - (n : Int)).toNat = 8 - n by omega]
  rw [hs]
  go_enter Tryz.func147, Tryz.ntmps147
  go_wp2_with fail
  go_loopg [3, 4] n (fun g s i wr => ∃ (k : Nat) (x : Int), i = .int .i64 (k : Int) ∧ k + g = n ∧ s = .int .i64 x ∧ Hid (x = 2 ^ (8 - k)) ∧ 1 ≤ x ∧ x ≤ 256 ∧ wr = w)
  case atStart => exact ⟨0, 256, rfl, by omega, rfl, Lib.hid (by decide), by omega, by omega, rfl⟩
  case round =>
    obtain ⟨k, x, rfl, hk, rfl, hx, hx1, hx2, rfl⟩ := hrel
    by_cases hg : gk = 0
    · subst hg
      obtain rfl : k = n := by omega
      go_wp2_with fail
      go_ret
      exact ⟨by rw [hx.out]; rfl, rfl⟩
    · have hkn : k < n := by omega
      have hkI : (k : Int) < (n : Int) := by omega
      have hgk : 1 ≤ gk := by omega
      have hh := half_size k (by omega)
      have hb := pow_bd (k + 1) (by omega)
      have ht : x.tdiv 2 = x / 2 := Int.tdiv_eq_ediv_of_nonneg (by omega)
      have hx' : x / 2 = 2 ^ (8 - (k + 1)) := by rw [hx.out]; exact hh
      have HX := Lib.hid hx'
      have HK := Lib.hid hk
      obtain ⟨y, hy⟩ : ∃ y, x / 2 = y := ⟨_, rfl⟩
      have hyb : 1 ≤ y ∧ y ≤ 256 := by rw [← hy, hx']; exact hb
      have HY := Lib.hid hy
      clear hh hb hx' hk hg
      obtain ⟨y1, y2⟩ := hyb
      go_wp2_with fail
      go_roundg (gk - 1)
      case measure => omega
      case rel => exact ⟨k + 1, y, by go_num, by have := HK.out; omega, rfl, Lib.hid (by rw [← HY.out]; exact HX.out), y1, y2, rfl⟩
def cmpI (x y : Int) : Int := if x < y then -1 else if y < x then 1 else 0
def rcmpF (f b f2 b2 : Int) : Int := if cmpI f f2 ≠ 0 then cmpI f f2 else cmpI b b2
theorem isNaN_any (x : Int) (w : World) : Calls Tryz.prog 128 #[.int .i64 x] w fun e w' => e = .returned (.bool false) ∧ w' = w := by
  have hx : (x != x) = false := by simp
  go_enter Tryz.func128, Tryz.ntmps128
  go_wp2_with fail
  go_ret
  exact ⟨rfl, rfl⟩
theorem compare_any (x y : Int) (w : World) : Calls Tryz.prog 94 #[.int .i64 x, .int .i64 y] w fun e w' => e = .returned (.int .i64 (cmpI x y)) ∧ w' = w := by
  obtain ⟨c, hc⟩ : ∃ c, cmpI x y = c := ⟨_, rfl⟩
  rw [hc]
  unfold cmpI at hc
  have HX := Lib.hid fun W => isNaN_any x W
  have HY := Lib.hid fun W => isNaN_any y W
  by_cases h1 : x < y
  · rw [if_pos h1] at hc
    subst hc
    go_enter Tryz.func94, Tryz.ntmps94
    go_wp2_with (first | (go_at_call_of 128 (Value.int IntKind.i64 x); refine (HX.out _).mono ?_; rintro e w' ⟨rfl, rfl⟩) | (go_at_call_of 128 (Value.int IntKind.i64 y); refine (HY.out _).mono ?_; rintro e w' ⟨rfl, rfl⟩))
    go_ret
    exact ⟨rfl, rfl⟩
  · rw [if_neg h1] at hc
    by_cases h2 : y < x
    · rw [if_pos h2] at hc
      subst hc
      go_enter Tryz.func94, Tryz.ntmps94
      go_wp2_with (first | (go_at_call_of 128 (Value.int IntKind.i64 x); refine (HX.out _).mono ?_; rintro e w' ⟨rfl, rfl⟩) | (go_at_call_of 128 (Value.int IntKind.i64 y); refine (HY.out _).mono ?_; rintro e w' ⟨rfl, rfl⟩))
      go_ret
      exact ⟨rfl, rfl⟩
    · rw [if_neg h2] at hc
      subst hc
      go_enter Tryz.func94, Tryz.ntmps94
      go_wp2_with (first | (go_at_call_of 128 (Value.int IntKind.i64 x); refine (HX.out _).mono ?_; rintro e w' ⟨rfl, rfl⟩) | (go_at_call_of 128 (Value.int IntKind.i64 y); refine (HY.out _).mono ?_; rintro e w' ⟨rfl, rfl⟩))
      go_ret
      exact ⟨rfl, rfl⟩
theorem or_any (v : Value) (x y : Int) (w : World) (h : IntsAt w v [x, y]) : Calls Tryz.prog 93 #[v] w fun e w' => e = .returned (.int .i64 (if x ≠ 0 then x else y)) ∧ w' = w := by
  obtain ⟨a, cap, rfl, hc, hm⟩ := h.form
  obtain ⟨b, off, rfl, hb, hx0⟩ := h.get 0 (by simp)
  obtain ⟨b', off', e, _, hx1⟩ := h.get 1 (by simp)
  simp only [Option.some.injEq, Addr.mk.injEq] at e
  obtain ⟨rfl, rfl, _⟩ := e
  have hx0' : w.cell? ⟨b, off, none⟩ = some (.int .i64 x) := by simpa using hx0
  have hx1' : w.cell? ⟨b, off + 1, none⟩ = some (.int .i64 y) := by simpa using hx1
  clear h hx0 hx1
  obtain ⟨c, hc0⟩ : ∃ c, (if x ≠ 0 then x else y) = c := ⟨_, rfl⟩
  rw [hc0]
  go_enter Tryz.func93, Tryz.ntmps93
  go_wp2_with fail
  go_loopg [8] 2 (fun g i wr => ∃ k : Nat, i = .int .i64 (k : Int) ∧ k + g = 2 ∧ (0 < k → x = 0) ∧ (1 < k → y = 0) ∧ wr = w)
  case atStart => exact ⟨0, rfl, by omega, by omega, by omega, rfl⟩
  case round =>
    obtain ⟨k, rfl, hk, h0, h1, rfl⟩ := hrel
    have hk3 : k = 0 ∨ k = 1 ∨ k = 2 := by omega
    rcases hk3 with rfl | rfl | rfl
    · by_cases hx : x = 0
      · subst hx
        go_wp2_with fail
        go_roundg (gk - 1)
        case measure => omega
        case rel => exact ⟨1, by go_num, by omega, by simp, by omega, rfl⟩
      · have hxb : (x != 0) = true := by simp [hx]
        rw [if_pos hx] at hc0
        subst hc0
        clear hx
        go_wp2_with fail
        go_ret
        exact ⟨rfl, rfl⟩
    · have hx := h0 (by omega)
      subst hx
      rw [if_neg (by simp)] at hc0
      subst hc0
      by_cases hy : y = 0
      · subst hy
        go_wp2_with fail
        go_roundg (gk - 1)
        case measure => omega
        case rel => exact ⟨2, by go_num, by omega, by simp, by simp, rfl⟩
      · have hyb : (y != 0) = true := by simp [hy]
        clear hy
        go_wp2_with fail
        go_ret
        exact ⟨rfl, rfl⟩
    · have hx := h0 (by omega)
      have hy := h1 (by omega)
      subst hx
      subst hy
      rw [if_neg (by simp)] at hc0
      subst hc0
      go_wp2_with fail
      go_ret
      exact ⟨rfl, rfl⟩
theorem rcmpF_or (f b f2 b2 : Int) : (if cmpI f f2 ≠ 0 then cmpI f f2 else cmpI b b2) = rcmpF f b f2 b2 := rfl
theorem ints_two (w : World) (x y : Int) : IntsAt (w.alloc (.cells #[.int .i64 x, .int .i64 y] 3)) (.slice (some ⟨w.heap.size, 0, none⟩) 2 2) [x, y] := by
  refine ⟨_, _, rfl, Nat.le_refl _, by unfold maxLen; omega, .inr ⟨w.heap.size, 0, rfl, by simp, fun i hi => ?_⟩⟩
  rw [Nat.zero_add, cell_of_row _ _ _ #[.int .i64 x, .int .i64 y] 3 (0, 0) (heap_alloc_new w _)]
  match i, hi with
  | 0, _ => rfl
  | 1, _ => rfl
set_option maxHeartbeats 4000000 in
theorem rangeCmp_any (f b f2 b2 : Int) (h1 : rangeOkF f b = true) (h2 : rangeOkF f2 b2 = true) (w : World) :
    Calls Tryz.prog 59 #[.agg #[.int .i64 f, .int .i64 b], .agg #[.int .i64 f2, .int .i64 b2]] w fun e w' => e = .returned (.int .i64 (rcmpF f b f2 b2)) ∧ Below w.heap.size w w' := by
  have hk1 := fun W => rangeOk_any f b W
  have hk2 := fun W => rangeOk_any f2 b2 W
  rw [h1] at hk1
  rw [h2] at hk2
  obtain ⟨c1, hc1⟩ : ∃ c, cmpI f f2 = c := ⟨_, rfl⟩
  obtain ⟨c2, hc2⟩ : ∃ c, cmpI b b2 = c := ⟨_, rfl⟩
  have hp1 := fun W => compare_any f f2 W
  have hp2 := fun W => compare_any b b2 W
  rw [hc1] at hp1
  rw [hc2] at hp2
  obtain ⟨R, hR⟩ : ∃ R, rcmpF f b f2 b2 = R := ⟨_, rfl⟩
  have hor : ∀ (W W' : World), Drew (W.alloc (.cells #[.int .i64 c1, .int .i64 c2] 3)) W' → Calls Tryz.prog 93 #[.slice (some ⟨W.heap.size, 0, none⟩) 2 2] W' fun e w' => e = .returned (.int .i64 R) ∧ w' = W' := fun W W' hW => by
    have := or_any _ c1 c2 W' ((ints_two W c1 c2).drew hW)
    rw [← hc1, ← hc2, rcmpF_or, hR] at this
    exact this
  rw [hR]
  have HK1 := Lib.hid hk1
  have HK2 := Lib.hid hk2
  have HP1 := Lib.hid hp1
  have HP2 := Lib.hid hp2
  have HOR := Lib.hid hor
  clear h1 h2 hk1 hk2 hc1 hc2 hp1 hp2 hor hR
  go_enter Tryz.func59, Tryz.ntmps59
  go_wp2_with fail
  refine (HK1.out _).mono ?_
  rintro e w1 ⟨rfl, hb1⟩
  have B1 : Below w.heap.size w w1 := by refine Below.trans ?_ (hb1.mono (by first | exact Nat.le_refl _ | omega | (simp; done) | (simp; omega))); exact bw
  have k0 := (hb1.cell (p := ⟨w.heap.size, 0, none⟩) (by simp; omega))
  have k1 := (hb1.cell (p := ⟨w.heap.size, 1, none⟩) (by simp; omega))
  have k2 := (hb1.cell (p := ⟨w.heap.size + 1, 0, none⟩) (by simp))
  have k3 := (hb1.cell (p := ⟨w.heap.size + 1, 1, none⟩) (by simp))
  have z1 := hb1.size
  simp [go_sem] at k0 k1 k2 k3 z1
  clear hb1
  go_wp2_with fail
  refine (HK2.out _).mono ?_
  rintro e w2 ⟨rfl, hb2⟩
  have B2 := B1.trans (hb2.mono B1.size)
  have m0 := (hb2.cell (p := ⟨w.heap.size, 0, none⟩) (by simp; omega)).trans k0
  have m1 := (hb2.cell (p := ⟨w.heap.size, 1, none⟩) (by simp; omega)).trans k1
  have m2 := (hb2.cell (p := ⟨w.heap.size + 1, 0, none⟩) (by simp; omega)).trans k2
  have m3 := (hb2.cell (p := ⟨w.heap.size + 1, 1, none⟩) (by simp; omega)).trans k3
  have hs2 : w.heap.size + 1 < w2.heap.size := by have := hb2.size; omega
  have hs3 : w.heap.size < w2.heap.size := by omega
  clear hb2 k0 k1 k2 k3 z1 B1
  go_wp2_with fail
  go_region_held3 (fun w' => w'.cell? ⟨w.heap.size, 0, none⟩ = some (.int .i64 f) ∧ w'.cell? ⟨w.heap.size, 1, none⟩ = some (.int .i64 b) ∧ w'.cell? ⟨w.heap.size + 1, 0, none⟩ = some (.int .i64 f2) ∧ w'.cell? ⟨w.heap.size + 1, 1, none⟩ = some (.int .i64 b2)) ((simp [go_sem, *] <;> omega)) (first | (go_at_call_of 94 (Value.int IntKind.i64 f); refine (HP1.out _).mono ?_; rintro e w3 ⟨rfl, rfl⟩) | (go_at_call_of 94 (Value.int IntKind.i64 b); refine (HP2.out _).mono ?_; rintro e w3 ⟨rfl, rfl⟩) | (go_at_call 93; refine (HOR.out w2 _ (by first | exact Drew.refl _ | exact ⟨1, rfl⟩)).mono ?_; rintro e w4 ⟨rfl, rfl⟩))
  all_goals
    go_wp2_with fail
    go_ret
    exact ⟨rfl, by exact bw⟩
end Go.Proofs.YtnecdeaikmhanaaGreatDoor
namespace Go.Proofs.YtnecdeaikmhanaaGreatDoor
open Go.RowKit
set_option linter.unusedVariables false
set_option maxHeartbeats 2000000 in
theorem specRangeOk_any (f b : Int) (w : World) : Calls Tryz.prog 111 #[.agg #[.int .i64 f, .int .i64 b]] w fun e w' => e = .returned (.bool (rangeOkF f b)) ∧ Below w.heap.size w w' := by
  obtain ⟨c, hc⟩ : ∃ c, rangeOkF f b = c := ⟨_, rfl⟩
  rw [hc]
  obtain ⟨d1, hd1⟩ : ∃ d, (decide (0 ≤ b) && decide (b ≤ 8)) = d := ⟨_, rfl⟩
  obtain ⟨d2, hd2⟩ : ∃ d, (decide (0 ≤ f) && decide (f ≤ 255)) = d := ⟨_, rfl⟩
  have hi1 : ∀ W, Calls Tryz.prog 41 #[.int .i64 b, .int .i64 0, .int .i64 8] W fun e w' => e = .returned (.bool d1) ∧ Drew W w' := fun W => by
    rw [← hd1]; exact (in_any b 0 8 W).mono fun e w' ⟨h1, h2⟩ => ⟨h1, by rw [h2]; exact Drew.refl _⟩
  have hi2 : ∀ W, Calls Tryz.prog 41 #[.int .i64 f, .int .i64 0, .int .i64 255] W fun e w' => e = .returned (.bool d2) ∧ Drew W w' := fun W => by
    rw [← hd2]; exact (in_any f 0 255 W).mono fun e w' ⟨h1, h2⟩ => ⟨h1, by rw [h2]; exact Drew.refl _⟩
  unfold rangeOkF addrF at hc
  rw [hd1, hd2] at hc
  have HI1 := Lib.hid hi1
  have HI2 := Lib.hid hi2
  clear hi1 hi2
  cases d1
  · have : c = false := by rw [← hc]; simp
    subst this
    clear hc hd1 hd2
    go_enter Tryz.func111, Tryz.ntmps111
    go_wp2_with fail
    go_quiet ((go_at_call_of 41 (Value.int IntKind.i64 b); (first | refine quietA (HI1.out _) | refine quietB (HI1.out _))))
    go_wp2_with fail
    go_ret
    exact ⟨rfl, by exact bw⟩
  · cases d2
    · have : c = false := by rw [← hc]; simp
      subst this
      clear hc hd1 hd2
      go_enter Tryz.func111, Tryz.ntmps111
      go_wp2_with fail
      go_quiet ((first | (go_at_call_of 41 (Value.int IntKind.i64 b); (first | refine quietA (HI1.out _) | refine quietB (HI1.out _))) | (go_at_call_of 41 (Value.int IntKind.i64 f); (first | refine quietA (HI2.out _) | refine quietB (HI2.out _)))))
      go_wp2_with fail
      go_ret
      exact ⟨rfl, by exact bw⟩
    · have hb : 0 ≤ b ∧ b ≤ 8 := by simp at hd1; exact hd1
      have ha : 0 ≤ f ∧ f ≤ 255 := by simp at hd2; exact hd2
      have hp := sizeF_pos b
      have hl := sizeF_le b hb.1
      have hsz : ∀ W, Calls Tryz.prog 147 #[.int .i64 b] W fun e w' => e = .returned (.int .i64 (sizeF b)) ∧ Drew W w' := fun W => (l1Size_any b hb.1 hb.2 W).mono fun e w' ⟨h1, h2⟩ => ⟨h1, by rw [h2]; exact Drew.refl _⟩
      obtain ⟨S, hS⟩ : ∃ S, sizeF b = S := ⟨_, rfl⟩
      rw [hS] at hsz hp hl hc
      have hc2 : c = (f % S == 0) := by rw [← hc]; simp; rfl
      have HS := Lib.hid hsz
      have HC := Lib.hid hc2
      have hne : S ≠ 0 := by omega
      have htm : f.tmod S = f % S := Int.tmod_eq_emod_of_nonneg ha.1
      obtain ⟨a1, a2⟩ := ha
      clear hc hd1 hd2 hsz hS hc2 hb
      go_enter Tryz.func111, Tryz.ntmps111
      go_wp2_with fail
      go_quiet ((first | (go_at_call_of 41 (Value.int IntKind.i64 b); (first | refine quietA (HI1.out _) | refine quietB (HI1.out _))) | (go_at_call_of 41 (Value.int IntKind.i64 f); (first | refine quietA (HI2.out _) | refine quietB (HI2.out _))) | (go_at_call 147; (first | refine quietA (HS.out _) | refine quietB (HS.out _)))))
      go_wp2_with fail
      go_ret
      exact ⟨by rw [HC.out]; rfl, by exact bw⟩
theorem l1Cmp_any (f b f2 b2 : Int) (w : World) :
    Calls Tryz.prog 75 #[.agg #[.int .i64 f, .int .i64 b], .agg #[.int .i64 f2, .int .i64 b2]] w fun e w' => e = .returned (.int .i64 (rcmpF f b f2 b2)) ∧ Below w.heap.size w w' := by
  obtain ⟨c, hc⟩ : ∃ c, rcmpF f b f2 b2 = c := ⟨_, rfl⟩
  rw [hc]
  unfold rcmpF cmpI at hc
  by_cases h1 : f < f2
  · have : c = -1 := by rw [← hc]; simp [h1]
    subst this
    clear hc
    go_enter Tryz.func75, Tryz.ntmps75
    go_wp2_with fail
    go_ret
    exact ⟨rfl, by exact bw⟩
  · by_cases h2 : f2 < f
    · have : c = 1 := by rw [← hc]; simp [h1, h2]
      subst this
      clear hc
      go_enter Tryz.func75, Tryz.ntmps75
      go_wp2_with fail
      go_ret
      exact ⟨rfl, by exact bw⟩
    · by_cases h3 : b < b2
      · have : c = -1 := by rw [← hc]; simp [h1, h2, h3]
        subst this
        clear hc
        go_enter Tryz.func75, Tryz.ntmps75
        go_wp2_with fail
        go_ret
        exact ⟨rfl, by exact bw⟩
      · by_cases h4 : b2 < b
        · have : c = 1 := by rw [← hc]; simp [h1, h2, h3, h4]
          subst this
          clear hc
          go_enter Tryz.func75, Tryz.ntmps75
          go_wp2_with fail
          go_ret
          exact ⟨rfl, by exact bw⟩
        · have : c = 0 := by rw [← hc]; simp [h1, h2, h3, h4]
          subst this
          clear hc
          go_enter Tryz.func75, Tryz.ntmps75
          go_wp2_with fail
          go_ret
          exact ⟨rfl, by exact bw⟩
def hasF (f b x : Int) : Bool := decide (x / sizeF b = f / sizeF b)
set_option maxHeartbeats 2000000 in
theorem l1Has_any (f b x : Int) (h0 : 0 ≤ b) (h8 : b ≤ 8) (hf : 0 ≤ f) (hf2 : f ≤ 255) (hx : 0 ≤ x) (hx2 : x ≤ 255) (w : World) :
    Calls Tryz.prog 118 #[.agg #[.int .i64 f, .int .i64 b], .int .i64 x] w fun e w' => e = .returned (.bool (hasF f b x)) ∧ Below w.heap.size w w' := by
  have hp := sizeF_pos b
  have hl := sizeF_le b h0
  have hsz : ∀ W, Calls Tryz.prog 147 #[.int .i64 b] W fun e w' => e = .returned (.int .i64 (sizeF b)) ∧ Drew W w' := fun W => (l1Size_any b h0 h8 W).mono fun e w' ⟨h1, h2⟩ => ⟨h1, by rw [h2]; exact Drew.refl _⟩
  obtain ⟨c, hc⟩ : ∃ c, hasF f b x = c := ⟨_, rfl⟩
  rw [hc]
  unfold hasF at hc
  obtain ⟨S, hS⟩ : ∃ S, sizeF b = S := ⟨_, rfl⟩
  rw [hS] at hsz hp hl hc
  have HS := Lib.hid hsz
  have hc2 : c = (x / S == f / S) := by rw [← hc]; rfl
  have HC := Lib.hid hc2
  have hne : S ≠ 0 := by omega
  have ht1 : x.tdiv S = x / S := Int.tdiv_eq_ediv_of_nonneg hx
  have ht2 : f.tdiv S = f / S := Int.tdiv_eq_ediv_of_nonneg hf
  have hb1 : 0 ≤ x / S ∧ x / S ≤ 255 := ⟨Int.ediv_nonneg hx (by omega), by have := Int.ediv_le_self S hx; omega⟩
  have hb2 : 0 ≤ f / S ∧ f / S ≤ 255 := ⟨Int.ediv_nonneg hf (by omega), by have := Int.ediv_le_self S hf; omega⟩
  obtain ⟨xq, hxq⟩ : ∃ q, x / S = q := ⟨_, rfl⟩
  obtain ⟨fq, hfq⟩ : ∃ q, f / S = q := ⟨_, rfl⟩
  rw [hxq] at ht1 hb1
  rw [hfq] at ht2 hb2
  have HXQ := Lib.hid hxq
  have HFQ := Lib.hid hfq
  have w1 : IntKind.i64.wrap xq = xq := IntWalk.i64_in _ (by omega)
  have w2 : IntKind.i64.wrap fq = fq := IntWalk.i64_in _ (by omega)
  clear hc hS hsz hc2 hxq hfq h0 h8
  go_enter Tryz.func118, Tryz.ntmps118
  go_wp2_with fail
  go_quiet ((go_at_call 147; (first | refine quietA (HS.out _) | refine quietB (HS.out _))))
  go_wp2_with fail
  go_ret
  exact ⟨by rw [HC.out, HXQ.out, HFQ.out]; rfl, by exact bw⟩
end Go.Proofs.YtnecdeaikmhanaaGreatDoor
namespace Go.Proofs.YtnecdeaikmhanaaGreatDoor
set_option linter.unusedVariables false
def rreadF (s : Bs) : Option (Int × Int) := (List.range 256).findSome? fun (f : Nat) => (List.range 9).findSome? fun (b : Nat) => if rangeOkF f b = true ∧ s = rtextF f b then some ((f : Int), (b : Int)) else none
theorem rread_some {s : Bs} {f b : Nat} (hf : f < 256) (hb : b < 9) (h : rangeOkF f b = true) (hs : s = rtextF f b) : ∃ f' b' : Nat, rreadF s = some ((f' : Int), (b' : Int)) ∧ rangeOkF f' b' = true ∧ s = rtextF f' b' ∧ f' < 256 ∧ b' < 9 := by
  unfold rreadF
  cases hR : (List.range 256).findSome? fun (f : Nat) => (List.range 9).findSome? fun (b : Nat) => if rangeOkF f b = true ∧ s = rtextF f b then some ((f : Int), (b : Int)) else none with
  | none =>
    rw [List.findSome?_eq_none_iff] at hR
    have h1 := hR f (List.mem_range.2 hf)
    rw [List.findSome?_eq_none_iff] at h1
    have h2 := h1 b (List.mem_range.2 hb)
    rw [if_pos ⟨h, hs⟩] at h2
    cases h2
  | some x =>
    obtain ⟨f', hf', h1⟩ := List.exists_of_findSome?_eq_some hR
    obtain ⟨b', hb', h2⟩ := List.exists_of_findSome?_eq_some h1
    split at h2
    · rename_i hc
      cases h2
      exact ⟨f', b', rfl, hc.1, hc.2, List.mem_range.1 hf', List.mem_range.1 hb'⟩
    · cases h2
theorem rread_none {s : Bs} (h : ∀ f b : Nat, f < 256 → b < 9 → rangeOkF f b = true → s ≠ rtextF f b) : rreadF s = none := by
  unfold rreadF
  rw [List.findSome?_eq_none_iff]
  intro f hf
  rw [List.findSome?_eq_none_iff]
  intro b hb
  rw [if_neg]
  rintro ⟨h1, h2⟩
  exact h f b (List.mem_range.1 hf) (List.mem_range.1 hb) h1 h2
theorem dg_nat {n : Nat} (h : n < 10) : (UInt8.ofNat (48 + n)).toNat = 48 + n := by
  rw [UInt8.toNat_ofNat']
  omega
theorem decF_dg {n : Nat} (h : n < 1000) : ∀ x, x ∈ decF n → isDg x = true := by
  intro x hx
  unfold decF at hx
  have key : ∀ m, m < 10 → isDg (UInt8.ofNat (48 + m)) = true := fun m hm => by
    unfold isDg
    rw [dg_nat hm, decide_eq_true (by omega), decide_eq_true (by omega)]; rfl
  split at hx
  · rw [List.mem_singleton] at hx; subst hx; exact key _ (by omega)
  · split at hx
    · rcases List.mem_cons.1 hx with rfl | hx
      · exact key _ (by omega)
      · rw [List.mem_singleton] at hx; subst hx; exact key _ (by omega)
    · rcases List.mem_cons.1 hx with rfl | hx
      · exact key _ (by omega)
      · rcases List.mem_cons.1 hx with rfl | hx
        · exact key _ (by omega)
        · rw [List.mem_singleton] at hx; subst hx; exact key _ (by omega)
theorem numF_dec {n : Nat} (h : n < 1000) : numF (decF n) = n := by
  obtain ⟨h1, h3⟩ := decF_len n
  unfold numF
  rw [if_pos ⟨h1, h3, by rw [List.all_eq_true]; exact decF_dg h⟩]
  unfold numTo decF dgF
  split
  · simp only [List.length_cons, List.length_nil, List.take, List.foldl_cons, List.foldl_nil]
    rw [dg_nat (by omega)]; omega
  · split
    · simp only [List.length_cons, List.length_nil, List.take, List.foldl_cons, List.foldl_nil]
      rw [dg_nat (by omega), dg_nat (by omega)]; omega
    · simp only [List.length_cons, List.length_nil, List.take, List.foldl_cons, List.foldl_nil]
      rw [dg_nat (by omega), dg_nat (by omega), dg_nat (by omega)]; omega
theorem decF_inj {m n : Nat} (hm : m < 1000) (hn : n < 1000) (h : decF m = decF n) : m = n := by
  have h1 := numF_dec hm
  rw [h, numF_dec hn] at h1
  omega
theorem stroke_split {a b c d : Bs} (ha : (47 : UInt8) ∉ a) (hc : (47 : UInt8) ∉ c) (h : a ++ 47 :: b = c ++ 47 :: d) : a = c ∧ b = d := by
  induction a generalizing c with
  | nil =>
    cases c with
    | nil => simpa using h
    | cons x t => simp at h; exact absurd (by rw [← h.1]; exact List.mem_cons_self ..) hc
  | cons x t ih =>
    cases c with
    | nil => simp at h; exact absurd (by rw [h.1]; exact List.mem_cons_self ..) ha
    | cons y u =>
      simp at h
      obtain ⟨e1, e2⟩ := ih (fun hm => ha (List.mem_cons_of_mem _ hm)) (fun hm => hc (List.mem_cons_of_mem _ hm)) h.2
      exact ⟨by rw [h.1, e1], e2⟩
theorem dec_no47 {n : Nat} (h : n < 1000) : (47 : UInt8) ∉ decF n := fun hm => by
  have := decF_dg h 47 hm
  revert this; decide
theorem rtext_inj {f b f' b' : Nat} (h1 : f < 256) (h2 : b < 9) (h3 : f' < 256) (h4 : b' < 9) (h : rtextF f b = rtextF f' b') : f = f' ∧ b = b' := by
  unfold rtextF at h
  obtain ⟨e1, e2⟩ := stroke_split (dec_no47 (by omega)) (dec_no47 (by omega)) h
  exact ⟨by have := decF_inj (by omega) (by omega) e1; omega, by have := decF_inj (by omega) (by omega) e2; omega⟩
theorem rread_is {f b : Nat} (hf : f < 256) (hb : b < 9) (h : rangeOkF f b = true) : rreadF (rtextF f b) = some ((f : Int), (b : Int)) := by
  obtain ⟨f', b', e, h1, h2, h3, h4⟩ := rread_some hf hb h rfl
  obtain ⟨rfl, rfl⟩ := rtext_inj hf hb h3 h4 h2
  exact e
theorem dec_short (n : Nat) (h : n < 10) : (decF n).length = 1 := by unfold decF; rw [if_pos h]; rfl
theorem getD_lt {s : Bs} {i : Nat} (h : i < s.length) : s.getD i 0 = s[i] := by rw [List.getD_eq_getElem?_getD, List.getElem?_eq_getElem h]; rfl
theorem rread_long {s : Bs} (h : 5 < s.length) : rreadF s = none := rread_none fun f b hf hb _ e => by
  have h1 := (decF_len f).2
  have h2 := dec_short b (by omega)
  rw [e] at h
  unfold rtextF at h
  simp only [List.length_append, List.length_cons, Int.toNat_natCast] at h
  omega
theorem rread_no47 {s : Bs} (h : ∀ j, j < s.length → s.getD j 0 ≠ 47) : rreadF s = none := rread_none fun f b hf hb _ e => by
  have hl : (decF f).length < s.length := by rw [e]; unfold rtextF; simp
  refine h _ hl ?_
  rw [e]
  unfold rtextF
  simp [List.getD_eq_getElem?_getD]
theorem split_at {s : Bs} {i : Nat} (hi : i < s.length) (h47 : s.getD i 0 = 47) : s = s.take i ++ 47 :: s.drop (i + 1) := by
  rw [getD_lt hi] at h47
  rw [← h47, List.getElem_cons_drop, List.take_append_drop]
theorem take_no {s : Bs} {i : Nat} (hi : i < s.length) (h : ∀ j, j < i → s.getD j 0 ≠ 47) : (47 : UInt8) ∉ s.take i := by
  intro hm
  obtain ⟨j, hj, e⟩ := List.getElem_of_mem hm
  have hj' : j < i := by rw [List.length_take] at hj; omega
  refine h j hj' ?_
  rw [getD_lt (by omega), ← e, List.getElem_take]
theorem rread_at {s : Bs} {i : Nat} (hi : i < s.length) (h47 : s.getD i 0 = 47) (h : ∀ j, j < i → s.getD j 0 ≠ 47) :
    rreadF s = if rangeOkF (numF (s.take i)) (numF (s.drop (i + 1))) = true ∧ rtextF (numF (s.take i)) (numF (s.drop (i + 1))) = s then some (numF (s.take i), numF (s.drop (i + 1))) else none := by
  by_cases hc : rangeOkF (numF (s.take i)) (numF (s.drop (i + 1))) = true ∧ rtextF (numF (s.take i)) (numF (s.drop (i + 1))) = s
  · rw [if_pos hc]
    obtain ⟨h1, h2⟩ := hc
    obtain ⟨f, hf⟩ : ∃ f, numF (s.take i) = f := ⟨_, rfl⟩
    obtain ⟨b, hb⟩ : ∃ b, numF (s.drop (i + 1)) = b := ⟨_, rfl⟩
    rw [hf, hb] at h1 h2 ⊢
    have hr : (0 ≤ b ∧ b ≤ 8) ∧ 0 ≤ f ∧ f ≤ 255 := by
      unfold rangeOkF addrF at h1
      simp at h1
      exact ⟨h1.1.1, h1.1.2⟩
    have ef : ((f.toNat : Nat) : Int) = f := by omega
    have eb : ((b.toNat : Nat) : Int) = b := by omega
    have := rread_is (f := f.toNat) (b := b.toNat) (by omega) (by omega) (by rw [ef, eb]; exact h1)
    rw [ef, eb, h2] at this
    exact this
  · rw [if_neg hc]
    refine rread_none fun f b hf hb hok e => hc ?_
    have e2 := split_at hi h47
    have e3 : s = decF f ++ 47 :: decF b := by rw [e]; unfold rtextF; simp
    rw [e3] at e2
    obtain ⟨a1, a2⟩ := stroke_split (dec_no47 (by omega)) (by rw [← e3]; exact take_no hi h) e2
    rw [← e3] at a1 a2
    rw [← a1, ← a2, numF_dec (by omega), numF_dec (by omega)]
    exact ⟨hok, e.symm⟩
def ptextF (p : List Int) : Bs := if p = [] then [46] else Lib.join (p.map fun x => decF x.toNat) [45]
end Go.Proofs.YtnecdeaikmhanaaGreatDoor
