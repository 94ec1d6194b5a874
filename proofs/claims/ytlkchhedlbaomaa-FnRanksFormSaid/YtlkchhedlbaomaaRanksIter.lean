/- impl.states: all states come, one behind the other, in one and the same slice. -/
import Derived.Test.YtlkchhedlbaomaaRanksPlain4
import Derived.Test.YtlkchhedlbaomaaRanksPlayI
import Derived.RangeFuncNested
import Derived.RangeFuncBound
import Derived.RangeFuncCalls
import Derived.RangeFuncLeaves
import Derived.Shelf.Abstract
import Derived.WalkKit
import Derived.OwnWalkIn
import Derived.TacticsInMore
import Derived.LoopNIn
import Derived.LoopIn
namespace Go.Proofs.Ytlkchhedlbaomaa
open Go.RowKit Go.Shelf
set_option linter.unusedVariables false
attribute [local go_sem] Oper.semAt_some

/-- Of what lay nothing has turned but two blocks. -/
structure But2 (x y : Nat) (w w' : World) : Prop where
  os : w'.os = w.os
  tape : w'.tape = w.tape
  output : w'.output = w.output
  size : w.heap.size ≤ w'.heap.size
  block : ∀ k, k < w.heap.size → k ≠ x → k ≠ y → w'.heap[k]? = w.heap[k]?
theorem But2.refl (x y : Nat) (w : World) : But2 x y w w := ⟨rfl, rfl, rfl, Nat.le_refl _, fun _ _ _ _ => rfl⟩
theorem But2.trans {x y : Nat} {a b c : World} (h : But2 x y a b) (g : But2 x y b c) : But2 x y a c :=
  ⟨g.os.trans h.os, g.tape.trans h.tape, g.output.trans h.output, Nat.le_trans h.size g.size, fun k hk h1 h2 => (g.block k (Nat.lt_of_lt_of_le hk h.size) h1 h2).trans (h.block k hk h1 h2)⟩
theorem But2.of_below {x y : Nat} {w w' : World} (h : Below w.heap.size w w') : But2 x y w w' := ⟨h.os, h.tape, h.output, h.size, fun k hk _ _ => h.block k hk⟩
theorem But2.set {x y : Nat} {w : World} {p : Addr} (hp : p.block = x) (u : Value) : But2 x y w (w.setCell p u) :=
  ⟨rfl, rfl, rfl, by simp [World.setCell], fun k hk h1 h2 => Below.heap_setCell _ _ _ _ (by omega)⟩
theorem But2.put {x y : Nat} {w : World} (o : Obj) : But2 x y w (w.putObj y o) :=
  ⟨rfl, rfl, rfl, by simp, fun k hk h1 h2 => World.putObj_heap_other h2⟩
theorem But2.below {x y B : Nat} {w w' : World} (h : But2 x y w w') (h1 : B ≤ x) (h2 : B ≤ y) (hs : B ≤ w.heap.size) : Below B w w' :=
  ⟨h.os, h.tape, h.output, h.size, fun k hk => h.block k (by omega) (by omega) (by omega)⟩
theorem But2.cell {x y : Nat} {w w' : World} (h : But2 x y w w') {p : Addr} (hp : p.block < w.heap.size) (h1 : p.block ≠ x) (h2 : p.block ≠ y) : w'.cell? p = w.cell? p :=
  World.cell?_of_block (w := w) (h.block p.block hp h1 h2)

/-- What the recursive function leans on: its four boxes, and the slice of ways. -/
structure Fill (w0 : World) (gv : Value) (C b1 l : Nat) (W : World) (ws : List (List Int)) : Prop where
  be : Below w0.heap.size w0 W
  hy : W.cell? ⟨C, 0, none⟩ = some (.func (.yield l) #[] #[])
  hw : W.cell? ⟨C + 2, 0, none⟩ = some (.slice (some ⟨C + 1, 0, none⟩) 3 3)
  hf : W.cell? ⟨C + 3, 0, none⟩ = some (.func (.func 78) #[] #[.pointer (some ⟨C, 0, none⟩), .pointer (some ⟨C + 2, 0, none⟩), .pointer (some ⟨C + 3, 0, none⟩), .pointer (some ⟨b1, 0, none⟩)])
  hr : W.cell? ⟨b1, 0, none⟩ = some gv
  sz : C + 3 < W.heap.size
  row : ∃ vs : List Value, vs.length = 3 ∧ ws.length = 3 ∧ W.ownsRow (C + 1) 27 1 (.slice (some ⟨C + 1, 0, none⟩) 3 3) 3 vs ∧ ∀ i, i < 3 → IntsAt w0 (vs.getD i undef) (ws.getD i [])
theorem Fill.below {w0 : World} {gv : Value} {C b1 l : Nat} {W W' : World} {ws : List (List Int)} (h : Fill w0 gv C b1 l W ws) (hb : Below W.heap.size W W') (hb1 : b1 < C) : Fill w0 gv C b1 l W' ws := by
  have hs := h.sz
  refine ⟨h.be.trans (hb.mono h.be.size), ?_, ?_, ?_, ?_, Nat.lt_of_lt_of_le h.sz hb.size, ?_⟩
  · exact (hb.cell (p := ⟨C, 0, none⟩) (by simp; omega)).trans h.hy
  · exact (hb.cell (p := ⟨C + 2, 0, none⟩) (by simp; omega)).trans h.hw
  · exact (hb.cell (p := ⟨C + 3, 0, none⟩) (by simp; omega)).trans h.hf
  · exact (hb.cell (p := ⟨b1, 0, none⟩) (by simp; omega)).trans h.hr
  · obtain ⟨vs, h1, h2, h3, h4⟩ := h.row
    exact ⟨vs, h1, h2, owns_belowR h3 hb, h4⟩
theorem Fill.but {w0 : World} {gv : Value} {C b1 l x y : Nat} {W W' : World} {ws : List (List Int)} (h : Fill w0 gv C b1 l W ws) (hb : But2 x y W W') (hb1 : b1 < C) (hx : x < C) (hy : y < C) (hx1 : b1 ≠ x) (hy1 : b1 ≠ y)
    (h0x : w0.heap.size ≤ x) (h0y : w0.heap.size ≤ y) : Fill w0 gv C b1 l W' ws := by
  have hs := h.sz
  refine ⟨h.be.trans (hb.below h0x h0y h.be.size), ?_, ?_, ?_, ?_, Nat.lt_of_lt_of_le h.sz hb.size, ?_⟩
  · exact (hb.cell (p := ⟨C, 0, none⟩) (by simp; omega) (by simp; omega) (by simp; omega)).trans h.hy
  · exact (hb.cell (p := ⟨C + 2, 0, none⟩) (by simp; omega) (by simp; omega) (by simp; omega)).trans h.hw
  · exact (hb.cell (p := ⟨C + 3, 0, none⟩) (by simp; omega) (by simp; omega) (by simp; omega)).trans h.hf
  · exact (hb.cell (p := ⟨b1, 0, none⟩) (by simp; omega) (by simp; omega) (by simp; omega)).trans h.hr
  · obtain ⟨vs, h1, h2, h3, h4⟩ := h.row
    refine ⟨vs, h1, h2, ?_, h4⟩
    refine ⟨h3.1, ?_⟩
    rcases h3.2 with h' | ⟨g, cap, cur, e1, e2, e3, e4⟩
    · exact .inl h'
    · exact .inr ⟨g, cap, cur, e1, e2, (hb.block g (Array.getElem?_eq_some_iff.1 e3).1 (by omega) (by omega)).trans e3, e4⟩
theorem Fill.rows {w0 : World} {gv : Value} {C b1 l : Nat} {W : World} {ws : List (List Int)} (h : Fill w0 gv C b1 l W ws) : RowsAt W (.slice (some ⟨C + 1, 0, none⟩) 3 3) ws := by
  obtain ⟨vs, h1, h2, h3, h4⟩ := h.row
  have hs := ownsRow_slice h1 h3
  refine ⟨_, by rw [h2]; exact hs, fun i hi => ?_⟩
  rw [h2] at hi
  exact (h4 i hi).below h.be
theorem Fill.wl {w0 : World} {gv : Value} {C b1 l : Nat} {W : World} {ws : List (List Int)} (h : Fill w0 gv C b1 l W ws) : ws.length = 3 := by
  obtain ⟨vs, h1, h2, h3, h4⟩ := h.row; exact h2
/-- one way is stored -/
theorem Fill.store {w0 : World} {gv : Value} {C b1 l : Nat} {W : World} {ws : List (List Int)} (h : Fill w0 gv C b1 l W ws) (hb1 : b1 < C) (hC : w0.heap.size ≤ C) {v : Value} {p : List Int} (hv : IntsAt w0 v p) (j : Nat) (hj : j < 3) :
    Fill w0 gv C b1 l (W.setCell ⟨C + 1, j, none⟩ v) (ws.set j p) := by
  have hs := h.sz
  refine ⟨h.be.setCell (by simp; omega) _, ?_, ?_, ?_, ?_, by simp [World.setCell]; omega, ?_⟩
  · exact (World.cell?_of_block (w := W) (Below.heap_setCell _ _ _ C (by simp))).trans h.hy
  · exact (World.cell?_of_block (w := W) (Below.heap_setCell _ _ _ (C + 2) (by simp))).trans h.hw
  · exact (World.cell?_of_block (w := W) (Below.heap_setCell _ _ _ (C + 3) (by simp))).trans h.hf
  · exact (World.cell?_of_block (w := W) (Below.heap_setCell _ _ _ b1 (by simp; omega))).trans h.hr
  · obtain ⟨vs, h1, h2, h3, h4⟩ := h.row
    refine ⟨vs.set j v, by simp [h1], by simp [h2], (h3.stored j v).1, fun i hi => ?_⟩
    have e1 : (vs.set j v).getD i undef = if i = j then v else vs.getD i undef := set_getD (by rw [h1]; exact hj)
    have e2 : (ws.set j p).getD i [] = if i = j then p else ws.getD i [] := by
      by_cases hij : i = j
      · subst hij; simp [h2, hi]
      · rw [if_neg hij]; simp [Ne.symm hij]
    rw [e1, e2]
    by_cases hij : i = j
    · rw [if_pos hij, if_pos hij]; exact hv
    · rw [if_neg hij, if_neg hij]; exact h4 i hi
theorem Fill.at {w0 : World} {gv : Value} {C b1 l : Nat} {W : World} {ws : List (List Int)} (h : Fill w0 gv C b1 l W ws) (j : Nat) (hj : j < 3) : ∃ v, W.cell? ⟨C + 1, j, none⟩ = some v ∧ W.frozen? ⟨C + 1, j, none⟩ = false := by
  obtain ⟨vs, h1, h2, h3, h4⟩ := h.row
  exact ⟨_, by rw [h3.cellAt j (by omega)]; exact List.getElem?_eq_getElem (by omega), h3.frozenAt j⟩
theorem room_of_none {F : Fence} (hd : F.depth = none) (k : Nat) : F.room k := fun d h => by rw [hd] at h; cases h
theorem YieldAt.anyRoom {m : Nat} (m' : Nat) {P : Program} {l : Nat} {args : Array Value} {W : World} {R : Ending → World → Prop} (h : YieldAt Fence.wide m P l args W R) : YieldAt Fence.wide m' P l args W R := by
  obtain ⟨fn, tmps, assign, body, hy, hR⟩ := h
  exact ⟨fn, tmps, assign, body, hy, hR.1, fun c cs _ => hR.2 c cs (room_of_none rfl _)⟩
/-- what the loop over the states does in a round -/
def RoundKeeps (r : List (List (List Int))) (w0 : World) (gv : Value) (C b1 l x y : Nat) (J : Nat → World → Prop) : Prop :=
  ∀ m c ws W, J c W → Fill w0 gv C b1 l W ws → YieldAt Fence.wide m Try.prog l #[.slice (some ⟨C + 1, 0, none⟩) 3 3] W fun e W' => e = .returned (.bool true) ∧ J (c + totP r 0 ws) W' ∧ But2 x y W W'
def FillPost (r : List (List (List Int))) (w0 : World) (gv : Value) (C b1 l : Nat) (J : Nat → World → Prop) (k : Nat) (pre : List (List Int)) (c : Nat) (e : Ending) (W' : World) : Prop :=
  e = .returned (.bool true) ∧ J (c + totP r (3 - k) pre) W' ∧ ∃ ws', Fill w0 gv C b1 l W' ws' ∧ ws'.take k = pre
end Go.Proofs.Ytlkchhedlbaomaa
