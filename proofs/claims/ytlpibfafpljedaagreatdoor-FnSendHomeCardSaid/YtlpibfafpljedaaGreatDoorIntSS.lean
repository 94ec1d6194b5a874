/- The laws' own copies of rows of numbers: toIntS, toIntSS, szIntS, szIntSS, eqIntS, eqIntSS. -/
import Derived.Test.YtlpibfafpljedaaGreatDoorDrawRng
import Derived.Test.YtlpibfafpljedaaGreatDoorEntSz
import Derived.Test.YtlpibfafpljedaaGreatDoorEntCopy
import Derived.Deep.LoopGhost
import Derived.Deep.QuietTactic
import Derived.BigQuiet
import Derived.OwnWalk
namespace Go.Proofs.YtlpibfafpljedaaGreatDoor
open Go.RowKit
set_option linter.unusedVariables false

theorem OwnInts.kept {W w1 : World} {g : Nat} {v : Value} {l : List Int} (h : OwnInts W (g + 1) v l) (hg : W.grownBy w1 (some g)) : OwnInts w1 (g + 1) v l := by
  refine World.ownsRow.kept h hg ?_
  cases hv : v.ownBlock with
  | none => exact .inl rfl
  | some k => right; have := (World.ownsRow.lt h k hv).1; intro e; cases e; omega
def RowsNew (w : World) (lo : Nat) (v : Value) (ll : List (List Int)) : Prop :=
  ∃ (g : Nat) (vs : List Value), lo ≤ g ∧ v = .slice (some ⟨g, 0, none⟩) ll.length ll.length ∧ vs.length = ll.length ∧ w.ownsRow g 37 1 v ll.length vs ∧ ∀ i, i < ll.length → OwnInts w (g + 1) (vs.getD i undef) (ll.getD i [])
theorem RowsNew.below {W w1 : World} {B : Nat} {v : Value} {l : List (List Int)} (h : RowsNew W B v l) (hb : Below W.heap.size W w1) : RowsNew w1 B v l := by
  obtain ⟨g, vs, h1, h2, h3, h4, h5⟩ := h
  exact ⟨g, vs, h1, h2, h3, owns_belowR h4 hb, fun i hi => (h5 i hi).below hb⟩
theorem RowsNew.kept {W w1 : World} {g : Nat} {v : Value} {l : List (List Int)} (h : RowsNew W (g + 1) v l) (hg : W.grownBy w1 (some g)) : RowsNew w1 (g + 1) v l := by
  obtain ⟨g', vs, h1, rfl, h3, h4, h5⟩ := h
  refine ⟨g', vs, h1, rfl, h3, h4.kept hg (.inr (by simp [Value.ownBlock]; omega)), fun i hi => ?_⟩
  have h := h5 i hi
  refine World.ownsRow.kept h hg ?_
  cases hv : (vs.getD i undef).ownBlock with
  | none => exact .inl rfl
  | some k => right; have := (World.ownsRow.lt h k hv).1; intro e; cases e; omega
theorem RowsNew.rows {w : World} {lo : Nat} {v : Value} {ll : List (List Int)} (h : RowsNew w lo v ll) : RowsAt w v ll := by
  obtain ⟨g, vs, h1, rfl, h3, h4, h5⟩ := h
  exact ⟨_, ownsRow_slice h3 h4, fun i hi => (h5 i hi).ints⟩
def Small1 (l : List Int) : Prop := l.length ≤ 1048576
def Small2 (l : List (List Int)) : Prop := l.length ≤ 1048576 ∧ ∀ i, i < l.length → Small1 (l.getD i [])
theorem RowsNew.lift {w : World} {B B' : Nat} {v : Value} {l : List (List Int)} (h : RowsNew w B v l) (hb : B' ≤ B) : RowsNew w B' v l := by
  obtain ⟨g, vs, h1, h2⟩ := h
  exact ⟨g, vs, Nat.le_trans hb h1, h2⟩
theorem isSlice1 {w : World} {B : Nat} {v : Value} {l : List Int} (h : OwnInts w B v l) : ∃ a n c, v = .slice a n c := by
  obtain ⟨a, c, e, _⟩ := h.ints; exact ⟨a, _, c, e⟩
theorem isSlice2 {w : World} {B : Nat} {v : Value} {l : List (List Int)} (h : RowsNew w B v l) : ∃ a n c, v = .slice a n c := by
  obtain ⟨g, vs, _, e, _⟩ := h; exact ⟨_, _, _, e⟩

end Go.Proofs.YtlpibfafpljedaaGreatDoor
