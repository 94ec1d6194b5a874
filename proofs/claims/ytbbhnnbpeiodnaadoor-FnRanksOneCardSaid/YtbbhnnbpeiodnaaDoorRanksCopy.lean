/- The laws' own copies of slices: toIntS, toIntSS, toIntSSS. -/
import Derived.Test.YtbbhnnbpeiodnaaDoorRanksSl
import Derived.Deep.LoopGhost
namespace Go.Proofs.YtbbhnnbpeiodnaaDoor
open Go.RowKit
set_option linter.unusedVariables false

theorem owns_belowR {W w1 : World} {B : Nat} {e : TypeId} {size n : Nat} {v : Value} {xs : List Value} (h : W.ownsRow B e size v n xs) (hb : Below W.heap.size W w1) : w1.ownsRow B e size v n xs :=
  h.kept (row := none) ⟨hb.os, hb.tape, hb.output, hb.size, fun k hk _ => hb.block k hk⟩ (by cases h : v.ownBlock <;> simp)
theorem OwnInts.below {W w1 : World} {B : Nat} {v : Value} {l : List Int} (h : OwnInts W B v l) (hb : Below W.heap.size W w1) : OwnInts w1 B v l := owns_belowR h hb
theorem OwnInts.kept {W w1 : World} {g : Nat} {v : Value} {l : List Int} (h : OwnInts W (g + 1) v l) (hg : W.grownBy w1 (some g)) : OwnInts w1 (g + 1) v l := by
  refine World.ownsRow.kept h hg ?_
  cases hv : v.ownBlock with
  | none => exact .inl rfl
  | some k => right; have := (World.ownsRow.lt h k hv).1; intro e; cases e; omega
def RowsNew (w : World) (lo : Nat) (v : Value) (ll : List (List Int)) : Prop :=
  ∃ (g : Nat) (vs : List Value), lo ≤ g ∧ v = .slice (some ⟨g, 0, none⟩) ll.length ll.length ∧ vs.length = ll.length ∧ w.ownsRow g 24 1 v ll.length vs ∧ ∀ i, i < ll.length → OwnInts w (g + 1) (vs.getD i undef) (ll.getD i [])
theorem RowsNew.below {W w1 : World} {B : Nat} {v : Value} {l : List (List Int)} (h : RowsNew W B v l) (hb : Below W.heap.size W w1) : RowsNew w1 B v l := by
  obtain ⟨g, vs, h1, h2, h3, h4, h5⟩ := h
  exact ⟨g, vs, h1, h2, h3, owns_belowR h4 hb, fun i hi => (h5 i hi).below hb⟩
theorem RowsNew.kept {W w1 : World} {g : Nat} {v : Value} {l : List (List Int)} (h : RowsNew W (g + 1) v l) (hg : W.grownBy w1 (some g)) : RowsNew w1 (g + 1) v l := by
  obtain ⟨g', vs, h1, rfl, h3, h4, h5⟩ := h
  refine ⟨g', vs, h1, rfl, h3, h4.kept hg (.inr (by simp [Value.ownBlock]; omega)), fun i hi => ?_⟩
  have h := h5 i hi
  refine World.ownsRow.kept h hg ?_
  cases hv : (vs.getD i undef).ownBlock with
  | none => exact .inl rfl
  | some k => right; have := (World.ownsRow.lt h k hv).1; intro e; cases e; omega
def GridNew (w : World) (lo : Nat) (v : Value) (lll : List (List (List Int))) : Prop :=
  ∃ (g : Nat) (vs : List Value), lo ≤ g ∧ v = .slice (some ⟨g, 0, none⟩) lll.length lll.length ∧ vs.length = lll.length ∧ w.ownsRow g 27 1 v lll.length vs ∧ ∀ i, i < lll.length → RowsNew w (g + 1) (vs.getD i undef) (lll.getD i [])
theorem GridNew.below {W w1 : World} {B : Nat} {v : Value} {l : List (List (List Int))} (h : GridNew W B v l) (hb : Below W.heap.size W w1) : GridNew w1 B v l := by
  obtain ⟨g, vs, h1, h2, h3, h4, h5⟩ := h
  exact ⟨g, vs, h1, h2, h3, owns_belowR h4 hb, fun i hi => (h5 i hi).below hb⟩
theorem ownsRow_slice {w : World} {g n : Nat} {T : TypeId} {vs : List Value} (hl : vs.length = n) (h : w.ownsRow g T 1 (.slice (some ⟨g, 0, none⟩) n n) n vs) : SliceAt w (.slice (some ⟨g, 0, none⟩) n n) n (fun i => vs.getD i undef) := by
  have hb := (World.ownsRow.lt h g rfl).2
  rcases h.2 with ⟨h', _⟩ | ⟨g', cap', cur, h', _, hg, hnc, hcm, hcs, htake⟩
  · simp at h'
  · simp only [Value.slice.injEq, Option.some.injEq, Addr.mk.injEq, and_true, true_and] at h'
    obtain ⟨rfl, rfl⟩ := h'
    refine ⟨_, n, rfl, Nat.le_refl _, hcm, .inr ⟨g, 0, rfl, hb, fun i hi => ?_⟩⟩
    rw [Nat.zero_add, h.cellAt i (by omega)]
    simp [List.getElem?_eq_getElem (by omega : i < vs.length)]
theorem RowsNew.rows {w : World} {lo : Nat} {v : Value} {ll : List (List Int)} (h : RowsNew w lo v ll) : RowsAt w v ll := by
  obtain ⟨g, vs, h1, rfl, h3, h4, h5⟩ := h
  exact ⟨_, ownsRow_slice h3 h4, fun i hi => (h5 i hi).ints⟩
theorem GridNew.grid {w : World} {lo : Nat} {v : Value} {ll : List (List (List Int))} (h : GridNew w lo v ll) : GridAt w v ll := by
  obtain ⟨g, vs, h1, rfl, h3, h4, h5⟩ := h
  exact ⟨_, ownsRow_slice h3 h4, fun i hi => (h5 i hi).rows⟩

def Small1 (l : List Int) : Prop := l.length ≤ 1048576
def Small2 (l : List (List Int)) : Prop := l.length ≤ 1048576 ∧ ∀ i, i < l.length → Small1 (l.getD i [])
def Small3 (l : List (List (List Int))) : Prop := l.length ≤ 1048576 ∧ ∀ i, i < l.length → Small2 (l.getD i [])

theorem set_getD {vs : List Value} {k i : Nat} {u : Value} (hk : k < vs.length) : (vs.set k u).getD i undef = if i = k then u else vs.getD i undef := by
  by_cases h : i = k
  · subst h; simp [hk]
  · rw [if_neg h]; simp [Ne.symm h]

theorem OwnInts.lift {w : World} {B B' : Nat} {v : Value} {l : List Int} (h : OwnInts w B v l) (hb : B' ≤ B) : OwnInts w B' v l := by
  refine ⟨h.1, ?_⟩
  rcases h.2 with h | ⟨g, cap, cur, h1, h2, h3⟩
  · exact .inl h
  · exact .inr ⟨g, cap, cur, h1, Nat.le_trans hb h2, h3⟩
theorem RowsNew.lift {w : World} {B B' : Nat} {v : Value} {l : List (List Int)} (h : RowsNew w B v l) (hb : B' ≤ B) : RowsNew w B' v l := by
  obtain ⟨g, vs, h1, h2⟩ := h
  exact ⟨g, vs, Nat.le_trans hb h1, h2⟩
theorem isSlice1 {w : World} {B : Nat} {v : Value} {l : List Int} (h : OwnInts w B v l) : ∃ a n c, v = .slice a n c := by
  obtain ⟨a, c, e, _⟩ := h.ints; exact ⟨a, _, c, e⟩
theorem isSlice2 {w : World} {B : Nat} {v : Value} {l : List (List Int)} (h : RowsNew w B v l) : ∃ a n c, v = .slice a n c := by
  obtain ⟨g, vs, _, e, _⟩ := h; exact ⟨_, _, _, e⟩

theorem info_r2 : (Tryd.prog.info? 24).map (fun i => (i.zero, i.size, i.bytes)) = some (some (.slice none 0 0), 1, 24) := by kernel_rfl
theorem info_r3 : (Tryd.prog.info? 27).map (fun i => (i.zero, i.size, i.bytes)) = some (some (.slice none 0 0), 1, 24) := by kernel_rfl
end Go.Proofs.YtbbhnnbpeiodnaaDoor
