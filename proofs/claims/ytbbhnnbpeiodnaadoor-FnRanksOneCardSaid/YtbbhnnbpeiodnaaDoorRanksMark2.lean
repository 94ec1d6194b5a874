/- The laws' marks of rows and of grids; heldIntS. -/
import Derived.Test.YtbbhnnbpeiodnaaDoorRanksMark
import Derived.Deep.LoopGhost
namespace Go.Proofs.YtbbhnnbpeiodnaaDoor
open Go.RowKit
set_option linter.unusedVariables false

theorem owns_marked {w w' : World} {g lo hi n : Nat} {T : TypeId} {v : Value} {vs : List Value} (h : w.ownsRow g T 1 v n vs) (hT : T ≠ 3) (hm : Marked lo hi w w') : w'.ownsRow g T 1 v n vs := by
  refine ⟨h.1, ?_⟩
  rcases h.2 with h' | ⟨g', cap, cur, h1, h2, h3, h4⟩
  · exact .inl h'
  · exact .inr ⟨g', cap, cur, h1, h2, (hm.other _ _ _ _ h3 hT).trans h3, h4⟩
def RowsHas (w : World) (lo hi : Nat) (v : Value) (ll : List (List Int)) : Prop :=
  ∃ (g : Nat) (vs : List Value), v = .slice (some ⟨g, 0, none⟩) ll.length ll.length ∧ vs.length = ll.length ∧ w.ownsRow g 24 1 v ll.length vs ∧ ∀ i, i < ll.length → HasInts w lo hi (vs.getD i undef) (ll.getD i []).length
theorem RowsHas.marked {w w' : World} {lo hi lo' hi' : Nat} {v : Value} {ll : List (List Int)} (h : RowsHas w lo hi v ll) (hm : Marked lo' hi' w w') : RowsHas w' lo hi v ll := by
  obtain ⟨g, vs, h1, h2, h3, h4⟩ := h
  exact ⟨g, vs, h1, h2, owns_marked h3 (by decide) hm, fun i hi => (h4 i hi).marked hm⟩
def GridHas (w : World) (lo hi : Nat) (v : Value) (ll : List (List (List Int))) : Prop :=
  ∃ (g : Nat) (vs : List Value), v = .slice (some ⟨g, 0, none⟩) ll.length ll.length ∧ vs.length = ll.length ∧ w.ownsRow g 27 1 v ll.length vs ∧ ∀ i, i < ll.length → RowsHas w lo hi (vs.getD i undef) (ll.getD i [])
theorem GridHas.marked {w w' : World} {lo hi lo' hi' : Nat} {v : Value} {ll : List (List (List Int))} (h : GridHas w lo hi v ll) (hm : Marked lo' hi' w w') : GridHas w' lo hi v ll := by
  obtain ⟨g, vs, h1, h2, h3, h4⟩ := h
  exact ⟨g, vs, h1, h2, owns_marked h3 (by decide) hm, fun i hi => (h4 i hi).marked hm⟩
theorem HasInts.lo {w : World} {lo lo' hi n : Nat} {v : Value} (h : HasInts w lo hi v n) (hl : lo' ≤ lo) : HasInts w lo' hi v n := by
  rcases h with h | ⟨g, cap, cur, h1, h2, h3⟩
  · exact .inl h
  · exact .inr ⟨g, cap, cur, h1, Nat.le_trans hl h2, h3⟩
theorem RowsNew.has {w : World} {lo hi : Nat} {v : Value} {ll : List (List Int)} (h : RowsNew w lo v ll) (hh : w.heap.size ≤ hi) : RowsHas w lo hi v ll := by
  obtain ⟨g, vs, h1, h2, h3, h4, h5⟩ := h
  exact ⟨g, vs, h2, h3, h4, fun i hi => ((h5 i hi).has hh).lo (by omega)⟩
theorem GridNew.has {w : World} {lo hi : Nat} {v : Value} {ll : List (List (List Int))} (h : GridNew w lo v ll) (hh : w.heap.size ≤ hi) : GridHas w lo hi v ll := by
  obtain ⟨g, vs, h1, h2, h3, h4, h5⟩ := h
  exact ⟨g, vs, h2, h3, h4, fun i hi => ((h5 i hi).lift (by omega)).has hh⟩
theorem HasInts.below {w w' : World} {lo hi n : Nat} {v : Value} (h : HasInts w lo hi v n) (hb : Below w.heap.size w w') : HasInts w' lo hi v n := by
  rcases h with h | ⟨g, cap, cur, h1, h2, h3, h4, h5⟩
  · exact .inl h
  · refine .inr ⟨g, cap, cur, h1, h2, h3, ?_, h5⟩
    rw [hb.block g ?_]; exact h4
    by_cases hlt : g < w.heap.size
    · exact hlt
    · rw [Array.getElem?_eq_none (by omega)] at h4; simp at h4
theorem RowsHas.below {w w' : World} {lo hi : Nat} {v : Value} {ll : List (List Int)} (h : RowsHas w lo hi v ll) (hb : Below w.heap.size w w') : RowsHas w' lo hi v ll := by
  obtain ⟨g, vs, h1, h2, h3, h4⟩ := h
  exact ⟨g, vs, h1, h2, owns_belowR h3 hb, fun i hi => (h4 i hi).below hb⟩
theorem GridHas.below {w w' : World} {lo hi : Nat} {v : Value} {ll : List (List (List Int))} (h : GridHas w lo hi v ll) (hb : Below w.heap.size w w') : GridHas w' lo hi v ll := by
  obtain ⟨g, vs, h1, h2, h3, h4⟩ := h
  exact ⟨g, vs, h1, h2, owns_belowR h3 hb, fun i hi => (h4 i hi).below hb⟩

def MarksPost (lo hi : Nat) (most : Int) (w : World) (e : Ending) (w' : World) : Prop := ∃ k : Int, e = .returned (.int .i64 k) ∧ 0 ≤ k ∧ k ≤ most ∧ Marked lo hi w w'
theorem numsFrom_getD (k : Int) (n i : Nat) (hi : i < n) : (numsFrom k n).getD i 0 = k + i := by simp [numsFrom, hi]
theorem numsFrom_len (k : Int) (n : Nat) : (numsFrom k n).length = n := by simp [numsFrom]
end Go.Proofs.YtbbhnnbpeiodnaaDoor
