/- The laws' marks: markIntS.., heldIntS: what marks leave as it was. -/
import Derived.Test.YtbbhnnbpeiodnaaDoorRanksCopy
import Derived.Deep.LoopGhost
namespace Go.Proofs.YtbbhnnbpeiodnaaDoor
open Go.RowKit
set_option linter.unusedVariables false

/-- Only blocks of numbers from lo to hi have been written; each block is of the size that it had. -/
structure Marked (lo hi : Nat) (w w' : World) : Prop where
  os : w'.os = w.os
  tape : w'.tape = w.tape
  output : w'.output = w.output
  size : w'.heap.size = w.heap.size
  out : ∀ b : Nat, b < lo ∨ hi ≤ b → w'.heap[b]? = w.heap[b]?
  other : ∀ (b : Nat) cur T mk, w.heap[b]? = some (.cells cur T mk) → T ≠ 3 → w'.heap[b]? = w.heap[b]?
  ints : ∀ (b : Nat) cur T mk, w.heap[b]? = some (.cells cur T mk) → ∃ cur', w'.heap[b]? = some (.cells cur' T mk) ∧ cur'.size = cur.size
theorem Marked.refl (lo hi : Nat) (w : World) : Marked lo hi w w := ⟨rfl, rfl, rfl, rfl, fun _ _ => rfl, fun _ _ _ _ _ _ => rfl, fun b cur T mk h => ⟨cur, h, rfl⟩⟩
theorem Marked.trans {lo hi : Nat} {a b c : World} (h : Marked lo hi a b) (g : Marked lo hi b c) : Marked lo hi a c := by
  refine ⟨g.os.trans h.os, g.tape.trans h.tape, g.output.trans h.output, g.size.trans h.size, fun x hx => (g.out x hx).trans (h.out x hx), fun x cur T mk hx hT => ?_, fun x cur T mk hx => ?_⟩
  · have e := h.other x cur T mk hx hT
    exact (g.other x cur T mk (e.trans hx) hT).trans e
  · obtain ⟨c1, h1, h2⟩ := h.ints x cur T mk hx
    obtain ⟨c2, g1, g2⟩ := g.ints x c1 T mk h1
    exact ⟨c2, g1, g2.trans h2⟩
theorem Marked.below {lo hi B : Nat} {w w' : World} (h : Marked lo hi w w') (hB : B ≤ lo) : Below B w w' :=
  ⟨h.os, h.tape, h.output, Nat.le_of_eq h.size.symm, fun i hi => h.out i (.inl (by omega))⟩
theorem setCell_block {w : World} {g i : Nat} {u : Value} {cur : Array Value} {T : TypeId} {mk : Nat × Nat} (h : w.heap[g]? = some (.cells cur T mk)) :
    (w.setCell ⟨g, i, none⟩ u).heap[g]? = some (.cells (cur.setIfInBounds i u) T mk) := by
  have hg : g < w.heap.size := by
    by_cases hlt : g < w.heap.size
    · exact hlt
    · rw [Array.getElem?_eq_none (by omega)] at h; simp at h
  rw [Array.getElem?_eq_getElem hg] at h
  simp only [Option.some.injEq] at h
  simp [World.setCell, hg, Array.getElem_modify, h]
theorem Marked.set {lo hi g i : Nat} {a w : World} {u : Value} {cur : Array Value} {mk : Nat × Nat} (hm : Marked lo hi a w) (hlo : lo ≤ g) (hhi : g < hi) (h : w.heap[g]? = some (.cells cur 3 mk)) : Marked lo hi a (w.setCell ⟨g, i, none⟩ u) := by
  refine hm.trans ⟨rfl, rfl, rfl, by simp [World.setCell], fun b hb => Below.heap_setCell _ _ _ _ (by intro e; simp at e; omega), fun b cur' T mk' hb hT => ?_, fun b cur' T mk' hb => ?_⟩
  · by_cases e : b = g
    · subst e; rw [hb] at h; simp only [Option.some.injEq, Obj.cells.injEq] at h; exact absurd h.2.1 hT
    · exact Below.heap_setCell _ _ _ _ e
  · by_cases e : b = g
    · subst e
      exact ⟨_, setCell_block hb, by simp⟩
    · exact ⟨cur', (Below.heap_setCell _ _ _ _ e).trans hb, rfl⟩

/-- n numbers, that may be written, in a block from lo to hi. -/
def HasInts (w : World) (lo hi : Nat) (v : Value) (n : Nat) : Prop :=
  (v = .slice none 0 0 ∧ n = 0) ∨ ∃ g cap cur, v = .slice (some ⟨g, 0, none⟩) n cap ∧ lo ≤ g ∧ g < hi ∧ w.heap[g]? = some (.cells cur 3 (0, 0)) ∧ n ≤ cap ∧ cap ≤ maxLen ∧ cur.size = cap
theorem HasInts.marked {w w' : World} {lo hi lo' hi' n : Nat} {v : Value} (h : HasInts w lo hi v n) (hm : Marked lo' hi' w w') : HasInts w' lo hi v n := by
  rcases h with h | ⟨g, cap, cur, h1, h2, h3, h4, h5, h6, h7⟩
  · exact .inl h
  · obtain ⟨c, e1, e2⟩ := hm.ints _ _ _ _ h4
    exact .inr ⟨g, cap, c, h1, h2, h3, e1, h5, h6, e2.trans h7⟩
theorem OwnInts.has {w : World} {B : Nat} {v : Value} {l : List Int} (h : OwnInts w B v l) {hi : Nat} (hh : w.heap.size ≤ hi) : HasInts w B hi v l.length := by
  rcases World.ownsRow.lt h |> fun hlt => (⟨hlt, h.2⟩ : _ ∧ _) with ⟨hlt, ⟨rfl, hn⟩ | ⟨g, cap, cur, rfl, hb, hg, hnc, hcm, hcs, htake⟩⟩
  · exact .inl ⟨rfl, hn⟩
  · exact .inr ⟨g, cap, cur, rfl, hb, by have := (hlt g rfl).2; omega, hg, hnc, hcm, by simpa using hcs⟩
theorem OwnInts.out {w w' : World} {B lo hi : Nat} {v : Value} {l : List Int} (h : OwnInts w B v l) (hm : Marked lo hi w w') (hB : hi ≤ B) : OwnInts w' B v l := by
  refine ⟨h.1, ?_⟩
  rcases h.2 with h' | ⟨g, cap, cur, h1, h2, h3, h4⟩
  · exact .inl h'
  · exact .inr ⟨g, cap, cur, h1, h2, (hm.out g (.inr (by omega))).trans h3, h4⟩
/-- .. one that lies ahead of what was marked -/
def OwnUpto (w : World) (B C : Nat) (v : Value) (l : List Int) : Prop := OwnInts w B v l ∧ ∀ k, v.ownBlock = some k → k < C
theorem OwnInts.upto {w : World} {B : Nat} {v : Value} {l : List Int} (h : OwnInts w B v l) : OwnUpto w B w.heap.size v l := ⟨h, fun k hk => (World.ownsRow.lt h k hk).2⟩
theorem OwnUpto.below {w w' : World} {B C : Nat} {v : Value} {l : List Int} (h : OwnUpto w B C v l) (hb : Below w.heap.size w w') : OwnUpto w' B C v l := ⟨h.1.below hb, h.2⟩
theorem OwnUpto.marked {w w' : World} {B C lo hi : Nat} {v : Value} {l : List Int} (h : OwnUpto w B C v l) (hm : Marked lo hi w w') (hC : C ≤ lo) : OwnUpto w' B C v l := by
  refine ⟨⟨h.1.1, ?_⟩, h.2⟩
  rcases h.1.2 with h' | ⟨g, cap, cur, h1, h2, h3, h4⟩
  · exact .inl h'
  · exact .inr ⟨g, cap, cur, h1, h2, (hm.out g (.inl (by have := h.2 g (by rw [h1]; rfl); omega))).trans h3, h4⟩

/-- k, k + 1, .. -/
def numsFrom (k : Int) (n : Nat) : List Int := (List.range n).map fun i => k + (i : Nat)
def MarkPost (lo hi : Nat) (v : Value) (n : Nat) (k : Int) (w : World) (e : Ending) (w' : World) : Prop :=
  e = .returned (.int .i64 (k + n)) ∧ Marked lo hi w w' ∧ OwnInts w' lo v (numsFrom k n)

end Go.Proofs.YtbbhnnbpeiodnaaDoor
