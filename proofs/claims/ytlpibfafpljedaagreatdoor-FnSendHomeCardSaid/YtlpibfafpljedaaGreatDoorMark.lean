/- Lists of numbers of one's own; marks of numbers and of tables; eqIntS, heldIntS. -/
import Derived.Test.YtlpibfafpljedaaGreatDoorEntCopy
import Derived.Deep.QuietTactic
import Derived.BigQuiet
namespace Go.Proofs.YtlpibfafpljedaaGreatDoor
open Go.RowKit
set_option linter.unusedVariables false

def OwnInts (w : World) (B : Nat) (v : Value) (l : List Int) : Prop := w.ownsRow B 3 1 v l.length (l.map (Value.int .i64))
theorem OwnInts.ints {w : World} {B : Nat} {v : Value} {l : List Int} (h : OwnInts w B v l) : IntsAt w v l := by
  have h' : w.ownsRow B 3 1 v l.length (l.map (Value.int .i64)) := h
  rcases h'.2 with ⟨rfl, hn⟩ | ⟨g, cap, cur, rfl, hb, hg, hnc, hcm, hcs, htake⟩
  · exact ⟨none, 0, by rw [hn], by omega, by unfold maxLen; omega, .inl hn⟩
  · refine ⟨some ⟨g, 0, none⟩, cap, rfl, hnc, hcm, .inr ⟨g, 0, rfl, ?_, fun i hi => ?_⟩⟩
    · by_cases hlt : g < w.heap.size
      · exact hlt
      · rw [Array.getElem?_eq_none (by omega)] at hg; simp at hg
    · rw [Nat.zero_add, h'.cellAt i (by omega)]
      simp [List.getElem?_eq_getElem hi]

theorem OwnInts.below {W w1 : World} {B : Nat} {v : Value} {l : List Int} (h : OwnInts W B v l) (hb : Below W.heap.size W w1) : OwnInts w1 B v l := owns_belowR h hb
theorem OwnInts.lift {w : World} {B B' : Nat} {v : Value} {l : List Int} (h : OwnInts w B v l) (hb : B' ≤ B) : OwnInts w B' v l := by
  refine ⟨h.1, ?_⟩
  rcases h.2 with h | ⟨g, cap, cur, h1, h2, h3⟩
  · exact .inl h
  · exact .inr ⟨g, cap, cur, h1, Nat.le_trans hb h2, h3⟩
theorem same_list {l m : List Int} (h : l.length = m.length) (hs : ∀ j, j < l.length → l.getD j 0 = m.getD j 0) : l = m := by
  apply List.ext_getElem h
  intro j h1 h2
  have := hs j h1
  simpa [List.getElem?_eq_getElem h1, List.getElem?_eq_getElem h2] using this
/-- Only blocks of numbers from lo to hi have been written; each block is of the size that it had. -/
structure Marked (lo hi : Nat) (w w' : World) : Prop where
  os : w'.os = w.os
  tape : w'.tape = w.tape
  output : w'.output = w.output
  size : w'.heap.size = w.heap.size
  out : ∀ b : Nat, b < lo ∨ hi ≤ b → w'.heap[b]? = w.heap[b]?
  other : ∀ (b : Nat) cur T mk, w.heap[b]? = some (.cells cur T mk) → T ≠ 3 → T ≠ 45 → w'.heap[b]? = w.heap[b]?
  ints : ∀ (b : Nat) cur T mk, w.heap[b]? = some (.cells cur T mk) → ∃ cur', w'.heap[b]? = some (.cells cur' T mk) ∧ cur'.size = cur.size
theorem Marked.refl (lo hi : Nat) (w : World) : Marked lo hi w w := ⟨rfl, rfl, rfl, rfl, fun _ _ => rfl, fun _ _ _ _ _ _ _ => rfl, fun b cur T mk h => ⟨cur, h, rfl⟩⟩
theorem Marked.trans {lo hi : Nat} {a b c : World} (h : Marked lo hi a b) (g : Marked lo hi b c) : Marked lo hi a c := by
  refine ⟨g.os.trans h.os, g.tape.trans h.tape, g.output.trans h.output, g.size.trans h.size, fun x hx => (g.out x hx).trans (h.out x hx), fun x cur T mk hx hT hE => ?_, fun x cur T mk hx => ?_⟩
  · have e := h.other x cur T mk hx hT hE
    exact (g.other x cur T mk (e.trans hx) hT hE).trans e
  · obtain ⟨c1, h1, h2⟩ := h.ints x cur T mk hx
    obtain ⟨c2, g1, g2⟩ := g.ints x c1 T mk h1
    exact ⟨c2, g1, g2.trans h2⟩
theorem Marked.below {lo hi B : Nat} {w w' : World} (h : Marked lo hi w w') (hB : B ≤ lo) : Below B w w' :=
  ⟨h.os, h.tape, h.output, Nat.le_of_eq h.size.symm, fun i hi => h.out i (.inl (by omega))⟩
theorem setCell_block {w : World} {g i : Nat} {u : Value} {cur : Array Value} {T : TypeId} {mk : Nat × Nat} (h : w.heap[g]? = some (.cells cur T mk)) :
    (w.setCell ⟨g, i, none⟩ u).heap[g]? = some (.cells (cur.setIfInBounds i u) T mk) := by
  have hg : g < w.heap.size := by
    by_cases hlt : g < w.heap.size
    · exact hlt
    · rw [Array.getElem?_eq_none (by omega)] at h; simp at h
  rw [Array.getElem?_eq_getElem hg] at h
  simp only [Option.some.injEq] at h
  simp [World.setCell, hg, Array.getElem_modify, h]
theorem Marked.set {lo hi g i : Nat} {a w : World} {u : Value} {cur : Array Value} {S : TypeId} {mk : Nat × Nat} (hm : Marked lo hi a w) (hlo : lo ≤ g) (hhi : g < hi) (h : w.heap[g]? = some (.cells cur S mk)) (hS : S = 3 ∨ S = 45) : Marked lo hi a (w.setCell ⟨g, i, none⟩ u) := by
  refine hm.trans ⟨rfl, rfl, rfl, by simp [World.setCell], fun b hb => Below.heap_setCell _ _ _ _ (by intro e; simp at e; omega), fun b cur' T mk' hb hT hE => ?_, fun b cur' T mk' hb => ?_⟩
  · by_cases e : b = g
    · subst e; rw [hb] at h; simp only [Option.some.injEq, Obj.cells.injEq] at h; rw [h.2.1] at hT hE; rcases hS with hS | hS <;> contradiction
    · exact Below.heap_setCell _ _ _ _ e
  · by_cases e : b = g
    · subst e
      exact ⟨_, setCell_block hb, by simp⟩
    · exact ⟨cur', (Below.heap_setCell _ _ _ _ e).trans hb, rfl⟩

/-- n numbers, that may be written, in a block from lo to hi. -/
def HasInts (w : World) (lo hi : Nat) (v : Value) (n : Nat) : Prop :=
  (v = .slice none 0 0 ∧ n = 0) ∨ ∃ g cap cur, v = .slice (some ⟨g, 0, none⟩) n cap ∧ lo ≤ g ∧ g < hi ∧ w.heap[g]? = some (.cells cur 3 (0, 0)) ∧ n ≤ cap ∧ cap ≤ maxLen ∧ cur.size = cap
theorem HasInts.marked {w w' : World} {lo hi lo' hi' n : Nat} {v : Value} (h : HasInts w lo hi v n) (hm : Marked lo' hi' w w') : HasInts w' lo hi v n := by
  rcases h with h | ⟨g, cap, cur, h1, h2, h3, h4, h5, h6, h7⟩
  · exact .inl h
  · obtain ⟨c, e1, e2⟩ := hm.ints _ _ _ _ h4
    exact .inr ⟨g, cap, c, h1, h2, h3, e1, h5, h6, e2.trans h7⟩
theorem OwnInts.has {w : World} {B : Nat} {v : Value} {l : List Int} (h : OwnInts w B v l) {hi : Nat} (hh : w.heap.size ≤ hi) : HasInts w B hi v l.length := by
  rcases World.ownsRow.lt h |> fun hlt => (⟨hlt, h.2⟩ : _ ∧ _) with ⟨hlt, ⟨rfl, hn⟩ | ⟨g, cap, cur, rfl, hb, hg, hnc, hcm, hcs, htake⟩⟩
  · exact .inl ⟨rfl, hn⟩
  · exact .inr ⟨g, cap, cur, rfl, hb, by have := (hlt g rfl).2; omega, hg, hnc, hcm, by simpa using hcs⟩
theorem OwnInts.out {w w' : World} {B lo hi : Nat} {v : Value} {l : List Int} (h : OwnInts w B v l) (hm : Marked lo hi w w') (hB : hi ≤ B) : OwnInts w' B v l := by
  refine ⟨h.1, ?_⟩
  rcases h.2 with h' | ⟨g, cap, cur, h1, h2, h3, h4⟩
  · exact .inl h'
  · exact .inr ⟨g, cap, cur, h1, h2, (hm.out g (.inr (by omega))).trans h3, h4⟩
/-- .. one that lies ahead of what was marked -/
def OwnUpto (w : World) (B C : Nat) (v : Value) (l : List Int) : Prop := OwnInts w B v l ∧ ∀ k, v.ownBlock = some k → k < C
theorem OwnInts.upto {w : World} {B : Nat} {v : Value} {l : List Int} (h : OwnInts w B v l) : OwnUpto w B w.heap.size v l := ⟨h, fun k hk => (World.ownsRow.lt h k hk).2⟩
theorem OwnUpto.below {w w' : World} {B C : Nat} {v : Value} {l : List Int} (h : OwnUpto w B C v l) (hb : Below w.heap.size w w') : OwnUpto w' B C v l := ⟨h.1.below hb, h.2⟩
theorem OwnUpto.marked {w w' : World} {B C lo hi : Nat} {v : Value} {l : List Int} (h : OwnUpto w B C v l) (hm : Marked lo hi w w') (hC : C ≤ lo) : OwnUpto w' B C v l := by
  refine ⟨⟨h.1.1, ?_⟩, h.2⟩
  rcases h.1.2 with h' | ⟨g, cap, cur, h1, h2, h3, h4⟩
  · exact .inl h'
  · exact .inr ⟨g, cap, cur, h1, h2, (hm.out g (.inl (by have := h.2 g (by rw [h1]; rfl); omega))).trans h3, h4⟩

/-- k, k + 1, .. -/
def numsFrom (k : Int) (n : Nat) : List Int := (List.range n).map fun i => k + (i : Nat)
def MarkPost (lo hi : Nat) (v : Value) (n : Nat) (k : Int) (w : World) (e : Ending) (w' : World) : Prop :=
  e = .returned (.int .i64 (k + n)) ∧ Marked lo hi w w' ∧ OwnInts w' lo v (numsFrom k n)

theorem numsFrom_getD (k : Int) (n i : Nat) (hi : i < n) : (numsFrom k n).getD i 0 = k + i := by simp [numsFrom, hi]
theorem numsFrom_len (k : Int) (n : Nat) : (numsFrom k n).length = n := by simp [numsFrom]
theorem Marked.widen {lo hi lo' hi' : Nat} {w w' : World} (h : Marked lo hi w w') (h1 : lo' ≤ lo) (h2 : hi ≤ hi') : Marked lo' hi' w w' :=
  ⟨h.os, h.tape, h.output, h.size, fun b hb => h.out b (by omega), h.other, h.ints⟩
theorem OwnInts.other {w w' : World} {lo g : Nat} {v : Value} {l : List Int} (h : OwnInts w lo v l) (hm : Marked g (g + 1) w w') (hne : v.ownBlock ≠ some g) : OwnInts w' lo v l := by
  refine ⟨h.1, ?_⟩
  rcases h.2 with h' | ⟨g', cap, cur, h1, h2, h3, h4⟩
  · exact .inl h'
  · have : g' ≠ g := by intro e; subst e; exact hne (by rw [h1]; rfl)
    exact .inr ⟨g', cap, cur, h1, h2, (hm.out g' (by omega)).trans h3, h4⟩
/-- one row is marked: no other block has turned -/
def Mark1Post (lo hi : Nat) (v : Value) (n : Nat) (k : Int) (w : World) (e : Ending) (w' : World) : Prop :=
  e = .returned (.int .i64 (k + n)) ∧ OwnInts w' lo v (numsFrom k n) ∧ (Marked 0 0 w w' ∨ ∃ g, v.ownBlock = some g ∧ lo ≤ g ∧ g < hi ∧ Marked g (g + 1) w w')
theorem Mark1Post.marked {lo hi : Nat} {v : Value} {n : Nat} {k : Int} {w : World} {e : Ending} {w' : World} (h : Mark1Post lo hi v n k w e w') : Marked lo hi w w' := by
  rcases h.2.2 with hm | ⟨g, _, h1, h2, hm⟩
  · exact ⟨hm.os, hm.tape, hm.output, hm.size, fun b _ => hm.out b (.inr (Nat.zero_le _)), hm.other, hm.ints⟩
  · exact hm.widen h1 (by omega)
/-- n entries, that may be written, in a block from lo to hi. -/
def HasEnts (w : World) (lo hi : Nat) (v : Value) (n : Nat) : Prop :=
  (v = .slice none 0 0 ∧ n = 0) ∨ ∃ g cap cur, v = .slice (some ⟨g, 0, none⟩) n cap ∧ lo ≤ g ∧ g < hi ∧ w.heap[g]? = some (.cells cur 45 (0, 0)) ∧ n ≤ cap ∧ cap ≤ maxLen ∧ cur.size = cap * 3
theorem HasEnts.marked {w w' : World} {lo hi lo' hi' n : Nat} {v : Value} (h : HasEnts w lo hi v n) (hm : Marked lo' hi' w w') : HasEnts w' lo hi v n := by
  rcases h with h | ⟨g, cap, cur, h1, h2, h3, h4, h5, h6, h7⟩
  · exact .inl h
  · obtain ⟨c, e1, e2⟩ := hm.ints _ _ _ _ h4
    exact .inr ⟨g, cap, c, h1, h2, h3, e1, h5, h6, e2.trans h7⟩
theorem HasEnts.below {w w' : World} {lo hi n : Nat} {v : Value} (h : HasEnts w lo hi v n) (hb : Below w.heap.size w w') : HasEnts w' lo hi v n := by
  rcases h with h | ⟨g, cap, cur, h1, h2, h3, h4, h5⟩
  · exact .inl h
  · exact .inr ⟨g, cap, cur, h1, h2, h3, (hb.block g (heap_lt h4)).trans h4, h5⟩
theorem EntNew.has {w : World} {B lo hi : Nat} {v : Value} {l : List Ent} (h : EntNew w B v l) (hl : lo ≤ B) (hh : w.heap.size ≤ hi) : HasEnts w lo hi v l.length := by
  obtain ⟨xs, h1, _⟩ := h
  rcases h1.2 with ⟨rfl, hn⟩ | ⟨g, cap, cur, rfl, hb, hg, hnc, hcm, hcs, htake⟩
  · exact .inl ⟨rfl, hn⟩
  · exact .inr ⟨g, cap, cur, rfl, by omega, by have := heap_lt hg; omega, hg, hnc, hcm, hcs⟩
def TabHas (w : World) (lo hi : Nat) (v : Value) (ll : List (List Ent)) : Prop :=
  ∃ (g : Nat) (vs : List Value), v = .slice (some ⟨g, 0, none⟩) ll.length ll.length ∧ vs.length = ll.length ∧ w.ownsRow g 42 1 v ll.length vs ∧ ∀ i, i < ll.length → HasEnts w lo hi (vs.getD i undef) (ll.getD i []).length
theorem TabHas.below {w w' : World} {lo hi : Nat} {v : Value} {ll : List (List Ent)} (h : TabHas w lo hi v ll) (hb : Below w.heap.size w w') : TabHas w' lo hi v ll := by
  obtain ⟨g, vs, h1, h2, h3, h4⟩ := h
  exact ⟨g, vs, h1, h2, owns_belowR h3 hb, fun i hi => (h4 i hi).below hb⟩
theorem TabNew.has {w : World} {lo hi : Nat} {v : Value} {ll : List (List Ent)} (h : TabNew w lo v ll) (hh : w.heap.size ≤ hi) : TabHas w lo hi v ll := by
  obtain ⟨g, vs, h1, h2, h3, h4, h5⟩ := h
  exact ⟨g, vs, h2, h3, h4, fun i hi => (h5 i hi).has (by omega) hh⟩
theorem owns_marked {w w' : World} {g lo hi n : Nat} {T : TypeId} {v : Value} {vs : List Value} (h : w.ownsRow g T 1 v n vs) (hT : T ≠ 3) (hE : T ≠ 45) (hm : Marked lo hi w w') : w'.ownsRow g T 1 v n vs := by
  refine ⟨h.1, ?_⟩
  rcases h.2 with h' | ⟨g', cap, cur, h1, h2, h3, h4⟩
  · exact .inl h'
  · exact .inr ⟨g', cap, cur, h1, h2, (hm.other _ _ _ _ h3 hT hE).trans h3, h4⟩
def MarksPost (lo hi : Nat) (most : Int) (w : World) (e : Ending) (w' : World) : Prop := ∃ k : Int, e = .returned (.int .i64 k) ∧ 0 ≤ k ∧ k ≤ most ∧ Marked lo hi w w'
end Go.Proofs.YtlpibfafpljedaaGreatDoor
