/- impl.forwarding. -/
import Derived.Test.YtlpibfafpljedaaGreatDoorPut
namespace Go.Proofs.YtlpibfafpljedaaGreatDoor
open Go.RowKit
set_option linter.unusedVariables false

def TabsAt (w : World) (v : Value) (ls : List (List Ent)) : Prop := ∃ f, SliceAt w v ls.length f ∧ ∀ i, i < ls.length → EntsAt w (f i) (ls.getD i [])
theorem TabsAt.below {w w' : World} {v : Value} {ls : List (List Ent)} (h : TabsAt w v ls) (hb : Below w.heap.size w w') : TabsAt w' v ls := by
  obtain ⟨f, h1, h2⟩ := h
  exact ⟨f, h1.below hb, fun i hi => (h2 i hi).below hb⟩
theorem TabsAt.form {w : World} {v : Value} {ls : List (List Ent)} (h : TabsAt w v ls) : ∃ a cap, v = .slice a ls.length cap ∧ ls.length ≤ cap ∧ cap ≤ 9223372036854775807 := by
  obtain ⟨f, h, _⟩ := h; exact h.form
theorem TabsAt.get {w : World} {a : Option Addr} {n cap : Nat} {ls : List (List Ent)} (h : TabsAt w (.slice a n cap) ls) (i : Nat) (hi : i < n) :
    ∃ b off v, a = some ⟨b, off, none⟩ ∧ b < w.heap.size ∧ w.cell? ⟨b, off + i, none⟩ = some v ∧ EntsAt w v (ls.getD i []) := by
  obtain ⟨a', c', e, hc, hm⟩ := h.form
  simp only [Value.slice.injEq] at e
  obtain ⟨_, rfl, rfl⟩ := e
  obtain ⟨f, h1, h2⟩ := h
  obtain ⟨b, off, e, hb, hx⟩ := h1.get i hi
  exact ⟨b, off, f i, e, hb, hx, h2 i hi⟩
def tablesOkF (ls : List (List Ent)) : Bool := decide (1 ≤ ls.length) && decide (ls.length ≤ 5) && (List.range ls.length).all fun i => tableOkF (ls.getD i [])
theorem tablesOk_good {ls : List (List Ent)} (h1 : 1 ≤ ls.length) (h5 : ls.length ≤ 5) (h : ∀ i, i < ls.length → tableOkF (ls.getD i []) = true) : tablesOkF ls = true := by
  unfold tablesOkF
  rw [decide_eq_true h1, decide_eq_true h5, Bool.true_and, Bool.true_and, List.all_eq_true]
  intro i hi; exact h i (by simpa using hi)
theorem tablesOk_bad {ls : List (List Ent)} {i : Nat} (hi : i < ls.length) (h : tableOkF (ls.getD i []) = false) : tablesOkF ls = false := by
  unfold tablesOkF
  rw [Bool.and_eq_false_iff]; right; rw [List.all_eq_false]
  exact ⟨i, by simpa using hi, by rw [h]; simp⟩
theorem tablesOk_len {ls : List (List Ent)} (h : ls.length < 1 ∨ 5 < ls.length) : tablesOkF ls = false := by
  unfold tablesOkF
  rcases h with h | h
  · rw [decide_eq_false (by omega)]; simp
  · rw [decide_eq_false (by omega : ¬ ls.length ≤ 5)]; simp
theorem tablesOk_at {ls : List (List Ent)} (h : tablesOkF ls = true) : 1 ≤ ls.length ∧ ls.length ≤ 5 ∧ ∀ i, i < ls.length → tableOkF (ls.getD i []) = true := by
  unfold tablesOkF at h
  rw [Bool.and_eq_true, Bool.and_eq_true, List.all_eq_true] at h
  exact ⟨by simpa using h.1.1, by simpa using h.1.2, fun i hi => h.2 i (by simpa using hi)⟩

def TrieAt (W : World) (lo root : Nat) (l : List Ent) : Prop := ∃ m, IsTrie W lo m (vF l) ∧ m 0 0 = some root
theorem TrieAt.keep {W W' : World} {lo lo' root : Nat} {l : List Ent} (h : TrieAt W lo root l) (hlo : lo' ≤ lo) (hb : ∀ b c, lo ≤ b → W.heap[b]? = some (.cells c 109 (0, 0)) → W'.heap[b]? = W.heap[b]?) : TrieAt W' lo' root l := by
  obtain ⟨m, hT, hr⟩ := h
  refine ⟨m, ⟨fun k p b hm => ?_, hT.inj, hT.zero, hT.shut⟩, hr⟩
  obtain ⟨h1, h2⟩ := hT.node k p b hm
  exact ⟨Nat.le_trans hlo h1, (hb b _ h1 h2).trans h2⟩
def findV (root : Nat) : Value := .func (.func 50) #[.pointer (some ⟨root, 0, none⟩)] #[]
/-- In block F lies a slice of the finders of some tables. -/
structure FindAt (W : World) (F : Nat) (fv : Value) (xs : List Value) (ls : List (List Ent)) : Prop where
  cell : W.cell? ⟨F, 0, none⟩ = some fv
  free : W.frozen? ⟨F, 0, none⟩ = false
  own : W.ownsRow (F + 1) 75 1 fv ls.length xs
  tries : ∀ i, i < ls.length → ∃ root, xs.getD i undef = findV root ∧ TrieAt W (F + 1) root (ls.getD i [])
theorem FindAt.lt {W : World} {F : Nat} {fv : Value} {xs : List Value} {ls : List (List Ent)} (h : FindAt W F fv xs ls) : F < W.heap.size := by
  by_cases hlt : F < W.heap.size
  · exact hlt
  · have := h.cell; unfold World.cell? at this; rw [Array.getElem?_eq_none (by simp; omega)] at this; simp at this
theorem FindAt.below {W W' : World} {F : Nat} {fv : Value} {xs : List Value} {ls : List (List Ent)} (h : FindAt W F fv xs ls) (hb : Below W.heap.size W W') : FindAt W' F fv xs ls :=
  ⟨(hb.cell (p := ⟨F, 0, none⟩) h.lt).trans h.cell, (hb.frozen (p := ⟨F, 0, none⟩) h.lt).trans h.free, owns_belowR h.own hb, fun i hi => by
    obtain ⟨root, h1, h2⟩ := h.tries i hi
    exact ⟨root, h1, h2.keep (Nat.le_refl _) (fun b c _ hc => hb.block b (heap_lt hc))⟩⟩
theorem FindAt.push {W W1 : World} {F root : Nat} {fv v' : Value} {xs : List Value} {ls : List (List Ent)} {l : List Ent} (h : FindAt W F fv xs ls) (hT : TrieAt W (F + 1) root l) (hg : W.grownBy W1 fv.ownBlock)
    (hown : W1.ownsRow (F + 1) 75 1 v' (ls.length + 1) (xs ++ [findV root])) : FindAt (W1.setCell ⟨F, 0, none⟩ v') F v' (xs ++ [findV root]) (ls ++ [l]) := by
  have hF := h.lt
  have hFg : fv.ownBlock ≠ some F := fun e => by have := (World.ownsRow.lt h.own F e).1; omega
  have hFb : W1.heap[F]? = W.heap[F]? := hg.block F hF (by intro e; exact hFg e.symm)
  have hkeep : ∀ b c, F + 1 ≤ b → W.heap[b]? = some (.cells c 109 (0, 0)) → (W1.setCell ⟨F, 0, none⟩ v').heap[b]? = W.heap[b]? := fun b c hb hc => by
    rw [Below.heap_setCell _ _ _ _ (by simp; omega)]
    refine hg.block b (heap_lt hc) ?_
    intro e
    rcases h.own.2 with ⟨e1, _⟩ | ⟨g, cap, cur, e1, _, e3, _⟩
    · rw [e1] at e; simp [Value.ownBlock] at e
    · rw [e1] at e; simp [Value.ownBlock] at e
      subst e
      rw [e3] at hc; simp at hc
  have hxl : xs.length = ls.length := by have := h.own.1; omega
  refine ⟨World.cell?_setCell_same _ _ _ ((World.cell?_of_block (w := W) hFb).trans h.cell), ?_, ?_, fun i hi => ?_⟩
  · simp only [World.frozen?_setCell]
    exact (World.frozen?_of_block (w := W) hFb).trans h.free
  · refine ⟨by have := hown.1; simp at this ⊢; omega, ?_⟩
    rw [List.length_append, List.length_singleton]
    rcases hown.2 with h' | ⟨g, cap, cur, e1, e2, e3, e4⟩
    · exact .inl h'
    · exact .inr ⟨g, cap, cur, e1, e2, (Below.heap_setCell _ _ _ _ (by simp; omega)).trans e3, e4⟩
  · rw [List.length_append, List.length_singleton] at hi
    by_cases hil : i < ls.length
    · obtain ⟨root', h1, h2⟩ := h.tries i hil
      refine ⟨root', ?_, ?_⟩
      · rw [← h1]; simp only [List.getD_eq_getElem?_getD]; rw [List.getElem?_append_left (by omega)]
      · have e : (ls ++ [l]).getD i [] = ls.getD i [] := by simp only [List.getD_eq_getElem?_getD]; rw [List.getElem?_append_left hil]
        rw [e]; exact h2.keep (Nat.le_refl _) hkeep
    · obtain rfl : i = ls.length := by omega
      refine ⟨root, ?_, ?_⟩
      · simp only [List.getD_eq_getElem?_getD]; rw [List.getElem?_append_right (by omega), hxl]; simp
      · have e : (ls ++ [l]).getD ls.length [] = l := by simp
        rw [e]; exact hT.keep (Nat.le_refl _) hkeep
end Go.Proofs.YtlpibfafpljedaaGreatDoor
