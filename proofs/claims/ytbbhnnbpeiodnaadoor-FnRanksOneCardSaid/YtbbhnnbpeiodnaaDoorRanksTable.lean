/- Reading words with a bound from below, that stay where a reader's block alone is written; literals of ways. -/
import Derived.Test.YtbbhnnbpeiodnaaDoorRanksPickAll
import Derived.Test.YtbbhnnbpeiodnaaDoorRanksCopy
namespace Go.Proofs.YtbbhnnbpeiodnaaDoor
open Go.RowKit
set_option linter.unusedVariables false

def LowB (lo : Nat) (v : Value) : Prop := ∀ b, v.ownBlock = some b → lo ≤ b
theorem Only.of_trans {k : Nat} {a b : World} (h : Only k a b) : ∀ b', b' < a.heap.size → b' ≠ k → b.heap[b']? = a.heap[b']? := h.block
theorem SliceAt.only {w w' : World} {v : Value} {n k lo : Nat} {f : Nat → Value} (h : SliceAt w v n f) (hl : LowB lo v) (ho : Only k w w') (hk : k < lo) : SliceAt w' v n f := by
  obtain ⟨a, cap, rfl, hc, hm, h⟩ := h
  refine ⟨a, cap, rfl, hc, hm, ?_⟩
  rcases h with h | ⟨b, off, rfl, hlt, hcell⟩
  · exact .inl h
  · have hb := hl b rfl
    exact .inr ⟨b, off, rfl, Nat.lt_of_lt_of_le hlt ho.size, fun i hi => (ho.cell (p := ⟨b, off + i, none⟩) hlt (by show b ≠ k; omega)).trans (hcell i hi)⟩
/-- numbers in a block of numbers, from lo on -/
def IntsTy (w : World) (lo : Nat) (v : Value) (l : List Int) : Prop := IntsAt w v l ∧ LowB lo v ∧ ∀ b, v.ownBlock = some b → ∃ cur mk, w.heap[b]? = some (.cells cur 3 mk)
theorem heap_lt {w : World} {b : Nat} {o : Obj} (h : w.heap[b]? = some o) : b < w.heap.size := by
  by_cases hlt : b < w.heap.size
  · exact hlt
  · rw [Array.getElem?_eq_none (by omega)] at h; simp at h
theorem IntsTy.only {w w' : World} {v : Value} {k lo : Nat} {l : List Int} (h : IntsTy w lo v l) (ho : Only k w w') (hk : k < lo) : IntsTy w' lo v l := by
  refine ⟨SliceAt.only h.1 h.2.1 ho hk, h.2.1, fun b hb => ?_⟩
  obtain ⟨cur, mk, hc⟩ := h.2.2 b hb
  exact ⟨cur, mk, (ho.block b (heap_lt hc) (by have := h.2.1 b hb; omega)).trans hc⟩
theorem IntsTy.below {w w' : World} {v : Value} {lo : Nat} {l : List Int} (h : IntsTy w lo v l) (hb : Below w.heap.size w w') : IntsTy w' lo v l := by
  refine ⟨h.1.below hb, h.2.1, fun b hb' => ?_⟩
  obtain ⟨cur, mk, hc⟩ := h.2.2 b hb'
  exact ⟨cur, mk, (hb.block b (heap_lt hc)).trans hc⟩
theorem IntsTy.alloc {w : World} {v : Value} {lo : Nat} {l : List Int} (h : IntsTy w lo v l) (o : Obj) : IntsTy (w.alloc o) lo v l := h.below ((Below.refl _ _).alloc (Nat.le_refl _) o)
/-- a row that is written, of another type, leaves numbers as they were -/
theorem IntsTy.grown {w w' : World} {v : Value} {lo : Nat} {l : List Int} {row : Option Nat} (h : IntsTy w lo v l) (hg : w.grownBy w' row) (hrow : ∀ g, row = some g → ∀ cur mk, w.heap[g]? ≠ some (.cells cur 3 mk)) : IntsTy w' lo v l := by
  have key : ∀ b, v.ownBlock = some b → w'.heap[b]? = w.heap[b]? := fun b hb => by
    obtain ⟨cur, mk, hc⟩ := h.2.2 b hb
    exact hg.block b (heap_lt hc) (by intro e; exact hrow b e.symm cur mk hc)
  refine ⟨?_, h.2.1, fun b hb => ?_⟩
  · obtain ⟨a, cap, rfl, hc, hm, hh⟩ := h.1
    refine ⟨a, cap, rfl, hc, hm, ?_⟩
    rcases hh with hh | ⟨b, off, rfl, hlt, hcell⟩
    · exact .inl hh
    · refine .inr ⟨b, off, rfl, Nat.lt_of_lt_of_le hlt hg.size, fun i hi => ?_⟩
      rw [World.cell?_of_block (key b rfl)]; exact hcell i hi
  · obtain ⟨cur, mk, hc⟩ := h.2.2 b hb
    exact ⟨cur, mk, (key b hb).trans hc⟩
/-- a slice of ways whose numbers lie in blocks of numbers -/
def RowsTb (w : World) (lo : Nat) (v : Value) (ll : List (List Int)) : Prop := ∃ f, SliceAt w v ll.length f ∧ LowB lo v ∧ ∀ i, i < ll.length → IntsTy w lo (f i) (ll.getD i [])
def TableIn (w : World) (lo : Nat) (v : Value) (lll : List (List (List Int))) : Prop := ∃ f, SliceAt w v lll.length f ∧ LowB lo v ∧ ∀ i, i < lll.length → RowsTb w lo (f i) (lll.getD i [])
theorem RowsTb.only {w w' : World} {v : Value} {k lo : Nat} {l : List (List Int)} (h : RowsTb w lo v l) (ho : Only k w w') (hk : k < lo) : RowsTb w' lo v l := by
  obtain ⟨f, h1, h2, h3⟩ := h
  exact ⟨f, h1.only h2 ho hk, h2, fun i hi => (h3 i hi).only ho hk⟩
theorem RowsTb.below {w w' : World} {v : Value} {lo : Nat} {l : List (List Int)} (h : RowsTb w lo v l) (hb : Below w.heap.size w w') : RowsTb w' lo v l := by
  obtain ⟨f, h1, h2, h3⟩ := h
  exact ⟨f, h1.below hb, h2, fun i hi => (h3 i hi).below hb⟩
theorem RowsTb.alloc {w : World} {v : Value} {lo : Nat} {l : List (List Int)} (h : RowsTb w lo v l) (o : Obj) : RowsTb (w.alloc o) lo v l := h.below ((Below.refl _ _).alloc (Nat.le_refl _) o)
theorem RowsTb.rows {w : World} {v : Value} {lo : Nat} {l : List (List Int)} (h : RowsTb w lo v l) : RowsAt w v l := by
  obtain ⟨f, h1, _, h3⟩ := h
  exact ⟨f, h1, fun i hi => (h3 i hi).1⟩
theorem TableIn.only {w w' : World} {v : Value} {k lo : Nat} {l : List (List (List Int))} (h : TableIn w lo v l) (ho : Only k w w') (hk : k < lo) : TableIn w' lo v l := by
  obtain ⟨f, h1, h2, h3⟩ := h
  exact ⟨f, h1.only h2 ho hk, h2, fun i hi => (h3 i hi).only ho hk⟩
theorem TableIn.below {w w' : World} {v : Value} {lo : Nat} {l : List (List (List Int))} (h : TableIn w lo v l) (hb : Below w.heap.size w w') : TableIn w' lo v l := by
  obtain ⟨f, h1, h2, h3⟩ := h
  exact ⟨f, h1.below hb, h2, fun i hi => (h3 i hi).below hb⟩
theorem TableIn.grid {w : World} {v : Value} {lo : Nat} {l : List (List (List Int))} (h : TableIn w lo v l) : GridAt w v l := by
  obtain ⟨f, h1, _, h3⟩ := h
  exact ⟨f, h1, fun i hi => (h3 i hi).rows⟩
theorem sliceAt_lit (w : World) (n : Nat) (hn : w.heap.size = n) (vs : List Value) (T : TypeId) (hm : vs.length ≤ 100) :
    SliceAt (w.alloc (.cells vs.toArray T)) (.slice (some ⟨n, 0, none⟩) vs.length vs.length) vs.length (fun i => vs.getD i undef) := by
  subst hn
  refine ⟨_, _, rfl, Nat.le_refl _, by unfold maxLen; omega, .inr ⟨w.heap.size, 0, rfl, by simp, fun i hi => ?_⟩⟩
  rw [Nat.zero_add, cell_of_row _ _ _ vs.toArray T (0, 0) (heap_alloc_new w _)]
  simp [List.getElem?_eq_getElem hi]
theorem ints_lit (w : World) (n lo : Nat) (hn : w.heap.size = n) (hlo : lo ≤ n) (zs : List Int) (hm : zs.length ≤ 100) :
    IntsTy (w.alloc (.cells (zs.map (Value.int .i64)).toArray 3)) lo (.slice (some ⟨n, 0, none⟩) zs.length zs.length) zs := by
  have h := sliceAt_lit w n hn (zs.map (Value.int .i64)) 3 (by simpa using hm)
  refine ⟨?_, fun b hb => ?_, fun b hb => ?_⟩
  · obtain ⟨a, cap, e, h1, h2, h3⟩ := h
    simp only [List.length_map] at e h1 h3
    refine ⟨a, cap, e, h1, h2, ?_⟩
    rcases h3 with h3 | ⟨b, off, ha, hlt, hc⟩
    · exact .inl h3
    · refine .inr ⟨b, off, ha, hlt, fun i hi => ?_⟩
      rw [hc i hi]; simp [hi]
  · simp [Value.ownBlock] at hb; omega
  · simp [Value.ownBlock] at hb; subst hb; subst hn; exact ⟨_, _, heap_alloc_new w _⟩
theorem rows_lit (w : World) (n lo : Nat) (hn : w.heap.size = n) (hlo : lo ≤ n) (vs : List Value) (ll : List (List Int)) (hl : vs.length = ll.length) (hm : ll.length ≤ 100) (h : ∀ i, i < ll.length → IntsTy w lo (vs.getD i undef) (ll.getD i [])) :
    RowsTb (w.alloc (.cells vs.toArray 24)) lo (.slice (some ⟨n, 0, none⟩) ll.length ll.length) ll := by
  have hs := sliceAt_lit w n hn vs 24 (by omega)
  rw [hl] at hs
  exact ⟨_, hs, fun b hb => (by simp [Value.ownBlock] at hb; omega), fun i hi => (h i hi).alloc _⟩
theorem grid_lit (w : World) (n lo : Nat) (hn : w.heap.size = n) (hlo : lo ≤ n) (vs : List Value) (ll : List (List (List Int))) (hl : vs.length = ll.length) (hm : ll.length ≤ 100) (h : ∀ i, i < ll.length → RowsTb w lo (vs.getD i undef) (ll.getD i [])) :
    TableIn (w.alloc (.cells vs.toArray 27)) lo (.slice (some ⟨n, 0, none⟩) ll.length ll.length) ll := by
  have hs := sliceAt_lit w n hn vs 27 (by omega)
  rw [hl] at hs
  exact ⟨_, hs, fun b hb => (by simp [Value.ownBlock] at hb; omega), fun i hi => (h i hi).alloc _⟩

def tabWorld (w : World) : World := ((((((((((((((((w.alloc (.cells #[.int .i64 1, .int .i64 0] 3)).alloc (.cells #[.int .i64 1, .int .i64 2, .int .i64 0] 3)).alloc (.cells #[.int .i64 1, .int .i64 3, .int .i64 0] 3)).alloc (.cells #[.int .i64 1, .int .i64 2, .int .i64 3, .int .i64 0] 3)).alloc (.cells #[(.slice (some ⟨w.heap.size, 0, none⟩) 2 2), (.slice (some ⟨w.heap.size + 1, 0, none⟩) 3 3), (.slice (some ⟨w.heap.size + 2, 0, none⟩) 3 3), (.slice (some ⟨w.heap.size + 3, 0, none⟩) 4 4)] 24)).alloc (.cells #[.int .i64 2, .int .i64 0] 3)).alloc (.cells #[.int .i64 2, .int .i64 3, .int .i64 0] 3)).alloc (.cells #[.int .i64 2, .int .i64 1, .int .i64 0] 3)).alloc (.cells #[.int .i64 2, .int .i64 3, .int .i64 1, .int .i64 0] 3)).alloc (.cells #[(.slice (some ⟨w.heap.size + 5, 0, none⟩) 2 2), (.slice (some ⟨w.heap.size + 6, 0, none⟩) 3 3), (.slice (some ⟨w.heap.size + 7, 0, none⟩) 3 3), (.slice (some ⟨w.heap.size + 8, 0, none⟩) 4 4)] 24)).alloc (.cells #[.int .i64 3, .int .i64 0] 3)).alloc (.cells #[.int .i64 3, .int .i64 1, .int .i64 0] 3)).alloc (.cells #[.int .i64 3, .int .i64 2, .int .i64 0] 3)).alloc (.cells #[.int .i64 3, .int .i64 1, .int .i64 2, .int .i64 0] 3)).alloc (.cells #[(.slice (some ⟨w.heap.size + 10, 0, none⟩) 2 2), (.slice (some ⟨w.heap.size + 11, 0, none⟩) 3 3), (.slice (some ⟨w.heap.size + 12, 0, none⟩) 3 3), (.slice (some ⟨w.heap.size + 13, 0, none⟩) 4 4)] 24)).alloc (.cells #[(.slice (some ⟨w.heap.size + 4, 0, none⟩) 4 4), (.slice (some ⟨w.heap.size + 9, 0, none⟩) 4 4), (.slice (some ⟨w.heap.size + 14, 0, none⟩) 4 4)] 27))
def tabGrid : List (List (List Int)) := [[[1, 0], [1, 2, 0], [1, 3, 0], [1, 2, 3, 0]], [[2, 0], [2, 3, 0], [2, 1, 0], [2, 3, 1, 0]], [[3, 0], [3, 1, 0], [3, 2, 0], [3, 1, 2, 0]]]
theorem tab_lit (w : World) : TableIn (tabWorld w) w.heap.size (.slice (some ⟨w.heap.size + 15, 0, none⟩) 3 3) tabGrid ∧ Below w.heap.size w (tabWorld w) ∧ (tabWorld w).heap.size = w.heap.size + 16 := by
  unfold tabWorld tabGrid
  have s0 : w.heap.size = w.heap.size := rfl
  have b0 := Below.refl w.heap.size w
  obtain ⟨w1, h1⟩ : ∃ x : World, x = w.alloc (.cells #[.int .i64 1, .int .i64 0] 3) := ⟨_, rfl⟩
  rw [← h1]
  have s1 : w1.heap.size = w.heap.size + 1 := by rw [h1, World.size_alloc, s0]
  have b1 : Below w.heap.size w w1 := by rw [h1]; exact b0.alloc (by rw [s0]; omega) _
  have f0 : IntsTy w1 w.heap.size (.slice (some ⟨w.heap.size, 0, none⟩) 2 2) [1, 0] := by rw [h1]; exact ints_lit w _ w.heap.size s0 (by omega) [1, 0] (by decide)
  obtain ⟨w2, h2⟩ : ∃ x : World, x = w1.alloc (.cells #[.int .i64 1, .int .i64 2, .int .i64 0] 3) := ⟨_, rfl⟩
  rw [← h2]
  have s2 : w2.heap.size = w.heap.size + 2 := by rw [h2, World.size_alloc, s1]
  have b2 : Below w.heap.size w w2 := by rw [h2]; exact b1.alloc (by rw [s1]; omega) _
  have f0 := f0.alloc (.cells #[.int .i64 1, .int .i64 2, .int .i64 0] 3)
  rw [← h2] at f0
  have f1 : IntsTy w2 w.heap.size (.slice (some ⟨w.heap.size + 1, 0, none⟩) 3 3) [1, 2, 0] := by rw [h2]; exact ints_lit w1 _ w.heap.size s1 (by omega) [1, 2, 0] (by decide)
  obtain ⟨w3, h3⟩ : ∃ x : World, x = w2.alloc (.cells #[.int .i64 1, .int .i64 3, .int .i64 0] 3) := ⟨_, rfl⟩
  rw [← h3]
  have s3 : w3.heap.size = w.heap.size + 3 := by rw [h3, World.size_alloc, s2]
  have b3 : Below w.heap.size w w3 := by rw [h3]; exact b2.alloc (by rw [s2]; omega) _
  have f0 := f0.alloc (.cells #[.int .i64 1, .int .i64 3, .int .i64 0] 3)
  rw [← h3] at f0
  have f1 := f1.alloc (.cells #[.int .i64 1, .int .i64 3, .int .i64 0] 3)
  rw [← h3] at f1
  have f2 : IntsTy w3 w.heap.size (.slice (some ⟨w.heap.size + 2, 0, none⟩) 3 3) [1, 3, 0] := by rw [h3]; exact ints_lit w2 _ w.heap.size s2 (by omega) [1, 3, 0] (by decide)
  obtain ⟨w4, h4⟩ : ∃ x : World, x = w3.alloc (.cells #[.int .i64 1, .int .i64 2, .int .i64 3, .int .i64 0] 3) := ⟨_, rfl⟩
  rw [← h4]
  have s4 : w4.heap.size = w.heap.size + 4 := by rw [h4, World.size_alloc, s3]
  have b4 : Below w.heap.size w w4 := by rw [h4]; exact b3.alloc (by rw [s3]; omega) _
  have f0 := f0.alloc (.cells #[.int .i64 1, .int .i64 2, .int .i64 3, .int .i64 0] 3)
  rw [← h4] at f0
  have f1 := f1.alloc (.cells #[.int .i64 1, .int .i64 2, .int .i64 3, .int .i64 0] 3)
  rw [← h4] at f1
  have f2 := f2.alloc (.cells #[.int .i64 1, .int .i64 2, .int .i64 3, .int .i64 0] 3)
  rw [← h4] at f2
  have f3 : IntsTy w4 w.heap.size (.slice (some ⟨w.heap.size + 3, 0, none⟩) 4 4) [1, 2, 3, 0] := by rw [h4]; exact ints_lit w3 _ w.heap.size s3 (by omega) [1, 2, 3, 0] (by decide)
  have g0_4 := f0
  have g1_4 := f1
  have g2_4 := f2
  have g3_4 := f3
  obtain ⟨w5, h5⟩ : ∃ x : World, x = w4.alloc (.cells #[(.slice (some ⟨w.heap.size, 0, none⟩) 2 2), (.slice (some ⟨w.heap.size + 1, 0, none⟩) 3 3), (.slice (some ⟨w.heap.size + 2, 0, none⟩) 3 3), (.slice (some ⟨w.heap.size + 3, 0, none⟩) 4 4)] 24) := ⟨_, rfl⟩
  rw [← h5]
  have s5 : w5.heap.size = w.heap.size + 5 := by rw [h5, World.size_alloc, s4]
  have b5 : Below w.heap.size w w5 := by rw [h5]; exact b4.alloc (by rw [s4]; omega) _
  have f0 := f0.alloc (.cells #[(.slice (some ⟨w.heap.size, 0, none⟩) 2 2), (.slice (some ⟨w.heap.size + 1, 0, none⟩) 3 3), (.slice (some ⟨w.heap.size + 2, 0, none⟩) 3 3), (.slice (some ⟨w.heap.size + 3, 0, none⟩) 4 4)] 24)
  rw [← h5] at f0
  have f1 := f1.alloc (.cells #[(.slice (some ⟨w.heap.size, 0, none⟩) 2 2), (.slice (some ⟨w.heap.size + 1, 0, none⟩) 3 3), (.slice (some ⟨w.heap.size + 2, 0, none⟩) 3 3), (.slice (some ⟨w.heap.size + 3, 0, none⟩) 4 4)] 24)
  rw [← h5] at f1
  have f2 := f2.alloc (.cells #[(.slice (some ⟨w.heap.size, 0, none⟩) 2 2), (.slice (some ⟨w.heap.size + 1, 0, none⟩) 3 3), (.slice (some ⟨w.heap.size + 2, 0, none⟩) 3 3), (.slice (some ⟨w.heap.size + 3, 0, none⟩) 4 4)] 24)
  rw [← h5] at f2
  have f3 := f3.alloc (.cells #[(.slice (some ⟨w.heap.size, 0, none⟩) 2 2), (.slice (some ⟨w.heap.size + 1, 0, none⟩) 3 3), (.slice (some ⟨w.heap.size + 2, 0, none⟩) 3 3), (.slice (some ⟨w.heap.size + 3, 0, none⟩) 4 4)] 24)
  rw [← h5] at f3
  have f4 : RowsTb w5 w.heap.size (.slice (some ⟨w.heap.size + 4, 0, none⟩) 4 4) [[1, 0], [1, 2, 0], [1, 3, 0], [1, 2, 3, 0]] := by
    rw [h5]; refine rows_lit w4 _ w.heap.size s4 (by omega) [(.slice (some ⟨w.heap.size, 0, none⟩) 2 2), (.slice (some ⟨w.heap.size + 1, 0, none⟩) 3 3), (.slice (some ⟨w.heap.size + 2, 0, none⟩) 3 3), (.slice (some ⟨w.heap.size + 3, 0, none⟩) 4 4)] [[1, 0], [1, 2, 0], [1, 3, 0], [1, 2, 3, 0]] rfl (by decide) fun i hi => ?_
    match i, hi with
    | 0, _ => exact g0_4
    | 1, _ => exact g1_4
    | 2, _ => exact g2_4
    | 3, _ => exact g3_4
  obtain ⟨w6, h6⟩ : ∃ x : World, x = w5.alloc (.cells #[.int .i64 2, .int .i64 0] 3) := ⟨_, rfl⟩
  rw [← h6]
  have s6 : w6.heap.size = w.heap.size + 6 := by rw [h6, World.size_alloc, s5]
  have b6 : Below w.heap.size w w6 := by rw [h6]; exact b5.alloc (by rw [s5]; omega) _
  have f4 := f4.alloc (.cells #[.int .i64 2, .int .i64 0] 3)
  rw [← h6] at f4
  have f5 : IntsTy w6 w.heap.size (.slice (some ⟨w.heap.size + 5, 0, none⟩) 2 2) [2, 0] := by rw [h6]; exact ints_lit w5 _ w.heap.size s5 (by omega) [2, 0] (by decide)
  obtain ⟨w7, h7⟩ : ∃ x : World, x = w6.alloc (.cells #[.int .i64 2, .int .i64 3, .int .i64 0] 3) := ⟨_, rfl⟩
  rw [← h7]
  have s7 : w7.heap.size = w.heap.size + 7 := by rw [h7, World.size_alloc, s6]
  have b7 : Below w.heap.size w w7 := by rw [h7]; exact b6.alloc (by rw [s6]; omega) _
  have f4 := f4.alloc (.cells #[.int .i64 2, .int .i64 3, .int .i64 0] 3)
  rw [← h7] at f4
  have f5 := f5.alloc (.cells #[.int .i64 2, .int .i64 3, .int .i64 0] 3)
  rw [← h7] at f5
  have f6 : IntsTy w7 w.heap.size (.slice (some ⟨w.heap.size + 6, 0, none⟩) 3 3) [2, 3, 0] := by rw [h7]; exact ints_lit w6 _ w.heap.size s6 (by omega) [2, 3, 0] (by decide)
  obtain ⟨w8, h8⟩ : ∃ x : World, x = w7.alloc (.cells #[.int .i64 2, .int .i64 1, .int .i64 0] 3) := ⟨_, rfl⟩
  rw [← h8]
  have s8 : w8.heap.size = w.heap.size + 8 := by rw [h8, World.size_alloc, s7]
  have b8 : Below w.heap.size w w8 := by rw [h8]; exact b7.alloc (by rw [s7]; omega) _
  have f4 := f4.alloc (.cells #[.int .i64 2, .int .i64 1, .int .i64 0] 3)
  rw [← h8] at f4
  have f5 := f5.alloc (.cells #[.int .i64 2, .int .i64 1, .int .i64 0] 3)
  rw [← h8] at f5
  have f6 := f6.alloc (.cells #[.int .i64 2, .int .i64 1, .int .i64 0] 3)
  rw [← h8] at f6
  have f7 : IntsTy w8 w.heap.size (.slice (some ⟨w.heap.size + 7, 0, none⟩) 3 3) [2, 1, 0] := by rw [h8]; exact ints_lit w7 _ w.heap.size s7 (by omega) [2, 1, 0] (by decide)
  obtain ⟨w9, h9⟩ : ∃ x : World, x = w8.alloc (.cells #[.int .i64 2, .int .i64 3, .int .i64 1, .int .i64 0] 3) := ⟨_, rfl⟩
  rw [← h9]
  have s9 : w9.heap.size = w.heap.size + 9 := by rw [h9, World.size_alloc, s8]
  have b9 : Below w.heap.size w w9 := by rw [h9]; exact b8.alloc (by rw [s8]; omega) _
  have f4 := f4.alloc (.cells #[.int .i64 2, .int .i64 3, .int .i64 1, .int .i64 0] 3)
  rw [← h9] at f4
  have f5 := f5.alloc (.cells #[.int .i64 2, .int .i64 3, .int .i64 1, .int .i64 0] 3)
  rw [← h9] at f5
  have f6 := f6.alloc (.cells #[.int .i64 2, .int .i64 3, .int .i64 1, .int .i64 0] 3)
  rw [← h9] at f6
  have f7 := f7.alloc (.cells #[.int .i64 2, .int .i64 3, .int .i64 1, .int .i64 0] 3)
  rw [← h9] at f7
  have f8 : IntsTy w9 w.heap.size (.slice (some ⟨w.heap.size + 8, 0, none⟩) 4 4) [2, 3, 1, 0] := by rw [h9]; exact ints_lit w8 _ w.heap.size s8 (by omega) [2, 3, 1, 0] (by decide)
  have g5_9 := f5
  have g6_9 := f6
  have g7_9 := f7
  have g8_9 := f8
  obtain ⟨w10, h10⟩ : ∃ x : World, x = w9.alloc (.cells #[(.slice (some ⟨w.heap.size + 5, 0, none⟩) 2 2), (.slice (some ⟨w.heap.size + 6, 0, none⟩) 3 3), (.slice (some ⟨w.heap.size + 7, 0, none⟩) 3 3), (.slice (some ⟨w.heap.size + 8, 0, none⟩) 4 4)] 24) := ⟨_, rfl⟩
  rw [← h10]
  have s10 : w10.heap.size = w.heap.size + 10 := by rw [h10, World.size_alloc, s9]
  have b10 : Below w.heap.size w w10 := by rw [h10]; exact b9.alloc (by rw [s9]; omega) _
  have f4 := f4.alloc (.cells #[(.slice (some ⟨w.heap.size + 5, 0, none⟩) 2 2), (.slice (some ⟨w.heap.size + 6, 0, none⟩) 3 3), (.slice (some ⟨w.heap.size + 7, 0, none⟩) 3 3), (.slice (some ⟨w.heap.size + 8, 0, none⟩) 4 4)] 24)
  rw [← h10] at f4
  have f5 := f5.alloc (.cells #[(.slice (some ⟨w.heap.size + 5, 0, none⟩) 2 2), (.slice (some ⟨w.heap.size + 6, 0, none⟩) 3 3), (.slice (some ⟨w.heap.size + 7, 0, none⟩) 3 3), (.slice (some ⟨w.heap.size + 8, 0, none⟩) 4 4)] 24)
  rw [← h10] at f5
  have f6 := f6.alloc (.cells #[(.slice (some ⟨w.heap.size + 5, 0, none⟩) 2 2), (.slice (some ⟨w.heap.size + 6, 0, none⟩) 3 3), (.slice (some ⟨w.heap.size + 7, 0, none⟩) 3 3), (.slice (some ⟨w.heap.size + 8, 0, none⟩) 4 4)] 24)
  rw [← h10] at f6
  have f7 := f7.alloc (.cells #[(.slice (some ⟨w.heap.size + 5, 0, none⟩) 2 2), (.slice (some ⟨w.heap.size + 6, 0, none⟩) 3 3), (.slice (some ⟨w.heap.size + 7, 0, none⟩) 3 3), (.slice (some ⟨w.heap.size + 8, 0, none⟩) 4 4)] 24)
  rw [← h10] at f7
  have f8 := f8.alloc (.cells #[(.slice (some ⟨w.heap.size + 5, 0, none⟩) 2 2), (.slice (some ⟨w.heap.size + 6, 0, none⟩) 3 3), (.slice (some ⟨w.heap.size + 7, 0, none⟩) 3 3), (.slice (some ⟨w.heap.size + 8, 0, none⟩) 4 4)] 24)
  rw [← h10] at f8
  have f9 : RowsTb w10 w.heap.size (.slice (some ⟨w.heap.size + 9, 0, none⟩) 4 4) [[2, 0], [2, 3, 0], [2, 1, 0], [2, 3, 1, 0]] := by
    rw [h10]; refine rows_lit w9 _ w.heap.size s9 (by omega) [(.slice (some ⟨w.heap.size + 5, 0, none⟩) 2 2), (.slice (some ⟨w.heap.size + 6, 0, none⟩) 3 3), (.slice (some ⟨w.heap.size + 7, 0, none⟩) 3 3), (.slice (some ⟨w.heap.size + 8, 0, none⟩) 4 4)] [[2, 0], [2, 3, 0], [2, 1, 0], [2, 3, 1, 0]] rfl (by decide) fun i hi => ?_
    match i, hi with
    | 0, _ => exact g5_9
    | 1, _ => exact g6_9
    | 2, _ => exact g7_9
    | 3, _ => exact g8_9
  obtain ⟨w11, h11⟩ : ∃ x : World, x = w10.alloc (.cells #[.int .i64 3, .int .i64 0] 3) := ⟨_, rfl⟩
  rw [← h11]
  have s11 : w11.heap.size = w.heap.size + 11 := by rw [h11, World.size_alloc, s10]
  have b11 : Below w.heap.size w w11 := by rw [h11]; exact b10.alloc (by rw [s10]; omega) _
  have f4 := f4.alloc (.cells #[.int .i64 3, .int .i64 0] 3)
  rw [← h11] at f4
  have f9 := f9.alloc (.cells #[.int .i64 3, .int .i64 0] 3)
  rw [← h11] at f9
  have f10 : IntsTy w11 w.heap.size (.slice (some ⟨w.heap.size + 10, 0, none⟩) 2 2) [3, 0] := by rw [h11]; exact ints_lit w10 _ w.heap.size s10 (by omega) [3, 0] (by decide)
  obtain ⟨w12, h12⟩ : ∃ x : World, x = w11.alloc (.cells #[.int .i64 3, .int .i64 1, .int .i64 0] 3) := ⟨_, rfl⟩
  rw [← h12]
  have s12 : w12.heap.size = w.heap.size + 12 := by rw [h12, World.size_alloc, s11]
  have b12 : Below w.heap.size w w12 := by rw [h12]; exact b11.alloc (by rw [s11]; omega) _
  have f4 := f4.alloc (.cells #[.int .i64 3, .int .i64 1, .int .i64 0] 3)
  rw [← h12] at f4
  have f9 := f9.alloc (.cells #[.int .i64 3, .int .i64 1, .int .i64 0] 3)
  rw [← h12] at f9
  have f10 := f10.alloc (.cells #[.int .i64 3, .int .i64 1, .int .i64 0] 3)
  rw [← h12] at f10
  have f11 : IntsTy w12 w.heap.size (.slice (some ⟨w.heap.size + 11, 0, none⟩) 3 3) [3, 1, 0] := by rw [h12]; exact ints_lit w11 _ w.heap.size s11 (by omega) [3, 1, 0] (by decide)
  obtain ⟨w13, h13⟩ : ∃ x : World, x = w12.alloc (.cells #[.int .i64 3, .int .i64 2, .int .i64 0] 3) := ⟨_, rfl⟩
  rw [← h13]
  have s13 : w13.heap.size = w.heap.size + 13 := by rw [h13, World.size_alloc, s12]
  have b13 : Below w.heap.size w w13 := by rw [h13]; exact b12.alloc (by rw [s12]; omega) _
  have f4 := f4.alloc (.cells #[.int .i64 3, .int .i64 2, .int .i64 0] 3)
  rw [← h13] at f4
  have f9 := f9.alloc (.cells #[.int .i64 3, .int .i64 2, .int .i64 0] 3)
  rw [← h13] at f9
  have f10 := f10.alloc (.cells #[.int .i64 3, .int .i64 2, .int .i64 0] 3)
  rw [← h13] at f10
  have f11 := f11.alloc (.cells #[.int .i64 3, .int .i64 2, .int .i64 0] 3)
  rw [← h13] at f11
  have f12 : IntsTy w13 w.heap.size (.slice (some ⟨w.heap.size + 12, 0, none⟩) 3 3) [3, 2, 0] := by rw [h13]; exact ints_lit w12 _ w.heap.size s12 (by omega) [3, 2, 0] (by decide)
  obtain ⟨w14, h14⟩ : ∃ x : World, x = w13.alloc (.cells #[.int .i64 3, .int .i64 1, .int .i64 2, .int .i64 0] 3) := ⟨_, rfl⟩
  rw [← h14]
  have s14 : w14.heap.size = w.heap.size + 14 := by rw [h14, World.size_alloc, s13]
  have b14 : Below w.heap.size w w14 := by rw [h14]; exact b13.alloc (by rw [s13]; omega) _
  have f4 := f4.alloc (.cells #[.int .i64 3, .int .i64 1, .int .i64 2, .int .i64 0] 3)
  rw [← h14] at f4
  have f9 := f9.alloc (.cells #[.int .i64 3, .int .i64 1, .int .i64 2, .int .i64 0] 3)
  rw [← h14] at f9
  have f10 := f10.alloc (.cells #[.int .i64 3, .int .i64 1, .int .i64 2, .int .i64 0] 3)
  rw [← h14] at f10
  have f11 := f11.alloc (.cells #[.int .i64 3, .int .i64 1, .int .i64 2, .int .i64 0] 3)
  rw [← h14] at f11
  have f12 := f12.alloc (.cells #[.int .i64 3, .int .i64 1, .int .i64 2, .int .i64 0] 3)
  rw [← h14] at f12
  have f13 : IntsTy w14 w.heap.size (.slice (some ⟨w.heap.size + 13, 0, none⟩) 4 4) [3, 1, 2, 0] := by rw [h14]; exact ints_lit w13 _ w.heap.size s13 (by omega) [3, 1, 2, 0] (by decide)
  have g10_14 := f10
  have g11_14 := f11
  have g12_14 := f12
  have g13_14 := f13
  obtain ⟨w15, h15⟩ : ∃ x : World, x = w14.alloc (.cells #[(.slice (some ⟨w.heap.size + 10, 0, none⟩) 2 2), (.slice (some ⟨w.heap.size + 11, 0, none⟩) 3 3), (.slice (some ⟨w.heap.size + 12, 0, none⟩) 3 3), (.slice (some ⟨w.heap.size + 13, 0, none⟩) 4 4)] 24) := ⟨_, rfl⟩
  rw [← h15]
  have s15 : w15.heap.size = w.heap.size + 15 := by rw [h15, World.size_alloc, s14]
  have b15 : Below w.heap.size w w15 := by rw [h15]; exact b14.alloc (by rw [s14]; omega) _
  have f4 := f4.alloc (.cells #[(.slice (some ⟨w.heap.size + 10, 0, none⟩) 2 2), (.slice (some ⟨w.heap.size + 11, 0, none⟩) 3 3), (.slice (some ⟨w.heap.size + 12, 0, none⟩) 3 3), (.slice (some ⟨w.heap.size + 13, 0, none⟩) 4 4)] 24)
  rw [← h15] at f4
  have f9 := f9.alloc (.cells #[(.slice (some ⟨w.heap.size + 10, 0, none⟩) 2 2), (.slice (some ⟨w.heap.size + 11, 0, none⟩) 3 3), (.slice (some ⟨w.heap.size + 12, 0, none⟩) 3 3), (.slice (some ⟨w.heap.size + 13, 0, none⟩) 4 4)] 24)
  rw [← h15] at f9
  have f10 := f10.alloc (.cells #[(.slice (some ⟨w.heap.size + 10, 0, none⟩) 2 2), (.slice (some ⟨w.heap.size + 11, 0, none⟩) 3 3), (.slice (some ⟨w.heap.size + 12, 0, none⟩) 3 3), (.slice (some ⟨w.heap.size + 13, 0, none⟩) 4 4)] 24)
  rw [← h15] at f10
  have f11 := f11.alloc (.cells #[(.slice (some ⟨w.heap.size + 10, 0, none⟩) 2 2), (.slice (some ⟨w.heap.size + 11, 0, none⟩) 3 3), (.slice (some ⟨w.heap.size + 12, 0, none⟩) 3 3), (.slice (some ⟨w.heap.size + 13, 0, none⟩) 4 4)] 24)
  rw [← h15] at f11
  have f12 := f12.alloc (.cells #[(.slice (some ⟨w.heap.size + 10, 0, none⟩) 2 2), (.slice (some ⟨w.heap.size + 11, 0, none⟩) 3 3), (.slice (some ⟨w.heap.size + 12, 0, none⟩) 3 3), (.slice (some ⟨w.heap.size + 13, 0, none⟩) 4 4)] 24)
  rw [← h15] at f12
  have f13 := f13.alloc (.cells #[(.slice (some ⟨w.heap.size + 10, 0, none⟩) 2 2), (.slice (some ⟨w.heap.size + 11, 0, none⟩) 3 3), (.slice (some ⟨w.heap.size + 12, 0, none⟩) 3 3), (.slice (some ⟨w.heap.size + 13, 0, none⟩) 4 4)] 24)
  rw [← h15] at f13
  have f14 : RowsTb w15 w.heap.size (.slice (some ⟨w.heap.size + 14, 0, none⟩) 4 4) [[3, 0], [3, 1, 0], [3, 2, 0], [3, 1, 2, 0]] := by
    rw [h15]; refine rows_lit w14 _ w.heap.size s14 (by omega) [(.slice (some ⟨w.heap.size + 10, 0, none⟩) 2 2), (.slice (some ⟨w.heap.size + 11, 0, none⟩) 3 3), (.slice (some ⟨w.heap.size + 12, 0, none⟩) 3 3), (.slice (some ⟨w.heap.size + 13, 0, none⟩) 4 4)] [[3, 0], [3, 1, 0], [3, 2, 0], [3, 1, 2, 0]] rfl (by decide) fun i hi => ?_
    match i, hi with
    | 0, _ => exact g10_14
    | 1, _ => exact g11_14
    | 2, _ => exact g12_14
    | 3, _ => exact g13_14
  have g4_15 := f4
  have g9_15 := f9
  have g14_15 := f14
  obtain ⟨w16, h16⟩ : ∃ x : World, x = w15.alloc (.cells #[(.slice (some ⟨w.heap.size + 4, 0, none⟩) 4 4), (.slice (some ⟨w.heap.size + 9, 0, none⟩) 4 4), (.slice (some ⟨w.heap.size + 14, 0, none⟩) 4 4)] 27) := ⟨_, rfl⟩
  rw [← h16]
  have s16 : w16.heap.size = w.heap.size + 16 := by rw [h16, World.size_alloc, s15]
  have b16 : Below w.heap.size w w16 := by rw [h16]; exact b15.alloc (by rw [s15]; omega) _
  have f4 := f4.alloc (.cells #[(.slice (some ⟨w.heap.size + 4, 0, none⟩) 4 4), (.slice (some ⟨w.heap.size + 9, 0, none⟩) 4 4), (.slice (some ⟨w.heap.size + 14, 0, none⟩) 4 4)] 27)
  rw [← h16] at f4
  have f9 := f9.alloc (.cells #[(.slice (some ⟨w.heap.size + 4, 0, none⟩) 4 4), (.slice (some ⟨w.heap.size + 9, 0, none⟩) 4 4), (.slice (some ⟨w.heap.size + 14, 0, none⟩) 4 4)] 27)
  rw [← h16] at f9
  have f14 := f14.alloc (.cells #[(.slice (some ⟨w.heap.size + 4, 0, none⟩) 4 4), (.slice (some ⟨w.heap.size + 9, 0, none⟩) 4 4), (.slice (some ⟨w.heap.size + 14, 0, none⟩) 4 4)] 27)
  rw [← h16] at f14
  have f15 : TableIn w16 w.heap.size (.slice (some ⟨w.heap.size + 15, 0, none⟩) 3 3) [[[1, 0], [1, 2, 0], [1, 3, 0], [1, 2, 3, 0]], [[2, 0], [2, 3, 0], [2, 1, 0], [2, 3, 1, 0]], [[3, 0], [3, 1, 0], [3, 2, 0], [3, 1, 2, 0]]] := by
    rw [h16]; refine grid_lit w15 _ w.heap.size s15 (by omega) [(.slice (some ⟨w.heap.size + 4, 0, none⟩) 4 4), (.slice (some ⟨w.heap.size + 9, 0, none⟩) 4 4), (.slice (some ⟨w.heap.size + 14, 0, none⟩) 4 4)] [[[1, 0], [1, 2, 0], [1, 3, 0], [1, 2, 3, 0]], [[2, 0], [2, 3, 0], [2, 1, 0], [2, 3, 1, 0]], [[3, 0], [3, 1, 0], [3, 2, 0], [3, 1, 2, 0]]] rfl (by decide) fun i hi => ?_
    match i, hi with
    | 0, _ => exact g4_15
    | 1, _ => exact g9_15
    | 2, _ => exact g14_15
  exact ⟨f15, b16, s16⟩

def ringWorld (w : World) : World := ((((((((((w.alloc (.cells #[.int .i64 1, .int .i64 2, .int .i64 0] 3)).alloc (.cells #[.int .i64 1, .int .i64 0] 3)).alloc (.cells #[(.slice (some ⟨w.heap.size, 0, none⟩) 3 3), (.slice (some ⟨w.heap.size + 1, 0, none⟩) 2 2)] 24)).alloc (.cells #[.int .i64 2, .int .i64 3, .int .i64 0] 3)).alloc (.cells #[.int .i64 2, .int .i64 0] 3)).alloc (.cells #[(.slice (some ⟨w.heap.size + 3, 0, none⟩) 3 3), (.slice (some ⟨w.heap.size + 4, 0, none⟩) 2 2)] 24)).alloc (.cells #[.int .i64 3, .int .i64 1, .int .i64 0] 3)).alloc (.cells #[.int .i64 3, .int .i64 0] 3)).alloc (.cells #[(.slice (some ⟨w.heap.size + 6, 0, none⟩) 3 3), (.slice (some ⟨w.heap.size + 7, 0, none⟩) 2 2)] 24)).alloc (.cells #[(.slice (some ⟨w.heap.size + 2, 0, none⟩) 2 2), (.slice (some ⟨w.heap.size + 5, 0, none⟩) 2 2), (.slice (some ⟨w.heap.size + 8, 0, none⟩) 2 2)] 27))
def ringGrid : List (List (List Int)) := [[[1, 2, 0], [1, 0]], [[2, 3, 0], [2, 0]], [[3, 1, 0], [3, 0]]]
theorem ring_lit (w : World) : TableIn (ringWorld w) w.heap.size (.slice (some ⟨w.heap.size + 9, 0, none⟩) 3 3) ringGrid ∧ Below w.heap.size w (ringWorld w) ∧ (ringWorld w).heap.size = w.heap.size + 10 := by
  unfold ringWorld ringGrid
  have s0 : w.heap.size = w.heap.size := rfl
  have b0 := Below.refl w.heap.size w
  obtain ⟨w1, h1⟩ : ∃ x : World, x = w.alloc (.cells #[.int .i64 1, .int .i64 2, .int .i64 0] 3) := ⟨_, rfl⟩
  rw [← h1]
  have s1 : w1.heap.size = w.heap.size + 1 := by rw [h1, World.size_alloc, s0]
  have b1 : Below w.heap.size w w1 := by rw [h1]; exact b0.alloc (by rw [s0]; omega) _
  have f0 : IntsTy w1 w.heap.size (.slice (some ⟨w.heap.size, 0, none⟩) 3 3) [1, 2, 0] := by rw [h1]; exact ints_lit w _ w.heap.size s0 (by omega) [1, 2, 0] (by decide)
  obtain ⟨w2, h2⟩ : ∃ x : World, x = w1.alloc (.cells #[.int .i64 1, .int .i64 0] 3) := ⟨_, rfl⟩
  rw [← h2]
  have s2 : w2.heap.size = w.heap.size + 2 := by rw [h2, World.size_alloc, s1]
  have b2 : Below w.heap.size w w2 := by rw [h2]; exact b1.alloc (by rw [s1]; omega) _
  have f0 := f0.alloc (.cells #[.int .i64 1, .int .i64 0] 3)
  rw [← h2] at f0
  have f1 : IntsTy w2 w.heap.size (.slice (some ⟨w.heap.size + 1, 0, none⟩) 2 2) [1, 0] := by rw [h2]; exact ints_lit w1 _ w.heap.size s1 (by omega) [1, 0] (by decide)
  have g0_2 := f0
  have g1_2 := f1
  obtain ⟨w3, h3⟩ : ∃ x : World, x = w2.alloc (.cells #[(.slice (some ⟨w.heap.size, 0, none⟩) 3 3), (.slice (some ⟨w.heap.size + 1, 0, none⟩) 2 2)] 24) := ⟨_, rfl⟩
  rw [← h3]
  have s3 : w3.heap.size = w.heap.size + 3 := by rw [h3, World.size_alloc, s2]
  have b3 : Below w.heap.size w w3 := by rw [h3]; exact b2.alloc (by rw [s2]; omega) _
  have f0 := f0.alloc (.cells #[(.slice (some ⟨w.heap.size, 0, none⟩) 3 3), (.slice (some ⟨w.heap.size + 1, 0, none⟩) 2 2)] 24)
  rw [← h3] at f0
  have f1 := f1.alloc (.cells #[(.slice (some ⟨w.heap.size, 0, none⟩) 3 3), (.slice (some ⟨w.heap.size + 1, 0, none⟩) 2 2)] 24)
  rw [← h3] at f1
  have f2 : RowsTb w3 w.heap.size (.slice (some ⟨w.heap.size + 2, 0, none⟩) 2 2) [[1, 2, 0], [1, 0]] := by
    rw [h3]; refine rows_lit w2 _ w.heap.size s2 (by omega) [(.slice (some ⟨w.heap.size, 0, none⟩) 3 3), (.slice (some ⟨w.heap.size + 1, 0, none⟩) 2 2)] [[1, 2, 0], [1, 0]] rfl (by decide) fun i hi => ?_
    match i, hi with
    | 0, _ => exact g0_2
    | 1, _ => exact g1_2
  obtain ⟨w4, h4⟩ : ∃ x : World, x = w3.alloc (.cells #[.int .i64 2, .int .i64 3, .int .i64 0] 3) := ⟨_, rfl⟩
  rw [← h4]
  have s4 : w4.heap.size = w.heap.size + 4 := by rw [h4, World.size_alloc, s3]
  have b4 : Below w.heap.size w w4 := by rw [h4]; exact b3.alloc (by rw [s3]; omega) _
  have f2 := f2.alloc (.cells #[.int .i64 2, .int .i64 3, .int .i64 0] 3)
  rw [← h4] at f2
  have f3 : IntsTy w4 w.heap.size (.slice (some ⟨w.heap.size + 3, 0, none⟩) 3 3) [2, 3, 0] := by rw [h4]; exact ints_lit w3 _ w.heap.size s3 (by omega) [2, 3, 0] (by decide)
  obtain ⟨w5, h5⟩ : ∃ x : World, x = w4.alloc (.cells #[.int .i64 2, .int .i64 0] 3) := ⟨_, rfl⟩
  rw [← h5]
  have s5 : w5.heap.size = w.heap.size + 5 := by rw [h5, World.size_alloc, s4]
  have b5 : Below w.heap.size w w5 := by rw [h5]; exact b4.alloc (by rw [s4]; omega) _
  have f2 := f2.alloc (.cells #[.int .i64 2, .int .i64 0] 3)
  rw [← h5] at f2
  have f3 := f3.alloc (.cells #[.int .i64 2, .int .i64 0] 3)
  rw [← h5] at f3
  have f4 : IntsTy w5 w.heap.size (.slice (some ⟨w.heap.size + 4, 0, none⟩) 2 2) [2, 0] := by rw [h5]; exact ints_lit w4 _ w.heap.size s4 (by omega) [2, 0] (by decide)
  have g3_5 := f3
  have g4_5 := f4
  obtain ⟨w6, h6⟩ : ∃ x : World, x = w5.alloc (.cells #[(.slice (some ⟨w.heap.size + 3, 0, none⟩) 3 3), (.slice (some ⟨w.heap.size + 4, 0, none⟩) 2 2)] 24) := ⟨_, rfl⟩
  rw [← h6]
  have s6 : w6.heap.size = w.heap.size + 6 := by rw [h6, World.size_alloc, s5]
  have b6 : Below w.heap.size w w6 := by rw [h6]; exact b5.alloc (by rw [s5]; omega) _
  have f2 := f2.alloc (.cells #[(.slice (some ⟨w.heap.size + 3, 0, none⟩) 3 3), (.slice (some ⟨w.heap.size + 4, 0, none⟩) 2 2)] 24)
  rw [← h6] at f2
  have f3 := f3.alloc (.cells #[(.slice (some ⟨w.heap.size + 3, 0, none⟩) 3 3), (.slice (some ⟨w.heap.size + 4, 0, none⟩) 2 2)] 24)
  rw [← h6] at f3
  have f4 := f4.alloc (.cells #[(.slice (some ⟨w.heap.size + 3, 0, none⟩) 3 3), (.slice (some ⟨w.heap.size + 4, 0, none⟩) 2 2)] 24)
  rw [← h6] at f4
  have f5 : RowsTb w6 w.heap.size (.slice (some ⟨w.heap.size + 5, 0, none⟩) 2 2) [[2, 3, 0], [2, 0]] := by
    rw [h6]; refine rows_lit w5 _ w.heap.size s5 (by omega) [(.slice (some ⟨w.heap.size + 3, 0, none⟩) 3 3), (.slice (some ⟨w.heap.size + 4, 0, none⟩) 2 2)] [[2, 3, 0], [2, 0]] rfl (by decide) fun i hi => ?_
    match i, hi with
    | 0, _ => exact g3_5
    | 1, _ => exact g4_5
  obtain ⟨w7, h7⟩ : ∃ x : World, x = w6.alloc (.cells #[.int .i64 3, .int .i64 1, .int .i64 0] 3) := ⟨_, rfl⟩
  rw [← h7]
  have s7 : w7.heap.size = w.heap.size + 7 := by rw [h7, World.size_alloc, s6]
  have b7 : Below w.heap.size w w7 := by rw [h7]; exact b6.alloc (by rw [s6]; omega) _
  have f2 := f2.alloc (.cells #[.int .i64 3, .int .i64 1, .int .i64 0] 3)
  rw [← h7] at f2
  have f5 := f5.alloc (.cells #[.int .i64 3, .int .i64 1, .int .i64 0] 3)
  rw [← h7] at f5
  have f6 : IntsTy w7 w.heap.size (.slice (some ⟨w.heap.size + 6, 0, none⟩) 3 3) [3, 1, 0] := by rw [h7]; exact ints_lit w6 _ w.heap.size s6 (by omega) [3, 1, 0] (by decide)
  obtain ⟨w8, h8⟩ : ∃ x : World, x = w7.alloc (.cells #[.int .i64 3, .int .i64 0] 3) := ⟨_, rfl⟩
  rw [← h8]
  have s8 : w8.heap.size = w.heap.size + 8 := by rw [h8, World.size_alloc, s7]
  have b8 : Below w.heap.size w w8 := by rw [h8]; exact b7.alloc (by rw [s7]; omega) _
  have f2 := f2.alloc (.cells #[.int .i64 3, .int .i64 0] 3)
  rw [← h8] at f2
  have f5 := f5.alloc (.cells #[.int .i64 3, .int .i64 0] 3)
  rw [← h8] at f5
  have f6 := f6.alloc (.cells #[.int .i64 3, .int .i64 0] 3)
  rw [← h8] at f6
  have f7 : IntsTy w8 w.heap.size (.slice (some ⟨w.heap.size + 7, 0, none⟩) 2 2) [3, 0] := by rw [h8]; exact ints_lit w7 _ w.heap.size s7 (by omega) [3, 0] (by decide)
  have g6_8 := f6
  have g7_8 := f7
  obtain ⟨w9, h9⟩ : ∃ x : World, x = w8.alloc (.cells #[(.slice (some ⟨w.heap.size + 6, 0, none⟩) 3 3), (.slice (some ⟨w.heap.size + 7, 0, none⟩) 2 2)] 24) := ⟨_, rfl⟩
  rw [← h9]
  have s9 : w9.heap.size = w.heap.size + 9 := by rw [h9, World.size_alloc, s8]
  have b9 : Below w.heap.size w w9 := by rw [h9]; exact b8.alloc (by rw [s8]; omega) _
  have f2 := f2.alloc (.cells #[(.slice (some ⟨w.heap.size + 6, 0, none⟩) 3 3), (.slice (some ⟨w.heap.size + 7, 0, none⟩) 2 2)] 24)
  rw [← h9] at f2
  have f5 := f5.alloc (.cells #[(.slice (some ⟨w.heap.size + 6, 0, none⟩) 3 3), (.slice (some ⟨w.heap.size + 7, 0, none⟩) 2 2)] 24)
  rw [← h9] at f5
  have f6 := f6.alloc (.cells #[(.slice (some ⟨w.heap.size + 6, 0, none⟩) 3 3), (.slice (some ⟨w.heap.size + 7, 0, none⟩) 2 2)] 24)
  rw [← h9] at f6
  have f7 := f7.alloc (.cells #[(.slice (some ⟨w.heap.size + 6, 0, none⟩) 3 3), (.slice (some ⟨w.heap.size + 7, 0, none⟩) 2 2)] 24)
  rw [← h9] at f7
  have f8 : RowsTb w9 w.heap.size (.slice (some ⟨w.heap.size + 8, 0, none⟩) 2 2) [[3, 1, 0], [3, 0]] := by
    rw [h9]; refine rows_lit w8 _ w.heap.size s8 (by omega) [(.slice (some ⟨w.heap.size + 6, 0, none⟩) 3 3), (.slice (some ⟨w.heap.size + 7, 0, none⟩) 2 2)] [[3, 1, 0], [3, 0]] rfl (by decide) fun i hi => ?_
    match i, hi with
    | 0, _ => exact g6_8
    | 1, _ => exact g7_8
  have g2_9 := f2
  have g5_9 := f5
  have g8_9 := f8
  obtain ⟨w10, h10⟩ : ∃ x : World, x = w9.alloc (.cells #[(.slice (some ⟨w.heap.size + 2, 0, none⟩) 2 2), (.slice (some ⟨w.heap.size + 5, 0, none⟩) 2 2), (.slice (some ⟨w.heap.size + 8, 0, none⟩) 2 2)] 27) := ⟨_, rfl⟩
  rw [← h10]
  have s10 : w10.heap.size = w.heap.size + 10 := by rw [h10, World.size_alloc, s9]
  have b10 : Below w.heap.size w w10 := by rw [h10]; exact b9.alloc (by rw [s9]; omega) _
  have f2 := f2.alloc (.cells #[(.slice (some ⟨w.heap.size + 2, 0, none⟩) 2 2), (.slice (some ⟨w.heap.size + 5, 0, none⟩) 2 2), (.slice (some ⟨w.heap.size + 8, 0, none⟩) 2 2)] 27)
  rw [← h10] at f2
  have f5 := f5.alloc (.cells #[(.slice (some ⟨w.heap.size + 2, 0, none⟩) 2 2), (.slice (some ⟨w.heap.size + 5, 0, none⟩) 2 2), (.slice (some ⟨w.heap.size + 8, 0, none⟩) 2 2)] 27)
  rw [← h10] at f5
  have f8 := f8.alloc (.cells #[(.slice (some ⟨w.heap.size + 2, 0, none⟩) 2 2), (.slice (some ⟨w.heap.size + 5, 0, none⟩) 2 2), (.slice (some ⟨w.heap.size + 8, 0, none⟩) 2 2)] 27)
  rw [← h10] at f8
  have f9 : TableIn w10 w.heap.size (.slice (some ⟨w.heap.size + 9, 0, none⟩) 3 3) [[[1, 2, 0], [1, 0]], [[2, 3, 0], [2, 0]], [[3, 1, 0], [3, 0]]] := by
    rw [h10]; refine grid_lit w9 _ w.heap.size s9 (by omega) [(.slice (some ⟨w.heap.size + 2, 0, none⟩) 2 2), (.slice (some ⟨w.heap.size + 5, 0, none⟩) 2 2), (.slice (some ⟨w.heap.size + 8, 0, none⟩) 2 2)] [[[1, 2, 0], [1, 0]], [[2, 3, 0], [2, 0]], [[3, 1, 0], [3, 0]]] rfl (by decide) fun i hi => ?_
    match i, hi with
    | 0, _ => exact g2_9
    | 1, _ => exact g5_9
    | 2, _ => exact g8_9
  exact ⟨f9, b10, s10⟩

def twoWorld (w : World) : World := ((((((((w.alloc (.cells #[.int .i64 1, .int .i64 2, .int .i64 0] 3)).alloc (.cells #[.int .i64 1, .int .i64 0] 3)).alloc (.cells #[(.slice (some ⟨w.heap.size, 0, none⟩) 3 3), (.slice (some ⟨w.heap.size + 1, 0, none⟩) 2 2)] 24)).alloc (.cells #[.int .i64 2, .int .i64 1, .int .i64 0] 3)).alloc (.cells #[.int .i64 2, .int .i64 0] 3)).alloc (.cells #[(.slice (some ⟨w.heap.size + 3, 0, none⟩) 3 3), (.slice (some ⟨w.heap.size + 4, 0, none⟩) 2 2)] 24)).alloc (.cells #[] 24)).alloc (.cells #[(.slice (some ⟨w.heap.size + 2, 0, none⟩) 2 2), (.slice (some ⟨w.heap.size + 5, 0, none⟩) 2 2), (.slice (some ⟨w.heap.size + 6, 0, none⟩) 0 0)] 27))
def twoGrid : List (List (List Int)) := [[[1, 2, 0], [1, 0]], [[2, 1, 0], [2, 0]], []]
theorem two_lit (w : World) : TableIn (twoWorld w) w.heap.size (.slice (some ⟨w.heap.size + 7, 0, none⟩) 3 3) twoGrid ∧ Below w.heap.size w (twoWorld w) ∧ (twoWorld w).heap.size = w.heap.size + 8 := by
  unfold twoWorld twoGrid
  have s0 : w.heap.size = w.heap.size := rfl
  have b0 := Below.refl w.heap.size w
  obtain ⟨w1, h1⟩ : ∃ x : World, x = w.alloc (.cells #[.int .i64 1, .int .i64 2, .int .i64 0] 3) := ⟨_, rfl⟩
  rw [← h1]
  have s1 : w1.heap.size = w.heap.size + 1 := by rw [h1, World.size_alloc, s0]
  have b1 : Below w.heap.size w w1 := by rw [h1]; exact b0.alloc (by rw [s0]; omega) _
  have f0 : IntsTy w1 w.heap.size (.slice (some ⟨w.heap.size, 0, none⟩) 3 3) [1, 2, 0] := by rw [h1]; exact ints_lit w _ w.heap.size s0 (by omega) [1, 2, 0] (by decide)
  obtain ⟨w2, h2⟩ : ∃ x : World, x = w1.alloc (.cells #[.int .i64 1, .int .i64 0] 3) := ⟨_, rfl⟩
  rw [← h2]
  have s2 : w2.heap.size = w.heap.size + 2 := by rw [h2, World.size_alloc, s1]
  have b2 : Below w.heap.size w w2 := by rw [h2]; exact b1.alloc (by rw [s1]; omega) _
  have f0 := f0.alloc (.cells #[.int .i64 1, .int .i64 0] 3)
  rw [← h2] at f0
  have f1 : IntsTy w2 w.heap.size (.slice (some ⟨w.heap.size + 1, 0, none⟩) 2 2) [1, 0] := by rw [h2]; exact ints_lit w1 _ w.heap.size s1 (by omega) [1, 0] (by decide)
  have g0_2 := f0
  have g1_2 := f1
  obtain ⟨w3, h3⟩ : ∃ x : World, x = w2.alloc (.cells #[(.slice (some ⟨w.heap.size, 0, none⟩) 3 3), (.slice (some ⟨w.heap.size + 1, 0, none⟩) 2 2)] 24) := ⟨_, rfl⟩
  rw [← h3]
  have s3 : w3.heap.size = w.heap.size + 3 := by rw [h3, World.size_alloc, s2]
  have b3 : Below w.heap.size w w3 := by rw [h3]; exact b2.alloc (by rw [s2]; omega) _
  have f0 := f0.alloc (.cells #[(.slice (some ⟨w.heap.size, 0, none⟩) 3 3), (.slice (some ⟨w.heap.size + 1, 0, none⟩) 2 2)] 24)
  rw [← h3] at f0
  have f1 := f1.alloc (.cells #[(.slice (some ⟨w.heap.size, 0, none⟩) 3 3), (.slice (some ⟨w.heap.size + 1, 0, none⟩) 2 2)] 24)
  rw [← h3] at f1
  have f2 : RowsTb w3 w.heap.size (.slice (some ⟨w.heap.size + 2, 0, none⟩) 2 2) [[1, 2, 0], [1, 0]] := by
    rw [h3]; refine rows_lit w2 _ w.heap.size s2 (by omega) [(.slice (some ⟨w.heap.size, 0, none⟩) 3 3), (.slice (some ⟨w.heap.size + 1, 0, none⟩) 2 2)] [[1, 2, 0], [1, 0]] rfl (by decide) fun i hi => ?_
    match i, hi with
    | 0, _ => exact g0_2
    | 1, _ => exact g1_2
  obtain ⟨w4, h4⟩ : ∃ x : World, x = w3.alloc (.cells #[.int .i64 2, .int .i64 1, .int .i64 0] 3) := ⟨_, rfl⟩
  rw [← h4]
  have s4 : w4.heap.size = w.heap.size + 4 := by rw [h4, World.size_alloc, s3]
  have b4 : Below w.heap.size w w4 := by rw [h4]; exact b3.alloc (by rw [s3]; omega) _
  have f2 := f2.alloc (.cells #[.int .i64 2, .int .i64 1, .int .i64 0] 3)
  rw [← h4] at f2
  have f3 : IntsTy w4 w.heap.size (.slice (some ⟨w.heap.size + 3, 0, none⟩) 3 3) [2, 1, 0] := by rw [h4]; exact ints_lit w3 _ w.heap.size s3 (by omega) [2, 1, 0] (by decide)
  obtain ⟨w5, h5⟩ : ∃ x : World, x = w4.alloc (.cells #[.int .i64 2, .int .i64 0] 3) := ⟨_, rfl⟩
  rw [← h5]
  have s5 : w5.heap.size = w.heap.size + 5 := by rw [h5, World.size_alloc, s4]
  have b5 : Below w.heap.size w w5 := by rw [h5]; exact b4.alloc (by rw [s4]; omega) _
  have f2 := f2.alloc (.cells #[.int .i64 2, .int .i64 0] 3)
  rw [← h5] at f2
  have f3 := f3.alloc (.cells #[.int .i64 2, .int .i64 0] 3)
  rw [← h5] at f3
  have f4 : IntsTy w5 w.heap.size (.slice (some ⟨w.heap.size + 4, 0, none⟩) 2 2) [2, 0] := by rw [h5]; exact ints_lit w4 _ w.heap.size s4 (by omega) [2, 0] (by decide)
  have g3_5 := f3
  have g4_5 := f4
  obtain ⟨w6, h6⟩ : ∃ x : World, x = w5.alloc (.cells #[(.slice (some ⟨w.heap.size + 3, 0, none⟩) 3 3), (.slice (some ⟨w.heap.size + 4, 0, none⟩) 2 2)] 24) := ⟨_, rfl⟩
  rw [← h6]
  have s6 : w6.heap.size = w.heap.size + 6 := by rw [h6, World.size_alloc, s5]
  have b6 : Below w.heap.size w w6 := by rw [h6]; exact b5.alloc (by rw [s5]; omega) _
  have f2 := f2.alloc (.cells #[(.slice (some ⟨w.heap.size + 3, 0, none⟩) 3 3), (.slice (some ⟨w.heap.size + 4, 0, none⟩) 2 2)] 24)
  rw [← h6] at f2
  have f3 := f3.alloc (.cells #[(.slice (some ⟨w.heap.size + 3, 0, none⟩) 3 3), (.slice (some ⟨w.heap.size + 4, 0, none⟩) 2 2)] 24)
  rw [← h6] at f3
  have f4 := f4.alloc (.cells #[(.slice (some ⟨w.heap.size + 3, 0, none⟩) 3 3), (.slice (some ⟨w.heap.size + 4, 0, none⟩) 2 2)] 24)
  rw [← h6] at f4
  have f5 : RowsTb w6 w.heap.size (.slice (some ⟨w.heap.size + 5, 0, none⟩) 2 2) [[2, 1, 0], [2, 0]] := by
    rw [h6]; refine rows_lit w5 _ w.heap.size s5 (by omega) [(.slice (some ⟨w.heap.size + 3, 0, none⟩) 3 3), (.slice (some ⟨w.heap.size + 4, 0, none⟩) 2 2)] [[2, 1, 0], [2, 0]] rfl (by decide) fun i hi => ?_
    match i, hi with
    | 0, _ => exact g3_5
    | 1, _ => exact g4_5
  obtain ⟨w7, h7⟩ : ∃ x : World, x = w6.alloc (.cells #[] 24) := ⟨_, rfl⟩
  rw [← h7]
  have s7 : w7.heap.size = w.heap.size + 7 := by rw [h7, World.size_alloc, s6]
  have b7 : Below w.heap.size w w7 := by rw [h7]; exact b6.alloc (by rw [s6]; omega) _
  have f2 := f2.alloc (.cells #[] 24)
  rw [← h7] at f2
  have f5 := f5.alloc (.cells #[] 24)
  rw [← h7] at f5
  have f6 : RowsTb w7 w.heap.size (.slice (some ⟨w.heap.size + 6, 0, none⟩) 0 0) [] := by
    rw [h7]; refine rows_lit w6 _ w.heap.size s6 (by omega) [] [] rfl (by decide) fun i hi => ?_
    exact absurd hi (Nat.not_lt_zero _)
  have g2_7 := f2
  have g5_7 := f5
  have g6_7 := f6
  obtain ⟨w8, h8⟩ : ∃ x : World, x = w7.alloc (.cells #[(.slice (some ⟨w.heap.size + 2, 0, none⟩) 2 2), (.slice (some ⟨w.heap.size + 5, 0, none⟩) 2 2), (.slice (some ⟨w.heap.size + 6, 0, none⟩) 0 0)] 27) := ⟨_, rfl⟩
  rw [← h8]
  have s8 : w8.heap.size = w.heap.size + 8 := by rw [h8, World.size_alloc, s7]
  have b8 : Below w.heap.size w w8 := by rw [h8]; exact b7.alloc (by rw [s7]; omega) _
  have f2 := f2.alloc (.cells #[(.slice (some ⟨w.heap.size + 2, 0, none⟩) 2 2), (.slice (some ⟨w.heap.size + 5, 0, none⟩) 2 2), (.slice (some ⟨w.heap.size + 6, 0, none⟩) 0 0)] 27)
  rw [← h8] at f2
  have f5 := f5.alloc (.cells #[(.slice (some ⟨w.heap.size + 2, 0, none⟩) 2 2), (.slice (some ⟨w.heap.size + 5, 0, none⟩) 2 2), (.slice (some ⟨w.heap.size + 6, 0, none⟩) 0 0)] 27)
  rw [← h8] at f5
  have f6 := f6.alloc (.cells #[(.slice (some ⟨w.heap.size + 2, 0, none⟩) 2 2), (.slice (some ⟨w.heap.size + 5, 0, none⟩) 2 2), (.slice (some ⟨w.heap.size + 6, 0, none⟩) 0 0)] 27)
  rw [← h8] at f6
  have f7 : TableIn w8 w.heap.size (.slice (some ⟨w.heap.size + 7, 0, none⟩) 3 3) [[[1, 2, 0], [1, 0]], [[2, 1, 0], [2, 0]], []] := by
    rw [h8]; refine grid_lit w7 _ w.heap.size s7 (by omega) [(.slice (some ⟨w.heap.size + 2, 0, none⟩) 2 2), (.slice (some ⟨w.heap.size + 5, 0, none⟩) 2 2), (.slice (some ⟨w.heap.size + 6, 0, none⟩) 0 0)] [[[1, 2, 0], [1, 0]], [[2, 1, 0], [2, 0]], []] rfl (by decide) fun i hi => ?_
    match i, hi with
    | 0, _ => exact g2_7
    | 1, _ => exact g5_7
    | 2, _ => exact g6_7
  exact ⟨f7, b8, s8⟩
end Go.Proofs.YtbbhnnbpeiodnaaDoor
