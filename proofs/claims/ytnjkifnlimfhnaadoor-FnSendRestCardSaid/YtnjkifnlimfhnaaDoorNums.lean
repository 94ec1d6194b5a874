/- Rows of numbers that may be written, of unknown values; matrices of such. -/
import Derived.Test.YtnjkifnlimfhnaaDoorPutS
namespace Go.Proofs.YtnjkifnlimfhnaaDoor
open Go.RowKit
set_option linter.unusedVariables false

/-- n numbers, whatever they are, in a block of their own from lo on -/
def HasNums (w : World) (lo : Nat) (v : Value) (n : Nat) : Prop :=
  (v = .slice none 0 0 ∧ n = 0) ∨ ∃ g cap cur, v = .slice (some ⟨g, 0, none⟩) n cap ∧ lo ≤ g ∧ w.heap[g]? = some (.cells cur 3 (0, 0)) ∧ n ≤ cap ∧ cap ≤ maxLen ∧ cur.size = cap ∧ ∀ j, j < n → ∃ x : Int, cur[j]? = some (.int .i64 x)
theorem HasNums.keep {w w' : World} {lo n : Nat} {v : Value} (h : HasNums w lo v n) (hb : ∀ g cur, lo ≤ g → w.heap[g]? = some (.cells cur 3 (0, 0)) → w'.heap[g]? = w.heap[g]?) : HasNums w' lo v n := by
  rcases h with h | ⟨g, cap, cur, h1, h2, h3, h4⟩
  · exact .inl h
  · exact .inr ⟨g, cap, cur, h1, h2, (hb g cur h2 h3).trans h3, h4⟩
theorem HasNums.below {w w' : World} {lo n : Nat} {v : Value} (h : HasNums w lo v n) (hb : Below w.heap.size w w') : HasNums w' lo v n := h.keep fun g cur _ hc => hb.block g (heap_lt hc)
theorem HasNums.only {w w' : World} {lo n k : Nat} {v : Value} (h : HasNums w lo v n) (ho : Only k w w') (hk : k < lo) : HasNums w' lo v n := h.keep fun g cur hg hc => ho.block g (heap_lt hc) (by omega)
theorem HasNums.grown {w w' : World} {lo n : Nat} {v : Value} {row : Option Nat} (h : HasNums w lo v n) (hg : w.grownBy w' row) (hrow : ∀ g, row = some g → ∀ cur mk, w.heap[g]? ≠ some (.cells cur 3 mk)) : HasNums w' lo v n :=
  h.keep fun g cur _ hc => hg.block g (heap_lt hc) (by intro e; exact hrow g e.symm cur _ hc)
theorem HasNums.set {w : World} {lo n : Nat} {v : Value} (h : HasNums w lo v n) (g' j : Nat) (x : Int) : HasNums (w.setCell ⟨g', j, none⟩ (.int .i64 x)) lo v n := by
  rcases h with h | ⟨g, cap, cur, h1, h2, h3, h4, h5, h6, h7⟩
  · exact .inl h
  · by_cases e : g = g'
    · subst e
      refine .inr ⟨g, cap, _, h1, h2, setCell_block h3, h4, h5, by simpa using h6, fun q hq => ?_⟩
      by_cases eq : j = q
      · subst eq; exact ⟨x, Array.getElem?_setIfInBounds_self_of_lt (by omega)⟩
      · obtain ⟨y, hy⟩ := h7 q hq
        exact ⟨y, by rw [Array.getElem?_setIfInBounds_ne eq]; exact hy⟩
    · exact .inr ⟨g, cap, cur, h1, h2, (Below.heap_setCell _ _ _ _ (by simpa using e)).trans h3, h4, h5, h6, h7⟩
theorem HasNums.lift {w : World} {lo lo' n : Nat} {v : Value} (h : HasNums w lo v n) (hl : lo' ≤ lo) : HasNums w lo' v n := by
  rcases h with h | ⟨g, cap, cur, h1, h2, h3⟩
  · exact .inl h
  · exact .inr ⟨g, cap, cur, h1, Nat.le_trans hl h2, h3⟩
theorem HasNums.get {w : World} {lo n : Nat} {v : Value} (h : HasNums w lo v n) (i : Nat) (hi : i < n) :
    ∃ g cap cur x, v = .slice (some ⟨g, 0, none⟩) n cap ∧ lo ≤ g ∧ g < w.heap.size ∧ w.heap[g]? = some (.cells cur 3 (0, 0)) ∧ w.cell? ⟨g, i, none⟩ = some (.int .i64 x) ∧ w.frozen? ⟨g, i, none⟩ = false ∧ n ≤ cap ∧ cap ≤ 9223372036854775807 := by
  rcases h with ⟨_, h⟩ | ⟨g, cap, cur, h1, h2, h3, h4, h5, h6, h7⟩
  · omega
  · obtain ⟨x, hx⟩ := h7 i hi
    exact ⟨g, cap, cur, x, h1, h2, heap_lt h3, h3, by rw [cell_of_row w g i cur 3 (0, 0) h3, hx], frozen_of_row w g i cur 3 h3, h4, by unfold maxLen at h5; exact h5⟩
theorem HasNums.form {w : World} {lo n : Nat} {v : Value} (h : HasNums w lo v n) : ∃ a cap, v = .slice a n cap ∧ n ≤ cap ∧ cap ≤ 9223372036854775807 := by
  rcases h with ⟨rfl, rfl⟩ | ⟨g, cap, cur, h1, h2, h3, h4, h5, _⟩
  · exact ⟨none, 0, rfl, by omega, by omega⟩
  · exact ⟨_, cap, h1, h4, by unfold maxLen at h5; exact h5⟩
theorem HasNums.ints {w : World} {lo n : Nat} {v : Value} (h : HasNums w lo v n) : ∃ l, l.length = n ∧ IntsAt w v l := by
  rcases h with ⟨rfl, rfl⟩ | ⟨g, cap, cur, h1, h2, h3, h4, h5, h6, h7⟩
  · exact ⟨[], rfl, none, 0, rfl, Nat.le_refl _, Nat.zero_le _, .inl rfl⟩
  · obtain ⟨Z, hZ⟩ := Go.Deep.choose_lt (α := Int) h7
    refine ⟨(List.range n).map Z, by simp, ?_⟩
    unfold IntsAt
    rw [show ((List.range n).map Z).length = n by simp]
    refine ⟨_, cap, h1, h4, h5, .inr ⟨g, 0, rfl, heap_lt h3, fun i hi => ?_⟩⟩
    rw [Nat.zero_add, cell_of_row w g i cur 3 (0, 0) h3, hZ i hi]
    simp [hi]
theorem OwnInts.nums {w : World} {lo : Nat} {v : Value} {l : List Int} (h : OwnInts w lo v l) : HasNums w lo v l.length := by
  have h' : w.ownsRow lo 3 1 v l.length (l.map (Value.int .i64)) := h
  rcases h'.2 with ⟨rfl, hn⟩ | ⟨g, cap, cur, rfl, hb, hg, hnc, hcm, hcs, htake⟩
  · exact .inl ⟨rfl, hn⟩
  · refine .inr ⟨g, cap, cur, rfl, hb, hg, hnc, hcm, by simpa using hcs, fun j hj => ⟨l[j], ?_⟩⟩
    rw [Nat.mul_one] at htake
    have e : (cur.toList.take l.length)[j]? = some (.int .i64 l[j]) := by rw [htake]; simp [hj]
    rw [List.getElem?_take_of_lt hj] at e
    simpa using e
theorem owns_blk {w w' : World} {lo n size : Nat} {T : TypeId} {v : Value} {us : List Value} (h : w.ownsRow lo T size v n us) (hb : ∀ g cur, lo ≤ g → w.heap[g]? = some (.cells cur T (0, 0)) → w'.heap[g]? = w.heap[g]?) : w'.ownsRow lo T size v n us := by
  refine ⟨h.1, ?_⟩
  rcases h.2 with h' | ⟨g, cap, cur, h1, h2, h3, h4⟩
  · exact .inl h'
  · exact .inr ⟨g, cap, cur, h1, h2, (hb g cur h2 h3).trans h3, h4⟩
theorem owns_lift {w : World} {lo lo' n size : Nat} {T : TypeId} {v : Value} {us : List Value} (h : w.ownsRow lo T size v n us) (hl : lo' ≤ lo) : w.ownsRow lo' T size v n us := by
  refine ⟨h.1, ?_⟩
  rcases h.2 with h' | ⟨g, cap, cur, h1, h2, h3⟩
  · exact .inl h'
  · exact .inr ⟨g, cap, cur, h1, Nat.le_trans hl h2, h3⟩
/-- m rows of n numbers -/
def MatH (w : World) (lo : Nat) (v : Value) (m n : Nat) : Prop := ∃ vs : List Value, vs.length = m ∧ w.ownsRow lo 39 1 v m vs ∧ ∀ i, i < m → HasNums w lo (vs.getD i undef) n
theorem MatH.below {w w' : World} {lo m n : Nat} {v : Value} (h : MatH w lo v m n) (hb : Below w.heap.size w w') : MatH w' lo v m n := by
  obtain ⟨vs, h1, h2, h3⟩ := h
  exact ⟨vs, h1, owns_belowR h2 hb, fun i hi => (h3 i hi).below hb⟩
theorem MatH.only {w w' : World} {lo m n k : Nat} {v : Value} (h : MatH w lo v m n) (ho : Only k w w') (hk : k < lo) : MatH w' lo v m n := by
  obtain ⟨vs, h1, h2, h3⟩ := h
  exact ⟨vs, h1, owns_blk h2 (fun g cur hg hc => ho.block g (heap_lt hc) (by omega)), fun i hi => (h3 i hi).only ho hk⟩
theorem MatH.lift {w : World} {lo lo' m n : Nat} {v : Value} (h : MatH w lo v m n) (hl : lo' ≤ lo) : MatH w lo' v m n := by
  obtain ⟨vs, h1, h2, h3⟩ := h
  exact ⟨vs, h1, owns_lift h2 hl, fun i hi => (h3 i hi).lift hl⟩
theorem MatH.set {w : World} {lo m n : Nat} {v : Value} (h : MatH w lo v m n) {g : Nat} {cur : Array Value} (hg : w.heap[g]? = some (.cells cur 3 (0, 0))) (j : Nat) (x : Int) : MatH (w.setCell ⟨g, j, none⟩ (.int .i64 x)) lo v m n := by
  obtain ⟨vs, h1, h2, h3⟩ := h
  refine ⟨vs, h1, owns_blk h2 (fun q cur' hq hc => Below.heap_setCell _ _ _ _ (fun e => ?_)), fun i hi => (h3 i hi).set g j x⟩
  simp at e
  subst e
  rw [hg] at hc
  simp at hc
theorem MatH.form {w : World} {lo m n : Nat} {v : Value} (h : MatH w lo v m n) : ∃ a cap, v = .slice a m cap ∧ m ≤ cap ∧ cap ≤ 9223372036854775807 := by
  obtain ⟨vs, h1, h2, h3⟩ := h; exact owns_form h2
theorem MatH.get {w : World} {lo m n : Nat} {v : Value} (h : MatH w lo v m n) (i : Nat) (hi : i < m) : ∃ g cap u, v = .slice (some ⟨g, 0, none⟩) m cap ∧ g < w.heap.size ∧ lo ≤ g ∧ w.cell? ⟨g, i, none⟩ = some u ∧ HasNums w lo u n := by
  obtain ⟨vs, h1, h2, h3⟩ := h
  rcases h2.2 with ⟨_, h'⟩ | ⟨g, cap, cur, rfl, hb, hg, hnc, hcm, hcs, htake⟩
  · omega
  · exact ⟨g, cap, _, rfl, heap_lt hg, hb, by rw [h2.cellAt i (by omega), List.getElem?_eq_getElem (by omega)], by have := h3 i hi; rw [List.getD_eq_getElem?_getD, List.getElem?_eq_getElem (by omega)] at this; exact this⟩
theorem MatH.rows {w : World} {lo m n : Nat} {v : Value} (h : MatH w lo v m n) : ∃ rs, rs.length = m ∧ RowsAt w v rs ∧ ∀ i, i < m → (rs.getD i []).length = n := by
  obtain ⟨vs, h1, h2, h3⟩ := h
  obtain ⟨Z, hZ⟩ := Go.Deep.choose_lt (α := List Int) (fun i hi => (h3 i hi).ints)
  have hsl : SliceAt w v m (fun i => vs.getD i undef) := by
    rcases h2.2 with ⟨rfl, h'⟩ | ⟨g, cap, cur, rfl, hb, hg, hnc, hcm, hcs, htake⟩
    · exact ⟨none, 0, by rw [h'], by omega, Nat.zero_le _, .inl h'⟩
    · refine ⟨_, cap, rfl, hnc, hcm, .inr ⟨g, 0, rfl, heap_lt hg, fun i hi => ?_⟩⟩
      rw [Nat.zero_add, h2.cellAt i (by omega)]
      show vs[i]? = some (vs.getD i undef)
      rw [List.getD_eq_getElem?_getD, List.getElem?_eq_getElem (by omega)]; rfl
  have e : ∀ i, i < m → ((List.range m).map Z).getD i [] = Z i := fun i hi => by simp [hi]
  refine ⟨(List.range m).map Z, by simp, ⟨_, by simpa using hsl, fun i hi => ?_⟩, fun i hi => by rw [e i hi]; exact (hZ i hi).1⟩
  have hi' : i < m := by simpa using hi
  rw [e i hi']; exact (hZ i hi').2
/-- a row more, behind an append that has written no numbers -/
theorem MatH.push {w w' : World} {lo m n : Nat} {v v' u : Value} {vs : List Value} (h1 : vs.length = m) (h2 : w.ownsRow lo 39 1 v m vs) (h3 : ∀ i, i < m → HasNums w lo (vs.getD i undef) n) (hu : HasNums w lo u n)
    (hg : w.grownBy w' v.ownBlock) (hown : w'.ownsRow lo 39 1 v' (m + 1) (vs ++ [u])) : MatH w' lo v' (m + 1) n := by
  have hrow : ∀ g, v.ownBlock = some g → ∀ cur mk, w.heap[g]? ≠ some (.cells cur 3 mk) := fun g hv cur mk hc => by
    rcases h2.2 with ⟨rfl, _⟩ | ⟨g', cap, cur', rfl, _, hg', _⟩
    · cases hv
    · simp [Value.ownBlock] at hv
      subst hv
      rw [hg'] at hc
      simp at hc
  refine ⟨vs ++ [u], by simp [h1], hown, fun i hi => ?_⟩
  by_cases him : i < m
  · have e : (vs ++ [u]).getD i undef = vs.getD i undef := by simp only [List.getD_eq_getElem?_getD]; rw [List.getElem?_append_left (by omega)]
    rw [e]; exact (h3 i him).grown hg hrow
  · obtain rfl : i = m := by omega
    have e : (vs ++ [u]).getD i undef = u := by simp only [List.getD_eq_getElem?_getD]; rw [List.getElem?_append_right (by omega), h1]; simp
    rw [e]; exact hu.grown hg hrow
theorem MatH.zero (w : World) (n : Nat) : MatH (w.alloc (.cells #[] 39)) w.heap.size (.slice (some ⟨w.heap.size, 0, none⟩) 0 0) 0 n :=
  ⟨[], rfl, World.ownsRow_lit (base := w.heap.size) (e := 39) (size := 1) w #[] 0 (Nat.le_refl _) (by simp [maxLen]) rfl, fun i hi => by omega⟩
theorem made_nums {w : World} {lo n : Nat} {v : Value} (h : w.ownsRow lo 3 1 v n (madeCells (Value.int .i64 0).cells (n * 1)).toList) : HasNums w lo v n := by
  have e : (madeCells (Value.int .i64 0).cells (n * 1)).toList = (List.replicate n (0 : Int)).map (Value.int .i64) := by
    apply List.ext_getElem
    · simp [madeCells]
    · intro i h1 h2
      simp [madeCells, Value.cells, Nat.mod_one]
  rw [e] at h
  have : OwnInts w lo v (List.replicate n (0 : Int)) := by unfold OwnInts; rw [List.length_replicate]; exact h
  simpa using this.nums
set_option maxHeartbeats 1000000 in
theorem l12Back_any (x : Int) (h0 : 0 ≤ x) (h3 : x ≤ 3) (w : World) : Calls Tryd.prog 66 #[.int .i64 x] w fun e w' => ∃ y : Int, e = .returned (.int .i64 y) ∧ 0 ≤ y ∧ y ≤ 3 ∧ Below w.heap.size w w' := by
  have : x = 0 ∨ x = 1 ∨ x = 2 ∨ x = 3 := by omega
  rcases this with rfl | rfl | rfl | rfl <;>
  · go_enter Tryd.func66, Tryd.ntmps66
    go_wp2_with fail
    go_ret
    exact ⟨_, rfl, by omega, by omega, by repeat (first | exact Below.refl _ _ | assumption | refine Below.drew ?_ | refine belowDrewN ?_ _ | refine Below.alloc ?_ (by first | exact Nat.le_refl _ | omega | (simp; done) | (simp; omega)) _ | refine Below.setCell ?_ (by first | exact Nat.le_refl _ | omega | (simp; done) | (simp; omega)) _)⟩
end Go.Proofs.YtnjkifnlimfhnaaDoor
