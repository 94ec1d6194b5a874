/- What spec.l91Rels carries: the reader, and a matrix of numbers. Rows of ways in blocks of their own, and appends to them. -/
import Derived.Test.YtnjkifnlimfhnaaDoorNums
import Derived.Deep.DeepCutAuto
namespace Go.Proofs.YtnjkifnlimfhnaaDoor
open Go.RowKit
set_option linter.unusedVariables false

structure RS (k : Nat) (a : Option Addr) (len' cap : Nat) (zs : List Int) (w W : World) (q : Nat) (v : Value) (m n : Nat) : Prop where
  rd : RdAt W k a len' cap zs q
  on : Only k w W
  mat : MatH W w.heap.size v m n
  far : k < w.heap.size
section
variable {k : Nat} {a : Option Addr} {len' cap : Nat} {zs : List Int} {w W W' : World} {q m n : Nat} {v : Value}
theorem RS.below (h : RS k a len' cap zs w W q v m n) (hb : Below W.heap.size W W') : RS k a len' cap zs w W' q v m n :=
  ⟨h.rd.below hb, h.on.trans (Only.of_below hb), h.mat.below hb, h.far⟩
theorem RS.drew (h : RS k a len' cap zs w W q v m n) : RS k a len' cap zs w W.drew q v m n := h.below (Below.drew (Below.refl _ _))
theorem RS.alloc (h : RS k a len' cap zs w W q v m n) (o : Obj) : RS k a len' cap zs w (W.alloc o) q v m n := h.below (Below.alloc (Below.refl _ _) (Nat.le_refl _) o)
theorem RS.picked {q' : Nat} (h : RS k a len' cap zs w W q v m n) (hr : RdAt W' k a len' cap zs q') (ho : Only k W W') : RS k a len' cap zs w W' q' v m n :=
  ⟨hr, h.on.trans ho, h.mat.only ho h.far, h.far⟩
theorem RS.set {g : Nat} {cur : Array Value} (h : RS k a len' cap zs w W q v m n) (hg : w.heap.size ≤ g) (hc : W.heap[g]? = some (.cells cur 3 (0, 0))) (j : Nat) (x : Int) : RS k a len' cap zs w (W.setCell ⟨g, j, none⟩ (.int .i64 x)) q v m n :=
  ⟨RdAt.off h.rd hg h.far, Only.setFar h.on hg, h.mat.set hc j x, h.far⟩
theorem RS.size (h : RS k a len' cap zs w W q v m n) : w.heap.size ≤ W.heap.size := h.on.size
theorem RS.push {W2 W4 : World} {vs : List Value} {v' u : Value} (h : RS k a len' cap zs w W q v m n) (h1 : vs.length = m) (h2 : W.ownsRow w.heap.size 39 1 v m vs) (h3 : ∀ i, i < m → HasNums W w.heap.size (vs.getD i undef) n)
    (hb : Below W.heap.size W W2) (hu : HasNums W2 w.heap.size u n) (hg : W2.grownBy W4 v.ownBlock) (hown : W4.ownsRow w.heap.size 39 1 v' (m + 1) (vs ++ [u])) : RS k a len' cap zs w W4 q v' (m + 1) n := by
  have hrow := fun g hv => (World.ownsRow.lt h2 g hv).1
  exact ⟨RdAt.grown (h.rd.below hb) hg hrow h.far, Only.grown (h.on.trans (Only.of_below hb)) hg hrow, MatH.push h1 (owns_belowR h2 hb) (fun i hi => (h3 i hi).below hb) hu hg hown, h.far⟩
end
theorem lit_any (W : World) (u : Value) (T : TypeId) : SliceAt (W.alloc (.cells #[u] T)) (.slice (some ⟨W.heap.size, 0, none⟩) 1 1) 1 (fun _ => u) :=
  ⟨_, 1, rfl, Nat.le_refl _, by unfold maxLen; omega, .inr ⟨W.heap.size, 0, rfl, by simp, fun i hi => by
    obtain rfl : i = 0 := by omega
    simp⟩⟩
theorem info_r2 : (Tryd.prog.info? 39).map (fun i => (i.zero, i.size, i.bytes)) = some (some (.slice none 0 0), 1, 24) := by kernel_rfl
end Go.Proofs.YtnjkifnlimfhnaaDoor

namespace Go.Proofs.YtnjkifnlimfhnaaDoor
open Go.RowKit
set_option linter.unusedVariables false

def RowsL (w : World) (lo : Nat) (v : Value) (ll : List (List Int)) : Prop :=
  ∃ vs, vs.length = ll.length ∧ w.ownsRow lo 39 1 v ll.length vs ∧ ∀ i, i < ll.length → OwnInts w lo (vs.getD i undef) (ll.getD i [])
theorem RowsL.below {w w' : World} {lo : Nat} {v : Value} {ll : List (List Int)} (h : RowsL w lo v ll) (hb : Below w.heap.size w w') : RowsL w' lo v ll := by
  obtain ⟨vs, h1, h2, h3⟩ := h
  exact ⟨vs, h1, owns_belowR h2 hb, fun i hi => (h3 i hi).below hb⟩
theorem RowsL.lift {w : World} {lo lo' : Nat} {v : Value} {ll : List (List Int)} (h : RowsL w lo v ll) (hl : lo' ≤ lo) : RowsL w lo' v ll := by
  obtain ⟨vs, h1, h2, h3⟩ := h
  exact ⟨vs, h1, owns_lift h2 hl, fun i hi => (h3 i hi).lift hl⟩
theorem RowsL.form {w : World} {lo : Nat} {v : Value} {ll : List (List Int)} (h : RowsL w lo v ll) : ∃ a cap, v = .slice a ll.length cap ∧ ll.length ≤ cap ∧ cap ≤ 9223372036854775807 := by
  obtain ⟨vs, h1, h2, h3⟩ := h; exact owns_form h2
theorem RowsL.rows {w : World} {lo : Nat} {v : Value} {ll : List (List Int)} (h : RowsL w lo v ll) : RowsAt w v ll := by
  obtain ⟨vs, h1, h2, h3⟩ := h
  refine ⟨fun i => vs.getD i undef, ?_, fun i hi => (h3 i hi).ints⟩
  rcases h2.2 with ⟨rfl, h'⟩ | ⟨g, cap, cur, rfl, hb, hg, hnc, hcm, hcs, htake⟩
  · exact ⟨none, 0, by rw [h'], by omega, Nat.zero_le _, .inl h'⟩
  · refine ⟨_, cap, rfl, hnc, hcm, .inr ⟨g, 0, rfl, heap_lt hg, fun i hi => ?_⟩⟩
    rw [Nat.zero_add, h2.cellAt i (by omega)]
    show vs[i]? = some (vs.getD i undef)
    rw [List.getD_eq_getElem?_getD, List.getElem?_eq_getElem (by omega)]; rfl
theorem RowsL.zero (w : World) : RowsL (w.alloc (.cells #[] 39)) w.heap.size (.slice (some ⟨w.heap.size, 0, none⟩) 0 0) [] :=
  ⟨[], rfl, World.ownsRow_lit (base := w.heap.size) (e := 39) (size := 1) w #[] 0 (Nat.le_refl _) (by simp [maxLen]) rfl, fun i hi => by simp at hi⟩
theorem OwnInts.zero (w : World) : OwnInts (w.alloc (.cells #[] 3)) w.heap.size (.slice (some ⟨w.heap.size, 0, none⟩) 0 0) [] :=
  World.ownsRow_lit (base := w.heap.size) (e := 3) (size := 1) w #[] 0 (Nat.le_refl _) (by simp [maxLen]) rfl
theorem OwnInts.one (w : World) (x : Int) : OwnInts (w.alloc (.cells #[.int .i64 x] 3)) w.heap.size (.slice (some ⟨w.heap.size, 0, none⟩) 1 1) [x] :=
  World.ownsRow_lit (base := w.heap.size) (e := 3) (size := 1) w #[.int .i64 x] 1 (Nat.le_refl _) (by simp [maxLen]) rfl
theorem range_map (l : List Int) : ((List.range l.length).map fun i => Value.int .i64 (l.getD i 0)) = l.map (Value.int .i64) := by
  apply List.ext_getElem
  · simp
  · intro i h1 h2
    simp at h1
    simp [List.getElem?_eq_getElem h1]
theorem OwnInts.grown {w w' : World} {lo : Nat} {u v : Value} {l : List Int} {lo' n : Nat} {vs : List Value} (h : OwnInts w lo u l) (h2 : w.ownsRow lo' 39 1 v n vs) (hg : w.grownBy w' v.ownBlock) : OwnInts w' lo u l :=
  owns_blk h (fun g cur _ hc => hg.block g (heap_lt hc) (by
    intro e
    rcases h2.2 with ⟨rfl, _⟩ | ⟨g', cap, cur', rfl, _, hg', _⟩
    · cases e
    · simp [Value.ownBlock] at e
      subst e
      rw [hg'] at hc
      simp at hc))
theorem RowsL.push {w w' : World} {lo m : Nat} {v v' u : Value} {ll : List (List Int)} {l : List Int} {vs : List Value} (h1 : vs.length = ll.length) (hm : ll.length = m) (h2 : w.ownsRow lo 39 1 v m vs) (h3 : ∀ i, i < m → OwnInts w lo (vs.getD i undef) (ll.getD i [])) (hu : OwnInts w lo u l)
    (hg : w.grownBy w' v.ownBlock) (hown : w'.ownsRow lo 39 1 v' (m + 1) (vs ++ [u])) : RowsL w' lo v' (ll ++ [l]) := by
  have e0 : (ll ++ [l]).length = m + 1 := by simp [hm]
  refine ⟨vs ++ [u], by simp [h1], by rw [e0]; exact hown, fun i hi => ?_⟩
  rw [e0] at hi
  by_cases him : i < m
  · have e : (vs ++ [u]).getD i undef = vs.getD i undef := by simp only [List.getD_eq_getElem?_getD]; rw [List.getElem?_append_left (by omega)]
    have e2 : (ll ++ [l]).getD i [] = ll.getD i [] := by simp only [List.getD_eq_getElem?_getD]; rw [List.getElem?_append_left (by omega)]
    rw [e, e2]; exact (h3 i him).grown h2 hg
  · obtain rfl : i = m := by omega
    have e : (vs ++ [u]).getD i undef = u := by simp only [List.getD_eq_getElem?_getD]; rw [List.getElem?_append_right (by omega), h1, hm]; simp
    have e2 : (ll ++ [l]).getD i [] = l := by simp only [List.getD_eq_getElem?_getD]; rw [List.getElem?_append_right (by omega), hm]; simp
    rw [e, e2]; exact hu.grown h2 hg
variable {W : World}
theorem wpList_append_ints {ops : Array Oper} {rest : List Oper} {o : Oper} {a : Act} {Q : Exit → Act → World → Prop} (hgd : o.guard = none) (s x : Operand)
    (ho : o.op = .call { callee := .builtin .append, args := #[s, x], argTypes := #[39, 39] })
    (B : Nat) (v sv : Value) (pre l : List Int) (N : Nat) (hN : pre.length + l.length = N) (hs : a.eval s = v) (hO : OwnInts W B v pre) (hB : B ≤ W.heap.size) (hx : a.eval x = sv) (hl : IntsAt W sv l) (hlen : N ≤ 1000000)
    (h : ∀ ad c w', OwnInts w' B (.slice ad N c) (pre ++ l) → Below B W w' → w'.heap.size ≥ W.heap.size → wpList Tryd.prog ops Q rest (a.put o.dst (.slice ad N c)) w') : wpList Tryd.prog ops Q (o :: rest) a W := by
  obtain ⟨i0, hi, hz0, hz1, hz2⟩ := info_parts info_intR
  have hO' : W.ownsRow B 3 1 v pre.length (pre.map (Value.int .i64)) := hO
  refine wpList_append_src hgd s x 39 ho B 3 i0 (.int .i64 0) 8 Tryd.underlying39 hi hz0 hz1 hz2 rfl v pre.length (pre.map (Value.int .i64)) hs hO' sv l.length _ hx hl (fun j hj => rfl) (by unfold maxLen; omega) (by omega) hB ?_
  intro v' w' hown hgrow
  rw [range_map] at hown
  have hO2 : OwnInts w' B v' (pre ++ l) := by
    unfold OwnInts
    rw [List.map_append, List.length_append]; exact hown
  obtain ⟨ad, c, rfl, _, _⟩ := hO2.form
  rw [List.length_append, hN] at hO2 ⊢
  have hb : Below B W w' := Below.grown (Below.refl _ _) hgrow hB (fun g hg => (World.ownsRow.lt hO' g hg).1)
  exact h ad c w' hO2 hb hgrow.size
theorem wpList_append_row {ops : Array Oper} {rest : List Oper} {o : Oper} {a : Act} {Q : Exit → Act → World → Prop} (hgd : o.guard = none) (s x : Operand)
    (ho : o.op = .call { callee := .builtin .append, args := #[s, x], argTypes := #[23, 23] })
    (B : Nat) (v u : Value) (ll : List (List Int)) (l : List Int) (N : Nat) (hN : ll.length = N) (hs : a.eval s = v) (hO : RowsL W B v ll) (hB : B ≤ W.heap.size) (g : Nat) (hx : a.eval x = .slice (some ⟨g, 0, none⟩) 1 1) (hgW : g = W.heap.size) (hu : OwnInts W B u l) (hu1 : ∃ ad n c, u = .slice ad n c) (hlen : N ≤ 1000000)
    (h : ∀ ad c w', RowsL w' B (.slice ad (N + 1) c) (ll ++ [l]) → Below B W w' → w'.heap.size ≥ W.heap.size → wpList Tryd.prog ops Q rest (a.put o.dst (.slice ad (N + 1) c)) w') : wpList Tryd.prog ops Q (o :: rest) a (W.alloc (.cells #[u] 39)) := by
  obtain ⟨i2, hi2, hy0, hy1, hy2⟩ := info_parts info_r2
  subst hN
  subst hgW
  obtain ⟨vs, h1, h2, h3⟩ := hO
  have hA := Below.alloc (Below.refl W.heap.size W) (Nat.le_refl _) (.cells #[u] 39)
  refine wpList_append_src hgd s x 23 ho B 39 i2 (.slice none 0 0) 24 Tryd.underlying23 hi2 hy0 hy1 hy2 rfl v ll.length vs hs (owns_belowR h2 hA) (.slice (some ⟨W.heap.size, 0, none⟩) 1 1) 1 (fun _ => u) hx (lit_any W u 39) (fun j hj => by obtain ⟨ad, n, c, rfl⟩ := hu1; rfl) (by unfold maxLen; omega) (by omega) (by simp; omega) ?_
  intro v' w' hown hgrow
  have hR := RowsL.push h1 rfl (owns_belowR h2 hA) (fun i hi => (h3 i hi).below hA) (hu.below hA) hgrow hown
  obtain ⟨ad, c, rfl, _, _⟩ := hR.form
  rw [List.length_append] at hR ⊢
  exact h ad c w' hR (Below.grown (Below.alloc (Below.refl _ _) hB _) hgrow (by simp; omega) (fun g hg => (World.ownsRow.lt h2 g hg).1)) (by have := hgrow.size; simp at this; omega)
end Go.Proofs.YtnjkifnlimfhnaaDoor
