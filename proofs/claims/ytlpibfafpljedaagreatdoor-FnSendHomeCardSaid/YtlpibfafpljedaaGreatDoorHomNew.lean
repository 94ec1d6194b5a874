/- Lists of homes of one's own. -/
import Derived.Test.YtlpibfafpljedaaGreatDoorDrawRels
namespace Go.Proofs.YtlpibfafpljedaaGreatDoor
open Go.RowKit
set_option linter.unusedVariables false

/-- Homes in a block of its own, from lo on. -/
def HomNew (w : World) (lo : Nat) (v : Value) (l : List Ent) : Prop :=
  ∃ xs, w.ownsRow lo 36 3 v l.length xs ∧ ∀ i, i < l.length → xs.getD (i * 3) undef = .int .i64 (l.getD i (0, 0, 0)).1 ∧ xs.getD (i * 3 + 1) undef = .int .i64 (l.getD i (0, 0, 0)).2.1 ∧ xs.getD (i * 3 + 2) undef = .int .i64 (l.getD i (0, 0, 0)).2.2
theorem HomNew.below {W w1 : World} {B : Nat} {v : Value} {l : List Ent} (h : HomNew W B v l) (hb : Below W.heap.size W w1) : HomNew w1 B v l := by
  obtain ⟨xs, h1, h2⟩ := h
  exact ⟨xs, owns_belowR h1 hb, h2⟩
theorem HomNew.kept {W w1 : World} {g : Nat} {v : Value} {l : List Ent} (h : HomNew W (g + 1) v l) (hg : W.grownBy w1 (some g)) : HomNew w1 (g + 1) v l := by
  obtain ⟨xs, h1, h2⟩ := h
  refine ⟨xs, World.ownsRow.kept h1 hg ?_, h2⟩
  cases hv : v.ownBlock with
  | none => exact .inl rfl
  | some k => right; have := (World.ownsRow.lt h1 k hv).1; intro e; cases e; omega
theorem HomNew.lift {w : World} {B B' : Nat} {v : Value} {l : List Ent} (h : HomNew w B v l) (hb : B' ≤ B) : HomNew w B' v l := by
  obtain ⟨xs, h1, h2⟩ := h
  refine ⟨xs, ⟨h1.1, ?_⟩, h2⟩
  rcases h1.2 with h | ⟨g, cap, cur, h1, h2, h3⟩
  · exact .inl h
  · exact .inr ⟨g, cap, cur, h1, Nat.le_trans hb h2, h3⟩
theorem HomNew.ents {w : World} {B : Nat} {v : Value} {l : List Ent} (h : HomNew w B v l) : EntsAt w v l := by
  obtain ⟨xs, h1, h2⟩ := h
  rcases h1.2 with ⟨rfl, hn⟩ | ⟨g, cap, cur, rfl, hb, hg, hnc, hcm, hcs, htake⟩
  · exact ⟨none, 0, by rw [hn], by omega, Nat.zero_le _, .inl hn⟩
  · have hxl := h1.1
    refine ⟨_, cap, rfl, hnc, hcm, .inr ⟨g, 0, rfl, heap_lt hg, fun i hi => ?_⟩⟩
    obtain ⟨e0, e1, e2⟩ := h2 i hi
    have key : ∀ j, j < l.length * 3 → w.cell? ⟨g, 0 + j, none⟩ = some (xs.getD j undef) := fun j hj => by
      rw [Nat.zero_add, h1.cellAt j (by omega), List.getD_eq_getElem?_getD, List.getElem?_eq_getElem (by omega)]; rfl
    rw [← e0, ← e1, ← e2]
    exact ⟨key _ (by omega), by rw [Nat.add_assoc]; exact key _ (by omega), by rw [Nat.add_assoc]; exact key _ (by omega)⟩
theorem info_h3 : (Tryz.prog.info? 36).map (fun i => (i.zero, i.size, i.bytes)) = some (some (.agg #[.int .i64 0, .int .i64 0, .int .i64 0]), 3, 24) := by kernel_rfl
theorem HomNew.nil (w : World) (lo : Nat) : HomNew w lo (.slice none 0 0) [] := ⟨[], World.ownsRow_nil _ _ _ _, fun i hi => by simp at hi⟩
theorem HomNew.zero (w : World) : HomNew (w.alloc (.cells #[] 36)) w.heap.size (.slice (some ⟨w.heap.size, 0, none⟩) 0 0) [] :=
  ⟨[], World.ownsRow_lit (base := w.heap.size) (e := 36) (size := 3) w #[] 0 (Nat.le_refl _) (by simp [maxLen]) rfl, fun i hi => by simp at hi⟩
theorem HomNew.form {w : World} {lo : Nat} {v : Value} {l : List Ent} (h : HomNew w lo v l) : ∃ a c, v = .slice a l.length c ∧ l.length ≤ c ∧ c ≤ 9223372036854775807 := h.ents.form
theorem HomNew.snoc {w : World} {lo : Nat} {v' : Value} {l : List Ent} {e : Ent} {xs : List Value} (hl : xs.length = l.length * 3)
    (hx : ∀ i, i < l.length → xs.getD (i * 3) undef = .int .i64 (l.getD i (0, 0, 0)).1 ∧ xs.getD (i * 3 + 1) undef = .int .i64 (l.getD i (0, 0, 0)).2.1 ∧ xs.getD (i * 3 + 2) undef = .int .i64 (l.getD i (0, 0, 0)).2.2)
    (h : w.ownsRow lo 36 3 v' (l.length + 1) (xs ++ [.int .i64 e.1, .int .i64 e.2.1, .int .i64 e.2.2])) : HomNew w lo v' (l ++ [e]) := by
  refine ⟨_, by rw [List.length_append, List.length_singleton]; exact h, fun i hi => ?_⟩
  rw [List.length_append, List.length_singleton] at hi
  by_cases hil : i < l.length
  · obtain ⟨e0, e1, e2⟩ := hx i hil
    have q : (l ++ [e]).getD i (0, 0, 0) = l.getD i (0, 0, 0) := by simp only [List.getD_eq_getElem?_getD]; rw [List.getElem?_append_left hil]
    have r : ∀ j, j < xs.length → (xs ++ [Value.int .i64 e.1, Value.int .i64 e.2.1, Value.int .i64 e.2.2]).getD j undef = xs.getD j undef := fun j hj => by simp only [List.getD_eq_getElem?_getD]; rw [List.getElem?_append_left hj]
    rw [q, r _ (by omega), r _ (by omega), r _ (by omega)]
    exact ⟨e0, e1, e2⟩
  · obtain rfl : i = l.length := by omega
    have q : (l ++ [e]).getD l.length (0, 0, 0) = e := by simp
    have r : ∀ j, (xs ++ [Value.int .i64 e.1, Value.int .i64 e.2.1, Value.int .i64 e.2.2]).getD (l.length * 3 + j) undef = ([.int .i64 e.1, .int .i64 e.2.1, .int .i64 e.2.2] : List Value).getD j undef := fun j => by
      simp only [List.getD_eq_getElem?_getD]; rw [List.getElem?_append_right (by omega), ← hl, Nat.add_sub_cancel_left]
    rw [q]
    exact ⟨r 0, r 1, r 2⟩

theorem HomNew.only {w w' : World} {lo k : Nat} {v : Value} {l : List Ent} (h : HomNew w lo v l) (ho : Only k w w') (hk : k < lo) : HomNew w' lo v l := by
  obtain ⟨xs, h1, h2⟩ := h
  exact ⟨xs, owns_blk h1 (fun g cur hg hc => ho.block g (heap_lt hc) (by omega)), h2⟩
theorem EntNew.only {w w' : World} {lo k : Nat} {v : Value} {l : List Ent} (h : EntNew w lo v l) (ho : Only k w w') (hk : k < lo) : EntNew w' lo v l := by
  obtain ⟨xs, h1, h2⟩ := h
  exact ⟨xs, owns_blk h1 (fun g cur hg hc => ho.block g (heap_lt hc) (by omega)), h2⟩
/-- A row of homes is written: what is of other types stays. -/
structure HomGrown (W W' : World) (lo : Nat) : Prop where
  os : W'.os = W.os
  tape : W'.tape = W.tape
  output : W'.output = W.output
  size : W.heap.size ≤ W'.heap.size
  block : ∀ g, g < W.heap.size → (g < lo ∨ ∃ cur T, W.heap[g]? = some (.cells cur T (0, 0)) ∧ T ≠ 36) → W'.heap[g]? = W.heap[g]?
theorem HomGrown.of {W W' : World} {lo : Nat} {v : Value} {l : List Ent} (h : HomNew W lo v l) (hg : W.grownBy W' v.ownBlock) : HomGrown W W' lo := by
  refine ⟨hg.os, hg.tape, hg.output, hg.size, fun g hgl hh => hg.block g hgl (fun e => ?_)⟩
  obtain ⟨xs, h1, _⟩ := h
  have hlo := (World.ownsRow.lt h1 g e.symm).1
  rcases hh with hh | ⟨cur, T, hc, hT⟩
  · omega
  · rcases h1.2 with ⟨rfl, _⟩ | ⟨g', cap, cur', rfl, _, hg', _⟩
    · cases e
    · simp [Value.ownBlock] at e
      subst e
      rw [hg'] at hc
      simp at hc
      exact hT hc.2.symm
theorem EntNew.hom {W W' : World} {lo lo' : Nat} {v : Value} {l : List Ent} (h : EntNew W lo v l) (hg : HomGrown W W' lo') : EntNew W' lo v l := by
  obtain ⟨xs, h1, h2⟩ := h
  exact ⟨xs, owns_blk h1 (fun g cur hgl hc => hg.block g (heap_lt hc) (.inr ⟨cur, _, hc, by decide⟩)), h2⟩
theorem RS.hom {k : Nat} {a : Option Addr} {len' cap : Nat} {zs : List Int} {w W W' : World} {q m n lo : Nat} {v u : Value} {l : List Ent} (h : RS k a len' cap zs w W q v m n) (hH : HomNew W lo u l) (hg : W.grownBy W' u.ownBlock) (hlo : w.heap.size ≤ lo) : RS k a len' cap zs w W' q v m n := by
  have hG := HomGrown.of hH hg
  obtain ⟨ys, g1, _⟩ := hH
  have hrow : ∀ g, u.ownBlock = some g → w.heap.size ≤ g := fun g hv => Nat.le_trans hlo (World.ownsRow.lt g1 g hv).1
  obtain ⟨vs, h1, h2, h3⟩ := h.mat
  exact ⟨RdAt.grown h.rd hg hrow h.far, Only.grown h.on hg hrow,
    ⟨vs, h1, owns_blk h2 (fun g cur _ hc => hG.block g (heap_lt hc) (.inr ⟨cur, _, hc, by decide⟩)), fun i hi => (h3 i hi).keep fun g cur _ hc => hG.block g (heap_lt hc) (.inr ⟨cur, _, hc, by decide⟩)⟩, h.far⟩
variable {W : World}
theorem wp_append_hom {o : Oper} {a : Act} {K : Act → World → Prop} {Q : Exit → Act → World → Prop} (s x : Operand)
    (ho : o.op = .call { callee := .builtin .append, args := #[s, x], argTypes := #[24, 24] })
    (lo : Nat) (v : Value) (l : List Ent) (e : Ent) (hs : a.eval s = v) (hO : HomNew W lo v l) (hx : a.eval x = .slice (some ⟨W.heap.size, 0, none⟩) 1 1) (hl : l.length ≤ 1000000) (hlo : lo ≤ W.heap.size)
    (h : ∀ ad c w', HomNew w' lo (.slice ad (l.length + 1) c) (l ++ [e]) → (W.alloc (.cells #[.int .i64 e.1, .int .i64 e.2.1, .int .i64 e.2.2] 36)).grownBy w' v.ownBlock → w'.heap.size ≥ W.heap.size → K (a.put o.dst (.slice ad (l.length + 1) c)) w') : o.wp Tryz.prog a (W.alloc (.cells #[.int .i64 e.1, .int .i64 e.2.1, .int .i64 e.2.2] 36)) K Q := by
  obtain ⟨i0, hi, hz0, hz1, hz2⟩ := info_parts info_h3
  obtain ⟨xs, hown, hxs⟩ := hO
  refine wp_append_own _ s x 24 ho lo 36 i0 (.agg #[.int .i64 0, .int .i64 0, .int .i64 0]) 3 24 Tryz.underlying24 hi hz0 hz1 hz2 rfl (by decide) v l.length xs hs (World.ownsRow.alloc hown _) ⟨W.heap.size, 0, none⟩ 1 1 [.int .i64 e.1, .int .i64 e.2.1, .int .i64 e.2.2] hx rfl (cell_three_new _ _ _ _ _) ?_ (by unfold maxLen; omega) (by omega) (by simp; omega) ?_
  · intro u hu
    simp at hu
    rcases hu with rfl | rfl | rfl <;> rfl
  · intro v' w' h1 h2 _
    obtain ⟨ad, c, rfl⟩ := owns_form3 h1
    exact h ad c w' (HomNew.snoc hown.1 hxs h1) h2 (by have := h2.size; simp at this; omega)
/-- .. of what l92Homes carries: a reader with a matrix, a table, and homes. -/
theorem wp_append_homS {o : Oper} {a : Act} {K : Act → World → Prop} {Q : Exit → Act → World → Prop} (s x : Operand)
    (ho : o.op = .call { callee := .builtin .append, args := #[s, x], argTypes := #[24, 24] })
    (lo : Nat) (v : Value) (l : List Ent) (e : Ent) (hs : a.eval s = v) (hO : HomNew W lo v l) (hx : a.eval x = .slice (some ⟨W.heap.size, 0, none⟩) 1 1) (hl : l.length ≤ 1000000) (hlo : lo ≤ W.heap.size)
    {k : Nat} {ra : Option Addr} {len' cap : Nat} {zs : List Int} {w : World} {q m n lt : Nat} {mv tv : Value} {tl : List Ent} (hS : RS k ra len' cap zs w W q mv m n) (hwl : w.heap.size ≤ lo) (hT : EntNew W lt tv tl)
    (h : ∀ ad c w', HomNew w' lo (.slice ad (l.length + 1) c) (l ++ [e]) → RS k ra len' cap zs w w' q mv m n → EntNew w' lt tv tl → w'.heap.size ≥ W.heap.size → K (a.put o.dst (.slice ad (l.length + 1) c)) w') : o.wp Tryz.prog a (W.alloc (.cells #[.int .i64 e.1, .int .i64 e.2.1, .int .i64 e.2.2] 36)) K Q := by
  have hH1 := hO.below (Below.alloc (Below.refl W.heap.size W) (Nat.le_refl _) (.cells #[.int .i64 e.1, .int .i64 e.2.1, .int .i64 e.2.2] 36))
  refine wp_append_hom s x ho lo v l e hs hO hx hl hlo fun ad c w' h1 h2 h3 => h ad c w' h1 ((hS.alloc _).hom hH1 h2 hwl) ?_ h3
  exact (hT.below (Below.alloc (Below.refl W.heap.size W) (Nat.le_refl _) _)).hom (HomGrown.of hH1 h2)
theorem step_append_homS {ops : Array Oper} {o : Oper} {a : Act} {K : Act → World → Prop} {Q : Exit → Act → World → Prop} {E : Prop} (hgd : o.guard = none) (s x : Operand)
    (ho : o.op = .call { callee := .builtin .append, args := #[s, x], argTypes := #[24, 24] })
    (lo : Nat) (v : Value) (l : List Ent) (e : Ent) (N : Nat) (hN : l.length = N) (hs : a.eval s = v) (hO : HomNew W lo v l) (hx : a.eval x = .slice (some ⟨W.heap.size, 0, none⟩) 1 1) (hl : N ≤ 1000000) (hlo : lo ≤ W.heap.size)
    {k : Nat} {ra : Option Addr} {len' cap : Nat} {zs : List Int} {w : World} {q m n lt : Nat} {mv tv : Value} {tl : List Ent} (hS : RS k ra len' cap zs w W q mv m n) (hwl : w.heap.size ≤ lo) (hT : EntNew W lt tv tl)
    (h : ∀ ad c w', HomNew w' lo (.slice ad (N + 1) c) (l ++ [e]) → RS k ra len' cap zs w w' q mv m n → EntNew w' lt tv tl → w'.heap.size ≥ W.heap.size → K (a.put o.dst (.slice ad (N + 1) c)) w') :
    if Region.wanted o (yielded ops a.tmps) = true then Oper.wp Tryz.prog o a (W.alloc (.cells #[.int .i64 e.1, .int .i64 e.2.1, .int .i64 e.2.2] 36)) K Q else E := by
  subst hN
  have hw : Region.wanted o (yielded ops a.tmps) = true := by simp [Region.wanted, hgd]
  rw [if_pos hw]
  exact wp_append_homS s x ho lo v l e hs hO hx hl hlo hS hwl hT h
theorem wpList_append_homS {ops : Array Oper} {rest : List Oper} {o : Oper} {a : Act} {Q : Exit → Act → World → Prop} (hgd : o.guard = none) (s x : Operand)
    (ho : o.op = .call { callee := .builtin .append, args := #[s, x], argTypes := #[24, 24] })
    (lo : Nat) (v : Value) (l : List Ent) (e : Ent) (N : Nat) (hN : l.length = N) (hs : a.eval s = v) (hO : HomNew W lo v l) (hx : a.eval x = .slice (some ⟨W.heap.size, 0, none⟩) 1 1) (hl : N ≤ 1000000) (hlo : lo ≤ W.heap.size)
    {k : Nat} {ra : Option Addr} {len' cap : Nat} {zs : List Int} {w : World} {q m n : Nat} {mv : Value} (hS : RS k ra len' cap zs w W q mv m n) (hwl : w.heap.size ≤ lo)
    (h : ∀ ad c w', HomNew w' lo (.slice ad (N + 1) c) (l ++ [e]) → RS k ra len' cap zs w w' q mv m n → w'.heap.size ≥ W.heap.size → wpList Tryz.prog ops Q rest (a.put o.dst (.slice ad (N + 1) c)) w') :
    wpList Tryz.prog ops Q (o :: rest) a (W.alloc (.cells #[.int .i64 e.1, .int .i64 e.2.1, .int .i64 e.2.2] 36)) := by
  subst hN
  exact wpList_plain hgd fun _ hK => wp_append_homS s x ho lo v l e hs hO hx hl hlo hS hwl (EntNew.nil W 0) fun ad c w' h1 h2 _ h3 => hK _ _ (h ad c w' h1 h2 h3)
end Go.Proofs.YtlpibfafpljedaaGreatDoor
