/- append of one entry to a table of one's own. -/
import Derived.Test.YtnjkifnlimfhnaaDoorDrawRng
namespace Go.Proofs.YtnjkifnlimfhnaaDoor
open Go.RowKit
set_option linter.unusedVariables false

theorem cell_three_new (W : World) (x y z : Value) (T : TypeId) : ∀ j u, ([x, y, z] : List Value)[j]? = some u → (W.alloc (.cells #[x, y, z] T)).cell? ((⟨W.heap.size, 0, none⟩ : Addr).add j) = some u := by
  intro j u hj
  have hj3 : j < 3 := by
    rcases Nat.lt_or_ge j 3 with h | h
    · exact h
    · rw [List.getElem?_eq_none (by simpa using h)] at hj; cases hj
  have : j = 0 ∨ j = 1 ∨ j = 2 := by omega
  rcases this with rfl | rfl | rfl <;> simp at hj <;> subst hj <;> simp [Addr.add]
theorem EntNew.nil (w : World) (lo : Nat) : EntNew w lo (.slice none 0 0) [] := ⟨[], World.ownsRow_nil _ _ _ _, fun i hi => by simp at hi⟩
theorem EntNew.zero (w : World) : EntNew (w.alloc (.cells #[] 35)) w.heap.size (.slice (some ⟨w.heap.size, 0, none⟩) 0 0) [] :=
  ⟨[], World.ownsRow_lit (base := w.heap.size) (e := 35) (size := 3) w #[] 0 (Nat.le_refl _) (by simp [maxLen]) rfl, fun i hi => by simp at hi⟩
theorem EntNew.form {w : World} {lo : Nat} {v : Value} {l : List Ent} (h : EntNew w lo v l) : ∃ a c, v = .slice a l.length c ∧ l.length ≤ c ∧ c ≤ 9223372036854775807 := h.ents.form
theorem EntNew.snoc {w : World} {lo : Nat} {v' : Value} {l : List Ent} {e : Ent} {xs : List Value} (hl : xs.length = l.length * 3)
    (hx : ∀ i, i < l.length → xs.getD (i * 3) undef = .int .i64 (l.getD i (0, 0, 0)).1 ∧ xs.getD (i * 3 + 1) undef = .int .i64 (l.getD i (0, 0, 0)).2.1 ∧ xs.getD (i * 3 + 2) undef = .int .i64 (l.getD i (0, 0, 0)).2.2)
    (h : w.ownsRow lo 35 3 v' (l.length + 1) (xs ++ [.int .i64 e.1, .int .i64 e.2.1, .int .i64 e.2.2])) : EntNew w lo v' (l ++ [e]) := by
  refine ⟨_, by rw [List.length_append, List.length_singleton]; exact h, fun i hi => ?_⟩
  rw [List.length_append, List.length_singleton] at hi
  by_cases hil : i < l.length
  · obtain ⟨e0, e1, e2⟩ := hx i hil
    have q : (l ++ [e]).getD i (0, 0, 0) = l.getD i (0, 0, 0) := by simp only [List.getD_eq_getElem?_getD]; rw [List.getElem?_append_left hil]
    have r : ∀ j, j < xs.length → (xs ++ [Value.int .i64 e.1, Value.int .i64 e.2.1, Value.int .i64 e.2.2]).getD j undef = xs.getD j undef := fun j hj => by simp only [List.getD_eq_getElem?_getD]; rw [List.getElem?_append_left hj]
    rw [q, r _ (by omega), r _ (by omega), r _ (by omega)]
    exact ⟨e0, e1, e2⟩
  · obtain rfl : i = l.length := by omega
    have q : (l ++ [e]).getD l.length (0, 0, 0) = e := by simp
    have r : ∀ j, (xs ++ [Value.int .i64 e.1, Value.int .i64 e.2.1, Value.int .i64 e.2.2]).getD (l.length * 3 + j) undef = ([.int .i64 e.1, .int .i64 e.2.1, .int .i64 e.2.2] : List Value).getD j undef := fun j => by
      simp only [List.getD_eq_getElem?_getD]; rw [List.getElem?_append_right (by omega), ← hl, Nat.add_sub_cancel_left]
    rw [q]
    exact ⟨r 0, r 1, r 2⟩
theorem owns_form3 {w : World} {lo n : Nat} {T : TypeId} {size : Nat} {v : Value} {us : List Value} (h : w.ownsRow lo T size v n us) : ∃ a cap, v = .slice a n cap := by
  rcases h.2 with ⟨rfl, hn⟩ | ⟨g, cap, cur, rfl, _⟩
  · exact ⟨none, 0, by rw [hn]⟩
  · exact ⟨_, cap, rfl⟩
variable {W : World}
theorem wp_append_ent {o : Oper} {a : Act} {K : Act → World → Prop} {Q : Exit → Act → World → Prop} (s x : Operand)
    (ho : o.op = .call { callee := .builtin .append, args := #[s, x], argTypes := #[31, 31] })
    (lo : Nat) (v : Value) (l : List Ent) (e : Ent) (hs : a.eval s = v) (hO : EntNew W lo v l) (hx : a.eval x = .slice (some ⟨W.heap.size, 0, none⟩) 1 1) (hl : l.length ≤ 1000000) (hlo : lo ≤ W.heap.size)
    (h : ∀ ad c w', EntNew w' lo (.slice ad (l.length + 1) c) (l ++ [e]) → Below lo W w' → w'.heap.size ≥ W.heap.size → K (a.put o.dst (.slice ad (l.length + 1) c)) w') : o.wp Tryd.prog a (W.alloc (.cells #[.int .i64 e.1, .int .i64 e.2.1, .int .i64 e.2.2] 35)) K Q := by
  obtain ⟨i0, hi, hz0, hz1, hz2⟩ := info_parts info_e3
  obtain ⟨xs, hown, hxs⟩ := hO
  refine wp_append_own _ s x 31 ho lo 35 i0 (.agg #[.int .i64 0, .int .i64 0, .int .i64 0]) 3 24 Tryd.underlying31 hi hz0 hz1 hz2 rfl (by decide) v l.length xs hs (World.ownsRow.alloc hown _) ⟨W.heap.size, 0, none⟩ 1 1 [.int .i64 e.1, .int .i64 e.2.1, .int .i64 e.2.2] hx rfl (cell_three_new _ _ _ _ _) ?_ (by unfold maxLen; omega) (by omega) (by simp; omega) ?_
  · intro u hu
    simp at hu
    rcases hu with rfl | rfl | rfl <;> rfl
  · intro v' w' h1 h2 _
    obtain ⟨ad, c, rfl⟩ := owns_form3 h1
    have hb := Below.grown (Below.alloc (Below.refl _ _) hlo _) h2 (by simp; omega) (fun g hg => (World.ownsRow.lt hown g hg).1)
    exact h ad c w' (EntNew.snoc hown.1 hxs h1) hb hb.size
theorem wpList_append_ent {ops : Array Oper} {rest : List Oper} {o : Oper} {a : Act} {Q : Exit → Act → World → Prop} (hgd : o.guard = none) (s x : Operand)
    (ho : o.op = .call { callee := .builtin .append, args := #[s, x], argTypes := #[31, 31] })
    (lo : Nat) (v : Value) (l : List Ent) (e : Ent) (hs : a.eval s = v) (hO : EntNew W lo v l) (hx : a.eval x = .slice (some ⟨W.heap.size, 0, none⟩) 1 1) (hl : l.length ≤ 1000000) (hlo : lo ≤ W.heap.size)
    (h : ∀ ad c w', EntNew w' lo (.slice ad (l.length + 1) c) (l ++ [e]) → Below lo W w' → w'.heap.size ≥ W.heap.size → wpList Tryd.prog ops Q rest (a.put o.dst (.slice ad (l.length + 1) c)) w') : wpList Tryd.prog ops Q (o :: rest) a (W.alloc (.cells #[.int .i64 e.1, .int .i64 e.2.1, .int .i64 e.2.2] 35)) :=
  wpList_plain hgd fun _ hK => wp_append_ent s x ho lo v l e hs hO hx hl hlo fun ad c w' h1 h2 h3 => hK _ _ (h ad c w' h1 h2 h3)
end Go.Proofs.YtnjkifnlimfhnaaDoor
