/- The laws' own copies of tables: toRange, toEntry, toEntryS, toEntrySS. -/
import Derived.Test.YtlpibfafpljedaaGreatDoorEntSz
import Derived.OwnWalk
namespace Go.Proofs.YtlpibfafpljedaaGreatDoor
open Go.RowKit
set_option linter.unusedVariables false

theorem set_getD {vs : List Value} {k i : Nat} {u : Value} (hk : k < vs.length) : (vs.set k u).getD i undef = if i = k then u else vs.getD i undef := by
  by_cases h : i = k
  · subst h; simp [hk]
  · rw [if_neg h]; simp [Ne.symm h]
/-- A table in a block of its own, from lo on. -/
def EntNew (w : World) (lo : Nat) (v : Value) (l : List Ent) : Prop :=
  ∃ xs, w.ownsRow lo 45 3 v l.length xs ∧ ∀ i, i < l.length → xs.getD (i * 3) undef = .int .i64 (l.getD i (0, 0, 0)).1 ∧ xs.getD (i * 3 + 1) undef = .int .i64 (l.getD i (0, 0, 0)).2.1 ∧ xs.getD (i * 3 + 2) undef = .int .i64 (l.getD i (0, 0, 0)).2.2
theorem EntNew.below {W w1 : World} {B : Nat} {v : Value} {l : List Ent} (h : EntNew W B v l) (hb : Below W.heap.size W w1) : EntNew w1 B v l := by
  obtain ⟨xs, h1, h2⟩ := h
  exact ⟨xs, owns_belowR h1 hb, h2⟩
theorem EntNew.kept {W w1 : World} {g : Nat} {v : Value} {l : List Ent} (h : EntNew W (g + 1) v l) (hg : W.grownBy w1 (some g)) : EntNew w1 (g + 1) v l := by
  obtain ⟨xs, h1, h2⟩ := h
  refine ⟨xs, World.ownsRow.kept h1 hg ?_, h2⟩
  cases hv : v.ownBlock with
  | none => exact .inl rfl
  | some k => right; have := (World.ownsRow.lt h1 k hv).1; intro e; cases e; omega
theorem EntNew.lift {w : World} {B B' : Nat} {v : Value} {l : List Ent} (h : EntNew w B v l) (hb : B' ≤ B) : EntNew w B' v l := by
  obtain ⟨xs, h1, h2⟩ := h
  refine ⟨xs, ⟨h1.1, ?_⟩, h2⟩
  rcases h1.2 with h | ⟨g, cap, cur, h1, h2, h3⟩
  · exact .inl h
  · exact .inr ⟨g, cap, cur, h1, Nat.le_trans hb h2, h3⟩
theorem EntNew.ents {w : World} {B : Nat} {v : Value} {l : List Ent} (h : EntNew w B v l) : EntsAt w v l := by
  obtain ⟨xs, h1, h2⟩ := h
  rcases h1.2 with ⟨rfl, hn⟩ | ⟨g, cap, cur, rfl, hb, hg, hnc, hcm, hcs, htake⟩
  · exact ⟨none, 0, by rw [hn], by omega, Nat.zero_le _, .inl hn⟩
  · have hxl := h1.1
    refine ⟨_, cap, rfl, hnc, hcm, .inr ⟨g, 0, rfl, heap_lt hg, fun i hi => ?_⟩⟩
    obtain ⟨e0, e1, e2⟩ := h2 i hi
    have key : ∀ j, j < l.length * 3 → w.cell? ⟨g, 0 + j, none⟩ = some (xs.getD j undef) := fun j hj => by
      rw [Nat.zero_add, h1.cellAt j (by omega), List.getD_eq_getElem?_getD, List.getElem?_eq_getElem (by omega)]; rfl
    rw [← e0, ← e1, ← e2]
    exact ⟨key _ (by omega), by rw [Nat.add_assoc]; exact key _ (by omega), by rw [Nat.add_assoc]; exact key _ (by omega)⟩
theorem isSliceE {w : World} {B : Nat} {v : Value} {l : List Ent} (h : EntNew w B v l) : ∃ a n c, v = .slice a n c := by
  obtain ⟨a, c, e, _⟩ := h.ents; exact ⟨a, _, c, e⟩
def TabNew (w : World) (lo : Nat) (v : Value) (ll : List (List Ent)) : Prop :=
  ∃ (g : Nat) (vs : List Value), lo ≤ g ∧ v = .slice (some ⟨g, 0, none⟩) ll.length ll.length ∧ vs.length = ll.length ∧ w.ownsRow g 42 1 v ll.length vs ∧ ∀ i, i < ll.length → EntNew w (g + 1) (vs.getD i undef) (ll.getD i [])
theorem ownsRow_slice {w : World} {g n : Nat} {T : TypeId} {vs : List Value} (hl : vs.length = n) (h : w.ownsRow g T 1 (.slice (some ⟨g, 0, none⟩) n n) n vs) : SliceAt w (.slice (some ⟨g, 0, none⟩) n n) n (fun i => vs.getD i undef) := by
  have hb := (World.ownsRow.lt h g rfl).2
  rcases h.2 with ⟨h', _⟩ | ⟨g', cap', cur, h', _, hg, hnc, hcm, hcs, htake⟩
  · simp at h'
  · simp only [Value.slice.injEq, Option.some.injEq, Addr.mk.injEq, and_true, true_and] at h'
    obtain ⟨rfl, rfl⟩ := h'
    refine ⟨_, n, rfl, Nat.le_refl _, hcm, .inr ⟨g, 0, rfl, hb, fun i hi => ?_⟩⟩
    rw [Nat.zero_add, h.cellAt i (by omega)]
    simp [List.getElem?_eq_getElem (by omega : i < vs.length)]
theorem TabNew.below {W w1 : World} {B : Nat} {v : Value} {l : List (List Ent)} (h : TabNew W B v l) (hb : Below W.heap.size W w1) : TabNew w1 B v l := by
  obtain ⟨g, vs, h1, h2, h3, h4, h5⟩ := h
  exact ⟨g, vs, h1, h2, h3, owns_belowR h4 hb, fun i hi => (h5 i hi).below hb⟩
theorem TabNew.tabs {w : World} {lo : Nat} {v : Value} {ll : List (List Ent)} (h : TabNew w lo v ll) : TabsAt w v ll := by
  obtain ⟨g, vs, h1, rfl, h3, h4, h5⟩ := h
  exact ⟨_, ownsRow_slice h3 h4, fun i hi => (h5 i hi).ents⟩

theorem info_e3 : (Tryz.prog.info? 45).map (fun i => (i.zero, i.size, i.bytes)) = some (some (.agg #[.int .i64 0, .int .i64 0, .int .i64 0]), 3, 24) := by kernel_rfl
theorem info_t2 : (Tryz.prog.info? 42).map (fun i => (i.zero, i.size, i.bytes)) = some (some (.slice none 0 0), 1, 24) := by kernel_rfl
end Go.Proofs.YtlpibfafpljedaaGreatDoor
