/- Lists of ways, and lists of such, while they are built by append. -/
import Derived.Test.YtbbhnnbpeiodnaaDoorRanksTable
import Derived.Test.YtbbhnnbpeiodnaaDoorRanksPlayI
namespace Go.Proofs.YtbbhnnbpeiodnaaDoor
open Go.RowKit
set_option linter.unusedVariables false
set_option maxRecDepth 100000

/-- A list of ways of its own, from lo on; the ways' numbers lie from lo0 on. -/
def RankOwn (w : World) (lo lo0 : Nat) (v : Value) (ll : List (List Int)) : Prop :=
  ∃ us : List Value, us.length = ll.length ∧ w.ownsRow lo 24 1 v ll.length us ∧ ∀ i, i < ll.length → IntsTy w lo0 (us.getD i undef) (ll.getD i [])
theorem owns_only {w w' : World} {lo k n : Nat} {T : TypeId} {v : Value} {us : List Value} (h : w.ownsRow lo T 1 v n us) (ho : Only k w w') (hk : k < lo) : w'.ownsRow lo T 1 v n us := by
  refine ⟨h.1, ?_⟩
  rcases h.2 with h' | ⟨g, cap, cur, h1, h2, h3, h4⟩
  · exact .inl h'
  · exact .inr ⟨g, cap, cur, h1, h2, (ho.block g (heap_lt h3) (by omega)).trans h3, h4⟩
theorem owns_typed {w w' : World} {lo n : Nat} {T : TypeId} {v : Value} {us : List Value} {row : Option Nat} (h : w.ownsRow lo T 1 v n us) (hg : w.grownBy w' row) (hrow : ∀ g, row = some g → ∀ cur mk, w.heap[g]? ≠ some (.cells cur T mk)) : w'.ownsRow lo T 1 v n us := by
  refine ⟨h.1, ?_⟩
  rcases h.2 with h' | ⟨g, cap, cur, h1, h2, h3, h4⟩
  · exact .inl h'
  · exact .inr ⟨g, cap, cur, h1, h2, (hg.block g (heap_lt h3) (by intro e; exact hrow g e.symm cur _ h3)).trans h3, h4⟩
theorem owns_type {w : World} {lo n : Nat} {T T' : TypeId} {v : Value} {us : List Value} (h : w.ownsRow lo T 1 v n us) (hT : T ≠ T') : ∀ g, v.ownBlock = some g → ∀ cur mk, w.heap[g]? ≠ some (.cells cur T' mk) := by
  intro g hg cur mk e
  rcases h.2 with ⟨rfl, _⟩ | ⟨g', cap, cur', rfl, h2, h3, h4⟩
  · cases hg
  · simp [Value.ownBlock] at hg
    subst hg
    rw [h3] at e
    simp at e
    exact hT e.2.1
theorem RankOwn.only {w w' : World} {lo lo0 k : Nat} {v : Value} {ll : List (List Int)} (h : RankOwn w lo lo0 v ll) (ho : Only k w w') (hk : k < lo) (hk0 : k < lo0) : RankOwn w' lo lo0 v ll := by
  obtain ⟨us, h1, h2, h3⟩ := h
  exact ⟨us, h1, owns_only h2 ho hk, fun i hi => (h3 i hi).only ho hk0⟩
theorem RankOwn.below {w w' : World} {lo lo0 : Nat} {v : Value} {ll : List (List Int)} (h : RankOwn w lo lo0 v ll) (hb : Below w.heap.size w w') : RankOwn w' lo lo0 v ll := by
  obtain ⟨us, h1, h2, h3⟩ := h
  exact ⟨us, h1, owns_belowR h2 hb, fun i hi => (h3 i hi).below hb⟩
theorem owns_slice {w : World} {lo n : Nat} {T : TypeId} {v : Value} {us : List Value} (hl : us.length = n) (h : w.ownsRow lo T 1 v n us) : SliceAt w v n (fun i => us.getD i undef) := by
  rcases h.2 with ⟨rfl, hn⟩ | ⟨g, cap, cur, rfl, hb, hg, hnc, hcm, hcs, htake⟩
  · exact ⟨none, 0, by rw [hn], by omega, by unfold maxLen; omega, .inl hn⟩
  · refine ⟨_, cap, rfl, hnc, hcm, .inr ⟨g, 0, rfl, heap_lt hg, fun i hi => ?_⟩⟩
    rw [Nat.zero_add, h.cellAt i (by omega)]
    simp [List.getElem?_eq_getElem (by omega : i < us.length)]
theorem RankOwn.tb {w : World} {lo lo0 : Nat} {v : Value} {ll : List (List Int)} (h : RankOwn w lo lo0 v ll) (hle : lo0 ≤ lo) : RowsTb w lo0 v ll := by
  obtain ⟨us, h1, h2, h3⟩ := h
  exact ⟨_, owns_slice h1 h2, fun b hb => Nat.le_trans hle (World.ownsRow.lt h2 b hb).1, h3⟩
theorem append_getD {α : Type} (l : List α) (x d : α) (i : Nat) (hi : i < l.length + 1) : (l ++ [x]).getD i d = if i = l.length then x else l.getD i d := by
  by_cases h : i = l.length
  · subst h; simp
  · rw [if_neg h]; simp [List.getElem?_append, (by omega : i < l.length)]
theorem RankOwn.append {w w1 : World} {lo lo0 : Nat} {v v' u : Value} {us : List Value} {ll : List (List Int)} {way : List Int} (hu : IntsTy w lo0 u way)
    (hus : us.length = ll.length ∧ w.ownsRow lo 24 1 v ll.length us ∧ ∀ i, i < ll.length → IntsTy w lo0 (us.getD i undef) (ll.getD i []))
    (hown : w1.ownsRow lo 24 1 v' (ll.length + 1) (us ++ [u])) (hg : w.grownBy w1 v.ownBlock) : RankOwn w1 lo lo0 v' (ll ++ [way]) := by
  obtain ⟨h1, h2, h3⟩ := hus
  have hrow := owns_type (T' := 3) h2 (by decide)
  refine ⟨us ++ [u], by simp [h1], by simpa using hown, fun i hi => ?_⟩
  have hi' : i < ll.length + 1 := by simpa using hi
  rw [append_getD us u undef i (by omega), append_getD ll way [] i hi', h1]
  by_cases e : i = ll.length
  · rw [if_pos e, if_pos e]; exact hu.grown hg hrow
  · rw [if_neg e, if_neg e]; exact (h3 i (by omega)).grown hg hrow
theorem RankOwn.grown {w w1 : World} {lo lo0 : Nat} {v : Value} {ll : List (List Int)} {row : Option Nat} (h : RankOwn w lo lo0 v ll) (hg : w.grownBy w1 row) (h1 : ∀ g, row = some g → ∀ cur mk, w.heap[g]? ≠ some (.cells cur 24 mk)) (h2 : ∀ g, row = some g → ∀ cur mk, w.heap[g]? ≠ some (.cells cur 3 mk)) : RankOwn w1 lo lo0 v ll := by
  obtain ⟨us, e1, e2, e3⟩ := h
  exact ⟨us, e1, owns_typed e2 hg h1, fun i hi => (e3 i hi).grown hg h2⟩
/-- .. one that is written is another one -/
theorem RankOwn.beside {w w1 : World} {lo lo0 : Nat} {v v2 : Value} {ll : List (List Int)} (h : RankOwn w lo lo0 v ll) (hg : w.grownBy w1 v2.ownBlock) (hne : NeB v v2) (h2 : ∀ g, v2.ownBlock = some g → ∀ cur mk, w.heap[g]? ≠ some (.cells cur 3 mk)) : RankOwn w1 lo lo0 v ll := by
  obtain ⟨us, e1, e2, e3⟩ := h
  refine ⟨us, e1, World.ownsRow.kept e2 hg ?_, fun i hi => (e3 i hi).grown hg h2⟩
  cases hv : v.ownBlock with
  | none => exact .inl rfl
  | some b => right; intro e; exact hne b hv e.symm
/-- Lists of ways, one behind the other, each of its own. -/
def OutOwn (w : World) (lo lo0 : Nat) (v : Value) (vs : List Value) (lll : List (List (List Int))) : Prop :=
  vs.length = lll.length ∧ w.ownsRow lo 27 1 v lll.length vs ∧ (∀ i, i < lll.length → RankOwn w lo lo0 (vs.getD i undef) (lll.getD i [])) ∧ ∀ i j, i < lll.length → j < lll.length → i ≠ j → NeB (vs.getD i undef) (vs.getD j undef)
theorem OutOwn.only {w w' : World} {lo lo0 k : Nat} {v : Value} {vs : List Value} {lll : List (List (List Int))} (h : OutOwn w lo lo0 v vs lll) (ho : Only k w w') (hk : k < lo) (hk0 : k < lo0) : OutOwn w' lo lo0 v vs lll :=
  ⟨h.1, owns_only h.2.1 ho hk, fun i hi => (h.2.2.1 i hi).only ho hk hk0, h.2.2.2⟩
theorem OutOwn.below {w w' : World} {lo lo0 : Nat} {v : Value} {vs : List Value} {lll : List (List (List Int))} (h : OutOwn w lo lo0 v vs lll) (hb : Below w.heap.size w w') : OutOwn w' lo lo0 v vs lll :=
  ⟨h.1, owns_belowR h.2.1 hb, fun i hi => (h.2.2.1 i hi).below hb, h.2.2.2⟩
theorem OutOwn.table {w : World} {lo lo0 : Nat} {v : Value} {vs : List Value} {lll : List (List (List Int))} (h : OutOwn w lo lo0 v vs lll) (hle : lo0 ≤ lo) : TableIn w lo0 v lll :=
  ⟨_, owns_slice h.1 h.2.1, fun b hb => Nat.le_trans hle (World.ownsRow.lt h.2.1 b hb).1, fun i hi => (h.2.2.1 i hi).tb hle⟩
theorem RankOwn.lift {w : World} {lo lo' lo0 : Nat} {v : Value} {ll : List (List Int)} (h : RankOwn w lo lo0 v ll) (hle : lo' ≤ lo) : RankOwn w lo' lo0 v ll := by
  obtain ⟨us, h1, h2, h3⟩ := h
  refine ⟨us, h1, ⟨h2.1, ?_⟩, h3⟩
  rcases h2.2 with h' | ⟨g, cap, cur, e1, e2, e3⟩
  · exact .inl h'
  · exact .inr ⟨g, cap, cur, e1, Nat.le_trans hle e2, e3⟩
theorem OutOwn.append {w w1 : World} {lo lo0 H : Nat} {v v' u : Value} {vs : List Value} {lll : List (List (List Int))} {ll : List (List Int)} (h : OutOwn w lo lo0 v vs lll) (hu : RankOwn w H lo0 u ll) (hle : lo ≤ H)
    (hlt : ∀ i, i < lll.length → ∀ b, (vs.getD i undef).ownBlock = some b → b < H)
    (hown : w1.ownsRow lo 27 1 v' (lll.length + 1) (vs ++ [u])) (hg : w.grownBy w1 v.ownBlock) : OutOwn w1 lo lo0 v' (vs ++ [u]) (lll ++ [ll]) := by
  obtain ⟨h1, h2, h3, h4⟩ := h
  have r1 := owns_type (T' := 24) h2 (by decide)
  have r2 := owns_type (T' := 3) h2 (by decide)
  have hge : ∀ b, u.ownBlock = some b → H ≤ b := by
    obtain ⟨us, _, e2, _⟩ := hu
    exact fun b hb => (World.ownsRow.lt e2 b hb).1
  refine ⟨by simp [h1], by simpa using hown, fun i hi => ?_, fun i j hi hj hne => ?_⟩
  · have hi' : i < lll.length + 1 := by simpa using hi
    rw [append_getD vs u undef i (by omega), append_getD lll ll [] i hi', h1]
    by_cases e : i = lll.length
    · rw [if_pos e, if_pos e]; exact (hu.lift hle).grown hg r1 r2
    · rw [if_neg e, if_neg e]; exact (h3 i (by omega)).grown hg r1 r2
  · have hi' : i < lll.length + 1 := by simpa using hi
    have hj' : j < lll.length + 1 := by simpa using hj
    rw [append_getD vs u undef i (by omega), append_getD vs u undef j (by omega), h1]
    by_cases e : i = lll.length
    · rw [if_pos e, if_neg (by omega)]
      intro b hb e2
      have := hge b hb
      have := hlt j (by omega) b e2
      omega
    · rw [if_neg e]
      by_cases e' : j = lll.length
      · rw [if_pos e']
        intro b hb e2
        have := hge b e2
        have := hlt i (by omega) b hb
        omega
      · rw [if_neg e']; exact h4 i j (by omega) (by omega) hne
/-- one list of ways is put in another's place -/
theorem OutOwn.store {w w1 : World} {lo lo0 g n cap : Nat} {u : Value} {vs : List Value} {lll : List (List (List Int))} {ll : List (List Int)} (h : OutOwn w lo lo0 (.slice (some ⟨g, 0, none⟩) n cap) vs lll)
    (hg : w.grownBy w1 (vs.getD 0 undef).ownBlock) (hu : RankOwn w1 lo lo0 u ll) (hlt : 0 < lll.length) (hub : ∀ b, u.ownBlock = some b → (vs.getD 0 undef).ownBlock = some b ∨ w.heap.size ≤ b) :
    OutOwn (w1.setCell ⟨g, 0, none⟩ u) lo lo0 (.slice (some ⟨g, 0, none⟩) n cap) (vs.set 0 u) (lll.set 0 ll) := by
  obtain ⟨h1, h2, h3, h4⟩ := h
  have hn : n = lll.length := by
    rcases h2.2 with ⟨e, _⟩ | ⟨g', cap', cur, e, _⟩
    · simp at e
    · simp at e; exact e.2.1
  subst hn
  have hr0 := h3 0 hlt
  obtain ⟨us0, f1, f2, f3⟩ := hr0
  have t1 := owns_type (T' := 3) f2 (by decide)
  have t2 := owns_type (T' := 27) f2 (by decide)
  have k1 : w1.ownsRow lo 27 1 (.slice (some ⟨g, 0, none⟩) lll.length cap) lll.length vs := owns_typed h2 hg t2
  have hst := k1.stored 0 u
  have s1 := owns_type (T' := 24) k1 (by decide)
  have s2 := owns_type (T' := 3) k1 (by decide)
  have e1 : ∀ i, (vs.set 0 u).getD i undef = if i = 0 then u else vs.getD i undef := fun i => set_getD (by rw [h1]; exact hlt)
  have e2 : ∀ i, (lll.set 0 ll).getD i [] = if i = 0 then ll else lll.getD i [] := fun i => by
    by_cases hi : i = 0
    · subst hi; simp [hlt]
    · rw [if_neg hi]; simp [Ne.symm hi]
  refine ⟨by simp [h1], by simpa using hst.1, fun i hi => ?_, fun i j hi hj hne => ?_⟩
  · have hi' : i < lll.length := by simpa using hi
    rw [e1, e2]
    by_cases h0 : i = 0
    · rw [if_pos h0, if_pos h0]; exact hu.grown hst.2 (by intro g' hg'; exact s1 g' (by rw [← hg']; rfl)) (by intro g' hg'; exact s2 g' (by rw [← hg']; rfl))
    · rw [if_neg h0, if_neg h0]
      exact ((h3 i hi').beside hg (h4 i 0 hi' hlt h0) t1).grown hst.2 (by intro g' hg'; exact s1 g' (by rw [← hg']; rfl)) (by intro g' hg'; exact s2 g' (by rw [← hg']; rfl))
  · have hi' : i < lll.length := by simpa using hi
    have hj' : j < lll.length := by simpa using hj
    have hol : ∀ q, q < lll.length → ∀ b, (vs.getD q undef).ownBlock = some b → b < w.heap.size := fun q hq b hb => by
      obtain ⟨us, _, e2, _⟩ := h3 q hq
      exact (World.ownsRow.lt e2 b hb).2
    rw [e1, e1]
    by_cases h0 : i = 0
    · subst h0
      rw [if_pos rfl, if_neg (Ne.symm hne)]
      intro b hb e
      rcases hub b hb with h | h
      · exact h4 0 j hi' hj' hne b h e
      · have := hol j hj' b e; omega
    · rw [if_neg h0]
      by_cases h0' : j = 0
      · rw [if_pos h0']
        intro b hb e
        rcases hub b e with h | h
        · exact h4 i 0 hi' hlt h0 b hb h
        · have := hol i hi' b hb; omega
      · rw [if_neg h0']; exact h4 i j hi' hj' hne
end Go.Proofs.YtbbhnnbpeiodnaaDoor
