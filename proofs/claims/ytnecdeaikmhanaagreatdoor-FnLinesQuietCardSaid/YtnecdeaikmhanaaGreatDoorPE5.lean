/- A part of the proof; packed by a program of mine out of my texts. -/
import Derived.Test.YtnecdeaikmhanaaGreatDoorPE0
import Derived.Test.YtnecdeaikmhanaaGreatDoorPE1
import Derived.Test.YtnecdeaikmhanaaGreatDoorPE2
import Derived.Test.YtnecdeaikmhanaaGreatDoorPE3
import Derived.Test.YtnecdeaikmhanaaGreatDoorPE4
import Derived.Deep.LoopGhost
namespace Go.Proofs.YtnecdeaikmhanaaGreatDoor
open Go.RowKit
set_option linter.unusedVariables false
def TabsL (w : World) (lo : Nat) (v : Value) (ll : List (List Ent)) : Prop :=
  ∃ vs, vs.length = ll.length ∧ w.ownsRow lo 100 1 v ll.length vs ∧ ∀ i, i < ll.length → EntNew w lo (vs.getD i undef) (ll.getD i [])
theorem TabsL.below {w w' : World} {lo : Nat} {v : Value} {ll : List (List Ent)} (h : TabsL w lo v ll) (hb : Below w.heap.size w w') : TabsL w' lo v ll := by
  obtain ⟨vs, h1, h2, h3⟩ := h
  exact ⟨vs, h1, owns_belowR h2 hb, fun i hi => (h3 i hi).below hb⟩
theorem TabsL.only {w w' : World} {lo k : Nat} {v : Value} {ll : List (List Ent)} (h : TabsL w lo v ll) (ho : Only k w w') (hk : k < lo) : TabsL w' lo v ll := by
  obtain ⟨vs, h1, h2, h3⟩ := h
  exact ⟨vs, h1, owns_blk h2 (fun g cur hg hc => ho.block g (heap_lt hc) (by omega)), fun i hi => (h3 i hi).only ho hk⟩
theorem TabsL.lift {w : World} {lo lo' : Nat} {v : Value} {ll : List (List Ent)} (h : TabsL w lo v ll) (hl : lo' ≤ lo) : TabsL w lo' v ll := by
  obtain ⟨vs, h1, h2, h3⟩ := h
  exact ⟨vs, h1, owns_lift h2 hl, fun i hi => (h3 i hi).lift hl⟩
theorem TabsL.form {w : World} {lo : Nat} {v : Value} {ll : List (List Ent)} (h : TabsL w lo v ll) : ∃ a cap, v = .slice a ll.length cap ∧ ll.length ≤ cap ∧ cap ≤ 9223372036854775807 := by
  obtain ⟨vs, h1, h2, h3⟩ := h; exact owns_form h2
theorem TabsL.tabs {w : World} {lo : Nat} {v : Value} {ll : List (List Ent)} (h : TabsL w lo v ll) : TabsAt w v ll := by
  obtain ⟨vs, h1, h2, h3⟩ := h
  refine ⟨fun i => vs.getD i undef, ?_, fun i hi => (h3 i hi).ents⟩
  rcases h2.2 with ⟨rfl, h'⟩ | ⟨g, cap, cur, rfl, hb, hg, hnc, hcm, hcs, htake⟩
  · exact ⟨none, 0, by rw [h'], by omega, Nat.zero_le _, .inl h'⟩
  · refine ⟨_, cap, rfl, hnc, hcm, .inr ⟨g, 0, rfl, heap_lt hg, fun i hi => ?_⟩⟩
    rw [Nat.zero_add, h2.cellAt i (by omega)]
    show vs[i]? = some (vs.getD i undef)
    rw [List.getD_eq_getElem?_getD, List.getElem?_eq_getElem (by omega)]; rfl
theorem TabsL.zero (w : World) : TabsL (w.alloc (.cells #[] 100)) w.heap.size (.slice (some ⟨w.heap.size, 0, none⟩) 0 0) [] :=
  ⟨[], rfl, World.ownsRow_lit (base := w.heap.size) (e := 100) (size := 1) w #[] 0 (Nat.le_refl _) (by simp [maxLen]) rfl, fun i hi => by simp at hi⟩
theorem TabsL.get {w : World} {lo n : Nat} {v : Value} {ll : List (List Ent)} (h : TabsL w lo v ll) (hn : ll.length = n) (i : Nat) (hi : i < n) :
    ∃ g cap u, v = .slice (some ⟨g, 0, none⟩) n cap ∧ lo ≤ g ∧ g < w.heap.size ∧ w.cell? ⟨g, i, none⟩ = some u ∧ w.frozen? ⟨g, i, none⟩ = false ∧ EntNew w lo u (ll.getD i []) := by
  obtain ⟨vs, h1, h2, h3⟩ := h
  subst hn
  rcases h2.2 with ⟨rfl, h'⟩ | ⟨g, cap, cur, rfl, hb, hg, hnc, hcm, hcs, htake⟩
  · omega
  · refine ⟨g, cap, vs.getD i undef, rfl, hb, heap_lt hg, ?_, h2.frozenAt i, h3 i hi⟩
    rw [h2.cellAt i (by omega)]
    show vs[i]? = some (vs.getD i undef)
    rw [List.getD_eq_getElem?_getD, List.getElem?_eq_getElem (by omega)]; rfl
theorem EntNew.notab {w w' : World} {lo : Nat} {u : Value} {l : List Ent} {g : Nat} (h : EntNew w lo u l) {cur : Array Value} (hg : w.heap[g]? = some (.cells cur 100 (0, 0))) (hb : w.grownBy w' (some g)) : EntNew w' lo u l := by
  obtain ⟨xs, h1, h2⟩ := h
  exact ⟨xs, owns_blk h1 (fun b cur' _ hc => hb.block b (heap_lt hc) (by
    intro e
    cases e
    rw [hg] at hc
    simp at hc)), h2⟩
theorem owns_tabrow {w : World} {lo n : Nat} {v : Value} {vs : List Value} (h2 : w.ownsRow lo 100 1 v n vs) {g : Nat} (hv : v.ownBlock = some g) : ∃ cur, w.heap[g]? = some (.cells cur 100 (0, 0)) := by
  rcases h2.2 with ⟨rfl, _⟩ | ⟨g', cap, cur', rfl, _, hg', _⟩
  · cases hv
  · simp [Value.ownBlock] at hv
    subst hv
    exact ⟨_, hg'⟩
theorem EntNew.grownT {w w' : World} {lo lo' n : Nat} {u v : Value} {l : List Ent} {vs : List Value} (h : EntNew w lo u l) (h2 : w.ownsRow lo' 100 1 v n vs) (hg : w.grownBy w' v.ownBlock) : EntNew w' lo u l := by
  cases hv : v.ownBlock with
  | none =>
    rw [hv] at hg
    obtain ⟨xs, h1, h3⟩ := h
    exact ⟨xs, owns_blk h1 (fun b cur' _ hc => hg.block b (heap_lt hc) (by simp)), h3⟩
  | some g =>
    obtain ⟨cur, hc⟩ := owns_tabrow h2 hv
    exact h.notab hc (by rw [hv] at hg; exact hg)
theorem TabsL.set {w : World} {lo n g cap : Nat} {ll : List (List Ent)} {u : Value} {l : List Ent} (h : TabsL w lo (.slice (some ⟨g, 0, none⟩) n cap) ll) (hn : ll.length = n) (j : Nat) (hj : j < n) (hu : EntNew w lo u l) :
    TabsL (w.setCell ⟨g, j, none⟩ u) lo (.slice (some ⟨g, 0, none⟩) n cap) (ll.set j l) := by
  obtain ⟨vs, h1, h2, h3⟩ := h
  subst hn
  obtain ⟨s1, s2⟩ := h2.stored j u
  obtain ⟨cur, hc⟩ := owns_tabrow h2 rfl
  refine ⟨vs.set j u, by simp [h1], by rw [List.length_set]; exact s1, fun i hi => ?_⟩
  rw [List.length_set] at hi
  rw [set_getD (by omega)]
  have e : (ll.set j l).getD i [] = if i = j then l else ll.getD i [] := by
    by_cases h : i = j
    · subst h; simp [hi]
    · rw [if_neg h]; simp [Ne.symm h]
  rw [e]
  by_cases hij : i = j
  · rw [if_pos hij, if_pos hij]; exact hu.notab hc s2
  · rw [if_neg hij, if_neg hij]; exact (h3 i hi).notab hc s2
theorem TabsL.push {w w' : World} {lo m : Nat} {v v' u : Value} {ll : List (List Ent)} {l : List Ent} {vs : List Value} (h1 : vs.length = ll.length) (hm : ll.length = m) (h2 : w.ownsRow lo 100 1 v m vs) (h3 : ∀ i, i < m → EntNew w lo (vs.getD i undef) (ll.getD i [])) (hu : EntNew w lo u l)
    (hg : w.grownBy w' v.ownBlock) (hown : w'.ownsRow lo 100 1 v' (m + 1) (vs ++ [u])) : TabsL w' lo v' (ll ++ [l]) := by
  have e0 : (ll ++ [l]).length = m + 1 := by simp [hm]
  refine ⟨vs ++ [u], by simp [h1], by rw [e0]; exact hown, fun i hi => ?_⟩
  rw [e0] at hi
  by_cases him : i < m
  · have e : (vs ++ [u]).getD i undef = vs.getD i undef := by simp only [List.getD_eq_getElem?_getD]; rw [List.getElem?_append_left (by omega)]
    have e2 : (ll ++ [l]).getD i [] = ll.getD i [] := by simp only [List.getD_eq_getElem?_getD]; rw [List.getElem?_append_left (by omega)]
    rw [e, e2]; exact (h3 i him).grownT h2 hg
  · obtain rfl : i = m := by omega
    have e : (vs ++ [u]).getD i undef = u := by simp only [List.getD_eq_getElem?_getD]; rw [List.getElem?_append_right (by omega), h1, hm]; simp
    have e2 : (ll ++ [l]).getD i [] = l := by simp only [List.getD_eq_getElem?_getD]; rw [List.getElem?_append_right (by omega), hm]; simp
    rw [e, e2]; exact hu.grownT h2 hg
variable {W : World}
theorem wpList_append_tab {ops : Array Oper} {rest : List Oper} {o : Oper} {a : Act} {Q : Exit → Act → World → Prop} (hgd : o.guard = none) (s x : Operand)
    (ho : o.op = .call { callee := .builtin .append, args := #[s, x], argTypes := #[76, 76] })
    (B : Nat) (v u : Value) (ll : List (List Ent)) (l : List Ent) (N : Nat) (hN : ll.length = N) (hs : a.eval s = v) (hO : TabsL W B v ll) (hB : B ≤ W.heap.size) (g : Nat) (hx : a.eval x = .slice (some ⟨g, 0, none⟩) 1 1) (hgW : g = W.heap.size) (hu : EntNew W B u l) (hu1 : ∃ ad n c, u = .slice ad n c) (hlen : N ≤ 1000000)
    (h : ∀ ad c w', TabsL w' B (.slice ad (N + 1) c) (ll ++ [l]) → Below B W w' → w'.heap.size ≥ W.heap.size → wpList Tryz.prog ops Q rest (a.put o.dst (.slice ad (N + 1) c)) w') : wpList Tryz.prog ops Q (o :: rest) a (W.alloc (.cells #[u] 100)) := by
  obtain ⟨i2, hi2, hy0, hy1, hy2⟩ := info_parts info_t2
  subst hN
  subst hgW
  obtain ⟨vs, h1, h2, h3⟩ := hO
  have hA := Below.alloc (Below.refl W.heap.size W) (Nat.le_refl _) (.cells #[u] 100)
  refine wpList_append_src hgd s x 76 ho B 100 i2 (.slice none 0 0) 24 Tryz.underlying76 hi2 hy0 hy1 hy2 rfl v ll.length vs hs (owns_belowR h2 hA) (.slice (some ⟨W.heap.size, 0, none⟩) 1 1) 1 (fun _ => u) hx (lit_any W u 100) (fun j hj => by obtain ⟨ad, n, c, rfl⟩ := hu1; rfl) (by unfold maxLen; omega) (by omega) (by simp; omega) ?_
  intro v' w' hown hgrow
  have hR := TabsL.push h1 rfl (owns_belowR h2 hA) (fun i hi => (h3 i hi).below hA) (hu.below hA) hgrow hown
  obtain ⟨ad, c, rfl, _, _⟩ := hR.form
  rw [List.length_append] at hR ⊢
  exact h ad c w' hR (Below.grown (Below.alloc (Below.refl _ _) hB _) hgrow (by simp; omega) (fun g hg => (World.ownsRow.lt h2 g hg).1)) (by have := hgrow.size; simp at this; omega)
theorem TabsL.setBelow {w : World} {lo n g cap B : Nat} {ll : List (List Ent)} {a : World} (h : TabsL w lo (.slice (some ⟨g, 0, none⟩) n cap) ll) (hb : Below B a w) (hB : B ≤ lo) (j : Nat) (u : Value) : Below B a (w.setCell ⟨g, j, none⟩ u) := by
  obtain ⟨vs, h1, h2, h3⟩ := h
  have := (World.ownsRow.lt h2 g rfl).1
  exact Below.setCell hb (by simp; omega) u
theorem RowsL.setTab {w : World} {lo lo' n g cap : Nat} {v : Value} {ll : List (List Int)} {tt : List (List Ent)} (h : RowsL w lo v ll) (hT : TabsL w lo' (.slice (some ⟨g, 0, none⟩) n cap) tt) (j : Nat) (u : Value) : RowsL (w.setCell ⟨g, j, none⟩ u) lo v ll := by
  obtain ⟨ws, t1, t2, t3⟩ := hT
  obtain ⟨cur, hc⟩ := owns_tabrow t2 rfl
  obtain ⟨vs, h1, h2, h3⟩ := h
  have key : ∀ b (T : TypeId) c, T ≠ 100 → w.heap[b]? = some (Obj.cells c T (0, 0)) → (w.setCell ⟨g, j, none⟩ u).heap[b]? = w.heap[b]? := fun b T c hT hb =>
    Below.heap_setCell _ _ _ _ (by
      intro e
      have e : g = b := by simpa using e.symm
      subst e
      rw [hc] at hb
      simp at hb
      exact hT hb.2.symm)
  exact ⟨vs, h1, owns_blk h2 (fun b c _ hb => key b _ c (by decide) hb), fun i hi => owns_blk (h3 i hi) (fun b c _ hb => key b _ c (by decide) hb)⟩
end Go.Proofs.YtnecdeaikmhanaaGreatDoor
namespace Go.Proofs.YtnecdeaikmhanaaGreatDoor
open Go.RowKit
set_option linter.unusedVariables false
set_option maxHeartbeats 1000000 in
theorem has_any (v : Value) (l : List Int) (x : Int) (w : World) (h : IntsAt w v l) :
    Calls Tryz.prog 116 #[v, .int .i64 x] w fun e w' => e = .returned (.bool (decide (x ∈ l))) ∧ w' = w := by
  obtain ⟨a, cap, rfl, hc, hm, h⟩ := h
  unfold maxLen at hm
  obtain ⟨n, hn⟩ : ∃ n, l.length = n := ⟨_, rfl⟩
  rw [hn] at hc h ⊢
  obtain ⟨B, hB⟩ : ∃ B, decide (x ∈ l) = B := ⟨_, rfl⟩
  rw [hB]
  have HB := Lib.hid hB
  have HN := Lib.hid hn
  have H := Lib.hid h
  clear hB hn h
  go_enter Tryz.func116, Tryz.ntmps116
  go_wp2_with fail
  go_loopg [5] n (fun g i wr => ∃ k : Nat, i = .int .i64 k ∧ k + g = n ∧ wr = w ∧ Hid (∀ j, j < k → l.getD j 0 ≠ x))
  case atStart => exact ⟨0, rfl, by omega, rfl, fun j hj => by omega⟩
  case round =>
    obtain ⟨k, rfl, hk, rfl, hno⟩ := hrel
    by_cases hg : gk = 0
    · subst hg
      obtain rfl : k = n := by omega
      have hB : B = false := by
        rw [← HB.out, decide_eq_false_iff_not]
        intro hx
        obtain ⟨j, hj, he⟩ := List.getElem_of_mem hx
        exact hno.out j (by rw [HN.out] at hj; exact hj) (by simp [List.getElem?_eq_getElem hj, he])
      subst hB
      go_wp2_with fail
      go_ret
      exact ⟨rfl, rfl⟩
    · have hkn : k < n := by omega
      rcases H.out with h0 | ⟨b, off, rfl, hb, hcell⟩
      · omega
      · have hx := hcell k hkn
        clear hcell
        obtain ⟨y, hy⟩ : ∃ y, l.getD k 0 = y := ⟨_, rfl⟩
        rw [hy] at hx
        have HY := Lib.hid hy
        have HK := Lib.hid hk
        clear hy hk
        by_cases hyx : y = x
        · subst hyx
          have hB : B = true := by
            rw [← HB.out, decide_eq_true_eq, ← HY.out]
            have hlt : k < l.length := by rw [HN.out]; exact hkn
            simp [List.getElem?_eq_getElem hlt]
          subst hB
          go_wp2_with fail
          go_ret
          exact ⟨rfl, rfl⟩
        · have hyx' : (y == x) = false := by simp [hyx]
          go_wp2_with fail
          go_roundg (gk - 1)
          case measure => omega
          case rel =>
            refine ⟨k + 1, by go_num, by have := HK.out; omega, rfl, fun j hj => ?_⟩
            by_cases hjk : j = k
            · subst hjk; rw [HY.out]; exact hyx
            · exact hno.out j (by omega)
end Go.Proofs.YtnecdeaikmhanaaGreatDoor
namespace Go.Proofs.YtnecdeaikmhanaaGreatDoor
open Go.RowKit
set_option linter.unusedVariables false
def backF (x : Int) : Int := if x = 1 then 3 else if x = 3 then 1 else x
def relAt (rs : List (List Int)) (i k : Nat) : Int := (rs.getD i []).getD k 0
def relOkF (rs : List (List Int)) (n i k : Nat) : Bool := decide ((rs.getD k []).length = n) && (decide (0 ≤ relAt rs i k) && decide (relAt rs i k ≤ 3)) && decide (relAt rs k i = backF (relAt rs i k)) && (decide (i ≠ k) || decide (relAt rs i k = 0))
def relsOkF (rs : List (List Int)) : Bool := ((List.range rs.length).all fun i => decide ((rs.getD i []).length = rs.length) && (List.range rs.length).all (relOkF rs rs.length i)) && (decide (1 ≤ rs.length) && decide (rs.length ≤ 5))
theorem relsOk_bad1 {rs : List (List Int)} {n i : Nat} (hn : rs.length = n) (hi : i < n) (h : (rs.getD i []).length ≠ n) : relsOkF rs = false := by
  subst hn
  unfold relsOkF
  rw [Bool.and_eq_false_iff]; left
  rw [List.all_eq_false]
  exact ⟨i, List.mem_range.2 hi, by simp only [Bool.and_eq_true, decide_eq_true_eq, not_and]; intro h'; exact absurd h' h⟩
theorem relsOk_bad2 {rs : List (List Int)} {n i k : Nat} (hn : rs.length = n) (hi : i < n) (hk : k < n) (h : relOkF rs n i k = false) : relsOkF rs = false := by
  subst hn
  unfold relsOkF
  rw [Bool.and_eq_false_iff]; left
  rw [List.all_eq_false]
  refine ⟨i, List.mem_range.2 hi, ?_⟩
  rw [Bool.and_eq_true, not_and]
  intro _ h'
  rw [List.all_eq_true] at h'
  rw [h' k (List.mem_range.2 hk)] at h
  cases h
theorem relsOk_good {rs : List (List Int)} {n : Nat} (hn : rs.length = n) (h : ∀ i, i < n → (rs.getD i []).length = n ∧ ∀ k, k < n → relOkF rs n i k = true) : relsOkF rs = (decide (1 ≤ n) && decide (n ≤ 5)) := by
  subst hn
  unfold relsOkF
  have : ((List.range rs.length).all fun i => decide ((rs.getD i []).length = rs.length) && (List.range rs.length).all (relOkF rs rs.length i)) = true := by
    rw [List.all_eq_true]
    intro i hi
    have hi := List.mem_range.1 hi
    rw [Bool.and_eq_true, List.all_eq_true]
    exact ⟨decide_eq_true (h i hi).1, fun k hk => (h i hi).2 k (List.mem_range.1 hk)⟩
  rw [this, Bool.true_and]
theorem backF_in {x : Int} (h0 : 0 ≤ x) (h3 : x ≤ 3) : 0 ≤ backF x ∧ backF x ≤ 3 := by unfold backF; split <;> (try split) <;> omega
set_option maxHeartbeats 1000000 in
theorem l12Back_is (x : Int) (h0 : 0 ≤ x) (h3 : x ≤ 3) (w : World) : Calls Tryz.prog 73 #[.int .i64 x] w fun e w' => e = .returned (.int .i64 (backF x)) ∧ Below w.heap.size w w' := by
  have : x = 0 ∨ x = 1 ∨ x = 2 ∨ x = 3 := by omega
  rcases this with rfl | rfl | rfl | rfl <;>
  · go_enter Tryz.func73, Tryz.ntmps73
    go_wp2_with fail
    go_ret
    exact ⟨rfl, by exact bw⟩
end Go.Proofs.YtnecdeaikmhanaaGreatDoor
