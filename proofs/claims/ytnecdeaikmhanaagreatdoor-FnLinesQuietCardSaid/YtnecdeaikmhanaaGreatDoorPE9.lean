/- A part of the proof; packed by a program of mine out of my texts. -/
import Derived.Test.YtnecdeaikmhanaaGreatDoorPE0
import Derived.Test.YtnecdeaikmhanaaGreatDoorPE1
import Derived.Test.YtnecdeaikmhanaaGreatDoorPE2
import Derived.Test.YtnecdeaikmhanaaGreatDoorPE3
import Derived.Test.YtnecdeaikmhanaaGreatDoorPE4
import Derived.Test.YtnecdeaikmhanaaGreatDoorPE5
import Derived.Test.YtnecdeaikmhanaaGreatDoorPE6
import Derived.Test.YtnecdeaikmhanaaGreatDoorPE7
import Derived.Test.YtnecdeaikmhanaaGreatDoorPE8
import Derived.WalkSpells
import Derived.Deep.RegionLawGrows
import Derived.Deep.DeepAppendRoom
namespace Go.Proofs.YtnecdeaikmhanaaGreatDoor
set_option linter.unusedVariables false
theorem cmpF_cons (h : Int) (a b : List Int) : cmpF (h :: a) (h :: b) = cmpF a b := by
  unfold cmpF
  rw [List.length_cons, List.length_cons]
  have e : cmpL (h :: a) (h :: b) = cmpL a b := by
    conv => lhs; unfold cmpL
    rw [if_neg (by omega), if_neg (by omega)]
  rw [e]
  by_cases h1 : a.length < b.length
  · rw [if_pos (by omega), if_pos h1]
  · rw [if_neg (by omega), if_neg h1]
    by_cases h2 : b.length < a.length
    · rw [if_pos (by omega), if_pos h2]
    · rw [if_neg (by omega), if_neg h2]
def annB (rs ways : List (List Int)) (house rel : Int) (b : Nat) : Bool := decide (ofF rs house ((b : Int) + 1) = rel) && tellsF rs (ways.getD b []) ((b : Int) + 1) house
def annF (rs ways : List (List Int)) (house rel : Int) (m : Nat) : List (List Int) := ((List.range m).filter fun b => annB rs ways house rel b).map fun b => ways.getD b []
def minStep (m x : List Int) : List Int := if cmpF x m < 0 then x else m
def minF (l : List (List Int)) : List Int := (l.drop 1).foldl minStep (l.getD 0 [])
theorem annF_zero (rs ways : List (List Int)) (house rel : Int) : annF rs ways house rel 0 = [] := rfl
theorem annF_yes {rs ways : List (List Int)} {house rel : Int} {m : Nat} (h : annB rs ways house rel m = true) : annF rs ways house rel (m + 1) = annF rs ways house rel m ++ [ways.getD m []] := by
  unfold annF
  rw [List.range_succ, List.filter_append, List.map_append]
  simp [h]
theorem annF_no {rs ways : List (List Int)} {house rel : Int} {m : Nat} (h : annB rs ways house rel m = false) : annF rs ways house rel (m + 1) = annF rs ways house rel m := by
  unfold annF
  rw [List.range_succ, List.filter_append, List.map_append]
  simp [h]
theorem annF_mem {rs ways : List (List Int)} {house rel : Int} {m : Nat} {l : List Int} (h : l ∈ annF rs ways house rel m) : ∃ b, b < m ∧ annB rs ways house rel b = true ∧ l = ways.getD b [] := by
  unfold annF at h
  obtain ⟨b, hb, rfl⟩ := List.mem_map.1 h
  obtain ⟨h1, h2⟩ := List.mem_filter.1 hb
  exact ⟨b, List.mem_range.1 h1, h2, rfl⟩
theorem annF_len (rs ways : List (List Int)) (house rel : Int) (m : Nat) : (annF rs ways house rel m).length ≤ m := by
  unfold annF
  rw [List.length_map]
  exact Nat.le_trans (List.length_filter_le _ _) (by simp)
theorem minF_push {l : List (List Int)} (h : l ≠ []) (u : List Int) : minF (l ++ [u]) = minStep (minF l) u := by
  match l, h with
  | a :: t, _ =>
    unfold minF
    simp
theorem minF_mem : ∀ (t : List (List Int)) (a : List Int), t.foldl minStep a = a ∨ t.foldl minStep a ∈ t
  | [], a => .inl rfl
  | x :: t, a => by
    rw [List.foldl_cons]
    have hm : minStep a x = a ∨ minStep a x = x := by unfold minStep; split <;> simp
    rcases minF_mem t (minStep a x) with h | h
    · rw [h]
      rcases hm with e | e
      · exact .inl e
      · rw [e]; exact .inr (List.mem_cons_self ..)
    · exact .inr (List.mem_cons_of_mem _ h)
theorem minF_in {l : List (List Int)} (h : l ≠ []) : minF l ∈ l := by
  match l, h with
  | a :: t, _ =>
    show (t.foldl minStep a) ∈ a :: t
    rcases minF_mem t a with e | e
    · rw [e]; exact List.mem_cons_self ..
    · exact List.mem_cons_of_mem _ e
theorem fold31_ann (rs ways : List (List Int)) (house rel : Int) : ∀ m, (List.range m).foldl (step31 rs ways house rel) [] = if annF rs ways house rel m = [] then [] else house :: minF (annF rs ways house rel m)
  | 0 => by rw [annF_zero, if_pos rfl]; rfl
  | m + 1 => by
    rw [foldl_range_succ, fold31_ann rs ways house rel m]
    unfold step31
    cases hb : annB rs ways house rel m
    · rw [annF_no hb, if_neg]
      intro h
      unfold annB at hb
      rw [h.2, decide_eq_true h.1] at hb
      cases hb
    · rw [annF_yes hb]
      have hc : ofF rs house ((m : Int) + 1) = rel ∧ tellsF rs (ways.getD m []) ((m : Int) + 1) house = true := by
        unfold annB at hb
        simpa using hb
      rw [if_pos hc]
      by_cases he : annF rs ways house rel m = []
      · rw [if_pos he, he, if_pos (.inl rfl)]
        simp [minF]
      · rw [if_neg he, if_neg (show ¬ (annF rs ways house rel m ++ [ways.getD m []] = []) by simp), minF_push he, cmpF_cons]
        unfold minStep
        by_cases hlt : cmpF (ways.getD m []) (minF (annF rs ways house rel m)) < 0
        · rw [if_pos (.inr hlt), if_pos hlt]
        · rw [if_neg (by intro h; rcases h with h | h; exact absurd h (by simp); exact hlt h), if_neg hlt]
theorem row31_ann {rs ways : List (List Int)} {house rel : Int} {n : Nat} (hn : rs.length = n) : row31 rs ways house rel = if annF rs ways house rel n = [] then [] else house :: minF (annF rs ways house rel n) := by
  unfold row31
  rw [hn, fold31_ann]
def Good31 (ways : List (List Int)) (n : Nat) : Prop := ∀ i, i < n → (ways.getD i []).Nodup
theorem row31_nodup {rs ways : List (List Int)} {house rel : Int} {n : Nat} (hn : rs.length = n) (h : Good31 ways n) : (row31 rs ways house rel).Nodup := by
  rw [row31_ann hn]
  split
  · exact List.nodup_nil
  · rename_i he
    obtain ⟨b, hb, hB, e⟩ := annF_mem (minF_in he)
    rw [e]
    refine List.nodup_cons.2 ⟨?_, h b hb⟩
    unfold annB tellsF at hB
    simp only [Bool.and_eq_true, Bool.not_eq_true', decide_eq_false_iff_not] at hB
    exact hB.2.1.2
theorem pick31_nodup {rs ways : List (List Int)} {home house : Int} {n : Nat} (hn : rs.length = n) (h : Good31 ways n) : (pick31 rs ways home house).Nodup := by
  unfold pick31
  split
  · simp
  · split
    · exact row31_nodup hn h
    · split
      · exact row31_nodup hn h
      · exact row31_nodup hn h
theorem none31_good (n : Nat) (home : Int) : Good31 (none31 n home) n := fun i hi => by
  unfold none31
  rw [map_range_getD _ _ _ hi]
  split <;> simp
theorem net31_good {rs ways : List (List Int)} {home house : Int} {n : Nat} (hn : rs.length = n) (h : Good31 ways n) : Good31 (net31 rs ways home house n) n := fun i hi => by
  unfold net31
  rw [map_range_getD _ _ _ hi]
  split
  · exact pick31_nodup hn h
  · exact h i hi
theorem endTo31_good {rs : List (List Int)} {home : Int} {n : Nat} (hn : rs.length = n) : ∀ k, Good31 (endTo31 rs home n k) n
  | 0 => none31_good n home
  | k + 1 => by rw [endTo31_succ]; exact net31_good hn (endTo31_good hn k)
theorem goodP_of {l : List Int} (h : ∀ z, z ∈ l → 1 ≤ z ∧ z ≤ 5) (hn : l.Nodup) : GoodP l := by
  refine ⟨fun j hj => ?_, fun i j hij hj => ?_⟩
  · rw [List.getD_eq_getElem?_getD, List.getElem?_eq_getElem hj]
    exact h _ (List.getElem_mem hj)
  · rw [List.getD_eq_getElem?_getD, List.getD_eq_getElem?_getD, List.getElem?_eq_getElem hj, List.getElem?_eq_getElem (by omega)]
    simp only [Option.getD_some]
    exact List.pairwise_iff_getElem.1 hn i j (by omega) hj hij
end Go.Proofs.YtnecdeaikmhanaaGreatDoor
namespace Go.Proofs.YtnecdeaikmhanaaGreatDoor
open Go.RowKit Go.Maps
set_option linter.unusedVariables false
set_option maxRecDepth 100000
def RowsM (w0 W : World) (v : Value) (ll : List (List Int)) : Prop :=
  ∃ vs, vs.length = ll.length ∧ W.ownsRow w0.heap.size 37 1 v ll.length vs ∧ ∀ i, i < ll.length → IntsAt w0 (vs.getD i undef) (ll.getD i [])
theorem RowsM.below {w0 W W' : World} {v : Value} {ll : List (List Int)} (h : RowsM w0 W v ll) (hb : Below W.heap.size W W') : RowsM w0 W' v ll := by
  obtain ⟨vs, h1, h2, h3⟩ := h
  exact ⟨vs, h1, owns_belowR h2 hb, h3⟩
theorem RowsM.form {w0 W : World} {v : Value} {ll : List (List Int)} (h : RowsM w0 W v ll) : ∃ a cap, v = .slice a ll.length cap ∧ ll.length ≤ cap ∧ cap ≤ 9223372036854775807 := by
  obtain ⟨vs, h1, h2, h3⟩ := h; exact owns_form h2
theorem OwnInts.nil (w : World) (lo : Nat) : OwnInts w lo (.slice none 0 0) [] := ⟨rfl, .inl ⟨rfl, rfl⟩⟩
theorem RowsM.nil (w0 W : World) : RowsM w0 W (.slice none 0 0) [] :=
  ⟨[], rfl, ⟨rfl, .inl ⟨rfl, rfl⟩⟩, fun i hi => by simp at hi⟩
theorem RowsM.rows {w0 W : World} {v : Value} {ll : List (List Int)} (h : RowsM w0 W v ll) (hb : Below w0.heap.size w0 W) : RowsAt W v ll := by
  obtain ⟨vs, h1, h2, h3⟩ := h
  refine ⟨fun i => vs.getD i undef, ?_, fun i hi => (h3 i hi).below hb⟩
  rcases h2.2 with ⟨rfl, h'⟩ | ⟨g, cap, cur, rfl, hb, hg, hnc, hcm, hcs, htake⟩
  · exact ⟨none, 0, by rw [h'], by omega, Nat.zero_le _, .inl h'⟩
  · refine ⟨_, cap, rfl, hnc, hcm, .inr ⟨g, 0, rfl, heap_lt hg, fun i hi => ?_⟩⟩
    rw [Nat.zero_add, h2.cellAt i (by omega)]
    show vs[i]? = some (vs.getD i undef)
    rw [List.getD_eq_getElem?_getD, List.getElem?_eq_getElem (by omega)]; rfl
section
variable {W : World}
theorem wpList_append_rowM {ops : Array Oper} {rest : List Oper} {o : Oper} {a : Act} {Q : Exit → Act → World → Prop} (hgd : o.guard = none) (s x : Operand)
    (ho : o.op = .call { callee := .builtin .append, args := #[s, x], argTypes := #[33, 33] })
    (w0 : World) (v u : Value) (ll : List (List Int)) (l : List Int) (N : Nat) (hN : ll.length = N) (hs : a.eval s = v) (hO : RowsM w0 W v ll) (hB : w0.heap.size ≤ W.heap.size) (g : Nat) (hx : a.eval x = .slice (some ⟨g, 0, none⟩) 1 1) (hgW : g = W.heap.size) (hu : IntsAt w0 u l) (hlen : N ≤ 1000000)
    (h : ∀ ad c w', RowsM w0 w' (.slice ad (N + 1) c) (ll ++ [l]) → Below w0.heap.size W w' → wpList Tryz.prog ops Q rest (a.put o.dst (.slice ad (N + 1) c)) w') : wpList Tryz.prog ops Q (o :: rest) a (W.alloc (.cells #[u] 37)) := by
  obtain ⟨i2, hi2, hy0, hy1, hy2⟩ := info_parts info_r2
  subst hN
  subst hgW
  obtain ⟨vs, h1, h2, h3⟩ := hO
  have hA := Below.alloc (Below.refl W.heap.size W) (Nat.le_refl _) (.cells #[u] 37)
  obtain ⟨ua, uc, hu1, _, _⟩ := hu.form
  refine wpList_append_src hgd s x 33 ho w0.heap.size 37 i2 (.slice none 0 0) 24 Tryz.underlying33 hi2 hy0 hy1 hy2 rfl v ll.length vs hs (owns_belowR h2 hA) (.slice (some ⟨W.heap.size, 0, none⟩) 1 1) 1 (fun _ => u) hx (lit_any W u 37) (fun j hj => by rw [hu1]; rfl) (by unfold maxLen; omega) (by omega) (by simp; omega) ?_
  intro v' w' hown hgrow
  have e0 : (ll ++ [l]).length = ll.length + 1 := by simp
  have hR : RowsM w0 w' v' (ll ++ [l]) := by
    refine ⟨vs ++ [u], by simp [h1], by rw [e0]; exact hown, fun i hi => ?_⟩
    rw [e0] at hi
    by_cases him : i < ll.length
    · have e : (vs ++ [u]).getD i undef = vs.getD i undef := by simp only [List.getD_eq_getElem?_getD]; rw [List.getElem?_append_left (by omega)]
      have e2 : (ll ++ [l]).getD i [] = ll.getD i [] := by simp only [List.getD_eq_getElem?_getD]; rw [List.getElem?_append_left (by omega)]
      rw [e, e2]; exact h3 i him
    · obtain rfl : i = ll.length := by omega
      have e : (vs ++ [u]).getD ll.length undef = u := by simp only [List.getD_eq_getElem?_getD]; rw [List.getElem?_append_right (by omega), h1]; simp
      have e2 : (ll ++ [l]).getD ll.length [] = l := by simp only [List.getD_eq_getElem?_getD]; rw [List.getElem?_append_right (by omega)]; simp
      rw [e, e2]; exact hu
  obtain ⟨ad, c, rfl, _, _⟩ := hR.form
  rw [e0] at hR ⊢
  exact h ad c w' hR (Below.grown (Below.alloc (Below.refl _ _) hB _) hgrow (by simp; omega) (fun g hg => (World.ownsRow.lt h2 g hg).1))
end
theorem owns_introw {w : World} {lo n : Nat} {v : Value} {vs : List Value} (h2 : w.ownsRow lo 37 1 v n vs) {g : Nat} (hv : v.ownBlock = some g) : ∃ cur, w.heap[g]? = some (.cells cur 37 (0, 0)) := by
  rcases h2.2 with ⟨rfl, _⟩ | ⟨g', cap, cur', rfl, _, hg', _⟩
  · cases hv
  · simp [Value.ownBlock] at hv
    subst hv
    exact ⟨_, hg'⟩
theorem OwnInts.norow {w w' : World} {lo : Nat} {u : Value} {l : List Int} {g : Nat} (h : OwnInts w lo u l) {cur : Array Value} (hg : w.heap[g]? = some (.cells cur 37 (0, 0))) (hb : w.grownBy w' (some g)) : OwnInts w' lo u l :=
  owns_blk h (fun b cur' _ hc => hb.block b (heap_lt hc) (by
    intro e
    cases e
    rw [hg] at hc
    simp at hc))
theorem RowsL.set {w : World} {lo n g cap : Nat} {ll : List (List Int)} {u : Value} {l : List Int} (h : RowsL w lo (.slice (some ⟨g, 0, none⟩) n cap) ll) (hn : ll.length = n) (j : Nat) (hj : j < n) (hu : OwnInts w lo u l) :
    RowsL (w.setCell ⟨g, j, none⟩ u) lo (.slice (some ⟨g, 0, none⟩) n cap) (ll.set j l) := by
  obtain ⟨vs, h1, h2, h3⟩ := h
  subst hn
  obtain ⟨s1, s2⟩ := h2.stored j u
  obtain ⟨cur, hc⟩ := owns_introw h2 rfl
  refine ⟨vs.set j u, by simp [h1], by rw [List.length_set]; exact s1, fun i hi => ?_⟩
  rw [List.length_set] at hi
  have e0 : (vs.set j u).getD i undef = if i = j then u else vs.getD i undef := by
    by_cases h : i = j
    · subst h; simp [show i < vs.length by omega]
    · rw [if_neg h]; simp [Ne.symm h]
  rw [e0]
  have e : (ll.set j l).getD i [] = if i = j then l else ll.getD i [] := by
    by_cases h : i = j
    · subst h; simp [hi]
    · rw [if_neg h]; simp [Ne.symm h]
  rw [e]
  by_cases hij : i = j
  · rw [if_pos hij, if_pos hij]; exact hu.norow hc s2
  · rw [if_neg hij, if_neg hij]; exact (h3 i hi).norow hc s2
theorem cell_lt {w : World} {p : Addr} {v : Value} (h : w.cell? p = some v) : p.block < w.heap.size := by
  rcases Nat.lt_or_ge p.block w.heap.size with h' | h'
  · exact h'
  · simp [World.cell?, Array.getElem?_eq_none h'] at h
structure NetS (w0 W : World) (N B G : Nat) (rs ways : List (List Int)) (n : Nat) (home : Int) : Prop where
  bel : Below w0.heap.size w0 W
  c0 : W.cell? ⟨N, 0, none⟩ = some (.int .i64 (n : Int))
  c1 : W.cell? ⟨N, 1, none⟩ = some (.map (some B))
  c2 : W.cell? ⟨N, 2, none⟩ = some (.int .i64 home)
  c3 : W.cell? ⟨N, 3, none⟩ = some (.slice (some ⟨G, 0, none⟩) n n)
  ne : N ≠ G ∧ B ≠ G
  own : ∃ (cnt : Nat) (D : DataW Unit), W.ownsMap Tryz.prog 154 (plainElem Tryz.prog 3) B cnt D ∧ Reads D (valTo rs n n 0)
  rows : RowsL W w0.heap.size (.slice (some ⟨G, 0, none⟩) n n) ways
  len : ways.length = n
  err : ErrOk W
theorem ownsMap_below {w w' : World} {b n : Nat} {D : DataW Unit} (h : w.ownsMap Tryz.prog 154 (plainElem Tryz.prog 3) b n D) (hb : Below w.heap.size w w') : w'.ownsMap Tryz.prog 154 (plainElem Tryz.prog 3) b n D :=
  h.kept (row := none) ⟨hb.os, hb.tape, hb.output, hb.size, fun k hk _ => hb.block k hk⟩ (by simp)
theorem NetS.below {w0 W W' : World} {N B G n : Nat} {rs ways : List (List Int)} {home : Int} (h : NetS w0 W N B G rs ways n home) (hb : Below W.heap.size W W') : NetS w0 W' N B G rs ways n home := by
  have hN : N < W.heap.size := cell_lt h.c0
  obtain ⟨cnt, D, o1, o2⟩ := h.own
  exact ⟨h.bel.trans (hb.mono h.bel.size), (hb.cell (p := ⟨N, 0, none⟩) hN).trans h.c0, (hb.cell (p := ⟨N, 1, none⟩) hN).trans h.c1, (hb.cell (p := ⟨N, 2, none⟩) hN).trans h.c2, (hb.cell (p := ⟨N, 3, none⟩) hN).trans h.c3,
    h.ne, ⟨cnt, D, ownsMap_below o1 hb, o2⟩, h.rows.below hb, h.len, h.err.below hb⟩
theorem own_set1 {w : World} {b n g : Nat} {D : DataW Unit} (j : Nat) (u : Value) (h : w.ownsMap Tryz.prog 154 (plainElem Tryz.prog 3) b n D) (hne : b ≠ g) : (w.setCell ⟨g, j, none⟩ u).ownsMap Tryz.prog 154 (plainElem Tryz.prog 3) b n D :=
  h.kept (row := some g) ⟨rfl, rfl, rfl, by simp [World.setCell], fun k _ hk => Below.heap_setCell _ _ _ _ (by intro e; exact hk (by rw [e]))⟩ (by simpa using hne)
theorem cell_set_off {w : World} {g j b i : Nat} {u : Value} (h : b ≠ g) : (w.setCell ⟨g, j, none⟩ u).cell? ⟨b, i, none⟩ = w.cell? ⟨b, i, none⟩ :=
  World.cell?_of_block (Below.heap_setCell _ _ _ _ h)
theorem NetS.set {w0 W : World} {N B G n : Nat} {rs ways : List (List Int)} {home : Int} (h : NetS w0 W N B G rs ways n home) (j : Nat) (hj : j < n) {u : Value} {l : List Int} (hu : OwnInts W w0.heap.size u l) :
    NetS w0 (W.setCell ⟨G, j, none⟩ u) N B G rs (ways.set j l) n home := by
  obtain ⟨cnt, D, o1, o2⟩ := h.own
  have hG : w0.heap.size ≤ G := by obtain ⟨vs, h1, h2, h3⟩ := h.rows; exact (World.ownsRow.lt h2 G rfl).1
  obtain ⟨a, ha⟩ := h.err
  have hgl : (1 : Nat) ≠ G := by
    intro e
    obtain ⟨vs, h1, h2, h3⟩ := h.rows
    have hb := h.bel.size
    obtain ⟨cur, hc⟩ := owns_introw h2 rfl
    have hn : vs.length = ways.length := h1
    have := h.len
    obtain ⟨va, vc, ev, _, _⟩ := (h3 0 (by omega)).form
    have hx : W.cell? ⟨1, 0, none⟩ = W.cell? ⟨G, 0, none⟩ := congrArg (fun b => W.cell? ⟨b, 0, none⟩) e
    rw [this] at h2
    have h9 := World.ownsRow.cellAt h2 0
    have hca : W.cell? ⟨G, 0, none⟩ = vs[0]? := h9 (by omega)
    rw [hx, hca] at ha
    rw [List.getD_eq_getElem?_getD, ha] at ev
    cases ev
  exact ⟨Below.setCell h.bel (by simp; omega) u, (cell_set_off h.ne.1).trans h.c0, (cell_set_off h.ne.1).trans h.c1, (cell_set_off h.ne.1).trans h.c2, (cell_set_off h.ne.1).trans h.c3,
    h.ne, ⟨cnt, D, own_set1 _ _ o1 h.ne.2, o2⟩, h.rows.set h.len j hj hu, by rw [List.length_set]; exact h.len, ⟨a, (cell_set_off hgl).trans ha⟩⟩
theorem net31_set {rs ways : List (List Int)} {home : Int} {n j : Nat} (hl : ways.length = n) (hj : j < n) : net31 rs ways home ((j : Int) + 1) n = ways.set j (pick31 rs ways home ((j : Int) + 1)) := by
  subst hl
  apply List.ext_getElem
  · simp [net31]
  · intro i h1 h2
    have h2' : i < ways.length := by simpa using h2
    rw [List.getElem_set]
    simp only [net31, List.getElem_map, List.getElem_range]
    by_cases hij : j = i
    · subst hij; rw [if_pos rfl, if_pos rfl]
    · rw [if_neg hij, if_neg (by omega), List.getD_eq_getElem?_getD, List.getElem?_eq_getElem h2']; rfl
end Go.Proofs.YtnecdeaikmhanaaGreatDoor
namespace Go.Proofs.YtnecdeaikmhanaaGreatDoor
open Go.RowKit
set_option linter.unusedVariables false
theorem run_append_zeros1 {P : Program} (w : World) (t u ty e : TypeId) (i : TypeInfo) (z : Value) (ht : P.underlying t = some (.slice e)) (hu : P.underlying u = some (.int .i64)) (hi : P.info? e = some i) (hz : i.zero = some z) (hs : i.size = 1) (hby : i.bytes = 8)
    (n : Nat) (h0 : 0 < n) (hn : n ≤ 1000000) :
    (Builtin.append_ #[t, u] ty #[.slice none 0 0, .int .i64 (n : Int)]).run P w =
      .ok (.slice (some ⟨w.heap.size, 0, none⟩) n (grownCap w n 0 e)) (w.drew.alloc (.cells (Builtin.zeroCells z.cells n ++ Builtin.zeroCells z.cells (grownCap w n 0 e - n)) e)) := by
  have hn0 : n ≠ 0 := by omega
  have hw : IntKind.i64.wrap (n : Int) = (n : Int) := IntWalk.i64_in _ (by omega)
  have hneg : ¬ ((n : Int) < 0) := by omega
  have hbig : ¬ (281474976710656 < (n : Int) * 8) := by omega
  have h63' : ¬ (9223372036854775807 < (n : Int)) := by omega
  have h48' : ¬ (281474976710656 < Builtin.nextslicecap n 0 * 8) := by rw [nextslicecap_zero h0]; omega
  simp [Builtin.append_, run_underlying ht, run_underlying hu, sizeOf, typeInfo, zeroValue, hi, hz, hs, hby, asInt, asIntOf, hw, hneg, hbig, hn0, h63', h48', Question.forced, run_firstCells_none, newRow, grownCap]
variable {W : World}
theorem wpList_append_zeros1 {ops : Array Oper} {rest : List Oper} {o : Oper} {a : Act} {Q : Exit → Act → World → Prop} (hgd : o.guard = none) (s x : Operand)
    (ho : o.op = .call { callee := .builtin .append, args := #[s, x], argTypes := #[37, 3] })
    (n : Nat) (h0 : 0 < n) (hn : n ≤ 1000000) (hs : a.eval s = .slice none 0 0) (hx : a.eval x = .int .i64 (n : Int))
    (h : ∀ (c : Nat) w', OwnInts w' W.heap.size (.slice (some ⟨W.heap.size, 0, none⟩) 0 c) [] → n ≤ c → c ≤ 9223372036854775807 → Below W.heap.size W w' → wpList Tryz.prog ops Q rest (a.put o.dst (.slice (some ⟨W.heap.size, 0, none⟩) n c)) w') :
    wpList Tryz.prog ops Q (o :: rest) a W := by
  obtain ⟨i0, hi, hz0, hz1, hz2⟩ := info_parts info_intR
  refine wpList_plain hgd fun _ hK => ?_
  have hr := run_append_zeros1 (P := Tryz.prog) W 37 3 o.type 3 i0 (.int .i64 0) Tryz.underlying37 Tryz.underlying3 hi hz0 hz1 hz2 n h0 hn
  unfold Oper.wp execOp
  simp only [ho, resolve, invoke, builtin, Sem.run_bind, Sem.run_pure, Result.andThen_ok, List.map_toArray, List.map_cons, List.map_nil, hs, hx, hr]
  have hge := grownCap_ge W n 0 3
  have hcm : grownCap W n 0 3 ≤ maxLen := grownCap_le_maxLen W n 0 3 (by unfold maxLen; omega)
  refine hK _ _ (h _ _ ⟨rfl, .inr ⟨W.heap.size, _, _, rfl, Nat.le_refl _, heap_alloc_new W.drew _, Nat.zero_le _, hcm, ?_, rfl⟩⟩ hge (by unfold maxLen at hcm; omega) bw)
  simp only [Array.size_append, size_zeroCells, Value.cells]
  simp
  omega
set_option maxRecDepth 100000 in
set_option maxHeartbeats 2000000 in
theorem slGrowI_any (n : Nat) (hn : n ≤ 1000000) (w : World) :
    Calls Tryz.prog 184 #[.slice none 0 0, .int .i64 (n : Int)] w fun e w' => ∃ v', e = .returned v' ∧ OwnInts w' w.heap.size v' [] ∧ Below w.heap.size w w' := by
  by_cases h0 : n = 0
  · subst h0
    go_enter Tryz.func184, Tryz.ntmps184
    go_wp2_with fail
    go_ret
    exact ⟨_, rfl, OwnInts.nil _ _, by exact bw⟩
  · have hnI : (0 : Int) < (n : Int) := by omega
    have hnN : 0 < n := by omega
    go_enter Tryz.func184, Tryz.ntmps184
    go_wp2_with (at_builtin; refine wpList_append_zeros1 rfl (.tmp 20) (.tmp 21) rfl n hnN hn rfl rfl ?_; intro c w1 hE hc1 hc2 hb1; have E1 := Lib.hid hE; have B1 := Lib.hid hb1; clear hE hb1)
    go_ret
    exact ⟨_, rfl, E1.out, B1.out⟩
set_option maxRecDepth 100000 in
set_option maxHeartbeats 4000000 in
theorem slConcatI_any (v : Value) (l1 l2 : List Int) (w : World) (h : RowsAt w v [l1, l2]) (hl1 : l1.length ≤ 1000) (hl2 : l2.length ≤ 1000) :
    Calls Tryz.prog 178 #[v] w fun e w' => ∃ v', e = .returned v' ∧ OwnInts w' w.heap.size v' (l1 ++ l2) ∧ Below w.heap.size w w' := by
  obtain ⟨a, cap, rfl, hc, hm⟩ := h.form
  have hlen : ([l1, l2] : List (List Int)).length = 2 := rfl
  rw [hlen] at h hc ⊢
  have H := Lib.hid h
  obtain ⟨n1, hn1⟩ : ∃ n, l1.length = n := ⟨_, rfl⟩
  obtain ⟨n2, hn2⟩ : ∃ n, l2.length = n := ⟨_, rfl⟩
  have HN1 := Lib.hid hn1
  have HN2 := Lib.hid hn2
  rw [hn1] at hl1
  rw [hn2] at hl2
  clear h hlen hn1 hn2
  go_enter Tryz.func178, Tryz.ntmps178
  go_wp2_with fail
  go_loopg [3, 11] 2 (fun gk s3 s11 wr => ∃ k S : Nat, s11 = .int .i64 (k : Int) ∧ k + gk = 2 ∧ s3 = .int .i64 (S : Int) ∧ S = (if k = 0 then 0 else if k = 1 then n1 else n1 + n2) ∧ wr = w)
  case atStart => exact ⟨0, 0, rfl, rfl, rfl, rfl, rfl⟩
  case round =>
    obtain ⟨k, S, rfl, hk, rfl, hS, rfl⟩ := hrel
    by_cases hg : gk = 0
    · subst hg
      obtain rfl : k = 2 := by omega
      have hS2 : S = n1 + n2 := by rw [hS]; rfl
      subst hS2
      have hgr := Lib.hid (fun W => slGrowI_any (n1 + n2) (by omega) W)
      clear hS
      go_wp2_with fail
      refine (hgr.out _).mono ?_
      rintro e w1 ⟨v1, rfl, hE1, hb1⟩
      have E1 := Lib.hid hE1
      have B1 := Lib.hid hb1
      obtain ⟨wb, hwb⟩ : ∃ W, W = wr := ⟨_, rfl⟩
      subst hwb
      clear hE1 hb1
      go_wp2_with fail
      go_loopg [6, 27] 2 (fun gk s6 s27 wr => ∃ (k : Nat), s27 = .int .i64 (k : Int) ∧ k + gk = 2 ∧ Hid (OwnInts wr wb.heap.size s6 (if k = 0 then [] else if k = 1 then l1 else l1 ++ l2)) ∧ Hid (Below wb.heap.size wb wr))
      case atStart => exact ⟨0, rfl, rfl, E1, B1⟩
      case round =>
        clear E1 B1
        obtain ⟨k, rfl, hk, E, B⟩ := hrel
        have hsb := B.out.size
        by_cases hg : gk = 0
        · subst hg
          obtain rfl : k = 2 := by omega
          go_wp2_with fail
          go_ret
          exact ⟨_, rfl, E.out, B.out⟩
        · have hk2 : k = 0 ∨ k = 1 := by omega
          rcases hk2 with rfl | rfl
          · obtain ⟨b, off, u, rfl, hb, hx, hu⟩ := (H.out.below B.out).get 0 (by omega)
            obtain ⟨oa, oc, e, hoc, hom⟩ := E.out.form
            subst e
            have HU : Hid (IntsAt wr u l1) := Lib.hid hu
            rw [Nat.add_zero] at hx
            clear hu hg
            go_wp2_with (at_builtin; refine wpList_append_ints rfl (.tmp 31) (.tmp 32) rfl wb.heap.size _ _ [] l1 n1 (by rw [List.length_nil, HN1.out, Nat.zero_add]) rfl E.out hsb rfl HU.out (by omega) ?_; intro ad c w2 hE hb2 hs2; have E2 : Hid (OwnInts w2 wb.heap.size (.slice ad n1 c) l1) := Lib.hid hE; have B2 := Lib.hid (B.out.trans hb2); clear hE hb2)
            go_roundg (gk - 1)
            case measure => omega
            case rel => exact ⟨1, by go_num, by omega, E2, B2⟩
          · obtain ⟨b, off, u, rfl, hb, hx, hu⟩ := (H.out.below B.out).get 1 (by omega)
            obtain ⟨oa, oc, e, hoc, hom⟩ := E.out.form
            subst e
            have E' : Hid (OwnInts wr wb.heap.size (.slice oa n1 oc) l1) := Lib.hid (by have := E.out; rw [if_neg (by omega), if_pos rfl, HN1.out] at this; exact this)
            have HU : Hid (IntsAt wr u l2) := Lib.hid hu
            rw [if_neg (by omega), if_pos rfl, HN1.out]
            clear hu hg E
            go_wp2_with (at_builtin; refine wpList_append_ints rfl (.tmp 31) (.tmp 32) rfl wb.heap.size _ _ l1 l2 (n1 + n2) (by rw [HN1.out, HN2.out]) rfl E'.out hsb rfl HU.out (by omega) ?_; intro ad c w2 hE hb2 hs2; have E2 : Hid (OwnInts w2 wb.heap.size (.slice ad (n1 + n2) c) (l1 ++ l2)) := Lib.hid hE; have B2 := Lib.hid (B.out.trans hb2); clear hE hb2)
            go_roundg (gk - 1)
            case measure => omega
            case rel => exact ⟨2, by go_num, by omega, E2, B2⟩
    · have hk2 : k = 0 ∨ k = 1 := by omega
      rcases hk2 with rfl | rfl
      · obtain ⟨b, off, u, rfl, hb, hx, hu⟩ := H.out.get 0 (by omega)
        obtain ⟨ua, uc, e, huc, hum⟩ := hu.form
        subst e
        have e1 : (([l1, l2] : List (List Int)).getD 0 []).length = n1 := HN1.out
        rw [e1] at hx
        rw [Nat.add_zero] at hx
        have hS0 : S = 0 := by rw [hS]; rfl
        subst hS0
        clear hu hg hS
        go_wp2_with fail
        go_roundg (gk - 1)
        case measure => omega
        case rel => exact ⟨1, n1, by go_num, by omega, by go_num, by simp, rfl⟩
      · obtain ⟨b, off, u, rfl, hb, hx, hu⟩ := H.out.get 1 (by omega)
        obtain ⟨ua, uc, e, huc, hum⟩ := hu.form
        subst e
        have e1 : (([l1, l2] : List (List Int)).getD 1 []).length = n2 := HN2.out
        rw [e1] at hx
        have hS0 : S = n1 := by rw [hS]; rfl
        subst hS0
        clear hu hg hS
        go_wp2_with fail
        go_roundg (gk - 1)
        case measure => omega
        case rel => exact ⟨2, S + n2, by go_num, by omega, by go_num, by simp, rfl⟩
end Go.Proofs.YtnecdeaikmhanaaGreatDoor
namespace Go.Proofs.YtnecdeaikmhanaaGreatDoor
set_option linter.unusedVariables false
theorem put_fold_last {e : Ent} : ∀ (t o : List Ent), (∀ x, x ∈ t → ordF x e < 0) → t.foldl (putStep e) (o, false) = (o ++ t, false)
  | [], o, _ => by simp
  | x :: t, o, h => by
    have hx : rcmpF x.1 x.2.1 e.1 e.2.1 < 0 := h x (List.mem_cons_self ..)
    rw [List.foldl_cons]
    have e1 : putStep e (o, false) x = (o ++ [x], false) := by
      have hc : ¬ (0 ≤ rcmpF x.1 x.2.1 e.1 e.2.1) := by omega
      have h0 : rcmpF x.1 x.2.1 e.1 e.2.1 ≠ 0 := by omega
      simp [putStep, hc, h0]
    rw [e1, put_fold_last t (o ++ [x]) (fun y hy => h y (List.mem_cons_of_mem _ hy))]
    simp
theorem putF_last {e : Ent} {t : List Ent} (h : ∀ x, x ∈ t → ordF x e < 0) : putF t e = t ++ [e] := by
  unfold putF
  rw [put_fold_last t [] h]
  simp
theorem endTo31_home {rs : List (List Int)} {home : Int} {n j : Nat} (hh : home = (j : Int) + 1) (hj : j < n) : ∀ k, (endTo31 rs home n k).getD j [] = [home]
  | 0 => by
    show (none31 n home).getD j [] = _
    unfold none31
    rw [map_range_getD _ _ _ hj, if_pos hh.symm]
  | k + 1 => by
    rw [endTo31_succ]
    unfold net31
    rw [map_range_getD _ _ _ hj]
    split
    · rename_i h
      rw [← h, ← hh]
      exact pick31_home _ _ _
    · exact endTo31_home hh hj k
def viaF (way : List Int) (home : Int) : Int := if 1 < way.length then way.getD 1 0 else home
def impPut (ways : List (List Int)) (e : Ent) (h : Nat) (t : List Ent) : List Ent := if ways.getD h [] = [] then t else t ++ [(e.1, e.2.1, viaF (ways.getD h []) e.2.2)]
theorem putHome_imp {ways : List (List Int)} {e : Ent} {h n : Nat} {t : List Ent} (hh : h < n) (hf : Far31 ways e.2.2 n) (hhome : (h : Int) + 1 = e.2.2 → ways.getD h [] = [e.2.2]) (hl : ∀ x, x ∈ t → ordF x e < 0) : putHome ways e h t = impPut ways e h t := by
  have hl' : ∀ v : Int, ∀ x, x ∈ t → ordF x (e.1, e.2.1, v) < 0 := fun v x hx => hl x hx
  unfold putHome impPut
  by_cases h1 : (h : Int) + 1 = e.2.2
  · have := hhome h1
    rw [if_pos h1, this, if_neg (by simp), putF_last (hl' _)]
    unfold viaF
    rw [if_neg (by simp), h1]
  · rw [if_neg h1]
    rcases hf h hh h1 with e0 | e2
    · rw [e0, if_neg (by simp), if_pos rfl]
    · have hne : ways.getD h [] ≠ [] := by intro e; rw [e] at e2; simp at e2
      rw [if_pos hne, if_neg hne, putF_last (hl' _)]
      unfold viaF
      rw [if_pos (by omega)]
def Rise (l : List Ent) : Prop := ∀ i j, i < j → j < l.length → ordF (l.getD i (0, 0, 0)) (l.getD j (0, 0, 0)) < 0
theorem rise_of {l : List Ent} (h : ∀ i, i < l.length → i ≠ 0 → ordF (l.getD (i - 1) (0, 0, 0)) (l.getD i (0, 0, 0)) < 0) : Rise l := by
  intro i j
  induction j with
  | zero => intro h1; omega
  | succ j ih =>
    intro h1 h2
    have h3 := h (j + 1) h2 (by omega)
    rw [Nat.add_sub_cancel] at h3
    by_cases hij : i = j
    · subst hij; exact h3
    · exact ord_trans (ih (by omega) (by omega)) h3
theorem homes_rise {rs : List (List Int)} {l : List Ent} (h : homesOkF rs l = true) : Rise l := rise_of fun i hi h0 => ((homesOk_all h).2.2 i hi).2 h0
theorem homes_house {rs : List (List Int)} {l : List Ent} (h : homesOkF rs l = true) {i : Nat} (hi : i < l.length) : 1 ≤ (l.getD i (0, 0, 0)).2.2 ∧ (l.getD i (0, 0, 0)).2.2 ≤ (rs.length : Int) ∧ rangeOkF (l.getD i (0, 0, 0)).1 (l.getD i (0, 0, 0)).2.1 = true := by
  have := ((homesOk_all h).2.2 i hi).1
  unfold homOkF at this
  simp only [Bool.and_eq_true, decide_eq_true_eq] at this
  exact ⟨this.2.1, this.2.2, this.1⟩
def impStep (rs : List (List Int)) (n : Nat) (l : List Ent) (h : Nat) (t : List Ent) (i : Nat) : List Ent := impPut (end31 rs (l.getD i (0, 0, 0)).2.2 n) (l.getD i (0, 0, 0)) h t
def tabF (rs : List (List Int)) (n : Nat) (l : List Ent) (h : Nat) (i : Nat) : List Ent := (List.range i).foldl (impStep rs n l h) []
theorem tabF_succ (rs : List (List Int)) (n : Nat) (l : List Ent) (h i : Nat) : tabF rs n l h (i + 1) = impStep rs n l h (tabF rs n l h i) i := foldl_range_succ _ _ _
theorem tabF_ranges (rs : List (List Int)) (n : Nat) (l : List Ent) (h : Nat) : ∀ i x, x ∈ tabF rs n l h i → ∃ q, q < i ∧ x.1 = (l.getD q (0, 0, 0)).1 ∧ x.2.1 = (l.getD q (0, 0, 0)).2.1 ∧ (end31 rs (l.getD q (0, 0, 0)).2.2 n).getD h [] ≠ [] ∧ x.2.2 = viaF ((end31 rs (l.getD q (0, 0, 0)).2.2 n).getD h []) (l.getD q (0, 0, 0)).2.2
  | 0, x, hx => by simp [tabF] at hx
  | i + 1, x, hx => by
    rw [tabF_succ] at hx
    unfold impStep impPut at hx
    split at hx
    · obtain ⟨q, hq, h1⟩ := tabF_ranges rs n l h i x hx
      exact ⟨q, by omega, h1⟩
    · rename_i hne
      rcases List.mem_append.1 hx with hx | hx
      · obtain ⟨q, hq, h1⟩ := tabF_ranges rs n l h i x hx
        exact ⟨q, by omega, h1⟩
      · rw [List.mem_singleton] at hx
        subst hx
        exact ⟨i, by omega, rfl, rfl, hne, rfl⟩
theorem tabF_less {rs : List (List Int)} {n : Nat} {l : List Ent} {h i : Nat} (hr : Rise l) (hi : i < l.length) : ∀ x, x ∈ tabF rs n l h i → ordF x (l.getD i (0, 0, 0)) < 0 := fun x hx => by
  obtain ⟨q, hq, h1, h2, _⟩ := tabF_ranges rs n l h i x hx
  have := hr q i hq hi
  unfold ordF at this ⊢
  rw [h1, h2]; exact this
theorem homesTo_tabF {rs : List (List Int)} {n : Nat} {l : List Ent} (hr : Rise l) (hho : ∀ i, i < l.length → 1 ≤ (l.getD i (0, 0, 0)).2.2 ∧ (l.getD i (0, 0, 0)).2.2 ≤ (n : Int)) : ∀ i, i ≤ l.length → ∀ h, h < n → (homesTo rs n l i).getD h [] = tabF rs n l h i
  | 0, _, h, hh => by simp [homesTo, tabF, hh]
  | i + 1, hi, h, hh => by
    rw [homesTo_succ, tabF_succ]
    unfold homeStep
    rw [homeTo_get hh, if_pos hh, homesTo_tabF hr hho i (by omega) h hh]
    refine putHome_imp hh (endTo31_far _) (fun he => ?_) (tabF_less hr (by omega))
    exact endTo31_home he.symm hh _
theorem sendTabs_get {rs : List (List Int)} {l : List Ent} {n h : Nat} (hok : homesOkF rs l = true) (hn : rs.length = n) (hh : h < n) : (sendTabsF rs l n).getD h [] = tabF rs n l h l.length := by
  unfold sendTabsF
  rw [if_pos hok]
  exact homesTo_tabF (homes_rise hok) (fun i hi => by have := homes_house hok hi; rw [hn] at this; exact ⟨this.1, this.2.1⟩) _ (Nat.le_refl _) h hh
theorem sendTabs_len2 {rs : List (List Int)} {l : List Ent} {n : Nat} (hok : homesOkF rs l = true) : (sendTabsF rs l n).length = n := by
  unfold sendTabsF
  rw [if_pos hok]
  exact homesTo_len _ _ _ _
end Go.Proofs.YtnecdeaikmhanaaGreatDoor
namespace Go.Proofs.YtnecdeaikmhanaaGreatDoor
open Go.RowKit
set_option linter.unusedVariables false
set_option maxRecDepth 100000
def TabsX (w : World) (lo : Nat) (v : Value) (ll : List (List Ent)) : Prop :=
  ∃ vs, vs.length = ll.length ∧ w.ownsRow lo 100 1 v ll.length vs ∧ (∀ i, i < ll.length → EntNew w lo (vs.getD i undef) (ll.getD i [])) ∧
    ∀ i j, i < ll.length → j < ll.length → i ≠ j → ∀ b, (vs.getD i undef).ownBlock = some b → (vs.getD j undef).ownBlock ≠ some b
theorem TabsX.tabs {w : World} {lo : Nat} {v : Value} {ll : List (List Ent)} (h : TabsX w lo v ll) : TabsL w lo v ll := by
  obtain ⟨vs, h1, h2, h3, _⟩ := h
  exact ⟨vs, h1, h2, h3⟩
theorem TabsX.below {w w' : World} {lo : Nat} {v : Value} {ll : List (List Ent)} (h : TabsX w lo v ll) (hb : Below w.heap.size w w') : TabsX w' lo v ll := by
  obtain ⟨vs, h1, h2, h3, h4⟩ := h
  exact ⟨vs, h1, owns_belowR h2 hb, fun i hi => (h3 i hi).below hb, h4⟩
theorem TabsX.form {w : World} {lo : Nat} {v : Value} {ll : List (List Ent)} (h : TabsX w lo v ll) : ∃ a cap, v = .slice a ll.length cap ∧ ll.length ≤ cap ∧ cap ≤ 9223372036854775807 := by
  obtain ⟨vs, h1, h2, h3, _⟩ := h; exact owns_form h2
theorem made_tabs {w : World} {lo n : Nat} {v : Value} (h : w.ownsRow lo 100 1 v n (madeCells (Value.slice none 0 0).cells (n * 1)).toList) : TabsX w lo v (List.replicate n []) := by
  have e : (madeCells (Value.slice none 0 0).cells (n * 1)).toList = List.replicate n (.slice none 0 0) := by
    apply List.ext_getElem
    · simp [madeCells]
    · intro i h1 h2
      simp [madeCells, Value.cells, Nat.mod_one]
  rw [e] at h
  have e1 : ∀ i, i < n → (List.replicate n (Value.slice none 0 0)).getD i undef = .slice none 0 0 := fun i hi => by simp [hi]
  refine ⟨List.replicate n (.slice none 0 0), by simp, by simpa using h, fun i hi => ?_, fun i j hi hj _ b hb => ?_⟩
  · have hi' : i < n := by simpa using hi
    have e2 : (List.replicate n ([] : List Ent)).getD i [] = [] := by simp [hi']
    rw [e1 i hi', e2]
    exact EntNew.nil _ _
  · have hi' : i < n := by simpa using hi
    rw [e1 i hi'] at hb
    cases hb
theorem owns_ent {w : World} {lo : Nat} {v : Value} {l : List Ent} (h : EntNew w lo v l) {g : Nat} (hv : v.ownBlock = some g) : ∃ cur, w.heap[g]? = some (.cells cur 103 (0, 0)) := by
  obtain ⟨xs, h1, _⟩ := h
  rcases h1.2 with ⟨rfl, _⟩ | ⟨g', cap, cur', rfl, _, hg', _⟩
  · cases hv
  · simp [Value.ownBlock] at hv
    subst hv
    exact ⟨_, hg'⟩
theorem EntNew.off {w w' : World} {lo : Nat} {v : Value} {l : List Ent} {r : Option Nat} (h : EntNew w lo v l) (hg : w.grownBy w' r) (hne : v.ownBlock = none ∨ v.ownBlock ≠ r) : EntNew w' lo v l := by
  obtain ⟨xs, h1, h2⟩ := h
  exact ⟨xs, h1.kept hg hne, h2⟩
theorem RowsL.offEnt {w w' : World} {lo : Nat} {v : Value} {ll : List (List Int)} {r : Option Nat} (h : RowsL w lo v ll) (hg : w.grownBy w' r) (hr : ∀ g, r = some g → ∃ cur, w.heap[g]? = some (.cells cur 103 (0, 0))) : RowsL w' lo v ll := by
  have key : ∀ b (T : TypeId) c, T ≠ 103 → w.heap[b]? = some (Obj.cells c T (0, 0)) → w'.heap[b]? = w.heap[b]? := fun b T c hT hb => hg.block b (heap_lt hb) (by
    intro e
    obtain ⟨cur, hc⟩ := hr b e.symm
    rw [hc] at hb
    simp at hb
    exact hT hb.2.symm)
  obtain ⟨vs, h1, h2, h3⟩ := h
  exact ⟨vs, h1, owns_blk h2 (fun b c _ hb => key b _ c (by decide) hb), fun i hi => owns_blk (h3 i hi) (fun b c _ hb => key b _ c (by decide) hb)⟩
theorem TabsX.get {w : World} {lo n : Nat} {v : Value} {ll : List (List Ent)} (h : TabsX w lo v ll) (hn : ll.length = n) (i : Nat) (hi : i < n) :
    ∃ g cap u, v = .slice (some ⟨g, 0, none⟩) n cap ∧ lo ≤ g ∧ g < w.heap.size ∧ w.cell? ⟨g, i, none⟩ = some u ∧ w.frozen? ⟨g, i, none⟩ = false ∧ EntNew w lo u (ll.getD i []) := h.tabs.get hn i hi
theorem TabsX.put {w w' : World} {lo n G cap h : Nat} {ll : List (List Ent)} {u u' : Value} {l' : List Ent} {ad : Nat} (hX : TabsX w lo (.slice (some ⟨G, 0, none⟩) n cap) ll) (hn : ll.length = n) (hh : h < n) (hu : w.cell? ⟨G, h, none⟩ = some u)
    (hg : w.grownBy w' u.ownBlock) (hu' : EntNew w' lo u' l') (had : u'.ownBlock = some ad) (hor : u.ownBlock = some ad ∨ w.heap.size ≤ ad) :
    TabsX (w'.setCell ⟨G, h, none⟩ u') lo (.slice (some ⟨G, 0, none⟩) n cap) (ll.set h l') := by
  obtain ⟨vs, h1, h2, h3, h4⟩ := hX
  subst hn
  have hcu : vs.getD h undef = u := by
    have h9 := World.ownsRow.cellAt h2 h
    have h8 : w.cell? ⟨G, h, none⟩ = vs[h]? := h9 (by omega)
    rw [h8] at hu
    rw [List.getD_eq_getElem?_getD, hu]; rfl
  have hue := h3 h hh
  rw [hcu] at hue
  obtain ⟨cur, hc⟩ := owns_tabrow h2 rfl
  have hGne : some G ≠ u.ownBlock := by
    intro e
    obtain ⟨c2, hc2⟩ := owns_ent hue e.symm
    rw [hc2] at hc
    simp at hc
  have h2' : w'.ownsRow lo 100 1 (.slice (some ⟨G, 0, none⟩) ll.length cap) ll.length vs := h2.kept hg (.inr hGne)
  have hc' : w'.heap[G]? = some (.cells cur 100 (0, 0)) := (hg.block G (heap_lt hc) hGne).trans hc
  obtain ⟨s1, s2⟩ := h2'.stored h u'
  have set1 : ∀ i, (vs.set h u').getD i undef = if i = h then u' else vs.getD i undef := fun i => set_getD (by omega)
  refine ⟨vs.set h u', by simp [h1], by rw [List.length_set]; exact s1, fun i hi => ?_, fun i j hi hj hij b hb => ?_⟩
  · rw [List.length_set] at hi
    rw [set1]
    have e : (ll.set h l').getD i [] = if i = h then l' else ll.getD i [] := by
      by_cases hih : i = h
      · subst hih; simp [hi]
      · rw [if_neg hih]; simp [Ne.symm hih]
    rw [e]
    by_cases hih : i = h
    · rw [if_pos hih, if_pos hih]; exact hu'.notab hc' s2
    · rw [if_neg hih, if_neg hih]
      refine ((h3 i hi).off hg ?_).notab hc' s2
      cases hvb : (vs.getD i undef).ownBlock with
      | none => exact .inl rfl
      | some b =>
        right
        intro e
        have := h4 i h hi hh hih b hvb
        rw [hcu] at this
        exact this e.symm
  · rw [List.length_set] at hi hj
    rw [set1] at hb ⊢
    by_cases hih : i = h
    · rw [if_pos hih] at hb
      rw [if_neg (by omega)]
      intro e2
      rw [had] at hb
      cases hb
      rcases hor with ho | ho
      · have := h4 j h hj hh (by omega) ad e2
        rw [hcu] at this
        exact this ho
      · obtain ⟨xs, o1, _⟩ := h3 j hj
        have := (World.ownsRow.lt o1 ad e2).2
        omega
    · rw [if_neg hih] at hb
      by_cases hjh : j = h
      · rw [if_pos hjh]
        intro e2
        rw [had] at e2
        cases e2
        rcases hor with ho | ho
        · have := h4 i h hi hh hih ad hb
          rw [hcu] at this
          exact this ho
        · obtain ⟨xs, o1, _⟩ := h3 i hi
          have := (World.ownsRow.lt o1 ad hb).2
          omega
      · rw [if_neg hjh]
        exact h4 i j hi hj hij b hb
theorem grown_alloc {w w' : World} {o : Obj} {r : Option Nat} (h : (w.alloc o).grownBy w' r) (hr : ∀ g, r = some g → g < w.heap.size) : w.grownBy w' r :=
  ⟨h.os, h.tape, h.output, by have := h.size; simp at this; omega, fun k hk hne => (h.block k (by simp; omega) hne).trans (Below.heap_alloc w o k hk)⟩
section
variable {W : World}
theorem step_append_entD {ops : Array Oper} {o : Oper} {a : Act} {K : Act → World → Prop} {Q : Exit → Act → World → Prop} {E : Prop} (hgd : o.guard = none) (s x : Operand)
    (ho : o.op = .call { callee := .builtin .append, args := #[s, x], argTypes := #[100, 100] })
    (lo : Nat) (v : Value) (l : List Ent) (e : Ent) (hs : a.eval s = v) (hO : EntNew W lo v l) (hx : a.eval x = .slice (some ⟨W.heap.size, 0, none⟩) 1 1) (hl : l.length ≤ 1000000) (hlo : lo ≤ W.heap.size)
    (h : ∀ (ad c : Nat) (w' : World), EntNew w' lo (.slice (some ⟨ad, 0, none⟩) (l.length + 1) c) (l ++ [e]) → W.grownBy w' v.ownBlock → (v.ownBlock = some ad ∨ W.heap.size ≤ ad) → K (a.put o.dst (.slice (some ⟨ad, 0, none⟩) (l.length + 1) c)) w') :
    if Region.wanted o (yielded ops a.tmps) = true then Oper.wp Tryz.prog o a (W.alloc (.cells #[.int .i64 e.1, .int .i64 e.2.1, .int .i64 e.2.2] 103)) K Q else E := by
  obtain ⟨i0, hi, hz0, hz1, hz2⟩ := info_parts info_e3
  obtain ⟨xs, hown, hxs⟩ := hO
  have hlt := World.ownsRow.lt hown
  have h1c : ∀ u ∈ [Value.int .i64 e.1, Value.int .i64 e.2.1, Value.int .i64 e.2.2], u.oneCell' = true := by
    intro u hu
    simp at hu
    rcases hu with rfl | rfl | rfl <;> rfl
  have hownA : (W.alloc (.cells #[.int .i64 e.1, .int .i64 e.2.1, .int .i64 e.2.2] 103)).ownsRow lo 103 3 v l.length xs := World.ownsRow.alloc hown _
  have fin : ∀ (v' : Value) (w' : World), w'.ownsRow lo 103 3 v' (l.length + 1) (xs ++ [.int .i64 e.1, .int .i64 e.2.1, .int .i64 e.2.2]) → ∃ ad c, v' = Value.slice (some ⟨ad, 0, none⟩) (l.length + 1) c := fun v' w' h1 => by
    rcases h1.2 with ⟨_, hn⟩ | ⟨g, cap, cur, e2, _⟩
    · omega
    · exact ⟨g, cap, e2⟩
  have grows : ∀ (ao : Option Addr) (cap : Nat), v = .slice ao l.length cap → (ao = none → l.length = 0 ∧ cap = 0) → (∀ b, ao = some b → ∀ j u, xs[j]? = some u → (W.alloc (.cells #[.int .i64 e.1, .int .i64 e.2.1, .int .i64 e.2.2] 103)).cell? (b.add j) = some u) → cap < l.length + 1 →
      if Region.wanted o (yielded ops a.tmps) = true then Oper.wp Tryz.prog o a (W.alloc (.cells #[.int .i64 e.1, .int .i64 e.2.1, .int .i64 e.2.2] 103)) K Q else E := fun ao cap hv h0 hcl hfull => by
    refine step_append_grows hgd s x 100 ho 103 i0 (.agg #[.int .i64 0, .int .i64 0, .int .i64 0]) 3 24 Tryz.underlying100 hi hz0 hz1 hz2 rfl (by decide) ao l.length cap xs (by rw [hs, hv]) h0 hown.1 hcl ⟨W.heap.size, 0, none⟩ 1 1 [.int .i64 e.1, .int .i64 e.2.1, .int .i64 e.2.2] hx rfl (cell_three_new _ _ _ _ _) h1c hfull (by unfold maxLen; omega) (by omega) ?_
    intro v' w' h1 h2
    have h1' : w'.ownsRow lo 103 3 v' (l.length + 1) (xs ++ [.int .i64 e.1, .int .i64 e.2.1, .int .i64 e.2.2]) := owns_lift h1 (by simp; omega)
    obtain ⟨ad, c, rfl⟩ := fin _ _ h1'
    have h3 := (World.ownsRow.lt h1 ad rfl).1
    have h4 : W.grownBy w' none := grown_alloc h2 (fun g hg => by cases hg)
    exact h ad c w' (EntNew.snoc hown.1 hxs h1') ⟨h4.os, h4.tape, h4.output, h4.size, fun k hk _ => h4.block k hk (by simp)⟩ (.inr (by simp at h3; omega))
  rcases hown.2 with ⟨hv, hn⟩ | ⟨g, cap, cur, hv, hb, hgg, hnc, hcm, hcs, htake⟩
  · exact grows none 0 (by rw [hv, hn]) (fun _ => ⟨hn, rfl⟩) (fun b hb => by cases hb) (by omega)
  · by_cases hroom : l.length + 1 ≤ cap
    · have hw : Region.wanted o (yielded ops a.tmps) = true := by simp [Region.wanted, hgd]
      rw [if_pos hw]
      rw [hv] at hownA hs
      refine wp_append_own_spare _ s x 100 ho lo 103 i0 3 Tryz.underlying100 hi hz1 g l.length cap xs hs hownA ⟨W.heap.size, 0, none⟩ 1 1 [.int .i64 e.1, .int .i64 e.2.1, .int .i64 e.2.2] hx rfl (cell_three_new _ _ _ _ _) h1c hroom ?_
      intro w' h1 h2
      have h4 : W.grownBy w' (some g) := grown_alloc h2 (fun g' hg => by cases hg; exact heap_lt hgg)
      exact h g cap w' (EntNew.snoc hown.1 hxs h1) (by rw [hv]; exact h4) (.inl (by rw [hv]; rfl))
    · refine grows (some ⟨g, 0, none⟩) cap hv (fun e => by cases e) (fun b hb j u hj => ?_) (by omega)
      cases hb
      rw [hv] at hownA
      have h9 := World.ownsRow.cellAt hownA j
      have hjl : j < xs.length := by
        rcases Nat.lt_or_ge j xs.length with h | h
        · exact h
        · rw [List.getElem?_eq_none h] at hj; cases hj
      have := h9 (by rw [← hown.1]; exact hjl)
      have e9 : (⟨g, 0, none⟩ : Addr).add j = ⟨g, j, none⟩ := by simp [Addr.add]; omega
      rw [e9, ← hj]
      exact this
end
end Go.Proofs.YtnecdeaikmhanaaGreatDoor
namespace Go.Proofs.YtnecdeaikmhanaaGreatDoor
set_option linter.unusedVariables false
def Head31 (ways : List (List Int)) (n : Nat) : Prop := ∀ i, i < n → ways.getD i [] ≠ [] → (ways.getD i []).getD 0 0 = (i : Int) + 1
theorem none31_head (n : Nat) (home : Int) : Head31 (none31 n home) n := fun i hi => by
  unfold none31
  rw [map_range_getD _ _ _ hi]
  split
  · rename_i h
    intro _
    rw [h]; rfl
  · intro h; exact absurd rfl h
theorem pick31_head {rs ways : List (List Int)} {home house : Int} (h : pick31 rs ways home house ≠ []) : (pick31 rs ways home house).getD 0 0 = house := by
  by_cases hh : house = home
  · subst hh; rw [pick31_home]; rfl
  · rcases pick31_picked rs ways hh with e | ⟨b, _, _, e⟩
    · exact absurd e h
    · rw [e]; rfl
theorem net31_head {rs ways : List (List Int)} {home house : Int} {n : Nat} (h : Head31 ways n) : Head31 (net31 rs ways home house n) n := fun i hi => by
  unfold net31
  rw [map_range_getD _ _ _ hi]
  split
  · rename_i he
    intro hne
    rw [pick31_head hne, he]
  · exact h i hi
theorem endTo31_head {rs : List (List Int)} {home : Int} {n : Nat} : ∀ k, Head31 (endTo31 rs home n k) n
  | 0 => none31_head n home
  | k + 1 => by rw [endTo31_succ]; exact net31_head (endTo31_head k)
theorem tabF_has (rs : List (List Int)) (n : Nat) (l : List Ent) (h : Nat) : ∀ i q, q < i → (end31 rs (l.getD q (0, 0, 0)).2.2 n).getD h [] ≠ [] → ((l.getD q (0, 0, 0)).1, (l.getD q (0, 0, 0)).2.1, viaF ((end31 rs (l.getD q (0, 0, 0)).2.2 n).getD h []) (l.getD q (0, 0, 0)).2.2) ∈ tabF rs n l h i
  | 0, q, hq, _ => by omega
  | i + 1, q, hq, hne => by
    rw [tabF_succ]
    unfold impStep impPut
    by_cases hqi : q = i
    · subst hqi
      rw [if_neg hne]
      exact List.mem_append_right _ (List.mem_singleton.2 rfl)
    · have := tabF_has rs n l h i q (by omega) hne
      split
      · exact this
      · exact List.mem_append_left _ this
theorem tabF_len_yes {rs : List (List Int)} {n : Nat} {l : List Ent} {h i : Nat} (hne : (end31 rs (l.getD i (0, 0, 0)).2.2 n).getD h [] ≠ []) : (tabF rs n l h (i + 1)).length = (tabF rs n l h i).length + 1 := by
  rw [tabF_succ]
  unfold impStep impPut
  rw [if_neg hne, List.length_append]; rfl
theorem tabF_len_no {rs : List (List Int)} {n : Nat} {l : List Ent} {h i : Nat} (he : (end31 rs (l.getD i (0, 0, 0)).2.2 n).getD h [] = []) : (tabF rs n l h (i + 1)).length = (tabF rs n l h i).length := by
  rw [tabF_succ]
  unfold impStep impPut
  rw [if_pos he]
theorem tabF_short (rs : List (List Int)) (n : Nat) (l : List Ent) (h : Nat) : ∀ i, (tabF rs n l h i).length ≤ i
  | 0 => by simp [tabF]
  | i + 1 => by
    have := tabF_short rs n l h i
    by_cases he : (end31 rs (l.getD i (0, 0, 0)).2.2 n).getD h [] = []
    · rw [tabF_len_no he]; omega
    · rw [tabF_len_yes he]; omega
theorem rise_same {l : List Ent} (hr : Rise l) {i q : Nat} (hi : i < l.length) (hq : q < l.length) (h1 : (l.getD q (0, 0, 0)).1 = (l.getD i (0, 0, 0)).1) (h2 : (l.getD q (0, 0, 0)).2.1 = (l.getD i (0, 0, 0)).2.1) : q = i := by
  by_cases h : q < i
  · have := hr q i h hi
    rw [ord_neg] at this; omega
  · by_cases h' : i < q
    · have := hr i q h' hq
      rw [ord_neg] at this; omega
    · omega
theorem via_own {rs : List (List Int)} {n h : Nat} {ho : Int} (hh : h < n) (he : (h : Int) + 1 = ho) : (end31 rs ho n).getD h [] ≠ [] ∧ viaF ((end31 rs ho n).getD h []) ho = ho := by
  have := endTo31_home (rs := rs) he.symm hh (4 * n * n)
  unfold end31
  rw [this]
  exact ⟨by simp, rfl⟩
theorem way_two {way : List Int} {n : Nat} {hd : Int} (h2 : 2 ≤ way.length) (hnd : way.Nodup) (hh : way.getD 0 0 = hd) (hin : ∀ z, z ∈ way → 1 ≤ z ∧ z ≤ (n : Int)) : way.getD 1 0 ≠ hd ∧ 1 ≤ way.getD 1 0 ∧ way.getD 1 0 ≤ (n : Int) := by
  match way, h2 with
  | a :: b :: t, _ =>
    have e0 : a = hd := hh
    have hb := hin b (by simp)
    refine ⟨fun e => ?_, hb⟩
    have e1 : b = hd := e
    rw [List.nodup_cons] at hnd
    exact hnd.1 (by rw [e0, ← e1]; simp)
theorem via_far {rs : List (List Int)} {n h : Nat} {ho : Int} (hn : rs.length = n) (hh : h < n) (he : (h : Int) + 1 ≠ ho) (hne : (end31 rs ho n).getD h [] ≠ []) :
    2 ≤ ((end31 rs ho n).getD h []).length ∧ viaF ((end31 rs ho n).getD h []) ho = ((end31 rs ho n).getD h []).getD 1 0 ∧ ((end31 rs ho n).getD h []).getD 1 0 ≠ (h : Int) + 1 ∧ 1 ≤ ((end31 rs ho n).getD h []).getD 1 0 ∧ ((end31 rs ho n).getD h []).getD 1 0 ≤ n := by
  have h2 : 2 ≤ ((end31 rs ho n).getD h []).length := by
    rcases endTo31_far (rs := rs) (home := ho) (n := n) (4 * n * n) h hh he with e | e
    · exact absurd e hne
    · exact e
  have hhd := endTo31_head (rs := rs) (home := ho) (n := n) (4 * n * n) h hh hne
  have hgd := endTo31_good (rs := rs) (home := ho) hn (4 * n * n) h hh
  have hin := (endTo31_ways (home := ho) hn (by omega) (4 * n * n)).inn h hh
  have h3 : 2 ≤ ((endTo31 rs ho n (4 * n * n)).getD h []).length := h2
  obtain ⟨a1, a2, a3⟩ := way_two h3 hgd hhd hin
  exact ⟨h2, by unfold viaF; rw [if_pos (by omega)], a1, a2, a3⟩
theorem tabF_rise {rs : List (List Int)} {n : Nat} {l : List Ent} (hr : Rise l) (h : Nat) : ∀ i, i ≤ l.length → Rise (tabF rs n l h i)
  | 0, _ => fun a b hab hb => by simp [tabF] at hb
  | i + 1, hi => by
    have ih := tabF_rise hr h i (by omega) (rs := rs) (n := n)
    have hless := tabF_less (rs := rs) (n := n) (h := h) hr (by omega : i < l.length)
    rw [tabF_succ]
    unfold impStep impPut
    split
    · exact ih
    · intro a b hab hb
      rw [List.length_append, List.length_singleton] at hb
      have ea : ((tabF rs n l h i) ++ [((l.getD i (0, 0, 0)).1, (l.getD i (0, 0, 0)).2.1, viaF ((end31 rs (l.getD i (0, 0, 0)).2.2 n).getD h []) (l.getD i (0, 0, 0)).2.2)]).getD a (0, 0, 0) = (tabF rs n l h i).getD a (0, 0, 0) := by
        simp only [List.getD_eq_getElem?_getD]; rw [List.getElem?_append_left (by omega)]
      rw [ea]
      by_cases hb2 : b < (tabF rs n l h i).length
      · have eb : ((tabF rs n l h i) ++ [((l.getD i (0, 0, 0)).1, (l.getD i (0, 0, 0)).2.1, viaF ((end31 rs (l.getD i (0, 0, 0)).2.2 n).getD h []) (l.getD i (0, 0, 0)).2.2)]).getD b (0, 0, 0) = (tabF rs n l h i).getD b (0, 0, 0) := by
          simp only [List.getD_eq_getElem?_getD]; rw [List.getElem?_append_left hb2]
        rw [eb]
        exact ih a b hab hb2
      · obtain rfl : b = (tabF rs n l h i).length := by omega
        have eb : ((tabF rs n l h i) ++ [((l.getD i (0, 0, 0)).1, (l.getD i (0, 0, 0)).2.1, viaF ((end31 rs (l.getD i (0, 0, 0)).2.2 n).getD h []) (l.getD i (0, 0, 0)).2.2)]).getD (tabF rs n l h i).length (0, 0, 0) = ((l.getD i (0, 0, 0)).1, (l.getD i (0, 0, 0)).2.1, viaF ((end31 rs (l.getD i (0, 0, 0)).2.2 n).getD h []) (l.getD i (0, 0, 0)).2.2) := by
          simp
        rw [eb]
        have := hless ((tabF rs n l h i).getD a (0, 0, 0)) (by
          rw [List.getD_eq_getElem?_getD, List.getElem?_eq_getElem (by omega)]
          exact List.getElem_mem _)
        exact this
theorem tabF_ok {rs : List (List Int)} {n : Nat} {l : List Ent} {h : Nat} (hn : rs.length = n) (h5 : n ≤ 5) (hh : h < n) (hok : homesOkF rs l = true) : tableOkF (tabF rs n l h l.length) = true := by
  have hr := homes_rise hok
  have hl4 := (homesOk_all hok).2.1
  have hs := tabF_short rs n l h l.length
  unfold tableOkF
  rw [Bool.and_eq_true, decide_eq_true_eq, List.all_eq_true]
  refine ⟨by omega, fun i hi => ?_⟩
  have hi' : i < (tabF rs n l h l.length).length := List.mem_range.1 hi
  rw [Bool.and_eq_true, Bool.or_eq_true, decide_eq_true_eq, decide_eq_true_eq]
  refine ⟨?_, ?_⟩
  · obtain ⟨x, hx⟩ : ∃ x, (tabF rs n l h l.length).getD i (0, 0, 0) = x := ⟨_, rfl⟩
    have hxm : x ∈ tabF rs n l h l.length := by
      rw [← hx, List.getD_eq_getElem?_getD, List.getElem?_eq_getElem hi']
      exact List.getElem_mem _
    rw [hx]
    obtain ⟨q, hq, a1, a2, a3, a4⟩ := tabF_ranges rs n l h l.length x hxm
    obtain ⟨b1, b2, b3⟩ := homes_house hok hq
    unfold entOkF
    rw [a1, a2, b3]
    have hv : 1 ≤ x.2.2 ∧ x.2.2 ≤ 9 := by
      rw [a4]
      by_cases he : (h : Int) + 1 = (l.getD q (0, 0, 0)).2.2
      · rw [(via_own (rs := rs) hh he).2]; omega
      · obtain ⟨_, c2, _, c4, c5⟩ := via_far hn hh he a3
        rw [c2]; omega
    rw [decide_eq_true hv.1, decide_eq_true hv.2]; rfl
  · by_cases h0 : i = 0
    · exact .inl h0
    · exact .inr (tabF_rise hr h l.length (Nat.le_refl _) (i - 1) i (by omega) hi')
end Go.Proofs.YtnecdeaikmhanaaGreatDoor
