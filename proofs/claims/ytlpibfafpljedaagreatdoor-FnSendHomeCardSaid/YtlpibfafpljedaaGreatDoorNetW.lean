/- What is picked, in other words: the least of what is announced; ways hold each house once. No program here. A net behind a pointer: what its methods carry. Rows that are gathered. slices.Grow, slices.Concat of numbers. -/
import Derived.Test.YtlpibfafpljedaaGreatDoorPick31
import Derived.Test.YtlpibfafpljedaaGreatDoorTrail
import Derived.Test.YtlpibfafpljedaaGreatDoorReadRels
import Derived.WalkSpells
namespace Go.Proofs.YtlpibfafpljedaaGreatDoor
set_option linter.unusedVariables false

theorem cmpF_cons (h : Int) (a b : List Int) : cmpF (h :: a) (h :: b) = cmpF a b := by
  unfold cmpF
  rw [List.length_cons, List.length_cons]
  have e : cmpL (h :: a) (h :: b) = cmpL a b := by
    conv => lhs; unfold cmpL
    rw [if_neg (by omega), if_neg (by omega)]
  rw [e]
  by_cases h1 : a.length < b.length
  · rw [if_pos (by omega), if_pos h1]
  · rw [if_neg (by omega), if_neg h1]
    by_cases h2 : b.length < a.length
    · rw [if_pos (by omega), if_pos h2]
    · rw [if_neg (by omega), if_neg h2]
/-- house b + 1 announces its way -/
def annB (rs ways : List (List Int)) (house rel : Int) (b : Nat) : Bool := decide (ofF rs house ((b : Int) + 1) = rel) && tellsF rs (ways.getD b []) ((b : Int) + 1) house
def annF (rs ways : List (List Int)) (house rel : Int) (m : Nat) : List (List Int) := ((List.range m).filter fun b => annB rs ways house rel b).map fun b => ways.getD b []
def minStep (m x : List Int) : List Int := if cmpF x m < 0 then x else m
def minF (l : List (List Int)) : List Int := (l.drop 1).foldl minStep (l.getD 0 [])
theorem annF_zero (rs ways : List (List Int)) (house rel : Int) : annF rs ways house rel 0 = [] := rfl
theorem annF_yes {rs ways : List (List Int)} {house rel : Int} {m : Nat} (h : annB rs ways house rel m = true) : annF rs ways house rel (m + 1) = annF rs ways house rel m ++ [ways.getD m []] := by
  unfold annF
  rw [List.range_succ, List.filter_append, List.map_append]
  simp [h]
theorem annF_no {rs ways : List (List Int)} {house rel : Int} {m : Nat} (h : annB rs ways house rel m = false) : annF rs ways house rel (m + 1) = annF rs ways house rel m := by
  unfold annF
  rw [List.range_succ, List.filter_append, List.map_append]
  simp [h]
theorem annF_mem {rs ways : List (List Int)} {house rel : Int} {m : Nat} {l : List Int} (h : l ∈ annF rs ways house rel m) : ∃ b, b < m ∧ annB rs ways house rel b = true ∧ l = ways.getD b [] := by
  unfold annF at h
  obtain ⟨b, hb, rfl⟩ := List.mem_map.1 h
  obtain ⟨h1, h2⟩ := List.mem_filter.1 hb
  exact ⟨b, List.mem_range.1 h1, h2, rfl⟩
theorem annF_len (rs ways : List (List Int)) (house rel : Int) (m : Nat) : (annF rs ways house rel m).length ≤ m := by
  unfold annF
  rw [List.length_map]
  exact Nat.le_trans (List.length_filter_le _ _) (by simp)
theorem minF_one (u : List Int) : minF [u] = u := rfl
theorem minF_push {l : List (List Int)} (h : l ≠ []) (u : List Int) : minF (l ++ [u]) = minStep (minF l) u := by
  match l, h with
  | a :: t, _ =>
    unfold minF
    simp
theorem minF_mem : ∀ (t : List (List Int)) (a : List Int), t.foldl minStep a = a ∨ t.foldl minStep a ∈ t
  | [], a => .inl rfl
  | x :: t, a => by
    rw [List.foldl_cons]
    have hm : minStep a x = a ∨ minStep a x = x := by unfold minStep; split <;> simp
    rcases minF_mem t (minStep a x) with h | h
    · rw [h]
      rcases hm with e | e
      · exact .inl e
      · rw [e]; exact .inr (List.mem_cons_self ..)
    · exact .inr (List.mem_cons_of_mem _ h)
theorem minF_in {l : List (List Int)} (h : l ≠ []) : minF l ∈ l := by
  match l, h with
  | a :: t, _ =>
    show (t.foldl minStep a) ∈ a :: t
    rcases minF_mem t a with e | e
    · rw [e]; exact List.mem_cons_self ..
    · exact List.mem_cons_of_mem _ e
theorem fold31_ann (rs ways : List (List Int)) (house rel : Int) : ∀ m, (List.range m).foldl (step31 rs ways house rel) [] = if annF rs ways house rel m = [] then [] else house :: minF (annF rs ways house rel m)
  | 0 => by rw [annF_zero, if_pos rfl]; rfl
  | m + 1 => by
    rw [foldl_range_succ, fold31_ann rs ways house rel m]
    unfold step31
    cases hb : annB rs ways house rel m
    · rw [annF_no hb, if_neg]
      intro h
      unfold annB at hb
      rw [h.2, decide_eq_true h.1] at hb
      cases hb
    · rw [annF_yes hb]
      have hc : ofF rs house ((m : Int) + 1) = rel ∧ tellsF rs (ways.getD m []) ((m : Int) + 1) house = true := by
        unfold annB at hb
        simpa using hb
      rw [if_pos hc]
      by_cases he : annF rs ways house rel m = []
      · rw [if_pos he, he, if_pos (.inl rfl)]
        simp [minF]
      · rw [if_neg he, if_neg (show ¬ (annF rs ways house rel m ++ [ways.getD m []] = []) by simp), minF_push he, cmpF_cons]
        unfold minStep
        by_cases hlt : cmpF (ways.getD m []) (minF (annF rs ways house rel m)) < 0
        · rw [if_pos (.inr hlt), if_pos hlt]
        · rw [if_neg (by intro h; rcases h with h | h; exact absurd h (by simp); exact hlt h), if_neg hlt]
theorem row31_ann {rs ways : List (List Int)} {house rel : Int} {n : Nat} (hn : rs.length = n) : row31 rs ways house rel = if annF rs ways house rel n = [] then [] else house :: minF (annF rs ways house rel n) := by
  unfold row31
  rw [hn, fold31_ann]
/-- each house stands once in a way -/
def Good31 (ways : List (List Int)) (n : Nat) : Prop := ∀ i, i < n → (ways.getD i []).Nodup
theorem row31_nodup {rs ways : List (List Int)} {house rel : Int} {n : Nat} (hn : rs.length = n) (h : Good31 ways n) : (row31 rs ways house rel).Nodup := by
  rw [row31_ann hn]
  split
  · exact List.nodup_nil
  · rename_i he
    obtain ⟨b, hb, hB, e⟩ := annF_mem (minF_in he)
    rw [e]
    refine List.nodup_cons.2 ⟨?_, h b hb⟩
    unfold annB tellsF at hB
    simp only [Bool.and_eq_true, Bool.not_eq_true', decide_eq_false_iff_not] at hB
    exact hB.2.1.2
theorem pick31_nodup {rs ways : List (List Int)} {home house : Int} {n : Nat} (hn : rs.length = n) (h : Good31 ways n) : (pick31 rs ways home house).Nodup := by
  unfold pick31
  split
  · simp
  · split
    · exact row31_nodup hn h
    · split
      · exact row31_nodup hn h
      · exact row31_nodup hn h
theorem none31_good (n : Nat) (home : Int) : Good31 (none31 n home) n := fun i hi => by
  unfold none31
  rw [map_range_getD _ _ _ hi]
  split <;> simp
theorem net31_good {rs ways : List (List Int)} {home house : Int} {n : Nat} (hn : rs.length = n) (h : Good31 ways n) : Good31 (net31 rs ways home house n) n := fun i hi => by
  unfold net31
  rw [map_range_getD _ _ _ hi]
  split
  · exact pick31_nodup hn h
  · exact h i hi
theorem endTo31_good {rs : List (List Int)} {home : Int} {n : Nat} (hn : rs.length = n) : ∀ k, Good31 (endTo31 rs home n k) n
  | 0 => none31_good n home
  | k + 1 => by rw [endTo31_succ]; exact net31_good hn (endTo31_good hn k)
theorem goodP_of {l : List Int} (h : ∀ z, z ∈ l → 1 ≤ z ∧ z ≤ 5) (hn : l.Nodup) : GoodP l := by
  refine ⟨fun j hj => ?_, fun i j hij hj => ?_⟩
  · rw [List.getD_eq_getElem?_getD, List.getElem?_eq_getElem hj]
    exact h _ (List.getElem_mem hj)
  · rw [List.getD_eq_getElem?_getD, List.getD_eq_getElem?_getD, List.getElem?_eq_getElem hj, List.getElem?_eq_getElem (by omega)]
    simp only [Option.getD_some]
    exact List.pairwise_iff_getElem.1 hn i j (by omega) hj hij
end Go.Proofs.YtlpibfafpljedaaGreatDoor

namespace Go.Proofs.YtlpibfafpljedaaGreatDoor
open Go.RowKit Go.Maps
set_option linter.unusedVariables false
set_option maxRecDepth 100000

/-- rows that were there when the call began, gathered in a row of the call's own -/
def RowsM (w0 W : World) (v : Value) (ll : List (List Int)) : Prop :=
  ∃ vs, vs.length = ll.length ∧ W.ownsRow w0.heap.size 37 1 v ll.length vs ∧ ∀ i, i < ll.length → IntsAt w0 (vs.getD i undef) (ll.getD i [])
theorem RowsM.below {w0 W W' : World} {v : Value} {ll : List (List Int)} (h : RowsM w0 W v ll) (hb : Below W.heap.size W W') : RowsM w0 W' v ll := by
  obtain ⟨vs, h1, h2, h3⟩ := h
  exact ⟨vs, h1, owns_belowR h2 hb, h3⟩
theorem RowsM.form {w0 W : World} {v : Value} {ll : List (List Int)} (h : RowsM w0 W v ll) : ∃ a cap, v = .slice a ll.length cap ∧ ll.length ≤ cap ∧ cap ≤ 9223372036854775807 := by
  obtain ⟨vs, h1, h2, h3⟩ := h; exact owns_form h2
theorem OwnInts.nil (w : World) (lo : Nat) : OwnInts w lo (.slice none 0 0) [] := ⟨rfl, .inl ⟨rfl, rfl⟩⟩
theorem RowsM.nil (w0 W : World) : RowsM w0 W (.slice none 0 0) [] :=
  ⟨[], rfl, ⟨rfl, .inl ⟨rfl, rfl⟩⟩, fun i hi => by simp at hi⟩
theorem RowsM.rows {w0 W : World} {v : Value} {ll : List (List Int)} (h : RowsM w0 W v ll) (hb : Below w0.heap.size w0 W) : RowsAt W v ll := by
  obtain ⟨vs, h1, h2, h3⟩ := h
  refine ⟨fun i => vs.getD i undef, ?_, fun i hi => (h3 i hi).below hb⟩
  rcases h2.2 with ⟨rfl, h'⟩ | ⟨g, cap, cur, rfl, hb, hg, hnc, hcm, hcs, htake⟩
  · exact ⟨none, 0, by rw [h'], by omega, Nat.zero_le _, .inl h'⟩
  · refine ⟨_, cap, rfl, hnc, hcm, .inr ⟨g, 0, rfl, heap_lt hg, fun i hi => ?_⟩⟩
    rw [Nat.zero_add, h2.cellAt i (by omega)]
    show vs[i]? = some (vs.getD i undef)
    rw [List.getD_eq_getElem?_getD, List.getElem?_eq_getElem (by omega)]; rfl
section
variable {W : World}
theorem wpList_append_rowM {ops : Array Oper} {rest : List Oper} {o : Oper} {a : Act} {Q : Exit → Act → World → Prop} (hgd : o.guard = none) (s x : Operand)
    (ho : o.op = .call { callee := .builtin .append, args := #[s, x], argTypes := #[23, 23] })
    (w0 : World) (v u : Value) (ll : List (List Int)) (l : List Int) (N : Nat) (hN : ll.length = N) (hs : a.eval s = v) (hO : RowsM w0 W v ll) (hB : w0.heap.size ≤ W.heap.size) (g : Nat) (hx : a.eval x = .slice (some ⟨g, 0, none⟩) 1 1) (hgW : g = W.heap.size) (hu : IntsAt w0 u l) (hlen : N ≤ 1000000)
    (h : ∀ ad c w', RowsM w0 w' (.slice ad (N + 1) c) (ll ++ [l]) → Below w0.heap.size W w' → wpList Tryz.prog ops Q rest (a.put o.dst (.slice ad (N + 1) c)) w') : wpList Tryz.prog ops Q (o :: rest) a (W.alloc (.cells #[u] 37)) := by
  obtain ⟨i2, hi2, hy0, hy1, hy2⟩ := info_parts info_r2
  subst hN
  subst hgW
  obtain ⟨vs, h1, h2, h3⟩ := hO
  have hA := Below.alloc (Below.refl W.heap.size W) (Nat.le_refl _) (.cells #[u] 37)
  obtain ⟨ua, uc, hu1, _, _⟩ := hu.form
  refine wpList_append_src hgd s x 23 ho w0.heap.size 37 i2 (.slice none 0 0) 24 Tryz.underlying23 hi2 hy0 hy1 hy2 rfl v ll.length vs hs (owns_belowR h2 hA) (.slice (some ⟨W.heap.size, 0, none⟩) 1 1) 1 (fun _ => u) hx (lit_any W u 37) (fun j hj => by rw [hu1]; rfl) (by unfold maxLen; omega) (by omega) (by simp; omega) ?_
  intro v' w' hown hgrow
  have e0 : (ll ++ [l]).length = ll.length + 1 := by simp
  have hR : RowsM w0 w' v' (ll ++ [l]) := by
    refine ⟨vs ++ [u], by simp [h1], by rw [e0]; exact hown, fun i hi => ?_⟩
    rw [e0] at hi
    by_cases him : i < ll.length
    · have e : (vs ++ [u]).getD i undef = vs.getD i undef := by simp only [List.getD_eq_getElem?_getD]; rw [List.getElem?_append_left (by omega)]
      have e2 : (ll ++ [l]).getD i [] = ll.getD i [] := by simp only [List.getD_eq_getElem?_getD]; rw [List.getElem?_append_left (by omega)]
      rw [e, e2]; exact h3 i him
    · obtain rfl : i = ll.length := by omega
      have e : (vs ++ [u]).getD ll.length undef = u := by simp only [List.getD_eq_getElem?_getD]; rw [List.getElem?_append_right (by omega), h1]; simp
      have e2 : (ll ++ [l]).getD ll.length [] = l := by simp only [List.getD_eq_getElem?_getD]; rw [List.getElem?_append_right (by omega)]; simp
      rw [e, e2]; exact hu
  obtain ⟨ad, c, rfl, _, _⟩ := hR.form
  rw [e0] at hR ⊢
  exact h ad c w' hR (Below.grown (Below.alloc (Below.refl _ _) hB _) hgrow (by simp; omega) (fun g hg => (World.ownsRow.lt h2 g hg).1))
end
theorem owns_introw {w : World} {lo n : Nat} {v : Value} {vs : List Value} (h2 : w.ownsRow lo 37 1 v n vs) {g : Nat} (hv : v.ownBlock = some g) : ∃ cur, w.heap[g]? = some (.cells cur 37 (0, 0)) := by
  rcases h2.2 with ⟨rfl, _⟩ | ⟨g', cap, cur', rfl, _, hg', _⟩
  · cases hv
  · simp [Value.ownBlock] at hv
    subst hv
    exact ⟨_, hg'⟩
theorem OwnInts.norow {w w' : World} {lo : Nat} {u : Value} {l : List Int} {g : Nat} (h : OwnInts w lo u l) {cur : Array Value} (hg : w.heap[g]? = some (.cells cur 37 (0, 0))) (hb : w.grownBy w' (some g)) : OwnInts w' lo u l :=
  owns_blk h (fun b cur' _ hc => hb.block b (heap_lt hc) (by
    intro e
    cases e
    rw [hg] at hc
    simp at hc))
theorem RowsL.set {w : World} {lo n g cap : Nat} {ll : List (List Int)} {u : Value} {l : List Int} (h : RowsL w lo (.slice (some ⟨g, 0, none⟩) n cap) ll) (hn : ll.length = n) (j : Nat) (hj : j < n) (hu : OwnInts w lo u l) :
    RowsL (w.setCell ⟨g, j, none⟩ u) lo (.slice (some ⟨g, 0, none⟩) n cap) (ll.set j l) := by
  obtain ⟨vs, h1, h2, h3⟩ := h
  subst hn
  obtain ⟨s1, s2⟩ := h2.stored j u
  obtain ⟨cur, hc⟩ := owns_introw h2 rfl
  refine ⟨vs.set j u, by simp [h1], by rw [List.length_set]; exact s1, fun i hi => ?_⟩
  rw [List.length_set] at hi
  have e0 : (vs.set j u).getD i undef = if i = j then u else vs.getD i undef := by
    by_cases h : i = j
    · subst h; simp [show i < vs.length by omega]
    · rw [if_neg h]; simp [Ne.symm h]
  rw [e0]
  have e : (ll.set j l).getD i [] = if i = j then l else ll.getD i [] := by
    by_cases h : i = j
    · subst h; simp [hi]
    · rw [if_neg h]; simp [Ne.symm h]
  rw [e]
  by_cases hij : i = j
  · rw [if_pos hij, if_pos hij]; exact hu.norow hc s2
  · rw [if_neg hij, if_neg hij]; exact (h3 i hi).norow hc s2
theorem cell_lt {w : World} {p : Addr} {v : Value} (h : w.cell? p = some v) : p.block < w.heap.size := by
  rcases Nat.lt_or_ge p.block w.heap.size with h' | h'
  · exact h'
  · simp [World.cell?, Array.getElem?_eq_none h'] at h
/-- a net in block N, its ways in block G -/
structure NetS (w0 W : World) (N B G : Nat) (rs ways : List (List Int)) (n : Nat) (home : Int) : Prop where
  bel : Below w0.heap.size w0 W
  c0 : W.cell? ⟨N, 0, none⟩ = some (.int .i64 (n : Int))
  c1 : W.cell? ⟨N, 1, none⟩ = some (.map (some B))
  c2 : W.cell? ⟨N, 2, none⟩ = some (.int .i64 home)
  c3 : W.cell? ⟨N, 3, none⟩ = some (.slice (some ⟨G, 0, none⟩) n n)
  ne : N ≠ G ∧ B ≠ G
  own : ∃ (cnt : Nat) (D : DataW Unit), W.ownsMap Tryz.prog 87 (plainElem Tryz.prog 3) B cnt D ∧ Reads D (valTo rs n n 0)
  rows : RowsL W w0.heap.size (.slice (some ⟨G, 0, none⟩) n n) ways
  len : ways.length = n
  err : ErrOk W
theorem ownsMap_below {w w' : World} {b n : Nat} {D : DataW Unit} (h : w.ownsMap Tryz.prog 87 (plainElem Tryz.prog 3) b n D) (hb : Below w.heap.size w w') : w'.ownsMap Tryz.prog 87 (plainElem Tryz.prog 3) b n D :=
  h.kept (row := none) ⟨hb.os, hb.tape, hb.output, hb.size, fun k hk _ => hb.block k hk⟩ (by simp)
theorem NetS.below {w0 W W' : World} {N B G n : Nat} {rs ways : List (List Int)} {home : Int} (h : NetS w0 W N B G rs ways n home) (hb : Below W.heap.size W W') : NetS w0 W' N B G rs ways n home := by
  have hN : N < W.heap.size := cell_lt h.c0
  obtain ⟨cnt, D, o1, o2⟩ := h.own
  exact ⟨h.bel.trans (hb.mono h.bel.size), (hb.cell (p := ⟨N, 0, none⟩) hN).trans h.c0, (hb.cell (p := ⟨N, 1, none⟩) hN).trans h.c1, (hb.cell (p := ⟨N, 2, none⟩) hN).trans h.c2, (hb.cell (p := ⟨N, 3, none⟩) hN).trans h.c3,
    h.ne, ⟨cnt, D, ownsMap_below o1 hb, o2⟩, h.rows.below hb, h.len, h.err.below hb⟩
theorem own_set1 {w : World} {b n g : Nat} {D : DataW Unit} (j : Nat) (u : Value) (h : w.ownsMap Tryz.prog 87 (plainElem Tryz.prog 3) b n D) (hne : b ≠ g) : (w.setCell ⟨g, j, none⟩ u).ownsMap Tryz.prog 87 (plainElem Tryz.prog 3) b n D :=
  h.kept (row := some g) ⟨rfl, rfl, rfl, by simp [World.setCell], fun k _ hk => Below.heap_setCell _ _ _ _ (by intro e; exact hk (by rw [e]))⟩ (by simpa using hne)
theorem cell_set_off {w : World} {g j b i : Nat} {u : Value} (h : b ≠ g) : (w.setCell ⟨g, j, none⟩ u).cell? ⟨b, i, none⟩ = w.cell? ⟨b, i, none⟩ :=
  World.cell?_of_block (Below.heap_setCell _ _ _ _ h)
theorem NetS.set {w0 W : World} {N B G n : Nat} {rs ways : List (List Int)} {home : Int} (h : NetS w0 W N B G rs ways n home) (j : Nat) (hj : j < n) {u : Value} {l : List Int} (hu : OwnInts W w0.heap.size u l) :
    NetS w0 (W.setCell ⟨G, j, none⟩ u) N B G rs (ways.set j l) n home := by
  obtain ⟨cnt, D, o1, o2⟩ := h.own
  have hG : w0.heap.size ≤ G := by obtain ⟨vs, h1, h2, h3⟩ := h.rows; exact (World.ownsRow.lt h2 G rfl).1
  obtain ⟨a, ha⟩ := h.err
  have hgl : (0 : Nat) ≠ G := by
    intro e
    obtain ⟨vs, h1, h2, h3⟩ := h.rows
    have hb := h.bel.size
    obtain ⟨cur, hc⟩ := owns_introw h2 rfl
    have hn : vs.length = ways.length := h1
    have := h.len
    obtain ⟨va, vc, ev, _, _⟩ := (h3 0 (by omega)).form
    have hx : W.cell? ⟨0, 0, none⟩ = W.cell? ⟨G, 0, none⟩ := congrArg (fun b => W.cell? ⟨b, 0, none⟩) e
    rw [this] at h2
    have h9 := World.ownsRow.cellAt h2 0
    have hca : W.cell? ⟨G, 0, none⟩ = vs[0]? := h9 (by omega)
    rw [hx, hca] at ha
    rw [List.getD_eq_getElem?_getD, ha] at ev
    cases ev
  exact ⟨Below.setCell h.bel (by simp; omega) u, (cell_set_off h.ne.1).trans h.c0, (cell_set_off h.ne.1).trans h.c1, (cell_set_off h.ne.1).trans h.c2, (cell_set_off h.ne.1).trans h.c3,
    h.ne, ⟨cnt, D, own_set1 _ _ o1 h.ne.2, o2⟩, h.rows.set h.len j hj hu, by rw [List.length_set]; exact h.len, ⟨a, (cell_set_off hgl).trans ha⟩⟩
theorem net31_set {rs ways : List (List Int)} {home : Int} {n j : Nat} (hl : ways.length = n) (hj : j < n) : net31 rs ways home ((j : Int) + 1) n = ways.set j (pick31 rs ways home ((j : Int) + 1)) := by
  subst hl
  apply List.ext_getElem
  · simp [net31]
  · intro i h1 h2
    have h2' : i < ways.length := by simpa using h2
    rw [List.getElem_set]
    simp only [net31, List.getElem_map, List.getElem_range]
    by_cases hij : j = i
    · subst hij; rw [if_pos rfl, if_pos rfl]
    · rw [if_neg hij, if_neg (by omega), List.getD_eq_getElem?_getD, List.getElem?_eq_getElem h2']; rfl
end Go.Proofs.YtlpibfafpljedaaGreatDoor

namespace Go.Proofs.YtlpibfafpljedaaGreatDoor
open Go.RowKit
set_option linter.unusedVariables false

theorem run_append_zeros1 {P : Program} (w : World) (t u ty e : TypeId) (i : TypeInfo) (z : Value) (ht : P.underlying t = some (.slice e)) (hu : P.underlying u = some (.int .i64)) (hi : P.info? e = some i) (hz : i.zero = some z) (hs : i.size = 1) (hby : i.bytes = 8)
    (n : Nat) (h0 : 0 < n) (hn : n ≤ 1000000) :
    (Builtin.append_ #[t, u] ty #[.slice none 0 0, .int .i64 (n : Int)]).run P w =
      .ok (.slice (some ⟨w.heap.size, 0, none⟩) n (grownCap w n 0 e)) (w.drew.alloc (.cells (Builtin.zeroCells z.cells n ++ Builtin.zeroCells z.cells (grownCap w n 0 e - n)) e)) := by
  have hn0 : n ≠ 0 := by omega
  have hw : IntKind.i64.wrap (n : Int) = (n : Int) := IntWalk.i64_in _ (by omega)
  have hneg : ¬ ((n : Int) < 0) := by omega
  have hbig : ¬ (281474976710656 < (n : Int) * 8) := by omega
  have h63' : ¬ (9223372036854775807 < (n : Int)) := by omega
  have h48' : ¬ (281474976710656 < Builtin.nextslicecap n 0 * 8) := by rw [nextslicecap_zero h0]; omega
  simp [Builtin.append_, run_underlying ht, run_underlying hu, sizeOf, typeInfo, zeroValue, hi, hz, hs, hby, asInt, asIntOf, hw, hneg, hbig, hn0, h63', h48', Question.forced, run_firstCells_none, newRow, grownCap]
variable {W : World}
theorem wpList_append_zeros1 {ops : Array Oper} {rest : List Oper} {o : Oper} {a : Act} {Q : Exit → Act → World → Prop} (hgd : o.guard = none) (s x : Operand)
    (ho : o.op = .call { callee := .builtin .append, args := #[s, x], argTypes := #[37, 3] })
    (n : Nat) (h0 : 0 < n) (hn : n ≤ 1000000) (hs : a.eval s = .slice none 0 0) (hx : a.eval x = .int .i64 (n : Int))
    (h : ∀ (c : Nat) w', OwnInts w' W.heap.size (.slice (some ⟨W.heap.size, 0, none⟩) 0 c) [] → n ≤ c → c ≤ 9223372036854775807 → Below W.heap.size W w' → wpList Tryz.prog ops Q rest (a.put o.dst (.slice (some ⟨W.heap.size, 0, none⟩) n c)) w') :
    wpList Tryz.prog ops Q (o :: rest) a W := by
  obtain ⟨i0, hi, hz0, hz1, hz2⟩ := info_parts info_intR
  refine wpList_plain hgd fun _ hK => ?_
  have hr := run_append_zeros1 (P := Tryz.prog) W 37 3 o.type 3 i0 (.int .i64 0) Tryz.underlying37 Tryz.underlying3 hi hz0 hz1 hz2 n h0 hn
  unfold Oper.wp execOp
  simp only [ho, resolve, invoke, builtin, Sem.run_bind, Sem.run_pure, Result.andThen_ok, List.map_toArray, List.map_cons, List.map_nil, hs, hx, hr]
  have hge := grownCap_ge W n 0 3
  have hcm : grownCap W n 0 3 ≤ maxLen := grownCap_le_maxLen W n 0 3 (by unfold maxLen; omega)
  refine hK _ _ (h _ _ ⟨rfl, .inr ⟨W.heap.size, _, _, rfl, Nat.le_refl _, heap_alloc_new W.drew _, Nat.zero_le _, hcm, ?_, rfl⟩⟩ hge (by unfold maxLen at hcm; omega) (by repeat (first | exact Below.refl _ _ | assumption | refine Below.drew ?_ | refine belowDrewN ?_ _ | refine Below.alloc ?_ (by first | exact Nat.le_refl _ | omega | (simp; done) | (simp; omega)) _ | refine Below.setCell ?_ (by first | exact Nat.le_refl _ | omega | (simp; done) | (simp; omega)) _)))
  simp only [Array.size_append, size_zeroCells, Value.cells]
  simp
  omega
set_option maxRecDepth 100000 in
set_option maxHeartbeats 2000000 in
theorem slGrowI_any (n : Nat) (hn : n ≤ 1000000) (w : World) :
    Calls Tryz.prog 88 #[.slice none 0 0, .int .i64 (n : Int)] w fun e w' => ∃ v', e = .returned v' ∧ OwnInts w' w.heap.size v' [] ∧ Below w.heap.size w w' := by
  by_cases h0 : n = 0
  · subst h0
    go_enter Tryz.func88, Tryz.ntmps88
    go_wp2_with fail
    go_ret
    exact ⟨_, rfl, OwnInts.nil _ _, by repeat (first | exact Below.refl _ _ | assumption | refine Below.drew ?_ | refine belowDrewN ?_ _ | refine Below.alloc ?_ (by first | exact Nat.le_refl _ | omega | (simp; done) | (simp; omega)) _ | refine Below.setCell ?_ (by first | exact Nat.le_refl _ | omega | (simp; done) | (simp; omega)) _)⟩
  · have hnI : (0 : Int) < (n : Int) := by omega
    have hnN : 0 < n := by omega
    go_enter Tryz.func88, Tryz.ntmps88
    go_wp2_with (at_builtin; refine wpList_append_zeros1 rfl (.tmp 20) (.tmp 21) rfl n hnN hn rfl rfl ?_; intro c w1 hE hc1 hc2 hb1; have E1 := Lib.hid hE; have B1 := Lib.hid hb1; clear hE hb1)
    go_ret
    exact ⟨_, rfl, E1.out, B1.out⟩
set_option maxRecDepth 100000 in
set_option maxHeartbeats 4000000 in
theorem slConcatI_any (v : Value) (l1 l2 : List Int) (w : World) (h : RowsAt w v [l1, l2]) (hl1 : l1.length ≤ 1000) (hl2 : l2.length ≤ 1000) :
    Calls Tryz.prog 78 #[v] w fun e w' => ∃ v', e = .returned v' ∧ OwnInts w' w.heap.size v' (l1 ++ l2) ∧ Below w.heap.size w w' := by
  obtain ⟨a, cap, rfl, hc, hm⟩ := h.form
  have hlen : ([l1, l2] : List (List Int)).length = 2 := rfl
  rw [hlen] at h hc ⊢
  have H := Lib.hid h
  obtain ⟨n1, hn1⟩ : ∃ n, l1.length = n := ⟨_, rfl⟩
  obtain ⟨n2, hn2⟩ : ∃ n, l2.length = n := ⟨_, rfl⟩
  have HN1 := Lib.hid hn1
  have HN2 := Lib.hid hn2
  rw [hn1] at hl1
  rw [hn2] at hl2
  clear h hlen hn1 hn2
  go_enter Tryz.func78, Tryz.ntmps78
  go_wp2_with fail
  go_loopg [3, 11] 2 (fun gk s3 s11 wr => ∃ k S : Nat, s11 = .int .i64 (k : Int) ∧ k + gk = 2 ∧ s3 = .int .i64 (S : Int) ∧ S = (if k = 0 then 0 else if k = 1 then n1 else n1 + n2) ∧ wr = w)
  case atStart => exact ⟨0, 0, rfl, rfl, rfl, rfl, rfl⟩
  case round =>
    obtain ⟨k, S, rfl, hk, rfl, hS, rfl⟩ := hrel
    by_cases hg : gk = 0
    · subst hg
      obtain rfl : k = 2 := by omega
      have hS2 : S = n1 + n2 := by rw [hS]; rfl
      subst hS2
      have hgr := Lib.hid (fun W => slGrowI_any (n1 + n2) (by omega) W)
      clear hS
      go_wp2_with fail
      refine (hgr.out _).mono ?_
      rintro e w1 ⟨v1, rfl, hE1, hb1⟩
      have E1 := Lib.hid hE1
      have B1 := Lib.hid hb1
      obtain ⟨wb, hwb⟩ : ∃ W, W = wr := ⟨_, rfl⟩
      subst hwb
      clear hE1 hb1
      go_wp2_with fail
      go_loopg [6, 27] 2 (fun gk s6 s27 wr => ∃ (k : Nat), s27 = .int .i64 (k : Int) ∧ k + gk = 2 ∧ Hid (OwnInts wr wb.heap.size s6 (if k = 0 then [] else if k = 1 then l1 else l1 ++ l2)) ∧ Hid (Below wb.heap.size wb wr))
      case atStart => exact ⟨0, rfl, rfl, E1, B1⟩
      case round =>
        clear E1 B1
        obtain ⟨k, rfl, hk, E, B⟩ := hrel
        have hsb := B.out.size
        by_cases hg : gk = 0
        · subst hg
          obtain rfl : k = 2 := by omega
          go_wp2_with fail
          go_ret
          exact ⟨_, rfl, E.out, B.out⟩
        · have hk2 : k = 0 ∨ k = 1 := by omega
          rcases hk2 with rfl | rfl
          · obtain ⟨b, off, u, rfl, hb, hx, hu⟩ := (H.out.below B.out).get 0 (by omega)
            obtain ⟨oa, oc, e, hoc, hom⟩ := E.out.form
            subst e
            have HU : Hid (IntsAt wr u l1) := Lib.hid hu
            rw [Nat.add_zero] at hx
            clear hu hg
            go_wp2_with (at_builtin; refine wpList_append_ints rfl (.tmp 31) (.tmp 32) rfl wb.heap.size _ _ [] l1 n1 (by rw [List.length_nil, HN1.out, Nat.zero_add]) rfl E.out hsb rfl HU.out (by omega) ?_; intro ad c w2 hE hb2 hs2; have E2 : Hid (OwnInts w2 wb.heap.size (.slice ad n1 c) l1) := Lib.hid hE; have B2 := Lib.hid (B.out.trans hb2); clear hE hb2)
            go_roundg (gk - 1)
            case measure => omega
            case rel => exact ⟨1, by go_num, by omega, E2, B2⟩
          · obtain ⟨b, off, u, rfl, hb, hx, hu⟩ := (H.out.below B.out).get 1 (by omega)
            obtain ⟨oa, oc, e, hoc, hom⟩ := E.out.form
            subst e
            have E' : Hid (OwnInts wr wb.heap.size (.slice oa n1 oc) l1) := Lib.hid (by have := E.out; rw [if_neg (by omega), if_pos rfl, HN1.out] at this; exact this)
            have HU : Hid (IntsAt wr u l2) := Lib.hid hu
            rw [if_neg (by omega), if_pos rfl, HN1.out]
            clear hu hg E
            go_wp2_with (at_builtin; refine wpList_append_ints rfl (.tmp 31) (.tmp 32) rfl wb.heap.size _ _ l1 l2 (n1 + n2) (by rw [HN1.out, HN2.out]) rfl E'.out hsb rfl HU.out (by omega) ?_; intro ad c w2 hE hb2 hs2; have E2 : Hid (OwnInts w2 wb.heap.size (.slice ad (n1 + n2) c) (l1 ++ l2)) := Lib.hid hE; have B2 := Lib.hid (B.out.trans hb2); clear hE hb2)
            go_roundg (gk - 1)
            case measure => omega
            case rel => exact ⟨2, by go_num, by omega, E2, B2⟩
    · have hk2 : k = 0 ∨ k = 1 := by omega
      rcases hk2 with rfl | rfl
      · obtain ⟨b, off, u, rfl, hb, hx, hu⟩ := H.out.get 0 (by omega)
        obtain ⟨ua, uc, e, huc, hum⟩ := hu.form
        subst e
        have e1 : (([l1, l2] : List (List Int)).getD 0 []).length = n1 := HN1.out
        rw [e1] at hx
        rw [Nat.add_zero] at hx
        have hS0 : S = 0 := by rw [hS]; rfl
        subst hS0
        clear hu hg hS
        go_wp2_with fail
        go_roundg (gk - 1)
        case measure => omega
        case rel => exact ⟨1, n1, by go_num, by omega, by go_num, by simp, rfl⟩
      · obtain ⟨b, off, u, rfl, hb, hx, hu⟩ := H.out.get 1 (by omega)
        obtain ⟨ua, uc, e, huc, hum⟩ := hu.form
        subst e
        have e1 : (([l1, l2] : List (List Int)).getD 1 []).length = n2 := HN2.out
        rw [e1] at hx
        have hS0 : S = n1 := by rw [hS]; rfl
        subst hS0
        clear hu hg hS
        go_wp2_with fail
        go_roundg (gk - 1)
        case measure => omega
        case rel => exact ⟨2, S + n2, by go_num, by omega, by go_num, by simp, rfl⟩
end Go.Proofs.YtlpibfafpljedaaGreatDoor
