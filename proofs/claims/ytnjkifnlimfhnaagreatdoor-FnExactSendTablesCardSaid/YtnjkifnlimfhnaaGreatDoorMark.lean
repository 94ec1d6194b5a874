/- Lists of numbers of one's own; marks of numbers and of tables; eqIntS, heldIntS. -/
import Derived.Test.YtnjkifnlimfhnaaGreatDoorEntCopy
import Derived.Deep.QuietTactic
import Derived.BigQuiet
namespace Go.Proofs.YtnjkifnlimfhnaaGreatDoor
open Go.RowKit
set_option linter.unusedVariables false

def OwnInts (w : World) (B : Nat) (v : Value) (l : List Int) : Prop := w.ownsRow B 3 1 v l.length (l.map (Value.int .i64))
theorem OwnInts.ints {w : World} {B : Nat} {v : Value} {l : List Int} (h : OwnInts w B v l) : IntsAt w v l := by
  have h' : w.ownsRow B 3 1 v l.length (l.map (Value.int .i64)) := h
  rcases h'.2 with ⟨rfl, hn⟩ | ⟨g, cap, cur, rfl, hb, hg, hnc, hcm, hcs, htake⟩
  · exact ⟨none, 0, by rw [hn], by omega, by unfold maxLen; omega, .inl hn⟩
  · refine ⟨some ⟨g, 0, none⟩, cap, rfl, hnc, hcm, .inr ⟨g, 0, rfl, ?_, fun i hi => ?_⟩⟩
    · by_cases hlt : g < w.heap.size
      · exact hlt
      · rw [Array.getElem?_eq_none (by omega)] at hg; simp at hg
    · rw [Nat.zero_add, h'.cellAt i (by omega)]
      simp [List.getElem?_eq_getElem hi]

theorem OwnInts.below {W w1 : World} {B : Nat} {v : Value} {l : List Int} (h : OwnInts W B v l) (hb : Below W.heap.size W w1) : OwnInts w1 B v l := owns_belowR h hb
theorem OwnInts.lift {w : World} {B B' : Nat} {v : Value} {l : List Int} (h : OwnInts w B v l) (hb : B' ≤ B) : OwnInts w B' v l := by
  refine ⟨h.1, ?_⟩
  rcases h.2 with h | ⟨g, cap, cur, h1, h2, h3⟩
  · exact .inl h
  · exact .inr ⟨g, cap, cur, h1, Nat.le_trans hb h2, h3⟩
theorem same_list {l m : List Int} (h : l.length = m.length) (hs : ∀ j, j < l.length → l.getD j 0 = m.getD j 0) : l = m := by
  apply List.ext_getElem h
  intro j h1 h2
  have := hs j h1
  simpa [List.getElem?_eq_getElem h1, List.getElem?_eq_getElem h2] using this
set_option maxHeartbeats 1000000 in
theorem eqIntS_any (v v2 : Value) (l l2 : List Int) (w : World) (h : IntsAt w v l) (h2 : IntsAt w v2 l2) :
    Calls Tryz.prog 56 #[v, v2] w fun e w' => e = .returned (.bool (decide (l = l2))) ∧ Drew w w' := by
  obtain ⟨a, cap, rfl, hc, hm, h⟩ := h
  obtain ⟨a2, cap2, rfl, hc2, hm2, h2⟩ := h2
  unfold maxLen at hm hm2
  obtain ⟨n, hn⟩ : ∃ n, l.length = n := ⟨_, rfl⟩
  obtain ⟨n2, hn2⟩ : ∃ n, l2.length = n := ⟨_, rfl⟩
  rw [hn] at hc h ⊢
  rw [hn2] at hc2 h2 ⊢
  obtain ⟨B, hB⟩ : ∃ B, decide (l = l2) = B := ⟨_, rfl⟩
  rw [hB]
  have HB := Lib.hid hB
  have HN := Lib.hid hn
  have HN2 := Lib.hid hn2
  have H := Lib.hid h
  have H2 := Lib.hid h2
  clear hB hn hn2 h h2
  by_cases hnn : n = n2
  · subst hnn
    go_enter Tryz.func56, Tryz.ntmps56
    go_wp2_with fail
    go_loopg [5] n (fun g i wr => ∃ k m : Nat, i = .int .i64 k ∧ k + g = n ∧ wr = w.drewN m ∧ Hid (∀ j, j < k → l.getD j 0 = l2.getD j 0))
    case atStart => exact ⟨0, 0, rfl, by omega, rfl, fun j hj => by omega⟩
    case round =>
      obtain ⟨k, m, rfl, hk, rfl, hno⟩ := hrel
      by_cases hg : gk = 0
      · subst hg
        obtain rfl : k = n := by omega
        have hB : B = true := by
          rw [← HB.out, decide_eq_true_eq]
          exact same_list (by rw [HN.out, HN2.out]) (by rw [HN.out]; exact hno.out)
        subst hB
        go_wp2_with fail
        go_ret
        exact ⟨rfl, m, rfl⟩
      · have hkn : k < n := by omega
        have hkn2 : (k : Int) < (n : Int) := by omega
        rcases H.out with h0 | ⟨b, off, rfl, hb, hcell⟩
        · omega
        · rcases H2.out with h0 | ⟨b2, off2, rfl, hb2, hcell2⟩
          · omega
          · have hx := hcell k hkn
            have hx2 := hcell2 k hkn
            clear hcell hcell2
            obtain ⟨y, hy⟩ : ∃ y, l.getD k 0 = y := ⟨_, rfl⟩
            obtain ⟨y2, hy2⟩ : ∃ y, l2.getD k 0 = y := ⟨_, rfl⟩
            rw [hy] at hx
            rw [hy2] at hx2
            have HY := Lib.hid hy
            have HY2 := Lib.hid hy2
            have HK := Lib.hid hk
            clear hy hy2 hk
            by_cases hyx : y = y2
            · have hne : (y != y2) = false := by simp [hyx]
              have HE := Lib.hid hyx
              clear hyx
              go_wp2_with fail
              go_quiet (fail)
              go_wp2_with fail
              go_roundg (gk - 1)
              case measure => omega
              case rel =>
                refine ⟨k + 1, m + nq, by go_num, by have := HK.out; omega, rfl, fun j hj => ?_⟩
                by_cases hjk : j = k
                · subst hjk; rw [HY.out, HY2.out]; exact HE.out
                · exact hno.out j (by omega)
            · have hB : B = false := by
                rw [← HB.out, decide_eq_false_iff_not]
                intro e
                apply hyx
                rw [← HY.out, ← HY2.out, e]
              subst hB
              have hne : (y != y2) = true := by simp [hyx]
              go_wp2_with fail
              go_quiet (fail)
              go_wp2_with fail
              go_ret
              exact ⟨rfl, by repeat (first | exact Drew.refl _ | assumption | refine Drew.more ?_ _)⟩
  · have hB : B = false := by
      rw [← HB.out, decide_eq_false_iff_not]
      intro e
      apply hnn
      rw [← HN.out, ← HN2.out, e]
    subst hB
    have hne : ¬ ((n : Int) = (n2 : Int)) := by omega
    go_enter Tryz.func56, Tryz.ntmps56
    go_wp2_with fail
    go_ret
    exact ⟨rfl, Drew.refl _⟩

/-- Only blocks of numbers from lo to hi have been written; each block is of the size that it had. -/
structure Marked (lo hi : Nat) (w w' : World) : Prop where
  os : w'.os = w.os
  tape : w'.tape = w.tape
  output : w'.output = w.output
  size : w'.heap.size = w.heap.size
  out : ∀ b : Nat, b < lo ∨ hi ≤ b → w'.heap[b]? = w.heap[b]?
  other : ∀ (b : Nat) cur T mk, w.heap[b]? = some (.cells cur T mk) → T ≠ 3 → T ≠ 61 → w'.heap[b]? = w.heap[b]?
  ints : ∀ (b : Nat) cur T mk, w.heap[b]? = some (.cells cur T mk) → ∃ cur', w'.heap[b]? = some (.cells cur' T mk) ∧ cur'.size = cur.size
theorem Marked.refl (lo hi : Nat) (w : World) : Marked lo hi w w := ⟨rfl, rfl, rfl, rfl, fun _ _ => rfl, fun _ _ _ _ _ _ _ => rfl, fun b cur T mk h => ⟨cur, h, rfl⟩⟩
theorem Marked.trans {lo hi : Nat} {a b c : World} (h : Marked lo hi a b) (g : Marked lo hi b c) : Marked lo hi a c := by
  refine ⟨g.os.trans h.os, g.tape.trans h.tape, g.output.trans h.output, g.size.trans h.size, fun x hx => (g.out x hx).trans (h.out x hx), fun x cur T mk hx hT hE => ?_, fun x cur T mk hx => ?_⟩
  · have e := h.other x cur T mk hx hT hE
    exact (g.other x cur T mk (e.trans hx) hT hE).trans e
  · obtain ⟨c1, h1, h2⟩ := h.ints x cur T mk hx
    obtain ⟨c2, g1, g2⟩ := g.ints x c1 T mk h1
    exact ⟨c2, g1, g2.trans h2⟩
theorem Marked.below {lo hi B : Nat} {w w' : World} (h : Marked lo hi w w') (hB : B ≤ lo) : Below B w w' :=
  ⟨h.os, h.tape, h.output, Nat.le_of_eq h.size.symm, fun i hi => h.out i (.inl (by omega))⟩
theorem setCell_block {w : World} {g i : Nat} {u : Value} {cur : Array Value} {T : TypeId} {mk : Nat × Nat} (h : w.heap[g]? = some (.cells cur T mk)) :
    (w.setCell ⟨g, i, none⟩ u).heap[g]? = some (.cells (cur.setIfInBounds i u) T mk) := by
  have hg : g < w.heap.size := by
    by_cases hlt : g < w.heap.size
    · exact hlt
    · rw [Array.getElem?_eq_none (by omega)] at h; simp at h
  rw [Array.getElem?_eq_getElem hg] at h
  simp only [Option.some.injEq] at h
  simp [World.setCell, hg, Array.getElem_modify, h]
theorem Marked.set {lo hi g i : Nat} {a w : World} {u : Value} {cur : Array Value} {S : TypeId} {mk : Nat × Nat} (hm : Marked lo hi a w) (hlo : lo ≤ g) (hhi : g < hi) (h : w.heap[g]? = some (.cells cur S mk)) (hS : S = 3 ∨ S = 61) : Marked lo hi a (w.setCell ⟨g, i, none⟩ u) := by
  refine hm.trans ⟨rfl, rfl, rfl, by simp [World.setCell], fun b hb => Below.heap_setCell _ _ _ _ (by intro e; simp at e; omega), fun b cur' T mk' hb hT hE => ?_, fun b cur' T mk' hb => ?_⟩
  · by_cases e : b = g
    · subst e; rw [hb] at h; simp only [Option.some.injEq, Obj.cells.injEq] at h; rw [h.2.1] at hT hE; rcases hS with hS | hS <;> contradiction
    · exact Below.heap_setCell _ _ _ _ e
  · by_cases e : b = g
    · subst e
      exact ⟨_, setCell_block hb, by simp⟩
    · exact ⟨cur', (Below.heap_setCell _ _ _ _ e).trans hb, rfl⟩

/-- n numbers, that may be written, in a block from lo to hi. -/
def HasInts (w : World) (lo hi : Nat) (v : Value) (n : Nat) : Prop :=
  (v = .slice none 0 0 ∧ n = 0) ∨ ∃ g cap cur, v = .slice (some ⟨g, 0, none⟩) n cap ∧ lo ≤ g ∧ g < hi ∧ w.heap[g]? = some (.cells cur 3 (0, 0)) ∧ n ≤ cap ∧ cap ≤ maxLen ∧ cur.size = cap
theorem HasInts.marked {w w' : World} {lo hi lo' hi' n : Nat} {v : Value} (h : HasInts w lo hi v n) (hm : Marked lo' hi' w w') : HasInts w' lo hi v n := by
  rcases h with h | ⟨g, cap, cur, h1, h2, h3, h4, h5, h6, h7⟩
  · exact .inl h
  · obtain ⟨c, e1, e2⟩ := hm.ints _ _ _ _ h4
    exact .inr ⟨g, cap, c, h1, h2, h3, e1, h5, h6, e2.trans h7⟩
theorem OwnInts.has {w : World} {B : Nat} {v : Value} {l : List Int} (h : OwnInts w B v l) {hi : Nat} (hh : w.heap.size ≤ hi) : HasInts w B hi v l.length := by
  rcases World.ownsRow.lt h |> fun hlt => (⟨hlt, h.2⟩ : _ ∧ _) with ⟨hlt, ⟨rfl, hn⟩ | ⟨g, cap, cur, rfl, hb, hg, hnc, hcm, hcs, htake⟩⟩
  · exact .inl ⟨rfl, hn⟩
  · exact .inr ⟨g, cap, cur, rfl, hb, by have := (hlt g rfl).2; omega, hg, hnc, hcm, by simpa using hcs⟩
theorem OwnInts.out {w w' : World} {B lo hi : Nat} {v : Value} {l : List Int} (h : OwnInts w B v l) (hm : Marked lo hi w w') (hB : hi ≤ B) : OwnInts w' B v l := by
  refine ⟨h.1, ?_⟩
  rcases h.2 with h' | ⟨g, cap, cur, h1, h2, h3, h4⟩
  · exact .inl h'
  · exact .inr ⟨g, cap, cur, h1, h2, (hm.out g (.inr (by omega))).trans h3, h4⟩
/-- .. one that lies ahead of what was marked -/
def OwnUpto (w : World) (B C : Nat) (v : Value) (l : List Int) : Prop := OwnInts w B v l ∧ ∀ k, v.ownBlock = some k → k < C
theorem OwnInts.upto {w : World} {B : Nat} {v : Value} {l : List Int} (h : OwnInts w B v l) : OwnUpto w B w.heap.size v l := ⟨h, fun k hk => (World.ownsRow.lt h k hk).2⟩
theorem OwnUpto.below {w w' : World} {B C : Nat} {v : Value} {l : List Int} (h : OwnUpto w B C v l) (hb : Below w.heap.size w w') : OwnUpto w' B C v l := ⟨h.1.below hb, h.2⟩
theorem OwnUpto.marked {w w' : World} {B C lo hi : Nat} {v : Value} {l : List Int} (h : OwnUpto w B C v l) (hm : Marked lo hi w w') (hC : C ≤ lo) : OwnUpto w' B C v l := by
  refine ⟨⟨h.1.1, ?_⟩, h.2⟩
  rcases h.1.2 with h' | ⟨g, cap, cur, h1, h2, h3, h4⟩
  · exact .inl h'
  · exact .inr ⟨g, cap, cur, h1, h2, (hm.out g (.inl (by have := h.2 g (by rw [h1]; rfl); omega))).trans h3, h4⟩

/-- k, k + 1, .. -/
def numsFrom (k : Int) (n : Nat) : List Int := (List.range n).map fun i => k + (i : Nat)
def MarkPost (lo hi : Nat) (v : Value) (n : Nat) (k : Int) (w : World) (e : Ending) (w' : World) : Prop :=
  e = .returned (.int .i64 (k + n)) ∧ Marked lo hi w w' ∧ OwnInts w' lo v (numsFrom k n)

set_option maxHeartbeats 2000000 in
theorem markIntS_any (lo hi : Nat) (v : Value) (n : Nat) (k : Int) (w : World) (h : HasInts w lo hi v n) (h0 : 0 ≤ k) (hk : k + n ≤ 4611686018427387904) :
    Calls Tryz.prog 58 #[v, .int .i64 k] w (MarkPost lo hi v n k w) := by
  rcases h with ⟨rfl, rfl⟩ | ⟨g, cap, cur, rfl, hlo, hhi, hg, hnc, hcm, hcs⟩
  · go_enter Tryz.func58, Tryz.ntmps58
    go_wp2_with fail
    go_loopg [1, 5] 1 (fun g s i wr => i = .int .i64 0 ∧ s = .int .i64 k ∧ wr = w)
    case atStart => exact ⟨rfl, rfl, rfl⟩
    case round =>
      obtain ⟨rfl, rfl, rfl⟩ := hrel
      go_wp2_with fail
      go_ret
      refine ⟨?_, Marked.refl _ _ _, World.ownsRow_nil _ _ _ _⟩
      simp
  · unfold maxLen at hcm
    have HG := Lib.hid hg
    have HCS := Lib.hid hcs
    clear hg hcs
    have hcell0 : ∀ c : Array Value, c.size = cap → (c.toList.take 0 = (numsFrom k 0).map (Value.int .i64)) := fun c _ => by simp [numsFrom]
    go_enter Tryz.func58, Tryz.ntmps58
    go_wp2_with fail
    go_loopg [1, 5] n (fun gh s i wr => ∃ (j : Nat) (c : Array Value), i = .int .i64 j ∧ s = .int .i64 (k + j) ∧ j + gh = n ∧ Hid (wr.heap[g]? = some (.cells c 3 (0, 0)) ∧ c.size = cap ∧ c.toList.take j = (numsFrom k j).map (Value.int .i64)) ∧ Hid (Marked lo hi w wr))
    case atStart => exact ⟨0, cur, rfl, by simp, by omega, Lib.hid ⟨HG.out, HCS.out, by simp [numsFrom]⟩, Lib.hid (Marked.refl _ _ _)⟩
    case round =>
      obtain ⟨j, c, rfl, rfl, hj, hc, hm⟩ := hrel
      by_cases hg0 : gk = 0
      · subst hg0
        obtain rfl : j = n := by omega
        obtain ⟨c1, c2, c3⟩ := hc.out
        have C1 := Lib.hid c1
        have C2 := Lib.hid c2
        have C3 := Lib.hid c3
        clear c1 c2 c3
        go_wp2_with fail
        go_ret
        refine ⟨rfl, hm.out, ?_⟩
        have hl : (numsFrom k j).length = j := by simp [numsFrom]
        refine ⟨by simp, .inr ⟨g, cap, c, by rw [hl], hlo, C1.out, by rw [hl]; exact hnc, by unfold maxLen; exact hcm, by rw [C2.out, Nat.mul_one], by rw [hl, Nat.mul_one]; exact C3.out⟩⟩
      · have hjn : j < n := by omega
        obtain ⟨c1, c2, c3⟩ := hc.out
        have hx : wr.cell? ⟨g, j, none⟩ = some (c[j]'(by omega)) := by
          rw [cell_of_row wr g j c 3 (0, 0) c1]
          simp [(by omega : j < c.size)]
        have hz : wr.frozen? ⟨g, j, none⟩ = false := frozen_of_row wr g j c 3 c1
        obtain ⟨y, hy⟩ : ∃ y, c[j]'(by omega) = y := ⟨_, rfl⟩
        rw [hy] at hx
        have C1 := Lib.hid c1
        have C2 := Lib.hid c2
        have C3 := Lib.hid c3
        have HJ := Lib.hid hj
        clear c1 c2 c3 hj hy
        go_wp2_with fail
        go_roundg (gk - 1)
        case measure => omega
        case rel =>
          refine ⟨j + 1, c.setIfInBounds j (.int .i64 (k + j)), by go_num, by go_num, by have := HJ.out; omega, Lib.hid ⟨setCell_block C1.out, by simp [C2.out], ?_⟩, Lib.hid (hm.out.set hlo hhi C1.out (.inl rfl))⟩
          have e1 : (c.setIfInBounds j (.int .i64 (k + j))).toList = c.toList.set j (.int .i64 (k + j)) := by simp
          rw [e1, List.take_add_one, List.take_set_of_le (Nat.le_refl _), C3.out]
          simp [numsFrom, List.range_succ, C2.out, (by omega : j < cap)]
theorem numsFrom_getD (k : Int) (n i : Nat) (hi : i < n) : (numsFrom k n).getD i 0 = k + i := by simp [numsFrom, hi]
theorem numsFrom_len (k : Int) (n : Nat) : (numsFrom k n).length = n := by simp [numsFrom]
theorem Marked.widen {lo hi lo' hi' : Nat} {w w' : World} (h : Marked lo hi w w') (h1 : lo' ≤ lo) (h2 : hi ≤ hi') : Marked lo' hi' w w' :=
  ⟨h.os, h.tape, h.output, h.size, fun b hb => h.out b (by omega), h.other, h.ints⟩
theorem OwnInts.other {w w' : World} {lo g : Nat} {v : Value} {l : List Int} (h : OwnInts w lo v l) (hm : Marked g (g + 1) w w') (hne : v.ownBlock ≠ some g) : OwnInts w' lo v l := by
  refine ⟨h.1, ?_⟩
  rcases h.2 with h' | ⟨g', cap, cur, h1, h2, h3, h4⟩
  · exact .inl h'
  · have : g' ≠ g := by intro e; subst e; exact hne (by rw [h1]; rfl)
    exact .inr ⟨g', cap, cur, h1, h2, (hm.out g' (by omega)).trans h3, h4⟩
/-- one row is marked: no other block has turned -/
def Mark1Post (lo hi : Nat) (v : Value) (n : Nat) (k : Int) (w : World) (e : Ending) (w' : World) : Prop :=
  e = .returned (.int .i64 (k + n)) ∧ OwnInts w' lo v (numsFrom k n) ∧ (Marked 0 0 w w' ∨ ∃ g, v.ownBlock = some g ∧ lo ≤ g ∧ g < hi ∧ Marked g (g + 1) w w')
theorem Mark1Post.marked {lo hi : Nat} {v : Value} {n : Nat} {k : Int} {w : World} {e : Ending} {w' : World} (h : Mark1Post lo hi v n k w e w') : Marked lo hi w w' := by
  rcases h.2.2 with hm | ⟨g, _, h1, h2, hm⟩
  · exact ⟨hm.os, hm.tape, hm.output, hm.size, fun b _ => hm.out b (.inr (Nat.zero_le _)), hm.other, hm.ints⟩
  · exact hm.widen h1 (by omega)
theorem mark1_own (lo hi : Nat) (v : Value) (l : List Int) (k : Int) (w : World) (h : OwnInts w lo v l) (hh : w.heap.size ≤ hi) (h0 : 0 ≤ k) (hk : k + l.length ≤ 4611686018427387904) :
    Calls Tryz.prog 58 #[v, .int .i64 k] w (Mark1Post lo hi v l.length k w) := by
  have hlt := World.ownsRow.lt h
  rcases h.2 with ⟨rfl, hn⟩ | ⟨g, cap, cur, rfl, hb, hg, hnc, hcm, hcs, htake⟩
  · refine (markIntS_any 0 0 _ l.length k w (.inl ⟨rfl, hn⟩) h0 hk).mono ?_
    rintro e w' ⟨h1, h2, h3⟩
    refine ⟨h1, ?_, .inl h2⟩
    rw [hn]
    exact World.ownsRow_nil w' lo 3 1
  · have h0' : HasInts w g (g + 1) (.slice (some ⟨g, 0, none⟩) l.length cap) l.length := .inr ⟨g, cap, cur, rfl, Nat.le_refl _, by omega, hg, hnc, hcm, by simpa using hcs⟩
    refine (markIntS_any g (g + 1) _ l.length k w h0' h0 hk).mono ?_
    rintro e w' ⟨h1, h2, h3⟩
    exact ⟨h1, h3.lift hb, .inr ⟨g, rfl, hb, by have := (hlt g rfl).2; omega, h2⟩⟩


/-- n entries, that may be written, in a block from lo to hi. -/
def HasEnts (w : World) (lo hi : Nat) (v : Value) (n : Nat) : Prop :=
  (v = .slice none 0 0 ∧ n = 0) ∨ ∃ g cap cur, v = .slice (some ⟨g, 0, none⟩) n cap ∧ lo ≤ g ∧ g < hi ∧ w.heap[g]? = some (.cells cur 61 (0, 0)) ∧ n ≤ cap ∧ cap ≤ maxLen ∧ cur.size = cap * 3
theorem HasEnts.marked {w w' : World} {lo hi lo' hi' n : Nat} {v : Value} (h : HasEnts w lo hi v n) (hm : Marked lo' hi' w w') : HasEnts w' lo hi v n := by
  rcases h with h | ⟨g, cap, cur, h1, h2, h3, h4, h5, h6, h7⟩
  · exact .inl h
  · obtain ⟨c, e1, e2⟩ := hm.ints _ _ _ _ h4
    exact .inr ⟨g, cap, c, h1, h2, h3, e1, h5, h6, e2.trans h7⟩
theorem HasEnts.below {w w' : World} {lo hi n : Nat} {v : Value} (h : HasEnts w lo hi v n) (hb : Below w.heap.size w w') : HasEnts w' lo hi v n := by
  rcases h with h | ⟨g, cap, cur, h1, h2, h3, h4, h5⟩
  · exact .inl h
  · exact .inr ⟨g, cap, cur, h1, h2, h3, (hb.block g (heap_lt h4)).trans h4, h5⟩
theorem EntNew.has {w : World} {B lo hi : Nat} {v : Value} {l : List Ent} (h : EntNew w B v l) (hl : lo ≤ B) (hh : w.heap.size ≤ hi) : HasEnts w lo hi v l.length := by
  obtain ⟨xs, h1, _⟩ := h
  rcases h1.2 with ⟨rfl, hn⟩ | ⟨g, cap, cur, rfl, hb, hg, hnc, hcm, hcs, htake⟩
  · exact .inl ⟨rfl, hn⟩
  · exact .inr ⟨g, cap, cur, rfl, by omega, by have := heap_lt hg; omega, hg, hnc, hcm, hcs⟩
set_option maxHeartbeats 4000000 in
theorem markEntryS_any (lo hi : Nat) (v : Value) (n : Nat) (k : Int) (w : World) (h : HasEnts w lo hi v n) (h0 : 0 ≤ k) (hk : k + n * 3 ≤ 4611686018427387904) :
    Calls Tryz.prog 59 #[v, .int .i64 k] w fun e w' => e = .returned (.int .i64 (k + n * 3)) ∧ Marked lo hi w w' := by
  rcases h with ⟨rfl, rfl⟩ | ⟨g, cap, cur, rfl, hlo, hhi, hg, hnc, hcm, hcs⟩
  · go_enter Tryz.func59, Tryz.ntmps59
    go_wp2_with fail
    go_loopg [1, 5] 1 (fun g s i wr => i = .int .i64 0 ∧ s = .int .i64 k ∧ wr = w)
    case atStart => exact ⟨rfl, rfl, rfl⟩
    case round =>
      obtain ⟨rfl, rfl, rfl⟩ := hrel
      go_wp2_with fail
      go_ret
      refine ⟨?_, Marked.refl _ _ _⟩
      simp
  · unfold maxLen at hcm
    have HG := Lib.hid hg
    have HCS := Lib.hid hcs
    clear hg hcs
    go_enter Tryz.func59, Tryz.ntmps59
    go_wp2_with fail
    go_loopg [1, 5] n (fun gh s i wr => ∃ (j : Nat) (c : Array Value), i = .int .i64 j ∧ s = .int .i64 (k + j * 3) ∧ j + gh = n ∧ Hid (wr.heap[g]? = some (.cells c 61 (0, 0)) ∧ c.size = cap * 3) ∧ Hid (Marked lo hi w wr))
    case atStart => exact ⟨0, cur, rfl, by simp, by omega, Lib.hid ⟨HG.out, HCS.out⟩, Lib.hid (Marked.refl _ _ _)⟩
    case round =>
      obtain ⟨j, c, rfl, rfl, hj, hc, hm⟩ := hrel
      by_cases hg0 : gk = 0
      · subst hg0
        obtain rfl : j = n := by omega
        have hdn : decide ((j : Int) < (j : Int)) = false := by simp
        go_wp2_with fail
        go_ret
        exact ⟨rfl, hm.out⟩
      · have hjn : j < n := by omega
        have hjI : (j : Int) < (n : Int) := by omega
        have j0 : (0 : Int) ≤ (j : Int) := by omega
        obtain ⟨c1, c2⟩ := hc.out
        have key : ∀ q, q < c.size → ∃ y, wr.cell? ⟨g, q, none⟩ = some y := fun q hq => ⟨c[q], by
          rw [cell_of_row wr g q c 61 (0, 0) c1]
          simp [hq]⟩
        obtain ⟨y0, hx0⟩ := key (j * 3) (by omega)
        obtain ⟨y1, hx1⟩ := key (j * 3 + 1) (by omega)
        obtain ⟨y2, hx2⟩ := key (j * 3 + 2) (by omega)
        have hz0 : wr.frozen? ⟨g, j * 3, none⟩ = false := frozen_of_row wr g (j * 3) c 61 c1
        have hz1 : wr.frozen? ⟨g, j * 3 + 1, none⟩ = false := frozen_of_row wr g (j * 3 + 1) c 61 c1
        have hz2 : wr.frozen? ⟨g, j * 3 + 2, none⟩ = false := frozen_of_row wr g (j * 3 + 2) c 61 c1
        have C1 := Lib.hid c1
        have C2 := Lib.hid c2
        have HJ := Lib.hid hj
        clear c1 c2 hj key
        go_wp2_with fail
        go_roundg (gk - 1)
        case measure => omega
        case rel =>
          refine ⟨j + 1, _, by go_num, by go_num, by have := HJ.out; omega, Lib.hid ⟨setCell_block (setCell_block (setCell_block C1.out)), by simp [C2.out]⟩, Lib.hid ?_⟩
          exact ((hm.out.set hlo hhi C1.out (.inr rfl)).set hlo hhi (setCell_block C1.out) (.inr rfl)).set hlo hhi (setCell_block (setCell_block C1.out)) (.inr rfl)

def TabHas (w : World) (lo hi : Nat) (v : Value) (ll : List (List Ent)) : Prop :=
  ∃ (g : Nat) (vs : List Value), v = .slice (some ⟨g, 0, none⟩) ll.length ll.length ∧ vs.length = ll.length ∧ w.ownsRow g 31 1 v ll.length vs ∧ ∀ i, i < ll.length → HasEnts w lo hi (vs.getD i undef) (ll.getD i []).length
theorem TabHas.below {w w' : World} {lo hi : Nat} {v : Value} {ll : List (List Ent)} (h : TabHas w lo hi v ll) (hb : Below w.heap.size w w') : TabHas w' lo hi v ll := by
  obtain ⟨g, vs, h1, h2, h3, h4⟩ := h
  exact ⟨g, vs, h1, h2, owns_belowR h3 hb, fun i hi => (h4 i hi).below hb⟩
theorem TabNew.has {w : World} {lo hi : Nat} {v : Value} {ll : List (List Ent)} (h : TabNew w lo v ll) (hh : w.heap.size ≤ hi) : TabHas w lo hi v ll := by
  obtain ⟨g, vs, h1, h2, h3, h4, h5⟩ := h
  exact ⟨g, vs, h2, h3, h4, fun i hi => (h5 i hi).has (by omega) hh⟩
theorem owns_marked {w w' : World} {g lo hi n : Nat} {T : TypeId} {v : Value} {vs : List Value} (h : w.ownsRow g T 1 v n vs) (hT : T ≠ 3) (hE : T ≠ 61) (hm : Marked lo hi w w') : w'.ownsRow g T 1 v n vs := by
  refine ⟨h.1, ?_⟩
  rcases h.2 with h' | ⟨g', cap, cur, h1, h2, h3, h4⟩
  · exact .inl h'
  · exact .inr ⟨g', cap, cur, h1, h2, (hm.other _ _ _ _ h3 hT hE).trans h3, h4⟩
def MarksPost (lo hi : Nat) (most : Int) (w : World) (e : Ending) (w' : World) : Prop := ∃ k : Int, e = .returned (.int .i64 k) ∧ 0 ≤ k ∧ k ≤ most ∧ Marked lo hi w w'
set_option maxHeartbeats 2000000 in
theorem markEntrySS_any (lo hi : Nat) (v : Value) (l : List (List Ent)) (k : Int) (w : World) (h : TabHas w lo hi v l) (hs : SmallT l) (h0 : 0 ≤ k) (hk : k ≤ 1152921504706846976) :
    Calls Tryz.prog 29 #[v, .int .i64 k] w (MarksPost lo hi (k + 3298534883328) w) := by
  obtain ⟨g, vs, rfl, hvl, hown, hin⟩ := h
  obtain ⟨hs, hsi⟩ := hs
  obtain ⟨n, hn⟩ : ∃ n, l.length = n := ⟨_, rfl⟩
  rw [hn] at hvl hown hin hs hsi ⊢
  have HN := Lib.hid hn
  have HO := Lib.hid hown
  have HI := Lib.hid hin
  have HV := Lib.hid hvl
  have HSI := Lib.hid hsi
  clear hn hown hin hvl hsi
  go_enter Tryz.func29, Tryz.ntmps29
  go_wp2_with fail
  go_loopg [1, 5] n (fun gh s i wr => ∃ (j : Nat) (r : Int), i = .int .i64 j ∧ s = .int .i64 r ∧ j + gh = n ∧ 0 ≤ r ∧ r ≤ k + j * 3145728 ∧ Hid (Marked lo hi w wr))
  case atStart => exact ⟨0, k, rfl, rfl, by omega, h0, by omega, Lib.hid (Marked.refl _ _ _)⟩
  case round =>
    obtain ⟨j, r, rfl, rfl, hj, r0, r1, hm⟩ := hrel
    by_cases hg0 : gk = 0
    · subst hg0
      obtain rfl : j = n := by omega
      have hdn : decide ((j : Int) < (j : Int)) = false := by simp
      go_wp2_with fail
      go_ret
      exact ⟨r, rfl, r0, by omega, hm.out⟩
    · have hjn : j < n := by omega
      have hown := owns_marked HO.out (by decide) (by decide) hm.out
      have hx : wr.cell? ⟨g, j, none⟩ = some (vs.getD j undef) := by rw [hown.cellAt j (by omega)]; simp [List.getElem?_eq_getElem (by rw [HV.out]; omega : j < vs.length)]
      have hsm := HSI.out j hjn
      unfold SmallE at hsm
      have hcall := markEntryS_any lo hi (vs.getD j undef) (l.getD j []).length r wr ((HI.out j hjn).marked hm.out) r0 (by omega)
      obtain ⟨m, hm'⟩ : ∃ m, (l.getD j []).length = m := ⟨_, rfl⟩
      rw [hm'] at hcall hsm
      obtain ⟨y, hy⟩ : ∃ y, vs.getD j undef = y := ⟨_, rfl⟩
      rw [hy] at hx hcall
      have HC := Lib.hid hcall
      have HJ := Lib.hid hj
      clear hown hy hcall hj hm'
      go_wp2_with (go_at_call 59; refine (HC.out).mono ?_; rintro e w1 ⟨rfl, hm1⟩; have HM1 := Lib.hid hm1; clear hm1)
      go_roundg (gk - 1)
      case measure => omega
      case rel => exact ⟨j + 1, r + m * 3, by go_num, rfl, by have := HJ.out; omega, by omega, by omega, Lib.hid (hm.out.trans HM1.out)⟩
end Go.Proofs.YtnjkifnlimfhnaaGreatDoor
