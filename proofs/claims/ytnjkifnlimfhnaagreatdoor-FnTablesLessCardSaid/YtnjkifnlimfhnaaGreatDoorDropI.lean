/- The program takes an entry out of a table. -/
import Derived.Test.YtnjkifnlimfhnaaGreatDoorLessT
import Derived.Test.YtnjkifnlimfhnaaGreatDoorLessH
namespace Go.Proofs.YtnjkifnlimfhnaaGreatDoor
open Go.RowKit
set_option linter.unusedVariables false
set_option maxRecDepth 100000

/-- where a range stands in a table, or would stand -/
def PlaceAt (l : List Ent) (f b : Int) (i : Nat) : Prop := i ≤ l.length ∧ (∀ j, j < i → ordF (l.getD j (0, 0, 0)) (f, b, 0) < 0) ∧ ∀ j, i ≤ j → j < l.length → 0 ≤ ordF (l.getD j (0, 0, 0)) (f, b, 0)
def foundF (l : List Ent) (f b : Int) (i : Nat) : Bool := decide (i < l.length) && decide (ordF (l.getD i (0, 0, 0)) (f, b, 0) = 0)
theorem rcmp_zero {f b f2 b2 : Int} (h : rcmpF f b f2 b2 = 0) : f = f2 ∧ b = b2 := by
  unfold rcmpF cmpI at h
  split at h <;> split at h <;> (try split at h) <;> (try split at h) <;> omega
theorem ord_zero {e : Ent} {f b : Int} (h : ordF e (f, b, 0) = 0) : e.1 = f ∧ e.2.1 = b := rcmp_zero h
theorem ord_same {e : Ent} {f b : Int} (h : e.1 = f ∧ e.2.1 = b) : ordF e (f, b, 0) = 0 := by
  unfold ordF rcmpF cmpI
  rw [h.1, h.2]
  simp
theorem drop_found {l : List Ent} {f b : Int} {i : Nat} (hr : Rise l) (h : foundF l f b i = true) : i < l.length ∧ dropF l f b = l.take i ++ l.drop (i + 1) := by
  unfold foundF at h
  rw [Bool.and_eq_true, decide_eq_true_eq, decide_eq_true_eq] at h
  obtain ⟨e1, e2⟩ := ord_zero h.2
  refine ⟨h.1, ?_⟩
  rw [← e1, ← e2]
  exact drop_at hr h.1
theorem drop_lost {l : List Ent} {f b : Int} {i : Nat} (hr : Rise l) (hp : PlaceAt l f b i) (h : foundF l f b i = false) : dropF l f b = l := by
  refine drop_none (fun e he h' => ?_)
  obtain ⟨j, hj, rfl⟩ := List.getElem_of_mem he
  have hz := ord_same h'
  have hg : l.getD j (0, 0, 0) = l[j] := by rw [List.getD_eq_getElem?_getD, List.getElem?_eq_getElem hj]; rfl
  rw [← hg] at hz
  have hij : i ≤ j := by
    rcases Nat.lt_or_ge j i with h1 | h1
    · have := hp.2.1 j h1; omega
    · exact h1
  have hil : i < l.length := by omega
  unfold foundF at h
  rw [decide_eq_true hil, Bool.true_and, decide_eq_false_iff_not] at h
  have h0 := hp.2.2 i (Nat.le_refl _) hil
  by_cases hji : i = j
  · subst hji; exact h hz
  · have h1 := hr i j (by omega) hj
    obtain ⟨e1, e2⟩ := ord_zero hz
    have : ordF (l.getD i (0, 0, 0)) (f, b, 0) < 0 := by
      unfold ordF at h1 ⊢
      rw [e1, e2] at h1
      exact h1
    omega
theorem ord_left {a b c : Ent} (h1 : ordF a b < 0) (h2 : 0 ≤ ordF a c) : 0 ≤ ordF b c := by
  rcases Int.lt_or_le (ordF b c) 0 with h | h
  · have := ord_trans h1 h; omega
  · exact h
set_option maxHeartbeats 4000000 in
theorem placeCmp_any (x y z f b : Int) (h1 : rangeOkF x y = true) (h2 : rangeOkF f b = true) (w : World) :
    Calls Tryz.prog 80 #[.agg #[.int .i64 x, .int .i64 y, .int .i64 z], .agg #[.int .i64 f, .int .i64 b]] w fun e w' => e = .returned (.int .i64 (rcmpF x y f b)) ∧ Below w.heap.size w w' := by
  have HC := Lib.hid (fun W => rangeCmp_any x y f b h1 h2 W)
  clear h1 h2
  go_enter Tryz.func80, Tryz.ntmps80
  go_wp2_with fail
  refine (HC.out _).mono ?_
  rintro e w1 ⟨rfl, hb1⟩
  have B1 : Below w.heap.size w w1 := by refine Below.trans ?_ (hb1.mono (by first | exact Nat.le_refl _ | omega | (simp; done) | (simp; omega))); repeat (first | exact Below.refl _ _ | assumption | refine Below.drew ?_ | refine belowDrewN ?_ _ | refine Below.alloc ?_ (by first | exact Nat.le_refl _ | omega | (simp; done) | (simp; omega)) _ | refine Below.setCell ?_ (by first | exact Nat.le_refl _ | omega | (simp; done) | (simp; omega)) _)
  clear hb1
  go_wp2_with fail
  go_ret
  exact ⟨rfl, B1⟩
def SearchPost (l : List Ent) (f b : Int) (w : World) (e : Ending) (w' : World) : Prop := ∃ i : Nat, e = .returned (.tuple #[.int .i64 (i : Int), .bool (foundF l f b i)]) ∧ PlaceAt l f b i ∧ Below w.heap.size w w'
theorem search_no {l : List Ent} {f b : Int} {i : Nat} {w w' : World} (h : foundF l f b i = false) (hp : PlaceAt l f b i) (hb : Below w.heap.size w w') : SearchPost l f b w (.returned (.tuple #[.int .i64 (i : Int), .bool false])) w' := ⟨i, by rw [h], hp, hb⟩
theorem search_at {l : List Ent} {f b : Int} {i : Nat} {w w' : World} {x : Bool} (h : foundF l f b i = x) (hp : PlaceAt l f b i) (hb : Below w.heap.size w w') : SearchPost l f b w (.returned (.tuple #[.int .i64 (i : Int), .bool x])) w' := ⟨i, by rw [h], hp, hb⟩
theorem half_facts (i j : Nat) (h : i < j) (hj : j ≤ 1000) : ∃ m : Nat, i ≤ m ∧ m < j ∧ IntKind.i64.wrap ((i : Int) + (j : Int)) = (i : Int) + (j : Int) ∧ IntKind.u64.wrap ((i : Int) + (j : Int)) = (i : Int) + (j : Int) ∧ ((i : Int) + (j : Int)) / 2 = (m : Int) ∧ IntKind.i64.wrap (m : Int) = (m : Int) ∧ IntKind.u64.wrap (m : Int) = (m : Int) ∧ IntKind.i64.wrap ((m : Int) + 1) = (m : Int) + 1 := by
  refine ⟨(i + j) / 2, by omega, by omega, IntWalk.i64_in _ (by omega), ?_, by omega, IntWalk.i64_in _ (by omega), ?_, IntWalk.i64_in _ (by omega)⟩
  · unfold IntKind.wrap IntKind.bits; simp; omega
  · unfold IntKind.wrap IntKind.bits; simp; omega
set_option maxHeartbeats 8000000 in
theorem search_any (v : Value) (l : List Ent) (f b : Int) (w : World) (h : EntsAt w v l) (hr : Rise l) (hok : ∀ i, i < l.length → rangeOkF (l.getD i (0, 0, 0)).1 (l.getD i (0, 0, 0)).2.1 = true) (hfb : rangeOkF f b = true) (hl : l.length ≤ 1000) :
    Calls Tryz.prog 79 #[v, .agg #[.int .i64 f, .int .i64 b], .func (.func 80) #[] #[]] w (SearchPost l f b w) := by
  obtain ⟨a, cap, rfl, hc, hm⟩ := h.form
  obtain ⟨n, hn⟩ : ∃ n, l.length = n := ⟨_, rfl⟩
  rw [hn] at hc h hl ⊢
  have hsz : (w.alloc (.cells #[.int .i64 f, .int .i64 b] 35)).heap.size = w.heap.size + 1 := World.size_alloc _ _
  have hal : Below w.heap.size w (w.alloc (.cells #[.int .i64 f, .int .i64 b] 35)) := Below.alloc (Below.refl _ _) (Nat.le_refl _) _
  have hcell : ∀ W, Below (w.heap.size + 1) (w.alloc (.cells #[.int .i64 f, .int .i64 b] 35)) W → W.cell? ⟨w.heap.size, 0, none⟩ = some (.int .i64 f) ∧ W.cell? ⟨w.heap.size, 1, none⟩ = some (.int .i64 b) ∧ Below w.heap.size w W ∧ EntsAt W (.slice a n cap) l := fun W hW =>
    ⟨(hW.cell (p := ⟨w.heap.size, 0, none⟩) (by show w.heap.size < w.heap.size + 1; omega)).trans (by simp), (hW.cell (p := ⟨w.heap.size, 1, none⟩) (by show w.heap.size < w.heap.size + 1; omega)).trans (by simp), hal.trans (hW.mono (by omega)), h.below (hal.trans (hW.mono (by omega)))⟩
  have HCE := Lib.hid hcell
  have HN := Lib.hid hn
  have HR := Lib.hid hr
  have hcmp : ∀ i, i < n → ∀ W, Calls Tryz.prog 80 #[.agg #[.int .i64 (l.getD i (0, 0, 0)).1, .int .i64 (l.getD i (0, 0, 0)).2.1, .int .i64 (l.getD i (0, 0, 0)).2.2], .agg #[.int .i64 f, .int .i64 b]] W fun e w' => e = .returned (.int .i64 (ordF (l.getD i (0, 0, 0)) (f, b, 0))) ∧ Below W.heap.size W w' := fun i hi W => placeCmp_any _ _ _ f b (hok i (by rw [hn]; exact hi)) hfb W
  have HCM := Lib.hid hcmp
  have HB0 : Hid (Below (w.heap.size + 1) (w.alloc (.cells #[.int .i64 f, .int .i64 b] 35)) (w.alloc (.cells #[.int .i64 f, .int .i64 b] 35))) := Lib.hid (Below.refl _ _)
  clear h hn hr hok hfb hcell hcmp hal
  go_enter Tryz.func79, Tryz.ntmps79
  go_wp2_with fail
  go_loopg [9, 10] n (fun gk s9 s10 wr => ∃ i j : Nat, s9 = .int .i64 (i : Int) ∧ s10 = .int .i64 (j : Int) ∧ j = i + gk ∧ j ≤ n ∧ Hid (∀ q, q < i → ordF (l.getD q (0, 0, 0)) (f, b, 0) < 0) ∧ Hid (∀ q, j ≤ q → q < n → 0 ≤ ordF (l.getD q (0, 0, 0)) (f, b, 0)) ∧ Hid (Below (w.heap.size + 1) (w.alloc (.cells #[.int .i64 f, .int .i64 b] 35)) wr))
  case atStart => exact ⟨0, n, rfl, rfl, by omega, by omega, Lib.hid (fun q hq => absurd hq (by omega)), Lib.hid (fun q h1 h2 => absurd h2 (by omega)), HB0⟩
  case round =>
    clear HB0
    obtain ⟨i, j, rfl, rfl, hj, hjn, HLO, HHI, BB⟩ := hrel
    obtain ⟨c0, c1, bw, hE⟩ := HCE.out wr BB.out
    have hsr := BB.out.size
    rw [hsz] at hsr
    by_cases hg : gk = 0
    · subst hg
      obtain rfl : j = i := by omega
      have hdn : decide ((j : Int) < (j : Int)) = false := by simp
      by_cases hjl : j < n
      · obtain ⟨eb, eoff, rfl, heb, x0, x1, x2⟩ := hE.get j hjl
        have hd2 : decide ((j : Int) < (n : Int)) = true := decide_eq_true (by omega)
        have hjI : (j : Int) < (n : Int) := by omega
        have j0 : (0 : Int) ≤ (j : Int) := by omega
        have hcm := HCM.out j hjl
        have hfd : foundF l f b j = decide (ordF (l.getD j (0, 0, 0)) (f, b, 0) = 0) := by unfold foundF; rw [HN.out, decide_eq_true hjl, Bool.true_and]
        obtain ⟨c, hcc⟩ : ∃ c, ordF (l.getD j (0, 0, 0)) (f, b, 0) = c := ⟨_, rfl⟩
        obtain ⟨ent, hent⟩ : ∃ e, l.getD j (0, 0, 0) = e := ⟨_, rfl⟩
        rw [hcc] at hcm hfd
        rw [hent] at x0 x1 x2 hcm
        obtain ⟨ex, ey, ez⟩ := ent
        simp only at x0 x1 x2 hcm
        have HC := Lib.hid hcm
        have HFD := Lib.hid hfd
        have hceq : (c == 0) = decide (c = 0) := rfl
        clear hcm hfd hcc hent hE hj
        go_wp2_with fail
        refine wp_region_noPanic ?_
        refine wp_region_held_drew (S := (fun W => W.cell? ⟨eb, eoff + j * 3, none⟩ = some (.int .i64 ex) ∧ W.cell? ⟨eb, eoff + j * 3 + 1, none⟩ = some (.int .i64 ey) ∧ W.cell? ⟨eb, eoff + j * 3 + 2, none⟩ = some (.int .i64 ez) ∧ W.cell? ⟨w.heap.size, 0, none⟩ = some (.int .i64 f) ∧ W.cell? ⟨w.heap.size, 1, none⟩ = some (.int .i64 b))) (by kernel_rfl) (by exact ⟨x0, x1, x2, c0, c1⟩) (fun hHeld => ?_)
        refine wpAnyH_take (i := 0) (v := _) (by (simp only [List.getElem?_toArray, List.getElem?_cons_zero]) <;> rfl) (by kernel_rfl) (by kernel_rfl) (by kernel_rfl) (fun _ _ _ h => h) (Or.inl ⟨by rfl, fun w hSw => by ((try dsimp only at hSw); go_simp) <;> with_reducible rfl⟩) (by assumption) ?_
        (try simp only [Act.put, List.setIfInBounds_toArray, List.set_cons_zero, List.set_cons_succ])
        refine wpAnyH_take (i := 1) (v := _) (by (simp only [List.getElem?_toArray, List.getElem?_cons_succ, List.getElem?_cons_zero]) <;> rfl) (by kernel_rfl) (by kernel_rfl) (by kernel_rfl) (fun _ _ _ h => h) (Or.inl ⟨by rfl, fun w hSw => by ((try dsimp only at hSw); go_simp) <;> with_reducible rfl⟩) (by assumption) ?_
        (try simp only [Act.put, List.setIfInBounds_toArray, List.set_cons_zero, List.set_cons_succ])
        refine wpAnyH_take (i := 2) (v := _) (by (simp only [List.getElem?_toArray, List.getElem?_cons_succ, List.getElem?_cons_zero]) <;> rfl) (by kernel_rfl) (by kernel_rfl) (by kernel_rfl) (fun _ _ _ h => h) (Or.inl ⟨by rfl, fun w hSw => by ((try dsimp only at hSw); go_simp) <;> with_reducible rfl⟩) (by assumption) ?_
        (try simp only [Act.put, List.setIfInBounds_toArray, List.set_cons_zero, List.set_cons_succ])
        refine wpAnyH_take (i := 3) (v := _) (by (simp only [List.getElem?_toArray, List.getElem?_cons_succ, List.getElem?_cons_zero]) <;> rfl) (by kernel_rfl) (by kernel_rfl) (by kernel_rfl) (fun _ _ _ h => h) (Or.inl ⟨by rfl, fun w hSw => by ((try dsimp only at hSw); go_simp) <;> with_reducible rfl⟩) (by assumption) ?_
        (try simp only [Act.put, List.setIfInBounds_toArray, List.set_cons_zero, List.set_cons_succ])
        refine wpAnyH_take (i := 4) (v := _) (by (simp only [List.getElem?_toArray, List.getElem?_cons_succ, List.getElem?_cons_zero]) <;> rfl) (by kernel_rfl) (by kernel_rfl) (by kernel_rfl) (fun _ _ _ h => h) (Or.inl ⟨by rfl, fun w hSw => by ((try dsimp only at hSw); go_simp) <;> with_reducible rfl⟩) (by assumption) ?_
        (try simp only [Act.put, List.setIfInBounds_toArray, List.set_cons_zero, List.set_cons_succ])
        refine wpAnyH_take (i := 5) (v := _) (by (simp only [List.getElem?_toArray, List.getElem?_cons_succ, List.getElem?_cons_zero]) <;> rfl) (by kernel_rfl) (by kernel_rfl) (by kernel_rfl) (fun _ _ _ h => h) (Or.inl ⟨by rfl, fun w hSw => by ((try dsimp only at hSw); go_simp) <;> with_reducible rfl⟩) (by assumption) ?_
        (try simp only [Act.put, List.setIfInBounds_toArray, List.set_cons_zero, List.set_cons_succ])
        refine wpAnyH_take (i := 6) (v := _) (by (simp only [List.getElem?_toArray, List.getElem?_cons_succ, List.getElem?_cons_zero]) <;> rfl) (by kernel_rfl) (by kernel_rfl) (by kernel_rfl) (fun _ _ _ h => h) (Or.inl ⟨by rfl, fun w hSw => by ((try dsimp only at hSw); go_simp) <;> with_reducible rfl⟩) (by assumption) ?_
        (try simp only [Act.put, List.setIfInBounds_toArray, List.set_cons_zero, List.set_cons_succ])
        refine wpAnyH_take (i := 7) (v := _) (by (simp only [List.getElem?_toArray, List.getElem?_cons_succ, List.getElem?_cons_zero]) <;> rfl) (by kernel_rfl) (by kernel_rfl) (by kernel_rfl) (fun _ _ _ h => h) (Or.inl ⟨by rfl, fun w hSw => by ((try dsimp only at hSw); go_simp) <;> with_reducible rfl⟩) (by assumption) ?_
        (try simp only [Act.put, List.setIfInBounds_toArray, List.set_cons_zero, List.set_cons_succ])
        refine wpAnyH_take (i := 8) (v := _) (by (simp only [List.getElem?_toArray, List.getElem?_cons_succ, List.getElem?_cons_zero]) <;> rfl) (by kernel_rfl) (by kernel_rfl) (by kernel_rfl) (fun _ _ _ h => h) (Or.inl ⟨by rfl, fun w hSw => by ((try dsimp only at hSw); go_simp) <;> with_reducible rfl⟩) (by assumption) ?_
        (try simp only [Act.put, List.setIfInBounds_toArray, List.set_cons_zero, List.set_cons_succ])
        refine wpAnyH_take (i := 9) (v := _) (by (simp only [List.getElem?_toArray, List.getElem?_cons_succ, List.getElem?_cons_zero]) <;> rfl) (by kernel_rfl) (by kernel_rfl) (by kernel_rfl) (fun _ _ _ h => h) (Or.inl ⟨by rfl, fun w hSw => by ((try dsimp only at hSw); go_simp) <;> with_reducible rfl⟩) (by assumption) ?_
        (try simp only [Act.put, List.setIfInBounds_toArray, List.set_cons_zero, List.set_cons_succ])
        refine wpAnyH_take (i := 10) (v := _) (by (simp only [List.getElem?_toArray, List.getElem?_cons_succ, List.getElem?_cons_zero]) <;> rfl) (by kernel_rfl) (by kernel_rfl) (by kernel_rfl) (fun _ _ _ h => h) (Or.inl ⟨by rfl, fun w hSw => by ((try dsimp only at hSw); go_simp) <;> with_reducible rfl⟩) (by assumption) ?_
        (try simp only [Act.put, List.setIfInBounds_toArray, List.set_cons_zero, List.set_cons_succ])
        refine wpAnyH_ready (rs := [11]) (by kernel_rfl) (by simp) ?_
        refine AllReadyH.cons (by (simp only [List.getElem?_toArray, List.getElem?_cons_succ, List.getElem?_cons_zero]) <;> rfl) (fun K hK => ?_) AllReadyH.nil
        go_simp
        (go_at_call 80; refine (HC.out _).mono ?_; rintro e w3 ⟨rfl, hb3⟩; have hb4 : Below wr.heap.size wr w3 := (Below.drew (Below.refl _ _)).trans hb3; have B3 : Hid (Below w.heap.size w w3) := Lib.hid (bw.trans (hb4.mono bw.size)); have z0 := (hb4.cell (p := ⟨eb, eoff + j * 3, none⟩) heb).trans x0; have z1 := (hb4.cell (p := ⟨eb, eoff + j * 3 + 1, none⟩) heb).trans x1; have z2 := (hb4.cell (p := ⟨eb, eoff + j * 3 + 2, none⟩) heb).trans x2; have d0 := (hb4.cell (p := ⟨w.heap.size, 0, none⟩) (by show w.heap.size < wr.heap.size; omega)).trans c0; have d1 := (hb4.cell (p := ⟨w.heap.size, 1, none⟩) (by show w.heap.size < wr.heap.size; omega)).trans c1; clear hb3 hb4)
        refine hK.out _ _ (by exact ⟨z0, z1, z2, d0, d1⟩) (fun hHeld => ?_)
        (try simp only [Act.put, List.setIfInBounds_toArray, List.set_cons_zero, List.set_cons_succ])
        refine wpAnyH_take (i := 12) (v := _) (by (simp only [List.getElem?_toArray, List.getElem?_cons_succ, List.getElem?_cons_zero]) <;> rfl) (by kernel_rfl) (by kernel_rfl) (by kernel_rfl) (fun _ _ _ h => h) (Or.inl ⟨by rfl, fun w hSw => by ((try dsimp only at hSw); go_simp) <;> with_reducible rfl⟩) (by assumption) ?_
        (try simp only [Act.put, List.setIfInBounds_toArray, List.set_cons_zero, List.set_cons_succ])
        refine wpAnyH_take (i := 13) (v := _) (by (simp only [List.getElem?_toArray, List.getElem?_cons_succ, List.getElem?_cons_zero]) <;> rfl) (by kernel_rfl) (by kernel_rfl) (by kernel_rfl) (fun _ _ _ h => h) (Or.inl ⟨by rfl, fun w hSw => by ((try dsimp only at hSw); go_simp) <;> with_reducible rfl⟩) (by assumption) ?_
        (try simp only [Act.put, List.setIfInBounds_toArray, List.set_cons_zero, List.set_cons_succ])
        refine wpAnyH_take (i := 14) (v := _) (by (simp only [List.getElem?_toArray, List.getElem?_cons_succ, List.getElem?_cons_zero]) <;> rfl) (by kernel_rfl) (by kernel_rfl) (by kernel_rfl) (fun _ _ _ h => h) (Or.inl ⟨by rfl, fun w hSw => by ((try dsimp only at hSw); go_simp) <;> with_reducible rfl⟩) (by assumption) ?_
        (try simp only [Act.put, List.setIfInBounds_toArray, List.set_cons_zero, List.set_cons_succ])
        refine wpAnyH_take (i := 15) (v := _) (by (simp only [List.getElem?_toArray, List.getElem?_cons_succ, List.getElem?_cons_zero]) <;> rfl) (by kernel_rfl) (by kernel_rfl) (by kernel_rfl) (fun _ _ _ h => h) (Or.inl ⟨by rfl, fun w hSw => by ((try dsimp only at hSw); go_simp) <;> with_reducible rfl⟩) (by assumption) ?_
        (try simp only [Act.put, List.setIfInBounds_toArray, List.set_cons_zero, List.set_cons_succ])
        refine wpAnyH_done (by kernel_rfl) ?_ _
        refine NoPanic.normal ?_
        go_wp2_with fail
        refine bodyPost_ret (results_tmp2 rfl _ _ _) rfl ?_
        exact search_at (by rw [HFD.out]) ⟨by rw [HN.out]; omega, HLO.out, by rw [HN.out]; exact HHI.out⟩ B3.out
      · have hd2 : decide ((j : Int) < (n : Int)) = false := decide_eq_false (by omega)
        have hfd : foundF l f b j = false := by unfold foundF; rw [HN.out, decide_eq_false hjl, Bool.false_and]
        have HFD := Lib.hid hfd
        clear hfd hE hj
        go_wp2_with fail
        refine wp_region_noPanic ?_
        refine wp_region_held_drew (S := (fun W => W.cell? ⟨w.heap.size, 0, none⟩ = some (.int .i64 f))) (by kernel_rfl) (by exact c0) (fun hHeld => ?_)
        refine wpAnyH_take (i := 0) (v := _) (by (simp only [List.getElem?_toArray, List.getElem?_cons_zero]) <;> rfl) (by kernel_rfl) (by kernel_rfl) (by kernel_rfl) (fun _ _ _ h => h) (Or.inl ⟨by rfl, fun w hSw => by ((try dsimp only at hSw); go_simp) <;> with_reducible rfl⟩) (by assumption) ?_
        (try simp only [Act.put, List.setIfInBounds_toArray, List.set_cons_zero, List.set_cons_succ])
        refine wpAnyH_take (i := 1) (v := _) (by (simp only [List.getElem?_toArray, List.getElem?_cons_succ, List.getElem?_cons_zero]) <;> rfl) (by kernel_rfl) (by kernel_rfl) (by kernel_rfl) (fun _ _ _ h => h) (Or.inl ⟨by rfl, fun w hSw => by ((try dsimp only at hSw); go_simp) <;> with_reducible rfl⟩) (by assumption) ?_
        (try simp only [Act.put, List.setIfInBounds_toArray, List.set_cons_zero, List.set_cons_succ])
        refine wpAnyH_take (i := 2) (v := _) (by (simp only [List.getElem?_toArray, List.getElem?_cons_succ, List.getElem?_cons_zero]) <;> rfl) (by kernel_rfl) (by kernel_rfl) (by kernel_rfl) (fun _ _ _ h => h) (Or.inl ⟨by rfl, fun w hSw => by ((try dsimp only at hSw); go_simp) <;> with_reducible rfl⟩) (by assumption) ?_
        (try simp only [Act.put, List.setIfInBounds_toArray, List.set_cons_zero, List.set_cons_succ])
        refine wpAnyH_take (i := 3) (v := _) (by (simp only [List.getElem?_toArray, List.getElem?_cons_succ, List.getElem?_cons_zero]) <;> rfl) (by kernel_rfl) (by kernel_rfl) (by kernel_rfl) (fun _ _ _ h => h) (Or.inl ⟨by rfl, fun w hSw => by ((try dsimp only at hSw); go_simp) <;> with_reducible rfl⟩) (by assumption) ?_
        (try simp only [Act.put, List.setIfInBounds_toArray, List.set_cons_zero, List.set_cons_succ])
        refine wpAnyH_take (i := 4) (v := _) (by (simp only [List.getElem?_toArray, List.getElem?_cons_succ, List.getElem?_cons_zero]) <;> rfl) (by kernel_rfl) (by kernel_rfl) (by kernel_rfl) (fun _ _ _ h => h) (Or.inl ⟨by rfl, fun w hSw => by ((try dsimp only at hSw); go_simp) <;> with_reducible rfl⟩) (by assumption) ?_
        (try simp only [Act.put, List.setIfInBounds_toArray, List.set_cons_zero, List.set_cons_succ])
        refine wpAnyH_take (i := 5) (v := _) (by (simp only [List.getElem?_toArray, List.getElem?_cons_succ, List.getElem?_cons_zero]) <;> rfl) (by kernel_rfl) (by kernel_rfl) (by kernel_rfl) (fun _ _ _ h => h) (Or.inr ⟨by rfl, rfl⟩) (by assumption) ?_
        (try simp only [Act.put, List.setIfInBounds_toArray, List.set_cons_zero, List.set_cons_succ])
        refine wpAnyH_take (i := 6) (v := _) (by (simp only [List.getElem?_toArray, List.getElem?_cons_succ, List.getElem?_cons_zero]) <;> rfl) (by kernel_rfl) (by kernel_rfl) (by kernel_rfl) (fun _ _ _ h => h) (Or.inr ⟨by rfl, rfl⟩) (by assumption) ?_
        (try simp only [Act.put, List.setIfInBounds_toArray, List.set_cons_zero, List.set_cons_succ])
        refine wpAnyH_take (i := 7) (v := _) (by (simp only [List.getElem?_toArray, List.getElem?_cons_succ, List.getElem?_cons_zero]) <;> rfl) (by kernel_rfl) (by kernel_rfl) (by kernel_rfl) (fun _ _ _ h => h) (Or.inr ⟨by rfl, rfl⟩) (by assumption) ?_
        (try simp only [Act.put, List.setIfInBounds_toArray, List.set_cons_zero, List.set_cons_succ])
        refine wpAnyH_take (i := 8) (v := _) (by (simp only [List.getElem?_toArray, List.getElem?_cons_succ, List.getElem?_cons_zero]) <;> rfl) (by kernel_rfl) (by kernel_rfl) (by kernel_rfl) (fun _ _ _ h => h) (Or.inr ⟨by rfl, rfl⟩) (by assumption) ?_
        (try simp only [Act.put, List.setIfInBounds_toArray, List.set_cons_zero, List.set_cons_succ])
        refine wpAnyH_take (i := 9) (v := _) (by (simp only [List.getElem?_toArray, List.getElem?_cons_succ, List.getElem?_cons_zero]) <;> rfl) (by kernel_rfl) (by kernel_rfl) (by kernel_rfl) (fun _ _ _ h => h) (Or.inr ⟨by rfl, rfl⟩) (by assumption) ?_
        (try simp only [Act.put, List.setIfInBounds_toArray, List.set_cons_zero, List.set_cons_succ])
        refine wpAnyH_take (i := 10) (v := _) (by (simp only [List.getElem?_toArray, List.getElem?_cons_succ, List.getElem?_cons_zero]) <;> rfl) (by kernel_rfl) (by kernel_rfl) (by kernel_rfl) (fun _ _ _ h => h) (Or.inr ⟨by rfl, rfl⟩) (by assumption) ?_
        (try simp only [Act.put, List.setIfInBounds_toArray, List.set_cons_zero, List.set_cons_succ])
        refine wpAnyH_take (i := 11) (v := _) (by (simp only [List.getElem?_toArray, List.getElem?_cons_succ, List.getElem?_cons_zero]) <;> rfl) (by kernel_rfl) (by kernel_rfl) (by kernel_rfl) (fun _ _ _ h => h) (Or.inr ⟨by rfl, rfl⟩) (by assumption) ?_
        (try simp only [Act.put, List.setIfInBounds_toArray, List.set_cons_zero, List.set_cons_succ])
        refine wpAnyH_take (i := 12) (v := _) (by (simp only [List.getElem?_toArray, List.getElem?_cons_succ, List.getElem?_cons_zero]) <;> rfl) (by kernel_rfl) (by kernel_rfl) (by kernel_rfl) (fun _ _ _ h => h) (Or.inr ⟨by rfl, rfl⟩) (by assumption) ?_
        (try simp only [Act.put, List.setIfInBounds_toArray, List.set_cons_zero, List.set_cons_succ])
        refine wpAnyH_take (i := 13) (v := _) (by (simp only [List.getElem?_toArray, List.getElem?_cons_succ, List.getElem?_cons_zero]) <;> rfl) (by kernel_rfl) (by kernel_rfl) (by kernel_rfl) (fun _ _ _ h => h) (Or.inl ⟨by rfl, fun w hSw => by ((try dsimp only at hSw); go_simp) <;> with_reducible rfl⟩) (by assumption) ?_
        (try simp only [Act.put, List.setIfInBounds_toArray, List.set_cons_zero, List.set_cons_succ])
        refine wpAnyH_take (i := 14) (v := _) (by (simp only [List.getElem?_toArray, List.getElem?_cons_succ, List.getElem?_cons_zero]) <;> rfl) (by kernel_rfl) (by kernel_rfl) (by kernel_rfl) (fun _ _ _ h => h) (Or.inl ⟨by rfl, fun w hSw => by ((try dsimp only at hSw); go_simp) <;> with_reducible rfl⟩) (by assumption) ?_
        (try simp only [Act.put, List.setIfInBounds_toArray, List.set_cons_zero, List.set_cons_succ])
        refine wpAnyH_take (i := 15) (v := _) (by (simp only [List.getElem?_toArray, List.getElem?_cons_succ, List.getElem?_cons_zero]) <;> rfl) (by kernel_rfl) (by kernel_rfl) (by kernel_rfl) (fun _ _ _ h => h) (Or.inl ⟨by rfl, fun w hSw => by ((try dsimp only at hSw); go_simp) <;> with_reducible rfl⟩) (by assumption) ?_
        (try simp only [Act.put, List.setIfInBounds_toArray, List.set_cons_zero, List.set_cons_succ])
        refine wpAnyH_done (by kernel_rfl) ?_ _
        refine NoPanic.normal ?_
        go_wp2_with fail
        refine bodyPost_ret (results_tmp2 rfl _ _ _) rfl ?_
        exact search_no HFD.out ⟨by rw [HN.out]; omega, HLO.out, by rw [HN.out]; exact HHI.out⟩ (Below.drew bw)
    · have hij : i < j := by omega
      obtain ⟨m, m1, m2, q1, q2, q3, q4, q5, q6⟩ := half_facts i j hij (by omega)
      have hmn : m < n := by omega
      have hdd : decide ((i : Int) < (j : Int)) = true := decide_eq_true (by omega)
      have hmI : (m : Int) < (n : Int) := by omega
      have m0 : (0 : Int) ≤ (m : Int) := by omega
      obtain ⟨eb, eoff, rfl, heb, x0, x1, x2⟩ := hE.get m hmn
      have hcm := HCM.out m hmn
      have hup : ∀ q, m < q → q < n → ordF (l.getD m (0, 0, 0)) (l.getD q (0, 0, 0)) < 0 := fun q h1 h2 => HR.out m q h1 (by rw [HN.out]; exact h2)
      have hdo : ∀ q, q < m → ordF (l.getD q (0, 0, 0)) (l.getD m (0, 0, 0)) < 0 := fun q h1 => HR.out q m h1 (by rw [HN.out]; exact hmn)
      obtain ⟨c, hcc⟩ : ∃ c, ordF (l.getD m (0, 0, 0)) (f, b, 0) = c := ⟨_, rfl⟩
      have HLO2 : c < 0 → ∀ q, q < m + 1 → ordF (l.getD q (0, 0, 0)) (f, b, 0) < 0 := fun hlt q hq => by
        by_cases hqm : q = m
        · subst hqm; rw [hcc]; exact hlt
        · exact ord_trans (hdo q (by omega)) (by rw [hcc]; exact hlt)
      have HHI2 : ¬ c < 0 → ∀ q, m ≤ q → q < n → 0 ≤ ordF (l.getD q (0, 0, 0)) (f, b, 0) := fun hlt q h1 h2 => by
        by_cases hqm : q = m
        · subst hqm; rw [hcc]; omega
        · exact ord_left (hup q (by omega) h2) (by rw [hcc]; omega)
      have KLO := Lib.hid HLO2
      have KHI := Lib.hid HHI2
      obtain ⟨ent, hent⟩ : ∃ e, l.getD m (0, 0, 0) = e := ⟨_, rfl⟩
      rw [hcc] at hcm
      rw [hent] at x0 x1 x2 hcm
      obtain ⟨ex, ey, ez⟩ := ent
      simp only at x0 x1 x2 hcm
      have HC := Lib.hid hcm
      have HJ := Lib.hid hj
      clear hcm hcc hent hE hj hg HLO2 HHI2 hup hdo
      by_cases hlt : c < 0
      · have hld : decide (c < 0) = true := decide_eq_true hlt
        have HLT := Lib.hid hlt
        clear hlt
        go_wp2_with fail
        refine wp_region_noPanic ?_
        refine wp_region_held_drew (S := (fun W => W.cell? ⟨eb, eoff + m * 3, none⟩ = some (.int .i64 ex) ∧ W.cell? ⟨eb, eoff + m * 3 + 1, none⟩ = some (.int .i64 ey) ∧ W.cell? ⟨eb, eoff + m * 3 + 2, none⟩ = some (.int .i64 ez) ∧ W.cell? ⟨w.heap.size, 0, none⟩ = some (.int .i64 f) ∧ W.cell? ⟨w.heap.size, 1, none⟩ = some (.int .i64 b))) (by kernel_rfl) (by exact ⟨x0, x1, x2, c0, c1⟩) (fun hHeld => ?_)
        refine wpAnyH_take (i := 0) (v := _) (by (simp only [List.getElem?_toArray, List.getElem?_cons_zero]) <;> rfl) (by kernel_rfl) (by kernel_rfl) (by kernel_rfl) (fun _ _ _ h => h) (Or.inl ⟨by rfl, fun w hSw => by ((try dsimp only at hSw); go_simp) <;> with_reducible rfl⟩) (by assumption) ?_
        (try simp only [Act.put, List.setIfInBounds_toArray, List.set_cons_zero, List.set_cons_succ])
        refine wpAnyH_take (i := 1) (v := _) (by (simp only [List.getElem?_toArray, List.getElem?_cons_succ, List.getElem?_cons_zero]) <;> rfl) (by kernel_rfl) (by kernel_rfl) (by kernel_rfl) (fun _ _ _ h => h) (Or.inl ⟨by rfl, fun w hSw => by ((try dsimp only at hSw); go_simp) <;> with_reducible rfl⟩) (by assumption) ?_
        (try simp only [Act.put, List.setIfInBounds_toArray, List.set_cons_zero, List.set_cons_succ])
        refine wpAnyH_take (i := 2) (v := _) (by (simp only [List.getElem?_toArray, List.getElem?_cons_succ, List.getElem?_cons_zero]) <;> rfl) (by kernel_rfl) (by kernel_rfl) (by kernel_rfl) (fun _ _ _ h => h) (Or.inl ⟨by rfl, fun w hSw => by ((try dsimp only at hSw); go_simp) <;> with_reducible rfl⟩) (by assumption) ?_
        (try simp only [Act.put, List.setIfInBounds_toArray, List.set_cons_zero, List.set_cons_succ])
        refine wpAnyH_take (i := 3) (v := _) (by (simp only [List.getElem?_toArray, List.getElem?_cons_succ, List.getElem?_cons_zero]) <;> rfl) (by kernel_rfl) (by kernel_rfl) (by kernel_rfl) (fun _ _ _ h => h) (Or.inl ⟨by rfl, fun w hSw => by ((try dsimp only at hSw); go_simp) <;> with_reducible rfl⟩) (by assumption) ?_
        (try simp only [Act.put, List.setIfInBounds_toArray, List.set_cons_zero, List.set_cons_succ])
        refine wpAnyH_take (i := 4) (v := _) (by (simp only [List.getElem?_toArray, List.getElem?_cons_succ, List.getElem?_cons_zero]) <;> rfl) (by kernel_rfl) (by kernel_rfl) (by kernel_rfl) (fun _ _ _ h => h) (Or.inl ⟨by rfl, fun w hSw => by ((try dsimp only at hSw); go_simp) <;> with_reducible rfl⟩) (by assumption) ?_
        (try simp only [Act.put, List.setIfInBounds_toArray, List.set_cons_zero, List.set_cons_succ])
        refine wpAnyH_take (i := 5) (v := _) (by (simp only [List.getElem?_toArray, List.getElem?_cons_succ, List.getElem?_cons_zero]) <;> rfl) (by kernel_rfl) (by kernel_rfl) (by kernel_rfl) (fun _ _ _ h => h) (Or.inl ⟨by rfl, fun w hSw => by ((try dsimp only at hSw); go_simp) <;> with_reducible rfl⟩) (by assumption) ?_
        (try simp only [Act.put, List.setIfInBounds_toArray, List.set_cons_zero, List.set_cons_succ])
        refine wpAnyH_ready (rs := [6]) (by kernel_rfl) (by simp) ?_
        refine AllReadyH.cons (by (simp only [List.getElem?_toArray, List.getElem?_cons_succ, List.getElem?_cons_zero]) <;> rfl) (fun K hK => ?_) AllReadyH.nil
        go_simp
        (go_at_call 80; refine (HC.out _).mono ?_; rintro e w3 ⟨rfl, hb3⟩; have hb4 : Below wr.heap.size wr w3 := (Below.drew (Below.refl _ _)).trans hb3; have B3 := Lib.hid (BB.out.trans (hb4.mono hsr)); have z0 := (hb4.cell (p := ⟨eb, eoff + m * 3, none⟩) heb).trans x0; have z1 := (hb4.cell (p := ⟨eb, eoff + m * 3 + 1, none⟩) heb).trans x1; have z2 := (hb4.cell (p := ⟨eb, eoff + m * 3 + 2, none⟩) heb).trans x2; have d0 := (hb4.cell (p := ⟨w.heap.size, 0, none⟩) (by show w.heap.size < wr.heap.size; omega)).trans c0; have d1 := (hb4.cell (p := ⟨w.heap.size, 1, none⟩) (by show w.heap.size < wr.heap.size; omega)).trans c1; clear hb3 hb4)
        refine hK.out _ _ (by exact ⟨z0, z1, z2, d0, d1⟩) (fun hHeld => ?_)
        (try simp only [Act.put, List.setIfInBounds_toArray, List.set_cons_zero, List.set_cons_succ])
        refine wpAnyH_take (i := 7) (v := _) (by (simp only [List.getElem?_toArray, List.getElem?_cons_succ, List.getElem?_cons_zero]) <;> rfl) (by kernel_rfl) (by kernel_rfl) (by kernel_rfl) (fun _ _ _ h => h) (Or.inl ⟨by rfl, fun w hSw => by ((try dsimp only at hSw); go_simp) <;> with_reducible rfl⟩) (by assumption) ?_
        (try simp only [Act.put, List.setIfInBounds_toArray, List.set_cons_zero, List.set_cons_succ])
        refine wpAnyH_done (by kernel_rfl) ?_ _
        refine NoPanic.normal ?_
        go_wp2_with fail
        go_roundg (j - (m + 1))
        case measure => have := HJ.out; omega
        case rel => exact ⟨m + 1, j, by go_num, rfl, by omega, by omega, Lib.hid (KLO.out HLT.out), HHI, B3⟩
      · have hld : decide (c < 0) = false := decide_eq_false hlt
        have HLT := Lib.hid hlt
        clear hlt
        go_wp2_with fail
        refine wp_region_noPanic ?_
        refine wp_region_held_drew (S := (fun W => W.cell? ⟨eb, eoff + m * 3, none⟩ = some (.int .i64 ex) ∧ W.cell? ⟨eb, eoff + m * 3 + 1, none⟩ = some (.int .i64 ey) ∧ W.cell? ⟨eb, eoff + m * 3 + 2, none⟩ = some (.int .i64 ez) ∧ W.cell? ⟨w.heap.size, 0, none⟩ = some (.int .i64 f) ∧ W.cell? ⟨w.heap.size, 1, none⟩ = some (.int .i64 b))) (by kernel_rfl) (by exact ⟨x0, x1, x2, c0, c1⟩) (fun hHeld => ?_)
        refine wpAnyH_take (i := 0) (v := _) (by (simp only [List.getElem?_toArray, List.getElem?_cons_zero]) <;> rfl) (by kernel_rfl) (by kernel_rfl) (by kernel_rfl) (fun _ _ _ h => h) (Or.inl ⟨by rfl, fun w hSw => by ((try dsimp only at hSw); go_simp) <;> with_reducible rfl⟩) (by assumption) ?_
        (try simp only [Act.put, List.setIfInBounds_toArray, List.set_cons_zero, List.set_cons_succ])
        refine wpAnyH_take (i := 1) (v := _) (by (simp only [List.getElem?_toArray, List.getElem?_cons_succ, List.getElem?_cons_zero]) <;> rfl) (by kernel_rfl) (by kernel_rfl) (by kernel_rfl) (fun _ _ _ h => h) (Or.inl ⟨by rfl, fun w hSw => by ((try dsimp only at hSw); go_simp) <;> with_reducible rfl⟩) (by assumption) ?_
        (try simp only [Act.put, List.setIfInBounds_toArray, List.set_cons_zero, List.set_cons_succ])
        refine wpAnyH_take (i := 2) (v := _) (by (simp only [List.getElem?_toArray, List.getElem?_cons_succ, List.getElem?_cons_zero]) <;> rfl) (by kernel_rfl) (by kernel_rfl) (by kernel_rfl) (fun _ _ _ h => h) (Or.inl ⟨by rfl, fun w hSw => by ((try dsimp only at hSw); go_simp) <;> with_reducible rfl⟩) (by assumption) ?_
        (try simp only [Act.put, List.setIfInBounds_toArray, List.set_cons_zero, List.set_cons_succ])
        refine wpAnyH_take (i := 3) (v := _) (by (simp only [List.getElem?_toArray, List.getElem?_cons_succ, List.getElem?_cons_zero]) <;> rfl) (by kernel_rfl) (by kernel_rfl) (by kernel_rfl) (fun _ _ _ h => h) (Or.inl ⟨by rfl, fun w hSw => by ((try dsimp only at hSw); go_simp) <;> with_reducible rfl⟩) (by assumption) ?_
        (try simp only [Act.put, List.setIfInBounds_toArray, List.set_cons_zero, List.set_cons_succ])
        refine wpAnyH_take (i := 4) (v := _) (by (simp only [List.getElem?_toArray, List.getElem?_cons_succ, List.getElem?_cons_zero]) <;> rfl) (by kernel_rfl) (by kernel_rfl) (by kernel_rfl) (fun _ _ _ h => h) (Or.inl ⟨by rfl, fun w hSw => by ((try dsimp only at hSw); go_simp) <;> with_reducible rfl⟩) (by assumption) ?_
        (try simp only [Act.put, List.setIfInBounds_toArray, List.set_cons_zero, List.set_cons_succ])
        refine wpAnyH_take (i := 5) (v := _) (by (simp only [List.getElem?_toArray, List.getElem?_cons_succ, List.getElem?_cons_zero]) <;> rfl) (by kernel_rfl) (by kernel_rfl) (by kernel_rfl) (fun _ _ _ h => h) (Or.inl ⟨by rfl, fun w hSw => by ((try dsimp only at hSw); go_simp) <;> with_reducible rfl⟩) (by assumption) ?_
        (try simp only [Act.put, List.setIfInBounds_toArray, List.set_cons_zero, List.set_cons_succ])
        refine wpAnyH_ready (rs := [6]) (by kernel_rfl) (by simp) ?_
        refine AllReadyH.cons (by (simp only [List.getElem?_toArray, List.getElem?_cons_succ, List.getElem?_cons_zero]) <;> rfl) (fun K hK => ?_) AllReadyH.nil
        go_simp
        (go_at_call 80; refine (HC.out _).mono ?_; rintro e w3 ⟨rfl, hb3⟩; have hb4 : Below wr.heap.size wr w3 := (Below.drew (Below.refl _ _)).trans hb3; have B3 := Lib.hid (BB.out.trans (hb4.mono hsr)); have z0 := (hb4.cell (p := ⟨eb, eoff + m * 3, none⟩) heb).trans x0; have z1 := (hb4.cell (p := ⟨eb, eoff + m * 3 + 1, none⟩) heb).trans x1; have z2 := (hb4.cell (p := ⟨eb, eoff + m * 3 + 2, none⟩) heb).trans x2; have d0 := (hb4.cell (p := ⟨w.heap.size, 0, none⟩) (by show w.heap.size < wr.heap.size; omega)).trans c0; have d1 := (hb4.cell (p := ⟨w.heap.size, 1, none⟩) (by show w.heap.size < wr.heap.size; omega)).trans c1; clear hb3 hb4)
        refine hK.out _ _ (by exact ⟨z0, z1, z2, d0, d1⟩) (fun hHeld => ?_)
        (try simp only [Act.put, List.setIfInBounds_toArray, List.set_cons_zero, List.set_cons_succ])
        refine wpAnyH_take (i := 7) (v := _) (by (simp only [List.getElem?_toArray, List.getElem?_cons_succ, List.getElem?_cons_zero]) <;> rfl) (by kernel_rfl) (by kernel_rfl) (by kernel_rfl) (fun _ _ _ h => h) (Or.inl ⟨by rfl, fun w hSw => by ((try dsimp only at hSw); go_simp) <;> with_reducible rfl⟩) (by assumption) ?_
        (try simp only [Act.put, List.setIfInBounds_toArray, List.set_cons_zero, List.set_cons_succ])
        refine wpAnyH_done (by kernel_rfl) ?_ _
        refine NoPanic.normal ?_
        go_wp2_with fail
        go_roundg (m - i)
        case measure => have := HJ.out; omega
        case rel => exact ⟨i, m, rfl, rfl, by omega, by omega, HLO, Lib.hid (KHI.out HLT.out), B3⟩
set_option maxHeartbeats 4000000 in
theorem placeOf_any (v : Value) (l : List Ent) (f b : Int) (w : World) (h : EntsAt w v l) (hr : Rise l) (hok : ∀ i, i < l.length → rangeOkF (l.getD i (0, 0, 0)).1 (l.getD i (0, 0, 0)).2.1 = true) (hfb : rangeOkF f b = true) (hl : l.length ≤ 1000) :
    Calls Tryz.prog 45 #[v, .agg #[.int .i64 f, .int .i64 b]] w (SearchPost l f b w) := by
  have hs := Lib.hid (fun W (hW : Below w.heap.size w W) => search_any v l f b W (h.below hW) hr hok hfb hl)
  obtain ⟨a, cap, rfl, _, _⟩ := h.form
  clear h hr hok hfb hl
  have HS := Lib.hid (hs.out _ (Below.alloc (Below.refl _ _) (Nat.le_refl _) (.cells #[.int .i64 f, .int .i64 b] 35)))
  have hal : Hid (Below w.heap.size w (w.alloc (.cells #[.int .i64 f, .int .i64 b] 35))) := Lib.hid (Below.alloc (Below.refl _ _) (Nat.le_refl _) _)
  clear hs
  go_enter Tryz.func45, Tryz.ntmps45
  go_wp2_with fail
  refine HS.out.mono ?_
  rintro e w1 ⟨i, rfl, hp, hb1⟩
  have HP := Lib.hid hp
  have B1 := Lib.hid (hal.out.trans (hb1.mono hal.out.size))
  obtain ⟨x, hx⟩ : ∃ x, foundF l f b i = x := ⟨_, rfl⟩
  rw [hx]
  have HX := Lib.hid hx
  clear hp hb1 hx
  go_wp2_with fail
  refine bodyPost_ret (results_tmp2 rfl _ _ _) rfl ?_
  exact search_at HX.out HP.out B1.out
def DropPost (l : List Ent) (f b : Int) (w : World) (e : Ending) (w' : World) : Prop := ∃ (v' : Value) (fd : Bool), e = .returned (.tuple #[v', .bool fd]) ∧ EntNew w' w.heap.size v' (dropF l f b) ∧ Below w.heap.size w w'
theorem drop_ret {l l' : List Ent} {f b : Int} {w w' : World} {v : Value} {fd : Bool} (h : dropF l f b = l') (he : EntNew w' w.heap.size v l') (hb : Below w.heap.size w w') : DropPost l f b w (.returned (.tuple #[v, .bool fd])) w' := ⟨v, fd, rfl, by rw [h]; exact he, hb⟩
set_option maxHeartbeats 8000000 in
theorem tableDrop_any (v : Value) (l : List Ent) (f b : Int) (w : World) (h : EntsAt w v l) (hok : tableOkF l = true) (hfb : rangeOkF f b = true) :
    Calls Tryz.prog 13 #[v, .agg #[.int .i64 f, .int .i64 b]] w (DropPost l f b w) := by
  have hall := tableOk_all hok
  have hrise : Rise l := rise_of fun i hi h0 => (hall.2 i hi).2 h0
  have hrok : ∀ i, i < l.length → rangeOkF (l.getD i (0, 0, 0)).1 (l.getD i (0, 0, 0)).2.1 = true := fun i hi => entOk_range (hall.2 i hi).1
  have htk := fun W (hW : Below w.heap.size w W) => implTableOk_any v l W (h.below hW)
  rw [hok] at htk
  have hrk := fun W => rangeOk_any f b W
  rw [hfb] at hrk
  have hpl := fun W (hW : Below w.heap.size w W) => placeOf_any v l f b W (h.below hW) hrise hrok hfb (by omega)
  have hcl := fun W (hW : Below w.heap.size w W) => slCloneE_any v l W (h.below hW) (by omega)
  have H := Lib.hid h
  obtain ⟨a, cap, rfl, hc, hm⟩ := h.form
  obtain ⟨n, hn⟩ : ∃ n, l.length = n := ⟨_, rfl⟩
  have hn12 : n ≤ 12 := by rw [← hn]; exact hall.1
  rw [hn] at hc H htk hpl hcl ⊢
  have hal : Below w.heap.size w (w.alloc (.cells #[.int .i64 f, .int .i64 b] 35)) := Below.alloc (Below.refl _ _) (Nat.le_refl _) _
  have hsz : (w.alloc (.cells #[.int .i64 f, .int .i64 b] 35)).heap.size = w.heap.size + 1 := World.size_alloc _ _
  have hcell : ∀ W, Below (w.heap.size + 1) (w.alloc (.cells #[.int .i64 f, .int .i64 b] 35)) W → W.cell? ⟨w.heap.size, 0, none⟩ = some (.int .i64 f) ∧ W.cell? ⟨w.heap.size, 1, none⟩ = some (.int .i64 b) ∧ Below w.heap.size w W := fun W hW =>
    ⟨(hW.cell (p := ⟨w.heap.size, 0, none⟩) (by show w.heap.size < w.heap.size + 1; omega)).trans (by simp), (hW.cell (p := ⟨w.heap.size, 1, none⟩) (by show w.heap.size < w.heap.size + 1; omega)).trans (by simp), hal.trans (hW.mono (by omega))⟩
  have HTK := Lib.hid (htk _ hal)
  have HRK := Lib.hid hrk
  have HPL := Lib.hid hpl
  have HCL := Lib.hid hcl
  have HRI := Lib.hid hrise
  have HCE := Lib.hid hcell
  have HN := Lib.hid hn
  clear h htk hrk hpl hcl hrise hrok hall hok hfb hn hal hcell
  go_enter Tryz.func13, Tryz.ntmps13
  go_wp2_with fail
  refine HTK.out.mono ?_
  rintro e w1 ⟨rfl, hb1⟩
  rw [hsz] at hb1
  obtain ⟨c0, c1, b1⟩ := HCE.out w1 hb1
  have B1 := Lib.hid hb1
  have s1 := hb1.size
  rw [hsz] at s1
  clear hb1
  go_wp2_with fail
  refine (HRK.out _).mono ?_
  rintro e w2 ⟨rfl, hb2⟩
  have B2 := Lib.hid (B1.out.trans (hb2.mono s1))
  obtain ⟨d0, d1, b2⟩ := HCE.out w2 B2.out
  have s2 : w.heap.size + 1 ≤ w2.heap.size := Nat.le_trans s1 hb2.size
  clear hb2 c0 c1 b1
  go_wp2_with fail
  refine (HPL.out w2 b2).mono ?_
  rintro e w3 ⟨i, rfl, hp, hb3⟩
  have HP := Lib.hid hp
  have B3 := Lib.hid (b2.trans (hb3.mono b2.size))
  obtain ⟨x, hx⟩ : ∃ x, foundF l f b i = x := ⟨_, rfl⟩
  rw [hx]
  have HX := Lib.hid hx
  clear hp hb3 hx d0 d1 b2
  cases x
  · go_wp2_with fail
    refine (HCL.out w3 B3.out).mono ?_
    rintro e w4 ⟨v4, rfl, hE4, hb4⟩
    have E4 := Lib.hid (hE4.lift B3.out.size)
    have B4 := Lib.hid (B3.out.trans (hb4.mono B3.out.size))
    clear hE4 hb4
    go_wp2_with fail
    refine bodyPost_ret (results_tmp2 rfl _ _ _) rfl ?_
    exact drop_ret (drop_lost HRI.out HP.out HX.out) E4.out B4.out
  · obtain ⟨hin, hdr⟩ := drop_found HRI.out HX.out
    rw [HN.out] at hin
    have E := Lib.hid (H.out.below B3.out)
    have hkI : (i : Int) < (n : Int) := by omega
    have k0 : (0 : Int) ≤ (i : Int) := by omega
    have hkm0 : i ≤ n := by omega
    have hkm1 : i + 1 ≤ n := by omega
    have hk1I : (i : Int) + 1 ≤ (n : Int) := by omega
    have hk10 : (0 : Int) ≤ (i : Int) + 1 := by omega
    have hkc : (i : Int) ≤ (cap : Int) := by omega
    have hkk : (i : Int) ≤ (i : Int) + 1 := by omega
    have hwk : IntKind.i64.wrap ((i : Int) + 1) = (i : Int) + 1 := IntWalk.i64_in _ (by omega)
    obtain ⟨eb, eoff, rfl, _⟩ := E.out.get i hin
    have HL1 : Hid ((l.take i).length ≤ 1000) := Lib.hid (by rw [List.length_take]; have := HN.out; omega)
    have HL2 : Hid ((l.drop (i + 1)).length ≤ 1000) := Lib.hid (by rw [List.length_drop]; have := HN.out; omega)
    have HDL : Hid ((l.drop (i + 1)).length = n - (i + 1)) := Lib.hid (by rw [List.length_drop, HN.out])
    have HDR := Lib.hid hdr
    have hs3 := B3.out.size
    clear hdr
    by_cases hck : cap = i + 1
    · obtain rfl : n = i + 1 := by omega
      subst hck
      go_upto_region 6 with fail
      go_region_law (go_simp; go_at_call 47; refine (slConcat_any _ (l.take i) (l.drop (i + 1)) _ (by first | exact tabs_two (EntsAt.take E.out (by omega)) (by first | exact EntsAt.dropAt E.out (by omega) | exact entsAt_nil (by rw [HDL.out]; omega) (by omega) (by omega)) _ | exact TabsAt.below (tabs_two (EntsAt.take E.out (by omega)) (by first | exact EntsAt.dropAt E.out (by omega) | exact entsAt_nil (by rw [HDL.out]; omega) (by omega) (by omega)) _) (Below.drew (Below.refl _ _))) HL1.out HL2.out).mono ?_; rintro e w4 ⟨v4, rfl, hE4, hb4⟩; have E4 : Hid (EntNew w4 w3.heap.size v4 (l.take i ++ l.drop (i + 1))) := Lib.hid (hE4.lift (by simp)); have B4 : Hid (Below w3.heap.size w3 w4) := Lib.hid (by refine Below.trans ?_ (hb4.mono (by first | exact Nat.le_refl _ | omega | (simp; done) | (simp; omega))); repeat (first | exact Below.refl _ _ | assumption | refine Below.drew ?_ | refine belowDrewN ?_ _ | refine Below.alloc ?_ (by first | exact Nat.le_refl _ | omega | (simp; done) | (simp; omega)) _ | refine Below.setCell ?_ (by first | exact Nat.le_refl _ | omega | (simp; done) | (simp; omega)) _)); clear hE4 hb4)
      all_goals
        go_wp2_with fail
        refine bodyPost_ret (results_tmp2 rfl _ _ _) rfl ?_
        exact drop_ret HDR.out (E4.out.lift hs3) (B3.out.trans (B4.out.mono hs3))
    · go_upto_region 6 with fail
      go_region_law (go_simp; go_at_call 47; refine (slConcat_any _ (l.take i) (l.drop (i + 1)) _ (by first | exact tabs_two (EntsAt.take E.out (by omega)) (by first | exact EntsAt.dropAt E.out (by omega) | exact entsAt_nil (by rw [HDL.out]; omega) (by omega) (by omega)) _ | exact TabsAt.below (tabs_two (EntsAt.take E.out (by omega)) (by first | exact EntsAt.dropAt E.out (by omega) | exact entsAt_nil (by rw [HDL.out]; omega) (by omega) (by omega)) _) (Below.drew (Below.refl _ _))) HL1.out HL2.out).mono ?_; rintro e w4 ⟨v4, rfl, hE4, hb4⟩; have E4 : Hid (EntNew w4 w3.heap.size v4 (l.take i ++ l.drop (i + 1))) := Lib.hid (hE4.lift (by simp)); have B4 : Hid (Below w3.heap.size w3 w4) := Lib.hid (by refine Below.trans ?_ (hb4.mono (by first | exact Nat.le_refl _ | omega | (simp; done) | (simp; omega))); repeat (first | exact Below.refl _ _ | assumption | refine Below.drew ?_ | refine belowDrewN ?_ _ | refine Below.alloc ?_ (by first | exact Nat.le_refl _ | omega | (simp; done) | (simp; omega)) _ | refine Below.setCell ?_ (by first | exact Nat.le_refl _ | omega | (simp; done) | (simp; omega)) _)); clear hE4 hb4)
      all_goals
        go_wp2_with fail
        refine bodyPost_ret (results_tmp2 rfl _ _ _) rfl ?_
        exact drop_ret HDR.out (E4.out.lift hs3) (B3.out.trans (B4.out.mono hs3))
end Go.Proofs.YtnjkifnlimfhnaaGreatDoor
