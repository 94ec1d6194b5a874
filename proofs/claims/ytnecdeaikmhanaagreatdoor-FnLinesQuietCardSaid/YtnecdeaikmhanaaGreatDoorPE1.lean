/- A part of the proof; packed by a program of mine out of my texts. -/
import Derived.Test.YtnecdeaikmhanaaGreatDoorPE0
namespace Go.Proofs.YtnecdeaikmhanaaGreatDoor
open Go.RowKit
set_option linter.unusedVariables false
abbrev Ent := Int × Int × Int
def entV (e : Ent) : Value := .agg #[.int .i64 e.1, .int .i64 e.2.1, .int .i64 e.2.2]
def EntsAt (w : World) (v : Value) (l : List Ent) : Prop :=
  ∃ a cap, v = .slice a l.length cap ∧ l.length ≤ cap ∧ cap ≤ maxLen ∧ (l.length = 0 ∨ ∃ b off, a = some ⟨b, off, none⟩ ∧ b < w.heap.size ∧ ∀ i, i < l.length →
    w.cell? ⟨b, off + i * 3, none⟩ = some (.int .i64 (l.getD i (0, 0, 0)).1) ∧ w.cell? ⟨b, off + i * 3 + 1, none⟩ = some (.int .i64 (l.getD i (0, 0, 0)).2.1) ∧ w.cell? ⟨b, off + i * 3 + 2, none⟩ = some (.int .i64 (l.getD i (0, 0, 0)).2.2))
theorem EntsAt.below {w w' : World} {v : Value} {l : List Ent} (h : EntsAt w v l) (hb : Below w.heap.size w w') : EntsAt w' v l := by
  obtain ⟨a, cap, rfl, hc, hm, h⟩ := h
  refine ⟨a, cap, rfl, hc, hm, ?_⟩
  rcases h with h | ⟨b, off, rfl, hlt, hcell⟩
  · exact .inl h
  · refine .inr ⟨b, off, rfl, Nat.lt_of_lt_of_le hlt hb.size, fun i hi => ?_⟩
    obtain ⟨c0, c1, c2⟩ := hcell i hi
    exact ⟨(hb.cell (p := ⟨b, off + i * 3, none⟩) hlt).trans c0, (hb.cell (p := ⟨b, off + i * 3 + 1, none⟩) hlt).trans c1, (hb.cell (p := ⟨b, off + i * 3 + 2, none⟩) hlt).trans c2⟩
theorem EntsAt.drew {w w' : World} {v : Value} {l : List Ent} (h : EntsAt w v l) (hd : Drew w w') : EntsAt w' v l := h.below (hd.below _)
theorem EntsAt.form {w : World} {v : Value} {l : List Ent} (h : EntsAt w v l) : ∃ a cap, v = .slice a l.length cap ∧ l.length ≤ cap ∧ cap ≤ 9223372036854775807 := by
  obtain ⟨a, cap, rfl, hc, hm, _⟩ := h
  exact ⟨a, cap, rfl, hc, by unfold maxLen at hm; exact hm⟩
theorem EntsAt.get {w : World} {a : Option Addr} {n cap : Nat} {l : List Ent} (h : EntsAt w (.slice a n cap) l) (i : Nat) (hi : i < n) :
    ∃ b off, a = some ⟨b, off, none⟩ ∧ b < w.heap.size ∧ w.cell? ⟨b, off + i * 3, none⟩ = some (.int .i64 (l.getD i (0, 0, 0)).1) ∧ w.cell? ⟨b, off + i * 3 + 1, none⟩ = some (.int .i64 (l.getD i (0, 0, 0)).2.1) ∧ w.cell? ⟨b, off + i * 3 + 2, none⟩ = some (.int .i64 (l.getD i (0, 0, 0)).2.2) := by
  obtain ⟨a', cap', e, hc, hm, h⟩ := h
  simp only [Value.slice.injEq] at e
  obtain ⟨rfl, rfl, rfl⟩ := e
  rcases h with h | ⟨b, off, rfl, hlt, hcell⟩
  · omega
  · exact ⟨b, off, rfl, hlt, hcell i hi⟩
def entOkF (e : Ent) : Bool := rangeOkF e.1 e.2.1 && decide (1 ≤ e.2.2) && decide (e.2.2 ≤ 9)
def ordF (a b : Ent) : Int := rcmpF a.1 a.2.1 b.1 b.2.1
def tableOkF (l : List Ent) : Bool := decide (l.length ≤ 12) && (List.range l.length).all fun i => entOkF (l.getD i (0, 0, 0)) && (decide (i = 0) || decide (ordF (l.getD (i - 1) (0, 0, 0)) (l.getD i (0, 0, 0)) < 0))
theorem tableOk_bad {l : List Ent} {i : Nat} (hi : i < l.length) (hb : entOkF (l.getD i (0, 0, 0)) = false) : tableOkF l = false := by
  unfold tableOkF
  rw [Bool.and_eq_false_iff]; right; rw [List.all_eq_false]
  exact ⟨i, by simpa using hi, by rw [hb]; simp⟩
theorem tableOk_ord {l : List Ent} {i : Nat} (hi : i < l.length) (h0 : i ≠ 0) (hb : 0 ≤ ordF (l.getD (i - 1) (0, 0, 0)) (l.getD i (0, 0, 0))) : tableOkF l = false := by
  unfold tableOkF
  rw [Bool.and_eq_false_iff]; right; rw [List.all_eq_false]
  refine ⟨i, by simpa using hi, ?_⟩
  rw [decide_eq_false h0, decide_eq_false (by omega)]; simp
theorem tableOk_long {l : List Ent} (hl : 12 < l.length) : tableOkF l = false := by
  unfold tableOkF
  rw [decide_eq_false (by omega)]; simp
theorem tableOk_good {l : List Ent} (hl : l.length ≤ 12) (ha : ∀ i, i < l.length → entOkF (l.getD i (0, 0, 0)) = true ∧ (i ≠ 0 → ordF (l.getD (i - 1) (0, 0, 0)) (l.getD i (0, 0, 0)) < 0)) : tableOkF l = true := by
  unfold tableOkF
  rw [Bool.and_eq_true, List.all_eq_true]
  refine ⟨by simpa using hl, fun i hi => ?_⟩
  obtain ⟨h1, h2⟩ := ha i (by simpa using hi)
  rw [h1]
  by_cases h0 : i = 0
  · simp [h0]
  · rw [decide_eq_true (h2 h0)]; simp
set_option maxHeartbeats 1000000 in
theorem l2Entry_any (f b v : Int) (w : World) : Calls Tryz.prog 150 #[.agg #[.int .i64 f, .int .i64 b, .int .i64 v]] w fun e w' => e = .returned (.bool (entOkF (f, b, v))) ∧ Below w.heap.size w w' := by
  obtain ⟨c, hc⟩ : ∃ c, entOkF (f, b, v) = c := ⟨_, rfl⟩
  rw [hc]
  unfold entOkF at hc
  obtain ⟨d, hd⟩ : ∃ d, rangeOkF f b = d := ⟨_, rfl⟩
  have hr : ∀ W, Calls Tryz.prog 111 #[.agg #[.int .i64 f, .int .i64 b]] W fun e w' => e = .returned (.bool d) ∧ Below W.heap.size W w' := fun W => by rw [← hd]; exact specRangeOk_any f b W
  simp only at hc
  rw [hd] at hc
  have HR := Lib.hid hr
  clear hr hd
  cases d
  · have : c = false := by rw [← hc]; simp
    subst this
    clear hc
    go_enter Tryz.func150, Tryz.ntmps150
    go_wp2_with (go_at_call 111; refine (HR.out _).mono ?_; rintro e w1 ⟨rfl, hb1⟩; have hB : Below w.heap.size w w1 := (by refine Below.trans ?_ (hb1.mono (by first | exact Nat.le_refl _ | omega | (simp; done) | (simp; omega))); exact bw); have hc2 := (hb1.cell (p := ⟨w.heap.size, 2, none⟩) (by simp)); clear hb1)
    go_ret
    exact ⟨rfl, by exact bw⟩
  · obtain ⟨d2, hd2⟩ : ∃ d, (decide (1 ≤ v) && decide (v ≤ 9)) = d := ⟨_, rfl⟩
    have hc2 : c = d2 := by rw [← hc, ← hd2]; simp
    subst hc2
    have hi : ∀ W, Calls Tryz.prog 41 #[.int .i64 v, .int .i64 1, .int .i64 9] W fun e w' => e = .returned (.bool c) ∧ Drew W w' := fun W => by
      rw [← hd2]; exact (in_any v 1 9 W).mono fun e w' ⟨h1, h2⟩ => ⟨h1, by rw [h2]; exact Drew.refl _⟩
    have HI := Lib.hid hi
    clear hc hd2 hi
    go_enter Tryz.func150, Tryz.ntmps150
    go_wp2_with (first | (go_at_call 111; refine (HR.out _).mono ?_; rintro e w1 ⟨rfl, hb1⟩; have hB : Below w.heap.size w w1 := (by refine Below.trans ?_ (hb1.mono (by first | exact Nat.le_refl _ | omega | (simp; done) | (simp; omega))); exact bw); have hc2 := (hb1.cell (p := ⟨w.heap.size, 2, none⟩) (by simp)); clear hb1) | (go_at_call 41; refine (HI.out _).mono ?_; rintro e w2 ⟨rfl, q, rfl⟩))
    go_ret
    exact ⟨rfl, by exact bw⟩
set_option maxHeartbeats 1000000 in
theorem entryOk_any (f b v : Int) (w : World) : Calls Tryz.prog 165 #[.agg #[.int .i64 f, .int .i64 b, .int .i64 v]] w fun e w' => e = .returned (.bool (entOkF (f, b, v))) ∧ Below w.heap.size w w' := by
  obtain ⟨c, hc⟩ : ∃ c, entOkF (f, b, v) = c := ⟨_, rfl⟩
  rw [hc]
  unfold entOkF at hc
  obtain ⟨d, hd⟩ : ∃ d, rangeOkF f b = d := ⟨_, rfl⟩
  have hr : ∀ W, Calls Tryz.prog 92 #[.agg #[.int .i64 f, .int .i64 b]] W fun e w' => e = .returned (.bool d) ∧ Below W.heap.size W w' := fun W => by rw [← hd]; exact rangeOk_any f b W
  simp only at hc
  rw [hd] at hc
  have HR := Lib.hid hr
  clear hr hd
  have hcase : (d = false ∧ c = false) ∨ (d = true ∧ ¬ 1 ≤ v ∧ c = false) ∨ (d = true ∧ 1 ≤ v ∧ ¬ v ≤ 9 ∧ c = false) ∨ (d = true ∧ 1 ≤ v ∧ v ≤ 9 ∧ c = true) := by
    cases d
    · left; exact ⟨rfl, by rw [← hc]; simp⟩
    · by_cases h1 : 1 ≤ v
      · by_cases h9 : v ≤ 9
        · exact .inr (.inr (.inr ⟨rfl, h1, h9, by rw [← hc]; simp [h1, h9]⟩))
        · exact .inr (.inr (.inl ⟨rfl, h1, h9, by rw [← hc]; simp [h9]⟩))
      · exact .inr (.inl ⟨rfl, h1, by rw [← hc]; simp [h1]⟩)
  clear hc
  rcases hcase with ⟨rfl, rfl⟩ | ⟨rfl, h1, rfl⟩ | ⟨rfl, h1, h9, rfl⟩ | ⟨rfl, h1, h9, rfl⟩
  all_goals
    go_enter Tryz.func165, Tryz.ntmps165
    go_wp2_with (go_at_call 92; refine (HR.out _).mono ?_; rintro e w1 ⟨rfl, hb1⟩; have hB : Below w.heap.size w w1 := (by refine Below.trans ?_ (hb1.mono (by first | exact Nat.le_refl _ | omega | (simp; done) | (simp; omega))); exact bw); have hc2 := (hb1.cell (p := ⟨w.heap.size, 2, none⟩) (by simp)); clear hb1)
    go_ret
    first | exact ⟨rfl, by exact bw⟩ | exact ⟨ret_b (decide_eq_false (by omega)), by exact bw⟩
set_option maxRecDepth 100000 in
set_option maxHeartbeats 4000000 in
theorem specTableOk_any (v : Value) (l : List Ent) (w : World) (hv : EntsAt w v l) :
    Calls Tryz.prog 117 #[v] w fun e w' => e = .returned (.bool (tableOkF l)) ∧ Below w.heap.size w w' := by
  obtain ⟨a, cap, rfl, hc, hm⟩ := hv.form
  obtain ⟨n, hn⟩ : ∃ n, l.length = n := ⟨_, rfl⟩
  rw [hn] at hc hv ⊢
  obtain ⟨B, hB⟩ : ∃ B, tableOkF l = B := ⟨_, rfl⟩
  rw [hB]
  have HB := Lib.hid hB
  have HN := Lib.hid hn
  have H := Lib.hid hv
  clear hB hn hv
  go_enter Tryz.func117, Tryz.ntmps117
  go_wp2_with fail
  go_loopg [3] n (fun g i wr => ∃ k : Nat, i = .int .i64 k ∧ k + g = n ∧ Hid (Below w.heap.size w wr) ∧ Hid (∀ j, j < k → entOkF (l.getD j (0, 0, 0)) = true ∧ (j ≠ 0 → ordF (l.getD (j - 1) (0, 0, 0)) (l.getD j (0, 0, 0)) < 0)))
  case atStart => exact ⟨0, rfl, by omega, Lib.hid (Below.refl _ _), Lib.hid fun j hj => by omega⟩
  case round =>
    obtain ⟨k, rfl, hk, hbe, hno⟩ := hrel
    by_cases hg : gk = 0
    · subst hg
      obtain rfl : k = n := by omega
      by_cases h12 : k ≤ 12
      · have e := HB.out
        rw [tableOk_good (by rw [HN.out]; exact h12) (fun i hi => hno.out i (by rw [HN.out] at hi; exact hi))] at e
        subst e
        go_wp2_with fail
        go_ret
        exact ⟨ret_b (decide_eq_true (by omega)), hbe.out⟩
      · have e := HB.out
        rw [tableOk_long (by rw [HN.out]; omega)] at e
        subst e
        have h12' : ¬ (k : Int) ≤ 12 := by omega
        go_wp2_with fail
        go_ret
        exact ⟨rfl, hbe.out⟩
    · have hkn : k < n := by omega
      have hkI : (k : Int) < (n : Int) := by omega
      have k0 : (0 : Int) ≤ (k : Int) := by omega
      have hgk : 1 ≤ gk := by omega
      obtain ⟨b, off, rfl, hb, c0, c1, c2⟩ := (H.out.below hbe.out).get k hkn
      obtain ⟨ent, hent⟩ : ∃ e, l.getD k (0, 0, 0) = e := ⟨_, rfl⟩
      rw [hent] at c0 c1 c2
      obtain ⟨f, bt, vi⟩ := ent
      simp only at c0 c1 c2
      obtain ⟨d, hd⟩ : ∃ d, entOkF (f, bt, vi) = d := ⟨_, rfl⟩
      have he : ∀ W, Below wr.heap.size wr W → Calls Tryz.prog 150 #[.agg #[.int .i64 f, .int .i64 bt, .int .i64 vi]] W fun e w' => e = .returned (.bool d) ∧ Below W.heap.size W w' := fun W _ => by rw [← hd]; exact l2Entry_any f bt vi W
      have HE := Lib.hid he
      have HENT := Lib.hid hent
      have HD := Lib.hid hd
      have HK := Lib.hid hk
      clear he hent hd hk hg
      cases d
      · have e := HB.out
        rw [tableOk_bad (by rw [HN.out]; exact hkn : k < l.length) (by rw [HENT.out]; exact HD.out)] at e
        subst e
        go_wp2_with fail
        refine wp_region_noPanic ?_
        refine wp_region_held_drew (S := (fun w' => w'.cell? ⟨b, off + k * 3, none⟩ = some (.int .i64 f) ∧ w'.cell? ⟨b, off + k * 3 + 1, none⟩ = some (.int .i64 bt) ∧ w'.cell? ⟨b, off + k * 3 + 2, none⟩ = some (.int .i64 vi))) (by kernel_rfl) (by simp [go_sem, *]) (fun hHeld => ?_)
        refine tkT (i := 0) (h := ?_)
        (try simp only [Act.put, pB, pC, pD])
        refine tkT (i := 1) (h := ?_)
        (try simp only [Act.put, pB, pC, pD])
        refine tkT (i := 2) (h := ?_)
        (try simp only [Act.put, pB, pC, pD])
        refine tkT (i := 3) (h := ?_)
        (try simp only [Act.put, pB, pC, pD])
        refine wpAnyH_ready (rs := [4]) (by kernel_rfl) (by simp) ?_
        refine AllReadyH.cons (by (simp only [List.getElem?_toArray, List.getElem?_cons_succ, List.getElem?_cons_zero]) <;> rfl) (fun K hK => ?_) AllReadyH.nil
        go_simp
        (go_at_call 150; refine (HE.out _ bw).mono ?_; rintro e w1 ⟨rfl, hb1⟩; have hB1 : Below wr.heap.size wr w1 := (by refine Below.trans ?_ (hb1.mono (by first | exact Nat.le_refl _ | omega | (simp; done) | (simp; omega))); exact bw); obtain ⟨hc1, hf1⟩ := bcell hB1; clear hb1)
        refine hK.out _ _ (by simp [go_sem, *]) (fun hHeld => ?_)
        (try simp only [Act.put, pB, pC, pD])
        refine tkT (i := 5) (h := ?_)
        (try simp only [Act.put, pB, pC, pD])
        refine tkT (i := 6) (h := ?_)
        (try simp only [Act.put, pB, pC, pD])
        refine tkS (i := 7) (h := ?_)
        (try simp only [Act.put, pB, pC, pD])
        refine tkS (i := 8) (h := ?_)
        (try simp only [Act.put, pB, pC, pD])
        refine tkS (i := 9) (h := ?_)
        (try simp only [Act.put, pB, pC, pD])
        refine tkS (i := 10) (h := ?_)
        (try simp only [Act.put, pB, pC, pD])
        refine tkS (i := 11) (h := ?_)
        (try simp only [Act.put, pB, pC, pD])
        refine tkS (i := 12) (h := ?_)
        (try simp only [Act.put, pB, pC, pD])
        refine tkS (i := 13) (h := ?_)
        (try simp only [Act.put, pB, pC, pD])
        refine tkS (i := 14) (h := ?_)
        (try simp only [Act.put, pB, pC, pD])
        refine tkS (i := 15) (h := ?_)
        (try simp only [Act.put, pB, pC, pD])
        refine tkS (i := 16) (h := ?_)
        (try simp only [Act.put, pB, pC, pD])
        refine tkS (i := 17) (h := ?_)
        (try simp only [Act.put, pB, pC, pD])
        refine tkS (i := 18) (h := ?_)
        (try simp only [Act.put, pB, pC, pD])
        refine tkS (i := 19) (h := ?_)
        (try simp only [Act.put, pB, pC, pD])
        refine tkS (i := 20) (h := ?_)
        (try simp only [Act.put, pB, pC, pD])
        refine tkS (i := 21) (h := ?_)
        (try simp only [Act.put, pB, pC, pD])
        refine tkS (i := 22) (h := ?_)
        (try simp only [Act.put, pB, pC, pD])
        refine tkS (i := 23) (h := ?_)
        (try simp only [Act.put, pB, pC, pD])
        refine tkT (i := 24) (h := ?_)
        (try simp only [Act.put, pB, pC, pD])
        refine wpAnyH_done (by kernel_rfl) ?_ _
        refine NoPanic.normal ?_
        go_wp2_with fail
        go_ret
        exact ⟨rfl, hbe.out.trans (hB1.mono hbe.out.size)⟩
      · by_cases hk0 : k = 0
        · subst hk0
          simp only [Nat.zero_mul, Nat.add_zero] at c0 c1 c2
          go_wp2_with fail
          refine wp_region_noPanic ?_
          refine wp_region_held_drew (S := (fun w' => w'.cell? ⟨b, off, none⟩ = some (.int .i64 f) ∧ w'.cell? ⟨b, off + 1, none⟩ = some (.int .i64 bt) ∧ w'.cell? ⟨b, off + 2, none⟩ = some (.int .i64 vi))) (by kernel_rfl) (by simp [go_sem, *]) (fun hHeld => ?_)
          refine tkT (i := 0) (h := ?_)
          (try simp only [Act.put, pB, pC, pD])
          refine tkT (i := 1) (h := ?_)
          (try simp only [Act.put, pB, pC, pD])
          refine tkT (i := 2) (h := ?_)
          (try simp only [Act.put, pB, pC, pD])
          refine tkT (i := 3) (h := ?_)
          (try simp only [Act.put, pB, pC, pD])
          refine wpAnyH_ready (rs := [4]) (by kernel_rfl) (by simp) ?_
          refine AllReadyH.cons (by (simp only [List.getElem?_toArray, List.getElem?_cons_succ, List.getElem?_cons_zero]) <;> rfl) (fun K hK => ?_) AllReadyH.nil
          go_simp
          (go_at_call 150; refine (HE.out _ bw).mono ?_; rintro e w1 ⟨rfl, hb1⟩; have hB1 : Below wr.heap.size wr w1 := (by refine Below.trans ?_ (hb1.mono (by first | exact Nat.le_refl _ | omega | (simp; done) | (simp; omega))); exact bw); have hs1 := hB1.size; have hbw1 : b < w1.heap.size := Nat.lt_of_lt_of_le hb hs1; obtain ⟨hc1, hf1⟩ := bcell hB1; clear hb1)
          refine hK.out _ _ (by simp [go_sem, *]) (fun hHeld => ?_)
          (try simp only [Act.put, pB, pC, pD])
          refine tkT (i := 5) (h := ?_)
          (try simp only [Act.put, pB, pC, pD])
          refine tkT (i := 6) (h := ?_)
          (try simp only [Act.put, pB, pC, pD])
          refine tkT (i := 7) (h := ?_)
          (try simp only [Act.put, pB, pC, pD])
          refine tkT (i := 8) (h := ?_)
          (try simp only [Act.put, pB, pC, pD])
          refine tkT (i := 9) (h := ?_)
          (try simp only [Act.put, pB, pC, pD])
          refine tkS (i := 10) (h := ?_)
          (try simp only [Act.put, pB, pC, pD])
          refine tkS (i := 11) (h := ?_)
          (try simp only [Act.put, pB, pC, pD])
          refine tkS (i := 12) (h := ?_)
          (try simp only [Act.put, pB, pC, pD])
          refine tkS (i := 13) (h := ?_)
          (try simp only [Act.put, pB, pC, pD])
          refine tkS (i := 14) (h := ?_)
          (try simp only [Act.put, pB, pC, pD])
          refine tkS (i := 15) (h := ?_)
          (try simp only [Act.put, pB, pC, pD])
          refine tkS (i := 16) (h := ?_)
          (try simp only [Act.put, pB, pC, pD])
          refine tkS (i := 17) (h := ?_)
          (try simp only [Act.put, pB, pC, pD])
          refine tkS (i := 18) (h := ?_)
          (try simp only [Act.put, pB, pC, pD])
          refine tkS (i := 19) (h := ?_)
          (try simp only [Act.put, pB, pC, pD])
          refine tkS (i := 20) (h := ?_)
          (try simp only [Act.put, pB, pC, pD])
          refine tkS (i := 21) (h := ?_)
          (try simp only [Act.put, pB, pC, pD])
          refine tkS (i := 22) (h := ?_)
          (try simp only [Act.put, pB, pC, pD])
          refine tkT (i := 23) (h := ?_)
          (try simp only [Act.put, pB, pC, pD])
          refine tkT (i := 24) (h := ?_)
          (try simp only [Act.put, pB, pC, pD])
          refine wpAnyH_done (by kernel_rfl) ?_ _
          refine NoPanic.normal ?_
          go_wp2_with fail
          go_roundg (gk - 1)
          case measure => omega
          case rel => exact ⟨1, by go_num, by have := HK.out; omega, Lib.hid (hbe.out.trans (hB1.mono hbe.out.size)), Lib.hid fun j hj => by
            obtain rfl : j = 0 := by omega
            exact ⟨by rw [HENT.out]; exact HD.out, fun h => absurd rfl h⟩⟩
        · obtain ⟨j, hj⟩ : ∃ j, j = k - 1 := ⟨_, rfl⟩
          have hji : (k : Int) - 1 = (j : Int) := by omega
          have i3 : IntKind.i64.wrap (j : Int) = (j : Int) := IntWalk.i64_in _ (by omega)
          have j0 : (0 : Int) ≤ (j : Int) := by omega
          have hjI : (j : Int) < (n : Int) := by omega
          have hkp : (0 : Int) < (k : Int) := by omega
          have hkp2 : 0 < k := by omega
          have hkd : decide ((0 : Int) < (k : Int)) = true := decide_eq_true hkp
          obtain ⟨b', off', e, _, p0, p1, p2⟩ := (H.out.below hbe.out).get j (by omega)
          simp only [Option.some.injEq, Addr.mk.injEq] at e
          obtain ⟨rfl, rfl, _⟩ := e
          obtain ⟨pent, hpent⟩ : ∃ e, l.getD j (0, 0, 0) = e := ⟨_, rfl⟩
          rw [hpent] at p0 p1 p2
          obtain ⟨f', bt', vi'⟩ := pent
          simp only at p0 p1 p2
          obtain ⟨c, hcc⟩ : ∃ c, rcmpF f' bt' f bt = c := ⟨_, rfl⟩
          have hcm : ∀ W, Below wr.heap.size wr W → Calls Tryz.prog 75 #[.agg #[.int .i64 f', .int .i64 bt'], .agg #[.int .i64 f, .int .i64 bt]] W fun e w' => e = .returned (.int .i64 c) ∧ Below W.heap.size W w' := fun W _ => by rw [← hcc]; exact l1Cmp_any f' bt' f bt W
          have hord : ordF (l.getD (k - 1) (0, 0, 0)) (l.getD k (0, 0, 0)) = c := by rw [HENT.out, ← hj, hpent]; exact hcc
          have HORD := Lib.hid hord
          have HCM := Lib.hid hcm
          have HK0 := Lib.hid hk0
          clear hcc hcm hord hpent hk0 hj p2
          by_cases hcn : c < 0
          · have hcd : decide (0 ≤ c) = false := decide_eq_false (by omega)
            go_wp2_with fail
            refine wp_region_noPanic ?_
            refine wp_region_held_drew (S := (fun w' => w'.cell? ⟨b, off + k * 3, none⟩ = some (.int .i64 f) ∧ w'.cell? ⟨b, off + k * 3 + 1, none⟩ = some (.int .i64 bt) ∧ w'.cell? ⟨b, off + k * 3 + 2, none⟩ = some (.int .i64 vi) ∧ w'.cell? ⟨b, off + j * 3, none⟩ = some (.int .i64 f') ∧ w'.cell? ⟨b, off + j * 3 + 1, none⟩ = some (.int .i64 bt'))) (by kernel_rfl) (by simp [go_sem, *]) (fun hHeld => ?_)
            refine tkT (i := 0) (h := ?_)
            (try simp only [Act.put, pB, pC, pD])
            refine tkT (i := 1) (h := ?_)
            (try simp only [Act.put, pB, pC, pD])
            refine tkT (i := 2) (h := ?_)
            (try simp only [Act.put, pB, pC, pD])
            refine tkT (i := 3) (h := ?_)
            (try simp only [Act.put, pB, pC, pD])
            refine wpAnyH_ready (rs := [4]) (by kernel_rfl) (by simp) ?_
            refine AllReadyH.cons (by (simp only [List.getElem?_toArray, List.getElem?_cons_succ, List.getElem?_cons_zero]) <;> rfl) (fun K hK => ?_) AllReadyH.nil
            go_simp
            (go_at_call 150; refine (HE.out _ bw).mono ?_; rintro e w1 ⟨rfl, hb1⟩; have hB1 : Below wr.heap.size wr w1 := (by refine Below.trans ?_ (hb1.mono (by first | exact Nat.le_refl _ | omega | (simp; done) | (simp; omega))); exact bw); have hs1 := hB1.size; have hbw1 : b < w1.heap.size := Nat.lt_of_lt_of_le hb hs1; obtain ⟨hc1, hf1⟩ := bcell hB1; clear hb1)
            refine hK.out _ _ (by simp [go_sem, *]) (fun hHeld => ?_)
            (try simp only [Act.put, pB, pC, pD])
            refine tkT (i := 5) (h := ?_)
            (try simp only [Act.put, pB, pC, pD])
            refine tkT (i := 6) (h := ?_)
            (try simp only [Act.put, pB, pC, pD])
            refine tkT (i := 7) (h := ?_)
            (try simp only [Act.put, pB, pC, pD])
            refine tkT (i := 8) (h := ?_)
            (try simp only [Act.put, pB, pC, pD])
            refine tkT (i := 9) (h := ?_)
            (try simp only [Act.put, pB, pC, pD])
            refine tkT (i := 10) (h := ?_)
            (try simp only [Act.put, pB, pC, pD])
            refine tkT (i := 11) (h := ?_)
            (try simp only [Act.put, pB, pC, pD])
            refine tkT (i := 12) (h := ?_)
            (try simp only [Act.put, pB, pC, pD])
            refine tkT (i := 13) (h := ?_)
            (try simp only [Act.put, pB, pC, pD])
            refine tkT (i := 14) (h := ?_)
            (try simp only [Act.put, pB, pC, pD])
            refine tkT (i := 15) (h := ?_)
            (try simp only [Act.put, pB, pC, pD])
            refine tkT (i := 16) (h := ?_)
            (try simp only [Act.put, pB, pC, pD])
            refine tkT (i := 17) (h := ?_)
            (try simp only [Act.put, pB, pC, pD])
            refine tkT (i := 18) (h := ?_)
            (try simp only [Act.put, pB, pC, pD])
            refine tkT (i := 19) (h := ?_)
            (try simp only [Act.put, pB, pC, pD])
            refine tkT (i := 20) (h := ?_)
            (try simp only [Act.put, pB, pC, pD])
            refine wpAnyH_ready (rs := [21]) (by kernel_rfl) (by simp) ?_
            refine AllReadyH.cons (by (simp only [List.getElem?_toArray, List.getElem?_cons_succ, List.getElem?_cons_zero]) <;> rfl) (fun K hK => ?_) AllReadyH.nil
            go_simp
            (go_at_call 75; refine (HCM.out _ bw).mono ?_; rintro e w2 ⟨rfl, hb2⟩; have hB2 : Below wr.heap.size wr w2 := (by refine Below.trans ?_ (hb2.mono (by first | exact Nat.le_refl _ | omega | (simp; done) | (simp; omega))); exact bw); obtain ⟨hc2, hf2⟩ := bcell hB2; clear hb2)
            refine hK.out _ _ (by simp [go_sem, *]) (fun hHeld => ?_)
            (try simp only [Act.put, pB, pC, pD])
            refine tkT (i := 22) (h := ?_)
            (try simp only [Act.put, pB, pC, pD])
            refine tkT (i := 23) (h := ?_)
            (try simp only [Act.put, pB, pC, pD])
            refine tkT (i := 24) (h := ?_)
            (try simp only [Act.put, pB, pC, pD])
            refine wpAnyH_done (by kernel_rfl) ?_ _
            refine NoPanic.normal ?_
            go_wp2_with fail
            go_roundg (gk - 1)
            case measure => omega
            case rel => exact ⟨k + 1, by go_num, by have := HK.out; omega, Lib.hid (hbe.out.trans (hB2.mono hbe.out.size)), Lib.hid fun j hj => by
              by_cases hjk : j = k
              · subst hjk
                exact ⟨by rw [HENT.out]; exact HD.out, fun _ => by rw [HORD.out]; exact hcn⟩
              · exact hno.out j (by omega)⟩
          · have e := HB.out
            rw [tableOk_ord (by rw [HN.out]; exact hkn : k < l.length) HK0.out (by rw [HORD.out]; omega)] at e
            subst e
            have hcd : decide (0 ≤ c) = true := decide_eq_true (by omega)
            go_wp2_with fail
            refine wp_region_noPanic ?_
            refine wp_region_held_drew (S := (fun w' => w'.cell? ⟨b, off + k * 3, none⟩ = some (.int .i64 f) ∧ w'.cell? ⟨b, off + k * 3 + 1, none⟩ = some (.int .i64 bt) ∧ w'.cell? ⟨b, off + k * 3 + 2, none⟩ = some (.int .i64 vi) ∧ w'.cell? ⟨b, off + j * 3, none⟩ = some (.int .i64 f') ∧ w'.cell? ⟨b, off + j * 3 + 1, none⟩ = some (.int .i64 bt'))) (by kernel_rfl) (by simp [go_sem, *]) (fun hHeld => ?_)
            refine tkT (i := 0) (h := ?_)
            (try simp only [Act.put, pB, pC, pD])
            refine tkT (i := 1) (h := ?_)
            (try simp only [Act.put, pB, pC, pD])
            refine tkT (i := 2) (h := ?_)
            (try simp only [Act.put, pB, pC, pD])
            refine tkT (i := 3) (h := ?_)
            (try simp only [Act.put, pB, pC, pD])
            refine wpAnyH_ready (rs := [4]) (by kernel_rfl) (by simp) ?_
            refine AllReadyH.cons (by (simp only [List.getElem?_toArray, List.getElem?_cons_succ, List.getElem?_cons_zero]) <;> rfl) (fun K hK => ?_) AllReadyH.nil
            go_simp
            (go_at_call 150; refine (HE.out _ bw).mono ?_; rintro e w1 ⟨rfl, hb1⟩; have hB1 : Below wr.heap.size wr w1 := (by refine Below.trans ?_ (hb1.mono (by first | exact Nat.le_refl _ | omega | (simp; done) | (simp; omega))); exact bw); have hs1 := hB1.size; have hbw1 : b < w1.heap.size := Nat.lt_of_lt_of_le hb hs1; obtain ⟨hc1, hf1⟩ := bcell hB1; clear hb1)
            refine hK.out _ _ (by simp [go_sem, *]) (fun hHeld => ?_)
            (try simp only [Act.put, pB, pC, pD])
            refine tkT (i := 5) (h := ?_)
            (try simp only [Act.put, pB, pC, pD])
            refine tkT (i := 6) (h := ?_)
            (try simp only [Act.put, pB, pC, pD])
            refine tkT (i := 7) (h := ?_)
            (try simp only [Act.put, pB, pC, pD])
            refine tkT (i := 8) (h := ?_)
            (try simp only [Act.put, pB, pC, pD])
            refine tkT (i := 9) (h := ?_)
            (try simp only [Act.put, pB, pC, pD])
            refine tkT (i := 10) (h := ?_)
            (try simp only [Act.put, pB, pC, pD])
            refine tkT (i := 11) (h := ?_)
            (try simp only [Act.put, pB, pC, pD])
            refine tkT (i := 12) (h := ?_)
            (try simp only [Act.put, pB, pC, pD])
            refine tkT (i := 13) (h := ?_)
            (try simp only [Act.put, pB, pC, pD])
            refine tkT (i := 14) (h := ?_)
            (try simp only [Act.put, pB, pC, pD])
            refine tkT (i := 15) (h := ?_)
            (try simp only [Act.put, pB, pC, pD])
            refine tkT (i := 16) (h := ?_)
            (try simp only [Act.put, pB, pC, pD])
            refine tkT (i := 17) (h := ?_)
            (try simp only [Act.put, pB, pC, pD])
            refine tkT (i := 18) (h := ?_)
            (try simp only [Act.put, pB, pC, pD])
            refine tkT (i := 19) (h := ?_)
            (try simp only [Act.put, pB, pC, pD])
            refine tkT (i := 20) (h := ?_)
            (try simp only [Act.put, pB, pC, pD])
            refine wpAnyH_ready (rs := [21]) (by kernel_rfl) (by simp) ?_
            refine AllReadyH.cons (by (simp only [List.getElem?_toArray, List.getElem?_cons_succ, List.getElem?_cons_zero]) <;> rfl) (fun K hK => ?_) AllReadyH.nil
            go_simp
            (go_at_call 75; refine (HCM.out _ bw).mono ?_; rintro e w2 ⟨rfl, hb2⟩; have hB2 : Below wr.heap.size wr w2 := (by refine Below.trans ?_ (hb2.mono (by first | exact Nat.le_refl _ | omega | (simp; done) | (simp; omega))); exact bw); obtain ⟨hc2, hf2⟩ := bcell hB2; clear hb2)
            refine hK.out _ _ (by simp [go_sem, *]) (fun hHeld => ?_)
            (try simp only [Act.put, pB, pC, pD])
            refine tkT (i := 22) (h := ?_)
            (try simp only [Act.put, pB, pC, pD])
            refine tkT (i := 23) (h := ?_)
            (try simp only [Act.put, pB, pC, pD])
            refine tkT (i := 24) (h := ?_)
            (try simp only [Act.put, pB, pC, pD])
            refine wpAnyH_done (by kernel_rfl) ?_ _
            refine NoPanic.normal ?_
            go_wp2_with fail
            go_ret
            exact ⟨rfl, hbe.out.trans (hB2.mono hbe.out.size)⟩
end Go.Proofs.YtnecdeaikmhanaaGreatDoor
namespace Go.Proofs.YtnecdeaikmhanaaGreatDoor
open Go.RowKit
set_option linter.unusedVariables false
theorem entOk_range {e : Ent} (h : entOkF e = true) : rangeOkF e.1 e.2.1 = true := by
  unfold entOkF at h
  rw [Bool.and_eq_true, Bool.and_eq_true] at h
  exact h.1.1
set_option maxRecDepth 100000 in
set_option maxHeartbeats 4000000 in
theorem implTableOk_any (v : Value) (l : List Ent) (w : World) (hv : EntsAt w v l) :
    Calls Tryz.prog 135 #[v] w fun e w' => e = .returned (.bool (tableOkF l)) ∧ Below w.heap.size w w' := by
  obtain ⟨a, cap, rfl, hc, hm⟩ := hv.form
  obtain ⟨n, hn⟩ : ∃ n, l.length = n := ⟨_, rfl⟩
  rw [hn] at hc hv ⊢
  obtain ⟨B, hB⟩ : ∃ B, tableOkF l = B := ⟨_, rfl⟩
  rw [hB]
  have HB := Lib.hid hB
  have HN := Lib.hid hn
  have H := Lib.hid hv
  clear hB hn hv
  by_cases h12 : 12 < n
  · have e := HB.out
    rw [tableOk_long (by rw [HN.out]; exact h12)] at e
    subst e
    have h12' : (12 : Int) < (n : Int) := by omega
    go_enter Tryz.func135, Tryz.ntmps135
    go_wp2_with fail
    go_ret
    exact ⟨rfl, Below.refl _ _⟩
  · have h12' : ¬ (12 : Int) < (n : Int) := by omega
    go_enter Tryz.func135, Tryz.ntmps135
    go_wp2_with fail
    go_loopg [10] n (fun g i wr => ∃ k : Nat, i = .int .i64 k ∧ k + g = n ∧ Hid (Below w.heap.size w wr) ∧ Hid (∀ j, j < k → entOkF (l.getD j (0, 0, 0)) = true ∧ (j ≠ 0 → ordF (l.getD (j - 1) (0, 0, 0)) (l.getD j (0, 0, 0)) < 0)))
    case atStart => exact ⟨0, rfl, by omega, Lib.hid (Below.refl _ _), Lib.hid fun j hj => by omega⟩
    case round =>
      obtain ⟨k, rfl, hk, hbe, hno⟩ := hrel
      by_cases hg : gk = 0
      · subst hg
        obtain rfl : k = n := by omega
        have e := HB.out
        rw [tableOk_good (by rw [HN.out]; omega) (fun i hi => hno.out i (by rw [HN.out] at hi; exact hi))] at e
        subst e
        go_wp2_with fail
        go_ret
        exact ⟨rfl, hbe.out⟩
      · have hkn : k < n := by omega
        have hkI : (k : Int) < (n : Int) := by omega
        have k0 : (0 : Int) ≤ (k : Int) := by omega
        have hgk : 1 ≤ gk := by omega
        obtain ⟨b, off, rfl, hb, c0, c1, c2⟩ := (H.out.below hbe.out).get k hkn
        obtain ⟨ent, hent⟩ : ∃ e, l.getD k (0, 0, 0) = e := ⟨_, rfl⟩
        rw [hent] at c0 c1 c2
        obtain ⟨f, bt, vi⟩ := ent
        simp only at c0 c1 c2
        obtain ⟨d, hd⟩ : ∃ d, entOkF (f, bt, vi) = d := ⟨_, rfl⟩
        have he : ∀ W, Calls Tryz.prog 165 #[.agg #[.int .i64 f, .int .i64 bt, .int .i64 vi]] W fun e w' => e = .returned (.bool d) ∧ Below W.heap.size W w' := fun W => by rw [← hd]; exact entryOk_any f bt vi W
        have HE := Lib.hid he
        have HENT := Lib.hid hent
        have HD := Lib.hid hd
        have HK := Lib.hid hk
        clear he hent hd hk hg
        cases d
        · have e := HB.out
          rw [tableOk_bad (by rw [HN.out]; exact hkn : k < l.length) (by rw [HENT.out]; exact HD.out)] at e
          subst e
          go_wp2_with fail
          refine wp_region_noPanic ?_
          refine wp_region_held_drew (S := (fun w' => w'.cell? ⟨wr.heap.size, 0, none⟩ = some (.int .i64 f) ∧ w'.cell? ⟨wr.heap.size, 1, none⟩ = some (.int .i64 bt) ∧ w'.cell? ⟨wr.heap.size, 2, none⟩ = some (.int .i64 vi))) (by kernel_rfl) (by simp [go_sem, *]) (fun hHeld => ?_)
          refine tkT (i := 0) (h := ?_)
          (try simp only [Act.put, pB, pC, pD])
          refine wpAnyH_ready (rs := [1]) (by kernel_rfl) (by simp) ?_
          refine AllReadyH.cons (by (simp only [List.getElem?_toArray, List.getElem?_cons_succ, List.getElem?_cons_zero]) <;> rfl) (fun K hK => ?_) AllReadyH.nil
          go_simp
          (go_at_call 165; refine (HE.out _).mono ?_; rintro e w1 ⟨rfl, hb1⟩; have hB1 : Below wr.heap.size wr w1 := (by refine Below.trans ?_ (hb1.mono (by first | exact Nat.le_refl _ | omega | (simp; done) | (simp; omega))); exact bw); have hs1 : wr.heap.size < w1.heap.size := (by have := hb1.size; simp at this; omega); have hbw1 : b < w1.heap.size := Nat.lt_of_lt_of_le hb hB1.size; have x0 := (hb1.cell (p := ⟨wr.heap.size, 0, none⟩) (by simp)); have x1 := (hb1.cell (p := ⟨wr.heap.size, 1, none⟩) (by simp)); have x2 := (hb1.cell (p := ⟨wr.heap.size, 2, none⟩) (by simp)); obtain ⟨hc1, hf1⟩ := bcell hB1; clear hb1)
          refine hK.out _ _ (by simp [go_sem, *]) (fun hHeld => ?_)
          (try simp only [Act.put, pB, pC, pD])
          refine tkT (i := 2) (h := ?_)
          (try simp only [Act.put, pB, pC, pD])
          refine tkT (i := 3) (h := ?_)
          (try simp only [Act.put, pB, pC, pD])
          refine tkS (i := 4) (h := ?_)
          (try simp only [Act.put, pB, pC, pD])
          refine tkS (i := 5) (h := ?_)
          (try simp only [Act.put, pB, pC, pD])
          refine tkS (i := 6) (h := ?_)
          (try simp only [Act.put, pB, pC, pD])
          refine tkS (i := 7) (h := ?_)
          (try simp only [Act.put, pB, pC, pD])
          refine tkS (i := 8) (h := ?_)
          (try simp only [Act.put, pB, pC, pD])
          refine tkS (i := 9) (h := ?_)
          (try simp only [Act.put, pB, pC, pD])
          refine tkS (i := 10) (h := ?_)
          (try simp only [Act.put, pB, pC, pD])
          refine tkS (i := 11) (h := ?_)
          (try simp only [Act.put, pB, pC, pD])
          refine tkS (i := 12) (h := ?_)
          (try simp only [Act.put, pB, pC, pD])
          refine tkS (i := 13) (h := ?_)
          (try simp only [Act.put, pB, pC, pD])
          refine tkS (i := 14) (h := ?_)
          (try simp only [Act.put, pB, pC, pD])
          refine tkS (i := 15) (h := ?_)
          (try simp only [Act.put, pB, pC, pD])
          refine tkS (i := 16) (h := ?_)
          (try simp only [Act.put, pB, pC, pD])
          refine tkS (i := 17) (h := ?_)
          (try simp only [Act.put, pB, pC, pD])
          refine tkT (i := 18) (h := ?_)
          (try simp only [Act.put, pB, pC, pD])
          refine wpAnyH_done (by kernel_rfl) ?_ _
          refine NoPanic.normal ?_
          go_wp2_with fail
          go_ret
          exact ⟨rfl, hbe.out.trans (hB1.mono hbe.out.size)⟩
        · by_cases hk0 : k = 0
          · subst hk0
            simp only [Nat.zero_mul, Nat.add_zero] at c0 c1 c2
            go_wp2_with fail
            refine wp_region_noPanic ?_
            refine wp_region_held_drew (S := (fun w' => w'.cell? ⟨wr.heap.size, 0, none⟩ = some (.int .i64 f) ∧ w'.cell? ⟨wr.heap.size, 1, none⟩ = some (.int .i64 bt) ∧ w'.cell? ⟨wr.heap.size, 2, none⟩ = some (.int .i64 vi))) (by kernel_rfl) (by simp [go_sem, *]) (fun hHeld => ?_)
            refine tkT (i := 0) (h := ?_)
            (try simp only [Act.put, pB, pC, pD])
            refine wpAnyH_ready (rs := [1]) (by kernel_rfl) (by simp) ?_
            refine AllReadyH.cons (by (simp only [List.getElem?_toArray, List.getElem?_cons_succ, List.getElem?_cons_zero]) <;> rfl) (fun K hK => ?_) AllReadyH.nil
            go_simp
            (go_at_call 165; refine (HE.out _).mono ?_; rintro e w1 ⟨rfl, hb1⟩; have hB1 : Below wr.heap.size wr w1 := (by refine Below.trans ?_ (hb1.mono (by first | exact Nat.le_refl _ | omega | (simp; done) | (simp; omega))); exact bw); have hs1 : wr.heap.size < w1.heap.size := (by have := hb1.size; simp at this; omega); have hbw1 : b < w1.heap.size := Nat.lt_of_lt_of_le hb hB1.size; have x0 := (hb1.cell (p := ⟨wr.heap.size, 0, none⟩) (by simp)); have x1 := (hb1.cell (p := ⟨wr.heap.size, 1, none⟩) (by simp)); have x2 := (hb1.cell (p := ⟨wr.heap.size, 2, none⟩) (by simp)); obtain ⟨hc1, hf1⟩ := bcell hB1; clear hb1)
            refine hK.out _ _ (by simp [go_sem, *]) (fun hHeld => ?_)
            (try simp only [Act.put, pB, pC, pD])
            refine tkT (i := 2) (h := ?_)
            (try simp only [Act.put, pB, pC, pD])
            refine tkT (i := 3) (h := ?_)
            (try simp only [Act.put, pB, pC, pD])
            refine tkT (i := 4) (h := ?_)
            (try simp only [Act.put, pB, pC, pD])
            refine tkT (i := 5) (h := ?_)
            (try simp only [Act.put, pB, pC, pD])
            refine tkT (i := 6) (h := ?_)
            (try simp only [Act.put, pB, pC, pD])
            refine tkS (i := 7) (h := ?_)
            (try simp only [Act.put, pB, pC, pD])
            refine tkS (i := 8) (h := ?_)
            (try simp only [Act.put, pB, pC, pD])
            refine tkS (i := 9) (h := ?_)
            (try simp only [Act.put, pB, pC, pD])
            refine tkS (i := 10) (h := ?_)
            (try simp only [Act.put, pB, pC, pD])
            refine tkS (i := 11) (h := ?_)
            (try simp only [Act.put, pB, pC, pD])
            refine tkS (i := 12) (h := ?_)
            (try simp only [Act.put, pB, pC, pD])
            refine tkS (i := 13) (h := ?_)
            (try simp only [Act.put, pB, pC, pD])
            refine tkS (i := 14) (h := ?_)
            (try simp only [Act.put, pB, pC, pD])
            refine tkS (i := 15) (h := ?_)
            (try simp only [Act.put, pB, pC, pD])
            refine tkS (i := 16) (h := ?_)
            (try simp only [Act.put, pB, pC, pD])
            refine tkT (i := 17) (h := ?_)
            (try simp only [Act.put, pB, pC, pD])
            refine tkT (i := 18) (h := ?_)
            (try simp only [Act.put, pB, pC, pD])
            refine wpAnyH_done (by kernel_rfl) ?_ _
            refine NoPanic.normal ?_
            go_wp2_with fail
            go_roundg (gk - 1)
            case measure => omega
            case rel => exact ⟨1, by go_num, by have := HK.out; omega, Lib.hid (hbe.out.trans (hB1.mono hbe.out.size)), Lib.hid fun j hj => by
              obtain rfl : j = 0 := by omega
              exact ⟨by rw [HENT.out]; exact HD.out, fun h => absurd rfl h⟩⟩
          · obtain ⟨j, hj⟩ : ∃ j, j = k - 1 := ⟨_, rfl⟩
            have hji : (k : Int) - 1 = (j : Int) := by omega
            have i3 : IntKind.i64.wrap (j : Int) = (j : Int) := IntWalk.i64_in _ (by omega)
            have j0 : (0 : Int) ≤ (j : Int) := by omega
            have hjI : (j : Int) < (n : Int) := by omega
            have hkp : (0 : Int) < (k : Int) := by omega
            have hkp2 : 0 < k := by omega
            have hkd : decide ((0 : Int) < (k : Int)) = true := decide_eq_true hkp
            obtain ⟨b', off', e, _, p0, p1, p2⟩ := (H.out.below hbe.out).get j (by omega)
            simp only [Option.some.injEq, Addr.mk.injEq] at e
            obtain ⟨rfl, rfl, _⟩ := e
            obtain ⟨pent, hpent⟩ : ∃ e, l.getD j (0, 0, 0) = e := ⟨_, rfl⟩
            rw [hpent] at p0 p1 p2
            have hprev := (hno.out j (by omega)).1
            rw [hpent] at hprev
            obtain ⟨f', bt', vi'⟩ := pent
            simp only at p0 p1 p2
            obtain ⟨c, hcc⟩ : ∃ c, rcmpF f' bt' f bt = c := ⟨_, rfl⟩
            have hcm : ∀ W, Calls Tryz.prog 59 #[.agg #[.int .i64 f', .int .i64 bt'], .agg #[.int .i64 f, .int .i64 bt]] W fun e w' => e = .returned (.int .i64 c) ∧ Below W.heap.size W w' := fun W => by
              rw [← hcc]; exact rangeCmp_any f' bt' f bt (entOk_range hprev) (entOk_range HD.out) W
            have hord : ordF (l.getD (k - 1) (0, 0, 0)) (l.getD k (0, 0, 0)) = c := by rw [HENT.out, ← hj, hpent]; exact hcc
            have HORD := Lib.hid hord
            have HCM := Lib.hid hcm
            have HK0 := Lib.hid hk0
            clear hcc hcm hord hpent hk0 hj p2 hprev
            by_cases hcn : c < 0
            · have hcd : decide (0 ≤ c) = false := decide_eq_false (by omega)
              go_wp2_with fail
              refine wp_region_noPanic ?_
              refine wp_region_held_drew (S := (fun w' => w'.cell? ⟨wr.heap.size, 0, none⟩ = some (.int .i64 f) ∧ w'.cell? ⟨wr.heap.size, 1, none⟩ = some (.int .i64 bt) ∧ w'.cell? ⟨wr.heap.size, 2, none⟩ = some (.int .i64 vi) ∧ w'.cell? ⟨b, off + j * 3, none⟩ = some (.int .i64 f') ∧ w'.cell? ⟨b, off + j * 3 + 1, none⟩ = some (.int .i64 bt'))) (by kernel_rfl) (by simp [go_sem, *]) (fun hHeld => ?_)
              refine tkT (i := 0) (h := ?_)
              (try simp only [Act.put, pB, pC, pD])
              refine wpAnyH_ready (rs := [1]) (by kernel_rfl) (by simp) ?_
              refine AllReadyH.cons (by (simp only [List.getElem?_toArray, List.getElem?_cons_succ, List.getElem?_cons_zero]) <;> rfl) (fun K hK => ?_) AllReadyH.nil
              go_simp
              (go_at_call 165; refine (HE.out _).mono ?_; rintro e w1 ⟨rfl, hb1⟩; have hB1 : Below wr.heap.size wr w1 := (by refine Below.trans ?_ (hb1.mono (by first | exact Nat.le_refl _ | omega | (simp; done) | (simp; omega))); exact bw); have hs1 : wr.heap.size < w1.heap.size := (by have := hb1.size; simp at this; omega); have hbw1 : b < w1.heap.size := Nat.lt_of_lt_of_le hb hB1.size; have x0 := (hb1.cell (p := ⟨wr.heap.size, 0, none⟩) (by simp)); have x1 := (hb1.cell (p := ⟨wr.heap.size, 1, none⟩) (by simp)); have x2 := (hb1.cell (p := ⟨wr.heap.size, 2, none⟩) (by simp)); obtain ⟨hc1, hf1⟩ := bcell hB1; clear hb1)
              refine hK.out _ _ (by simp [go_sem, *]) (fun hHeld => ?_)
              (try simp only [Act.put, pB, pC, pD])
              refine tkT (i := 2) (h := ?_)
              (try simp only [Act.put, pB, pC, pD])
              refine tkT (i := 3) (h := ?_)
              (try simp only [Act.put, pB, pC, pD])
              refine tkT (i := 4) (h := ?_)
              (try simp only [Act.put, pB, pC, pD])
              refine tkT (i := 5) (h := ?_)
              (try simp only [Act.put, pB, pC, pD])
              refine tkT (i := 6) (h := ?_)
              (try simp only [Act.put, pB, pC, pD])
              refine tkT (i := 7) (h := ?_)
              (try simp only [Act.put, pB, pC, pD])
              refine tkT (i := 8) (h := ?_)
              (try simp only [Act.put, pB, pC, pD])
              refine tkT (i := 9) (h := ?_)
              (try simp only [Act.put, pB, pC, pD])
              refine tkT (i := 10) (h := ?_)
              (try simp only [Act.put, pB, pC, pD])
              refine tkT (i := 11) (h := ?_)
              (try simp only [Act.put, pB, pC, pD])
              refine tkT (i := 12) (h := ?_)
              (try simp only [Act.put, pB, pC, pD])
              refine tkT (i := 13) (h := ?_)
              (try simp only [Act.put, pB, pC, pD])
              refine tkT (i := 14) (h := ?_)
              (try simp only [Act.put, pB, pC, pD])
              refine wpAnyH_ready (rs := [15]) (by kernel_rfl) (by simp) ?_
              refine AllReadyH.cons (by (simp only [List.getElem?_toArray, List.getElem?_cons_succ, List.getElem?_cons_zero]) <;> rfl) (fun K hK => ?_) AllReadyH.nil
              go_simp
              (go_at_call 59; refine (HCM.out _).mono ?_; rintro e w2 ⟨rfl, hb2⟩; have hB2 : Below wr.heap.size wr w2 := (by refine Below.trans ?_ (hb2.mono (by first | exact Nat.le_refl _ | omega | (simp; done) | (simp; omega))); exact bw); have y0 := (hb2.cell (p := ⟨wr.heap.size, 0, none⟩) (by simp; omega)); have y1 := (hb2.cell (p := ⟨wr.heap.size, 1, none⟩) (by simp; omega)); have y2 := (hb2.cell (p := ⟨wr.heap.size, 2, none⟩) (by simp; omega)); obtain ⟨hc2, hf2⟩ := bcell hB2; clear hb2)
              refine hK.out _ _ (by simp [go_sem, *]) (fun hHeld => ?_)
              (try simp only [Act.put, pB, pC, pD])
              refine tkT (i := 16) (h := ?_)
              (try simp only [Act.put, pB, pC, pD])
              refine tkT (i := 17) (h := ?_)
              (try simp only [Act.put, pB, pC, pD])
              refine tkT (i := 18) (h := ?_)
              (try simp only [Act.put, pB, pC, pD])
              refine wpAnyH_done (by kernel_rfl) ?_ _
              refine NoPanic.normal ?_
              go_wp2_with fail
              go_roundg (gk - 1)
              case measure => omega
              case rel => exact ⟨k + 1, by go_num, by have := HK.out; omega, Lib.hid (hbe.out.trans (hB2.mono hbe.out.size)), Lib.hid fun j hj => by
                by_cases hjk : j = k
                · subst hjk
                  exact ⟨by rw [HENT.out]; exact HD.out, fun _ => by rw [HORD.out]; exact hcn⟩
                · exact hno.out j (by omega)⟩
            · have e := HB.out
              rw [tableOk_ord (by rw [HN.out]; exact hkn : k < l.length) HK0.out (by rw [HORD.out]; omega)] at e
              subst e
              have hcd : decide (0 ≤ c) = true := decide_eq_true (by omega)
              go_wp2_with fail
              refine wp_region_noPanic ?_
              refine wp_region_held_drew (S := (fun w' => w'.cell? ⟨wr.heap.size, 0, none⟩ = some (.int .i64 f) ∧ w'.cell? ⟨wr.heap.size, 1, none⟩ = some (.int .i64 bt) ∧ w'.cell? ⟨wr.heap.size, 2, none⟩ = some (.int .i64 vi) ∧ w'.cell? ⟨b, off + j * 3, none⟩ = some (.int .i64 f') ∧ w'.cell? ⟨b, off + j * 3 + 1, none⟩ = some (.int .i64 bt'))) (by kernel_rfl) (by simp [go_sem, *]) (fun hHeld => ?_)
              refine tkT (i := 0) (h := ?_)
              (try simp only [Act.put, pB, pC, pD])
              refine wpAnyH_ready (rs := [1]) (by kernel_rfl) (by simp) ?_
              refine AllReadyH.cons (by (simp only [List.getElem?_toArray, List.getElem?_cons_succ, List.getElem?_cons_zero]) <;> rfl) (fun K hK => ?_) AllReadyH.nil
              go_simp
              (go_at_call 165; refine (HE.out _).mono ?_; rintro e w1 ⟨rfl, hb1⟩; have hB1 : Below wr.heap.size wr w1 := (by refine Below.trans ?_ (hb1.mono (by first | exact Nat.le_refl _ | omega | (simp; done) | (simp; omega))); exact bw); have hs1 : wr.heap.size < w1.heap.size := (by have := hb1.size; simp at this; omega); have hbw1 : b < w1.heap.size := Nat.lt_of_lt_of_le hb hB1.size; have x0 := (hb1.cell (p := ⟨wr.heap.size, 0, none⟩) (by simp)); have x1 := (hb1.cell (p := ⟨wr.heap.size, 1, none⟩) (by simp)); have x2 := (hb1.cell (p := ⟨wr.heap.size, 2, none⟩) (by simp)); obtain ⟨hc1, hf1⟩ := bcell hB1; clear hb1)
              refine hK.out _ _ (by simp [go_sem, *]) (fun hHeld => ?_)
              (try simp only [Act.put, pB, pC, pD])
              refine tkT (i := 2) (h := ?_)
              (try simp only [Act.put, pB, pC, pD])
              refine tkT (i := 3) (h := ?_)
              (try simp only [Act.put, pB, pC, pD])
              refine tkT (i := 4) (h := ?_)
              (try simp only [Act.put, pB, pC, pD])
              refine tkT (i := 5) (h := ?_)
              (try simp only [Act.put, pB, pC, pD])
              refine tkT (i := 6) (h := ?_)
              (try simp only [Act.put, pB, pC, pD])
              refine tkT (i := 7) (h := ?_)
              (try simp only [Act.put, pB, pC, pD])
              refine tkT (i := 8) (h := ?_)
              (try simp only [Act.put, pB, pC, pD])
              refine tkT (i := 9) (h := ?_)
              (try simp only [Act.put, pB, pC, pD])
              refine tkT (i := 10) (h := ?_)
              (try simp only [Act.put, pB, pC, pD])
              refine tkT (i := 11) (h := ?_)
              (try simp only [Act.put, pB, pC, pD])
              refine tkT (i := 12) (h := ?_)
              (try simp only [Act.put, pB, pC, pD])
              refine tkT (i := 13) (h := ?_)
              (try simp only [Act.put, pB, pC, pD])
              refine tkT (i := 14) (h := ?_)
              (try simp only [Act.put, pB, pC, pD])
              refine wpAnyH_ready (rs := [15]) (by kernel_rfl) (by simp) ?_
              refine AllReadyH.cons (by (simp only [List.getElem?_toArray, List.getElem?_cons_succ, List.getElem?_cons_zero]) <;> rfl) (fun K hK => ?_) AllReadyH.nil
              go_simp
              (go_at_call 59; refine (HCM.out _).mono ?_; rintro e w2 ⟨rfl, hb2⟩; have hB2 : Below wr.heap.size wr w2 := (by refine Below.trans ?_ (hb2.mono (by first | exact Nat.le_refl _ | omega | (simp; done) | (simp; omega))); exact bw); have y0 := (hb2.cell (p := ⟨wr.heap.size, 0, none⟩) (by simp; omega)); have y1 := (hb2.cell (p := ⟨wr.heap.size, 1, none⟩) (by simp; omega)); have y2 := (hb2.cell (p := ⟨wr.heap.size, 2, none⟩) (by simp; omega)); obtain ⟨hc2, hf2⟩ := bcell hB2; clear hb2)
              refine hK.out _ _ (by simp [go_sem, *]) (fun hHeld => ?_)
              (try simp only [Act.put, pB, pC, pD])
              refine tkT (i := 16) (h := ?_)
              (try simp only [Act.put, pB, pC, pD])
              refine tkT (i := 17) (h := ?_)
              (try simp only [Act.put, pB, pC, pD])
              refine tkT (i := 18) (h := ?_)
              (try simp only [Act.put, pB, pC, pD])
              refine wpAnyH_done (by kernel_rfl) ?_ _
              refine NoPanic.normal ?_
              go_wp2_with fail
              go_ret
              exact ⟨rfl, hbe.out.trans (hB2.mono hbe.out.size)⟩
end Go.Proofs.YtnecdeaikmhanaaGreatDoor
