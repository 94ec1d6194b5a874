/- The laws' marks of rows and of grids; heldIntS. -/
import Derived.Test.YtlkchhedlbaomaaRanksMark
import Derived.Deep.LoopGhost
namespace Go.Proofs.Ytlkchhedlbaomaa
open Go.RowKit
set_option linter.unusedVariables false

theorem owns_marked {w w' : World} {g lo hi n : Nat} {T : TypeId} {v : Value} {vs : List Value} (h : w.ownsRow g T 1 v n vs) (hT : T ≠ 3) (hm : Marked lo hi w w') : w'.ownsRow g T 1 v n vs := by
  refine ⟨h.1, ?_⟩
  rcases h.2 with h' | ⟨g', cap, cur, h1, h2, h3, h4⟩
  · exact .inl h'
  · exact .inr ⟨g', cap, cur, h1, h2, (hm.other _ _ _ _ h3 hT).trans h3, h4⟩
def RowsHas (w : World) (lo hi : Nat) (v : Value) (ll : List (List Int)) : Prop :=
  ∃ (g : Nat) (vs : List Value), v = .slice (some ⟨g, 0, none⟩) ll.length ll.length ∧ vs.length = ll.length ∧ w.ownsRow g 27 1 v ll.length vs ∧ ∀ i, i < ll.length → HasInts w lo hi (vs.getD i undef) (ll.getD i []).length
theorem RowsHas.marked {w w' : World} {lo hi lo' hi' : Nat} {v : Value} {ll : List (List Int)} (h : RowsHas w lo hi v ll) (hm : Marked lo' hi' w w') : RowsHas w' lo hi v ll := by
  obtain ⟨g, vs, h1, h2, h3, h4⟩ := h
  exact ⟨g, vs, h1, h2, owns_marked h3 (by decide) hm, fun i hi => (h4 i hi).marked hm⟩
def GridHas (w : World) (lo hi : Nat) (v : Value) (ll : List (List (List Int))) : Prop :=
  ∃ (g : Nat) (vs : List Value), v = .slice (some ⟨g, 0, none⟩) ll.length ll.length ∧ vs.length = ll.length ∧ w.ownsRow g 26 1 v ll.length vs ∧ ∀ i, i < ll.length → RowsHas w lo hi (vs.getD i undef) (ll.getD i [])
theorem GridHas.marked {w w' : World} {lo hi lo' hi' : Nat} {v : Value} {ll : List (List (List Int))} (h : GridHas w lo hi v ll) (hm : Marked lo' hi' w w') : GridHas w' lo hi v ll := by
  obtain ⟨g, vs, h1, h2, h3, h4⟩ := h
  exact ⟨g, vs, h1, h2, owns_marked h3 (by decide) hm, fun i hi => (h4 i hi).marked hm⟩
theorem HasInts.lo {w : World} {lo lo' hi n : Nat} {v : Value} (h : HasInts w lo hi v n) (hl : lo' ≤ lo) : HasInts w lo' hi v n := by
  rcases h with h | ⟨g, cap, cur, h1, h2, h3⟩
  · exact .inl h
  · exact .inr ⟨g, cap, cur, h1, Nat.le_trans hl h2, h3⟩
theorem RowsNew.has {w : World} {lo hi : Nat} {v : Value} {ll : List (List Int)} (h : RowsNew w lo v ll) (hh : w.heap.size ≤ hi) : RowsHas w lo hi v ll := by
  obtain ⟨g, vs, h1, h2, h3, h4, h5⟩ := h
  exact ⟨g, vs, h2, h3, h4, fun i hi => ((h5 i hi).has hh).lo (by omega)⟩
theorem GridNew.has {w : World} {lo hi : Nat} {v : Value} {ll : List (List (List Int))} (h : GridNew w lo v ll) (hh : w.heap.size ≤ hi) : GridHas w lo hi v ll := by
  obtain ⟨g, vs, h1, h2, h3, h4, h5⟩ := h
  exact ⟨g, vs, h2, h3, h4, fun i hi => ((h5 i hi).lift (by omega)).has hh⟩
theorem HasInts.below {w w' : World} {lo hi n : Nat} {v : Value} (h : HasInts w lo hi v n) (hb : Below w.heap.size w w') : HasInts w' lo hi v n := by
  rcases h with h | ⟨g, cap, cur, h1, h2, h3, h4, h5⟩
  · exact .inl h
  · refine .inr ⟨g, cap, cur, h1, h2, h3, ?_, h5⟩
    rw [hb.block g ?_]; exact h4
    by_cases hlt : g < w.heap.size
    · exact hlt
    · rw [Array.getElem?_eq_none (by omega)] at h4; simp at h4
theorem RowsHas.below {w w' : World} {lo hi : Nat} {v : Value} {ll : List (List Int)} (h : RowsHas w lo hi v ll) (hb : Below w.heap.size w w') : RowsHas w' lo hi v ll := by
  obtain ⟨g, vs, h1, h2, h3, h4⟩ := h
  exact ⟨g, vs, h1, h2, owns_belowR h3 hb, fun i hi => (h4 i hi).below hb⟩
theorem GridHas.below {w w' : World} {lo hi : Nat} {v : Value} {ll : List (List (List Int))} (h : GridHas w lo hi v ll) (hb : Below w.heap.size w w') : GridHas w' lo hi v ll := by
  obtain ⟨g, vs, h1, h2, h3, h4⟩ := h
  exact ⟨g, vs, h1, h2, owns_belowR h3 hb, fun i hi => (h4 i hi).below hb⟩

def MarksPost (lo hi : Nat) (most : Int) (w : World) (e : Ending) (w' : World) : Prop := ∃ k : Int, e = .returned (.int .i64 k) ∧ 0 ≤ k ∧ k ≤ most ∧ Marked lo hi w w'
theorem marks1 (lo hi : Nat) (v : Value) (l : List Int) (k : Int) (w : World) (h : HasInts w lo hi v l.length) (hs : Small1 l) (h0 : 0 ≤ k) (hk : k ≤ 2305843009213693952) :
    Calls Try.prog 46 #[v, .int .i64 k] w (MarksPost lo hi (k + 1048576) w) := by
  unfold Small1 at hs
  exact (markIntS_any lo hi v l.length k w h h0 (by omega)).mono fun e w' ⟨h1, h2, _⟩ => ⟨_, h1, by omega, by omega, h2⟩

set_option maxHeartbeats 2000000 in
theorem marks2 (lo hi : Nat) (v : Value) (l : List (List Int)) (k : Int) (w : World) (h : RowsHas w lo hi v l) (hs : Small2 l) (h0 : 0 ≤ k) (hk : k ≤ 1152921504706846976) :
    Calls Try.prog 47 #[v, .int .i64 k] w (MarksPost lo hi (k + 1099511627776) w) := by
  obtain ⟨g, vs, rfl, hvl, hown, hin⟩ := h
  obtain ⟨hs, hsi⟩ := hs
  obtain ⟨n, hn⟩ : ∃ n, l.length = n := ⟨_, rfl⟩
  rw [hn] at hvl hown hin hs hsi ⊢
  have HN := Lib.hid hn
  have HO := Lib.hid hown
  have HI := Lib.hid hin
  have HV := Lib.hid hvl
  have HSI := Lib.hid hsi
  clear hn hown hin hvl hsi
  go_enter Try.func47, Try.ntmps47
  go_wp2_with fail
  go_loopg [1, 5] n (fun gh s i wr => ∃ (j : Nat) (r : Int), i = .int .i64 j ∧ s = .int .i64 r ∧ j + gh = n ∧ 0 ≤ r ∧ r ≤ k + j * 1048576 ∧ Hid (Marked lo hi w wr))
  case atStart => exact ⟨0, k, rfl, rfl, by omega, h0, by omega, Lib.hid (Marked.refl _ _ _)⟩
  case round =>
    obtain ⟨j, r, rfl, rfl, hj, r0, r1, hm⟩ := hrel
    by_cases hg0 : gk = 0
    · subst hg0
      obtain rfl : j = n := by omega
      go_wp2_with fail
      go_ret
      exact ⟨r, rfl, r0, by omega, hm.out⟩
    · have hjn : j < n := by omega
      have hown := owns_marked HO.out (by decide) hm.out
      have hx : wr.cell? ⟨g, j, none⟩ = some (vs.getD j undef) := by rw [hown.cellAt j (by omega)]; simp [List.getElem?_eq_getElem (by rw [HV.out]; omega : j < vs.length)]
      have hcall := marks1 lo hi (vs.getD j undef) (l.getD j []) r wr ((HI.out j hjn).marked hm.out) (HSI.out j hjn) r0 (by omega)
      obtain ⟨y, hy⟩ : ∃ y, vs.getD j undef = y := ⟨_, rfl⟩
      rw [hy] at hx hcall
      have HC := Lib.hid hcall
      have HJ := Lib.hid hj
      clear hown hy hcall hj
      go_wp2_with (go_at_call 46; refine (HC.out).mono ?_; rintro e w1 ⟨r', rfl, q0, q1, hm1⟩; have HM1 := Lib.hid hm1; clear hm1)
      go_roundg (gk - 1)
      case measure => omega
      case rel => exact ⟨j + 1, r', by go_num, rfl, by have := HJ.out; omega, q0, by omega, Lib.hid (hm.out.trans HM1.out)⟩

set_option maxHeartbeats 2000000 in
theorem marks3 (lo hi : Nat) (v : Value) (l : List (List (List Int))) (k : Int) (w : World) (h : GridHas w lo hi v l) (hs : Small3 l) (h0 : 0 ≤ k) (hk : k ≤ 1000) :
    Calls Try.prog 45 #[v, .int .i64 k] w (MarksPost lo hi (k + 1152921504606846976) w) := by
  obtain ⟨g, vs, rfl, hvl, hown, hin⟩ := h
  obtain ⟨hs, hsi⟩ := hs
  obtain ⟨n, hn⟩ : ∃ n, l.length = n := ⟨_, rfl⟩
  rw [hn] at hvl hown hin hs hsi ⊢
  have HN := Lib.hid hn
  have HO := Lib.hid hown
  have HI := Lib.hid hin
  have HV := Lib.hid hvl
  have HSI := Lib.hid hsi
  clear hn hown hin hvl hsi
  go_enter Try.func45, Try.ntmps45
  go_wp2_with fail
  go_loopg [1, 5] n (fun gh s i wr => ∃ (j : Nat) (r : Int), i = .int .i64 j ∧ s = .int .i64 r ∧ j + gh = n ∧ 0 ≤ r ∧ r ≤ k + j * 1099511627776 ∧ Hid (Marked lo hi w wr))
  case atStart => exact ⟨0, k, rfl, rfl, by omega, h0, by omega, Lib.hid (Marked.refl _ _ _)⟩
  case round =>
    obtain ⟨j, r, rfl, rfl, hj, r0, r1, hm⟩ := hrel
    by_cases hg0 : gk = 0
    · subst hg0
      obtain rfl : j = n := by omega
      go_wp2_with fail
      go_ret
      exact ⟨r, rfl, r0, by omega, hm.out⟩
    · have hjn : j < n := by omega
      have hown := owns_marked HO.out (by decide) hm.out
      have hx : wr.cell? ⟨g, j, none⟩ = some (vs.getD j undef) := by rw [hown.cellAt j (by omega)]; simp [List.getElem?_eq_getElem (by rw [HV.out]; omega : j < vs.length)]
      have hcall := marks2 lo hi (vs.getD j undef) (l.getD j []) r wr ((HI.out j hjn).marked hm.out) (HSI.out j hjn) r0 (by omega)
      obtain ⟨y, hy⟩ : ∃ y, vs.getD j undef = y := ⟨_, rfl⟩
      rw [hy] at hx hcall
      have HC := Lib.hid hcall
      have HJ := Lib.hid hj
      clear hown hy hcall hj
      go_wp2_with (go_at_call 47; refine (HC.out).mono ?_; rintro e w1 ⟨r', rfl, q0, q1, hm1⟩; have HM1 := Lib.hid hm1; clear hm1)
      go_roundg (gk - 1)
      case measure => omega
      case rel => exact ⟨j + 1, r', by go_num, rfl, by have := HJ.out; omega, q0, by omega, Lib.hid (hm.out.trans HM1.out)⟩

theorem numsFrom_getD (k : Int) (n i : Nat) (hi : i < n) : (numsFrom k n).getD i 0 = k + i := by simp [numsFrom, hi]
theorem numsFrom_len (k : Int) (n : Nat) : (numsFrom k n).length = n := by simp [numsFrom]
set_option maxHeartbeats 2000000 in
theorem heldIntS_any (v : Value) (n : Nat) (k : Int) (w : World) (h : IntsAt w v (numsFrom k n)) (h0 : 0 ≤ k) (hk : k + n ≤ 4611686018427387904) :
    Calls Try.prog 49 #[v, .int .i64 k] w fun e w' => e = .returned (.int .i64 (k + n)) ∧ w' = w := by
  obtain ⟨a, cap, rfl, hc, hm⟩ := h.form
  rw [numsFrom_len] at hc h ⊢
  have H := Lib.hid h
  clear h
  go_enter Try.func49, Try.ntmps49
  go_wp2_with fail
  go_loopg [1, 5] n (fun gh s i wr => ∃ (j : Nat), i = .int .i64 j ∧ s = .int .i64 (k + j) ∧ j + gh = n ∧ wr = w)
  case atStart => exact ⟨0, rfl, by simp, by omega, rfl⟩
  case round =>
    obtain ⟨j, rfl, rfl, hj, rfl⟩ := hrel
    by_cases hg0 : gk = 0
    · subst hg0
      obtain rfl : j = n := by omega
      go_wp2_with fail
      go_ret
      exact ⟨rfl, rfl⟩
    · have hjn : j < n := by omega
      obtain ⟨b, off, rfl, hb, hx⟩ := H.out.get j hjn
      rw [numsFrom_getD k n j hjn] at hx
      have HJ := Lib.hid hj
      clear hj
      have hne : ((k + (j : Int)) != (k + (j : Int))) = false := by simp
      go_wp2_with fail
      go_roundg (gk - 1)
      case measure => omega
      case rel => exact ⟨j + 1, by go_num, by go_num, by have := HJ.out; omega, rfl⟩
end Go.Proofs.Ytlkchhedlbaomaa
