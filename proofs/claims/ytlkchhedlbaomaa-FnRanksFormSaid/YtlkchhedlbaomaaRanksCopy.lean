/- The laws' own copies of slices: toIntS, toIntSS, toIntSSS. -/
import Derived.Test.YtlkchhedlbaomaaRanksSl
import Derived.Deep.LoopGhost
namespace Go.Proofs.Ytlkchhedlbaomaa
open Go.RowKit
set_option linter.unusedVariables false

theorem owns_belowR {W w1 : World} {B : Nat} {e : TypeId} {size n : Nat} {v : Value} {xs : List Value} (h : W.ownsRow B e size v n xs) (hb : Below W.heap.size W w1) : w1.ownsRow B e size v n xs :=
  h.kept (row := none) ⟨hb.os, hb.tape, hb.output, hb.size, fun k hk _ => hb.block k hk⟩ (by cases h : v.ownBlock <;> simp)
theorem OwnInts.below {W w1 : World} {B : Nat} {v : Value} {l : List Int} (h : OwnInts W B v l) (hb : Below W.heap.size W w1) : OwnInts w1 B v l := owns_belowR h hb
theorem OwnInts.kept {W w1 : World} {g : Nat} {v : Value} {l : List Int} (h : OwnInts W (g + 1) v l) (hg : W.grownBy w1 (some g)) : OwnInts w1 (g + 1) v l := by
  refine World.ownsRow.kept h hg ?_
  cases hv : v.ownBlock with
  | none => exact .inl rfl
  | some k => right; have := (World.ownsRow.lt h k hv).1; intro e; cases e; omega
def RowsNew (w : World) (lo : Nat) (v : Value) (ll : List (List Int)) : Prop :=
  ∃ (g : Nat) (vs : List Value), lo ≤ g ∧ v = .slice (some ⟨g, 0, none⟩) ll.length ll.length ∧ vs.length = ll.length ∧ w.ownsRow g 27 1 v ll.length vs ∧ ∀ i, i < ll.length → OwnInts w (g + 1) (vs.getD i undef) (ll.getD i [])
theorem RowsNew.below {W w1 : World} {B : Nat} {v : Value} {l : List (List Int)} (h : RowsNew W B v l) (hb : Below W.heap.size W w1) : RowsNew w1 B v l := by
  obtain ⟨g, vs, h1, h2, h3, h4, h5⟩ := h
  exact ⟨g, vs, h1, h2, h3, owns_belowR h4 hb, fun i hi => (h5 i hi).below hb⟩
theorem RowsNew.kept {W w1 : World} {g : Nat} {v : Value} {l : List (List Int)} (h : RowsNew W (g + 1) v l) (hg : W.grownBy w1 (some g)) : RowsNew w1 (g + 1) v l := by
  obtain ⟨g', vs, h1, rfl, h3, h4, h5⟩ := h
  refine ⟨g', vs, h1, rfl, h3, h4.kept hg (.inr (by simp [Value.ownBlock]; omega)), fun i hi => ?_⟩
  have h := h5 i hi
  refine World.ownsRow.kept h hg ?_
  cases hv : (vs.getD i undef).ownBlock with
  | none => exact .inl rfl
  | some k => right; have := (World.ownsRow.lt h k hv).1; intro e; cases e; omega
def GridNew (w : World) (lo : Nat) (v : Value) (lll : List (List (List Int))) : Prop :=
  ∃ (g : Nat) (vs : List Value), lo ≤ g ∧ v = .slice (some ⟨g, 0, none⟩) lll.length lll.length ∧ vs.length = lll.length ∧ w.ownsRow g 26 1 v lll.length vs ∧ ∀ i, i < lll.length → RowsNew w (g + 1) (vs.getD i undef) (lll.getD i [])
theorem GridNew.below {W w1 : World} {B : Nat} {v : Value} {l : List (List (List Int))} (h : GridNew W B v l) (hb : Below W.heap.size W w1) : GridNew w1 B v l := by
  obtain ⟨g, vs, h1, h2, h3, h4, h5⟩ := h
  exact ⟨g, vs, h1, h2, h3, owns_belowR h4 hb, fun i hi => (h5 i hi).below hb⟩
theorem ownsRow_slice {w : World} {g n : Nat} {T : TypeId} {vs : List Value} (hl : vs.length = n) (h : w.ownsRow g T 1 (.slice (some ⟨g, 0, none⟩) n n) n vs) : SliceAt w (.slice (some ⟨g, 0, none⟩) n n) n (fun i => vs.getD i undef) := by
  have hb := (World.ownsRow.lt h g rfl).2
  rcases h.2 with ⟨h', _⟩ | ⟨g', cap', cur, h', _, hg, hnc, hcm, hcs, htake⟩
  · simp at h'
  · simp only [Value.slice.injEq, Option.some.injEq, Addr.mk.injEq, and_true, true_and] at h'
    obtain ⟨rfl, rfl⟩ := h'
    refine ⟨_, n, rfl, Nat.le_refl _, hcm, .inr ⟨g, 0, rfl, hb, fun i hi => ?_⟩⟩
    rw [Nat.zero_add, h.cellAt i (by omega)]
    simp [List.getElem?_eq_getElem (by omega : i < vs.length)]
theorem RowsNew.rows {w : World} {lo : Nat} {v : Value} {ll : List (List Int)} (h : RowsNew w lo v ll) : RowsAt w v ll := by
  obtain ⟨g, vs, h1, rfl, h3, h4, h5⟩ := h
  exact ⟨_, ownsRow_slice h3 h4, fun i hi => (h5 i hi).ints⟩
theorem GridNew.grid {w : World} {lo : Nat} {v : Value} {ll : List (List (List Int))} (h : GridNew w lo v ll) : GridAt w v ll := by
  obtain ⟨g, vs, h1, rfl, h3, h4, h5⟩ := h
  exact ⟨_, ownsRow_slice h3 h4, fun i hi => (h5 i hi).rows⟩

def Small1 (l : List Int) : Prop := l.length ≤ 1048576
def Small2 (l : List (List Int)) : Prop := l.length ≤ 1048576 ∧ ∀ i, i < l.length → Small1 (l.getD i [])
def Small3 (l : List (List (List Int))) : Prop := l.length ≤ 1048576 ∧ ∀ i, i < l.length → Small2 (l.getD i [])

theorem set_getD {vs : List Value} {k i : Nat} {u : Value} (hk : k < vs.length) : (vs.set k u).getD i undef = if i = k then u else vs.getD i undef := by
  by_cases h : i = k
  · subst h; simp [hk]
  · rw [if_neg h]; simp [Ne.symm h]

set_option maxHeartbeats 1000000 in
theorem toIntS_new (v : Value) (l : List Int) (w : World) (h : IntsAt w v l) (hs : Small1 l) :
    Calls Try.prog 43 #[v] w fun e w' => ∃ v', e = .returned v' ∧ OwnInts w' w.heap.size v' l ∧ Below w.heap.size w w' := by
  obtain ⟨i0, hi, hz0, hz1, hz2⟩ := info_parts info_intR
  obtain ⟨a, cap, rfl, hc, hm⟩ := h.form
  unfold Small1 at hs
  obtain ⟨n, hn⟩ : ∃ n, l.length = n := ⟨_, rfl⟩
  rw [hn] at hc h hs ⊢
  have HN := Lib.hid hn
  have H := Lib.hid h
  clear hn h
  go_enter Try.func43, Try.ntmps43
  go_wp2_with (at_make; refine wpList_make_full _ rfl (.tmp 6) (.tmp 6) 27 rfl w.heap.size 3 i0 (.int .i64 0) 1 Try.underlying27 hi hz0 hz1 .i64 .i64 n n n rfl rfl rfl rfl (by rw [hz2]; omega) (by unfold maxLen; omega) (by simp) ?_; intro w1 hown hgrow)
  have hB1 : Below w.heap.size w w1 := (Below.refl _ _).grown hgrow (Nat.le_refl _) (by intro k hk; cases hk)
  have hown0 : ∃ vs : List Value, vs.length = n ∧ w1.ownsRow w.heap.size 3 1 (.slice (some ⟨w.heap.size, 0, none⟩) n n) n vs := ⟨_, by have := hown.1; omega, hown⟩
  clear hown hgrow
  go_loopg [4] n (fun g i wr => ∃ (k : Nat) (vs : List Value), i = .int .i64 k ∧ k + g = n ∧ vs.length = n ∧ wr.ownsRow w.heap.size 3 1 (.slice (some ⟨w.heap.size, 0, none⟩) n n) n vs ∧ Below w.heap.size w wr ∧ Hid (∀ i, i < k → vs.getD i undef = .int .i64 (l.getD i 0)))
  case atStart =>
    obtain ⟨vs, h1, h2⟩ := hown0
    exact ⟨0, vs, rfl, by omega, h1, h2, hB1, Lib.hid fun i hi => by omega⟩
  case round =>
    obtain ⟨k, vs, rfl, hk, hvl, hown, hbel, hvs⟩ := hrel
    by_cases hg : gk = 0
    · subst hg
      obtain rfl : k = n := by omega
      have HVL := Lib.hid hvl
      clear hvl
      go_wp2_with fail
      go_ret
      refine ⟨_, rfl, ?_, hbel⟩
      have e : vs = l.map (Value.int .i64) := by
        apply List.ext_getElem (by rw [HVL.out, List.length_map, HN.out])
        intro j h1 h2
        have := hvs.out j (by rw [← HVL.out]; exact h1)
        simp only [List.getD_eq_getElem?_getD, List.getElem?_eq_getElem h1, Option.getD_some] at this
        rw [this]
        have h3 : j < l.length := by simpa using h2
        simp [List.getElem?_eq_getElem h3]
      unfold OwnInts
      rw [HN.out, ← e]
      exact hown
    · have hkl : k < n := by omega
      obtain ⟨b, off, rfl, hb, hx⟩ := (H.out.below hbel).get k hkl
      have hy : wr.cell? ⟨w.heap.size, k, none⟩ = some (vs.getD k undef) := by rw [hown.cellAt k (by omega)]; simp [List.getElem?_eq_getElem (by omega : k < vs.length)]
      have hz : wr.frozen? ⟨w.heap.size, k, none⟩ = false := hown.frozenAt k
      have hst := (hown.stored k (.int .i64 (l.getD k 0))).1
      obtain ⟨y, hy'⟩ : ∃ y, vs.getD k undef = y := ⟨_, rfl⟩
      rw [hy'] at hy
      obtain ⟨x, hx'⟩ : ∃ x, l.getD k 0 = x := ⟨_, rfl⟩
      rw [hx'] at hx hst
      have HVL := Lib.hid hvl
      have HX := Lib.hid hx'
      have HK := Lib.hid hk
      clear hx' hk hy' hvl
      go_wp2_with fail
      go_roundg (gk - 1)
      case measure => omega
      case rel =>
        refine ⟨k + 1, vs.set k (.int .i64 x), by go_num, by have := HK.out; omega, by rw [List.length_set]; exact HVL.out, hst, hbel.setCell (Nat.le_refl _) _, Lib.hid fun i hi => ?_⟩
        rw [set_getD (by rw [HVL.out]; exact hkl)]
        by_cases hik : i = k
        · subst hik; rw [if_pos rfl, HX.out]
        · rw [if_neg hik]; exact hvs.out i (by omega)

theorem OwnInts.lift {w : World} {B B' : Nat} {v : Value} {l : List Int} (h : OwnInts w B v l) (hb : B' ≤ B) : OwnInts w B' v l := by
  refine ⟨h.1, ?_⟩
  rcases h.2 with h | ⟨g, cap, cur, h1, h2, h3⟩
  · exact .inl h
  · exact .inr ⟨g, cap, cur, h1, Nat.le_trans hb h2, h3⟩
theorem RowsNew.lift {w : World} {B B' : Nat} {v : Value} {l : List (List Int)} (h : RowsNew w B v l) (hb : B' ≤ B) : RowsNew w B' v l := by
  obtain ⟨g, vs, h1, h2⟩ := h
  exact ⟨g, vs, Nat.le_trans hb h1, h2⟩
theorem isSlice1 {w : World} {B : Nat} {v : Value} {l : List Int} (h : OwnInts w B v l) : ∃ a n c, v = .slice a n c := by
  obtain ⟨a, c, e, _⟩ := h.ints; exact ⟨a, _, c, e⟩
theorem isSlice2 {w : World} {B : Nat} {v : Value} {l : List (List Int)} (h : RowsNew w B v l) : ∃ a n c, v = .slice a n c := by
  obtain ⟨g, vs, _, e, _⟩ := h; exact ⟨_, _, _, e⟩

theorem info_r2 : (Try.prog.info? 27).map (fun i => (i.zero, i.size, i.bytes)) = some (some (.slice none 0 0), 1, 24) := by kernel_rfl
set_option maxHeartbeats 1000000 in
theorem toIntSS_new (v : Value) (l : List (List Int)) (w : World) (h : RowsAt w v l) (hs : Small2 l) :
    Calls Try.prog 39 #[v] w fun e w' => ∃ v', e = .returned v' ∧ RowsNew w' w.heap.size v' l ∧ Below w.heap.size w w' := by
  obtain ⟨i0, hi, hz0, hz1, hz2⟩ := info_parts info_r2
  obtain ⟨a, cap, rfl, hc, hm⟩ := h.form
  obtain ⟨hs, hsi⟩ := hs
  obtain ⟨n, hn⟩ : ∃ n, l.length = n := ⟨_, rfl⟩
  rw [hn] at hc h hs hsi ⊢
  have HN := Lib.hid hn
  have H := Lib.hid h
  have HS := Lib.hid hsi
  clear hn h hsi
  go_enter Try.func39, Try.ntmps39
  go_wp2_with (at_make; refine wpList_make_full _ rfl (.tmp 6) (.tmp 6) 26 rfl w.heap.size 27 i0 (.slice none 0 0) 1 Try.underlying26 hi hz0 hz1 .i64 .i64 n n n rfl rfl rfl rfl (by rw [hz2]; omega) (by unfold maxLen; omega) (by simp) ?_; intro w1 hown hgrow)
  have hB1 : Below w.heap.size w w1 := (Below.refl _ _).grown hgrow (Nat.le_refl _) (by intro k hk; cases hk)
  have hown0 : ∃ vs : List Value, vs.length = n ∧ w1.ownsRow w.heap.size 27 1 (.slice (some ⟨w.heap.size, 0, none⟩) n n) n vs := ⟨_, by have := hown.1; omega, hown⟩
  clear hown hgrow
  go_loopg [4] n (fun g i wr => ∃ (k : Nat) (vs : List Value), i = .int .i64 k ∧ k + g = n ∧ vs.length = n ∧ wr.ownsRow w.heap.size 27 1 (.slice (some ⟨w.heap.size, 0, none⟩) n n) n vs ∧ Below w.heap.size w wr ∧ Hid (∀ i, i < k → OwnInts wr (w.heap.size + 1) (vs.getD i undef) (l.getD i [])))
  case atStart =>
    obtain ⟨vs, h1, h2⟩ := hown0
    exact ⟨0, vs, rfl, by omega, h1, h2, hB1, Lib.hid fun i hi => by omega⟩
  case round =>
    obtain ⟨k, vs, rfl, hk, hvl, hown, hbel, hvs⟩ := hrel
    by_cases hg : gk = 0
    · subst hg
      obtain rfl : k = n := by omega
      have HVL := Lib.hid hvl
      clear hvl
      go_wp2_with fail
      go_ret
      refine ⟨_, rfl, ?_, hbel⟩
      show RowsNew wr w.heap.size (.slice (some ⟨w.heap.size, 0, none⟩) k k) l
      exact ⟨w.heap.size, vs, Nat.le_refl _, by rw [HN.out], by rw [HVL.out, HN.out], by rw [HN.out]; exact hown, fun i hi => hvs.out i (by rw [← HN.out]; exact hi)⟩
    · have hkl : k < n := by omega
      obtain ⟨b, off, v2, rfl, hb, hx, hin⟩ := (H.out.below hbel).get k hkl
      have hcall := toIntS_new v2 (l.getD k []) wr hin (HS.out k hkl)
      have hsz : w.heap.size < wr.heap.size := (World.ownsRow.lt hown _ rfl).2
      have HOWN := Lib.hid hown
      have HC := Lib.hid hcall
      have HVL := Lib.hid hvl
      have HK := Lib.hid hk
      clear hk hvl hown hcall hin
      go_wp2_with (go_at_call 43; refine (HC.out).mono ?_; rintro e w1 ⟨v', rfl, ho, hb1⟩; have HO := Lib.hid ho; have hown1 := owns_belowR HOWN.out hb1; have hy : w1.cell? ⟨w.heap.size, k, none⟩ = some (vs.getD k undef) := (by rw [hown1.cellAt k (by omega)]; simp [List.getElem?_eq_getElem (by rw [HVL.out]; omega : k < vs.length)]); have hz : w1.frozen? ⟨w.heap.size, k, none⟩ = false := hown1.frozenAt k; have HOWN1 := Lib.hid hown1; obtain ⟨sa, sn, sc, rfl⟩ := isSlice1 ho; clear hown1 ho)
      have hst := (HOWN1.out.stored k (.slice sa sn sc))
      go_roundg (gk - 1)
      case measure => omega
      case rel =>
        refine ⟨k + 1, vs.set k (.slice sa sn sc), by go_num, by have := HK.out; omega, by rw [List.length_set]; exact HVL.out, hst.1, (hbel.trans (hb1.mono (by omega))).setCell (Nat.le_refl _) _, Lib.hid fun i hi => ?_⟩
        rw [set_getD (by rw [HVL.out]; exact hkl)]
        by_cases hik : i = k
        · subst hik; rw [if_pos rfl]; exact OwnInts.kept (OwnInts.lift HO.out (by omega)) hst.2
        · rw [if_neg hik]; exact OwnInts.kept ((hvs.out i (by omega)).below hb1) hst.2

theorem info_r3 : (Try.prog.info? 26).map (fun i => (i.zero, i.size, i.bytes)) = some (some (.slice none 0 0), 1, 24) := by kernel_rfl
set_option maxHeartbeats 1000000 in
theorem toIntSSS_new (v : Value) (l : List (List (List Int))) (w : World) (h : GridAt w v l) (hs : Small3 l) :
    Calls Try.prog 23 #[v] w fun e w' => ∃ v', e = .returned v' ∧ GridNew w' w.heap.size v' l ∧ Below w.heap.size w w' := by
  obtain ⟨i0, hi, hz0, hz1, hz2⟩ := info_parts info_r3
  obtain ⟨a, cap, rfl, hc, hm⟩ := h.form
  obtain ⟨hs, hsi⟩ := hs
  obtain ⟨n, hn⟩ : ∃ n, l.length = n := ⟨_, rfl⟩
  rw [hn] at hc h hs hsi ⊢
  have HN := Lib.hid hn
  have H := Lib.hid h
  have HS := Lib.hid hsi
  clear hn h hsi
  go_enter Try.func23, Try.ntmps23
  go_wp2_with (at_make; refine wpList_make_full _ rfl (.tmp 6) (.tmp 6) 23 rfl w.heap.size 26 i0 (.slice none 0 0) 1 Try.underlying23 hi hz0 hz1 .i64 .i64 n n n rfl rfl rfl rfl (by rw [hz2]; omega) (by unfold maxLen; omega) (by simp) ?_; intro w1 hown hgrow)
  have hB1 : Below w.heap.size w w1 := (Below.refl _ _).grown hgrow (Nat.le_refl _) (by intro k hk; cases hk)
  have hown0 : ∃ vs : List Value, vs.length = n ∧ w1.ownsRow w.heap.size 26 1 (.slice (some ⟨w.heap.size, 0, none⟩) n n) n vs := ⟨_, by have := hown.1; omega, hown⟩
  clear hown hgrow
  go_loopg [4] n (fun g i wr => ∃ (k : Nat) (vs : List Value), i = .int .i64 k ∧ k + g = n ∧ vs.length = n ∧ wr.ownsRow w.heap.size 26 1 (.slice (some ⟨w.heap.size, 0, none⟩) n n) n vs ∧ Below w.heap.size w wr ∧ Hid (∀ i, i < k → RowsNew wr (w.heap.size + 1) (vs.getD i undef) (l.getD i [])))
  case atStart =>
    obtain ⟨vs, h1, h2⟩ := hown0
    exact ⟨0, vs, rfl, by omega, h1, h2, hB1, Lib.hid fun i hi => by omega⟩
  case round =>
    obtain ⟨k, vs, rfl, hk, hvl, hown, hbel, hvs⟩ := hrel
    by_cases hg : gk = 0
    · subst hg
      obtain rfl : k = n := by omega
      have HVL := Lib.hid hvl
      clear hvl
      go_wp2_with fail
      go_ret
      refine ⟨_, rfl, ?_, hbel⟩
      show GridNew wr w.heap.size (.slice (some ⟨w.heap.size, 0, none⟩) k k) l
      exact ⟨w.heap.size, vs, Nat.le_refl _, by rw [HN.out], by rw [HVL.out, HN.out], by rw [HN.out]; exact hown, fun i hi => hvs.out i (by rw [← HN.out]; exact hi)⟩
    · have hkl : k < n := by omega
      obtain ⟨b, off, v2, rfl, hb, hx, hin⟩ := (H.out.below hbel).get k hkl
      have hcall := toIntSS_new v2 (l.getD k []) wr hin (HS.out k hkl)
      have hsz : w.heap.size < wr.heap.size := (World.ownsRow.lt hown _ rfl).2
      have HOWN := Lib.hid hown
      have HC := Lib.hid hcall
      have HVL := Lib.hid hvl
      have HK := Lib.hid hk
      clear hk hvl hown hcall hin
      go_wp2_with (go_at_call 39; refine (HC.out).mono ?_; rintro e w1 ⟨v', rfl, ho, hb1⟩; have HO := Lib.hid ho; have hown1 := owns_belowR HOWN.out hb1; have hy : w1.cell? ⟨w.heap.size, k, none⟩ = some (vs.getD k undef) := (by rw [hown1.cellAt k (by omega)]; simp [List.getElem?_eq_getElem (by rw [HVL.out]; omega : k < vs.length)]); have hz : w1.frozen? ⟨w.heap.size, k, none⟩ = false := hown1.frozenAt k; have HOWN1 := Lib.hid hown1; obtain ⟨sa, sn, sc, rfl⟩ := isSlice2 ho; clear hown1 ho)
      have hst := (HOWN1.out.stored k (.slice sa sn sc))
      go_roundg (gk - 1)
      case measure => omega
      case rel =>
        refine ⟨k + 1, vs.set k (.slice sa sn sc), by go_num, by have := HK.out; omega, by rw [List.length_set]; exact HVL.out, hst.1, (hbel.trans (hb1.mono (by omega))).setCell (Nat.le_refl _) _, Lib.hid fun i hi => ?_⟩
        rw [set_getD (by rw [HVL.out]; exact hkl)]
        by_cases hik : i = k
        · subst hik; rw [if_pos rfl]; exact RowsNew.kept (RowsNew.lift HO.out (by omega)) hst.2
        · rw [if_neg hik]; exact RowsNew.kept ((hvs.out i (by omega)).below hb1) hst.2
end Go.Proofs.Ytlkchhedlbaomaa
