/- The laws' own copies of rows of numbers: toIntS, toIntSS, szIntS, szIntSS, eqIntS, eqIntSS. -/
import Derived.Test.YtnjkifnlimfhnaaGreatDoorDrawRng
import Derived.Test.YtnjkifnlimfhnaaGreatDoorEntSz
import Derived.Test.YtnjkifnlimfhnaaGreatDoorEntCopy
import Derived.Deep.LoopGhost
import Derived.Deep.QuietTactic
import Derived.BigQuiet
import Derived.OwnWalk
namespace Go.Proofs.YtnjkifnlimfhnaaGreatDoor
open Go.RowKit
set_option linter.unusedVariables false

theorem OwnInts.kept {W w1 : World} {g : Nat} {v : Value} {l : List Int} (h : OwnInts W (g + 1) v l) (hg : W.grownBy w1 (some g)) : OwnInts w1 (g + 1) v l := by
  refine World.ownsRow.kept h hg ?_
  cases hv : v.ownBlock with
  | none => exact .inl rfl
  | some k => right; have := (World.ownsRow.lt h k hv).1; intro e; cases e; omega
def RowsNew (w : World) (lo : Nat) (v : Value) (ll : List (List Int)) : Prop :=
  ∃ (g : Nat) (vs : List Value), lo ≤ g ∧ v = .slice (some ⟨g, 0, none⟩) ll.length ll.length ∧ vs.length = ll.length ∧ w.ownsRow g 43 1 v ll.length vs ∧ ∀ i, i < ll.length → OwnInts w (g + 1) (vs.getD i undef) (ll.getD i [])
theorem RowsNew.below {W w1 : World} {B : Nat} {v : Value} {l : List (List Int)} (h : RowsNew W B v l) (hb : Below W.heap.size W w1) : RowsNew w1 B v l := by
  obtain ⟨g, vs, h1, h2, h3, h4, h5⟩ := h
  exact ⟨g, vs, h1, h2, h3, owns_belowR h4 hb, fun i hi => (h5 i hi).below hb⟩
theorem RowsNew.kept {W w1 : World} {g : Nat} {v : Value} {l : List (List Int)} (h : RowsNew W (g + 1) v l) (hg : W.grownBy w1 (some g)) : RowsNew w1 (g + 1) v l := by
  obtain ⟨g', vs, h1, rfl, h3, h4, h5⟩ := h
  refine ⟨g', vs, h1, rfl, h3, h4.kept hg (.inr (by simp [Value.ownBlock]; omega)), fun i hi => ?_⟩
  have h := h5 i hi
  refine World.ownsRow.kept h hg ?_
  cases hv : (vs.getD i undef).ownBlock with
  | none => exact .inl rfl
  | some k => right; have := (World.ownsRow.lt h k hv).1; intro e; cases e; omega
theorem RowsNew.rows {w : World} {lo : Nat} {v : Value} {ll : List (List Int)} (h : RowsNew w lo v ll) : RowsAt w v ll := by
  obtain ⟨g, vs, h1, rfl, h3, h4, h5⟩ := h
  exact ⟨_, ownsRow_slice h3 h4, fun i hi => (h5 i hi).ints⟩
def Small1 (l : List Int) : Prop := l.length ≤ 1048576
def Small2 (l : List (List Int)) : Prop := l.length ≤ 1048576 ∧ ∀ i, i < l.length → Small1 (l.getD i [])
set_option maxHeartbeats 1000000 in
theorem toIntS_new (v : Value) (l : List Int) (w : World) (h : IntsAt w v l) (hs : Small1 l) :
    Calls Tryz.prog 53 #[v] w fun e w' => ∃ v', e = .returned v' ∧ OwnInts w' w.heap.size v' l ∧ Below w.heap.size w w' := by
  obtain ⟨i0, hi, hz0, hz1, hz2⟩ := info_parts info_intR
  obtain ⟨a, cap, rfl, hc, hm⟩ := h.form
  unfold Small1 at hs
  obtain ⟨n, hn⟩ : ∃ n, l.length = n := ⟨_, rfl⟩
  rw [hn] at hc h hs ⊢
  have HN := Lib.hid hn
  have H := Lib.hid h
  clear hn h
  go_enter Tryz.func53, Tryz.ntmps53
  go_wp2_with (at_make; refine wpList_make_full _ rfl (.tmp 6) (.tmp 6) 43 rfl w.heap.size 3 i0 (.int .i64 0) 1 Tryz.underlying43 hi hz0 hz1 .i64 .i64 n n n rfl rfl rfl rfl (by rw [hz2]; omega) (by unfold maxLen; omega) (by simp) ?_; intro w1 hown hgrow)
  have hB1 : Below w.heap.size w w1 := (Below.refl _ _).grown hgrow (Nat.le_refl _) (by intro k hk; cases hk)
  have hown0 : ∃ vs : List Value, vs.length = n ∧ w1.ownsRow w.heap.size 3 1 (.slice (some ⟨w.heap.size, 0, none⟩) n n) n vs := ⟨_, by have := hown.1; omega, hown⟩
  clear hown hgrow
  go_loopg [4] n (fun g i wr => ∃ (k : Nat) (vs : List Value), i = .int .i64 k ∧ k + g = n ∧ vs.length = n ∧ wr.ownsRow w.heap.size 3 1 (.slice (some ⟨w.heap.size, 0, none⟩) n n) n vs ∧ Below w.heap.size w wr ∧ Hid (∀ i, i < k → vs.getD i undef = .int .i64 (l.getD i 0)))
  case atStart =>
    obtain ⟨vs, h1, h2⟩ := hown0
    exact ⟨0, vs, rfl, by omega, h1, h2, hB1, Lib.hid fun i hi => by omega⟩
  case round =>
    obtain ⟨k, vs, rfl, hk, hvl, hown, hbel, hvs⟩ := hrel
    by_cases hg : gk = 0
    · subst hg
      obtain rfl : k = n := by omega
      have HVL := Lib.hid hvl
      clear hvl
      go_wp2_with fail
      go_ret
      refine ⟨_, rfl, ?_, hbel⟩
      have e : vs = l.map (Value.int .i64) := by
        apply List.ext_getElem (by rw [HVL.out, List.length_map, HN.out])
        intro j h1 h2
        have := hvs.out j (by rw [← HVL.out]; exact h1)
        simp only [List.getD_eq_getElem?_getD, List.getElem?_eq_getElem h1, Option.getD_some] at this
        rw [this]
        have h3 : j < l.length := by simpa using h2
        simp [List.getElem?_eq_getElem h3]
      unfold OwnInts
      rw [HN.out, ← e]
      exact hown
    · have hkl : k < n := by omega
      obtain ⟨b, off, rfl, hb, hx⟩ := (H.out.below hbel).get k hkl
      have hy : wr.cell? ⟨w.heap.size, k, none⟩ = some (vs.getD k undef) := by rw [hown.cellAt k (by omega)]; simp [List.getElem?_eq_getElem (by omega : k < vs.length)]
      have hz : wr.frozen? ⟨w.heap.size, k, none⟩ = false := hown.frozenAt k
      have hst := (hown.stored k (.int .i64 (l.getD k 0))).1
      obtain ⟨y, hy'⟩ : ∃ y, vs.getD k undef = y := ⟨_, rfl⟩
      rw [hy'] at hy
      obtain ⟨x, hx'⟩ : ∃ x, l.getD k 0 = x := ⟨_, rfl⟩
      rw [hx'] at hx hst
      have HVL := Lib.hid hvl
      have HX := Lib.hid hx'
      have HK := Lib.hid hk
      clear hx' hk hy' hvl
      go_wp2_with fail
      go_roundg (gk - 1)
      case measure => omega
      case rel =>
        refine ⟨k + 1, vs.set k (.int .i64 x), by go_num, by have := HK.out; omega, by rw [List.length_set]; exact HVL.out, hst, hbel.setCell (Nat.le_refl _) _, Lib.hid fun i hi => ?_⟩
        rw [set_getD (by rw [HVL.out]; exact hkl)]
        by_cases hik : i = k
        · subst hik; rw [if_pos rfl, HX.out]
        · rw [if_neg hik]; exact hvs.out i (by omega)

theorem RowsNew.lift {w : World} {B B' : Nat} {v : Value} {l : List (List Int)} (h : RowsNew w B v l) (hb : B' ≤ B) : RowsNew w B' v l := by
  obtain ⟨g, vs, h1, h2⟩ := h
  exact ⟨g, vs, Nat.le_trans hb h1, h2⟩
theorem isSlice1 {w : World} {B : Nat} {v : Value} {l : List Int} (h : OwnInts w B v l) : ∃ a n c, v = .slice a n c := by
  obtain ⟨a, c, e, _⟩ := h.ints; exact ⟨a, _, c, e⟩
theorem isSlice2 {w : World} {B : Nat} {v : Value} {l : List (List Int)} (h : RowsNew w B v l) : ∃ a n c, v = .slice a n c := by
  obtain ⟨g, vs, _, e, _⟩ := h; exact ⟨_, _, _, e⟩

set_option maxHeartbeats 1000000 in
theorem toIntSS_new (v : Value) (l : List (List Int)) (w : World) (h : RowsAt w v l) (hs : Small2 l) :
    Calls Tryz.prog 22 #[v] w fun e w' => ∃ v', e = .returned v' ∧ RowsNew w' w.heap.size v' l ∧ Below w.heap.size w w' := by
  obtain ⟨i0, hi, hz0, hz1, hz2⟩ := info_parts info_r2
  obtain ⟨a, cap, rfl, hc, hm⟩ := h.form
  obtain ⟨hs, hsi⟩ := hs
  obtain ⟨n, hn⟩ : ∃ n, l.length = n := ⟨_, rfl⟩
  rw [hn] at hc h hs hsi ⊢
  have HN := Lib.hid hn
  have H := Lib.hid h
  have HS := Lib.hid hsi
  clear hn h hsi
  go_enter Tryz.func22, Tryz.ntmps22
  go_wp2_with (at_make; refine wpList_make_full _ rfl (.tmp 6) (.tmp 6) 23 rfl w.heap.size 43 i0 (.slice none 0 0) 1 Tryz.underlying23 hi hz0 hz1 .i64 .i64 n n n rfl rfl rfl rfl (by rw [hz2]; omega) (by unfold maxLen; omega) (by simp) ?_; intro w1 hown hgrow)
  have hB1 : Below w.heap.size w w1 := (Below.refl _ _).grown hgrow (Nat.le_refl _) (by intro k hk; cases hk)
  have hown0 : ∃ vs : List Value, vs.length = n ∧ w1.ownsRow w.heap.size 43 1 (.slice (some ⟨w.heap.size, 0, none⟩) n n) n vs := ⟨_, by have := hown.1; omega, hown⟩
  clear hown hgrow
  go_loopg [4] n (fun g i wr => ∃ (k : Nat) (vs : List Value), i = .int .i64 k ∧ k + g = n ∧ vs.length = n ∧ wr.ownsRow w.heap.size 43 1 (.slice (some ⟨w.heap.size, 0, none⟩) n n) n vs ∧ Below w.heap.size w wr ∧ Hid (∀ i, i < k → OwnInts wr (w.heap.size + 1) (vs.getD i undef) (l.getD i [])))
  case atStart =>
    obtain ⟨vs, h1, h2⟩ := hown0
    exact ⟨0, vs, rfl, by omega, h1, h2, hB1, Lib.hid fun i hi => by omega⟩
  case round =>
    obtain ⟨k, vs, rfl, hk, hvl, hown, hbel, hvs⟩ := hrel
    by_cases hg : gk = 0
    · subst hg
      obtain rfl : k = n := by omega
      have HVL := Lib.hid hvl
      clear hvl
      go_wp2_with fail
      go_ret
      refine ⟨_, rfl, ?_, hbel⟩
      show RowsNew wr w.heap.size (.slice (some ⟨w.heap.size, 0, none⟩) k k) l
      exact ⟨w.heap.size, vs, Nat.le_refl _, by rw [HN.out], by rw [HVL.out, HN.out], by rw [HN.out]; exact hown, fun i hi => hvs.out i (by rw [← HN.out]; exact hi)⟩
    · have hkl : k < n := by omega
      obtain ⟨b, off, v2, rfl, hb, hx, hin⟩ := (H.out.below hbel).get k hkl
      have hcall := toIntS_new v2 (l.getD k []) wr hin (HS.out k hkl)
      have hsz : w.heap.size < wr.heap.size := (World.ownsRow.lt hown _ rfl).2
      have HOWN := Lib.hid hown
      have HC := Lib.hid hcall
      have HVL := Lib.hid hvl
      have HK := Lib.hid hk
      clear hk hvl hown hcall hin
      go_wp2_with (go_at_call 53; refine (HC.out).mono ?_; rintro e w1 ⟨v', rfl, ho, hb1⟩; have HO := Lib.hid ho; have hown1 := owns_belowR HOWN.out hb1; have hy : w1.cell? ⟨w.heap.size, k, none⟩ = some (vs.getD k undef) := (by rw [hown1.cellAt k (by omega)]; simp [List.getElem?_eq_getElem (by rw [HVL.out]; omega : k < vs.length)]); have hz : w1.frozen? ⟨w.heap.size, k, none⟩ = false := hown1.frozenAt k; have HOWN1 := Lib.hid hown1; obtain ⟨sa, sn, sc, rfl⟩ := isSlice1 ho; clear hown1 ho)
      have hst := (HOWN1.out.stored k (.slice sa sn sc))
      go_roundg (gk - 1)
      case measure => omega
      case rel =>
        refine ⟨k + 1, vs.set k (.slice sa sn sc), by go_num, by have := HK.out; omega, by rw [List.length_set]; exact HVL.out, hst.1, (hbel.trans (hb1.mono (by omega))).setCell (Nat.le_refl _) _, Lib.hid fun i hi => ?_⟩
        rw [set_getD (by rw [HVL.out]; exact hkl)]
        by_cases hik : i = k
        · subst hik; rw [if_pos rfl]; exact OwnInts.kept (OwnInts.lift HO.out (by omega)) hst.2
        · rw [if_neg hik]; exact OwnInts.kept ((hvs.out i (by omega)).below hb1) hst.2

set_option maxHeartbeats 1000000 in
theorem szIntS_any (v : Value) (l : List Int) (left : Int) (w : World) (h : IntsAt w v l) (h0 : 0 ≤ left) (h1 : left ≤ 1048576) :
    Calls Tryz.prog 52 #[v, .int .i64 left] w (SzPost (Small1 l) left w) := by
  obtain ⟨a, cap, rfl, hc, hm⟩ := h.form
  have hs : (0 ≤ left - l.length → Small1 l) := fun h => by unfold Small1; omega
  obtain ⟨n, hn⟩ : ∃ n, l.length = n := ⟨_, rfl⟩
  rw [hn] at hc h hs ⊢
  have HS := Lib.hid hs
  clear hs h hn
  go_enter Tryz.func52, Tryz.ntmps52
  by_cases hlt : left - (n : Int) < 0
  · go_wp2_with fail
    go_ret
    exact ⟨-1, rfl, by omega, by omega, fun h => by omega, rfl⟩
  · go_wp2_with fail
    go_ret
    exact ⟨left - n, rfl, by omega, by omega, HS.out, rfl⟩

set_option maxHeartbeats 1000000 in
theorem szIntSS_any (v : Value) (l : List (List Int)) (left : Int) (w : World) (h : RowsAt w v l) (h0 : 0 ≤ left) (h1 : left ≤ 1048576) :
    Calls Tryz.prog 20 #[v, .int .i64 left] w (SzPost (Small2 l) left w) := by
  obtain ⟨a, cap, rfl, hc, hm⟩ := h.form
  obtain ⟨n, hn⟩ : ∃ n, l.length = n := ⟨_, rfl⟩
  rw [hn] at hc h ⊢
  have HN := Lib.hid hn
  have H := Lib.hid h
  clear hn h
  by_cases hlt : left - (n : Int) < 0
  · go_enter Tryz.func20, Tryz.ntmps20
    go_wp2_with fail
    go_ret
    exact ⟨-1, rfl, by omega, by omega, fun h => by omega, rfl⟩
  · have hnl : n ≤ 1048576 := by omega
    go_enter Tryz.func20, Tryz.ntmps20
    go_wp2_with fail
    go_loopg [1, 5] n (fun g s i wr => ∃ (k : Nat) (r : Int), i = .int .i64 k ∧ s = .int .i64 r ∧ k + g = n ∧ 0 ≤ r ∧ r ≤ left ∧ wr = w ∧ Hid (∀ i, i < k → Small1 (l.getD i [])))
    case atStart => exact ⟨0, left - n, rfl, rfl, by omega, by omega, by omega, rfl, Lib.hid fun i hi => by omega⟩
    case round =>
      obtain ⟨k, r, rfl, rfl, hk, r0, r1, rfl, hsm⟩ := hrel
      by_cases hg : gk = 0
      · subst hg
        obtain rfl : k = n := by omega
        go_wp2_with fail
        go_ret
        exact ⟨r, rfl, r1, by omega, fun _ => ⟨by rw [HN.out]; exact hnl, fun i hi => hsm.out i (by rw [← HN.out]; exact hi)⟩, rfl⟩
      · have hkl : k < n := by omega
        obtain ⟨b, off, v2, rfl, hb, hx, hin⟩ := H.out.get k hkl
        have hcall := szIntS_any v2 (l.getD k []) r wr hin r0 (by omega)
        have HC := Lib.hid hcall
        have HK := Lib.hid hk
        clear hk hcall hin
        go_wp2_with fail
        refine (HC.out).mono ?_
        rintro e w1 ⟨q, rfl, q1, q2, hq, rfl⟩
        have HQ := Lib.hid hq
        clear hq
        by_cases hq0 : q < 0
        · go_wp2_with fail
          go_ret
          exact ⟨-1, rfl, by omega, by omega, fun h => by omega, rfl⟩
        · go_wp2_with fail
          go_roundg (gk - 1)
          case measure => omega
          case rel =>
            refine ⟨k + 1, q, by go_num, rfl, by have := HK.out; omega, by omega, by omega, rfl, Lib.hid fun i hi => ?_⟩
            by_cases hik : i = k
            · subst hik; exact HQ.out (by omega)
            · exact hsm.out i (by omega)

set_option maxHeartbeats 1000000 in
theorem eqIntS_two (v v2 : Value) (l l2 : List Int) (w : World) (h : IntsAt w v l) (h2 : IntsAt w v2 l2) :
    Calls Tryz.prog 56 #[v, v2] w fun e w' => e = .returned (.bool (decide (l = l2))) ∧ Drew w w' := by
  obtain ⟨a, cap, rfl, hc, hm, h⟩ := h
  obtain ⟨a2, cap2, rfl, hc2, hm2, h2⟩ := h2
  unfold maxLen at hm hm2
  obtain ⟨n, hn⟩ : ∃ n, l.length = n := ⟨_, rfl⟩
  obtain ⟨n2, hn2⟩ : ∃ n, l2.length = n := ⟨_, rfl⟩
  rw [hn] at hc h ⊢
  rw [hn2] at hc2 h2 ⊢
  obtain ⟨B, hB⟩ : ∃ B, decide (l = l2) = B := ⟨_, rfl⟩
  rw [hB]
  have HB := Lib.hid hB
  have HN := Lib.hid hn
  have HN2 := Lib.hid hn2
  have H := Lib.hid h
  have H2 := Lib.hid h2
  clear hB hn hn2 h h2
  by_cases hnn : n = n2
  · subst hnn
    go_enter Tryz.func56, Tryz.ntmps56
    go_wp2_with fail
    go_loopg [5] n (fun g i wr => ∃ k m : Nat, i = .int .i64 k ∧ k + g = n ∧ wr = w.drewN m ∧ Hid (∀ j, j < k → l.getD j 0 = l2.getD j 0))
    case atStart => exact ⟨0, 0, rfl, by omega, rfl, fun j hj => by omega⟩
    case round =>
      obtain ⟨k, m, rfl, hk, rfl, hno⟩ := hrel
      by_cases hg : gk = 0
      · subst hg
        obtain rfl : k = n := by omega
        have hB : B = true := by
          rw [← HB.out, decide_eq_true_eq]
          exact same_list (by rw [HN.out, HN2.out]) (by rw [HN.out]; exact hno.out)
        subst hB
        go_wp2_with fail
        go_ret
        exact ⟨rfl, m, rfl⟩
      · have hkn : k < n := by omega
        have hkn2 : (k : Int) < (n : Int) := by omega
        rcases H.out with h0 | ⟨b, off, rfl, hb, hcell⟩
        · omega
        · rcases H2.out with h0 | ⟨b2, off2, rfl, hb2, hcell2⟩
          · omega
          · have hx := hcell k hkn
            have hx2 := hcell2 k hkn
            clear hcell hcell2
            obtain ⟨y, hy⟩ : ∃ y, l.getD k 0 = y := ⟨_, rfl⟩
            obtain ⟨y2, hy2⟩ : ∃ y, l2.getD k 0 = y := ⟨_, rfl⟩
            rw [hy] at hx
            rw [hy2] at hx2
            have HY := Lib.hid hy
            have HY2 := Lib.hid hy2
            have HK := Lib.hid hk
            clear hy hy2 hk
            by_cases hyx : y = y2
            · have hne : (y != y2) = false := by simp [hyx]
              have HE := Lib.hid hyx
              clear hyx
              go_wp2_with fail
              go_quiet (fail)
              go_wp2_with fail
              go_roundg (gk - 1)
              case measure => omega
              case rel =>
                refine ⟨k + 1, m + nq, by go_num, by have := HK.out; omega, rfl, fun j hj => ?_⟩
                by_cases hjk : j = k
                · subst hjk; rw [HY.out, HY2.out]; exact HE.out
                · exact hno.out j (by omega)
            · have hB : B = false := by
                rw [← HB.out, decide_eq_false_iff_not]
                intro e
                apply hyx
                rw [← HY.out, ← HY2.out, e]
              subst hB
              have hne : (y != y2) = true := by simp [hyx]
              go_wp2_with fail
              go_quiet (fail)
              go_wp2_with fail
              go_ret
              exact ⟨rfl, by repeat (first | exact Drew.refl _ | assumption | refine Drew.more ?_ _)⟩
  · have hB : B = false := by
      rw [← HB.out, decide_eq_false_iff_not]
      intro e
      apply hnn
      rw [← HN.out, ← HN2.out, e]
    subst hB
    have hne : ¬ ((n : Int) = (n2 : Int)) := by omega
    go_enter Tryz.func56, Tryz.ntmps56
    go_wp2_with fail
    go_ret
    exact ⟨rfl, Drew.refl _⟩

set_option maxHeartbeats 2000000 in
theorem eqIntSS_any (v v2 : Value) (l l2 : List (List Int)) (w : World) (h : RowsAt w v l) (h2 : RowsAt w v2 l2) :
    Calls Tryz.prog 25 #[v, v2] w fun e w' => e = .returned (.bool (decide (l = l2))) ∧ Drew w w' := by
  obtain ⟨a, cap, rfl, hc, hm⟩ := h.form
  obtain ⟨a2, cap2, rfl, hc2, hm2⟩ := h2.form
  obtain ⟨n, hn⟩ : ∃ n, l.length = n := ⟨_, rfl⟩
  obtain ⟨n2, hn2⟩ : ∃ n, l2.length = n := ⟨_, rfl⟩
  rw [hn] at hc h ⊢
  rw [hn2] at hc2 h2 ⊢
  obtain ⟨B, hB⟩ : ∃ B, decide (l = l2) = B := ⟨_, rfl⟩
  rw [hB]
  have HB := Lib.hid hB
  have HN := Lib.hid hn
  have HN2 := Lib.hid hn2
  have H := Lib.hid h
  have H2 := Lib.hid h2
  clear hB hn hn2 h h2
  by_cases hnn : n = n2
  · subst hnn
    go_enter Tryz.func25, Tryz.ntmps25
    go_wp2_with fail
    go_loopg [5] n (fun g i wr => ∃ k m : Nat, i = .int .i64 k ∧ k + g = n ∧ wr = w.drewN m ∧ Hid (∀ j, j < k → l.getD j [] = l2.getD j []))
    case atStart => exact ⟨0, 0, rfl, by omega, rfl, Lib.hid fun j hj => by omega⟩
    case round =>
      obtain ⟨k, m, rfl, hk, rfl, hno⟩ := hrel
      by_cases hg : gk = 0
      · subst hg
        obtain rfl : k = n := by omega
        have hB : B = true := by
          rw [← HB.out, decide_eq_true_eq]
          apply List.ext_getElem (by rw [HN.out, HN2.out])
          intro j h1 h2
          have := hno.out j (by rw [← HN.out]; exact h1)
          simpa [List.getElem?_eq_getElem h1, List.getElem?_eq_getElem h2] using this
        subst hB
        go_wp2_with fail
        go_ret
        exact ⟨rfl, m, rfl⟩
      · have hkn : k < n := by omega
        have hkn2 : (k : Int) < (n : Int) := by omega
        obtain ⟨b, off, u, rfl, hb, hx, hu⟩ := H.out.get k hkn
        obtain ⟨b2, off2, u2, rfl, hb2, hx2, hu2⟩ := H2.out.get k hkn
        obtain ⟨c, hcc⟩ : ∃ c, decide (l.getD k [] = l2.getD k []) = c := ⟨_, rfl⟩
        have heq : ∀ W, Drew w W → Calls Tryz.prog 56 #[u, u2] W fun e w' => e = .returned (.bool c) ∧ Drew W w' := fun W hW => by rw [← hcc]; exact eqIntS_two _ _ _ _ _ (hu.drew hW) (hu2.drew hW)
        have HC := Lib.hid hcc
        have HEQ := Lib.hid heq
        have HK := Lib.hid hk
        clear hcc heq hk hu hu2
        cases c
        · have hB : B = false := by
            rw [← HB.out, decide_eq_false_iff_not]
            intro e
            have := HC.out
            rw [e] at this
            simp at this
          subst hB
          go_wp2_with fail
          go_quiet ((go_at_call 56; (first | refine quietA (HEQ.out _ ?_) | refine quietB (HEQ.out _ ?_)); repeat (first | exact Drew.refl _ | assumption | refine Drew.more ?_ _)))
          go_wp2_with fail
          go_ret
          exact ⟨rfl, by repeat (first | exact Drew.refl _ | assumption | refine Drew.more ?_ _)⟩
        · go_wp2_with fail
          go_quiet ((go_at_call 56; (first | refine quietA (HEQ.out _ ?_) | refine quietB (HEQ.out _ ?_)); repeat (first | exact Drew.refl _ | assumption | refine Drew.more ?_ _)))
          go_wp2_with fail
          go_roundg (gk - 1)
          case measure => omega
          case rel =>
            refine ⟨k + 1, m + nq, by go_num, by have := HK.out; omega, rfl, Lib.hid fun j hj => ?_⟩
            by_cases hjk : j = k
            · subst hjk; exact of_decide_eq_true HC.out
            · exact hno.out j (by omega)
  · have hB : B = false := by
      rw [← HB.out, decide_eq_false_iff_not]
      intro e
      apply hnn
      rw [← HN.out, ← HN2.out, e]
    subst hB
    have hne : ¬ ((n : Int) = (n2 : Int)) := by omega
    go_enter Tryz.func25, Tryz.ntmps25
    go_wp2_with fail
    go_ret
    exact ⟨rfl, Drew.refl _⟩

end Go.Proofs.YtnjkifnlimfhnaaGreatDoor
