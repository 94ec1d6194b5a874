/- The laws' own copies of tables: toRange, toEntry, toEntryS, toEntrySS. -/
import Derived.Test.YtgpdkplpneklgaaEntSz
import Derived.OwnWalk
namespace Go.Proofs.Ytgpdkplpneklgaa
open Go.RowKit
set_option linter.unusedVariables false

theorem set_getD {vs : List Value} {k i : Nat} {u : Value} (hk : k < vs.length) : (vs.set k u).getD i undef = if i = k then u else vs.getD i undef := by
  by_cases h : i = k
  · subst h; simp [hk]
  · rw [if_neg h]; simp [Ne.symm h]
set_option maxHeartbeats 1000000 in
theorem toRange_any (f b : Int) (w : World) : Calls Try.prog 70 #[.agg #[.int .i64 f, .int .i64 b]] w fun e w' => e = .returned (.agg #[.int .i64 f, .int .i64 b]) ∧ Below w.heap.size w w' := by
  go_enter Try.func70, Try.ntmps70
  go_wp2_with fail
  refine bodyPost_ret (v := .agg #[.int .i64 f, .int .i64 b]) (by simp [results, Try.results70, go_sem, *]) rfl ?_
  exact ⟨rfl, by repeat (first | exact Below.refl _ _ | assumption | refine Below.drew ?_ | refine belowDrewN ?_ _ | refine Below.alloc ?_ (by first | exact Nat.le_refl _ | omega | (simp; done) | (simp; omega)) _ | refine Below.setCell ?_ (by first | exact Nat.le_refl _ | omega | (simp; done) | (simp; omega)) _)⟩
set_option maxHeartbeats 1000000 in
theorem toEntry_any (e : Ent) (w : World) : Calls Try.prog 74 #[entV e] w fun r w' => r = .returned (entV e) ∧ Below w.heap.size w w' := by
  obtain ⟨f, b, v⟩ := e
  unfold entV
  have hr := fun W => toRange_any f b W
  have HR := Lib.hid hr
  clear hr
  go_enter Try.func74, Try.ntmps74
  go_wp2_with (go_at_call 70; refine (HR.out _).mono ?_; rintro e w1 ⟨rfl, hb1⟩; have hB1 : Below w.heap.size w w1 := (by refine Below.trans ?_ (hb1.mono (by first | exact Nat.le_refl _ | omega | (simp; done) | (simp; omega))); repeat (first | exact Below.refl _ _ | assumption | refine Below.drew ?_ | refine belowDrewN ?_ _ | refine Below.alloc ?_ (by first | exact Nat.le_refl _ | omega | (simp; done) | (simp; omega)) _ | refine Below.setCell ?_ (by first | exact Nat.le_refl _ | omega | (simp; done) | (simp; omega)) _)); obtain ⟨hc1, hf1⟩ := bcell hb1; have hz1 : w.heap.size + 2 < w1.heap.size := (by have := hb1.size; (try simp at this); omega))
  refine bodyPost_ret (v := .agg #[.int .i64 f, .int .i64 b, .int .i64 v]) (by simp [results, Try.results74, go_sem, *]) rfl ?_
  refine ⟨rfl, ?_⟩
  repeat (refine Below.setCell ?_ (by first | exact Nat.le_refl _ | omega | (simp; done) | (simp; omega)) _)
  exact hB1

/-- A table in a block of its own, from lo on. -/
def EntNew (w : World) (lo : Nat) (v : Value) (l : List Ent) : Prop :=
  ∃ xs, w.ownsRow lo 92 3 v l.length xs ∧ ∀ i, i < l.length → xs.getD (i * 3) undef = .int .i64 (l.getD i (0, 0, 0)).1 ∧ xs.getD (i * 3 + 1) undef = .int .i64 (l.getD i (0, 0, 0)).2.1 ∧ xs.getD (i * 3 + 2) undef = .int .i64 (l.getD i (0, 0, 0)).2.2
theorem EntNew.below {W w1 : World} {B : Nat} {v : Value} {l : List Ent} (h : EntNew W B v l) (hb : Below W.heap.size W w1) : EntNew w1 B v l := by
  obtain ⟨xs, h1, h2⟩ := h
  exact ⟨xs, owns_belowR h1 hb, h2⟩
theorem EntNew.kept {W w1 : World} {g : Nat} {v : Value} {l : List Ent} (h : EntNew W (g + 1) v l) (hg : W.grownBy w1 (some g)) : EntNew w1 (g + 1) v l := by
  obtain ⟨xs, h1, h2⟩ := h
  refine ⟨xs, World.ownsRow.kept h1 hg ?_, h2⟩
  cases hv : v.ownBlock with
  | none => exact .inl rfl
  | some k => right; have := (World.ownsRow.lt h1 k hv).1; intro e; cases e; omega
theorem EntNew.lift {w : World} {B B' : Nat} {v : Value} {l : List Ent} (h : EntNew w B v l) (hb : B' ≤ B) : EntNew w B' v l := by
  obtain ⟨xs, h1, h2⟩ := h
  refine ⟨xs, ⟨h1.1, ?_⟩, h2⟩
  rcases h1.2 with h | ⟨g, cap, cur, h1, h2, h3⟩
  · exact .inl h
  · exact .inr ⟨g, cap, cur, h1, Nat.le_trans hb h2, h3⟩
theorem EntNew.ents {w : World} {B : Nat} {v : Value} {l : List Ent} (h : EntNew w B v l) : EntsAt w v l := by
  obtain ⟨xs, h1, h2⟩ := h
  rcases h1.2 with ⟨rfl, hn⟩ | ⟨g, cap, cur, rfl, hb, hg, hnc, hcm, hcs, htake⟩
  · exact ⟨none, 0, by rw [hn], by omega, Nat.zero_le _, .inl hn⟩
  · have hxl := h1.1
    refine ⟨_, cap, rfl, hnc, hcm, .inr ⟨g, 0, rfl, heap_lt hg, fun i hi => ?_⟩⟩
    obtain ⟨e0, e1, e2⟩ := h2 i hi
    have key : ∀ j, j < l.length * 3 → w.cell? ⟨g, 0 + j, none⟩ = some (xs.getD j undef) := fun j hj => by
      rw [Nat.zero_add, h1.cellAt j (by omega), List.getD_eq_getElem?_getD, List.getElem?_eq_getElem (by omega)]; rfl
    rw [← e0, ← e1, ← e2]
    exact ⟨key _ (by omega), by rw [Nat.add_assoc]; exact key _ (by omega), by rw [Nat.add_assoc]; exact key _ (by omega)⟩
theorem isSliceE {w : World} {B : Nat} {v : Value} {l : List Ent} (h : EntNew w B v l) : ∃ a n c, v = .slice a n c := by
  obtain ⟨a, c, e, _⟩ := h.ents; exact ⟨a, _, c, e⟩
def TabNew (w : World) (lo : Nat) (v : Value) (ll : List (List Ent)) : Prop :=
  ∃ (g : Nat) (vs : List Value), lo ≤ g ∧ v = .slice (some ⟨g, 0, none⟩) ll.length ll.length ∧ vs.length = ll.length ∧ w.ownsRow g 57 1 v ll.length vs ∧ ∀ i, i < ll.length → EntNew w (g + 1) (vs.getD i undef) (ll.getD i [])
theorem ownsRow_slice {w : World} {g n : Nat} {T : TypeId} {vs : List Value} (hl : vs.length = n) (h : w.ownsRow g T 1 (.slice (some ⟨g, 0, none⟩) n n) n vs) : SliceAt w (.slice (some ⟨g, 0, none⟩) n n) n (fun i => vs.getD i undef) := by
  have hb := (World.ownsRow.lt h g rfl).2
  rcases h.2 with ⟨h', _⟩ | ⟨g', cap', cur, h', _, hg, hnc, hcm, hcs, htake⟩
  · simp at h'
  · simp only [Value.slice.injEq, Option.some.injEq, Addr.mk.injEq, and_true, true_and] at h'
    obtain ⟨rfl, rfl⟩ := h'
    refine ⟨_, n, rfl, Nat.le_refl _, hcm, .inr ⟨g, 0, rfl, hb, fun i hi => ?_⟩⟩
    rw [Nat.zero_add, h.cellAt i (by omega)]
    simp [List.getElem?_eq_getElem (by omega : i < vs.length)]
theorem TabNew.below {W w1 : World} {B : Nat} {v : Value} {l : List (List Ent)} (h : TabNew W B v l) (hb : Below W.heap.size W w1) : TabNew w1 B v l := by
  obtain ⟨g, vs, h1, h2, h3, h4, h5⟩ := h
  exact ⟨g, vs, h1, h2, h3, owns_belowR h4 hb, fun i hi => (h5 i hi).below hb⟩
theorem TabNew.tabs {w : World} {lo : Nat} {v : Value} {ll : List (List Ent)} (h : TabNew w lo v ll) : TabsAt w v ll := by
  obtain ⟨g, vs, h1, rfl, h3, h4, h5⟩ := h
  exact ⟨_, ownsRow_slice h3 h4, fun i hi => (h5 i hi).ents⟩

theorem info_e3 : (Try.prog.info? 92).map (fun i => (i.zero, i.size, i.bytes)) = some (some (.agg #[.int .i64 0, .int .i64 0, .int .i64 0]), 3, 24) := by kernel_rfl
set_option maxHeartbeats 2000000 in
theorem toEntryS_any (v : Value) (l : List Ent) (w : World) (h : EntsAt w v l) (hs : SmallE l) :
    Calls Try.prog 53 #[v] w fun e w' => ∃ v', e = .returned v' ∧ EntNew w' w.heap.size v' l ∧ Below w.heap.size w w' := by
  obtain ⟨i0, hi, hz0, hz1, hz2⟩ := info_parts info_e3
  obtain ⟨a, cap, rfl, hc, hm⟩ := h.form
  unfold SmallE at hs
  obtain ⟨n, hn⟩ : ∃ n, l.length = n := ⟨_, rfl⟩
  rw [hn] at hc h hs ⊢
  have HN := Lib.hid hn
  have H := Lib.hid h
  clear hn h
  go_enter Try.func53, Try.ntmps53
  go_wp2_with (at_make; refine wpList_make_full _ rfl (.tmp 6) (.tmp 6) 57 rfl w.heap.size 92 i0 (.agg #[.int .i64 0, .int .i64 0, .int .i64 0]) 3 Try.underlying57 hi hz0 hz1 .i64 .i64 n n n rfl rfl rfl rfl (by rw [hz2]; omega) (by unfold maxLen; omega) (by simp) ?_; intro w1 hown hgrow)
  have hB1 : Below w.heap.size w w1 := (Below.refl _ _).grown hgrow (Nat.le_refl _) (by intro k hk; cases hk)
  have hown0 : ∃ vs : List Value, vs.length = n * 3 ∧ w1.ownsRow w.heap.size 92 3 (.slice (some ⟨w.heap.size, 0, none⟩) n n) n vs := ⟨_, hown.1, hown⟩
  clear hown hgrow
  go_loopg [4] n (fun g i wr => ∃ (k : Nat) (vs : List Value), i = .int .i64 k ∧ k + g = n ∧ vs.length = n * 3 ∧ wr.ownsRow w.heap.size 92 3 (.slice (some ⟨w.heap.size, 0, none⟩) n n) n vs ∧ Below w.heap.size w wr ∧ Hid (∀ i, i < k → vs.getD (i * 3) undef = .int .i64 (l.getD i (0, 0, 0)).1 ∧ vs.getD (i * 3 + 1) undef = .int .i64 (l.getD i (0, 0, 0)).2.1 ∧ vs.getD (i * 3 + 2) undef = .int .i64 (l.getD i (0, 0, 0)).2.2))
  case atStart =>
    obtain ⟨vs, h1, h2⟩ := hown0
    exact ⟨0, vs, rfl, by omega, h1, h2, hB1, Lib.hid fun i hi => by omega⟩
  case round =>
    obtain ⟨k, vs, rfl, hk, hvl, hown, hbel, hvs⟩ := hrel
    by_cases hg : gk = 0
    · subst hg
      obtain rfl : k = n := by omega
      have HVL := Lib.hid hvl
      have hdn : decide ((k : Int) < (k : Int)) = false := by simp
      clear hvl
      go_wp2_with fail
      go_ret
      exact ⟨_, rfl, ⟨vs, by rw [HN.out]; exact hown, fun i hi => hvs.out i (by rw [← HN.out]; exact hi)⟩, hbel⟩
    · have hkl : k < n := by omega
      have hkI : (k : Int) < (n : Int) := by omega
      have k0 : (0 : Int) ≤ (k : Int) := by omega
      obtain ⟨b, off, rfl, hb, c0, c1, c2⟩ := (H.out.below hbel).get k hkl
      have hcall := fun W => toEntry_any (l.getD k (0, 0, 0)) W
      unfold entV at hcall
      obtain ⟨f, hf⟩ : ∃ f, (l.getD k (0, 0, 0)).1 = f := ⟨_, rfl⟩
      obtain ⟨bt, hbt⟩ : ∃ f, (l.getD k (0, 0, 0)).2.1 = f := ⟨_, rfl⟩
      obtain ⟨vi, hvi⟩ : ∃ f, (l.getD k (0, 0, 0)).2.2 = f := ⟨_, rfl⟩
      rw [hf] at c0 hcall
      rw [hbt] at c1 hcall
      rw [hvi] at c2 hcall
      have hsz : w.heap.size < wr.heap.size := (World.ownsRow.lt hown _ rfl).2
      have HOWN := Lib.hid hown
      have HC := Lib.hid hcall
      have HVL := Lib.hid hvl
      have HK := Lib.hid hk
      have HF := Lib.hid hf
      have HBT := Lib.hid hbt
      have HVI := Lib.hid hvi
      clear hk hvl hown hcall hf hbt hvi
      go_wp2_with (go_at_call 74; refine (HC.out _).mono ?_; rintro e w1 ⟨rfl, hb1⟩; have hown1 := owns_belowR HOWN.out hb1; have key : ∀ j, j < n * 3 → w1.cell? ⟨w.heap.size, j, none⟩ = some (vs.getD j undef) := (fun j hj => by rw [hown1.cellAt j (by omega)]; simp [List.getElem?_eq_getElem (by rw [HVL.out]; omega : j < vs.length)]); have y0 := key (k * 3) (by omega); have y1 := key (k * 3 + 1) (by omega); have y2 := key (k * 3 + 2) (by omega); have z0 : w1.frozen? ⟨w.heap.size, k * 3, none⟩ = false := hown1.frozenAt _; have z1 : w1.frozen? ⟨w.heap.size, k * 3 + 1, none⟩ = false := hown1.frozenAt _; have z2 : w1.frozen? ⟨w.heap.size, k * 3 + 2, none⟩ = false := hown1.frozenAt _; have HOWN1 := Lib.hid hown1; clear hown1 key)
      have hst := (((HOWN1.out.stored (k * 3) (.int .i64 f)).1.stored (k * 3 + 1) (.int .i64 bt)).1.stored (k * 3 + 2) (.int .i64 vi)).1
      go_roundg (gk - 1)
      case measure => omega
      case rel =>
        refine ⟨k + 1, ((vs.set (k * 3) (.int .i64 f)).set (k * 3 + 1) (.int .i64 bt)).set (k * 3 + 2) (.int .i64 vi), by go_num, by have := HK.out; omega, by simp [HVL.out], hst, (((hbel.trans (hb1.mono (by omega))).setCell (Nat.le_refl _) _).setCell (Nat.le_refl _) _).setCell (Nat.le_refl _) _, Lib.hid fun i hi => ?_⟩
        have hl := HVL.out
        rw [set_getD (by simp [hl]; omega), set_getD (by simp [hl]; omega), set_getD (by omega), set_getD (by simp [hl]; omega), set_getD (by simp [hl]; omega), set_getD (by omega), set_getD (by simp [hl]; omega), set_getD (by simp [hl]; omega), set_getD (by omega)]
        by_cases hik : i = k
        · subst hik
          rw [if_neg (by omega), if_neg (by omega), if_pos rfl, if_neg (by omega), if_pos rfl, if_pos rfl]
          exact ⟨by rw [HF.out], by rw [HBT.out], by rw [HVI.out]⟩
        · rw [if_neg (by omega), if_neg (by omega), if_neg (by omega), if_neg (by omega), if_neg (by omega), if_neg (by omega), if_neg (by omega), if_neg (by omega), if_neg (by omega)]
          exact hvs.out i (by omega)
theorem info_t2 : (Try.prog.info? 57).map (fun i => (i.zero, i.size, i.bytes)) = some (some (.slice none 0 0), 1, 24) := by kernel_rfl
set_option maxHeartbeats 1000000 in
theorem toEntrySS_any (v : Value) (l : List (List Ent)) (w : World) (h : TabsAt w v l) (hs : SmallT l) :
    Calls Try.prog 20 #[v] w fun e w' => ∃ v', e = .returned v' ∧ TabNew w' w.heap.size v' l ∧ Below w.heap.size w w' := by
  obtain ⟨i0, hi, hz0, hz1, hz2⟩ := info_parts info_t2
  obtain ⟨a, cap, rfl, hc, hm⟩ := h.form
  obtain ⟨hs, hsi⟩ := hs
  obtain ⟨n, hn⟩ : ∃ n, l.length = n := ⟨_, rfl⟩
  rw [hn] at hc h hs hsi ⊢
  have HN := Lib.hid hn
  have H := Lib.hid h
  have HS := Lib.hid hsi
  clear hn h hsi
  go_enter Try.func20, Try.ntmps20
  go_wp2_with (at_make; refine wpList_make_full _ rfl (.tmp 6) (.tmp 6) 44 rfl w.heap.size 57 i0 (.slice none 0 0) 1 Try.underlying44 hi hz0 hz1 .i64 .i64 n n n rfl rfl rfl rfl (by rw [hz2]; omega) (by unfold maxLen; omega) (by simp) ?_; intro w1 hown hgrow)
  have hB1 : Below w.heap.size w w1 := (Below.refl _ _).grown hgrow (Nat.le_refl _) (by intro k hk; cases hk)
  have hown0 : ∃ vs : List Value, vs.length = n ∧ w1.ownsRow w.heap.size 57 1 (.slice (some ⟨w.heap.size, 0, none⟩) n n) n vs := ⟨_, by have := hown.1; omega, hown⟩
  clear hown hgrow
  go_loopg [4] n (fun g i wr => ∃ (k : Nat) (vs : List Value), i = .int .i64 k ∧ k + g = n ∧ vs.length = n ∧ wr.ownsRow w.heap.size 57 1 (.slice (some ⟨w.heap.size, 0, none⟩) n n) n vs ∧ Below w.heap.size w wr ∧ Hid (∀ i, i < k → EntNew wr (w.heap.size + 1) (vs.getD i undef) (l.getD i [])))
  case atStart =>
    obtain ⟨vs, h1, h2⟩ := hown0
    exact ⟨0, vs, rfl, by omega, h1, h2, hB1, Lib.hid fun i hi => by omega⟩
  case round =>
    obtain ⟨k, vs, rfl, hk, hvl, hown, hbel, hvs⟩ := hrel
    by_cases hg : gk = 0
    · subst hg
      obtain rfl : k = n := by omega
      have HVL := Lib.hid hvl
      clear hvl
      go_wp2_with fail
      go_ret
      refine ⟨_, rfl, ?_, hbel⟩
      show TabNew wr w.heap.size (.slice (some ⟨w.heap.size, 0, none⟩) k k) l
      exact ⟨w.heap.size, vs, Nat.le_refl _, by rw [HN.out], by rw [HVL.out, HN.out], by rw [HN.out]; exact hown, fun i hi => hvs.out i (by rw [← HN.out]; exact hi)⟩
    · have hkl : k < n := by omega
      obtain ⟨b, off, v2, rfl, hb, hx, hin⟩ := (H.out.below hbel).get k hkl
      have hcall := toEntryS_any v2 (l.getD k []) wr hin (HS.out k hkl)
      have hsz : w.heap.size < wr.heap.size := (World.ownsRow.lt hown _ rfl).2
      have HOWN := Lib.hid hown
      have HC := Lib.hid hcall
      have HVL := Lib.hid hvl
      have HK := Lib.hid hk
      clear hk hvl hown hcall hin
      go_wp2_with (go_at_call 53; refine (HC.out).mono ?_; rintro e w1 ⟨v', rfl, ho, hb1⟩; have HO := Lib.hid ho; have hown1 := owns_belowR HOWN.out hb1; have hy : w1.cell? ⟨w.heap.size, k, none⟩ = some (vs.getD k undef) := (by rw [hown1.cellAt k (by omega)]; simp [List.getElem?_eq_getElem (by rw [HVL.out]; omega : k < vs.length)]); have hz : w1.frozen? ⟨w.heap.size, k, none⟩ = false := hown1.frozenAt k; have HOWN1 := Lib.hid hown1; obtain ⟨sa, sn, sc, rfl⟩ := isSliceE ho; clear hown1 ho)
      have hst := (HOWN1.out.stored k (.slice sa sn sc))
      go_roundg (gk - 1)
      case measure => omega
      case rel =>
        refine ⟨k + 1, vs.set k (.slice sa sn sc), by go_num, by have := HK.out; omega, by rw [List.length_set]; exact HVL.out, hst.1, (hbel.trans (hb1.mono (by omega))).setCell (Nat.le_refl _) _, Lib.hid fun i hi => ?_⟩
        rw [set_getD (by rw [HVL.out]; exact hkl)]
        by_cases hik : i = k
        · subst hik; rw [if_pos rfl]; exact EntNew.kept (EntNew.lift HO.out (by omega)) hst.2
        · rw [if_neg hik]; exact EntNew.kept ((hvs.out i (by omega)).below hb1) hst.2

end Go.Proofs.Ytgpdkplpneklgaa
