/- The laws' own copies of homes: toHome, toHomeS, szHomeS, eqHome, eqHomeS. -/
import Derived.Test.YtnjkifnlimfhnaaGreatDoorHomNew
import Derived.Test.YtnjkifnlimfhnaaGreatDoorEntSz
import Derived.Test.YtnjkifnlimfhnaaGreatDoorEntEq
import Derived.Deep.LoopGhost
import Derived.OwnWalk
namespace Go.Proofs.YtnjkifnlimfhnaaGreatDoor
open Go.RowKit
set_option linter.unusedVariables false

set_option maxHeartbeats 1000000 in
theorem toHome_any (e : Ent) (w : World) : Calls Tryz.prog 54 #[entV e] w fun r w' => r = .returned (entV e) ∧ Below w.heap.size w w' := by
  obtain ⟨f, b, v⟩ := e
  unfold entV
  have hr := fun W => toRange_any f b W
  have HR := Lib.hid hr
  clear hr
  go_enter Tryz.func54, Tryz.ntmps54
  go_wp2_with (go_at_call 85; refine (HR.out _).mono ?_; rintro e w1 ⟨rfl, hb1⟩; have hB1 : Below w.heap.size w w1 := (by refine Below.trans ?_ (hb1.mono (by first | exact Nat.le_refl _ | omega | (simp; done) | (simp; omega))); repeat (first | exact Below.refl _ _ | assumption | refine Below.drew ?_ | refine belowDrewN ?_ _ | refine Below.alloc ?_ (by first | exact Nat.le_refl _ | omega | (simp; done) | (simp; omega)) _ | refine Below.setCell ?_ (by first | exact Nat.le_refl _ | omega | (simp; done) | (simp; omega)) _)); obtain ⟨hc1, hf1⟩ := bcell hb1; have hz1 : w.heap.size + 2 < w1.heap.size := (by have := hb1.size; (try simp at this); omega))
  refine bodyPost_ret (v := .agg #[.int .i64 f, .int .i64 b, .int .i64 v]) (by simp [results, Tryz.results54, go_sem, *]) rfl ?_
  refine ⟨rfl, ?_⟩
  repeat (refine Below.setCell ?_ (by first | exact Nat.le_refl _ | omega | (simp; done) | (simp; omega)) _)
  exact hB1

set_option maxHeartbeats 2000000 in
theorem toHomeS_any (v : Value) (l : List Ent) (w : World) (h : EntsAt w v l) (hs : SmallE l) :
    Calls Tryz.prog 23 #[v] w fun e w' => ∃ v', e = .returned v' ∧ HomNew w' w.heap.size v' l ∧ Below w.heap.size w w' := by
  obtain ⟨i0, hi, hz0, hz1, hz2⟩ := info_parts info_h3
  obtain ⟨a, cap, rfl, hc, hm⟩ := h.form
  unfold SmallE at hs
  obtain ⟨n, hn⟩ : ∃ n, l.length = n := ⟨_, rfl⟩
  rw [hn] at hc h hs ⊢
  have HN := Lib.hid hn
  have H := Lib.hid h
  clear hn h
  go_enter Tryz.func23, Tryz.ntmps23
  go_wp2_with (at_make; refine wpList_make_full _ rfl (.tmp 6) (.tmp 6) 24 rfl w.heap.size 37 i0 (.agg #[.int .i64 0, .int .i64 0, .int .i64 0]) 3 Tryz.underlying24 hi hz0 hz1 .i64 .i64 n n n rfl rfl rfl rfl (by rw [hz2]; omega) (by unfold maxLen; omega) (by simp) ?_; intro w1 hown hgrow)
  have hB1 : Below w.heap.size w w1 := (Below.refl _ _).grown hgrow (Nat.le_refl _) (by intro k hk; cases hk)
  have hown0 : ∃ vs : List Value, vs.length = n * 3 ∧ w1.ownsRow w.heap.size 37 3 (.slice (some ⟨w.heap.size, 0, none⟩) n n) n vs := ⟨_, hown.1, hown⟩
  clear hown hgrow
  go_loopg [4] n (fun g i wr => ∃ (k : Nat) (vs : List Value), i = .int .i64 k ∧ k + g = n ∧ vs.length = n * 3 ∧ wr.ownsRow w.heap.size 37 3 (.slice (some ⟨w.heap.size, 0, none⟩) n n) n vs ∧ Below w.heap.size w wr ∧ Hid (∀ i, i < k → vs.getD (i * 3) undef = .int .i64 (l.getD i (0, 0, 0)).1 ∧ vs.getD (i * 3 + 1) undef = .int .i64 (l.getD i (0, 0, 0)).2.1 ∧ vs.getD (i * 3 + 2) undef = .int .i64 (l.getD i (0, 0, 0)).2.2))
  case atStart =>
    obtain ⟨vs, h1, h2⟩ := hown0
    exact ⟨0, vs, rfl, by omega, h1, h2, hB1, Lib.hid fun i hi => by omega⟩
  case round =>
    obtain ⟨k, vs, rfl, hk, hvl, hown, hbel, hvs⟩ := hrel
    by_cases hg : gk = 0
    · subst hg
      obtain rfl : k = n := by omega
      have HVL := Lib.hid hvl
      have hdn : decide ((k : Int) < (k : Int)) = false := by simp
      clear hvl
      go_wp2_with fail
      go_ret
      exact ⟨_, rfl, ⟨vs, by rw [HN.out]; exact hown, fun i hi => hvs.out i (by rw [← HN.out]; exact hi)⟩, hbel⟩
    · have hkl : k < n := by omega
      have hkI : (k : Int) < (n : Int) := by omega
      have k0 : (0 : Int) ≤ (k : Int) := by omega
      obtain ⟨b, off, rfl, hb, c0, c1, c2⟩ := (H.out.below hbel).get k hkl
      have hcall := fun W => toHome_any (l.getD k (0, 0, 0)) W
      unfold entV at hcall
      obtain ⟨f, hf⟩ : ∃ f, (l.getD k (0, 0, 0)).1 = f := ⟨_, rfl⟩
      obtain ⟨bt, hbt⟩ : ∃ f, (l.getD k (0, 0, 0)).2.1 = f := ⟨_, rfl⟩
      obtain ⟨vi, hvi⟩ : ∃ f, (l.getD k (0, 0, 0)).2.2 = f := ⟨_, rfl⟩
      rw [hf] at c0 hcall
      rw [hbt] at c1 hcall
      rw [hvi] at c2 hcall
      have hsz : w.heap.size < wr.heap.size := (World.ownsRow.lt hown _ rfl).2
      have HOWN := Lib.hid hown
      have HC := Lib.hid hcall
      have HVL := Lib.hid hvl
      have HK := Lib.hid hk
      have HF := Lib.hid hf
      have HBT := Lib.hid hbt
      have HVI := Lib.hid hvi
      clear hk hvl hown hcall hf hbt hvi
      go_wp2_with (go_at_call 54; refine (HC.out _).mono ?_; rintro e w1 ⟨rfl, hb1⟩; have hown1 := owns_belowR HOWN.out hb1; have key : ∀ j, j < n * 3 → w1.cell? ⟨w.heap.size, j, none⟩ = some (vs.getD j undef) := (fun j hj => by rw [hown1.cellAt j (by omega)]; simp [List.getElem?_eq_getElem (by rw [HVL.out]; omega : j < vs.length)]); have y0 := key (k * 3) (by omega); have y1 := key (k * 3 + 1) (by omega); have y2 := key (k * 3 + 2) (by omega); have z0 : w1.frozen? ⟨w.heap.size, k * 3, none⟩ = false := hown1.frozenAt _; have z1 : w1.frozen? ⟨w.heap.size, k * 3 + 1, none⟩ = false := hown1.frozenAt _; have z2 : w1.frozen? ⟨w.heap.size, k * 3 + 2, none⟩ = false := hown1.frozenAt _; have HOWN1 := Lib.hid hown1; clear hown1 key)
      have hst := (((HOWN1.out.stored (k * 3) (.int .i64 f)).1.stored (k * 3 + 1) (.int .i64 bt)).1.stored (k * 3 + 2) (.int .i64 vi)).1
      go_roundg (gk - 1)
      case measure => omega
      case rel =>
        refine ⟨k + 1, ((vs.set (k * 3) (.int .i64 f)).set (k * 3 + 1) (.int .i64 bt)).set (k * 3 + 2) (.int .i64 vi), by go_num, by have := HK.out; omega, by simp [HVL.out], hst, (((hbel.trans (hb1.mono (by omega))).setCell (Nat.le_refl _) _).setCell (Nat.le_refl _) _).setCell (Nat.le_refl _) _, Lib.hid fun i hi => ?_⟩
        have hl := HVL.out
        rw [set_getD (by simp [hl]; omega), set_getD (by simp [hl]; omega), set_getD (by omega), set_getD (by simp [hl]; omega), set_getD (by simp [hl]; omega), set_getD (by omega), set_getD (by simp [hl]; omega), set_getD (by simp [hl]; omega), set_getD (by omega)]
        by_cases hik : i = k
        · subst hik
          rw [if_neg (by omega), if_neg (by omega), if_pos rfl, if_neg (by omega), if_pos rfl, if_pos rfl]
          exact ⟨by rw [HF.out], by rw [HBT.out], by rw [HVI.out]⟩
        · rw [if_neg (by omega), if_neg (by omega), if_neg (by omega), if_neg (by omega), if_neg (by omega), if_neg (by omega), if_neg (by omega), if_neg (by omega), if_neg (by omega)]
          exact hvs.out i (by omega)
set_option maxHeartbeats 1000000 in
theorem szHomeS_any (v : Value) (l : List Ent) (left : Int) (w : World) (h : EntsAt w v l) (h0 : 0 ≤ left) (h1 : left ≤ 1048576) :
    Calls Tryz.prog 21 #[v, .int .i64 left] w (SzPost (SmallE l) left w) := by
  obtain ⟨a, cap, rfl, hc, hm⟩ := h.form
  have hs : (0 ≤ left - l.length → SmallE l) := fun h => by unfold SmallE; omega
  obtain ⟨n, hn⟩ : ∃ n, l.length = n := ⟨_, rfl⟩
  rw [hn] at hc h hs ⊢
  have HS := Lib.hid hs
  clear hs h hn
  go_enter Tryz.func21, Tryz.ntmps21
  by_cases hlt : left - (n : Int) < 0
  · go_wp2_with fail
    go_ret
    exact ⟨-1, rfl, by omega, by omega, fun h => by omega, rfl⟩
  · go_wp2_with fail
    go_ret
    exact ⟨left - n, rfl, by omega, by omega, HS.out, rfl⟩

set_option maxHeartbeats 1000000 in
theorem eqHome_same (e : Ent) (w : World) : Calls Tryz.prog 57 #[entV e, entV e] w fun e w' => e = .returned (.bool true) ∧ Below w.heap.size w w' := by
  obtain ⟨f, b, v⟩ := e
  unfold entV
  have h1 : (v != v) = false := by simp
  go_enter Tryz.func57, Tryz.ntmps57
  go_wp2_with (go_at_call 87; refine (eqRange_same _ _ _).mono ?_; rintro e w1 ⟨rfl, hb1⟩; have hB1 : Below w.heap.size w w1 := (by refine Below.trans ?_ (hb1.mono (by first | exact Nat.le_refl _ | omega | (simp; done) | (simp; omega))); repeat (first | exact Below.refl _ _ | assumption | refine Below.drew ?_ | refine belowDrewN ?_ _ | refine Below.alloc ?_ (by first | exact Nat.le_refl _ | omega | (simp; done) | (simp; omega)) _ | refine Below.setCell ?_ (by first | exact Nat.le_refl _ | omega | (simp; done) | (simp; omega)) _)); obtain ⟨hc1, hf1⟩ := bcell hb1; have hz1 : w.heap.size + 1 < w1.heap.size := (by have := hb1.size; (try simp at this); omega))
  go_ret
  exact ⟨rfl, by repeat (first | exact Below.refl _ _ | assumption | refine Below.drew ?_ | refine belowDrewN ?_ _ | refine Below.alloc ?_ (by first | exact Nat.le_refl _ | omega | (simp; done) | (simp; omega)) _ | refine Below.setCell ?_ (by first | exact Nat.le_refl _ | omega | (simp; done) | (simp; omega)) _)⟩
set_option maxHeartbeats 2000000 in
theorem eqHomeS_same (v v2 : Value) (l : List Ent) (w : World) (h : EntsAt w v l) (h2 : EntsAt w v2 l) :
    Calls Tryz.prog 26 #[v, v2] w fun e w' => e = .returned (.bool true) ∧ Below w.heap.size w w' := by
  obtain ⟨a, cap, rfl, hc, hm⟩ := h.form
  obtain ⟨a2, cap2, rfl, hc2, hm2⟩ := h2.form
  obtain ⟨n, hn⟩ : ∃ n, l.length = n := ⟨_, rfl⟩
  rw [hn] at hc h hc2 h2 ⊢
  have H := Lib.hid h
  have H2 := Lib.hid h2
  clear hn h h2
  go_enter Tryz.func26, Tryz.ntmps26
  go_wp2_with fail
  go_loopg [5] n (fun g i wr => ∃ k : Nat, i = .int .i64 k ∧ k + g = n ∧ Hid (Below w.heap.size w wr))
  case atStart => exact ⟨0, rfl, by omega, Lib.hid (Below.refl _ _)⟩
  case round =>
    obtain ⟨k, rfl, hk, hb⟩ := hrel
    by_cases hg : gk = 0
    · subst hg
      obtain rfl : k = n := by omega
      have hdn : decide ((k : Int) < (k : Int)) = false := by simp
      go_wp2_with fail
      go_ret
      exact ⟨rfl, hb.out⟩
    · have hkn : k < n := by omega
      have hkn2 : (k : Int) < (n : Int) := by omega
      have k0 : (0 : Int) ≤ (k : Int) := by omega
      obtain ⟨b, off, rfl, hbb, c0, c1, c2⟩ := (H.out.below hb.out).get k hkn
      obtain ⟨b2, off2, rfl, hbb2, d0, d1, d2⟩ := (H2.out.below hb.out).get k hkn
      have heq := fun W => eqHome_same (l.getD k (0, 0, 0)) W
      unfold entV at heq
      obtain ⟨f, hf⟩ : ∃ f, (l.getD k (0, 0, 0)).1 = f := ⟨_, rfl⟩
      obtain ⟨bt, hbt⟩ : ∃ f, (l.getD k (0, 0, 0)).2.1 = f := ⟨_, rfl⟩
      obtain ⟨vi, hvi⟩ : ∃ f, (l.getD k (0, 0, 0)).2.2 = f := ⟨_, rfl⟩
      rw [hf] at c0 d0 heq
      rw [hbt] at c1 d1 heq
      rw [hvi] at c2 d2 heq
      have HEQ := Lib.hid heq
      have HK := Lib.hid hk
      clear heq hk hf hbt hvi
      go_wp2_with fail
      refine wp_region_noPanic ?_
      refine wp_region_held_drew (S := (fun w' => w'.cell? ⟨b, off + k * 3, none⟩ = some (.int .i64 f) ∧ w'.cell? ⟨b, off + k * 3 + 1, none⟩ = some (.int .i64 bt) ∧ w'.cell? ⟨b, off + k * 3 + 2, none⟩ = some (.int .i64 vi) ∧ w'.cell? ⟨b2, off2 + k * 3, none⟩ = some (.int .i64 f) ∧ w'.cell? ⟨b2, off2 + k * 3 + 1, none⟩ = some (.int .i64 bt) ∧ w'.cell? ⟨b2, off2 + k * 3 + 2, none⟩ = some (.int .i64 vi))) (by kernel_rfl) (by simp [go_sem, *]) (fun hHeld => ?_)
      refine wpAnyH_take (i := 0) (v := _) (by (simp only [List.getElem?_toArray, List.getElem?_cons_zero]) <;> rfl) (by kernel_rfl) (by kernel_rfl) (by kernel_rfl) (fun _ _ _ h => h) (Or.inl ⟨by rfl, fun w hSw => by ((try dsimp only at hSw); go_simp) <;> with_reducible rfl⟩) (by assumption) ?_
      (try simp only [Act.put, List.setIfInBounds_toArray, List.set_cons_zero, List.set_cons_succ])
      refine wpAnyH_take (i := 1) (v := _) (by (simp only [List.getElem?_toArray, List.getElem?_cons_succ, List.getElem?_cons_zero]) <;> rfl) (by kernel_rfl) (by kernel_rfl) (by kernel_rfl) (fun _ _ _ h => h) (Or.inl ⟨by rfl, fun w hSw => by ((try dsimp only at hSw); go_simp) <;> with_reducible rfl⟩) (by assumption) ?_
      (try simp only [Act.put, List.setIfInBounds_toArray, List.set_cons_zero, List.set_cons_succ])
      refine wpAnyH_take (i := 2) (v := _) (by (simp only [List.getElem?_toArray, List.getElem?_cons_succ, List.getElem?_cons_zero]) <;> rfl) (by kernel_rfl) (by kernel_rfl) (by kernel_rfl) (fun _ _ _ h => h) (Or.inl ⟨by rfl, fun w hSw => by ((try dsimp only at hSw); go_simp) <;> with_reducible rfl⟩) (by assumption) ?_
      (try simp only [Act.put, List.setIfInBounds_toArray, List.set_cons_zero, List.set_cons_succ])
      refine wpAnyH_take (i := 3) (v := _) (by (simp only [List.getElem?_toArray, List.getElem?_cons_succ, List.getElem?_cons_zero]) <;> rfl) (by kernel_rfl) (by kernel_rfl) (by kernel_rfl) (fun _ _ _ h => h) (Or.inl ⟨by rfl, fun w hSw => by ((try dsimp only at hSw); go_simp) <;> with_reducible rfl⟩) (by assumption) ?_
      (try simp only [Act.put, List.setIfInBounds_toArray, List.set_cons_zero, List.set_cons_succ])
      refine wpAnyH_take (i := 4) (v := _) (by (simp only [List.getElem?_toArray, List.getElem?_cons_succ, List.getElem?_cons_zero]) <;> rfl) (by kernel_rfl) (by kernel_rfl) (by kernel_rfl) (fun _ _ _ h => h) (Or.inl ⟨by rfl, fun w hSw => by ((try dsimp only at hSw); go_simp) <;> with_reducible rfl⟩) (by assumption) ?_
      (try simp only [Act.put, List.setIfInBounds_toArray, List.set_cons_zero, List.set_cons_succ])
      refine wpAnyH_take (i := 5) (v := _) (by (simp only [List.getElem?_toArray, List.getElem?_cons_succ, List.getElem?_cons_zero]) <;> rfl) (by kernel_rfl) (by kernel_rfl) (by kernel_rfl) (fun _ _ _ h => h) (Or.inl ⟨by rfl, fun w hSw => by ((try dsimp only at hSw); go_simp) <;> with_reducible rfl⟩) (by assumption) ?_
      (try simp only [Act.put, List.setIfInBounds_toArray, List.set_cons_zero, List.set_cons_succ])
      refine wpAnyH_take (i := 6) (v := _) (by (simp only [List.getElem?_toArray, List.getElem?_cons_succ, List.getElem?_cons_zero]) <;> rfl) (by kernel_rfl) (by kernel_rfl) (by kernel_rfl) (fun _ _ _ h => h) (Or.inl ⟨by rfl, fun w hSw => by ((try dsimp only at hSw); go_simp) <;> with_reducible rfl⟩) (by assumption) ?_
      (try simp only [Act.put, List.setIfInBounds_toArray, List.set_cons_zero, List.set_cons_succ])
      refine wpAnyH_take (i := 7) (v := _) (by (simp only [List.getElem?_toArray, List.getElem?_cons_succ, List.getElem?_cons_zero]) <;> rfl) (by kernel_rfl) (by kernel_rfl) (by kernel_rfl) (fun _ _ _ h => h) (Or.inl ⟨by rfl, fun w hSw => by ((try dsimp only at hSw); go_simp) <;> with_reducible rfl⟩) (by assumption) ?_
      (try simp only [Act.put, List.setIfInBounds_toArray, List.set_cons_zero, List.set_cons_succ])
      refine wpAnyH_ready (rs := [8]) (by kernel_rfl) (by simp) ?_
      refine AllReadyH.cons (by (simp only [List.getElem?_toArray, List.getElem?_cons_succ, List.getElem?_cons_zero]) <;> rfl) (fun K hK => ?_) AllReadyH.nil
      go_simp
      (go_at_call 57; refine (HEQ.out _).mono ?_; rintro e w1 ⟨rfl, hb1⟩; have hB1 : Below wr.heap.size wr w1 := (by refine Below.trans ?_ (hb1.mono (by first | exact Nat.le_refl _ | omega | (simp; done) | (simp; omega))); repeat (first | exact Below.refl _ _ | assumption | refine Below.drew ?_ | refine belowDrewN ?_ _ | refine Below.alloc ?_ (by first | exact Nat.le_refl _ | omega | (simp; done) | (simp; omega)) _ | refine Below.setCell ?_ (by first | exact Nat.le_refl _ | omega | (simp; done) | (simp; omega)) _)); obtain ⟨hc1, hf1⟩ := bcell hB1; clear hb1)
      refine hK.out _ _ (by simp [go_sem, *]) (fun hHeld => ?_)
      (try simp only [Act.put, List.setIfInBounds_toArray, List.set_cons_zero, List.set_cons_succ])
      refine wpAnyH_take (i := 9) (v := _) (by (simp only [List.getElem?_toArray, List.getElem?_cons_succ, List.getElem?_cons_zero]) <;> rfl) (by kernel_rfl) (by kernel_rfl) (by kernel_rfl) (fun _ _ _ h => h) (Or.inl ⟨by rfl, fun w hSw => by ((try dsimp only at hSw); go_simp) <;> with_reducible rfl⟩) (by assumption) ?_
      (try simp only [Act.put, List.setIfInBounds_toArray, List.set_cons_zero, List.set_cons_succ])
      refine wpAnyH_done (by kernel_rfl) ?_ _
      refine NoPanic.normal ?_
      go_wp2_with fail
      go_roundg (gk - 1)
      case measure => omega
      case rel => exact ⟨k + 1, by go_num, by have := HK.out; omega, Lib.hid (hb.out.trans (hB1.mono hb.out.size))⟩
end Go.Proofs.YtnjkifnlimfhnaaGreatDoor
