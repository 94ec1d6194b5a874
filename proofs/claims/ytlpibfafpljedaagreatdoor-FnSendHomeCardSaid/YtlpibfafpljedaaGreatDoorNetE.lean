/- impl's nothing, network.step. impl's network.run, NetEnd. impl.NetEnd: the reference's end of a net. -/
import Derived.Test.YtlpibfafpljedaaGreatDoorNetI
import Derived.Test.YtlpibfafpljedaaGreatDoorHomsOkI
namespace Go.Proofs.YtlpibfafpljedaaGreatDoor
open Go.RowKit Go.Maps
set_option linter.unusedVariables false
set_option maxRecDepth 100000

theorem step_make_full {P : Program} {w : World} {ops : Array Oper} {o : Oper} {a : Act} {K : Act → World → Prop} {Q : Exit → Act → World → Prop} {E : Prop}
    (hgd : o.guard = none) (l c : Operand) (t : TypeId) (hop : o.op = Op.makeSlice t l c)
    (base : Nat) (e : TypeId) (i : TypeInfo) (z : Value) (size : Nat) (h1 : P.underlying t = some (.slice e)) (h2 : P.info? e = some i) (h3 : i.zero = some z) (h4 : i.size = size)
    (kl kc : IntKind) (L C : Int) (n : Nat) (hl : a.eval l = .int kl L) (hc : a.eval c = .int kc C) (hL : L = (n : Int)) (hC : C = (n : Int)) (b2 : i.bytes * n ≤ 281474976710656) (b3 : n ≤ maxLen) (b4 : base ≤ w.heap.size)
    (hK : ∀ w', w'.ownsRow base e size (.slice (some ⟨w.heap.size, 0, none⟩) n n) n (madeCells z.cells (n * size)).toList → w.grownBy w' none → K (a.put o.dst (.slice (some ⟨w.heap.size, 0, none⟩) n n)) w') :
    if Region.wanted o (yielded ops a.tmps) = true then Oper.wp P o a w K Q else E := by
  have hw : Region.wanted o (yielded ops a.tmps) = true := by simp [Region.wanted, hgd]
  rw [if_pos hw]
  obtain ⟨w', hrun, r1, r2⟩ := run_make_full (P := P) w base t e i z size h1 h2 h3 h4 kl kc n b2 b3 b4
  subst hL
  subst hC
  unfold Oper.wp
  simp [execOp, hop, hl, hc, hrun, Result.andThen]
  exact hK _ r1 r2
theorem made_rows {w : World} {lo n : Nat} {v : Value} (h : w.ownsRow lo 37 1 v n (madeCells (Value.slice none 0 0).cells (n * 1)).toList) : RowsL w lo v (List.replicate n []) := by
  have e : (madeCells (Value.slice none 0 0).cells (n * 1)).toList = List.replicate n (.slice none 0 0) := by
    apply List.ext_getElem
    · simp [madeCells]
    · intro i h1 h2
      simp [madeCells, Value.cells, Nat.mod_one]
  rw [e] at h
  refine ⟨List.replicate n (.slice none 0 0), by simp, by simpa using h, fun i hi => ?_⟩
  have hi' : i < n := by simpa using hi
  have e1 : (List.replicate n (Value.slice none 0 0)).getD i undef = .slice none 0 0 := by simp [hi']
  have e2 : (List.replicate n ([] : List Int)).getD i [] = [] := by simp [hi']
  rw [e1, e2]
  exact OwnInts.nil _ _
theorem none31_set {n j : Nat} (hj : j < n) : (List.replicate n ([] : List Int)).set j [(j : Int) + 1] = none31 n ((j : Int) + 1) := by
  apply List.ext_getElem
  · simp [none31]
  · intro i h1 h2
    rw [List.getElem_set]
    simp only [none31, List.getElem_map, List.getElem_range, List.getElem_replicate]
    by_cases hij : j = i
    · subst hij; rw [if_pos rfl, if_pos rfl]
    · rw [if_neg hij, if_neg (by omega)]
theorem RowsL.get {w : World} {lo n : Nat} {v : Value} {ll : List (List Int)} (h : RowsL w lo v ll) (hn : ll.length = n) (i : Nat) (hi : i < n) :
    ∃ g cap u, v = .slice (some ⟨g, 0, none⟩) n cap ∧ lo ≤ g ∧ g < w.heap.size ∧ w.cell? ⟨g, i, none⟩ = some u ∧ w.frozen? ⟨g, i, none⟩ = false ∧ OwnInts w lo u (ll.getD i []) := by
  obtain ⟨vs, h1, h2, h3⟩ := h
  subst hn
  rcases h2.2 with ⟨rfl, h'⟩ | ⟨g, cap, cur, rfl, hb, hg, hnc, hcm, hcs, htake⟩
  · omega
  · refine ⟨g, cap, vs.getD i undef, rfl, hb, heap_lt hg, ?_, h2.frozenAt i, h3 i hi⟩
    rw [h2.cellAt i (by omega)]
    show vs[i]? = some (vs.getD i undef)
    rw [List.getD_eq_getElem?_getD, List.getElem?_eq_getElem (by omega)]; rfl
theorem NetS.row {w0 W : World} {N B G n : Nat} {rs ways : List (List Int)} {home : Int} (h : NetS w0 W N B G rs ways n home) (i : Nat) (hi : i < n) :
    ∃ u, W.cell? ⟨G, i, none⟩ = some u ∧ W.frozen? ⟨G, i, none⟩ = false := by
  obtain ⟨g, cap, u, e, h1, h2, h3, h4, _⟩ := h.rows.get h.len i hi
  simp only [Value.slice.injEq, Option.some.injEq, Addr.mk.injEq] at e
  obtain ⟨⟨rfl, _⟩, _⟩ := e
  exact ⟨u, h3, h4⟩
theorem grown_set {w w1 : World} {G j : Nat} {u : Value} (hb : Below w.heap.size w w1) : w.grownBy (w1.setCell ⟨G, j, none⟩ u) (some G) :=
  ⟨hb.os, hb.tape, hb.output, by simpa using hb.size, fun k hk hne => (Below.heap_setCell _ _ _ _ (by intro e; exact hne (by rw [e]))).trans (hb.block k hk)⟩
theorem grown_drew {w w1 : World} {r : Option Nat} (h : w.grownBy w1 r) : w.grownBy w1.drew r := ⟨h.os, h.tape, h.output, h.size, h.block⟩
theorem grown_trans {w w1 w2 : World} {G : Nat} (h : w.grownBy w1 (some G)) (g : w1.grownBy w2 (some G)) : w.grownBy w2 (some G) :=
  ⟨g.os.trans h.os, g.tape.trans h.tape, g.output.trans h.output, Nat.le_trans h.size g.size, fun k hk hne => (g.block k (Nat.lt_of_lt_of_le hk h.size) hne).trans (h.block k hk hne)⟩
def StepPost (w0 : World) (N B G : Nat) (rs ways : List (List Int)) (n : Nat) (home : Int) (w : World) (e : Ending) (w' : World) : Prop := e = .returned (.tuple #[]) ∧ NetS w0 w' N B G rs ways n home ∧ w.grownBy w' (some G)
set_option maxHeartbeats 4000000 in
theorem step_any (w0 : World) (N B G n L : Nat) (rs ways : List (List Int)) (home : Int) (j : Nat) (w : World) (S : NetS w0 w N B G rs ways n home) (hr : rs.length = n) (hW : Ways31 ways n L) (hGd : Good31 ways n) (hL : L ≤ 500) (hn : n ≤ 5) (hj : j < n) :
    Calls Tryz.prog 61 #[.pointer (some ⟨N, 0, none⟩), .int .i64 ((j : Int) + 1)] w (StepPost w0 N B G rs (net31 rs ways home ((j : Int) + 1) n) n home w) := by
  have hP : ∀ W, Below w.heap.size w W → Calls Tryz.prog 71 #[.pointer (some ⟨N, 0, none⟩), .int .i64 ((j : Int) + 1)] W (WPickPost rs ways home ((j : Int) + 1) W) := fun W hb => pick_way w0 N B G n L rs ways home ((j : Int) + 1) W (S.below hb) hr hW hGd hL hn (by omega) (by omega)
  rw [net31_set S.len hj]
  have hsub : (j : Int) + 1 - 1 = (j : Int) := by omega
  have hwj : IntKind.i64.wrap (j : Int) = (j : Int) := IntWalk.i64_in _ (by omega)
  have j0 : (0 : Int) ≤ (j : Int) := by omega
  have hjI : (j : Int) < (n : Int) := by omega
  have HP := Lib.hid hP
  have HS := Lib.hid S
  obtain ⟨P, hPP⟩ : ∃ P, pick31 rs ways home ((j : Int) + 1) = P := ⟨_, rfl⟩
  rw [hPP]
  have HPP := Lib.hid hPP
  have c3 := S.c3
  have hNl : N < w.heap.size := cell_lt c3
  have hb0 := S.bel.size
  clear hP S hPP hW hGd hr
  go_enter Tryz.func61, Tryz.ntmps61
  go_wp2_with fail
  go_region_law (go_simp; go_at_call 71; refine (HP.out _ (by first | exact Below.refl _ _ | exact Below.drew (Below.refl _ _) | repeat (first | exact Below.refl _ _ | assumption | refine Below.drew ?_ | refine belowDrewN ?_ _ | refine Below.alloc ?_ (by first | exact Nat.le_refl _ | omega | (simp; done) | (simp; omega)) _ | refine Below.setCell ?_ (by first | exact Nat.le_refl _ | omega | (simp; done) | (simp; omega)) _))).mono ?_; rintro e w1 ⟨v1, rfl, hO, hb1⟩; have hb13 : Below w.heap.size w w1 := (by refine Below.trans ?_ (hb1.mono (by first | exact Nat.le_refl _ | omega | (simp; done) | (simp; omega))); repeat (first | exact Below.refl _ _ | assumption | refine Below.drew ?_ | refine belowDrewN ?_ _ | refine Below.alloc ?_ (by first | exact Nat.le_refl _ | omega | (simp; done) | (simp; omega)) _ | refine Below.setCell ?_ (by first | exact Nat.le_refl _ | omega | (simp; done) | (simp; omega)) _)); have S1 := Lib.hid (HS.out.below hb13); have k3 := S1.out.c3; obtain ⟨ur, kx, ky⟩ := S1.out.row j hj; obtain ⟨va, vc, e1, _, _⟩ := hO.form; subst e1; have O1 := Lib.hid (hO.lift (show w0.heap.size ≤ _ by (try simp); omega)); have HB1 := Lib.hid hb13; clear hO hb1 hb13)
  all_goals
    go_end0
    rw [← HPP.out]
    exact ⟨rfl, by first | exact S1.out.set j hj O1.out | exact (S1.out.set j hj O1.out).below (Below.drew (Below.refl _ _)), by first | exact grown_set HB1.out | exact grown_drew (grown_set HB1.out)⟩
set_option maxHeartbeats 4000000 in
theorem nothing_any (w0 : World) (B n : Nat) (rs : List (List Int)) (j : Nat) (w : World) (hR : RelB w B n rs) (hE : ErrOk w) (hB0 : Below w0.heap.size w0 w) (hn : n ≤ 5) (hj : j < n) :
    Calls Tryz.prog 36 #[.agg #[.int .i64 (n : Int), .map (some B)], .int .i64 ((j : Int) + 1)] w fun e w' => ∃ N G, e = .returned (.pointer (some ⟨N, 0, none⟩)) ∧ NetS w0 w' N B G rs (none31 n ((j : Int) + 1)) n ((j : Int) + 1) ∧ Below w.heap.size w w' ∧ w.heap.size ≤ G := by
  obtain ⟨i0, hi, hz0, hz1, hz2⟩ := info_parts info_r2
  have hBl : B < w.heap.size := by obtain ⟨cnt, D, o1, _⟩ := hR; exact o1.lt
  have hsub : (j : Int) + 1 - 1 = (j : Int) := by omega
  have hwj : IntKind.i64.wrap (j : Int) = (j : Int) := IntWalk.i64_in _ (by omega)
  have j0 : (0 : Int) ≤ (j : Int) := by omega
  have hjI : (j : Int) < (n : Int) := by omega
  have HR := Lib.hid hR
  have HE := Lib.hid hE
  have HB0 := Lib.hid hB0
  have hb0 := hB0.size
  clear hR hE hB0
  go_enter Tryz.func36, Tryz.ntmps36
  go_wp2_with fail
  refine wp_region_noPanic ?_
  refine wp_region_held_drew (S := (fun W => W.cell? ⟨w.heap.size, 0, none⟩ = some (.int .i64 (n : Int)) ∧ W.cell? ⟨w.heap.size, 1, none⟩ = some (.map (some B)))) (by kernel_rfl) (by simp) (fun hHeld => ?_)
  refine wpAnyH_take (i := 0) (v := _) (by (simp only [List.getElem?_toArray, List.getElem?_cons_zero]) <;> rfl) (by kernel_rfl) (by kernel_rfl) (by kernel_rfl) (fun _ _ _ h => h) (Or.inl ⟨by rfl, fun w hSw => by ((try dsimp only at hSw); go_simp) <;> with_reducible rfl⟩) (by assumption) ?_
  (try simp only [Act.put, List.setIfInBounds_toArray, List.set_cons_zero, List.set_cons_succ])
  refine wpAnyH_take (i := 1) (v := _) (by (simp only [List.getElem?_toArray, List.getElem?_cons_succ, List.getElem?_cons_zero]) <;> rfl) (by kernel_rfl) (by kernel_rfl) (by kernel_rfl) (fun _ _ _ h => h) (Or.inl ⟨by rfl, fun w hSw => by ((try dsimp only at hSw); go_simp) <;> with_reducible rfl⟩) (by assumption) ?_
  (try simp only [Act.put, List.setIfInBounds_toArray, List.set_cons_zero, List.set_cons_succ])
  refine wpAnyH_take (i := 2) (v := _) (by (simp only [List.getElem?_toArray, List.getElem?_cons_succ, List.getElem?_cons_zero]) <;> rfl) (by kernel_rfl) (by kernel_rfl) (by kernel_rfl) (fun _ _ _ h => h) (Or.inl ⟨by rfl, fun w hSw => by ((try dsimp only at hSw); go_simp) <;> with_reducible rfl⟩) (by assumption) ?_
  (try simp only [Act.put, List.setIfInBounds_toArray, List.set_cons_zero, List.set_cons_succ])
  refine wpAnyH_take (i := 3) (v := _) (by (simp only [List.getElem?_toArray, List.getElem?_cons_succ, List.getElem?_cons_zero]) <;> rfl) (by kernel_rfl) (by kernel_rfl) (by kernel_rfl) (fun _ _ _ h => h) (Or.inl ⟨by rfl, fun w hSw => by ((try dsimp only at hSw); go_simp) <;> with_reducible rfl⟩) (by assumption) ?_
  (try simp only [Act.put, List.setIfInBounds_toArray, List.set_cons_zero, List.set_cons_succ])
  refine wpAnyH_ready (rs := [4]) (by kernel_rfl) (by simp) ?_
  refine AllReadyH.cons (by (simp only [List.getElem?_toArray, List.getElem?_cons_succ, List.getElem?_cons_zero]) <;> rfl) (fun K hK => ?_) AllReadyH.nil
  go_simp
  (obtain ⟨w1, hrun, hown, hgrow⟩ := run_make_full (P := Tryz.prog) (w := (w.alloc (.cells #[.int .i64 (n : Int), .map (some B)] 55)).drew) (w.heap.size + 1) 23 37 i0 (.slice none 0 0) 1 Tryz.underlying23 hi hz0 hz1 .i64 .i64 n (by rw [hz2]; omega) (by unfold maxLen; omega) (by simp); have hsz : (w.alloc (.cells #[.int .i64 (n : Int), .map (some B)] 55)).drew.heap.size = w.heap.size + 1 := World.size_alloc _ _; rw [hsz] at hrun hown; have hg1 : w.heap.size + 1 < w1.heap.size := (World.ownsRow.lt hown _ rfl).2; rw [hrun]; go_simp; have hA : Below w.heap.size w (w.alloc (.cells #[.int .i64 (n : Int), .map (some B)] 55)) := Below.alloc (Below.refl _ _) (Nat.le_refl _) _; have hb1 : Below (w.heap.size + 1) (w.alloc (.cells #[.int .i64 (n : Int), .map (some B)] 55)) w1 := (by refine Below.grown (Below.drew (Below.refl _ _)) hgrow (by simp) (fun g hg => by cases hg)); have k0 : w1.cell? ⟨w.heap.size, 0, none⟩ = some (.int .i64 (n : Int)) := (hb1.cell (p := ⟨w.heap.size, 0, none⟩) (by simp)).trans (by simp); have k1 : w1.cell? ⟨w.heap.size, 1, none⟩ = some (.map (some B)) := (hb1.cell (p := ⟨w.heap.size, 1, none⟩) (by simp)).trans (by simp))
  refine hK.out _ _ (by exact ⟨k0, k1⟩) (fun hHeld => ?_)
  (try simp only [Act.put, List.setIfInBounds_toArray, List.set_cons_zero, List.set_cons_succ])
  refine wpAnyH_take (i := 5) (v := _) (by (simp only [List.getElem?_toArray, List.getElem?_cons_succ, List.getElem?_cons_zero]) <;> rfl) (by kernel_rfl) (by kernel_rfl) (by kernel_rfl) (fun _ _ _ h => h) (Or.inl ⟨by rfl, fun w hSw => by ((try dsimp only at hSw); go_simp) <;> with_reducible rfl⟩) (by assumption) ?_
  (try simp only [Act.put, List.setIfInBounds_toArray, List.set_cons_zero, List.set_cons_succ])
  refine wpAnyH_ready (rs := [6]) (by kernel_rfl) (by simp) ?_
  refine AllReadyH.cons (by (simp only [List.getElem?_toArray, List.getElem?_cons_succ, List.getElem?_cons_zero]) <;> rfl) (fun K hK => ?_) AllReadyH.nil
  go_simp
  skip
  refine hK.out _ _ (by exact ⟨(World.cell?_alloc_past _ _ _ (by show w.heap.size < w1.heap.size; omega)).trans k0, (World.cell?_alloc_past _ _ _ (by show w.heap.size < w1.heap.size; omega)).trans k1⟩) (fun hHeld => ?_)
  (try simp only [Act.put, List.setIfInBounds_toArray, List.set_cons_zero, List.set_cons_succ])
  refine wpAnyH_take (i := 7) (v := _) (by (simp only [List.getElem?_toArray, List.getElem?_cons_succ, List.getElem?_cons_zero]) <;> rfl) (by kernel_rfl) (by kernel_rfl) (by kernel_rfl) (fun _ _ _ h => h) (Or.inl ⟨by rfl, fun w hSw => by ((try dsimp only at hSw); go_simp) <;> with_reducible rfl⟩) (by assumption) ?_
  (try simp only [Act.put, List.setIfInBounds_toArray, List.set_cons_zero, List.set_cons_succ])
  refine wpAnyH_done (by kernel_rfl) ?_ _
  refine NoPanic.normal ?_
  have hAs : (w1.alloc (.cells #[.int .i64 (n : Int), .map (some B), .int .i64 ((j : Int) + 1), .slice (some ⟨w.heap.size + 1, 0, none⟩) n n] 83)).heap.size = w1.heap.size + 1 := World.size_alloc _ _
  have hW1 : Below w.heap.size w w1 := hA.trans (hb1.mono (by omega))
  have hbA : Below w1.heap.size w1 ((w1.alloc (.cells #[.int .i64 (n : Int), .map (some B), .int .i64 ((j : Int) + 1), .slice (some ⟨w.heap.size + 1, 0, none⟩) n n] 83)).alloc (.cells #[.int .i64 ((j : Int) + 1)] 3)) := Below.alloc (Below.alloc (Below.refl _ _) (Nat.le_refl _) _) (by rw [hAs]; omega) _
  have hbW := hW1.trans (hbA.mono (show w.heap.size ≤ w1.heap.size by omega))
  have hN : ∀ i v, (w1.alloc (.cells #[.int .i64 (n : Int), .map (some B), .int .i64 ((j : Int) + 1), .slice (some ⟨w.heap.size + 1, 0, none⟩) n n] 83)).cell? ⟨w1.heap.size, i, none⟩ = some v → ((w1.alloc (.cells #[.int .i64 (n : Int), .map (some B), .int .i64 ((j : Int) + 1), .slice (some ⟨w.heap.size + 1, 0, none⟩) n n] 83)).alloc (.cells #[.int .i64 ((j : Int) + 1)] 3)).cell? ⟨w1.heap.size, i, none⟩ = some v := fun i v hv => (World.cell?_alloc_past _ _ _ (by rw [hAs]; omega)).trans hv
  have S2 : NetS w0 ((w1.alloc (.cells #[.int .i64 (n : Int), .map (some B), .int .i64 ((j : Int) + 1), .slice (some ⟨w.heap.size + 1, 0, none⟩) n n] 83)).alloc (.cells #[.int .i64 ((j : Int) + 1)] 3)) w1.heap.size B (w.heap.size + 1) rs (List.replicate n []) n ((j : Int) + 1) :=
    ⟨HB0.out.trans (hbW.mono hb0), hN 0 _ (by simp), hN 1 _ (by simp), hN 2 _ (by simp), hN 3 _ (by simp), ⟨by omega, by omega⟩, RelB.below HR.out hbW,
      ((made_rows hown).lift (by omega)).below hbA, by simp, (HE.out.below hW1).below hbA⟩
  have O1 := OwnInts.one (w1.alloc (.cells #[.int .i64 (n : Int), .map (some B), .int .i64 ((j : Int) + 1), .slice (some ⟨w.heap.size + 1, 0, none⟩) n n] 83)) ((j : Int) + 1)
  rw [hAs] at O1
  obtain ⟨u, x0, x1⟩ := S2.row j hj
  have SS := Lib.hid S2
  have OO := Lib.hid (O1.lift (show w0.heap.size ≤ w1.heap.size + 1 by omega))
  have HBW := Lib.hid hbW
  clear S2 O1 hbA hbW hW1 hb1 hA hown hgrow hrun hN k0 k1 hAs
  go_wp2_with fail
  go_ret
  exact ⟨_, w.heap.size + 1, rfl, by rw [← none31_set hj]; exact SS.out.set j hj OO.out, Below.setCell HBW.out (by simp) _, by omega⟩
end Go.Proofs.YtlpibfafpljedaaGreatDoor

namespace Go.Proofs.YtlpibfafpljedaaGreatDoor
open Go.RowKit Go.Maps
set_option linter.unusedVariables false
set_option maxRecDepth 100000

theorem ints_grown {w w' : World} {G : Nat} {a : Option Addr} {m c : Nat} {l : List Int} (h : IntsAt w (.slice a m c) l) (hg : w.grownBy w' (some G)) (hne : ∀ b off, a = some ⟨b, off, none⟩ → b ≠ G) : IntsAt w' (.slice a m c) l := by
  obtain ⟨a', c', e, hc, hm, h⟩ := h
  simp only [Value.slice.injEq] at e
  obtain ⟨rfl, rfl, rfl⟩ := e
  refine ⟨_, _, rfl, hc, hm, ?_⟩
  rcases h with h | ⟨b, off, rfl, hlt, hcell⟩
  · exact .inl h
  · exact .inr ⟨b, off, rfl, Nat.lt_of_lt_of_le hlt hg.size, fun i hi => (World.cell?_of_block (hg.block b hlt (by intro e; exact hne b off rfl (by simpa using e)))).trans (hcell i hi)⟩
theorem own_not_row {w : World} {lo lo' n g cap : Nat} {l : List Int} {a : Option Addr} {m c : Nat} {ll : List (List Int)} (h : OwnInts w lo (.slice a m c) l) (hr : RowsL w lo' (.slice (some ⟨g, 0, none⟩) n cap) ll) : ∀ b off, a = some ⟨b, off, none⟩ → b ≠ g := by
  intro b off e hbg
  subst e
  subst hbg
  obtain ⟨vs, h1, h2, h3⟩ := hr
  obtain ⟨cur, hc⟩ := owns_introw h2 rfl
  have h' : w.ownsRow lo 3 1 (.slice (some ⟨b, off, none⟩) m c) l.length (l.map (Value.int .i64)) := h
  rcases h'.2 with ⟨e, _⟩ | ⟨g', cap', cur', e, _, hg', _⟩
  · cases e
  · simp only [Value.slice.injEq, Option.some.injEq, Addr.mk.injEq] at e
    obtain ⟨⟨rfl, _⟩, _⟩ := e
    rw [hc] at hg'
    simp at hg'
set_option maxHeartbeats 4000000 in
theorem run_any (w0 : World) (N B G n K lo : Nat) (rs : List (List Int)) (home : Int) (q : List Int) (v : Value) (w : World) (S : NetS w0 w N B G rs (endTo31 rs home n K) n home) (hr : rs.length = n) (hn : n ≤ 5) (hn1 : 1 ≤ n) (hK : K + q.length ≤ 200)
    (hv : OwnInts w lo v q) (hq : ∀ i, i < q.length → q.getD i 0 = (((K + i) % n : Nat) : Int) + 1) :
    Calls Tryz.prog 37 #[.pointer (some ⟨N, 0, none⟩), v] w (StepPost w0 N B G rs (endTo31 rs home n (K + q.length)) n home w) := by
  obtain ⟨a, c, rfl, hc, hcm⟩ := hv.form
  have hne := own_not_row hv S.rows
  obtain ⟨m, hm⟩ : ∃ m, q.length = m := ⟨_, rfl⟩
  have hst : ∀ W j, j < m → NetS w0 W N B G rs (endTo31 rs home n (K + j)) n home → ∀ x : Int, q.getD j 0 = x → Calls Tryz.prog 61 #[.pointer (some ⟨N, 0, none⟩), .int .i64 x] W (StepPost w0 N B G rs (endTo31 rs home n (K + j + 1)) n home W) := fun W j hj hS x hx => by
    rw [hq j (by omega)] at hx
    subst hx
    rw [endTo31_succ]
    exact step_any w0 N B G n (K + j + 1) rs _ home ((K + j) % n) W hS hr (endTo31_ways hr hn1 _) (endTo31_good hr _) (by omega) hn (Nat.mod_lt _ (by omega))
  have HST := Lib.hid hst
  have HM := Lib.hid hm
  have S0 := Lib.hid S
  have V0 := Lib.hid hv.ints
  have HNE := Lib.hid hne
  rw [hm] at hc V0 ⊢
  clear hst hm S hv hne hq
  go_enter Tryz.func37, Tryz.ntmps37
  go_wp2_with fail
  go_loopg [1] m (fun gk s1 wr => ∃ (j : Nat) (a' : Option Addr) (c' : Nat), s1 = .slice a' (m - j) c' ∧ j + gk = m ∧ Hid (IntsAt wr (.slice a' (m - j) c') (q.drop j)) ∧ Hid (∀ b off, a' = some ⟨b, off, none⟩ → b ≠ G) ∧ Hid (NetS w0 wr N B G rs (endTo31 rs home n (K + j)) n home) ∧ Hid (w.grownBy wr (some G)))
  case atStart => exact ⟨0, a, c, rfl, by omega, V0, HNE, S0, Lib.hid ⟨rfl, rfl, rfl, Nat.le_refl _, fun k hk _ => rfl⟩⟩
  case round =>
    clear V0 HNE S0
    obtain ⟨j, a', c', rfl, hj, V, NE, S, GR⟩ := hrel
    by_cases hg : gk = 0
    · subst hg
      obtain rfl : j = m := by omega
      have h0 : j - j = 0 := by omega
      rw [h0]
      go_wp2_with fail
      go_end0
      exact ⟨rfl, S.out, GR.out⟩
    · have hjm : j < m := by omega
      obtain ⟨r, hr'⟩ : ∃ r, m - j = r := ⟨_, rfl⟩
      have hr1 : 1 ≤ r := by omega
      have hgk : 1 ≤ gk := by omega
      have hrI : (0 : Int) < (r : Int) := by omega
      have hrI1 : (1 : Int) ≤ (r : Int) := by omega
      rw [hr'] at V ⊢
      have HJ := Lib.hid hj
      have HR := Lib.hid hr'
      have hrN : 0 < r := by omega
      obtain ⟨b, off, rfl, hb, hz⟩ := V.out.get 0 hrN
      have hrc := V.out.len.2.1
      have hcm' := V.out.len.2.2
      rw [Nat.add_zero] at hz
      have e0 : (q.drop j).getD 0 0 = q.getD j 0 := by simp
      rw [e0] at hz
      obtain ⟨x, hx⟩ : ∃ x, q.getD j 0 = x := ⟨_, rfl⟩
      rw [hx] at hz
      have HC := Lib.hid (HST.out wr j hjm S.out x hx)
      have hrcI : (r : Int) ≤ (c' : Int) := by omega
      have hc1I : (1 : Int) ≤ (c' : Int) := by omega
      clear e0 hx hj hg hr'
      go_wp2_with fail
      refine HC.out.mono ?_
      rintro e w1 ⟨rfl, hS1, hG1⟩
      have S1 := Lib.hid hS1
      have GR1 := Lib.hid (grown_trans GR.out hG1)
      have V1 := Lib.hid ((ints_grown V.out hG1 NE.out).dropIf (k := 1) hr1)
      have hbG := NE.out b off rfl
      have hdd : (q.drop j).drop 1 = q.drop (j + 1) := by rw [List.drop_drop]
      rw [hdd] at V1
      clear hS1 hG1 hdd
      by_cases hck : c' = 1
      · rw [if_pos hck] at V1
        subst hck
        go_wp2_with fail
        go_roundg (gk - 1)
        case measure => omega
        case rel =>
          have h9 : m - (j + 1) = r - 1 := by have := HR.out; omega
          exact ⟨j + 1, some ⟨b, off, none⟩, 0, by rw [h9, show r - 1 = 0 by omega], by have := HJ.out; omega, by rw [h9]; exact V1, Lib.hid fun b' o' e => by cases e; exact hbG, S1, GR1⟩
      · rw [if_neg hck] at V1
        go_wp2_with fail
        go_roundg (gk - 1)
        case measure => omega
        case rel =>
          have h9 : m - (j + 1) = r - 1 := by have := HR.out; omega
          exact ⟨j + 1, _, _, by rw [h9], by have := HJ.out; omega, by rw [h9]; exact V1, Lib.hid fun b' o' e => by cases e; exact hbG, S1, GR1⟩
end Go.Proofs.YtlpibfafpljedaaGreatDoor

namespace Go.Proofs.YtlpibfafpljedaaGreatDoor
open Go.RowKit Go.Maps
set_option linter.unusedVariables false
set_option maxRecDepth 100000

theorem rels_bounds {rs : List (List Int)} (h : relsOkF rs = true) : 1 ≤ rs.length ∧ rs.length ≤ 5 := by
  by_cases hb : 1 ≤ rs.length ∧ rs.length ≤ 5
  · exact hb
  · rw [rels_size rfl hb] at h
    cases h
def roundF (n : Nat) : List Int := (List.range n).map fun i => ((i : Nat) : Int) + 1
theorem roundF_get {n i : Nat} (hi : i < n) : (roundF n).getD i 0 = (i : Int) + 1 := by unfold roundF; simp [hi]
theorem roundF_len (n : Nat) : (roundF n).length = n := by simp [roundF]
theorem roundF_succ (n : Nat) : roundF (n + 1) = roundF n ++ [(n : Int) + 1] := by unfold roundF; rw [List.range_succ, List.map_append]; rfl
theorem mod_round {i n j : Nat} (hj : j < n) : (i * n + j) % n = j := by rw [Nat.mul_comm, Nat.mul_add_mod, Nat.mod_eq_of_lt hj]
set_option maxHeartbeats 8000000 in
theorem netEnd_any (v : Value) (rs : List (List Int)) (n j : Nat) (w : World) (hv : RowsAt w v rs) (hok : relsOkF rs = true) (hl : rs.length = n) (hj : j < n) (hE : ErrOk w) :
    Calls Tryz.prog 17 #[v, .int .i64 ((j : Int) + 1)] w fun e w' => ∃ v', e = .returned v' ∧ RowsL w' w.heap.size v' (end31 rs ((j : Int) + 1) n) ∧ Below w.heap.size w w' := by
  have hbd := rels_bounds hok
  rw [hl] at hbd
  obtain ⟨hn1, hn5⟩ := hbd
  obtain ⟨a, cap, rfl, hc, hcm⟩ := hv.form
  have HRR := Lib.hid (readRels_any _ rs w hv)
  have HE := Lib.hid hE
  have HOK := Lib.hid hok
  have HL := Lib.hid hl
  rw [hl] at HRR ⊢
  clear hv hE hok hl
  obtain ⟨M, hM⟩ : ∃ M : Nat, 4 * n = M := ⟨_, rfl⟩
  have hMI : (4 : Int) * (n : Int) = (M : Int) := by omega
  have hwM : IntKind.i64.wrap (M : Int) = (M : Int) := IntWalk.i64_in _ (by omega)
  have hMn : M * n ≤ 100 := by
    rw [← hM]
    have : n = 1 ∨ n = 2 ∨ n = 3 ∨ n = 4 ∨ n = 5 := by omega
    rcases this with rfl | rfl | rfl | rfl | rfl <;> decide
  have HEND : Hid (end31 rs ((j : Int) + 1) n = endTo31 rs ((j : Int) + 1) n (M * n)) := Lib.hid (by unfold end31; rw [hM])
  have HMN := Lib.hid hMn
  clear hM hMn
  go_enter Tryz.func17, Tryz.ntmps17
  go_wp2_with fail
  refine HRR.out.mono ?_
  rintro e w1 ⟨m, ob, rfl, hb1, hpost⟩
  obtain ⟨rfl, B, cnt, D, rfl, hB, hcnt, hown, hrd⟩ := hpost HOK.out
  rw [HOK.out, HL.out]
  have hrd' : Reads D (valTo rs n n 0) := by have := hrd; rw [HL.out] at this; exact this
  have RB := Lib.hid (show RelB w1 B n rs from ⟨cnt, D, hown, hrd'⟩)
  have B1 := Lib.hid hb1
  have hs1 := hb1.size
  have hal := Below.alloc (Below.refl w1.heap.size w1) (Nat.le_refl _) (.cells #[.int .i64 (n : Int), .map (some B)] 55)
  have BA : Hid (Below w.heap.size w (w1.alloc (.cells #[.int .i64 (n : Int), .map (some B)] 55))) := Lib.hid (hb1.trans (hal.mono hs1))
  have hhas := relsHas_any (n : Int) (some B) ((j : Int) + 1) (w1.alloc (.cells #[.int .i64 (n : Int), .map (some B)] 55))
  rw [decide_eq_true (show (1 : Int) ≤ (j : Int) + 1 by omega), decide_eq_true (show (j : Int) + 1 ≤ (n : Int) by omega)] at hhas
  have HH := Lib.hid hhas
  have HAL := Lib.hid hal
  clear hb1 hpost hown hrd hrd' hhas hal HRR hB
  go_wp2_with fail
  refine HH.out.mono ?_
  rintro e w2 ⟨rfl, hb2⟩
  have hsA : (w1.alloc (.cells #[.int .i64 (n : Int), .map (some B)] 55)).heap.size = w1.heap.size + 1 := World.size_alloc _ _
  have c0 : w2.cell? ⟨w1.heap.size, 0, none⟩ = some (.int .i64 (n : Int)) := (hb2.cell (p := ⟨w1.heap.size, 0, none⟩) (by simp)).trans (by simp)
  have c1 : w2.cell? ⟨w1.heap.size, 1, none⟩ = some (.map (some B)) := (hb2.cell (p := ⟨w1.heap.size, 1, none⟩) (by simp)).trans (by simp)
  have hs2 : w1.heap.size + 1 ≤ w2.heap.size := by have := hb2.size; omega
  have B2 : Hid (Below w.heap.size w w2) := Lib.hid (BA.out.trans (hb2.mono (by omega)))
  have L2 : Hid (Below w1.heap.size w1 w2) := Lib.hid (HAL.out.trans (hb2.mono (by omega)))
  have HNO := Lib.hid (nothing_any w B n rs j w2 (RB.out.below L2.out) (HE.out.below B2.out) B2.out hn5 hj)
  clear hb2
  go_wp2_with fail
  refine HNO.out.mono ?_
  rintro e w3 ⟨N, G, rfl, hS3, hb3, hG3⟩
  have d0 : w3.cell? ⟨w1.heap.size, 0, none⟩ = some (.int .i64 (n : Int)) := (hb3.cell (p := ⟨w1.heap.size, 0, none⟩) (by show w1.heap.size < w2.heap.size; omega)).trans c0
  have S3 := Lib.hid hS3
  obtain ⟨R, hR⟩ : ∃ R, R = w1.heap.size := ⟨_, rfl⟩
  rw [← hR] at d0 ⊢
  have hRG : R ≠ G := by omega
  clear hS3 hb3 c0 c1 HNO HH hG3 hR hsA
  go_wp2_with fail
  have D0 := Lib.hid d0
  clear d0
  go_loopg [29] M (fun gk s29 wr => ∃ i : Nat, s29 = .int .i64 (i : Int) ∧ i + gk = M ∧ Hid (NetS w wr N B G rs (endTo31 rs ((j : Int) + 1) n (i * n)) n ((j : Int) + 1)) ∧ Hid (wr.cell? ⟨R, 0, none⟩ = some (.int .i64 (n : Int))))
  case atStart => exact ⟨0, rfl, by omega, Lib.hid (by rw [Nat.zero_mul]; exact S3.out), D0⟩
  case round =>
    clear S3 D0
    obtain ⟨i, rfl, hi, S, C⟩ := hrel
    by_cases hg : gk = 0
    · subst hg
      obtain rfl : i = M := by omega
      have hdn : decide ((i : Int) < (i : Int)) = false := by simp
      have c3 := S.out.c3
      go_wp2_with fail
      go_ret
      exact ⟨_, rfl, by rw [HEND.out]; exact S.out.rows, S.out.bel⟩
    · have hiM : i < M := by omega
      have hiI : (i : Int) < (M : Int) := by omega
      have hgk : 1 ≤ gk := by omega
      have HI := Lib.hid hi
      have c0 := C.out
      clear hi hg
      obtain ⟨wb, hwb⟩ : ∃ W, W = wr := ⟨_, rfl⟩
      subst hwb
      obtain ⟨gg, hgg⟩ : ∃ G, G = gk := ⟨_, rfl⟩
      go_wp2_with fail
      clear c0
      go_loopg [8, 9] n (fun gk s8 s9 wr => ∃ c : Nat, s9 = .int .i64 ((c : Int) + 1) ∧ c + gk = n ∧ Hid (OwnInts wr wb.heap.size s8 (roundF c)) ∧ Hid (Below wb.heap.size wb wr))
      case atStart => exact ⟨0, by go_num, by omega, Lib.hid (OwnInts.nil _ _), Lib.hid (Below.refl _ _)⟩
      case round =>
        obtain ⟨c, rfl, hc', O, BB⟩ := hrel
        obtain ⟨oa, oc, e, _, _⟩ := O.out.form
        subst e
        rw [roundF_len] at O ⊢
        have c0 : wr.cell? ⟨R, 0, none⟩ = some (.int .i64 (n : Int)) := (BB.out.cell (p := ⟨R, 0, none⟩) (cell_lt C.out)).trans C.out
        by_cases hg : gk = 0
        · subst hg
          obtain rfl : c = n := by omega
          have hdn : decide ((c : Int) + 1 ≤ (c : Int)) = false := decide_eq_false (by omega)
          have HRU := Lib.hid (run_any w N B G c (i * c) wb.heap.size rs ((j : Int) + 1) (roundF c) _ wr (S.out.below BB.out) HL.out hn5 hn1 (by
            rw [roundF_len]
            have : (i + 1) * c ≤ M * c := Nat.mul_le_mul_right c hiM
            rw [Nat.succ_mul] at this
            have := HMN.out
            omega) O.out (fun k hk => by
            rw [roundF_len] at hk
            rw [roundF_get hk, mod_round hk]))
          have C2 := Lib.hid c0
          clear hc'
          go_wp2_with fail
          refine HRU.out.mono ?_
          rintro e w4 ⟨rfl, hS4, hG4⟩
          have S4 := Lib.hid hS4
          have C4 := Lib.hid ((World.cell?_of_block (hG4.block R (cell_lt C2.out) (by intro e; exact hRG (by simpa using e)))).trans C2.out)
          clear hS4 hG4 c0
          go_wp2_with fail
          go_roundg (gg - 1)
          case measure => omega
          case rel => exact ⟨i + 1, by go_num, by have := HI.out; omega, Lib.hid (by have := S4.out; rw [roundF_len] at this; rw [Nat.succ_mul]; exact this), C4⟩
        · have hcn : c < n := by omega
          have hcI : (c : Int) + 1 ≤ (n : Int) := by omega
          have hgk2 : 1 ≤ gk := by omega
          have hswb := BB.out.size
          have HC := Lib.hid hc'
          have O' := Lib.hid (O.out.below (Below.alloc (Below.refl _ _) (Nat.le_refl _) (.cells #[.int .i64 ((c : Int) + 1)] 3)))
          have I' := Lib.hid (OwnInts.one wr ((c : Int) + 1)).ints
          have BB' := Lib.hid (Below.alloc BB.out hswb (.cells #[.int .i64 ((c : Int) + 1)] 3))
          have hrl := roundF_len c
          have HRL := Lib.hid hrl
          clear hc' hg O hrl
          go_wp2_with (at_builtin; refine wpList_append_ints rfl (.tmp 37) (.tmp 39) rfl wb.heap.size _ _ (roundF c) [(c : Int) + 1] (c + 1) (by rw [HRL.out]; rfl) rfl O'.out (by have := BB'.out.size; exact this) rfl I'.out (by omega) ?_; intro ad cc w4 hO4 hb4 hs4; have O4 := Lib.hid hO4; have B4 := Lib.hid (BB'.out.trans hb4); clear hO4 hb4)
          go_roundg (gk - 1)
          case measure => omega
          case rel => exact ⟨c + 1, by go_num, by have := HC.out; omega, Lib.hid (by rw [roundF_succ]; exact O4.out), B4⟩
end Go.Proofs.YtlpibfafpljedaaGreatDoor
