/- A part of the proof; packed by a program of mine out of my texts. -/
import Derived.Test.YtnecdeaikmhanaaGreatDoorPE0
import Derived.Test.YtnecdeaikmhanaaGreatDoorPE1
import Derived.Test.YtnecdeaikmhanaaGreatDoorPE2
import Derived.Test.YtnecdeaikmhanaaGreatDoorPE3
import Derived.Test.YtnecdeaikmhanaaGreatDoorPE4
import Derived.Test.YtnecdeaikmhanaaGreatDoorPE5
import Derived.Test.YtnecdeaikmhanaaGreatDoorPE6
import Derived.Test.YtnecdeaikmhanaaGreatDoorPE7
import Derived.Test.YtnecdeaikmhanaaGreatDoorPE8
import Derived.Test.YtnecdeaikmhanaaGreatDoorPE9
import Derived.Test.YtnecdeaikmhanaaGreatDoorPE10
import Derived.Test.YtnecdeaikmhanaaGreatDoorPE11
import Derived.Deep.RegionHeld3
namespace Go.Proofs.YtnecdeaikmhanaaGreatDoor
open Go.RowKit Go.Maps
set_option linter.unusedVariables false
set_option maxRecDepth 100000
theorem made_rows {w : World} {lo n : Nat} {v : Value} (h : w.ownsRow lo 37 1 v n (madeCells (Value.slice none 0 0).cells (n * 1)).toList) : RowsL w lo v (List.replicate n []) := by
  have e : (madeCells (Value.slice none 0 0).cells (n * 1)).toList = List.replicate n (.slice none 0 0) := by
    apply List.ext_getElem
    · simp [madeCells]
    · intro i h1 h2
      simp [madeCells, Value.cells, Nat.mod_one]
  rw [e] at h
  refine ⟨List.replicate n (.slice none 0 0), by simp, by simpa using h, fun i hi => ?_⟩
  have hi' : i < n := by simpa using hi
  have e1 : (List.replicate n (Value.slice none 0 0)).getD i undef = .slice none 0 0 := by simp [hi']
  have e2 : (List.replicate n ([] : List Int)).getD i [] = [] := by simp [hi']
  rw [e1, e2]
  exact OwnInts.nil _ _
theorem none31_set {n j : Nat} (hj : j < n) : (List.replicate n ([] : List Int)).set j [(j : Int) + 1] = none31 n ((j : Int) + 1) := by
  apply List.ext_getElem
  · simp [none31]
  · intro i h1 h2
    rw [List.getElem_set]
    simp only [none31, List.getElem_map, List.getElem_range, List.getElem_replicate]
    by_cases hij : j = i
    · subst hij; rw [if_pos rfl, if_pos rfl]
    · rw [if_neg hij, if_neg (by omega)]
theorem RowsL.get {w : World} {lo n : Nat} {v : Value} {ll : List (List Int)} (h : RowsL w lo v ll) (hn : ll.length = n) (i : Nat) (hi : i < n) :
    ∃ g cap u, v = .slice (some ⟨g, 0, none⟩) n cap ∧ lo ≤ g ∧ g < w.heap.size ∧ w.cell? ⟨g, i, none⟩ = some u ∧ w.frozen? ⟨g, i, none⟩ = false ∧ OwnInts w lo u (ll.getD i []) := by
  obtain ⟨vs, h1, h2, h3⟩ := h
  subst hn
  rcases h2.2 with ⟨rfl, h'⟩ | ⟨g, cap, cur, rfl, hb, hg, hnc, hcm, hcs, htake⟩
  · omega
  · refine ⟨g, cap, vs.getD i undef, rfl, hb, heap_lt hg, ?_, h2.frozenAt i, h3 i hi⟩
    rw [h2.cellAt i (by omega)]
    show vs[i]? = some (vs.getD i undef)
    rw [List.getD_eq_getElem?_getD, List.getElem?_eq_getElem (by omega)]; rfl
theorem NetS.row {w0 W : World} {N B G n : Nat} {rs ways : List (List Int)} {home : Int} (h : NetS w0 W N B G rs ways n home) (i : Nat) (hi : i < n) :
    ∃ u, W.cell? ⟨G, i, none⟩ = some u ∧ W.frozen? ⟨G, i, none⟩ = false := by
  obtain ⟨g, cap, u, e, h1, h2, h3, h4, _⟩ := h.rows.get h.len i hi
  simp only [Value.slice.injEq, Option.some.injEq, Addr.mk.injEq] at e
  obtain ⟨⟨rfl, _⟩, _⟩ := e
  exact ⟨u, h3, h4⟩
theorem grown_set {w w1 : World} {G j : Nat} {u : Value} (hb : Below w.heap.size w w1) : w.grownBy (w1.setCell ⟨G, j, none⟩ u) (some G) :=
  ⟨hb.os, hb.tape, hb.output, by simpa using hb.size, fun k hk hne => (Below.heap_setCell _ _ _ _ (by intro e; exact hne (by rw [e]))).trans (hb.block k hk)⟩
theorem grown_drew {w w1 : World} {r : Option Nat} (h : w.grownBy w1 r) : w.grownBy w1.drew r := ⟨h.os, h.tape, h.output, h.size, h.block⟩
theorem grown_trans {w w1 w2 : World} {G : Nat} (h : w.grownBy w1 (some G)) (g : w1.grownBy w2 (some G)) : w.grownBy w2 (some G) :=
  ⟨g.os.trans h.os, g.tape.trans h.tape, g.output.trans h.output, Nat.le_trans h.size g.size, fun k hk hne => (g.block k (Nat.lt_of_lt_of_le hk h.size) hne).trans (h.block k hk hne)⟩
def StepPost (w0 : World) (N B G : Nat) (rs ways : List (List Int)) (n : Nat) (home : Int) (w : World) (e : Ending) (w' : World) : Prop := e = .returned (.tuple #[]) ∧ NetS w0 w' N B G rs ways n home ∧ w.grownBy w' (some G)
set_option maxHeartbeats 4000000 in
theorem step_any (w0 : World) (N B G n L : Nat) (rs ways : List (List Int)) (home : Int) (j : Nat) (w : World) (S : NetS w0 w N B G rs ways n home) (hr : rs.length = n) (hW : Ways31 ways n L) (hGd : Good31 ways n) (hL : L ≤ 500) (hn : n ≤ 5) (hj : j < n) :
    Calls Tryz.prog 130 #[.pointer (some ⟨N, 0, none⟩), .int .i64 ((j : Int) + 1)] w (StepPost w0 N B G rs (net31 rs ways home ((j : Int) + 1) n) n home w) := by
  have hP : ∀ W, Below w.heap.size w W → Calls Tryz.prog 156 #[.pointer (some ⟨N, 0, none⟩), .int .i64 ((j : Int) + 1)] W (WPickPost rs ways home ((j : Int) + 1) W) := fun W hb => pick_way w0 N B G n L rs ways home ((j : Int) + 1) W (S.below hb) hr hW hGd hL hn (by omega) (by omega)
  rw [net31_set S.len hj]
  have hsub : (j : Int) + 1 - 1 = (j : Int) := by omega
  have hwj : IntKind.i64.wrap (j : Int) = (j : Int) := IntWalk.i64_in _ (by omega)
  have j0 : (0 : Int) ≤ (j : Int) := by omega
  have hjI : (j : Int) < (n : Int) := by omega
  have HP := Lib.hid hP
  have HS := Lib.hid S
  obtain ⟨P, hPP⟩ : ∃ P, pick31 rs ways home ((j : Int) + 1) = P := ⟨_, rfl⟩
  rw [hPP]
  have HPP := Lib.hid hPP
  have c3 := S.c3
  have hNl : N < w.heap.size := cell_lt c3
  have hb0 := S.bel.size
  clear hP S hPP hW hGd hr
  go_enter Tryz.func130, Tryz.ntmps130
  go_wp2_with fail
  go_region_law (go_simp; go_at_call 156; refine (HP.out _ (by first | exact Below.refl _ _ | exact Below.drew (Below.refl _ _) | exact bw)).mono ?_; rintro e w1 ⟨v1, rfl, hO, hb1⟩; have hb13 : Below w.heap.size w w1 := (by refine Below.trans ?_ (hb1.mono (by first | exact Nat.le_refl _ | omega | (simp; done) | (simp; omega))); exact bw); have S1 := Lib.hid (HS.out.below hb13); have k3 := S1.out.c3; obtain ⟨ur, kx, ky⟩ := S1.out.row j hj; obtain ⟨va, vc, e1, _, _⟩ := hO.form; subst e1; have O1 := Lib.hid (hO.lift (show w0.heap.size ≤ _ by (try simp); omega)); have HB1 := Lib.hid hb13; clear hO hb1 hb13)
  all_goals
    go_end0
    rw [← HPP.out]
    exact ⟨rfl, by first | exact S1.out.set j hj O1.out | exact (S1.out.set j hj O1.out).below (Below.drew (Below.refl _ _)), by first | exact grown_set HB1.out | exact grown_drew (grown_set HB1.out)⟩
set_option maxHeartbeats 4000000 in
theorem nothing_any (w0 : World) (B n : Nat) (rs : List (List Int)) (j : Nat) (w : World) (hR : RelB w B n rs) (hE : ErrOk w) (hB0 : Below w0.heap.size w0 w) (hn : n ≤ 5) (hj : j < n) :
    Calls Tryz.prog 99 #[.agg #[.int .i64 (n : Int), .map (some B)], .int .i64 ((j : Int) + 1)] w fun e w' => ∃ N G, e = .returned (.pointer (some ⟨N, 0, none⟩)) ∧ NetS w0 w' N B G rs (none31 n ((j : Int) + 1)) n ((j : Int) + 1) ∧ Below w.heap.size w w' ∧ w.heap.size ≤ G := by
  obtain ⟨i0, hi, hz0, hz1, hz2⟩ := info_parts info_r2
  have hBl : B < w.heap.size := by obtain ⟨cnt, D, o1, _⟩ := hR; exact o1.lt
  have hsub : (j : Int) + 1 - 1 = (j : Int) := by omega
  have hwj : IntKind.i64.wrap (j : Int) = (j : Int) := IntWalk.i64_in _ (by omega)
  have j0 : (0 : Int) ≤ (j : Int) := by omega
  have hjI : (j : Int) < (n : Int) := by omega
  have HR := Lib.hid hR
  have HE := Lib.hid hE
  have HB0 := Lib.hid hB0
  have hb0 := hB0.size
  clear hR hE hB0
  go_enter Tryz.func99, Tryz.ntmps99
  go_wp2_with fail
  refine wp_region_noPanic ?_
  refine wp_region_held_drew (S := (fun W => W.cell? ⟨w.heap.size, 0, none⟩ = some (.int .i64 (n : Int)) ∧ W.cell? ⟨w.heap.size, 1, none⟩ = some (.map (some B)))) (by kernel_rfl) (by simp) (fun hHeld => ?_)
  refine tkT (i := 0) (h := ?_)
  (try simp only [Act.put, pB, pC, pD])
  refine tkT (i := 1) (h := ?_)
  (try simp only [Act.put, pB, pC, pD])
  refine tkT (i := 2) (h := ?_)
  (try simp only [Act.put, pB, pC, pD])
  refine tkT (i := 3) (h := ?_)
  (try simp only [Act.put, pB, pC, pD])
  refine wpAnyH_ready (rs := [4]) (by kernel_rfl) (by simp) ?_
  refine AllReadyH.cons (by (simp only [List.getElem?_toArray, List.getElem?_cons_succ, List.getElem?_cons_zero]) <;> rfl) (fun K hK => ?_) AllReadyH.nil
  go_simp
  (obtain ⟨w1, hrun, hown, hgrow⟩ := run_make_full (P := Tryz.prog) (w := (w.alloc (.cells #[.int .i64 (n : Int), .map (some B)] 120)).drew) (w.heap.size + 1) 33 37 i0 (.slice none 0 0) 1 Tryz.underlying33 hi hz0 hz1 .i64 .i64 n (by rw [hz2]; omega) (by unfold maxLen; omega) (by simp); have hsz : (w.alloc (.cells #[.int .i64 (n : Int), .map (some B)] 120)).drew.heap.size = w.heap.size + 1 := World.size_alloc _ _; rw [hsz] at hrun hown; have hg1 : w.heap.size + 1 < w1.heap.size := (World.ownsRow.lt hown _ rfl).2; rw [hrun]; go_simp; have hA : Below w.heap.size w (w.alloc (.cells #[.int .i64 (n : Int), .map (some B)] 120)) := Below.alloc (Below.refl _ _) (Nat.le_refl _) _; have hb1 : Below (w.heap.size + 1) (w.alloc (.cells #[.int .i64 (n : Int), .map (some B)] 120)) w1 := (by refine Below.grown (Below.drew (Below.refl _ _)) hgrow (by simp) (fun g hg => by cases hg)); have k0 : w1.cell? ⟨w.heap.size, 0, none⟩ = some (.int .i64 (n : Int)) := (hb1.cell (p := ⟨w.heap.size, 0, none⟩) (by simp)).trans (by simp); have k1 : w1.cell? ⟨w.heap.size, 1, none⟩ = some (.map (some B)) := (hb1.cell (p := ⟨w.heap.size, 1, none⟩) (by simp)).trans (by simp))
  refine hK.out _ _ (by exact ⟨k0, k1⟩) (fun hHeld => ?_)
  (try simp only [Act.put, pB, pC, pD])
  refine tkT (i := 5) (h := ?_)
  (try simp only [Act.put, pB, pC, pD])
  refine wpAnyH_ready (rs := [6]) (by kernel_rfl) (by simp) ?_
  refine AllReadyH.cons (by (simp only [List.getElem?_toArray, List.getElem?_cons_succ, List.getElem?_cons_zero]) <;> rfl) (fun K hK => ?_) AllReadyH.nil
  go_simp
  skip
  refine hK.out _ _ (by exact ⟨(World.cell?_alloc_past _ _ _ (by show w.heap.size < w1.heap.size; omega)).trans k0, (World.cell?_alloc_past _ _ _ (by show w.heap.size < w1.heap.size; omega)).trans k1⟩) (fun hHeld => ?_)
  (try simp only [Act.put, pB, pC, pD])
  refine tkT (i := 7) (h := ?_)
  (try simp only [Act.put, pB, pC, pD])
  refine wpAnyH_done (by kernel_rfl) ?_ _
  refine NoPanic.normal ?_
  have hAs : (w1.alloc (.cells #[.int .i64 (n : Int), .map (some B), .int .i64 ((j : Int) + 1), .slice (some ⟨w.heap.size + 1, 0, none⟩) n n] 127)).heap.size = w1.heap.size + 1 := World.size_alloc _ _
  have hW1 : Below w.heap.size w w1 := hA.trans (hb1.mono (by omega))
  have hbA : Below w1.heap.size w1 ((w1.alloc (.cells #[.int .i64 (n : Int), .map (some B), .int .i64 ((j : Int) + 1), .slice (some ⟨w.heap.size + 1, 0, none⟩) n n] 127)).alloc (.cells #[.int .i64 ((j : Int) + 1)] 3)) := Below.alloc (Below.alloc (Below.refl _ _) (Nat.le_refl _) _) (by rw [hAs]; omega) _
  have hbW := hW1.trans (hbA.mono (show w.heap.size ≤ w1.heap.size by omega))
  have hN : ∀ i v, (w1.alloc (.cells #[.int .i64 (n : Int), .map (some B), .int .i64 ((j : Int) + 1), .slice (some ⟨w.heap.size + 1, 0, none⟩) n n] 127)).cell? ⟨w1.heap.size, i, none⟩ = some v → ((w1.alloc (.cells #[.int .i64 (n : Int), .map (some B), .int .i64 ((j : Int) + 1), .slice (some ⟨w.heap.size + 1, 0, none⟩) n n] 127)).alloc (.cells #[.int .i64 ((j : Int) + 1)] 3)).cell? ⟨w1.heap.size, i, none⟩ = some v := fun i v hv => (World.cell?_alloc_past _ _ _ (by rw [hAs]; omega)).trans hv
  have S2 : NetS w0 ((w1.alloc (.cells #[.int .i64 (n : Int), .map (some B), .int .i64 ((j : Int) + 1), .slice (some ⟨w.heap.size + 1, 0, none⟩) n n] 127)).alloc (.cells #[.int .i64 ((j : Int) + 1)] 3)) w1.heap.size B (w.heap.size + 1) rs (List.replicate n []) n ((j : Int) + 1) :=
    ⟨HB0.out.trans (hbW.mono hb0), hN 0 _ (by simp), hN 1 _ (by simp), hN 2 _ (by simp), hN 3 _ (by simp), ⟨by omega, by omega⟩, RelB.below HR.out hbW,
      ((made_rows hown).lift (by omega)).below hbA, by simp, (HE.out.below hW1).below hbA⟩
  have O1 := OwnInts.one (w1.alloc (.cells #[.int .i64 (n : Int), .map (some B), .int .i64 ((j : Int) + 1), .slice (some ⟨w.heap.size + 1, 0, none⟩) n n] 127)) ((j : Int) + 1)
  rw [hAs] at O1
  obtain ⟨u, x0, x1⟩ := S2.row j hj
  have SS := Lib.hid S2
  have OO := Lib.hid (O1.lift (show w0.heap.size ≤ w1.heap.size + 1 by omega))
  have HBW := Lib.hid hbW
  clear S2 O1 hbA hbW hW1 hb1 hA hown hgrow hrun hN k0 k1 hAs
  go_wp2_with fail
  go_ret
  exact ⟨_, w.heap.size + 1, rfl, by rw [← none31_set hj]; exact SS.out.set j hj OO.out, Below.setCell HBW.out (by simp) _, by omega⟩
end Go.Proofs.YtnecdeaikmhanaaGreatDoor
namespace Go.Proofs.YtnecdeaikmhanaaGreatDoor
open Go.RowKit Go.Maps
set_option linter.unusedVariables false
set_option maxRecDepth 100000
theorem ints_grown {w w' : World} {G : Nat} {a : Option Addr} {m c : Nat} {l : List Int} (h : IntsAt w (.slice a m c) l) (hg : w.grownBy w' (some G)) (hne : ∀ b off, a = some ⟨b, off, none⟩ → b ≠ G) : IntsAt w' (.slice a m c) l := by
  obtain ⟨a', c', e, hc, hm, h⟩ := h
  simp only [Value.slice.injEq] at e
  obtain ⟨rfl, rfl, rfl⟩ := e
  refine ⟨_, _, rfl, hc, hm, ?_⟩
  rcases h with h | ⟨b, off, rfl, hlt, hcell⟩
  · exact .inl h
  · exact .inr ⟨b, off, rfl, Nat.lt_of_lt_of_le hlt hg.size, fun i hi => (World.cell?_of_block (hg.block b hlt (by intro e; exact hne b off rfl (by simpa using e)))).trans (hcell i hi)⟩
theorem own_not_row {w : World} {lo lo' n g cap : Nat} {l : List Int} {a : Option Addr} {m c : Nat} {ll : List (List Int)} (h : OwnInts w lo (.slice a m c) l) (hr : RowsL w lo' (.slice (some ⟨g, 0, none⟩) n cap) ll) : ∀ b off, a = some ⟨b, off, none⟩ → b ≠ g := by
  intro b off e hbg
  subst e
  subst hbg
  obtain ⟨vs, h1, h2, h3⟩ := hr
  obtain ⟨cur, hc⟩ := owns_introw h2 rfl
  have h' : w.ownsRow lo 3 1 (.slice (some ⟨b, off, none⟩) m c) l.length (l.map (Value.int .i64)) := h
  rcases h'.2 with ⟨e, _⟩ | ⟨g', cap', cur', e, _, hg', _⟩
  · cases e
  · simp only [Value.slice.injEq, Option.some.injEq, Addr.mk.injEq] at e
    obtain ⟨⟨rfl, _⟩, _⟩ := e
    rw [hc] at hg'
    simp at hg'
set_option maxHeartbeats 4000000 in
theorem run_any (w0 : World) (N B G n K lo : Nat) (rs : List (List Int)) (home : Int) (q : List Int) (v : Value) (w : World) (S : NetS w0 w N B G rs (endTo31 rs home n K) n home) (hr : rs.length = n) (hn : n ≤ 5) (hn1 : 1 ≤ n) (hK : K + q.length ≤ 200)
    (hv : OwnInts w lo v q) (hq : ∀ i, i < q.length → q.getD i 0 = (((K + i) % n : Nat) : Int) + 1) :
    Calls Tryz.prog 100 #[.pointer (some ⟨N, 0, none⟩), v] w (StepPost w0 N B G rs (endTo31 rs home n (K + q.length)) n home w) := by
  obtain ⟨a, c, rfl, hc, hcm⟩ := hv.form
  have hne := own_not_row hv S.rows
  obtain ⟨m, hm⟩ : ∃ m, q.length = m := ⟨_, rfl⟩
  have hst : ∀ W j, j < m → NetS w0 W N B G rs (endTo31 rs home n (K + j)) n home → ∀ x : Int, q.getD j 0 = x → Calls Tryz.prog 130 #[.pointer (some ⟨N, 0, none⟩), .int .i64 x] W (StepPost w0 N B G rs (endTo31 rs home n (K + j + 1)) n home W) := fun W j hj hS x hx => by
    rw [hq j (by omega)] at hx
    subst hx
    rw [endTo31_succ]
    exact step_any w0 N B G n (K + j + 1) rs _ home ((K + j) % n) W hS hr (endTo31_ways hr hn1 _) (endTo31_good hr _) (by omega) hn (Nat.mod_lt _ (by omega))
  have HST := Lib.hid hst
  have HM := Lib.hid hm
  have S0 := Lib.hid S
  have V0 := Lib.hid hv.ints
  have HNE := Lib.hid hne
  rw [hm] at hc V0 ⊢
  clear hst hm S hv hne hq
  go_enter Tryz.func100, Tryz.ntmps100
  go_wp2_with fail
  go_loopg [1] m (fun gk s1 wr => ∃ (j : Nat) (a' : Option Addr) (c' : Nat), s1 = .slice a' (m - j) c' ∧ j + gk = m ∧ Hid (IntsAt wr (.slice a' (m - j) c') (q.drop j)) ∧ Hid (∀ b off, a' = some ⟨b, off, none⟩ → b ≠ G) ∧ Hid (NetS w0 wr N B G rs (endTo31 rs home n (K + j)) n home) ∧ Hid (w.grownBy wr (some G)))
  case atStart => exact ⟨0, a, c, rfl, by omega, V0, HNE, S0, Lib.hid ⟨rfl, rfl, rfl, Nat.le_refl _, fun k hk _ => rfl⟩⟩
  case round =>
    clear V0 HNE S0
    obtain ⟨j, a', c', rfl, hj, V, NE, S, GR⟩ := hrel
    by_cases hg : gk = 0
    · subst hg
      obtain rfl : j = m := by omega
      have h0 : j - j = 0 := by omega
      rw [h0]
      go_wp2_with fail
      go_end0
      exact ⟨rfl, S.out, GR.out⟩
    · have hjm : j < m := by omega
      obtain ⟨r, hr'⟩ : ∃ r, m - j = r := ⟨_, rfl⟩
      have hr1 : 1 ≤ r := by omega
      have hgk : 1 ≤ gk := by omega
      have hrI : (0 : Int) < (r : Int) := by omega
      have hrI1 : (1 : Int) ≤ (r : Int) := by omega
      rw [hr'] at V ⊢
      have HJ := Lib.hid hj
      have HR := Lib.hid hr'
      have hrN : 0 < r := by omega
      obtain ⟨b, off, rfl, hb, hz⟩ := V.out.get 0 hrN
      have hrc := V.out.len.2.1
      have hcm' := V.out.len.2.2
      rw [Nat.add_zero] at hz
      have e0 : (q.drop j).getD 0 0 = q.getD j 0 := by simp
      rw [e0] at hz
      obtain ⟨x, hx⟩ : ∃ x, q.getD j 0 = x := ⟨_, rfl⟩
      rw [hx] at hz
      have HC := Lib.hid (HST.out wr j hjm S.out x hx)
      have hrcI : (r : Int) ≤ (c' : Int) := by omega
      have hc1I : (1 : Int) ≤ (c' : Int) := by omega
      clear e0 hx hj hg hr'
      go_wp2_with fail
      refine HC.out.mono ?_
      rintro e w1 ⟨rfl, hS1, hG1⟩
      have S1 := Lib.hid hS1
      have GR1 := Lib.hid (grown_trans GR.out hG1)
      have V1 := Lib.hid ((ints_grown V.out hG1 NE.out).dropIf (k := 1) hr1)
      have hbG := NE.out b off rfl
      have hdd : (q.drop j).drop 1 = q.drop (j + 1) := by rw [List.drop_drop]
      rw [hdd] at V1
      clear hS1 hG1 hdd
      by_cases hck : c' = 1
      · rw [if_pos hck] at V1
        subst hck
        go_wp2_with fail
        go_roundg (gk - 1)
        case measure => omega
        case rel =>
          have h9 : m - (j + 1) = r - 1 := by have := HR.out; omega
          exact ⟨j + 1, some ⟨b, off, none⟩, 0, by rw [h9, show r - 1 = 0 by omega], by have := HJ.out; omega, by rw [h9]; exact V1, Lib.hid fun b' o' e => by cases e; exact hbG, S1, GR1⟩
      · rw [if_neg hck] at V1
        go_wp2_with fail
        go_roundg (gk - 1)
        case measure => omega
        case rel =>
          have h9 : m - (j + 1) = r - 1 := by have := HR.out; omega
          exact ⟨j + 1, _, _, by rw [h9], by have := HJ.out; omega, by rw [h9]; exact V1, Lib.hid fun b' o' e => by cases e; exact hbG, S1, GR1⟩
end Go.Proofs.YtnecdeaikmhanaaGreatDoor
namespace Go.Proofs.YtnecdeaikmhanaaGreatDoor
open Go.RowKit Go.Maps
set_option linter.unusedVariables false
set_option maxRecDepth 100000
theorem rels_bounds {rs : List (List Int)} (h : relsOkF rs = true) : 1 ≤ rs.length ∧ rs.length ≤ 5 := by
  by_cases hb : 1 ≤ rs.length ∧ rs.length ≤ 5
  · exact hb
  · rw [rels_size rfl hb] at h
    cases h
def roundF (n : Nat) : List Int := (List.range n).map fun i => ((i : Nat) : Int) + 1
theorem roundF_get {n i : Nat} (hi : i < n) : (roundF n).getD i 0 = (i : Int) + 1 := by unfold roundF; simp [hi]
theorem roundF_len (n : Nat) : (roundF n).length = n := by simp [roundF]
theorem roundF_succ (n : Nat) : roundF (n + 1) = roundF n ++ [(n : Int) + 1] := by unfold roundF; rw [List.range_succ, List.map_append]; rfl
theorem mod_round {i n j : Nat} (hj : j < n) : (i * n + j) % n = j := by rw [Nat.mul_comm, Nat.mul_add_mod, Nat.mod_eq_of_lt hj]
set_option maxHeartbeats 8000000 in
theorem netEnd_any (v : Value) (rs : List (List Int)) (n j : Nat) (w : World) (hv : RowsAt w v rs) (hok : relsOkF rs = true) (hl : rs.length = n) (hj : j < n) (hE : ErrOk w) :
    Calls Tryz.prog 63 #[v, .int .i64 ((j : Int) + 1)] w fun e w' => ∃ v', e = .returned v' ∧ RowsL w' w.heap.size v' (end31 rs ((j : Int) + 1) n) ∧ Below w.heap.size w w' := by
  have hbd := rels_bounds hok
  rw [hl] at hbd
  obtain ⟨hn1, hn5⟩ := hbd
  obtain ⟨a, cap, rfl, hc, hcm⟩ := hv.form
  have HRR := Lib.hid (readRels_any _ rs w hv)
  have HE := Lib.hid hE
  have HOK := Lib.hid hok
  have HL := Lib.hid hl
  rw [hl] at HRR ⊢
  clear hv hE hok hl
  obtain ⟨M, hM⟩ : ∃ M : Nat, 4 * n = M := ⟨_, rfl⟩
  have hMI : (4 : Int) * (n : Int) = (M : Int) := by omega
  have hwM : IntKind.i64.wrap (M : Int) = (M : Int) := IntWalk.i64_in _ (by omega)
  have hMn : M * n ≤ 100 := by
    rw [← hM]
    have : n = 1 ∨ n = 2 ∨ n = 3 ∨ n = 4 ∨ n = 5 := by omega
    rcases this with rfl | rfl | rfl | rfl | rfl <;> decide
  have HEND : Hid (end31 rs ((j : Int) + 1) n = endTo31 rs ((j : Int) + 1) n (M * n)) := Lib.hid (by unfold end31; rw [hM])
  have HMN := Lib.hid hMn
  clear hM hMn
  go_enter Tryz.func63, Tryz.ntmps63
  go_wp2_with fail
  refine HRR.out.mono ?_
  rintro e w1 ⟨m, ob, rfl, hb1, hpost⟩
  obtain ⟨rfl, B, cnt, D, rfl, hB, hcnt, hown, hrd⟩ := hpost HOK.out
  rw [HOK.out, HL.out]
  have hrd' : Reads D (valTo rs n n 0) := by have := hrd; rw [HL.out] at this; exact this
  have RB := Lib.hid (show RelB w1 B n rs from ⟨cnt, D, hown, hrd'⟩)
  have B1 := Lib.hid hb1
  have hs1 := hb1.size
  have hal := Below.alloc (Below.refl w1.heap.size w1) (Nat.le_refl _) (.cells #[.int .i64 (n : Int), .map (some B)] 120)
  have BA : Hid (Below w.heap.size w (w1.alloc (.cells #[.int .i64 (n : Int), .map (some B)] 120))) := Lib.hid (hb1.trans (hal.mono hs1))
  have hhas := relsHas_any (n : Int) (some B) ((j : Int) + 1) (w1.alloc (.cells #[.int .i64 (n : Int), .map (some B)] 120))
  rw [decide_eq_true (show (1 : Int) ≤ (j : Int) + 1 by omega), decide_eq_true (show (j : Int) + 1 ≤ (n : Int) by omega)] at hhas
  have HH := Lib.hid hhas
  have HAL := Lib.hid hal
  clear hb1 hpost hown hrd hrd' hhas hal HRR hB
  go_wp2_with fail
  refine HH.out.mono ?_
  rintro e w2 ⟨rfl, hb2⟩
  have hsA : (w1.alloc (.cells #[.int .i64 (n : Int), .map (some B)] 120)).heap.size = w1.heap.size + 1 := World.size_alloc _ _
  have c0 : w2.cell? ⟨w1.heap.size, 0, none⟩ = some (.int .i64 (n : Int)) := (hb2.cell (p := ⟨w1.heap.size, 0, none⟩) (by simp)).trans (by simp)
  have c1 : w2.cell? ⟨w1.heap.size, 1, none⟩ = some (.map (some B)) := (hb2.cell (p := ⟨w1.heap.size, 1, none⟩) (by simp)).trans (by simp)
  have hs2 : w1.heap.size + 1 ≤ w2.heap.size := by have := hb2.size; omega
  have B2 : Hid (Below w.heap.size w w2) := Lib.hid (BA.out.trans (hb2.mono (by omega)))
  have L2 : Hid (Below w1.heap.size w1 w2) := Lib.hid (HAL.out.trans (hb2.mono (by omega)))
  have HNO := Lib.hid (nothing_any w B n rs j w2 (RB.out.below L2.out) (HE.out.below B2.out) B2.out hn5 hj)
  clear hb2
  go_wp2_with fail
  refine HNO.out.mono ?_
  rintro e w3 ⟨N, G, rfl, hS3, hb3, hG3⟩
  have d0 : w3.cell? ⟨w1.heap.size, 0, none⟩ = some (.int .i64 (n : Int)) := (hb3.cell (p := ⟨w1.heap.size, 0, none⟩) (by show w1.heap.size < w2.heap.size; omega)).trans c0
  have S3 := Lib.hid hS3
  obtain ⟨R, hR⟩ : ∃ R, R = w1.heap.size := ⟨_, rfl⟩
  rw [← hR] at d0 ⊢
  have hRG : R ≠ G := by omega
  clear hS3 hb3 c0 c1 HNO HH hG3 hR hsA
  go_wp2_with fail
  have D0 := Lib.hid d0
  clear d0
  go_loopg [29] M (fun gk s29 wr => ∃ i : Nat, s29 = .int .i64 (i : Int) ∧ i + gk = M ∧ Hid (NetS w wr N B G rs (endTo31 rs ((j : Int) + 1) n (i * n)) n ((j : Int) + 1)) ∧ Hid (wr.cell? ⟨R, 0, none⟩ = some (.int .i64 (n : Int))))
  case atStart => exact ⟨0, rfl, by omega, Lib.hid (by rw [Nat.zero_mul]; exact S3.out), D0⟩
  case round =>
    clear S3 D0
    obtain ⟨i, rfl, hi, S, C⟩ := hrel
    by_cases hg : gk = 0
    · subst hg
      obtain rfl : i = M := by omega
      have hdn : decide ((i : Int) < (i : Int)) = false := by simp
      have c3 := S.out.c3
      go_wp2_with fail
      go_ret
      exact ⟨_, rfl, by rw [HEND.out]; exact S.out.rows, S.out.bel⟩
    · have hiM : i < M := by omega
      have hiI : (i : Int) < (M : Int) := by omega
      have hgk : 1 ≤ gk := by omega
      have HI := Lib.hid hi
      have c0 := C.out
      clear hi hg
      obtain ⟨wb, hwb⟩ : ∃ W, W = wr := ⟨_, rfl⟩
      subst hwb
      obtain ⟨gg, hgg⟩ : ∃ G, G = gk := ⟨_, rfl⟩
      go_wp2_with fail
      clear c0
      go_loopg [8, 9] n (fun gk s8 s9 wr => ∃ c : Nat, s9 = .int .i64 ((c : Int) + 1) ∧ c + gk = n ∧ Hid (OwnInts wr wb.heap.size s8 (roundF c)) ∧ Hid (Below wb.heap.size wb wr))
      case atStart => exact ⟨0, by go_num, by omega, Lib.hid (OwnInts.nil _ _), Lib.hid (Below.refl _ _)⟩
      case round =>
        obtain ⟨c, rfl, hc', O, BB⟩ := hrel
        obtain ⟨oa, oc, e, _, _⟩ := O.out.form
        subst e
        rw [roundF_len] at O ⊢
        have c0 : wr.cell? ⟨R, 0, none⟩ = some (.int .i64 (n : Int)) := (BB.out.cell (p := ⟨R, 0, none⟩) (cell_lt C.out)).trans C.out
        by_cases hg : gk = 0
        · subst hg
          obtain rfl : c = n := by omega
          have hdn : decide ((c : Int) + 1 ≤ (c : Int)) = false := decide_eq_false (by omega)
          have HRU := Lib.hid (run_any w N B G c (i * c) wb.heap.size rs ((j : Int) + 1) (roundF c) _ wr (S.out.below BB.out) HL.out hn5 hn1 (by
            rw [roundF_len]
            have : (i + 1) * c ≤ M * c := Nat.mul_le_mul_right c hiM
            rw [Nat.succ_mul] at this
            have := HMN.out
            omega) O.out (fun k hk => by
            rw [roundF_len] at hk
            rw [roundF_get hk, mod_round hk]))
          have C2 := Lib.hid c0
          clear hc'
          go_wp2_with fail
          refine HRU.out.mono ?_
          rintro e w4 ⟨rfl, hS4, hG4⟩
          have S4 := Lib.hid hS4
          have C4 := Lib.hid ((World.cell?_of_block (hG4.block R (cell_lt C2.out) (by intro e; exact hRG (by simpa using e)))).trans C2.out)
          clear hS4 hG4 c0
          go_wp2_with fail
          go_roundg (gg - 1)
          case measure => omega
          case rel => exact ⟨i + 1, by go_num, by have := HI.out; omega, Lib.hid (by have := S4.out; rw [roundF_len] at this; rw [Nat.succ_mul]; exact this), C4⟩
        · have hcn : c < n := by omega
          have hcI : (c : Int) + 1 ≤ (n : Int) := by omega
          have hgk2 : 1 ≤ gk := by omega
          have hswb := BB.out.size
          have HC := Lib.hid hc'
          have O' := Lib.hid (O.out.below (Below.alloc (Below.refl _ _) (Nat.le_refl _) (.cells #[.int .i64 ((c : Int) + 1)] 3)))
          have I' := Lib.hid (OwnInts.one wr ((c : Int) + 1)).ints
          have BB' := Lib.hid (Below.alloc BB.out hswb (.cells #[.int .i64 ((c : Int) + 1)] 3))
          have hrl := roundF_len c
          have HRL := Lib.hid hrl
          clear hc' hg O hrl
          go_wp2_with (at_builtin; refine wpList_append_ints rfl (.tmp 37) (.tmp 39) rfl wb.heap.size _ _ (roundF c) [(c : Int) + 1] (c + 1) (by rw [HRL.out]; rfl) rfl O'.out (by have := BB'.out.size; exact this) rfl I'.out (by omega) ?_; intro ad cc w4 hO4 hb4 hs4; have O4 := Lib.hid hO4; have B4 := Lib.hid (BB'.out.trans hb4); clear hO4 hb4)
          go_roundg (gk - 1)
          case measure => omega
          case rel => exact ⟨c + 1, by go_num, by have := HC.out; omega, Lib.hid (by rw [roundF_succ]; exact O4.out), B4⟩
end Go.Proofs.YtnecdeaikmhanaaGreatDoor
namespace Go.Proofs.YtnecdeaikmhanaaGreatDoor
open Go.RowKit
set_option linter.unusedVariables false
set_option maxRecDepth 100000
theorem info_s1 : (Tryz.prog.info? 100).map (fun i => (i.zero, i.size, i.bytes)) = some (some (.slice none 0 0), 1, 24) := by kernel_rfl
theorem homesTo_zero (rs : List (List Int)) (n : Nat) (l : List Ent) : homesTo rs n l 0 = List.replicate n [] := by
  show (List.range n).map (fun _ => []) = _
  apply List.ext_getElem
  · simp
  · intro i h1 h2
    simp
theorem ent_off {w w' : World} {lo : Nat} {u : Value} {tb : List Ent} (hE : EntNew w lo u tb) (hg : w.grownBy w' u.ownBlock) {X : Nat} {cs : Array Value} {T : TypeId} (hT : T ≠ 103) (hX : w.heap[X]? = some (.cells cs T (0, 0))) : w'.heap[X]? = some (.cells cs T (0, 0)) :=
  (hg.block X (heap_lt hX) (by
    intro e
    obtain ⟨c2, hc2⟩ := owns_ent hE e.symm
    rw [hc2] at hX
    simp at hX
    exact hT hX.2.symm)).trans hX
theorem RowsL.setG {w : World} {lo g : Nat} {v : Value} {ll : List (List Int)} {cur : Array Value} (h : RowsL w lo v ll) (hc : w.heap[g]? = some (.cells cur 100 (0, 0))) (j : Nat) (u : Value) : RowsL (w.setCell ⟨g, j, none⟩ u) lo v ll := by
  obtain ⟨vs, h1, h2, h3⟩ := h
  have key : ∀ b (T : TypeId) c, T ≠ 100 → w.heap[b]? = some (Obj.cells c T (0, 0)) → (w.setCell ⟨g, j, none⟩ u).heap[b]? = w.heap[b]? := fun b T c hT hb =>
    Below.heap_setCell _ _ _ _ (by
      intro e
      have e : g = b := by simpa using e.symm
      subst e
      rw [hc] at hb
      simp at hb
      exact hT hb.2.symm)
  exact ⟨vs, h1, owns_blk h2 (fun b c _ hb => key b _ c (by decide) hb), fun i hi => owns_blk (h3 i hi) (fun b c _ hb => key b _ c (by decide) hb)⟩
def HomeB (w : World) (X : Nat) (f bt ho : Int) : Prop := w.heap[X]? = some (.cells #[.int .i64 f, .int .i64 bt, .int .i64 ho] 83 (0, 0))
theorem HomeB.cells {w : World} {X : Nat} {f bt ho : Int} (h : HomeB w X f bt ho) : w.cell? ⟨X, 0, none⟩ = some (.int .i64 f) ∧ w.cell? ⟨X, 1, none⟩ = some (.int .i64 bt) ∧ w.cell? ⟨X, 2, none⟩ = some (.int .i64 ho) := by
  have := fun j => cell_of_row w X j #[.int .i64 f, .int .i64 bt, .int .i64 ho] 83 (0, 0) h
  exact ⟨(this 0).trans rfl, (this 1).trans rfl, (this 2).trans rfl⟩
theorem HomeB.below {w w' : World} {X : Nat} {f bt ho : Int} (h : HomeB w X f bt ho) (hb : Below w.heap.size w w') : HomeB w' X f bt ho := (hb.block X (heap_lt h)).trans h
theorem put_end {w wr w3 : World} {n G X h tl uc ad c3 : Nat} {ua : Option Addr} {f bt ho via : Int} {wv : Value} {ways : List (List Int)} {tt : List (List Ent)} {tb : List Ent}
    (O : TabsX wr w.heap.size (.slice (some ⟨G, 0, none⟩) n n) tt) (htt : tt.length = n) (hh : h < n) (hu : wr.cell? ⟨G, h, none⟩ = some (.slice ua tl uc)) (R : RowsL wr 0 wv ways) (XX : HomeB wr X f bt ho) (BB : Below w.heap.size w wr) (hGl : w.heap.size ≤ G) (hXG : X ≠ G) (U : EntNew wr w.heap.size (.slice ua tl uc) tb)
    (hE3 : EntNew w3 w.heap.size (.slice (some ⟨ad, 0, none⟩) (tb.length + 1) c3) (tb ++ [(f, bt, via)])) (hG3 : wr.drew.grownBy w3 (Value.slice ua tl uc).ownBlock) (hor : (Value.slice ua tl uc).ownBlock = some ad ∨ wr.drew.heap.size ≤ ad) :
    (w3.cell? ⟨X, 0, none⟩ = some (.int .i64 f) ∧ w3.cell? ⟨X, 1, none⟩ = some (.int .i64 bt)) ∧ (∃ q, w3.cell? ⟨G, h, none⟩ = some q ∧ w3.frozen? ⟨G, h, none⟩ = false) ∧
      TabsX (w3.setCell ⟨G, h, none⟩ (.slice (some ⟨ad, 0, none⟩) (tb.length + 1) c3)) w.heap.size (.slice (some ⟨G, 0, none⟩) n n) (tt.set h (tb ++ [(f, bt, via)])) ∧
      RowsL (w3.setCell ⟨G, h, none⟩ (.slice (some ⟨ad, 0, none⟩) (tb.length + 1) c3)) 0 wv ways ∧ HomeB (w3.setCell ⟨G, h, none⟩ (.slice (some ⟨ad, 0, none⟩) (tb.length + 1) c3)) X f bt ho ∧ Below w.heap.size w (w3.setCell ⟨G, h, none⟩ (.slice (some ⟨ad, 0, none⟩) (tb.length + 1) c3)) := by
  have hD : Below wr.heap.size wr wr.drew := Below.drew (Below.refl _ _)
  have U' := U.below hD
  have X3 : HomeB w3 X f bt ho := ent_off U' hG3 (by decide) (XX.below hD)
  obtain ⟨x0, x1, _⟩ := X3.cells
  obtain ⟨vs, o1, o2, o3, o4⟩ := O.below hD
  obtain ⟨cur, hc⟩ := owns_tabrow o2 rfl
  have hc3 : w3.heap[G]? = some (.cells cur 100 (0, 0)) := ent_off U' hG3 (by decide) hc
  have hcell : w3.cell? ⟨G, h, none⟩ = wr.cell? ⟨G, h, none⟩ := World.cell?_of_block (hc3.trans hc.symm)
  have hfz : w3.frozen? ⟨G, h, none⟩ = false := by
    obtain ⟨g, cap, q, e, _, _, _, h5, _⟩ := (O.below hD).get htt h hh
    simp only [Value.slice.injEq, Option.some.injEq, Addr.mk.injEq] at e
    obtain ⟨⟨rfl, _⟩, _⟩ := e
    exact (World.frozen?_of_block (a := ⟨G, h, none⟩) (hc3.trans hc.symm)).trans h5
  refine ⟨⟨x0, x1⟩, ⟨_, hcell.trans hu, hfz⟩, (O.below hD).put htt hh hu hG3 hE3 rfl hor, (((R.below hD).offEnt hG3 (fun g hg => owns_ent U' hg)).setG hc3 h _), (Below.heap_setCell _ _ _ _ hXG).trans X3, Below.setCell (Below.grown (BB.trans (hD.mono BB.size)) hG3 (by have := BB.size; exact this) (fun g hg => by obtain ⟨xs, q1, _⟩ := U; exact (World.ownsRow.lt q1 g hg).1)) hGl _⟩
set_option maxHeartbeats 16000000 in
theorem implSendTables_any (v hv : Value) (rs : List (List Int)) (l : List Ent) (n : Nat) (w : World) (hr : RowsAt w v rs) (hh : EntsAt w hv l) (hn : rs.length = n) (hE : ErrOk w) :
    Calls Tryz.prog 69 #[v, hv] w fun e w' => ∃ v', e = .returned v' ∧ TabsL w' w.heap.size v' (sendTabsF rs l n) ∧ Below w.heap.size w w' := by
  obtain ⟨ra, rc, rfl, hrc, hrm⟩ := hr.form
  obtain ⟨la, lc, rfl, hlc, hlm⟩ := hh.form
  have hok := implHomesOk_any _ _ rs l w hr hh
  rw [hn] at hr hrc hok ⊢
  obtain ⟨L, hL⟩ : ∃ L, l.length = L := ⟨_, rfl⟩
  rw [hL] at hh hlc hok ⊢
  obtain ⟨B, hB⟩ : ∃ B, homesOkF rs l = B := ⟨_, rfl⟩
  rw [hB] at hok
  have HOK := Lib.hid hok
  have HB := Lib.hid hB
  cases B
  · have hF : sendTabsF rs l n = [] := by unfold sendTabsF; rw [hB]; rfl
    rw [hF]
    clear hok hB hF hr hh hE hn hL
    go_enter Tryz.func69, Tryz.ntmps69
    go_wp2_with fail
    refine HOK.out.mono ?_
    rintro e w1 ⟨rfl, hb1⟩
    go_wp2_with fail
    go_ret
    exact ⟨_, rfl, ⟨[], rfl, ⟨rfl, .inl ⟨rfl, rfl⟩⟩, fun i hi => by simp at hi⟩, hb1⟩
  · have hF : sendTabsF rs l n = homesTo rs n l L := by unfold sendTabsF; rw [hB, if_pos rfl, hL]
    rw [hF]
    have hall := homesOk_all hB
    have hbd := rels_bounds hall.1
    rw [hn] at hbd
    obtain ⟨hn1, hn5⟩ := hbd
    have hL4 := hall.2.1
    rw [hL] at hL4
    obtain ⟨i0, hi, hz0, hz1, hz2⟩ := info_parts info_s1
    have hend : ∀ W (j : Nat), Below w.heap.size w W → j < n → Calls Tryz.prog 63 #[.slice ra n rc, .int .i64 ((j : Int) + 1)] W fun r w' => ∃ v', r = .returned v' ∧ RowsL w' W.heap.size v' (end31 rs ((j : Int) + 1) n) ∧ Below W.heap.size W w' := fun W j hb hj => netEnd_any _ rs n j W (hr.below hb) hall.1 hn hj (hE.below hb)
    have hho : ∀ c, c < L → 1 ≤ (l.getD c (0, 0, 0)).2.2 ∧ (l.getD c (0, 0, 0)).2.2 ≤ (n : Int) := fun c hc => by
      have := homes_house hB (by rw [hL]; exact hc : c < l.length)
      rw [hn] at this
      exact ⟨this.1, this.2.1⟩
    have hput : ∀ c h, c < L → h < n → putHome (end31 rs (l.getD c (0, 0, 0)).2.2 n) (l.getD c (0, 0, 0)) h ((homesTo rs n l c).getD h []) = impPut (end31 rs (l.getD c (0, 0, 0)).2.2 n) (l.getD c (0, 0, 0)) h ((homesTo rs n l c).getD h []) := fun c h hc hh => by
      have e1 := homesTo_tabF (rs := rs) (homes_rise hB) (fun i hi => hho i (by omega)) c (by omega) h hh
      rw [e1]
      exact putHome_imp hh (endTo31_far _) (fun he => endTo31_home he.symm hh _) (tabF_less (homes_rise hB) (by omega))
    have HEND := Lib.hid hend
    have HHO := Lib.hid hho
    have HPUT := Lib.hid hput
    have H := Lib.hid hh
    have HLN := Lib.hid (fun e : Int => (endTo31_ways (home := e) hn hn1 (4 * n * n)).len)
    have HSH := Lib.hid (fun c h (hc : c ≤ 4) (hh : h < n) => (show ((homesTo rs n l c).getD h []).length ≤ 4 by have := homesTo_short rs n l c h hh; omega))
    clear hok hB hF hr hh hE hn hL hall hend hho hput
    go_enter Tryz.func69, Tryz.ntmps69
    go_wp2_with fail
    refine HOK.out.mono ?_
    rintro e w1 ⟨rfl, hb1⟩
    have hs1 := hb1.size
    have B1 := Lib.hid hb1
    clear hb1
    go_wp2_with (at_make; refine wpList_make_full _ rfl (.tmp 16) (.tmp 16) 76 rfl w.heap.size 100 i0 (.slice none 0 0) 1 Tryz.underlying76 hi hz0 hz1 .i64 .i64 n n n rfl rfl rfl rfl (by rw [hz2]; omega) (by unfold maxLen; omega) hs1 ?_; intro w2 hown hgrow)
    have hb2 : Below w.heap.size w w2 := B1.out.grown hgrow hs1 (by intro k hk; cases hk)
    obtain ⟨G, hG⟩ : ∃ G, G = w1.heap.size := ⟨_, rfl⟩
    rw [← hG] at hown ⊢
    have O2 : Hid (TabsX w2 w.heap.size (.slice (some ⟨G, 0, none⟩) n n) (homesTo rs n l 0)) := Lib.hid (by rw [homesTo_zero]; exact made_tabs hown)
    have B2 := Lib.hid hb2
    have hGl : w.heap.size ≤ G := by omega
    clear hown hgrow hb2 hG hi hz0 hz1 hz2 HOK
    go_loopg [20] L (fun gk s20 wr => ∃ c : Nat, s20 = .int .i64 (c : Int) ∧ c + gk = L ∧ Hid (TabsX wr w.heap.size (.slice (some ⟨G, 0, none⟩) n n) (homesTo rs n l c)) ∧ Hid (Below w.heap.size w wr))
    case atStart => exact ⟨0, rfl, by omega, O2, B2⟩
    case round =>
      clear O2 B2
      obtain ⟨c, rfl, hc, O, BB⟩ := hrel
      by_cases hg : gk = 0
      · subst hg
        obtain rfl : c = L := by omega
        have hdn : decide ((c : Int) < (c : Int)) = false := by simp
        go_wp2_with fail
        go_ret
        exact ⟨_, rfl, O.out.tabs, BB.out⟩
      · have hcL : c < L := by omega
        have hcI : (c : Int) < (L : Int) := by omega
        have c0 : (0 : Int) ≤ (c : Int) := by omega
        have hgk : 1 ≤ gk := by omega
        have HC := Lib.hid hc
        obtain ⟨lb, loff, rfl, hlb, y0, y1, y2⟩ := (H.out.below BB.out).get c hcL
        obtain ⟨ent, hent⟩ : ∃ e, l.getD c (0, 0, 0) = e := ⟨_, rfl⟩
        have hho := HHO.out c hcL
        have hpt := fun h hh => HPUT.out c h hcL hh
        rw [hent] at y0 y1 y2 hho hpt
        obtain ⟨f, bt, ho⟩ := ent
        simp only at y0 y1 y2 hho hpt
        obtain ⟨jj, rfl⟩ : ∃ j : Nat, ho = (j : Int) + 1 := ⟨(ho - 1).toNat, by omega⟩
        have hjj : jj < n := by omega
        have hnx : homesTo rs n l (c + 1) = homeTo (end31 rs ((jj : Int) + 1) n) n (f, bt, (jj : Int) + 1) (homesTo rs n l c) n := by rw [homesTo_succ, hent]; rfl
        have hwl := HLN.out ((jj : Int) + 1)
        obtain ⟨tabs, htabs⟩ : ∃ t, homesTo rs n l c = t := ⟨_, rfl⟩
        have htl : tabs.length = n := by rw [← htabs]; exact homesTo_len _ _ _ _
        have hts : ∀ h, h < n → (tabs.getD h []).length ≤ 4 := fun h hh => by rw [← htabs]; exact HSH.out c h (by omega) hh
        rw [htabs] at O hnx hpt
        have hGw : G < wr.heap.size := by
          obtain ⟨g, _, _, e, _, hgl, _⟩ := O.out.get htl jj hjj
          simp only [Value.slice.injEq, Option.some.injEq, Addr.mk.injEq] at e
          obtain ⟨⟨rfl, _⟩, _⟩ := e
          exact hgl
        have hal := Below.alloc (Below.refl wr.heap.size wr) (Nat.le_refl _) (.cells #[.int .i64 f, .int .i64 bt, .int .i64 ((jj : Int) + 1)] 83)
        have hce := HEND.out (wr.alloc (.cells #[.int .i64 f, .int .i64 bt, .int .i64 ((jj : Int) + 1)] 83)) jj (BB.out.trans (hal.mono BB.out.size)) hjj
        have hwl' : (end31 rs ((jj : Int) + 1) n).length = n := hwl
        obtain ⟨ways, hways⟩ : ∃ t, end31 rs ((jj : Int) + 1) n = t := ⟨_, rfl⟩
        rw [hways] at hce hnx hpt hwl'
        have HCE := Lib.hid hce
        have HNX := Lib.hid hnx
        have HTS := Lib.hid hts
        have HPT := Lib.hid hpt
        have HEL := Lib.hid hwl'
        have HTL := Lib.hid htl
        have HAL := Lib.hid hal
        have OA := Lib.hid (O.out.below hal)
        obtain ⟨GG, hGG⟩ : ∃ G, G = gk := ⟨_, rfl⟩
        obtain ⟨wq, hwq⟩ : ∃ W, W = wr := ⟨_, rfl⟩
        subst hwq
        clear hc hg hent hho hpt hnx hwl hwl' htabs htl hts hal hce hways O
        go_wp2_with fail
        refine HCE.out.mono ?_
        rintro e w2 ⟨wv, rfl, hR2, hb2⟩
        have hsA : (wq.alloc (.cells #[.int .i64 f, .int .i64 bt, .int .i64 ((jj : Int) + 1)] 83)).heap.size = wq.heap.size + 1 := World.size_alloc _ _
        have hb2s := hb2.size
        have x0 : w2.cell? ⟨wq.heap.size, 0, none⟩ = some (.int .i64 f) := (hb2.cell (p := ⟨wq.heap.size, 0, none⟩) (by simp)).trans (by simp)
        have x1 : w2.cell? ⟨wq.heap.size, 1, none⟩ = some (.int .i64 bt) := (hb2.cell (p := ⟨wq.heap.size, 1, none⟩) (by simp)).trans (by simp)
        have x2 : w2.cell? ⟨wq.heap.size, 2, none⟩ = some (.int .i64 ((jj : Int) + 1)) := (hb2.cell (p := ⟨wq.heap.size, 2, none⟩) (by simp)).trans (by simp)
        have B2 : Hid (Below w.heap.size w w2) := Lib.hid (BB.out.trans ((HAL.out.trans (hb2.mono (by omega))).mono BB.out.size))
        have T2 : Hid (TabsX w2 w.heap.size (.slice (some ⟨G, 0, none⟩) n n) (homeTo ways n (f, bt, (jj : Int) + 1) tabs 0)) := Lib.hid (by rw [homeTo_zero HTL.out]; exact OA.out.below hb2)
        have R2 := Lib.hid (hR2.lift (Nat.zero_le _))
        have hXG : wq.heap.size ≠ G := by omega
        have X2 : Hid (HomeB w2 wq.heap.size f bt ((jj : Int) + 1)) := Lib.hid ((hb2.block wq.heap.size (by omega)).trans (heap_alloc_new wq _))
        obtain ⟨wva, wvc, e, hwvc, hwvm⟩ := hR2.form
        subst e
        rw [HEL.out] at R2 hwvc ⊢
        clear hR2 hb2 x0 x1 x2 HCE hsA hb2s OA
        go_wp2_with fail
        go_loopg [29] n (fun gk s29 wr => ∃ h : Nat, s29 = .int .i64 (h : Int) ∧ h + gk = n ∧ Hid (TabsX wr w.heap.size (.slice (some ⟨G, 0, none⟩) n n) (homeTo ways n (f, bt, (jj : Int) + 1) tabs h)) ∧ Hid (RowsL wr 0 (.slice wva n wvc) ways) ∧ Hid (HomeB wr wq.heap.size f bt ((jj : Int) + 1)) ∧ Hid (Below w.heap.size w wr))
        case atStart => exact ⟨0, rfl, by omega, T2, R2, X2, B2⟩
        case round =>
          clear T2 R2 X2 B2
          obtain ⟨h, rfl, hh, O, R, XX, BB2⟩ := hrel
          by_cases hg : gk = 0
          · subst hg
            obtain rfl : h = n := by omega
            have hdn : decide ((h : Int) < (h : Int)) = false := by simp
            go_wp2_with fail
            go_roundg (GG - 1)
            case measure => omega
            case rel => exact ⟨c + 1, by go_num, by have := HC.out; omega, Lib.hid (by rw [HNX.out]; exact O.out), BB2⟩
          · have hin : h < n := by omega
            have hiI : (h : Int) < (n : Int) := by omega
            have h0 : (0 : Int) ≤ (h : Int) := by omega
            have hgk2 : 1 ≤ gk := by omega
            have HH := Lib.hid hh
            obtain ⟨g, cap', u, e, hgl, hgs, z0, z1, hu⟩ := O.out.get (homeTo_len _ _ _ _ _) h hin
            simp only [Value.slice.injEq, Option.some.injEq, Addr.mk.injEq] at e
            obtain ⟨⟨rfl, _⟩, _, rfl⟩ := e
            have htb : (homeTo ways n (f, bt, (jj : Int) + 1) tabs h).getD h [] = tabs.getD h [] := by rw [homeTo_get hin, if_neg (by omega)]
            have hpt := HPT.out h hin
            unfold impPut at hpt
            rw [htb] at hu
            obtain ⟨tb, htb2⟩ : ∃ t, tabs.getD h [] = t := ⟨_, rfl⟩
            have htl := HTS.out h hin
            rw [htb2] at hu hpt htl
            obtain ⟨wb, woff, wu, rfl, hwb, q0, hz⟩ := R.out.rows.get h hin
            obtain ⟨wa1, wc1, e, hwc1, hwm1⟩ := hz.form
            subst e
            obtain ⟨way, hway⟩ : ∃ p, ways.getD h [] = p := ⟨_, rfl⟩
            rw [hway] at hz q0 hwc1 hpt
            obtain ⟨m, hm⟩ : ∃ m, way.length = m := ⟨_, rfl⟩
            rw [hm] at hz q0 hwc1
            obtain ⟨x0, x1, x2⟩ := XX.out.cells
            have HU := Lib.hid hu
            obtain ⟨ua, uc, e, huc, hum⟩ := hu.form
            subst e
            obtain ⟨tl, htlen⟩ : ∃ t, tb.length = t := ⟨_, rfl⟩
            rw [htlen] at z0 htl HU
            have HPU := Lib.hid hpt
            have HM := Lib.hid hm
            have HTB := Lib.hid htb2
            have HWZ := Lib.hid hz
            have HTLL := Lib.hid htlen
            clear hpt htb hu htb2 hm hway hh hg hz htlen huc hum
            by_cases hm0 : m = 0
            · subst hm0
              have hwe : way = [] := List.length_eq_zero_iff.1 HM.out
              have hpu : Hid (putHome ways (f, bt, (jj : Int) + 1) h (tabs.getD h []) = tabs.getD h []) := Lib.hid (by rw [HTB.out, HPU.out, if_pos hwe])
              go_wp2_with fail
              go_roundg (gk - 1)
              case measure => omega
              case rel => exact ⟨h + 1, by go_num, by have := HH.out; omega, Lib.hid (by rw [homeTo_same hin hpu.out]; exact O.out), R, XX, BB2⟩
            · have hmb : ((m : Int) == 0) = false := by simp [hm0]
              have hwne : way ≠ [] := by intro e; apply hm0; rw [← HM.out, e]; rfl
              have hpu : Hid (putHome ways (f, bt, (jj : Int) + 1) h (tabs.getD h []) = tb ++ [(f, bt, if 1 < m then way.getD 1 0 else (jj : Int) + 1)]) := Lib.hid (by rw [HTB.out, HPU.out, if_neg hwne]; unfold viaF; rw [HM.out])
              have UU : EntNew wr w.heap.size (.slice ua tl uc) tb := HU.out
              by_cases h1 : 1 < m
              · have h1I : (1 : Int) < (m : Int) := by omega
                obtain ⟨b2, off2, rfl, hb2, hy⟩ := HWZ.out.get 1 h1
                obtain ⟨via, hvia⟩ : ∃ o, way.getD 1 0 = o := ⟨_, rfl⟩
                rw [if_pos h1, hvia] at hpu
                rw [hvia] at hy
                clear hvia hwne
                go_wp2_with fail
                refine wp_region_noPanic ?_
                refine wp_region_held_drew (S := (fun W => W.cell? ⟨wq.heap.size, 0, none⟩ = some (.int .i64 f) ∧ W.cell? ⟨wq.heap.size, 1, none⟩ = some (.int .i64 bt))) (by kernel_rfl) (by exact ⟨x0, x1⟩) (fun hHeld => ?_)
                refine tkT (i := 0) (h := ?_)
                (try simp only [Act.put, pB, pC, pD])
                refine tkT (i := 1) (h := ?_)
                (try simp only [Act.put, pB, pC, pD])
                refine tkT (i := 2) (h := ?_)
                (try simp only [Act.put, pB, pC, pD])
                refine tkT (i := 3) (h := ?_)
                (try simp only [Act.put, pB, pC, pD])
                refine tkT (i := 4) (h := ?_)
                (try simp only [Act.put, pB, pC, pD])
                refine tkT (i := 6) (h := ?_)
                (try simp only [Act.put, pB, pC, pD])
                refine tkT (i := 7) (h := ?_)
                (try simp only [Act.put, pB, pC, pD])
                refine tkT (i := 8) (h := ?_)
                (try simp only [Act.put, pB, pC, pD])
                refine tkT (i := 9) (h := ?_)
                (try simp only [Act.put, pB, pC, pD])
                refine wpAnyH_ready (rs := [5, 10]) (by kernel_rfl) (by simp) ?_
                refine AllReadyH.cons (by (simp only [List.getElem?_toArray, List.getElem?_cons_succ, List.getElem?_cons_zero]) <;> rfl) (fun K hK => ?_) (AllReadyH.cons (by (simp only [List.getElem?_toArray, List.getElem?_cons_succ, List.getElem?_cons_zero]) <;> rfl) (fun K hK => ?_) AllReadyH.nil)
                · go_simp
                  refine hK.out _ _ (by exact ⟨x0, x1⟩) (fun hHeld => ?_)
                  (try simp only [Act.put, pB, pC, pD])
                  refine wpAnyH_ready (rs := [10]) (by kernel_rfl) (by simp) ?_
                  refine AllReadyH.cons (by (simp only [List.getElem?_toArray, List.getElem?_cons_succ, List.getElem?_cons_zero]) <;> rfl) (fun K hK => ?_) AllReadyH.nil
                  go_simp
                  skip
                  refine hK.out _ _ (by exact ⟨(World.cell?_alloc_past _ _ _ (by show wq.heap.size < wr.heap.size; exact heap_lt XX.out)).trans x0, (World.cell?_alloc_past _ _ _ (by show wq.heap.size < wr.heap.size; exact heap_lt XX.out)).trans x1⟩) (fun hHeld => ?_)
                  (try simp only [Act.put, pB, pC, pD])
                  refine wpAnyH_ready (rs := [11]) (by kernel_rfl) (by simp) ?_
                  refine AllReadyH.cons (by (simp only [List.getElem?_toArray, List.getElem?_cons_succ, List.getElem?_cons_zero]) <;> rfl) (fun K hK => ?_) AllReadyH.nil
                  (refine step_append_entD (W := wr.drew) rfl (.tmp 52) (.tmp 57) rfl w.heap.size (.slice ua tl uc) tb (f, bt, via) rfl (UU.below (Below.drew (Below.refl _ _))) rfl (by rw [HTLL.out]; omega) BB2.out.size ?_; intro ad c3 w3 hE3 hG3 hor3; obtain ⟨⟨y0, y1⟩, ⟨yq, g0, g1⟩, hT3, hR3, hX3, hB3⟩ := put_end O.out (homeTo_len _ _ _ _ _) hin z0 R.out XX.out BB2.out hGl hXG UU hE3 hG3 hor3; have T3 := Lib.hid hT3; have R3 := Lib.hid hR3; have X3 := Lib.hid hX3; have B3 := Lib.hid hB3; have HE3 := Lib.hid hE3; clear hT3 hR3 hX3 hB3 hG3 hor3 hE3)
                  refine hK.out _ _ (by exact ⟨y0, y1⟩) (fun hHeld => ?_)
                  (try simp only [Act.put, pB, pC, pD])
                  refine tkT (i := 12) (h := ?_)
                  (try simp only [Act.put, pB, pC, pD])
                  refine wpAnyH_ready (rs := [13]) (by kernel_rfl) (by simp) ?_
                  refine AllReadyH.cons (by (simp only [List.getElem?_toArray, List.getElem?_cons_succ, List.getElem?_cons_zero]) <;> rfl) (fun K hK => ?_) AllReadyH.nil
                  go_simp
                  skip
                  refine hK.out _ _ (by exact (X3.out.cells.imp id And.left)) (fun hHeld => ?_)
                  (try simp only [Act.put, pB, pC, pD])
                  refine wpAnyH_done (by kernel_rfl) ?_ _
                  refine NoPanic.normal ?_
                  go_wp2_with fail
                  go_roundg (gk - 1)
                  case measure => omega
                  case rel => exact ⟨h + 1, by go_num, by have := HH.out; omega, Lib.hid (by have := T3.out; rw [← hpu.out, homeTo_set hin] at this; exact this), R3, X3, B3⟩
                · go_simp
                  refine hK.out _ _ (by exact ⟨(World.cell?_alloc_past _ _ _ (by show wq.heap.size < wr.heap.size; exact heap_lt XX.out)).trans x0, (World.cell?_alloc_past _ _ _ (by show wq.heap.size < wr.heap.size; exact heap_lt XX.out)).trans x1⟩) (fun hHeld => ?_)
                  (try simp only [Act.put, pB, pC, pD])
                  have zA : (wr.alloc (.cells #[.int .i64 f, .int .i64 bt, .int .i64 via] 103)).cell? ⟨G, h, none⟩ = some (.slice ua tl uc) := (World.cell?_alloc_past _ _ _ hgs).trans z0
                  refine wpAnyH_ready (rs := [5]) (by kernel_rfl) (by simp) ?_
                  refine AllReadyH.cons (by (simp only [List.getElem?_toArray, List.getElem?_cons_succ, List.getElem?_cons_zero]) <;> rfl) (fun K hK => ?_) AllReadyH.nil
                  go_simp
                  skip
                  refine hK.out _ _ (by exact ⟨(World.cell?_alloc_past _ _ _ (by show wq.heap.size < wr.heap.size; exact heap_lt XX.out)).trans x0, (World.cell?_alloc_past _ _ _ (by show wq.heap.size < wr.heap.size; exact heap_lt XX.out)).trans x1⟩) (fun hHeld => ?_)
                  (try simp only [Act.put, pB, pC, pD])
                  refine wpAnyH_ready (rs := [11]) (by kernel_rfl) (by simp) ?_
                  refine AllReadyH.cons (by (simp only [List.getElem?_toArray, List.getElem?_cons_succ, List.getElem?_cons_zero]) <;> rfl) (fun K hK => ?_) AllReadyH.nil
                  (refine step_append_entD (W := wr.drew) rfl (.tmp 52) (.tmp 57) rfl w.heap.size (.slice ua tl uc) tb (f, bt, via) rfl (UU.below (Below.drew (Below.refl _ _))) rfl (by rw [HTLL.out]; omega) BB2.out.size ?_; intro ad c3 w3 hE3 hG3 hor3; obtain ⟨⟨y0, y1⟩, ⟨yq, g0, g1⟩, hT3, hR3, hX3, hB3⟩ := put_end O.out (homeTo_len _ _ _ _ _) hin z0 R.out XX.out BB2.out hGl hXG UU hE3 hG3 hor3; have T3 := Lib.hid hT3; have R3 := Lib.hid hR3; have X3 := Lib.hid hX3; have B3 := Lib.hid hB3; have HE3 := Lib.hid hE3; clear hT3 hR3 hX3 hB3 hG3 hor3 hE3)
                  refine hK.out _ _ (by exact ⟨y0, y1⟩) (fun hHeld => ?_)
                  (try simp only [Act.put, pB, pC, pD])
                  refine tkT (i := 12) (h := ?_)
                  (try simp only [Act.put, pB, pC, pD])
                  refine wpAnyH_ready (rs := [13]) (by kernel_rfl) (by simp) ?_
                  refine AllReadyH.cons (by (simp only [List.getElem?_toArray, List.getElem?_cons_succ, List.getElem?_cons_zero]) <;> rfl) (fun K hK => ?_) AllReadyH.nil
                  go_simp
                  skip
                  refine hK.out _ _ (by exact (X3.out.cells.imp id And.left)) (fun hHeld => ?_)
                  (try simp only [Act.put, pB, pC, pD])
                  refine wpAnyH_done (by kernel_rfl) ?_ _
                  refine NoPanic.normal ?_
                  go_wp2_with fail
                  go_roundg (gk - 1)
                  case measure => omega
                  case rel => exact ⟨h + 1, by go_num, by have := HH.out; omega, Lib.hid (by have := T3.out; rw [← hpu.out, homeTo_set hin] at this; exact this), R3, X3, B3⟩
              · have h1I : ¬ (1 : Int) < (m : Int) := by omega
                have h1d : decide ((1 : Int) < (m : Int)) = false := decide_eq_false h1I
                rw [if_neg h1] at hpu
                clear hwne
                go_wp2_with fail
                refine wp_region_noPanic ?_
                refine wp_region_held_drew (S := (fun W => W.cell? ⟨wq.heap.size, 0, none⟩ = some (.int .i64 f) ∧ W.cell? ⟨wq.heap.size, 1, none⟩ = some (.int .i64 bt))) (by kernel_rfl) (by exact ⟨x0, x1⟩) (fun hHeld => ?_)
                refine tkT (i := 0) (h := ?_)
                (try simp only [Act.put, pB, pC, pD])
                refine tkT (i := 1) (h := ?_)
                (try simp only [Act.put, pB, pC, pD])
                refine tkT (i := 2) (h := ?_)
                (try simp only [Act.put, pB, pC, pD])
                refine tkT (i := 3) (h := ?_)
                (try simp only [Act.put, pB, pC, pD])
                refine tkT (i := 4) (h := ?_)
                (try simp only [Act.put, pB, pC, pD])
                refine tkT (i := 6) (h := ?_)
                (try simp only [Act.put, pB, pC, pD])
                refine tkT (i := 7) (h := ?_)
                (try simp only [Act.put, pB, pC, pD])
                refine tkT (i := 8) (h := ?_)
                (try simp only [Act.put, pB, pC, pD])
                refine tkT (i := 9) (h := ?_)
                (try simp only [Act.put, pB, pC, pD])
                refine wpAnyH_ready (rs := [5, 10]) (by kernel_rfl) (by simp) ?_
                refine AllReadyH.cons (by (simp only [List.getElem?_toArray, List.getElem?_cons_succ, List.getElem?_cons_zero]) <;> rfl) (fun K hK => ?_) (AllReadyH.cons (by (simp only [List.getElem?_toArray, List.getElem?_cons_succ, List.getElem?_cons_zero]) <;> rfl) (fun K hK => ?_) AllReadyH.nil)
                · go_simp
                  refine hK.out _ _ (by exact ⟨x0, x1⟩) (fun hHeld => ?_)
                  (try simp only [Act.put, pB, pC, pD])
                  refine wpAnyH_ready (rs := [10]) (by kernel_rfl) (by simp) ?_
                  refine AllReadyH.cons (by (simp only [List.getElem?_toArray, List.getElem?_cons_succ, List.getElem?_cons_zero]) <;> rfl) (fun K hK => ?_) AllReadyH.nil
                  go_simp
                  skip
                  refine hK.out _ _ (by exact ⟨(World.cell?_alloc_past _ _ _ (by show wq.heap.size < wr.heap.size; exact heap_lt XX.out)).trans x0, (World.cell?_alloc_past _ _ _ (by show wq.heap.size < wr.heap.size; exact heap_lt XX.out)).trans x1⟩) (fun hHeld => ?_)
                  (try simp only [Act.put, pB, pC, pD])
                  refine wpAnyH_ready (rs := [11]) (by kernel_rfl) (by simp) ?_
                  refine AllReadyH.cons (by (simp only [List.getElem?_toArray, List.getElem?_cons_succ, List.getElem?_cons_zero]) <;> rfl) (fun K hK => ?_) AllReadyH.nil
                  (refine step_append_entD (W := wr.drew) rfl (.tmp 52) (.tmp 57) rfl w.heap.size (.slice ua tl uc) tb (f, bt, ((jj : Int) + 1)) rfl (UU.below (Below.drew (Below.refl _ _))) rfl (by rw [HTLL.out]; omega) BB2.out.size ?_; intro ad c3 w3 hE3 hG3 hor3; obtain ⟨⟨y0, y1⟩, ⟨yq, g0, g1⟩, hT3, hR3, hX3, hB3⟩ := put_end O.out (homeTo_len _ _ _ _ _) hin z0 R.out XX.out BB2.out hGl hXG UU hE3 hG3 hor3; have T3 := Lib.hid hT3; have R3 := Lib.hid hR3; have X3 := Lib.hid hX3; have B3 := Lib.hid hB3; have HE3 := Lib.hid hE3; clear hT3 hR3 hX3 hB3 hG3 hor3 hE3)
                  refine hK.out _ _ (by exact ⟨y0, y1⟩) (fun hHeld => ?_)
                  (try simp only [Act.put, pB, pC, pD])
                  refine tkT (i := 12) (h := ?_)
                  (try simp only [Act.put, pB, pC, pD])
                  refine wpAnyH_ready (rs := [13]) (by kernel_rfl) (by simp) ?_
                  refine AllReadyH.cons (by (simp only [List.getElem?_toArray, List.getElem?_cons_succ, List.getElem?_cons_zero]) <;> rfl) (fun K hK => ?_) AllReadyH.nil
                  go_simp
                  skip
                  refine hK.out _ _ (by exact (X3.out.cells.imp id And.left)) (fun hHeld => ?_)
                  (try simp only [Act.put, pB, pC, pD])
                  refine wpAnyH_done (by kernel_rfl) ?_ _
                  refine NoPanic.normal ?_
                  go_wp2_with fail
                  go_roundg (gk - 1)
                  case measure => omega
                  case rel => exact ⟨h + 1, by go_num, by have := HH.out; omega, Lib.hid (by have := T3.out; rw [← hpu.out, homeTo_set hin] at this; exact this), R3, X3, B3⟩
                · go_simp
                  refine hK.out _ _ (by exact ⟨(World.cell?_alloc_past _ _ _ (by show wq.heap.size < wr.heap.size; exact heap_lt XX.out)).trans x0, (World.cell?_alloc_past _ _ _ (by show wq.heap.size < wr.heap.size; exact heap_lt XX.out)).trans x1⟩) (fun hHeld => ?_)
                  (try simp only [Act.put, pB, pC, pD])
                  have zA : (wr.alloc (.cells #[.int .i64 f, .int .i64 bt, .int .i64 ((jj : Int) + 1)] 103)).cell? ⟨G, h, none⟩ = some (.slice ua tl uc) := (World.cell?_alloc_past _ _ _ hgs).trans z0
                  refine wpAnyH_ready (rs := [5]) (by kernel_rfl) (by simp) ?_
                  refine AllReadyH.cons (by (simp only [List.getElem?_toArray, List.getElem?_cons_succ, List.getElem?_cons_zero]) <;> rfl) (fun K hK => ?_) AllReadyH.nil
                  go_simp
                  skip
                  refine hK.out _ _ (by exact ⟨(World.cell?_alloc_past _ _ _ (by show wq.heap.size < wr.heap.size; exact heap_lt XX.out)).trans x0, (World.cell?_alloc_past _ _ _ (by show wq.heap.size < wr.heap.size; exact heap_lt XX.out)).trans x1⟩) (fun hHeld => ?_)
                  (try simp only [Act.put, pB, pC, pD])
                  refine wpAnyH_ready (rs := [11]) (by kernel_rfl) (by simp) ?_
                  refine AllReadyH.cons (by (simp only [List.getElem?_toArray, List.getElem?_cons_succ, List.getElem?_cons_zero]) <;> rfl) (fun K hK => ?_) AllReadyH.nil
                  (refine step_append_entD (W := wr.drew) rfl (.tmp 52) (.tmp 57) rfl w.heap.size (.slice ua tl uc) tb (f, bt, ((jj : Int) + 1)) rfl (UU.below (Below.drew (Below.refl _ _))) rfl (by rw [HTLL.out]; omega) BB2.out.size ?_; intro ad c3 w3 hE3 hG3 hor3; obtain ⟨⟨y0, y1⟩, ⟨yq, g0, g1⟩, hT3, hR3, hX3, hB3⟩ := put_end O.out (homeTo_len _ _ _ _ _) hin z0 R.out XX.out BB2.out hGl hXG UU hE3 hG3 hor3; have T3 := Lib.hid hT3; have R3 := Lib.hid hR3; have X3 := Lib.hid hX3; have B3 := Lib.hid hB3; have HE3 := Lib.hid hE3; clear hT3 hR3 hX3 hB3 hG3 hor3 hE3)
                  refine hK.out _ _ (by exact ⟨y0, y1⟩) (fun hHeld => ?_)
                  (try simp only [Act.put, pB, pC, pD])
                  refine tkT (i := 12) (h := ?_)
                  (try simp only [Act.put, pB, pC, pD])
                  refine wpAnyH_ready (rs := [13]) (by kernel_rfl) (by simp) ?_
                  refine AllReadyH.cons (by (simp only [List.getElem?_toArray, List.getElem?_cons_succ, List.getElem?_cons_zero]) <;> rfl) (fun K hK => ?_) AllReadyH.nil
                  go_simp
                  skip
                  refine hK.out _ _ (by exact (X3.out.cells.imp id And.left)) (fun hHeld => ?_)
                  (try simp only [Act.put, pB, pC, pD])
                  refine wpAnyH_done (by kernel_rfl) ?_ _
                  refine NoPanic.normal ?_
                  go_wp2_with fail
                  go_roundg (gk - 1)
                  case measure => omega
                  case rel => exact ⟨h + 1, by go_num, by have := HH.out; omega, Lib.hid (by have := T3.out; rw [← hpu.out, homeTo_set hin] at this; exact this), R3, X3, B3⟩
end Go.Proofs.YtnecdeaikmhanaaGreatDoor
namespace Go.Proofs.YtnecdeaikmhanaaGreatDoor
open Go.RowKit
set_option linter.unusedVariables false
set_option maxRecDepth 100000
end Go.Proofs.YtnecdeaikmhanaaGreatDoor
namespace Go.Proofs.YtnecdeaikmhanaaGreatDoor
open Go.RowKit
set_option linter.unusedVariables false
set_option maxRecDepth 100000
theorem rangeOk_parts {f b : Int} (h : rangeOkF f b = true) : 0 ≤ b ∧ b ≤ 8 ∧ 0 ≤ f ∧ f ≤ 255 ∧ f % sizeF b = 0 := by
  unfold rangeOkF addrF at h
  simp only [Bool.and_eq_true, decide_eq_true_eq] at h
  exact ⟨h.1.1.1, h.1.1.2, h.1.2.1, h.1.2.2, h.2⟩
end Go.Proofs.YtnecdeaikmhanaaGreatDoor
namespace Go.Proofs.YtnecdeaikmhanaaGreatDoor
set_option linter.unusedVariables false
theorem tabs_ok {rs : List (List Int)} {l : List Ent} {n : Nat} (hok : homesOkF rs l = true) (hn : rs.length = n) (h1 : 1 ≤ n) (h5 : n ≤ 5) : tablesOkF (sendTabsF rs l n) = true :=
  tablesOk_good (by rw [sendTabs_len2 hok]; exact h1) (by rw [sendTabs_len2 hok]; exact h5) (fun i hi => by
    rw [sendTabs_len2 hok] at hi
    rw [sendTabs_get hok hn hi]
    exact tabF_ok hn h5 hi hok)
end Go.Proofs.YtnecdeaikmhanaaGreatDoor
