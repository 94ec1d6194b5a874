/- spec.l92Ranks: ways that houses like are drawn. -/
import Derived.Test.YtbbhnnbpeiodnaaDoorRanksOut
import Derived.Deep.RegionHeld3
import Derived.Deep.DeepCutAuto
import Derived.Maps.AppendAt
namespace Go.Proofs.YtbbhnnbpeiodnaaDoor
open Go.RowKit
set_option linter.unusedVariables false

def RanksPost (k : Nat) (a : Option Addr) (len cap : Nat) (zs : List Int) (p : Nat) (w : World) (e : Ending) (w' : World) : Prop :=
  ∃ (v : Value) (lll : List (List (List Int))) (p' : Nat), e = .returned v ∧ lll.length = 3 ∧ TableIn w' w.heap.size v lll ∧ RdAt w' k a len cap zs p' ∧ p' ≤ p + 100 ∧ Only k w w'
theorem info_r3D : (Tryd.prog.info? 27).map (fun i => (i.zero, i.size, i.bytes)) = some (some (.slice none 0 0), 1, 24) := by kernel_rfl
theorem RdAt.lt {w : World} {k : Nat} {a : Option Addr} {len cap : Nat} {zs : List Int} {p : Nat} (h : RdAt w k a len cap zs p) : k < w.heap.size := lt_of_cell h.c0
theorem RdAt.below {w w' : World} {k : Nat} {a : Option Addr} {len cap : Nat} {zs : List Int} {p : Nat} (h : RdAt w k a len cap zs p) (hb : Below w.heap.size w w') : RdAt w' k a len cap zs p := by
  have hk := h.lt
  refine ⟨(hb.cell (p := ⟨k, 0, none⟩) hk).trans h.c0, (hb.cell (p := ⟨k, 1, none⟩) hk).trans h.c1, (hb.frozen (p := ⟨k, 1, none⟩) hk).trans h.f1, ?_, h.far, h.short⟩
  rcases h.row with r | ⟨x, hx, h1, h2, h3, h4, h5⟩
  · exact .inl r
  · exact .inr ⟨x, hx, h1, h2, h3, fun i hi => (hb.cell (p := x.add i) (lt_of_cell (h4 i hi))).trans (h4 i hi), h5⟩
/-- a row beside the reader and its code is written -/
theorem RdAt.grown {w w' : World} {k : Nat} {a : Option Addr} {len cap : Nat} {zs : List Int} {p lo : Nat} {row : Option Nat} (h : RdAt w k a len cap zs p) (hg : w.grownBy w' row) (hrow : ∀ g, row = some g → lo ≤ g) (hk : k < lo) : RdAt w' k a len cap zs p := by
  have key : ∀ b, b < w.heap.size → b ≤ k → w'.heap[b]? = w.heap[b]? := fun b hb hle => hg.block b hb (by intro e; have := hrow b e.symm; omega)
  have hkw := h.lt
  refine ⟨(World.cell?_of_block (key k hkw (Nat.le_refl _))).trans h.c0, (World.cell?_of_block (key k hkw (Nat.le_refl _))).trans h.c1, (World.frozen?_of_block (key k hkw (Nat.le_refl _))).trans h.f1, ?_, h.far, h.short⟩
  rcases h.row with r | ⟨x, hx, h1, h2, h3, h4, h5⟩
  · exact .inl r
  · refine .inr ⟨x, hx, h1, h2, h3, fun i hi => ?_, h5⟩
    have hxk := h.far x hx (by omega)
    refine (World.cell?_of_block (key (x.add i).block (lt_of_cell (h4 i hi)) ?_)).trans (h4 i hi)
    rw [add_block]; omega
theorem Only.grown {k : Nat} {a w w' : World} {row : Option Nat} (h : Only k a w) (hg : w.grownBy w' row) (hrow : ∀ g, row = some g → a.heap.size ≤ g) : Only k a w' := by
  refine ⟨hg.os.trans h.os, hg.tape.trans h.tape, hg.output.trans h.output, Nat.le_trans h.size hg.size, fun b hb hk => (hg.block b (Nat.lt_of_lt_of_le hb h.size) ?_).trans (h.block b hb hk)⟩
  intro e; have := hrow b e.symm; omega

theorem TableIn.get {w : World} {lo b n cap : Nat} {lll : List (List (List Int))} (h : TableIn w lo (.slice (some ⟨b, 0, none⟩) n cap) lll) (i : Nat) (hi : i < n) :
    b < w.heap.size ∧ ∃ v, w.cell? ⟨b, i, none⟩ = some v ∧ RowsTb w lo v (lll.getD i []) := by
  obtain ⟨f, h1, h2, h3⟩ := h
  obtain ⟨a', cap', e, hc, hm, hh⟩ := h1
  simp only [Value.slice.injEq] at e
  obtain ⟨rfl, rfl, rfl⟩ := e
  rcases hh with hh | ⟨b', off', e, hlt, hcell⟩
  · omega
  · simp only [Option.some.injEq, Addr.mk.injEq] at e
    obtain ⟨rfl, rfl, _⟩ := e
    have := hcell i hi
    rw [Nat.zero_add] at this
    exact ⟨hlt, f i, this, h3 i hi⟩
theorem RowsTb.get {w : World} {lo n cap : Nat} {a : Option Addr} {ll : List (List Int)} (h : RowsTb w lo (.slice a n cap) ll) (i : Nat) (hi : i < n) :
    ∃ b off u, a = some ⟨b, off, none⟩ ∧ b < w.heap.size ∧ w.cell? ⟨b, off + i, none⟩ = some u ∧ IntsTy w lo u (ll.getD i []) := by
  obtain ⟨f, h1, h2, h3⟩ := h
  obtain ⟨a', cap', e, hc, hm, hh⟩ := h1
  simp only [Value.slice.injEq] at e
  obtain ⟨rfl, rfl, rfl⟩ := e
  rcases hh with hh | ⟨b', off', rfl, hlt, hcell⟩
  · omega
  · exact ⟨b', off', f i, rfl, hlt, hcell i hi, h3 i hi⟩
theorem RowsTb.form {w : World} {lo : Nat} {v : Value} {ll : List (List Int)} (h : RowsTb w lo v ll) : ∃ a cap, v = .slice a ll.length cap ∧ ll.length ≤ cap ∧ cap ≤ 9223372036854775807 := h.rows.form
theorem tab4 : ∀ h, h < 3 → (tabGrid.getD h []).length = 4 := by decide
theorem rankOwn_new (w : World) (lo0 : Nat) : RankOwn (w.alloc (.cells #[] 24)) w.heap.size lo0 (.slice (some ⟨w.heap.size, 0, none⟩) 0 0) [] :=
  ⟨[], rfl, World.ownsRow_lit w #[] 0 (Nat.le_refl _) (by simp [maxLen]) rfl, fun i hi => absurd hi (Nat.not_lt_zero _)⟩
theorem outOwn_new (w : World) (lo lo0 : Nat) (hl : lo ≤ w.heap.size) : OutOwn (w.alloc (.cells #[] 27)) lo lo0 (.slice (some ⟨w.heap.size, 0, none⟩) 0 0) [] [] :=
  ⟨rfl, World.ownsRow_lit w #[] 0 hl (by simp [maxLen]) rfl, fun i hi => absurd hi (Nat.not_lt_zero _), fun i j hi => absurd hi (Nat.not_lt_zero _)⟩
theorem Only.setFar {k g i : Nat} {a w : World} {u : Value} (h : Only k a w) (hg : a.heap.size ≤ g) : Only k a (w.setCell ⟨g, i, none⟩ u) :=
  ⟨h.os, h.tape, h.output, by rw [show (w.setCell ⟨g, i, none⟩ u).heap.size = w.heap.size by simp [World.setCell]]; exact h.size, fun b hb hk => (Below.heap_setCell _ _ _ _ (by intro e; simp at e; omega)).trans (h.block b hb hk)⟩
theorem RdAt.off {w : World} {k g i lo : Nat} {a : Option Addr} {len cap : Nat} {zs : List Int} {p : Nat} {u : Value} (h : RdAt w k a len cap zs p) (hg : lo ≤ g) (hk : k < lo) : RdAt (w.setCell ⟨g, i, none⟩ u) k a len cap zs p := by
  have key : ∀ q : Addr, q.block ≤ k → (w.setCell ⟨g, i, none⟩ u).cell? q = w.cell? q := fun q hq => World.cell?_of_block (Below.heap_setCell _ _ _ _ (by intro e; simp at e; omega))
  have keyf : ∀ q : Addr, q.block ≤ k → (w.setCell ⟨g, i, none⟩ u).frozen? q = w.frozen? q := fun q hq => World.frozen?_of_block (Below.heap_setCell _ _ _ _ (by intro e; simp at e; omega))
  refine ⟨(key ⟨k, 0, none⟩ (Nat.le_refl _)).trans h.c0, (key ⟨k, 1, none⟩ (Nat.le_refl _)).trans h.c1, (keyf ⟨k, 1, none⟩ (Nat.le_refl _)).trans h.f1, ?_, h.far, h.short⟩
  rcases h.row with r | ⟨x, hx, h1, h2, h3, h4, h5⟩
  · exact .inl r
  · refine .inr ⟨x, hx, h1, h2, h3, fun i hi => (key (x.add i) ?_).trans (h4 i hi), h5⟩
    have := h.far x hx (by omega)
    rw [add_block]; omega
theorem TableIn.lift {w : World} {lo lo' : Nat} {v : Value} {lll : List (List (List Int))} (h : TableIn w lo v lll) (hle : lo' ≤ lo) : TableIn w lo' v lll := by
  obtain ⟨f, h1, h2, h3⟩ := h
  refine ⟨f, h1, fun b hb => Nat.le_trans hle (h2 b hb), fun i hi => ?_⟩
  obtain ⟨f', g1, g2, g3⟩ := h3 i hi
  exact ⟨f', g1, fun b hb => Nat.le_trans hle (g2 b hb), fun j hj => ⟨(g3 j hj).1, fun b hb => Nat.le_trans hle ((g3 j hj).2.1 b hb), (g3 j hj).2.2⟩⟩
theorem owns_form {w : World} {lo n : Nat} {T : TypeId} {v : Value} {us : List Value} (h : w.ownsRow lo T 1 v n us) : ∃ a cap, v = .slice a n cap ∧ n ≤ cap ∧ cap ≤ 9223372036854775807 := by
  rcases h.2 with ⟨rfl, hn⟩ | ⟨g, cap, cur, rfl, hb, hg, hnc, hcm, hcs, htake⟩
  · exact ⟨none, 0, by rw [hn], by omega, by omega⟩
  · exact ⟨_, cap, rfl, hnc, by unfold maxLen at hcm; exact hcm⟩

set_option maxRecDepth 100000 in
set_option maxHeartbeats 8000000 in
theorem l92Ranks_any (k : Nat) (a : Option Addr) (len' cap : Nat) (zs : List Int) (p : Nat) (w : World) (hp : p ≤ 90000) (hR : RdAt w k a len' cap zs p) :
    Calls Tryd.prog 12 #[.pointer (some ⟨k, 0, none⟩)] w (RanksPost k a len' cap zs p w) := by
  obtain ⟨i2, hi2, hz20, hz21, hz22⟩ := info_parts info_r2P
  obtain ⟨i3, hi3, hz30, hz31, hz32⟩ := info_parts info_r3D
  have hkw := hR.lt
  have R := Lib.hid hR
  clear hR
  go_enter Tryd.func12, Tryd.ntmps12
  go_upto_region 1 with fail
  go_cut [3] (fun s3 wx => ∃ tb : Nat, s3 = .slice (some ⟨tb, 0, none⟩) 3 3 ∧ Hid (TableIn wx w.heap.size s3 tabGrid) ∧ Hid (Below w.heap.size w wx))
  case first =>
    go_wp2_with fail
    go_meet
    exact ⟨w.heap.size + 15, rfl, Lib.hid (tab_lit w).1, Lib.hid (tab_lit w).2.1⟩
  case rest =>
    obtain ⟨tb, rfl, HT, HB⟩ := hcut
    obtain ⟨wt, rfl⟩ : ∃ x : World, x = wc := ⟨_, rfl⟩
    have hsz := HB.out.size
    have hkt : k < wt.heap.size := by omega
    go_wp2_with fail
    go_loopg [4, 5] 3 (fun g s4 s5 wr => ∃ (h p1 : Nat) (oa : Option Addr) (oc : Nat) (vs : List Value) (lll : List (List (List Int))), s5 = .int .i64 h ∧ h + g = 3 ∧ s4 = .slice oa h oc ∧ h ≤ oc ∧ oc ≤ 9223372036854775807 ∧ p1 ≤ p + 4 * h ∧
      Hid (lll.length = h ∧ ∀ i, i < h → (lll.getD i []).length ≤ 3) ∧ Hid (OutOwn wr wt.heap.size w.heap.size (.slice oa h oc) vs lll) ∧ Hid (RdAt wr k a len' cap zs p1) ∧ Hid (Only k wt wr))
    case atStart =>
      exact ⟨0, p, _, _, [], [], rfl, rfl, rfl, Nat.zero_le _, by omega, by omega, Lib.hid ⟨rfl, fun i hi => absurd hi (Nat.not_lt_zero _)⟩, Lib.hid (outOwn_new wt _ _ (Nat.le_refl _)), Lib.hid ((R.out.below HB.out).alloc _), Lib.hid ((Only.refl k wt).alloc _)⟩
    case round =>
      obtain ⟨h, p1, oa, oc, vs, lll, rfl, hg3, rfl, hoc, hom, hp1, HL, HO, RD, HON⟩ := hrel
      have HTB := Lib.hid (HT.out.only HON.out hkw)
      obtain ⟨g0, rfl⟩ : ∃ g : Nat, g = gk := ⟨_, rfl⟩
      by_cases hg0 : g0 = 0
      · subst hg0
        obtain rfl : h = 3 := by omega
        have hws : w.heap.size ≤ wr.heap.size := Nat.le_trans hsz HON.out.size
        have hwt : wt.heap.size ≤ wr.heap.size := HON.out.size
        have ONW := Lib.hid ((Only.of_below HB.out).trans HON.out : Only k w wr)
        go_wp2_with fail
        refine (pick_any 12 k a len' cap zs p1 _ (by omega) RD.out (by omega)).mono ?_
        rintro e w1 ⟨x, rfl, x0, x1, hr, hO, hs⟩
        have R1 := Lib.hid hr
        have O1 := Lib.hid (ONW.out.trans hO)
        have HO1 := Lib.hid (HO.out.only hO hkt hkw)
        have hs1 : wr.heap.size ≤ w1.heap.size := by omega
        clear hr hO hs
        by_cases hx0 : x = 0
        · subst hx0
          go_wp2_with fail
          go_ret
          exact ⟨_, ringGrid, p1 + 1, rfl, rfl, (ring_lit w1).1.lift (by omega), R1.out.below (ring_lit w1).2.1, by omega, O1.out.trans (Only.of_below (ring_lit w1).2.1)⟩
        · have hx0' : (x == 0) = false := by simp [hx0]
          by_cases hx1 : x = 1
          · subst hx1
            go_wp2_with fail
            go_ret
            exact ⟨_, twoGrid, p1 + 1, rfl, rfl, (two_lit w1).1.lift (by omega), R1.out.below (two_lit w1).2.1, by omega, O1.out.trans (Only.of_below (two_lit w1).2.1)⟩
          · have hx1' : (x == 1) = false := by simp [hx1]
            by_cases hx2 : x = 2
            · subst hx2
              go_wp2_with fail
              refine (pick_any 3 k a len' cap zs (p1 + 1) _ (by omega) R1.out (by omega)).mono ?_
              rintro e w2 ⟨y, rfl, y0, y1, hr, hO, hs2⟩
              have R2 := Lib.hid hr
              have O2 := Lib.hid (O1.out.trans hO)
              have HO2 := Lib.hid (HO1.out.only hO hkt hkw)
              have hs2' : w1.heap.size ≤ w2.heap.size := by omega
              clear hr hO hs2
              by_cases hy0 : y = 0
              · subst hy0
                obtain ⟨g, hoa⟩ : ∃ g, oa = some ⟨g, 0, none⟩ := by
                  rcases HO2.out.2.1.2 with ⟨e, _⟩ | ⟨g, cap', cur, e, _⟩
                  · simp at e
                  · simp at e; exact ⟨g, e.1⟩
                subst hoa
                obtain ⟨us, hus⟩ := HO2.out.2.2.1 0 (by rw [HL.out.1]; omega)
                obtain ⟨ra0, rc0, e0, hrc0, hrm0⟩ := owns_form hus.2.1
                have hl0 := HL.out.2 0 (by omega)
                obtain ⟨l0, hl0'⟩ : ∃ l0, lll.getD 0 [] = l0 := ⟨_, rfl⟩
                rw [hl0'] at hus hl0 e0 hrc0
                obtain ⟨n0, hn0⟩ : ∃ n0, l0.length = n0 := ⟨_, rfl⟩
                have hc0 : w2.cell? ⟨g, 0, none⟩ = some (.slice ra0 n0 rc0) := by
                  have hown := HO2.out.2.1
                  rw [HL.out.1] at hown
                  rw [hown.cellAt 0 (by omega), ← hn0, ← e0]
                  simp [List.getElem?_eq_getElem (by rw [HO2.out.1, HL.out.1]; omega : 0 < vs.length)]
                have hf0 : w2.frozen? ⟨g, 0, none⟩ = false := by
                  have hown := HO2.out.2.1
                  rw [HL.out.1] at hown
                  exact hown.frozenAt 0
                rw [hn0] at hl0 hrc0 e0
                rw [e0, hn0] at hus
                have HE0 := Lib.hid e0
                have HUS := Lib.hid hus
                have HN0 := Lib.hid hn0
                have HL0 := Lib.hid hl0'
                have hw2 : w.heap.size ≤ w2.heap.size := by omega
                clear hus e0 hn0 hl0' hf0
                have b4 : Below w2.heap.size w2 ((w2.alloc (.cells #[.int .i64 2, .int .i64 0] 3)).alloc (.cells #[.slice (some ⟨w2.heap.size, 0, none⟩) 2 2] 24)) := ((Below.refl _ _).alloc (Nat.le_refl _) _).alloc (by simp) _
                have HO4 := Lib.hid (HO2.out.below b4)
                have HUS4 : Hid (us.length = n0 ∧ ((w2.alloc (.cells #[.int .i64 2, .int .i64 0] 3)).alloc (.cells #[.slice (some ⟨w2.heap.size, 0, none⟩) 2 2] 24)).ownsRow wt.heap.size 24 1 (.slice ra0 n0 rc0) n0 us ∧ ∀ i, i < n0 → IntsTy ((w2.alloc (.cells #[.int .i64 2, .int .i64 0] 3)).alloc (.cells #[.slice (some ⟨w2.heap.size, 0, none⟩) 2 2] 24)) w.heap.size (us.getD i undef) (l0.getD i [])) :=
                  Lib.hid ⟨HUS.out.1, owns_belowR HUS.out.2.1 b4, fun i hi => (HUS.out.2.2 i hi).below b4⟩
                have HB4 := Lib.hid b4
                have hnews := cell_one_new (w2.alloc (.cells #[.int .i64 2, .int .i64 0] 3)) (.slice (some ⟨w2.heap.size, 0, none⟩) 2 2) 24
                rw [World.size_alloc] at hnews
                have HNW := Lib.hid hnews
                clear b4 hnews
                go_wp2_with (at_builtin; refine wpList_append_own_at _ rfl _ _ 27 rfl wt.heap.size 24 i2 (.slice none 0 0) 1 24 Tryd.underlying27 hi2 hz20 hz21 hz22 rfl (by decide) _ _ _ rfl (HUS4.out.2.1) ⟨w2.heap.size + 1, 0, none⟩ 1 1 [.slice (some ⟨w2.heap.size, 0, none⟩) 2 2] rfl rfl HNW.out (by simp [Value.oneCell']) (by unfold maxLen; omega) (by omega) (by simp; omega) ?_; intro v' w5 hown5 hgrow5 _ hat; obtain ⟨ra', rc', e', hr1, hr2⟩ := owns_form hown5; subst e'; have K1 := Lib.hid (owns_typed HO4.out.2.1 hgrow5 (owns_type HUS4.out.2.1 (by decide))); have hc5 : w5.cell? ⟨g, 0, none⟩ = some (.slice ra0 n0 rc0) := (by have hk := K1.out; rw [HL.out.1] at hk; rw [hk.cellAt 0 (by omega), ← HE0.out]; simp [List.getElem?_eq_getElem (by rw [HO2.out.1, HL.out.1]; omega : 0 < vs.length)]); have hf5 : w5.frozen? ⟨g, 0, none⟩ = false := (by have hk := K1.out; rw [HL.out.1] at hk; exact hk.frozenAt 0); have HW5 := Lib.hid hown5; have HG5 := Lib.hid hgrow5; have HAT := Lib.hid hat; clear hown5 hgrow5 hat)
                go_wp2_with fail
                go_ret
                have hnew : IntsTy ((w2.alloc (.cells #[.int .i64 2, .int .i64 0] 3)).alloc (.cells #[.slice (some ⟨w2.heap.size, 0, none⟩) 2 2] 24)) w.heap.size (.slice (some ⟨w2.heap.size, 0, none⟩) 2 2) [2, 0] := (ints_lit w2 _ w.heap.size rfl hw2 [2, 0] (by decide)).alloc _
                have hk5 : RankOwn w5 wt.heap.size w.heap.size (.slice ra' (n0 + 1) rc') (l0 ++ [[2, 0]]) := RankOwn.append hnew ⟨by rw [HN0.out]; exact HUS4.out.1, by rw [HN0.out]; exact HUS4.out.2.1, fun i hi => HUS4.out.2.2 i (by rw [← HN0.out]; exact hi)⟩ (by rw [HN0.out]; exact HW5.out) HG5.out
                have hgw : ((w2.alloc (.cells #[.int .i64 2, .int .i64 0] 3)).alloc (.cells #[.slice (some ⟨w2.heap.size, 0, none⟩) 2 2] 24)).grownBy w5 (vs.getD 0 undef).ownBlock := by rw [HE0.out]; exact HG5.out
                have hub : ∀ b, (Value.slice ra' (n0 + 1) rc').ownBlock = some b → (vs.getD 0 undef).ownBlock = some b ∨ ((w2.alloc (.cells #[.int .i64 2, .int .i64 0] 3)).alloc (.cells #[.slice (some ⟨w2.heap.size, 0, none⟩) 2 2] 24)).heap.size ≤ b := by
                  intro b hb
                  rw [HE0.out]
                  rcases HAT.out with h | h
                  · rw [h] at hb; exact .inl hb
                  · rw [h] at hb; right; simp at hb ⊢; omega
                have hst := OutOwn.store HO4.out hgw hk5 (by rw [HL.out.1]; omega) hub
                have hrow : ∀ g', (Value.slice ra0 n0 rc0).ownBlock = some g' → wt.heap.size ≤ g' := fun g' hg' => (World.ownsRow.lt HUS4.out.2.1 g' hg').1
                have hgl : wt.heap.size ≤ g := (World.ownsRow.lt K1.out g rfl).1
                have hR5 := ((R2.out.below HB4.out).grown HG5.out hrow hkt)
                have hO5 : Only k w w5 := (O2.out.trans (Only.of_below HB4.out)).grown HG5.out fun g' hg' => Nat.le_trans hsz (hrow g' hg')
                exact ⟨_, lll.set 0 (l0 ++ [[2, 0]]), p1 + 2, rfl, by rw [List.length_set]; exact HL.out.1, hst.table hsz, hR5.off hgl hkt, by omega, hO5.setFar (Nat.le_trans hsz hgl)⟩
              · have hy0' : (y == 0) = false := by simp [hy0]
                go_wp2_with fail
                go_ret
                exact ⟨_, lll, p1 + 2, rfl, HL.out.1, HO2.out.table hsz, R2.out, by omega, O2.out⟩
            · have hx2' : (x == 2) = false := by simp [hx2]
              go_wp2_with fail
              go_ret
              exact ⟨_, lll, p1 + 1, rfl, HL.out.1, HO1.out.table hsz, R1.out, by omega, O1.out⟩
      · have hh3 : h < 3 := by omega
        have hhI : (h : Int) < 3 := by omega
        have h0I : (0 : Int) ≤ (h : Int) := by omega
        obtain ⟨htb, rv, hcr, hrow⟩ := HTB.out.get h hh3
        obtain ⟨ra4, rc4, rfl, hrc4, hrm4⟩ := hrow.form
        rw [tab4 h hh3] at hcr hrow hrc4
        have HROW := Lib.hid hrow
        have HG3 := Lib.hid hg3
        clear hrow hg3
        have hws : w.heap.size ≤ wr.heap.size := Nat.le_trans hsz HON.out.size
        have hwst := HON.out.size
        obtain ⟨wo, rfl⟩ : ∃ x : World, x = wr := ⟨_, rfl⟩
        go_wp2_with fail
        refine (pick_any 4 k a len' cap zs p1 _ (by omega) (RD.out.alloc _) (by omega)).mono ?_
        rintro e w1 ⟨x, rfl, x0, x1, hr, hO, hs⟩
        obtain ⟨X, rfl⟩ : ∃ X : Nat, x = (X : Int) := ⟨x.toNat, by omega⟩
        have R1 := Lib.hid hr
        have O1 := Lib.hid (((Only.refl k wo).alloc (.cells #[] 24)).trans hO)
        have K1 := Lib.hid ((rankOwn_new wo w.heap.size).only hO (by have := RD.out.lt; omega) hkw)
        have hsz1 : wo.heap.size < w1.heap.size := by simp at hs; omega
        clear hr hO hs
        go_wp2_with fail
        go_loopg [6, 7] X (fun g s6 s7 wr => ∃ (t p2 n rc : Nat) (ra : Option Addr) (ll : List (List Int)), s7 = .int .i64 t ∧ t = g ∧ n + t ≤ 3 ∧ s6 = .slice ra n rc ∧ n ≤ rc ∧ rc ≤ 9223372036854775807 ∧ p2 + t ≤ p + 4 * h + 4 ∧
          Hid (ll.length = n) ∧ Hid (RankOwn wr wo.heap.size w.heap.size (.slice ra n rc) ll) ∧ Hid (RdAt wr k a len' cap zs p2) ∧ Hid (Only k wo wr))
        case atStart => exact ⟨X, p1 + 1, 0, _, _, [], rfl, rfl, by omega, rfl, Nat.zero_le _, by omega, by omega, Lib.hid rfl, K1, R1, O1⟩
        case round =>
          obtain ⟨t, p2, n, rc, ra, ll, rfl, ht, hn3, rfl, hnc, hrm, hp2, HLL, HK, R2, O2⟩ := hrel
          obtain ⟨g1, rfl⟩ : ∃ g : Nat, g = gk := ⟨_, rfl⟩
          by_cases hg1 : g1 = 0
          · subst hg1
            subst ht
            have hkwo : k < wo.heap.size := RD.out.lt
            have OWO := Lib.hid (HO.out.only O2.out hkt hkw)
            have hown := OWO.out.2.1
            rw [HL.out.1] at hown
            have OWN := Lib.hid hown
            have hszr := O2.out.size
            clear hown
            go_wp2_with (at_builtin; refine wpList_append_own _ rfl _ _ 23 rfl wt.heap.size 27 i3 (.slice none 0 0) 1 24 Tryd.underlying23 hi3 hz30 hz31 hz32 rfl (by decide) _ _ _ rfl (World.ownsRow.alloc (OWN.out) _) ⟨wr.heap.size, 0, none⟩ 1 1 [.slice ra n rc] rfl rfl (cell_one_new _ _ _) (by simp [Value.oneCell']) (by unfold maxLen; omega) (by omega) (by simp; omega) ?_; intro v' w5 hown5 hgrow5 _)
            obtain ⟨ra', rc', e', hr1, hr2⟩ := owns_form hown5
            have b4 : Below wr.heap.size wr (wr.alloc (.cells #[.slice ra n rc] 27)) := (Below.refl _ _).alloc (Nat.le_refl _) _
            have hrow : ∀ g, (Value.slice oa h oc).ownBlock = some g → wt.heap.size ≤ g := fun g hg => (World.ownsRow.lt OWN.out g hg).1
            have HO5 : Hid (OutOwn w5 wt.heap.size w.heap.size v' (vs ++ [.slice ra n rc]) (lll ++ [ll])) := Lib.hid (OutOwn.append (H := wo.heap.size) (OWO.out.below b4) (HK.out.below b4) hwst (fun i hi b hb => by obtain ⟨us, _, e2, _⟩ := HO.out.2.2.1 i hi; exact (World.ownsRow.lt e2 b hb).2) (by rw [HL.out.1]; exact hown5) hgrow5)
            have R5 := Lib.hid ((R2.out.below b4).grown hgrow5 hrow hkt)
            have O5 := Lib.hid (((HON.out.trans O2.out).alloc _).grown hgrow5 hrow)
            clear hown5 hgrow5 b4 hrow
            subst e'
            go_roundg (g0 - 1)
            case measure => omega
            case rel =>
              have hg3 := HG3.out
              exact ⟨h + 1, p2, ra', rc', vs ++ [.slice ra n rc], lll ++ [ll], by go_num, by omega, rfl, hr1, hr2, by omega, Lib.hid ⟨by rw [List.length_append, HL.out.1]; rfl, fun i hi => by
                rw [append_getD lll ll [] i (by rw [HL.out.1]; omega), HL.out.1]
                by_cases e : i = h
                · rw [if_pos e, HLL.out]; omega
                · rw [if_neg e]; exact HL.out.2 i (by omega)⟩, HO5, R5, O5⟩
          · have ht0 : 0 < t := by omega
            have htI : (0 : Int) < (t : Int) := by omega
            have hkwo : k < wo.heap.size := RD.out.lt
            have hne : tb ≠ k := by
              obtain ⟨_, _, hl, _⟩ := HTB.out
              have := hl tb rfl
              omega
            have hcr2 : wr.cell? ⟨tb, h, none⟩ = some (.slice ra4 4 rc4) := (O2.out.cell (p := ⟨tb, h, none⟩) htb hne).trans hcr
            have HT1 := Lib.hid ht
            clear ht
            go_upto_region 10 with fail
            go_cut [8] (fun s8 wx => ∃ way : List Int, Hid (IntsTy wx w.heap.size s8 way) ∧ Hid (RdAt wx k a len' cap zs (p2 + 1)) ∧ Hid (Only k wr wx))
            case first =>
              go_region_with ((first | (go_at_call 11; refine (pick_any 4 k a len' cap zs p2 _ (by omega) (by first | exact R2.out | exact R2.out.drew) (by omega)).mono ?_; rintro e w2 ⟨x, rfl, y0, y1, hr, hO, hs⟩; obtain ⟨j, rfl⟩ : ∃ j : Nat, x = (j : Int) := ⟨x.toNat, by omega⟩; have R3 := Lib.hid hr; have O3 := Lib.hid (show Only k wr w2 from by refine Only.trans ?_ hO; repeat (first | exact Only.refl _ _ | assumption | refine Only.drew ?_ | refine Only.drewN ?_ _ | refine Only.alloc ?_ _)); obtain ⟨rb, roff, u, hra, hrb, hcu, hiu⟩ := ((HROW.out.only O2.out hkw).only O3.out hkw).get j (by omega); subst hra; have HIU := Lib.hid hiu; have hcr3 : w2.cell? ⟨tb, h, none⟩ = some (.slice (some ⟨rb, roff, none⟩) 4 rc4) := (((O2.out.trans O3.out).cell (p := ⟨tb, h, none⟩) htb hne).trans hcr); clear hr hO hs hiu)))
              all_goals
                go_wp2_with fail
                go_meet
                exact ⟨_, HIU, R3, O3⟩
            case rest =>
              obtain ⟨way, HIU, R3, O3⟩ := hcut
              rename_i u8
              obtain ⟨ua, uc, e8, _, _⟩ := HIU.out.1.form
              subst e8
              have HK2 := Lib.hid (HK.out.only O3.out hkwo hkw)
              have HKR := Lib.hid ((HK2.out.tb hws).rows)
              have hcmp : ∀ W v3 l3, Drew wc W → IntsAt W v3 l3 → Calls Tryd.prog 23 #[v3, .slice ua way.length uc] W fun e w' => ∃ c : Int, e = .returned (.int .i64 c) ∧ Drew W w' := fun W v3 l3 hW h3 => (cmp_any v3 _ l3 way W h3 (HIU.out.1.drew hW)).mono fun e w' ⟨h1, h2⟩ => ⟨_, h1, h2⟩
              have HCM := Lib.hid hcmp
              clear hcmp
              go_wp2_with fail
              go_loopg [9, 10] n (fun g s9 s10 wr => ∃ (bv : Bool) (i q : Nat), s9 = .bool bv ∧ s10 = .int .i64 i ∧ i + g = n ∧ wr = wc.drewN q)
              case atStart => exact ⟨false, 0, 0, rfl, rfl, by omega, rfl⟩
              case round =>
                obtain ⟨bv, i, q, rfl, rfl, hi, rfl⟩ := hrel
                by_cases hg2 : gk = 0
                · subst hg2
                  obtain rfl : i = n := by omega
                  have hsz2 : wo.heap.size ≤ wc.heap.size := Nat.le_trans O2.out.size O3.out.size
                  cases bv
                  · obtain ⟨us, hus⟩ := HK2.out
                    have HUS := Lib.hid hus
                    have hown := hus.2.1
                    rw [HLL.out] at hown
                    have OWN := Lib.hid hown
                    clear hus hown
                    go_wp2_with (at_builtin; refine wpList_append_own _ rfl _ _ 27 rfl wo.heap.size 24 i2 (.slice none 0 0) 1 24 Tryd.underlying27 hi2 hz20 hz21 hz22 rfl (by decide) _ _ _ rfl (World.ownsRow.alloc (OWN.out : (wc.drewN q).ownsRow _ _ _ _ _ _) _) ⟨wc.heap.size, 0, none⟩ 1 1 [.slice ua way.length uc] rfl rfl (cell_one_new _ _ _) (by simp [Value.oneCell']) (by unfold maxLen; omega) (by omega) (by simp; omega) ?_; intro v' w5 hown5 hgrow5 _)
                    obtain ⟨ra', rc', e', hr1, hr2⟩ := owns_form hown5
                    have b4 : Below wc.heap.size wc ((wc.drewN q).alloc (.cells #[.slice ua way.length uc] 24)) := (belowDrewN (Below.refl _ _) q).alloc (Nat.le_refl _) _
                    have hrow : ∀ g, (Value.slice ra i rc).ownBlock = some g → wo.heap.size ≤ g := fun g hg => (World.ownsRow.lt OWN.out g hg).1
                    have HK5 : Hid (RankOwn w5 wo.heap.size w.heap.size v' (ll ++ [way])) := Lib.hid (RankOwn.append (HIU.out.below b4) ⟨HUS.out.1, owns_belowR HUS.out.2.1 b4, fun i hi => (HUS.out.2.2 i hi).below b4⟩ (by rw [HLL.out]; exact hown5) hgrow5)
                    have R5 := Lib.hid ((R3.out.below b4).grown hgrow5 hrow hkwo)
                    have O5 := Lib.hid ((((O2.out.trans O3.out).drewN q).alloc _).grown hgrow5 hrow)
                    clear hown5 hgrow5 b4 hrow
                    subst e'
                    go_roundg (g1 - 1)
                    case measure => omega
                    case rel =>
                      have ht := HT1.out
                      exact ⟨t - 1, p2 + 1, i + 1, rc', ra', ll ++ [way], by go_num, by omega, by omega, rfl, hr1, hr2, by omega, Lib.hid (by rw [List.length_append, HLL.out]; rfl), HK5, R5, O5⟩
                  · go_wp2_with fail
                    go_roundg (g1 - 1)
                    case measure => omega
                    case rel =>
                      have ht := HT1.out
                      refine ⟨t - 1, p2 + 1, i, rc, ra, ll, by go_num, by omega, by omega, rfl, hnc, hrm, by omega, HLL, ?_, ?_, ?_⟩
                      · exact Lib.hid (HK2.out.below (belowDrewN (Below.refl _ _) _))
                      · exact Lib.hid (R3.out.drewN _)
                      · exact Lib.hid ((O2.out.trans O3.out).drewN _)
                · have hin : i < n := by omega
                  obtain ⟨gb, goff, v3, rfl, hgb, hx3, hi3'⟩ := HKR.out.get i hin
                  have HI3 := Lib.hid hi3'
                  have HI := Lib.hid hi
                  clear hi hi3'
                  cases bv
                  · go_wp2_with (go_at_call 23; refine (HCM.out _ _ _ (by repeat (first | exact Drew.refl _ | assumption | refine Drew.more ?_ _)) (HI3.out.drew (by repeat (first | exact Drew.refl _ | assumption | refine Drew.more ?_ _)))).mono ?_; rintro e w5 ⟨c, rfl, q5, rfl⟩)
                    go_roundg (gk - 1)
                    case measure => omega
                    case rel => exact ⟨_, i + 1, q + q5, rfl, by go_num, by have := HI.out; omega, rfl⟩
                  · go_wp2_with fail
                    go_roundg (gk - 1)
                    case measure => omega
                    case rel => exact ⟨true, i + 1, q, rfl, by go_num, by have := HI.out; omega, rfl⟩
end Go.Proofs.YtbbhnnbpeiodnaaDoor
