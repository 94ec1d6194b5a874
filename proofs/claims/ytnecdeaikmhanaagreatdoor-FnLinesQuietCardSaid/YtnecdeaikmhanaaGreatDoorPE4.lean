/- A part of the proof; packed by a program of mine out of my texts. -/
import Derived.Test.YtnecdeaikmhanaaGreatDoorPE0
import Derived.Test.YtnecdeaikmhanaaGreatDoorPE1
import Derived.Test.YtnecdeaikmhanaaGreatDoorPE2
import Derived.Test.YtnecdeaikmhanaaGreatDoorPE3
import Derived.Deep.RegionWith
import Derived.Deep.Slices
import Derived.Deep.LoopGhost
import Derived.OpenShut
import Derived.Lib.SmallJoins
import Derived.Deep.RegionLaw
import Derived.Deep.DeepCutAuto
namespace Go.Proofs.YtnecdeaikmhanaaGreatDoor
open Go.RowKit
set_option linter.unusedVariables false
theorem own_zero (w : World) : OwnInts (w.alloc (.cells #[] 3)) w.heap.size (.slice (some ⟨w.heap.size, 0, none⟩) 0 0) [] :=
  World.ownsRow_lit (base := w.heap.size) (e := 3) (size := 1) w #[] 0 (Nat.le_refl _) (by simp [maxLen]) rfl
set_option maxRecDepth 100000 in
set_option maxHeartbeats 8000000 in
theorem specSendWay_any (v : Value) (ls : List (List Ent)) (h x : Int) (w : World) (hv : TabsAt w v ls) :
    Calls Tryz.prog 48 #[v, .int .i64 h, .int .i64 x] w (WayPost (wayF ls h x) w) := by
  have hok := l42Ok_any v ls w hv
  obtain ⟨i0, hi, hz0, hz1, hz2⟩ := info_parts info_intR
  obtain ⟨a, cap, rfl, hc, hm⟩ := hv.form
  obtain ⟨n, hn⟩ : ∃ n, ls.length = n := ⟨_, rfl⟩
  obtain ⟨R, hR⟩ : ∃ R, wayF ls h x = R := ⟨_, rfl⟩
  rw [hR]
  unfold wayF at hR
  rw [hn] at hok hR hc hv ⊢
  obtain ⟨A, hA⟩ : ∃ A, tablesOkF ls = A := ⟨_, rfl⟩
  obtain ⟨B, hB⟩ : ∃ B, (decide (1 ≤ h) && decide (h ≤ (n : Int))) = B := ⟨_, rfl⟩
  obtain ⟨C, hC⟩ : ∃ C, (decide (0 ≤ x) && decide (x ≤ 255)) = C := ⟨_, rfl⟩
  rw [hA] at hok
  have hin1 : ∀ W, Calls Tryz.prog 41 #[.int .i64 h, .int .i64 1, .int .i64 (n : Int)] W fun e w' => e = .returned (.bool B) ∧ w' = W := fun W => by rw [← hB]; exact in_any _ _ _ W
  have hin2 : ∀ W, Calls Tryz.prog 41 #[.int .i64 x, .int .i64 0, .int .i64 255] W fun e w' => e = .returned (.bool C) ∧ w' = W := fun W => by rw [← hC]; exact in_any _ _ _ W
  have HOK := Lib.hid hok
  have HN := Lib.hid hn
  have HR := Lib.hid hR
  have HA := Lib.hid hA
  have HB := Lib.hid hB
  have HC := Lib.hid hC
  have H := Lib.hid hv
  have HI1 := Lib.hid hin1
  have HI2 := Lib.hid hin2
  clear hok hn hR hA hB hC hv hin1 hin2
  unfold WayPost
  cases A
  · have e := HR.out
    rw [if_neg (by rw [HA.out]; simp)] at e
    subst e
    go_enter Tryz.func48, Tryz.ntmps48
    go_wp2_with (go_at_call 80; refine HOK.out.mono ?_; rintro e w1 ⟨rfl, hb1⟩)
    refine bodyPost_ret (results_tmp2 rfl _ _ _) rfl ?_
    exact ⟨_, rfl, (own_zero w1).lift hb1.size, Below.alloc hb1 hb1.size _⟩
  · cases B
    · have e := HR.out
      rw [if_neg (by have := HB.out; simp at this; omega)] at e
      subst e
      go_enter Tryz.func48, Tryz.ntmps48
      go_wp2_with (first | (go_at_call 80; refine HOK.out.mono ?_; rintro e w1 ⟨rfl, hb1⟩) | (go_at_call 41; refine (HI1.out _).mono ?_; rintro e w1 ⟨rfl, rfl⟩))
      refine bodyPost_ret (results_tmp2 rfl _ _ _) rfl ?_
      exact ⟨_, rfl, (own_zero _).lift hb1.size, Below.alloc hb1 hb1.size _⟩
    · cases C
      · have e := HR.out
        rw [if_neg (by have := HC.out; unfold addrF; rw [this]; simp)] at e
        subst e
        go_enter Tryz.func48, Tryz.ntmps48
        go_wp2_with (first | (go_at_call 80; refine HOK.out.mono ?_; rintro e w1 ⟨rfl, hb1⟩) | (go_at_call_of 41 (Value.int IntKind.i64 x); refine (HI2.out _).mono ?_; rintro e w1 ⟨rfl, rfl⟩) | (go_at_call 41; refine (HI1.out _).mono ?_; rintro e w1 ⟨rfl, rfl⟩))
        refine bodyPost_ret (results_tmp2 rfl _ _ _) rfl ?_
        exact ⟨_, rfl, (own_zero _).lift hb1.size, Below.alloc hb1 hb1.size _⟩
      · have hhb := HB.out
        simp at hhb
        obtain ⟨h1', h2'⟩ := hhb
        have hx : 0 ≤ x ∧ x ≤ 255 := by have := HC.out; simpa using this
        have e := HR.out
        rw [if_pos ⟨HA.out, by omega, by omega, HC.out⟩, ← goS_eq h1' h2'] at e
        have HE := Lib.hid e
        have HX := Lib.hid hx
        clear e hx
        have hl5 := (tablesOk_at HA.out).2.1
        rw [HN.out] at hl5
        go_enter Tryz.func48, Tryz.ntmps48
        go_wp2_with (first | (go_at_call 80; refine HOK.out.mono ?_; rintro e w1 ⟨rfl, hb1⟩; have BB := Lib.hid hb1; clear hb1) | (go_at_call_of 41 (Value.int IntKind.i64 x); refine (HI2.out _).mono ?_; rintro e w1 ⟨rfl, rfl⟩) | (go_at_call 41; refine (HI1.out _).mono ?_; rintro e w1 ⟨rfl, rfl⟩))
        go_loopg [1, 8, 9] (n + 1) (fun gk s1 s8 s9 wr => ∃ (q : Int) (i : Nat) (way : List Int), s1 = .int .i64 q ∧ s9 = .int .i64 (i : Int) ∧ Hid (OwnInts wr w1.heap.size s8 way) ∧ i + gk = n + 1 ∧ way.length = i ∧ 1 ≤ q ∧ q ≤ (n : Int) ∧ Hid (goS (nextF ls x) n gk q way = R) ∧ Hid (Below w1.heap.size w1 wr))
        case atStart => exact ⟨h, 0, [], rfl, rfl, Lib.hid (own_zero _), by omega, rfl, h1', h2', HE, Lib.hid (Below.alloc (Below.refl _ _) (Nat.le_refl _) _)⟩
        case round =>
          obtain ⟨q, L, way, rfl, rfl, hown, hlen, hL, q1, q2, hgo, hb⟩ := hrel
          obtain ⟨wa, wc, e, hwl, hwc⟩ := hown.out.form
          subst e
          rw [hL] at hown hwl ⊢
          have HL := Lib.hid hL
          clear hL
          cases gk with
          | zero =>
            have hdn : ¬ (L : Int) ≤ (n : Int) := by omega
            have e := hgo.out
            have e' : R = (way, false) := e.symm
            subst e'
            go_wp2_with fail
            refine bodyPost_ret (results_tmp2 rfl _ _ _) rfl ?_
            exact ⟨_, rfl, hown.out.lift BB.out.size, BB.out.trans (hb.out.mono BB.out.size)⟩
          | succ k =>
            have hdn : (L : Int) ≤ (n : Int) := by omega
            obtain ⟨j, rfl⟩ : ∃ j : Nat, q = (j : Int) + 1 := ⟨(q - 1).toNat, by omega⟩
            have hjn : j < n := by omega
            have hjI : (j : Int) < (n : Int) := by omega
            have j0 : (0 : Int) ≤ (j : Int) := by omega
            obtain ⟨T, hT⟩ : ∃ T, nextF ls x ((j : Int) + 1) = T := ⟨_, rfl⟩
            have hstep : goS (nextF ls x) n (k + 1) ((j : Int) + 1) way = if T = (j : Int) + 1 then (way ++ [(j : Int) + 1], true) else if T < 1 ∨ (n : Int) < T then (way ++ [(j : Int) + 1], false) else goS (nextF ls x) n k T (way ++ [(j : Int) + 1]) := by rw [← hT]; rfl
            obtain ⟨b, off, tv, rfl, hbb, c0, hE⟩ := (H.out.below BB.out).get j hjn
            have hcall : ∀ W, Below w1.heap.size w1 W → Calls Tryz.prog 81 #[tv, .int .i64 x] W fun e w' => e = .returned (.int .i64 T) ∧ Below W.heap.size W w' := fun W hW => by
              have := l2Find_any tv _ x HX.out.1 HX.out.2 ((tablesOk_at HA.out).2.2 j (by rw [HN.out]; exact hjn)) W (hE.below hW)
              unfold nextF at hT
              rw [show ((j : Int) + 1 - 1).toNat = j by omega] at hT
              rw [hT] at this
              exact this
            have hin3 : ∀ W, Calls Tryz.prog 41 #[.int .i64 T, .int .i64 1, .int .i64 (n : Int)] W fun e w' => e = .returned (.bool (decide (1 ≤ T) && decide (T ≤ (n : Int)))) ∧ w' = W := fun W => in_any _ _ _ W
            obtain ⟨D, hD⟩ : ∃ D, (decide (1 ≤ T) && decide (T ≤ (n : Int))) = D := ⟨_, rfl⟩
            rw [hD] at hin3
            have HC2 := Lib.hid hcall
            have HI3 := Lib.hid hin3
            have HD := Lib.hid hD
            have HS := Lib.hid (hstep.symm.trans hgo.out)
            have HLEN := Lib.hid hlen
            have OWN : Hid (wr.ownsRow w1.heap.size 3 1 (.slice wa L wc) L (way.map (Value.int .i64))) := Lib.hid (by have := hown.out; unfold OwnInts at this; rw [HL.out] at this; exact this)
            have hs1 : w1.heap.size ≤ wr.heap.size := hb.out.size
            have hcw : ∀ W, Below w1.heap.size w1 W → W.cell? ⟨b, off + j, none⟩ = some tv := fun W hW => (hW.cell (p := ⟨b, off + j, none⟩) hbb).trans c0
            have HCW := Lib.hid hcw
            clear hcall hstep hT hE hin3 hD hlen c0 hcw
            by_cases c1 : T = (j : Int) + 1
            · have e := HS.out
              rw [if_pos c1] at e
              subst e
              have hcb : (T == (j : Int) + 1) = true := by simp [c1]
              go_wp2_with (first | (at_builtin; refine wpList_append_src rfl (.tmp 34) (.tmp 36) 37 rfl w1.heap.size 3 i0 (.int .i64 0) 8 Tryz.underlying37 hi hz0 hz1 hz2 rfl (.slice wa L wc) L (way.map (Value.int .i64)) rfl (World.ownsRow.alloc OWN.out _) (.slice (some ⟨wr.heap.size, 0, none⟩) 1 1) 1 (fun _ => .int .i64 ((j : Int) + 1)) rfl (lit_int wr _) (fun j hj => rfl) (by unfold maxLen; omega) (by omega) (by (try simp); omega) ?_; intro v' w4 hown4 hgrow4; have B4 : Hid (Below w1.heap.size w1 w4) := Lib.hid (Below.grown (Below.alloc hb.out hs1 _) hgrow4 (by simp; omega) (fun g hg => (World.ownsRow.lt OWN.out g hg).1)); have OWN4 : Hid (OwnInts w4 w1.heap.size v' (way ++ [(j : Int) + 1])) := Lib.hid (by unfold OwnInts; rw [List.length_append, HL.out, List.map_append]; exact hown4); have cw4 := HCW.out _ B4.out; clear hown4 hgrow4) | (go_at_call 81; refine (HC2.out _ B4.out).mono ?_; rintro e w5 ⟨rfl, hb5⟩; have B5 := Lib.hid (B4.out.trans (hb5.mono B4.out.size)); have OWN5 := Lib.hid (OWN4.out.below hb5); clear hb5))
              refine bodyPost_ret (results_tmp2 rfl _ _ _) rfl ?_
              exact ⟨_, rfl, OWN5.out.lift BB.out.size, BB.out.trans (B5.out.mono BB.out.size)⟩
            · have hcb : (T == (j : Int) + 1) = false := by simp [c1]
              cases D
              · have e := HS.out
                rw [if_neg c1, if_pos (by have := HD.out; simp at this; omega)] at e
                subst e
                go_wp2_with (first | (at_builtin; refine wpList_append_src rfl (.tmp 34) (.tmp 36) 37 rfl w1.heap.size 3 i0 (.int .i64 0) 8 Tryz.underlying37 hi hz0 hz1 hz2 rfl (.slice wa L wc) L (way.map (Value.int .i64)) rfl (World.ownsRow.alloc OWN.out _) (.slice (some ⟨wr.heap.size, 0, none⟩) 1 1) 1 (fun _ => .int .i64 ((j : Int) + 1)) rfl (lit_int wr _) (fun j hj => rfl) (by unfold maxLen; omega) (by omega) (by (try simp); omega) ?_; intro v' w4 hown4 hgrow4; have B4 : Hid (Below w1.heap.size w1 w4) := Lib.hid (Below.grown (Below.alloc hb.out hs1 _) hgrow4 (by simp; omega) (fun g hg => (World.ownsRow.lt OWN.out g hg).1)); have OWN4 : Hid (OwnInts w4 w1.heap.size v' (way ++ [(j : Int) + 1])) := Lib.hid (by unfold OwnInts; rw [List.length_append, HL.out, List.map_append]; exact hown4); have cw4 := HCW.out _ B4.out; clear hown4 hgrow4) | (go_at_call 81; refine (HC2.out _ B4.out).mono ?_; rintro e w5 ⟨rfl, hb5⟩; have B5 := Lib.hid (B4.out.trans (hb5.mono B4.out.size)); have OWN5 := Lib.hid (OWN4.out.below hb5); clear hb5) | (go_at_call 41; refine (HI3.out _).mono ?_; rintro e w5 ⟨rfl, rfl⟩))
                refine bodyPost_ret (results_tmp2 rfl _ _ _) rfl ?_
                exact ⟨_, rfl, OWN5.out.lift BB.out.size, BB.out.trans (B5.out.mono BB.out.size)⟩
              · have hd := HD.out
                simp at hd
                obtain ⟨d1, d2⟩ := hd
                have e := HS.out
                rw [if_neg c1, if_neg (by omega)] at e
                have HG := Lib.hid e
                clear e
                go_wp2_with (first | (at_builtin; refine wpList_append_src rfl (.tmp 34) (.tmp 36) 37 rfl w1.heap.size 3 i0 (.int .i64 0) 8 Tryz.underlying37 hi hz0 hz1 hz2 rfl (.slice wa L wc) L (way.map (Value.int .i64)) rfl (World.ownsRow.alloc OWN.out _) (.slice (some ⟨wr.heap.size, 0, none⟩) 1 1) 1 (fun _ => .int .i64 ((j : Int) + 1)) rfl (lit_int wr _) (fun j hj => rfl) (by unfold maxLen; omega) (by omega) (by (try simp); omega) ?_; intro v' w4 hown4 hgrow4; have B4 : Hid (Below w1.heap.size w1 w4) := Lib.hid (Below.grown (Below.alloc hb.out hs1 _) hgrow4 (by simp; omega) (fun g hg => (World.ownsRow.lt OWN.out g hg).1)); have OWN4 : Hid (OwnInts w4 w1.heap.size v' (way ++ [(j : Int) + 1])) := Lib.hid (by unfold OwnInts; rw [List.length_append, HL.out, List.map_append]; exact hown4); have cw4 := HCW.out _ B4.out; clear hown4 hgrow4) | (go_at_call 81; refine (HC2.out _ B4.out).mono ?_; rintro e w5 ⟨rfl, hb5⟩; have B5 := Lib.hid (B4.out.trans (hb5.mono B4.out.size)); have OWN5 := Lib.hid (OWN4.out.below hb5); clear hb5) | (go_at_call 41; refine (HI3.out _).mono ?_; rintro e w5 ⟨rfl, rfl⟩))
                go_roundg k
                case measure => omega
                case rel => exact ⟨T, L + 1, way ++ [(j : Int) + 1], rfl, by go_num, OWN5, by have := HLEN.out; omega, by rw [List.length_append, HL.out]; rfl, d1, d2, HG, B5⟩
end Go.Proofs.YtnecdeaikmhanaaGreatDoor
namespace Go.Proofs.YtnecdeaikmhanaaGreatDoor
open Go.RowKit
set_option linter.unusedVariables false
theorem RdAt.lt {w : World} {k : Nat} {a : Option Addr} {len cap : Nat} {zs : List Int} {p : Nat} (h : RdAt w k a len cap zs p) : k < w.heap.size := lt_of_cell h.c0
theorem RdAt.below {w w' : World} {k : Nat} {a : Option Addr} {len cap : Nat} {zs : List Int} {p : Nat} (h : RdAt w k a len cap zs p) (hb : Below w.heap.size w w') : RdAt w' k a len cap zs p := by
  have hk := h.lt
  refine ⟨(hb.cell (p := ⟨k, 0, none⟩) hk).trans h.c0, (hb.cell (p := ⟨k, 1, none⟩) hk).trans h.c1, (hb.frozen (p := ⟨k, 1, none⟩) hk).trans h.f1, ?_, h.far, h.short⟩
  rcases h.row with r | ⟨x, hx, h1, h2, h3, h4, h5⟩
  · exact .inl r
  · exact .inr ⟨x, hx, h1, h2, h3, fun i hi => (hb.cell (p := x.add i) (lt_of_cell (h4 i hi))).trans (h4 i hi), h5⟩
theorem RdAt.grown {w w' : World} {k : Nat} {a : Option Addr} {len cap : Nat} {zs : List Int} {p lo : Nat} {row : Option Nat} (h : RdAt w k a len cap zs p) (hg : w.grownBy w' row) (hrow : ∀ g, row = some g → lo ≤ g) (hk : k < lo) : RdAt w' k a len cap zs p := by
  have key : ∀ b, b < w.heap.size → b ≤ k → w'.heap[b]? = w.heap[b]? := fun b hb hle => hg.block b hb (by intro e; have := hrow b e.symm; omega)
  have hkw := h.lt
  refine ⟨(World.cell?_of_block (key k hkw (Nat.le_refl _))).trans h.c0, (World.cell?_of_block (key k hkw (Nat.le_refl _))).trans h.c1, (World.frozen?_of_block (key k hkw (Nat.le_refl _))).trans h.f1, ?_, h.far, h.short⟩
  rcases h.row with r | ⟨x, hx, h1, h2, h3, h4, h5⟩
  · exact .inl r
  · refine .inr ⟨x, hx, h1, h2, h3, fun i hi => ?_, h5⟩
    have hxk := h.far x hx (by omega)
    refine (World.cell?_of_block (key (x.add i).block (lt_of_cell (h4 i hi)) ?_)).trans (h4 i hi)
    rw [add_block]; omega
theorem Only.grown {k : Nat} {a w w' : World} {row : Option Nat} (h : Only k a w) (hg : w.grownBy w' row) (hrow : ∀ g, row = some g → a.heap.size ≤ g) : Only k a w' := by
  refine ⟨hg.os.trans h.os, hg.tape.trans h.tape, hg.output.trans h.output, Nat.le_trans h.size hg.size, fun b hb hk => (hg.block b (Nat.lt_of_lt_of_le hb h.size) ?_).trans (h.block b hb hk)⟩
  intro e; have := hrow b e.symm; omega
theorem RdAt.off {w : World} {k g i lo : Nat} {a : Option Addr} {len cap : Nat} {zs : List Int} {p : Nat} {u : Value} (h : RdAt w k a len cap zs p) (hg : lo ≤ g) (hk : k < lo) : RdAt (w.setCell ⟨g, i, none⟩ u) k a len cap zs p := by
  have key : ∀ q : Addr, q.block ≤ k → (w.setCell ⟨g, i, none⟩ u).cell? q = w.cell? q := fun q hq => World.cell?_of_block (Below.heap_setCell _ _ _ _ (by intro e; simp at e; omega))
  have keyf : ∀ q : Addr, q.block ≤ k → (w.setCell ⟨g, i, none⟩ u).frozen? q = w.frozen? q := fun q hq => World.frozen?_of_block (Below.heap_setCell _ _ _ _ (by intro e; simp at e; omega))
  refine ⟨(key ⟨k, 0, none⟩ (Nat.le_refl _)).trans h.c0, (key ⟨k, 1, none⟩ (Nat.le_refl _)).trans h.c1, (keyf ⟨k, 1, none⟩ (Nat.le_refl _)).trans h.f1, ?_, h.far, h.short⟩
  rcases h.row with r | ⟨x, hx, h1, h2, h3, h4, h5⟩
  · exact .inl r
  · refine .inr ⟨x, hx, h1, h2, h3, fun i hi => (key (x.add i) ?_).trans (h4 i hi), h5⟩
    have := h.far x hx (by omega)
    rw [add_block]; omega
theorem stores2 {w1 : World} {B : Nat} {u0 u1 v0 v1 : Value} (h0 : w1.cell? ⟨B, 0, none⟩ = some u0) (h1 : w1.cell? ⟨B, 1, none⟩ = some u1) :
    ((w1.setCell ⟨B, 0, none⟩ v0).setCell ⟨B, 1, none⟩ v1).cell? ⟨B, 0, none⟩ = some v0 ∧ ((w1.setCell ⟨B, 0, none⟩ v0).setCell ⟨B, 1, none⟩ v1).cell? ⟨B, 1, none⟩ = some v1 := by
  refine ⟨?_, ?_⟩
  · rw [World.cell?_setCell_other _ _ _ _ (by simp)]; exact World.cell?_setCell_same _ _ _ h0
  · exact World.cell?_setCell_same _ _ _ ((World.cell?_setCell_other _ _ _ _ (by simp)).trans h1)
end Go.Proofs.YtnecdeaikmhanaaGreatDoor
namespace Go.Proofs.YtnecdeaikmhanaaGreatDoor
open Go.RowKit
set_option linter.unusedVariables false
theorem cell_three_new (W : World) (x y z : Value) (T : TypeId) : ∀ j u, ([x, y, z] : List Value)[j]? = some u → (W.alloc (.cells #[x, y, z] T)).cell? ((⟨W.heap.size, 0, none⟩ : Addr).add j) = some u := by
  intro j u hj
  have hj3 : j < 3 := by
    rcases Nat.lt_or_ge j 3 with h | h
    · exact h
    · rw [List.getElem?_eq_none (by simpa using h)] at hj; cases hj
  have : j = 0 ∨ j = 1 ∨ j = 2 := by omega
  rcases this with rfl | rfl | rfl <;> simp at hj <;> subst hj <;> simp [Addr.add]
theorem EntNew.nil (w : World) (lo : Nat) : EntNew w lo (.slice none 0 0) [] := ⟨[], World.ownsRow_nil _ _ _ _, fun i hi => by simp at hi⟩
theorem EntNew.zero (w : World) : EntNew (w.alloc (.cells #[] 103)) w.heap.size (.slice (some ⟨w.heap.size, 0, none⟩) 0 0) [] :=
  ⟨[], World.ownsRow_lit (base := w.heap.size) (e := 103) (size := 3) w #[] 0 (Nat.le_refl _) (by simp [maxLen]) rfl, fun i hi => by simp at hi⟩
theorem EntNew.form {w : World} {lo : Nat} {v : Value} {l : List Ent} (h : EntNew w lo v l) : ∃ a c, v = .slice a l.length c ∧ l.length ≤ c ∧ c ≤ 9223372036854775807 := h.ents.form
theorem EntNew.snoc {w : World} {lo : Nat} {v' : Value} {l : List Ent} {e : Ent} {xs : List Value} (hl : xs.length = l.length * 3)
    (hx : ∀ i, i < l.length → xs.getD (i * 3) undef = .int .i64 (l.getD i (0, 0, 0)).1 ∧ xs.getD (i * 3 + 1) undef = .int .i64 (l.getD i (0, 0, 0)).2.1 ∧ xs.getD (i * 3 + 2) undef = .int .i64 (l.getD i (0, 0, 0)).2.2)
    (h : w.ownsRow lo 103 3 v' (l.length + 1) (xs ++ [.int .i64 e.1, .int .i64 e.2.1, .int .i64 e.2.2])) : EntNew w lo v' (l ++ [e]) := by
  refine ⟨_, by rw [List.length_append, List.length_singleton]; exact h, fun i hi => ?_⟩
  rw [List.length_append, List.length_singleton] at hi
  by_cases hil : i < l.length
  · obtain ⟨e0, e1, e2⟩ := hx i hil
    have q : (l ++ [e]).getD i (0, 0, 0) = l.getD i (0, 0, 0) := by simp only [List.getD_eq_getElem?_getD]; rw [List.getElem?_append_left hil]
    have r : ∀ j, j < xs.length → (xs ++ [Value.int .i64 e.1, Value.int .i64 e.2.1, Value.int .i64 e.2.2]).getD j undef = xs.getD j undef := fun j hj => by simp only [List.getD_eq_getElem?_getD]; rw [List.getElem?_append_left hj]
    rw [q, r _ (by omega), r _ (by omega), r _ (by omega)]
    exact ⟨e0, e1, e2⟩
  · obtain rfl : i = l.length := by omega
    have q : (l ++ [e]).getD l.length (0, 0, 0) = e := by simp
    have r : ∀ j, (xs ++ [Value.int .i64 e.1, Value.int .i64 e.2.1, Value.int .i64 e.2.2]).getD (l.length * 3 + j) undef = ([.int .i64 e.1, .int .i64 e.2.1, .int .i64 e.2.2] : List Value).getD j undef := fun j => by
      simp only [List.getD_eq_getElem?_getD]; rw [List.getElem?_append_right (by omega), ← hl, Nat.add_sub_cancel_left]
    rw [q]
    exact ⟨r 0, r 1, r 2⟩
theorem owns_form3 {w : World} {lo n : Nat} {T : TypeId} {size : Nat} {v : Value} {us : List Value} (h : w.ownsRow lo T size v n us) : ∃ a cap, v = .slice a n cap := by
  rcases h.2 with ⟨rfl, hn⟩ | ⟨g, cap, cur, rfl, _⟩
  · exact ⟨none, 0, by rw [hn]⟩
  · exact ⟨_, cap, rfl⟩
variable {W : World}
theorem wp_append_ent {o : Oper} {a : Act} {K : Act → World → Prop} {Q : Exit → Act → World → Prop} (s x : Operand)
    (ho : o.op = .call { callee := .builtin .append, args := #[s, x], argTypes := #[100, 100] })
    (lo : Nat) (v : Value) (l : List Ent) (e : Ent) (hs : a.eval s = v) (hO : EntNew W lo v l) (hx : a.eval x = .slice (some ⟨W.heap.size, 0, none⟩) 1 1) (hl : l.length ≤ 1000000) (hlo : lo ≤ W.heap.size)
    (h : ∀ ad c w', EntNew w' lo (.slice ad (l.length + 1) c) (l ++ [e]) → Below lo W w' → w'.heap.size ≥ W.heap.size → K (a.put o.dst (.slice ad (l.length + 1) c)) w') : o.wp Tryz.prog a (W.alloc (.cells #[.int .i64 e.1, .int .i64 e.2.1, .int .i64 e.2.2] 103)) K Q := by
  obtain ⟨i0, hi, hz0, hz1, hz2⟩ := info_parts info_e3
  obtain ⟨xs, hown, hxs⟩ := hO
  refine wp_append_own _ s x 100 ho lo 103 i0 (.agg #[.int .i64 0, .int .i64 0, .int .i64 0]) 3 24 Tryz.underlying100 hi hz0 hz1 hz2 rfl (by decide) v l.length xs hs (World.ownsRow.alloc hown _) ⟨W.heap.size, 0, none⟩ 1 1 [.int .i64 e.1, .int .i64 e.2.1, .int .i64 e.2.2] hx rfl (cell_three_new _ _ _ _ _) ?_ (by unfold maxLen; omega) (by omega) (by simp; omega) ?_
  · intro u hu
    simp at hu
    rcases hu with rfl | rfl | rfl <;> rfl
  · intro v' w' h1 h2 _
    obtain ⟨ad, c, rfl⟩ := owns_form3 h1
    have hb := Below.grown (Below.alloc (Below.refl _ _) hlo _) h2 (by simp; omega) (fun g hg => (World.ownsRow.lt hown g hg).1)
    exact h ad c w' (EntNew.snoc hown.1 hxs h1) hb hb.size
theorem wpList_append_ent {ops : Array Oper} {rest : List Oper} {o : Oper} {a : Act} {Q : Exit → Act → World → Prop} (hgd : o.guard = none) (s x : Operand)
    (ho : o.op = .call { callee := .builtin .append, args := #[s, x], argTypes := #[100, 100] })
    (lo : Nat) (v : Value) (l : List Ent) (e : Ent) (hs : a.eval s = v) (hO : EntNew W lo v l) (hx : a.eval x = .slice (some ⟨W.heap.size, 0, none⟩) 1 1) (hl : l.length ≤ 1000000) (hlo : lo ≤ W.heap.size)
    (h : ∀ ad c w', EntNew w' lo (.slice ad (l.length + 1) c) (l ++ [e]) → Below lo W w' → w'.heap.size ≥ W.heap.size → wpList Tryz.prog ops Q rest (a.put o.dst (.slice ad (l.length + 1) c)) w') : wpList Tryz.prog ops Q (o :: rest) a (W.alloc (.cells #[.int .i64 e.1, .int .i64 e.2.1, .int .i64 e.2.2] 103)) :=
  wpList_plain hgd fun _ hK => wp_append_ent s x ho lo v l e hs hO hx hl hlo fun ad c w' h1 h2 h3 => hK _ _ (h ad c w' h1 h2 h3)
end Go.Proofs.YtnecdeaikmhanaaGreatDoor
namespace Go.Proofs.YtnecdeaikmhanaaGreatDoor
open Go.RowKit
set_option linter.unusedVariables false
def putStep (e : Ent) (s : List Ent × Bool) (x : Ent) : List Ent × Bool :=
  let c := rcmpF x.1 x.2.1 e.1 e.2.1
  let o := if s.2 = false ∧ 0 ≤ c then s.1 ++ [e] else s.1
  (if c ≠ 0 then o ++ [x] else o, s.2 || decide (0 ≤ c))
def putF (l : List Ent) (e : Ent) : List Ent := if (l.foldl (putStep e) ([], false)).2 then (l.foldl (putStep e) ([], false)).1 else (l.foldl (putStep e) ([], false)).1 ++ [e]
theorem put_len (e : Ent) : ∀ (l : List Ent) (s : List Ent × Bool), (l.foldl (putStep e) s).1.length + (if (l.foldl (putStep e) s).2 then 0 else 1) ≤ s.1.length + (if s.2 then 0 else 1) + l.length
  | [], s => Nat.le_refl _
  | x :: t, s => by
    rw [List.foldl_cons]
    refine Nat.le_trans (put_len e t _) ?_
    obtain ⟨o, p⟩ := s
    unfold putStep
    by_cases h0 : 0 ≤ rcmpF x.1 x.2.1 e.1 e.2.1 <;> by_cases h1 : rcmpF x.1 x.2.1 e.1 e.2.1 = 0 <;> cases p <;> simp [h0, h1] <;> omega
theorem putF_len (l : List Ent) (e : Ent) : (putF l e).length ≤ l.length + 1 := by
  have := put_len e l ([], false)
  unfold putF
  simp at this
  cases h : (l.foldl (putStep e) ([], false)).2
  · rw [h] at this; simp at this ⊢; omega
  · rw [h] at this; simp at this ⊢; omega
set_option maxRecDepth 100000 in
set_option maxHeartbeats 8000000 in
theorem l2Put_any (v : Value) (l : List Ent) (e : Ent) (w : World) (hv : EntsAt w v l) (hl : l.length ≤ 100000) :
    Calls Tryz.prog 82 #[v, entV e] w fun r w' => ∃ v', r = .returned v' ∧ EntNew w' w.heap.size v' (putF l e) ∧ Below w.heap.size w w' := by
  obtain ⟨ef, eb, ev⟩ := e
  unfold entV
  obtain ⟨a, cap, rfl, hc, hm⟩ := hv.form
  obtain ⟨n, hn⟩ : ∃ n, l.length = n := ⟨_, rfl⟩
  rw [hn] at hc hl hv ⊢
  have hlen : ∀ k, k ≤ n → ∀ o p, (l.take k).foldl (putStep (ef, eb, ev)) ([], false) = (o, p) → o.length ≤ k + 1 := fun k hk o p h => by
    have := put_len (ef, eb, ev) (l.take k) ([], false)
    rw [h] at this
    simp at this
    omega
  have HN := Lib.hid hn
  have H := Lib.hid hv
  have HLEN := Lib.hid hlen
  clear hn hv hlen
  dsimp only
  have hB0 := Box3.new w (.int .i64 ef) (.int .i64 eb) (.int .i64 ev) 103
  have HB0 := Lib.hid hB0
  clear hB0
  go_enter Tryz.func82, Tryz.ntmps82
  go_wp2_with fail
  go_loopg [5, 6, 7] n (fun gk s5 s6 s7 wr => ∃ (k : Nat) (o : List Ent) (p : Bool), s7 = .int .i64 (k : Int) ∧ s6 = .bool p ∧ k + gk = n ∧ Hid (EntNew wr (w.heap.size + 1) s5 o) ∧ Hid ((l.take k).foldl (putStep (ef, eb, ev)) ([], false) = (o, p)) ∧ Hid (Below (w.heap.size + 1) (w.alloc (.cells #[.int .i64 ef, .int .i64 eb, .int .i64 ev] 103)) wr))
  case atStart => exact ⟨0, [], false, rfl, rfl, by omega, Lib.hid (by have := EntNew.zero (w.alloc (.cells #[.int .i64 ef, .int .i64 eb, .int .i64 ev] 103)); rw [World.size_alloc] at this; exact this), Lib.hid rfl, Lib.hid (Below.alloc (Below.refl _ _) (by simp) _)⟩
  case round =>
    obtain ⟨k, o, p, rfl, rfl, hk, O, HF, hb⟩ := hrel
    have hol := HLEN.out k (by omega) o p HF.out
    have HOL := Lib.hid hol
    clear hol
    obtain ⟨oa, oc, e, hol1, hol2⟩ := O.out.form
    subst e
    obtain ⟨m, hm'⟩ : ∃ m, o.length = m := ⟨_, rfl⟩
    have B0 := Box3.below HB0.out (by have := hb.out; simpa using this) (by simp)
    have bw0 := B0.c0
    have bw1 := B0.c1
    have bw2 := B0.c2
    have hsw : w.heap.size + 1 ≤ wr.heap.size := by have := hb.out.size; simpa using this
    have hfin : ∀ W, Below (w.heap.size + 1) (w.alloc (.cells #[.int .i64 ef, .int .i64 eb, .int .i64 ev] 103)) W → Below w.heap.size w W := fun W h => Below.trans (Below.alloc (Below.refl _ _) (Nat.le_refl _) _) (h.mono (by omega))
    have HFIN := Lib.hid hfin
    clear hfin
    by_cases hg : gk = 0
    · subst hg
      obtain rfl : k = n := by omega
      have hdn : decide ((k : Int) < (k : Int)) = false := by simp
      have hF := HF.out
      rw [← HN.out, List.take_length] at hF
      cases p
      · have hp : putF l (ef, eb, ev) = o ++ [(ef, eb, ev)] := by unfold putF; rw [hF]; rfl
        have HP := Lib.hid hp
        clear hp hF
        go_wp2_with (at_builtin; refine wpList_append_ent rfl (.tmp 45) (.tmp 47) rfl (w.heap.size + 1) _ o (ef, eb, ev) rfl O.out rfl (by have := HOL.out; omega) hsw ?_; intro va vc w4 hO4 hb4 hs4)
        go_ret
        exact ⟨_, rfl, by rw [HP.out]; rw [hm'] at hO4; exact EntNew.lift (B := w.heap.size + 1) hO4 (by omega), HFIN.out _ (hb.out.trans hb4)⟩
      · have hp : putF l (ef, eb, ev) = o := by unfold putF; rw [hF]; rfl
        have HP := Lib.hid hp
        clear hp hF
        go_wp2_with fail
        go_ret
        exact ⟨_, rfl, by rw [HP.out]; exact EntNew.lift (B := w.heap.size + 1) O.out (by omega), HFIN.out _ hb.out⟩
    · have hkn : k < n := by omega
      have hkI : (k : Int) < (n : Int) := by omega
      have k0 : (0 : Int) ≤ (k : Int) := by omega
      have hgk : 1 ≤ gk := by omega
      obtain ⟨b, off, rfl, hbb0, _⟩ := H.out.get k hkn
      obtain ⟨b', off', e, hbb, c0, c1, c2⟩ := (H.out.below (HFIN.out _ hb.out)).get k hkn
      simp only [Option.some.injEq, Addr.mk.injEq] at e
      obtain ⟨rfl, rfl, _⟩ := e
      obtain ⟨ent, hent⟩ : ∃ e, l.getD k (0, 0, 0) = e := ⟨_, rfl⟩
      rw [hent] at c0 c1 c2
      obtain ⟨f, bt, vi⟩ := ent
      simp only at c0 c1 c2
      have hE : ∀ W, Below (w.heap.size + 1) (w.alloc (.cells #[.int .i64 ef, .int .i64 eb, .int .i64 ev] 103)) W → ∀ q, q = b → W.cell? ⟨b, off + k * 3, none⟩ = some (.int .i64 f) ∧ W.cell? ⟨b, off + k * 3 + 1, none⟩ = some (.int .i64 bt) ∧ W.cell? ⟨b, off + k * 3 + 2, none⟩ = some (.int .i64 vi) := fun W hW _ _ => by
        obtain ⟨_, _, e, _, d0, d1, d2⟩ := (H.out.below (HFIN.out _ hW)).get k hkn
        simp only [Option.some.injEq, Addr.mk.injEq] at e
        obtain ⟨rfl, rfl, _⟩ := e
        rw [hent] at d0 d1 d2
        exact ⟨d0, d1, d2⟩
      have hE := Lib.hid hE
      obtain ⟨c, hc'⟩ : ∃ c, rcmpF f bt ef eb = c := ⟨_, rfl⟩
      have hcm : ∀ W, Calls Tryz.prog 75 #[.agg #[.int .i64 f, .int .i64 bt], .agg #[.int .i64 ef, .int .i64 eb]] W fun e w' => e = .returned (.int .i64 c) ∧ Below W.heap.size W w' := fun W => by rw [← hc']; exact l1Cmp_any f bt ef eb W
      have HCM := Lib.hid hcm
      have HCV := Lib.hid hc'
      have HENT := Lib.hid hent
      have HK := Lib.hid hk
      clear hcm hc' hent hk hg hm'
      cases p
      · rcases Int.lt_trichotomy c 0 with hsign | hsign | hsign
        · have hc0 : c < 0 := hsign
          have hge : decide (0 ≤ c) = false := decide_eq_false (by omega)
          have hne : (c != 0) = true := by simp; omega
          have hc00 : c ≠ 0 := by omega
          have hngeP : ¬ 0 ≤ c := by omega
          have HSG := Lib.hid hsign
          clear hsign
          go_wp2_with fail
          refine wp_region_noPanic ?_
          refine wp_region_held_drew (S := (fun w' => w'.cell? ⟨b, off + k * 3, none⟩ = some (.int .i64 f) ∧ w'.cell? ⟨b, off + k * 3 + 1, none⟩ = some (.int .i64 bt) ∧ w'.cell? ⟨w.heap.size, 0, none⟩ = some (.int .i64 ef) ∧ w'.cell? ⟨w.heap.size, 1, none⟩ = some (.int .i64 eb))) (by kernel_rfl) (by simp [go_sem, *]) (fun hHeld => ?_)
          refine tkT (i := 0) (h := ?_)
          (try simp only [Act.put, pB, pC, pD])
          refine tkT (i := 1) (h := ?_)
          (try simp only [Act.put, pB, pC, pD])
          refine tkT (i := 2) (h := ?_)
          (try simp only [Act.put, pB, pC, pD])
          refine tkT (i := 3) (h := ?_)
          (try simp only [Act.put, pB, pC, pD])
          refine tkT (i := 4) (h := ?_)
          (try simp only [Act.put, pB, pC, pD])
          refine tkT (i := 5) (h := ?_)
          (try simp only [Act.put, pB, pC, pD])
          refine tkT (i := 6) (h := ?_)
          (try simp only [Act.put, pB, pC, pD])
          refine wpAnyH_ready (rs := [7]) (by kernel_rfl) (by simp) ?_
          refine AllReadyH.cons (by (simp only [List.getElem?_toArray, List.getElem?_cons_succ, List.getElem?_cons_zero]) <;> rfl) (fun K hK => ?_) AllReadyH.nil
          go_simp
          (go_at_call 75; refine (HCM.out _).mono ?_; rintro r w1 ⟨rfl, hb1⟩; have hB1 : Below wr.heap.size wr w1 := (by refine Below.trans ?_ (hb1.mono (by first | exact Nat.le_refl _ | omega | (simp; done) | (simp; omega))); exact bw); have O1 := Lib.hid (O.out.below hB1); have B1 := Box3.below B0 hB1 B0.size; have bx0 := B1.c0; have bx1 := B1.c1; have bx2 := B1.c2; have hs1 : w.heap.size + 1 ≤ w1.heap.size := (by have := hB1.size; omega); have x0 := (hB1.cell (p := ⟨b, off + k * 3, none⟩) hbb).trans c0; have x1 := (hB1.cell (p := ⟨b, off + k * 3 + 1, none⟩) hbb).trans c1; have x2 := (hB1.cell (p := ⟨b, off + k * 3 + 2, none⟩) hbb).trans c2; have BB := Lib.hid (hb.out.trans (hB1.mono (by have := hb.out.size; simp at this; omega))); clear hb1)
          refine hK.out _ _ (by simp [go_sem, *]) (fun hHeld => ?_)
          (try simp only [Act.put, pB, pC, pD])
          refine tkT (i := 8) (h := ?_)
          (try simp only [Act.put, pB, pC, pD])
          refine wpAnyH_done (by kernel_rfl) ?_ _
          refine NoPanic.normal ?_
          go_wp2_with (at_builtin; refine wpList_append_ent rfl (.tmp 36) (.tmp 41) rfl (w.heap.size + 1) _ o (f, bt, vi) rfl O1.out rfl (by have := HOL.out; (try rw [List.length_append]); (try rw [List.length_singleton]); omega) hs1 ?_; intro va5 vc5 w5 hO5 hb5 hs5; have O5 := Lib.hid hO5; have BB5 := Lib.hid (BB.out.trans hb5); clear hO5 hb5)
          go_roundg (gk - 1)
          case measure => omega
          case rel => exact ⟨k + 1, (o ++ [(f, bt, vi)]), false, by go_num, by first | rfl | simp, by have := HK.out; omega, Lib.hid (by first | exact O5.out | (have := O5.out; simpa using this)), Lib.hid (by rw [take_snoc (by rw [HN.out]; exact hkn), List.foldl_append, HF.out, HENT.out]; simp only [List.foldl_cons, List.foldl_nil, putStep, HCV.out]; simp [hc00, hngeP]), BB5⟩
        · have hge : decide (0 ≤ c) = true := decide_eq_true (by omega)
          have hne : (c != 0) = false := by simp [hsign]
          have hgeP : 0 ≤ c := by omega
          have HSG := Lib.hid hsign
          clear hsign
          go_wp2_with fail
          refine wp_region_noPanic ?_
          refine wp_region_held_drew (S := (fun w' => w'.cell? ⟨b, off + k * 3, none⟩ = some (.int .i64 f) ∧ w'.cell? ⟨b, off + k * 3 + 1, none⟩ = some (.int .i64 bt) ∧ w'.cell? ⟨w.heap.size, 0, none⟩ = some (.int .i64 ef) ∧ w'.cell? ⟨w.heap.size, 1, none⟩ = some (.int .i64 eb))) (by kernel_rfl) (by simp [go_sem, *]) (fun hHeld => ?_)
          refine tkT (i := 0) (h := ?_)
          (try simp only [Act.put, pB, pC, pD])
          refine tkT (i := 1) (h := ?_)
          (try simp only [Act.put, pB, pC, pD])
          refine tkT (i := 2) (h := ?_)
          (try simp only [Act.put, pB, pC, pD])
          refine tkT (i := 3) (h := ?_)
          (try simp only [Act.put, pB, pC, pD])
          refine tkT (i := 4) (h := ?_)
          (try simp only [Act.put, pB, pC, pD])
          refine tkT (i := 5) (h := ?_)
          (try simp only [Act.put, pB, pC, pD])
          refine tkT (i := 6) (h := ?_)
          (try simp only [Act.put, pB, pC, pD])
          refine wpAnyH_ready (rs := [7]) (by kernel_rfl) (by simp) ?_
          refine AllReadyH.cons (by (simp only [List.getElem?_toArray, List.getElem?_cons_succ, List.getElem?_cons_zero]) <;> rfl) (fun K hK => ?_) AllReadyH.nil
          go_simp
          (go_at_call 75; refine (HCM.out _).mono ?_; rintro r w1 ⟨rfl, hb1⟩; have hB1 : Below wr.heap.size wr w1 := (by refine Below.trans ?_ (hb1.mono (by first | exact Nat.le_refl _ | omega | (simp; done) | (simp; omega))); exact bw); have O1 := Lib.hid (O.out.below hB1); have B1 := Box3.below B0 hB1 B0.size; have bx0 := B1.c0; have bx1 := B1.c1; have bx2 := B1.c2; have hs1 : w.heap.size + 1 ≤ w1.heap.size := (by have := hB1.size; omega); have x0 := (hB1.cell (p := ⟨b, off + k * 3, none⟩) hbb).trans c0; have x1 := (hB1.cell (p := ⟨b, off + k * 3 + 1, none⟩) hbb).trans c1; have x2 := (hB1.cell (p := ⟨b, off + k * 3 + 2, none⟩) hbb).trans c2; have BB := Lib.hid (hb.out.trans (hB1.mono (by have := hb.out.size; simp at this; omega))); clear hb1)
          refine hK.out _ _ (by simp [go_sem, *]) (fun hHeld => ?_)
          (try simp only [Act.put, pB, pC, pD])
          refine tkT (i := 8) (h := ?_)
          (try simp only [Act.put, pB, pC, pD])
          refine wpAnyH_done (by kernel_rfl) ?_ _
          refine NoPanic.normal ?_
          go_wp2_with (at_builtin; refine wpList_append_ent rfl (.tmp 30) (.tmp 32) rfl (w.heap.size + 1) _ o (ef, eb, ev) rfl O1.out rfl (by have := HOL.out; omega) hs1 ?_; intro va vc w4 hO4 hb4 hs4; have O4 := Lib.hid hO4; have y0 := hE.out w4 (BB.out.trans hb4) _ rfl; obtain ⟨y0, y1, y2⟩ := y0; have hs4' : w.heap.size + 1 ≤ w4.heap.size := Nat.le_trans hs1 hs4; have BB4 := Lib.hid (BB.out.trans hb4); clear hO4 hb4)
          go_roundg (gk - 1)
          case measure => omega
          case rel => exact ⟨k + 1, (o ++ [(ef, eb, ev)]), true, by go_num, by first | rfl | simp, by have := HK.out; omega, Lib.hid (by first | exact O4.out | (have := O4.out; simpa using this)), Lib.hid (by rw [take_snoc (by rw [HN.out]; exact hkn), List.foldl_append, HF.out, HENT.out]; simp only [List.foldl_cons, List.foldl_nil, putStep, HCV.out]; simp [HSG.out]), BB4⟩
        · have hge : decide (0 ≤ c) = true := decide_eq_true (by omega)
          have hne : (c != 0) = true := by simp; omega
          have hc00 : c ≠ 0 := by omega
          have hgeP : 0 ≤ c := by omega
          have HSG := Lib.hid hsign
          clear hsign
          go_wp2_with fail
          refine wp_region_noPanic ?_
          refine wp_region_held_drew (S := (fun w' => w'.cell? ⟨b, off + k * 3, none⟩ = some (.int .i64 f) ∧ w'.cell? ⟨b, off + k * 3 + 1, none⟩ = some (.int .i64 bt) ∧ w'.cell? ⟨w.heap.size, 0, none⟩ = some (.int .i64 ef) ∧ w'.cell? ⟨w.heap.size, 1, none⟩ = some (.int .i64 eb))) (by kernel_rfl) (by simp [go_sem, *]) (fun hHeld => ?_)
          refine tkT (i := 0) (h := ?_)
          (try simp only [Act.put, pB, pC, pD])
          refine tkT (i := 1) (h := ?_)
          (try simp only [Act.put, pB, pC, pD])
          refine tkT (i := 2) (h := ?_)
          (try simp only [Act.put, pB, pC, pD])
          refine tkT (i := 3) (h := ?_)
          (try simp only [Act.put, pB, pC, pD])
          refine tkT (i := 4) (h := ?_)
          (try simp only [Act.put, pB, pC, pD])
          refine tkT (i := 5) (h := ?_)
          (try simp only [Act.put, pB, pC, pD])
          refine tkT (i := 6) (h := ?_)
          (try simp only [Act.put, pB, pC, pD])
          refine wpAnyH_ready (rs := [7]) (by kernel_rfl) (by simp) ?_
          refine AllReadyH.cons (by (simp only [List.getElem?_toArray, List.getElem?_cons_succ, List.getElem?_cons_zero]) <;> rfl) (fun K hK => ?_) AllReadyH.nil
          go_simp
          (go_at_call 75; refine (HCM.out _).mono ?_; rintro r w1 ⟨rfl, hb1⟩; have hB1 : Below wr.heap.size wr w1 := (by refine Below.trans ?_ (hb1.mono (by first | exact Nat.le_refl _ | omega | (simp; done) | (simp; omega))); exact bw); have O1 := Lib.hid (O.out.below hB1); have B1 := Box3.below B0 hB1 B0.size; have bx0 := B1.c0; have bx1 := B1.c1; have bx2 := B1.c2; have hs1 : w.heap.size + 1 ≤ w1.heap.size := (by have := hB1.size; omega); have x0 := (hB1.cell (p := ⟨b, off + k * 3, none⟩) hbb).trans c0; have x1 := (hB1.cell (p := ⟨b, off + k * 3 + 1, none⟩) hbb).trans c1; have x2 := (hB1.cell (p := ⟨b, off + k * 3 + 2, none⟩) hbb).trans c2; have BB := Lib.hid (hb.out.trans (hB1.mono (by have := hb.out.size; simp at this; omega))); clear hb1)
          refine hK.out _ _ (by simp [go_sem, *]) (fun hHeld => ?_)
          (try simp only [Act.put, pB, pC, pD])
          refine tkT (i := 8) (h := ?_)
          (try simp only [Act.put, pB, pC, pD])
          refine wpAnyH_done (by kernel_rfl) ?_ _
          refine NoPanic.normal ?_
          go_wp2_with (first | (at_builtin; refine wpList_append_ent rfl (.tmp 30) (.tmp 32) rfl (w.heap.size + 1) _ o (ef, eb, ev) rfl O1.out rfl (by have := HOL.out; omega) hs1 ?_; intro va vc w4 hO4 hb4 hs4; have O4 := Lib.hid hO4; have y0 := hE.out w4 (BB.out.trans hb4) _ rfl; obtain ⟨y0, y1, y2⟩ := y0; have hs4' : w.heap.size + 1 ≤ w4.heap.size := Nat.le_trans hs1 hs4; have BB4 := Lib.hid (BB.out.trans hb4); clear hO4 hb4) | (at_builtin; refine wpList_append_ent rfl (.tmp 36) (.tmp 41) rfl (w.heap.size + 1) _ (o ++ [(ef, eb, ev)]) (f, bt, vi) rfl O4.out rfl (by have := HOL.out; (try rw [List.length_append]); (try rw [List.length_singleton]); omega) hs4' ?_; intro va5 vc5 w5 hO5 hb5 hs5; have O5 := Lib.hid hO5; have BB5 := Lib.hid (BB4.out.trans hb5); clear hO5 hb5))
          go_roundg (gk - 1)
          case measure => omega
          case rel => exact ⟨k + 1, ((o ++ [(ef, eb, ev)]) ++ [(f, bt, vi)]), true, by go_num, by first | rfl | simp, by have := HK.out; omega, Lib.hid (by first | exact O5.out | (have := O5.out; simpa using this)), Lib.hid (by rw [take_snoc (by rw [HN.out]; exact hkn), List.foldl_append, HF.out, HENT.out]; simp only [List.foldl_cons, List.foldl_nil, putStep, HCV.out]; simp [hgeP, hc00]), BB5⟩
      · rcases Int.lt_trichotomy c 0 with hsign | hsign | hsign
        · have hc0 : c < 0 := hsign
          have hge : decide (0 ≤ c) = false := decide_eq_false (by omega)
          have hne : (c != 0) = true := by simp; omega
          have hc00 : c ≠ 0 := by omega
          have hngeP : ¬ 0 ≤ c := by omega
          have HSG := Lib.hid hsign
          clear hsign
          go_wp2_with fail
          refine wp_region_noPanic ?_
          refine wp_region_held_drew (S := (fun w' => w'.cell? ⟨b, off + k * 3, none⟩ = some (.int .i64 f) ∧ w'.cell? ⟨b, off + k * 3 + 1, none⟩ = some (.int .i64 bt) ∧ w'.cell? ⟨w.heap.size, 0, none⟩ = some (.int .i64 ef) ∧ w'.cell? ⟨w.heap.size, 1, none⟩ = some (.int .i64 eb))) (by kernel_rfl) (by simp [go_sem, *]) (fun hHeld => ?_)
          refine tkT (i := 0) (h := ?_)
          (try simp only [Act.put, pB, pC, pD])
          refine tkT (i := 1) (h := ?_)
          (try simp only [Act.put, pB, pC, pD])
          refine tkT (i := 2) (h := ?_)
          (try simp only [Act.put, pB, pC, pD])
          refine tkT (i := 3) (h := ?_)
          (try simp only [Act.put, pB, pC, pD])
          refine tkT (i := 4) (h := ?_)
          (try simp only [Act.put, pB, pC, pD])
          refine tkT (i := 5) (h := ?_)
          (try simp only [Act.put, pB, pC, pD])
          refine tkT (i := 6) (h := ?_)
          (try simp only [Act.put, pB, pC, pD])
          refine wpAnyH_ready (rs := [7]) (by kernel_rfl) (by simp) ?_
          refine AllReadyH.cons (by (simp only [List.getElem?_toArray, List.getElem?_cons_succ, List.getElem?_cons_zero]) <;> rfl) (fun K hK => ?_) AllReadyH.nil
          go_simp
          (go_at_call 75; refine (HCM.out _).mono ?_; rintro r w1 ⟨rfl, hb1⟩; have hB1 : Below wr.heap.size wr w1 := (by refine Below.trans ?_ (hb1.mono (by first | exact Nat.le_refl _ | omega | (simp; done) | (simp; omega))); exact bw); have O1 := Lib.hid (O.out.below hB1); have B1 := Box3.below B0 hB1 B0.size; have bx0 := B1.c0; have bx1 := B1.c1; have bx2 := B1.c2; have hs1 : w.heap.size + 1 ≤ w1.heap.size := (by have := hB1.size; omega); have x0 := (hB1.cell (p := ⟨b, off + k * 3, none⟩) hbb).trans c0; have x1 := (hB1.cell (p := ⟨b, off + k * 3 + 1, none⟩) hbb).trans c1; have x2 := (hB1.cell (p := ⟨b, off + k * 3 + 2, none⟩) hbb).trans c2; have BB := Lib.hid (hb.out.trans (hB1.mono (by have := hb.out.size; simp at this; omega))); clear hb1)
          refine hK.out _ _ (by simp [go_sem, *]) (fun hHeld => ?_)
          (try simp only [Act.put, pB, pC, pD])
          refine tkT (i := 8) (h := ?_)
          (try simp only [Act.put, pB, pC, pD])
          refine wpAnyH_done (by kernel_rfl) ?_ _
          refine NoPanic.normal ?_
          go_wp2_with (at_builtin; refine wpList_append_ent rfl (.tmp 36) (.tmp 41) rfl (w.heap.size + 1) _ o (f, bt, vi) rfl O1.out rfl (by have := HOL.out; (try rw [List.length_append]); (try rw [List.length_singleton]); omega) hs1 ?_; intro va5 vc5 w5 hO5 hb5 hs5; have O5 := Lib.hid hO5; have BB5 := Lib.hid (BB.out.trans hb5); clear hO5 hb5)
          go_roundg (gk - 1)
          case measure => omega
          case rel => exact ⟨k + 1, (o ++ [(f, bt, vi)]), true, by go_num, by first | rfl | simp, by have := HK.out; omega, Lib.hid (by first | exact O5.out | (have := O5.out; simpa using this)), Lib.hid (by rw [take_snoc (by rw [HN.out]; exact hkn), List.foldl_append, HF.out, HENT.out]; simp only [List.foldl_cons, List.foldl_nil, putStep, HCV.out]; simp [hc00]), BB5⟩
        · have hge : decide (0 ≤ c) = true := decide_eq_true (by omega)
          have hne : (c != 0) = false := by simp [hsign]
          have hgeP : 0 ≤ c := by omega
          have HSG := Lib.hid hsign
          clear hsign
          go_wp2_with fail
          refine wp_region_noPanic ?_
          refine wp_region_held_drew (S := (fun w' => w'.cell? ⟨b, off + k * 3, none⟩ = some (.int .i64 f) ∧ w'.cell? ⟨b, off + k * 3 + 1, none⟩ = some (.int .i64 bt) ∧ w'.cell? ⟨w.heap.size, 0, none⟩ = some (.int .i64 ef) ∧ w'.cell? ⟨w.heap.size, 1, none⟩ = some (.int .i64 eb))) (by kernel_rfl) (by simp [go_sem, *]) (fun hHeld => ?_)
          refine tkT (i := 0) (h := ?_)
          (try simp only [Act.put, pB, pC, pD])
          refine tkT (i := 1) (h := ?_)
          (try simp only [Act.put, pB, pC, pD])
          refine tkT (i := 2) (h := ?_)
          (try simp only [Act.put, pB, pC, pD])
          refine tkT (i := 3) (h := ?_)
          (try simp only [Act.put, pB, pC, pD])
          refine tkT (i := 4) (h := ?_)
          (try simp only [Act.put, pB, pC, pD])
          refine tkT (i := 5) (h := ?_)
          (try simp only [Act.put, pB, pC, pD])
          refine tkT (i := 6) (h := ?_)
          (try simp only [Act.put, pB, pC, pD])
          refine wpAnyH_ready (rs := [7]) (by kernel_rfl) (by simp) ?_
          refine AllReadyH.cons (by (simp only [List.getElem?_toArray, List.getElem?_cons_succ, List.getElem?_cons_zero]) <;> rfl) (fun K hK => ?_) AllReadyH.nil
          go_simp
          (go_at_call 75; refine (HCM.out _).mono ?_; rintro r w1 ⟨rfl, hb1⟩; have hB1 : Below wr.heap.size wr w1 := (by refine Below.trans ?_ (hb1.mono (by first | exact Nat.le_refl _ | omega | (simp; done) | (simp; omega))); exact bw); have O1 := Lib.hid (O.out.below hB1); have B1 := Box3.below B0 hB1 B0.size; have bx0 := B1.c0; have bx1 := B1.c1; have bx2 := B1.c2; have hs1 : w.heap.size + 1 ≤ w1.heap.size := (by have := hB1.size; omega); have x0 := (hB1.cell (p := ⟨b, off + k * 3, none⟩) hbb).trans c0; have x1 := (hB1.cell (p := ⟨b, off + k * 3 + 1, none⟩) hbb).trans c1; have x2 := (hB1.cell (p := ⟨b, off + k * 3 + 2, none⟩) hbb).trans c2; have BB := Lib.hid (hb.out.trans (hB1.mono (by have := hb.out.size; simp at this; omega))); clear hb1)
          refine hK.out _ _ (by simp [go_sem, *]) (fun hHeld => ?_)
          (try simp only [Act.put, pB, pC, pD])
          refine tkT (i := 8) (h := ?_)
          (try simp only [Act.put, pB, pC, pD])
          refine wpAnyH_done (by kernel_rfl) ?_ _
          refine NoPanic.normal ?_
          go_wp2_with fail
          go_roundg (gk - 1)
          case measure => omega
          case rel => exact ⟨k + 1, o, true, by go_num, by first | rfl | simp, by have := HK.out; omega, Lib.hid (by first | exact O1.out | (have := O1.out; simpa using this)), Lib.hid (by rw [take_snoc (by rw [HN.out]; exact hkn), List.foldl_append, HF.out, HENT.out]; simp only [List.foldl_cons, List.foldl_nil, putStep, HCV.out]; simp [HSG.out]), BB⟩
        · have hge : decide (0 ≤ c) = true := decide_eq_true (by omega)
          have hne : (c != 0) = true := by simp; omega
          have hc00 : c ≠ 0 := by omega
          have hgeP : 0 ≤ c := by omega
          have HSG := Lib.hid hsign
          clear hsign
          go_wp2_with fail
          refine wp_region_noPanic ?_
          refine wp_region_held_drew (S := (fun w' => w'.cell? ⟨b, off + k * 3, none⟩ = some (.int .i64 f) ∧ w'.cell? ⟨b, off + k * 3 + 1, none⟩ = some (.int .i64 bt) ∧ w'.cell? ⟨w.heap.size, 0, none⟩ = some (.int .i64 ef) ∧ w'.cell? ⟨w.heap.size, 1, none⟩ = some (.int .i64 eb))) (by kernel_rfl) (by simp [go_sem, *]) (fun hHeld => ?_)
          refine tkT (i := 0) (h := ?_)
          (try simp only [Act.put, pB, pC, pD])
          refine tkT (i := 1) (h := ?_)
          (try simp only [Act.put, pB, pC, pD])
          refine tkT (i := 2) (h := ?_)
          (try simp only [Act.put, pB, pC, pD])
          refine tkT (i := 3) (h := ?_)
          (try simp only [Act.put, pB, pC, pD])
          refine tkT (i := 4) (h := ?_)
          (try simp only [Act.put, pB, pC, pD])
          refine tkT (i := 5) (h := ?_)
          (try simp only [Act.put, pB, pC, pD])
          refine tkT (i := 6) (h := ?_)
          (try simp only [Act.put, pB, pC, pD])
          refine wpAnyH_ready (rs := [7]) (by kernel_rfl) (by simp) ?_
          refine AllReadyH.cons (by (simp only [List.getElem?_toArray, List.getElem?_cons_succ, List.getElem?_cons_zero]) <;> rfl) (fun K hK => ?_) AllReadyH.nil
          go_simp
          (go_at_call 75; refine (HCM.out _).mono ?_; rintro r w1 ⟨rfl, hb1⟩; have hB1 : Below wr.heap.size wr w1 := (by refine Below.trans ?_ (hb1.mono (by first | exact Nat.le_refl _ | omega | (simp; done) | (simp; omega))); exact bw); have O1 := Lib.hid (O.out.below hB1); have B1 := Box3.below B0 hB1 B0.size; have bx0 := B1.c0; have bx1 := B1.c1; have bx2 := B1.c2; have hs1 : w.heap.size + 1 ≤ w1.heap.size := (by have := hB1.size; omega); have x0 := (hB1.cell (p := ⟨b, off + k * 3, none⟩) hbb).trans c0; have x1 := (hB1.cell (p := ⟨b, off + k * 3 + 1, none⟩) hbb).trans c1; have x2 := (hB1.cell (p := ⟨b, off + k * 3 + 2, none⟩) hbb).trans c2; have BB := Lib.hid (hb.out.trans (hB1.mono (by have := hb.out.size; simp at this; omega))); clear hb1)
          refine hK.out _ _ (by simp [go_sem, *]) (fun hHeld => ?_)
          (try simp only [Act.put, pB, pC, pD])
          refine tkT (i := 8) (h := ?_)
          (try simp only [Act.put, pB, pC, pD])
          refine wpAnyH_done (by kernel_rfl) ?_ _
          refine NoPanic.normal ?_
          go_wp2_with (at_builtin; refine wpList_append_ent rfl (.tmp 36) (.tmp 41) rfl (w.heap.size + 1) _ o (f, bt, vi) rfl O1.out rfl (by have := HOL.out; (try rw [List.length_append]); (try rw [List.length_singleton]); omega) hs1 ?_; intro va5 vc5 w5 hO5 hb5 hs5; have O5 := Lib.hid hO5; have BB5 := Lib.hid (BB.out.trans hb5); clear hO5 hb5)
          go_roundg (gk - 1)
          case measure => omega
          case rel => exact ⟨k + 1, (o ++ [(f, bt, vi)]), true, by go_num, by first | rfl | simp, by have := HK.out; omega, Lib.hid (by first | exact O5.out | (have := O5.out; simpa using this)), Lib.hid (by rw [take_snoc (by rw [HN.out]; exact hkn), List.foldl_append, HF.out, HENT.out]; simp only [List.foldl_cons, List.foldl_nil, putStep, HCV.out]; simp [hgeP, hc00]), BB5⟩
end Go.Proofs.YtnecdeaikmhanaaGreatDoor
namespace Go.Proofs.YtnecdeaikmhanaaGreatDoor
open Go.RowKit
set_option linter.unusedVariables false
theorem owns_blk {w w' : World} {lo n size : Nat} {T : TypeId} {v : Value} {us : List Value} (h : w.ownsRow lo T size v n us) (hb : ∀ g cur, lo ≤ g → w.heap[g]? = some (.cells cur T (0, 0)) → w'.heap[g]? = w.heap[g]?) : w'.ownsRow lo T size v n us := by
  refine ⟨h.1, ?_⟩
  rcases h.2 with h' | ⟨g, cap, cur, h1, h2, h3, h4⟩
  · exact .inl h'
  · exact .inr ⟨g, cap, cur, h1, h2, (hb g cur h2 h3).trans h3, h4⟩
theorem owns_lift {w : World} {lo lo' n size : Nat} {T : TypeId} {v : Value} {us : List Value} (h : w.ownsRow lo T size v n us) (hl : lo' ≤ lo) : w.ownsRow lo' T size v n us := by
  refine ⟨h.1, ?_⟩
  rcases h.2 with h' | ⟨g, cap, cur, h1, h2, h3⟩
  · exact .inl h'
  · exact .inr ⟨g, cap, cur, h1, Nat.le_trans hl h2, h3⟩
end Go.Proofs.YtnecdeaikmhanaaGreatDoor
namespace Go.Proofs.YtnecdeaikmhanaaGreatDoor
open Go.RowKit
set_option linter.unusedVariables false
section
variable {k : Nat} {a : Option Addr} {len' cap : Nat} {zs : List Int} {w W W' : World} {q m n : Nat} {v : Value}
end
theorem lit_any (W : World) (u : Value) (T : TypeId) : SliceAt (W.alloc (.cells #[u] T)) (.slice (some ⟨W.heap.size, 0, none⟩) 1 1) 1 (fun _ => u) :=
  ⟨_, 1, rfl, Nat.le_refl _, by unfold maxLen; omega, .inr ⟨W.heap.size, 0, rfl, by simp, fun i hi => by
    obtain rfl : i = 0 := by omega
    simp⟩⟩
theorem info_r2 : (Tryz.prog.info? 37).map (fun i => (i.zero, i.size, i.bytes)) = some (some (.slice none 0 0), 1, 24) := by kernel_rfl
end Go.Proofs.YtnecdeaikmhanaaGreatDoor
namespace Go.Proofs.YtnecdeaikmhanaaGreatDoor
open Go.RowKit
set_option linter.unusedVariables false
def RowsL (w : World) (lo : Nat) (v : Value) (ll : List (List Int)) : Prop :=
  ∃ vs, vs.length = ll.length ∧ w.ownsRow lo 37 1 v ll.length vs ∧ ∀ i, i < ll.length → OwnInts w lo (vs.getD i undef) (ll.getD i [])
theorem RowsL.below {w w' : World} {lo : Nat} {v : Value} {ll : List (List Int)} (h : RowsL w lo v ll) (hb : Below w.heap.size w w') : RowsL w' lo v ll := by
  obtain ⟨vs, h1, h2, h3⟩ := h
  exact ⟨vs, h1, owns_belowR h2 hb, fun i hi => (h3 i hi).below hb⟩
theorem RowsL.lift {w : World} {lo lo' : Nat} {v : Value} {ll : List (List Int)} (h : RowsL w lo v ll) (hl : lo' ≤ lo) : RowsL w lo' v ll := by
  obtain ⟨vs, h1, h2, h3⟩ := h
  exact ⟨vs, h1, owns_lift h2 hl, fun i hi => (h3 i hi).lift hl⟩
theorem RowsL.form {w : World} {lo : Nat} {v : Value} {ll : List (List Int)} (h : RowsL w lo v ll) : ∃ a cap, v = .slice a ll.length cap ∧ ll.length ≤ cap ∧ cap ≤ 9223372036854775807 := by
  obtain ⟨vs, h1, h2, h3⟩ := h; exact owns_form h2
theorem RowsL.rows {w : World} {lo : Nat} {v : Value} {ll : List (List Int)} (h : RowsL w lo v ll) : RowsAt w v ll := by
  obtain ⟨vs, h1, h2, h3⟩ := h
  refine ⟨fun i => vs.getD i undef, ?_, fun i hi => (h3 i hi).ints⟩
  rcases h2.2 with ⟨rfl, h'⟩ | ⟨g, cap, cur, rfl, hb, hg, hnc, hcm, hcs, htake⟩
  · exact ⟨none, 0, by rw [h'], by omega, Nat.zero_le _, .inl h'⟩
  · refine ⟨_, cap, rfl, hnc, hcm, .inr ⟨g, 0, rfl, heap_lt hg, fun i hi => ?_⟩⟩
    rw [Nat.zero_add, h2.cellAt i (by omega)]
    show vs[i]? = some (vs.getD i undef)
    rw [List.getD_eq_getElem?_getD, List.getElem?_eq_getElem (by omega)]; rfl
theorem RowsL.zero (w : World) : RowsL (w.alloc (.cells #[] 37)) w.heap.size (.slice (some ⟨w.heap.size, 0, none⟩) 0 0) [] :=
  ⟨[], rfl, World.ownsRow_lit (base := w.heap.size) (e := 37) (size := 1) w #[] 0 (Nat.le_refl _) (by simp [maxLen]) rfl, fun i hi => by simp at hi⟩
theorem OwnInts.zero (w : World) : OwnInts (w.alloc (.cells #[] 3)) w.heap.size (.slice (some ⟨w.heap.size, 0, none⟩) 0 0) [] :=
  World.ownsRow_lit (base := w.heap.size) (e := 3) (size := 1) w #[] 0 (Nat.le_refl _) (by simp [maxLen]) rfl
theorem OwnInts.one (w : World) (x : Int) : OwnInts (w.alloc (.cells #[.int .i64 x] 3)) w.heap.size (.slice (some ⟨w.heap.size, 0, none⟩) 1 1) [x] :=
  World.ownsRow_lit (base := w.heap.size) (e := 3) (size := 1) w #[.int .i64 x] 1 (Nat.le_refl _) (by simp [maxLen]) rfl
theorem range_map (l : List Int) : ((List.range l.length).map fun i => Value.int .i64 (l.getD i 0)) = l.map (Value.int .i64) := by
  apply List.ext_getElem
  · simp
  · intro i h1 h2
    simp at h1
    simp [List.getElem?_eq_getElem h1]
theorem OwnInts.grown {w w' : World} {lo : Nat} {u v : Value} {l : List Int} {lo' n : Nat} {vs : List Value} (h : OwnInts w lo u l) (h2 : w.ownsRow lo' 37 1 v n vs) (hg : w.grownBy w' v.ownBlock) : OwnInts w' lo u l :=
  owns_blk h (fun g cur _ hc => hg.block g (heap_lt hc) (by
    intro e
    rcases h2.2 with ⟨rfl, _⟩ | ⟨g', cap, cur', rfl, _, hg', _⟩
    · cases e
    · simp [Value.ownBlock] at e
      subst e
      rw [hg'] at hc
      simp at hc))
theorem RowsL.push {w w' : World} {lo m : Nat} {v v' u : Value} {ll : List (List Int)} {l : List Int} {vs : List Value} (h1 : vs.length = ll.length) (hm : ll.length = m) (h2 : w.ownsRow lo 37 1 v m vs) (h3 : ∀ i, i < m → OwnInts w lo (vs.getD i undef) (ll.getD i [])) (hu : OwnInts w lo u l)
    (hg : w.grownBy w' v.ownBlock) (hown : w'.ownsRow lo 37 1 v' (m + 1) (vs ++ [u])) : RowsL w' lo v' (ll ++ [l]) := by
  have e0 : (ll ++ [l]).length = m + 1 := by simp [hm]
  refine ⟨vs ++ [u], by simp [h1], by rw [e0]; exact hown, fun i hi => ?_⟩
  rw [e0] at hi
  by_cases him : i < m
  · have e : (vs ++ [u]).getD i undef = vs.getD i undef := by simp only [List.getD_eq_getElem?_getD]; rw [List.getElem?_append_left (by omega)]
    have e2 : (ll ++ [l]).getD i [] = ll.getD i [] := by simp only [List.getD_eq_getElem?_getD]; rw [List.getElem?_append_left (by omega)]
    rw [e, e2]; exact (h3 i him).grown h2 hg
  · obtain rfl : i = m := by omega
    have e : (vs ++ [u]).getD i undef = u := by simp only [List.getD_eq_getElem?_getD]; rw [List.getElem?_append_right (by omega), h1, hm]; simp
    have e2 : (ll ++ [l]).getD i [] = l := by simp only [List.getD_eq_getElem?_getD]; rw [List.getElem?_append_right (by omega), hm]; simp
    rw [e, e2]; exact hu.grown h2 hg
variable {W : World}
theorem wpList_append_ints {ops : Array Oper} {rest : List Oper} {o : Oper} {a : Act} {Q : Exit → Act → World → Prop} (hgd : o.guard = none) (s x : Operand)
    (ho : o.op = .call { callee := .builtin .append, args := #[s, x], argTypes := #[37, 37] })
    (B : Nat) (v sv : Value) (pre l : List Int) (N : Nat) (hN : pre.length + l.length = N) (hs : a.eval s = v) (hO : OwnInts W B v pre) (hB : B ≤ W.heap.size) (hx : a.eval x = sv) (hl : IntsAt W sv l) (hlen : N ≤ 1000000)
    (h : ∀ ad c w', OwnInts w' B (.slice ad N c) (pre ++ l) → Below B W w' → w'.heap.size ≥ W.heap.size → wpList Tryz.prog ops Q rest (a.put o.dst (.slice ad N c)) w') : wpList Tryz.prog ops Q (o :: rest) a W := by
  obtain ⟨i0, hi, hz0, hz1, hz2⟩ := info_parts info_intR
  have hO' : W.ownsRow B 3 1 v pre.length (pre.map (Value.int .i64)) := hO
  refine wpList_append_src hgd s x 37 ho B 3 i0 (.int .i64 0) 8 Tryz.underlying37 hi hz0 hz1 hz2 rfl v pre.length (pre.map (Value.int .i64)) hs hO' sv l.length _ hx hl (fun j hj => rfl) (by unfold maxLen; omega) (by omega) hB ?_
  intro v' w' hown hgrow
  rw [range_map] at hown
  have hO2 : OwnInts w' B v' (pre ++ l) := by
    unfold OwnInts
    rw [List.map_append, List.length_append]; exact hown
  obtain ⟨ad, c, rfl, _, _⟩ := hO2.form
  rw [List.length_append, hN] at hO2 ⊢
  have hb : Below B W w' := Below.grown (Below.refl _ _) hgrow hB (fun g hg => (World.ownsRow.lt hO' g hg).1)
  exact h ad c w' hO2 hb hgrow.size
theorem wpList_append_row {ops : Array Oper} {rest : List Oper} {o : Oper} {a : Act} {Q : Exit → Act → World → Prop} (hgd : o.guard = none) (s x : Operand)
    (ho : o.op = .call { callee := .builtin .append, args := #[s, x], argTypes := #[33, 33] })
    (B : Nat) (v u : Value) (ll : List (List Int)) (l : List Int) (N : Nat) (hN : ll.length = N) (hs : a.eval s = v) (hO : RowsL W B v ll) (hB : B ≤ W.heap.size) (g : Nat) (hx : a.eval x = .slice (some ⟨g, 0, none⟩) 1 1) (hgW : g = W.heap.size) (hu : OwnInts W B u l) (hu1 : ∃ ad n c, u = .slice ad n c) (hlen : N ≤ 1000000)
    (h : ∀ ad c w', RowsL w' B (.slice ad (N + 1) c) (ll ++ [l]) → Below B W w' → w'.heap.size ≥ W.heap.size → wpList Tryz.prog ops Q rest (a.put o.dst (.slice ad (N + 1) c)) w') : wpList Tryz.prog ops Q (o :: rest) a (W.alloc (.cells #[u] 37)) := by
  obtain ⟨i2, hi2, hy0, hy1, hy2⟩ := info_parts info_r2
  subst hN
  subst hgW
  obtain ⟨vs, h1, h2, h3⟩ := hO
  have hA := Below.alloc (Below.refl W.heap.size W) (Nat.le_refl _) (.cells #[u] 37)
  refine wpList_append_src hgd s x 33 ho B 37 i2 (.slice none 0 0) 24 Tryz.underlying33 hi2 hy0 hy1 hy2 rfl v ll.length vs hs (owns_belowR h2 hA) (.slice (some ⟨W.heap.size, 0, none⟩) 1 1) 1 (fun _ => u) hx (lit_any W u 37) (fun j hj => by obtain ⟨ad, n, c, rfl⟩ := hu1; rfl) (by unfold maxLen; omega) (by omega) (by simp; omega) ?_
  intro v' w' hown hgrow
  have hR := RowsL.push h1 rfl (owns_belowR h2 hA) (fun i hi => (h3 i hi).below hA) (hu.below hA) hgrow hown
  obtain ⟨ad, c, rfl, _, _⟩ := hR.form
  rw [List.length_append] at hR ⊢
  exact h ad c w' hR (Below.grown (Below.alloc (Below.refl _ _) hB _) hgrow (by simp; omega) (fun g hg => (World.ownsRow.lt h2 g hg).1)) (by have := hgrow.size; simp at this; omega)
end Go.Proofs.YtnecdeaikmhanaaGreatDoor
namespace Go.Proofs.YtnecdeaikmhanaaGreatDoor
open Go.RowKit
set_option linter.unusedVariables false
def HomNew (w : World) (lo : Nat) (v : Value) (l : List Ent) : Prop :=
  ∃ xs, w.ownsRow lo 83 3 v l.length xs ∧ ∀ i, i < l.length → xs.getD (i * 3) undef = .int .i64 (l.getD i (0, 0, 0)).1 ∧ xs.getD (i * 3 + 1) undef = .int .i64 (l.getD i (0, 0, 0)).2.1 ∧ xs.getD (i * 3 + 2) undef = .int .i64 (l.getD i (0, 0, 0)).2.2
theorem HomNew.below {W w1 : World} {B : Nat} {v : Value} {l : List Ent} (h : HomNew W B v l) (hb : Below W.heap.size W w1) : HomNew w1 B v l := by
  obtain ⟨xs, h1, h2⟩ := h
  exact ⟨xs, owns_belowR h1 hb, h2⟩
theorem HomNew.kept {W w1 : World} {g : Nat} {v : Value} {l : List Ent} (h : HomNew W (g + 1) v l) (hg : W.grownBy w1 (some g)) : HomNew w1 (g + 1) v l := by
  obtain ⟨xs, h1, h2⟩ := h
  refine ⟨xs, World.ownsRow.kept h1 hg ?_, h2⟩
  cases hv : v.ownBlock with
  | none => exact .inl rfl
  | some k => right; have := (World.ownsRow.lt h1 k hv).1; intro e; cases e; omega
theorem HomNew.lift {w : World} {B B' : Nat} {v : Value} {l : List Ent} (h : HomNew w B v l) (hb : B' ≤ B) : HomNew w B' v l := by
  obtain ⟨xs, h1, h2⟩ := h
  refine ⟨xs, ⟨h1.1, ?_⟩, h2⟩
  rcases h1.2 with h | ⟨g, cap, cur, h1, h2, h3⟩
  · exact .inl h
  · exact .inr ⟨g, cap, cur, h1, Nat.le_trans hb h2, h3⟩
theorem HomNew.ents {w : World} {B : Nat} {v : Value} {l : List Ent} (h : HomNew w B v l) : EntsAt w v l := by
  obtain ⟨xs, h1, h2⟩ := h
  rcases h1.2 with ⟨rfl, hn⟩ | ⟨g, cap, cur, rfl, hb, hg, hnc, hcm, hcs, htake⟩
  · exact ⟨none, 0, by rw [hn], by omega, Nat.zero_le _, .inl hn⟩
  · have hxl := h1.1
    refine ⟨_, cap, rfl, hnc, hcm, .inr ⟨g, 0, rfl, heap_lt hg, fun i hi => ?_⟩⟩
    obtain ⟨e0, e1, e2⟩ := h2 i hi
    have key : ∀ j, j < l.length * 3 → w.cell? ⟨g, 0 + j, none⟩ = some (xs.getD j undef) := fun j hj => by
      rw [Nat.zero_add, h1.cellAt j (by omega), List.getD_eq_getElem?_getD, List.getElem?_eq_getElem (by omega)]; rfl
    rw [← e0, ← e1, ← e2]
    exact ⟨key _ (by omega), by rw [Nat.add_assoc]; exact key _ (by omega), by rw [Nat.add_assoc]; exact key _ (by omega)⟩
theorem info_h3 : (Tryz.prog.info? 83).map (fun i => (i.zero, i.size, i.bytes)) = some (some (.agg #[.int .i64 0, .int .i64 0, .int .i64 0]), 3, 24) := by kernel_rfl
theorem HomNew.nil (w : World) (lo : Nat) : HomNew w lo (.slice none 0 0) [] := ⟨[], World.ownsRow_nil _ _ _ _, fun i hi => by simp at hi⟩
theorem HomNew.zero (w : World) : HomNew (w.alloc (.cells #[] 83)) w.heap.size (.slice (some ⟨w.heap.size, 0, none⟩) 0 0) [] :=
  ⟨[], World.ownsRow_lit (base := w.heap.size) (e := 83) (size := 3) w #[] 0 (Nat.le_refl _) (by simp [maxLen]) rfl, fun i hi => by simp at hi⟩
theorem HomNew.form {w : World} {lo : Nat} {v : Value} {l : List Ent} (h : HomNew w lo v l) : ∃ a c, v = .slice a l.length c ∧ l.length ≤ c ∧ c ≤ 9223372036854775807 := h.ents.form
theorem HomNew.snoc {w : World} {lo : Nat} {v' : Value} {l : List Ent} {e : Ent} {xs : List Value} (hl : xs.length = l.length * 3)
    (hx : ∀ i, i < l.length → xs.getD (i * 3) undef = .int .i64 (l.getD i (0, 0, 0)).1 ∧ xs.getD (i * 3 + 1) undef = .int .i64 (l.getD i (0, 0, 0)).2.1 ∧ xs.getD (i * 3 + 2) undef = .int .i64 (l.getD i (0, 0, 0)).2.2)
    (h : w.ownsRow lo 83 3 v' (l.length + 1) (xs ++ [.int .i64 e.1, .int .i64 e.2.1, .int .i64 e.2.2])) : HomNew w lo v' (l ++ [e]) := by
  refine ⟨_, by rw [List.length_append, List.length_singleton]; exact h, fun i hi => ?_⟩
  rw [List.length_append, List.length_singleton] at hi
  by_cases hil : i < l.length
  · obtain ⟨e0, e1, e2⟩ := hx i hil
    have q : (l ++ [e]).getD i (0, 0, 0) = l.getD i (0, 0, 0) := by simp only [List.getD_eq_getElem?_getD]; rw [List.getElem?_append_left hil]
    have r : ∀ j, j < xs.length → (xs ++ [Value.int .i64 e.1, Value.int .i64 e.2.1, Value.int .i64 e.2.2]).getD j undef = xs.getD j undef := fun j hj => by simp only [List.getD_eq_getElem?_getD]; rw [List.getElem?_append_left hj]
    rw [q, r _ (by omega), r _ (by omega), r _ (by omega)]
    exact ⟨e0, e1, e2⟩
  · obtain rfl : i = l.length := by omega
    have q : (l ++ [e]).getD l.length (0, 0, 0) = e := by simp
    have r : ∀ j, (xs ++ [Value.int .i64 e.1, Value.int .i64 e.2.1, Value.int .i64 e.2.2]).getD (l.length * 3 + j) undef = ([.int .i64 e.1, .int .i64 e.2.1, .int .i64 e.2.2] : List Value).getD j undef := fun j => by
      simp only [List.getD_eq_getElem?_getD]; rw [List.getElem?_append_right (by omega), ← hl, Nat.add_sub_cancel_left]
    rw [q]
    exact ⟨r 0, r 1, r 2⟩
theorem HomNew.only {w w' : World} {lo k : Nat} {v : Value} {l : List Ent} (h : HomNew w lo v l) (ho : Only k w w') (hk : k < lo) : HomNew w' lo v l := by
  obtain ⟨xs, h1, h2⟩ := h
  exact ⟨xs, owns_blk h1 (fun g cur hg hc => ho.block g (heap_lt hc) (by omega)), h2⟩
theorem EntNew.only {w w' : World} {lo k : Nat} {v : Value} {l : List Ent} (h : EntNew w lo v l) (ho : Only k w w') (hk : k < lo) : EntNew w' lo v l := by
  obtain ⟨xs, h1, h2⟩ := h
  exact ⟨xs, owns_blk h1 (fun g cur hg hc => ho.block g (heap_lt hc) (by omega)), h2⟩
structure HomGrown (W W' : World) (lo : Nat) : Prop where
  os : W'.os = W.os
  tape : W'.tape = W.tape
  output : W'.output = W.output
  size : W.heap.size ≤ W'.heap.size
  block : ∀ g, g < W.heap.size → (g < lo ∨ ∃ cur T, W.heap[g]? = some (.cells cur T (0, 0)) ∧ T ≠ 83) → W'.heap[g]? = W.heap[g]?
theorem EntNew.hom {W W' : World} {lo lo' : Nat} {v : Value} {l : List Ent} (h : EntNew W lo v l) (hg : HomGrown W W' lo') : EntNew W' lo v l := by
  obtain ⟨xs, h1, h2⟩ := h
  exact ⟨xs, owns_blk h1 (fun g cur hgl hc => hg.block g (heap_lt hc) (.inr ⟨cur, _, hc, by decide⟩)), h2⟩
variable {W : World}
end Go.Proofs.YtnecdeaikmhanaaGreatDoor
