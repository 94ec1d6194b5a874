/- spec.SendWay, walked. -/
import Derived.Test.YtnjkifnlimfhnaaDoorWayI
namespace Go.Proofs.YtnjkifnlimfhnaaDoor
open Go.RowKit
set_option linter.unusedVariables false

theorem own_zero (w : World) : OwnInts (w.alloc (.cells #[] 3)) w.heap.size (.slice (some ⟨w.heap.size, 0, none⟩) 0 0) [] :=
  World.ownsRow_lit (base := w.heap.size) (e := 3) (size := 1) w #[] 0 (Nat.le_refl _) (by simp [maxLen]) rfl
set_option maxRecDepth 100000 in
set_option maxHeartbeats 8000000 in
theorem specSendWay_any (v : Value) (ls : List (List Ent)) (h x : Int) (w : World) (hv : TabsAt w v ls) :
    Calls Tryd.prog 14 #[v, .int .i64 h, .int .i64 x] w (WayPost (wayF ls h x) w) := by
  have hok := l42Ok_any v ls w hv
  obtain ⟨i0, hi, hz0, hz1, hz2⟩ := info_parts info_intR
  obtain ⟨a, cap, rfl, hc, hm⟩ := hv.form
  obtain ⟨n, hn⟩ : ∃ n, ls.length = n := ⟨_, rfl⟩
  obtain ⟨R, hR⟩ : ∃ R, wayF ls h x = R := ⟨_, rfl⟩
  rw [hR]
  unfold wayF at hR
  rw [hn] at hok hR hc hv ⊢
  obtain ⟨A, hA⟩ : ∃ A, tablesOkF ls = A := ⟨_, rfl⟩
  obtain ⟨B, hB⟩ : ∃ B, (decide (1 ≤ h) && decide (h ≤ (n : Int))) = B := ⟨_, rfl⟩
  obtain ⟨C, hC⟩ : ∃ C, (decide (0 ≤ x) && decide (x ≤ 255)) = C := ⟨_, rfl⟩
  rw [hA] at hok
  have hin1 : ∀ W, Calls Tryd.prog 33 #[.int .i64 h, .int .i64 1, .int .i64 (n : Int)] W fun e w' => e = .returned (.bool B) ∧ w' = W := fun W => by rw [← hB]; exact in_any _ _ _ W
  have hin2 : ∀ W, Calls Tryd.prog 33 #[.int .i64 x, .int .i64 0, .int .i64 255] W fun e w' => e = .returned (.bool C) ∧ w' = W := fun W => by rw [← hC]; exact in_any _ _ _ W
  have HOK := Lib.hid hok
  have HN := Lib.hid hn
  have HR := Lib.hid hR
  have HA := Lib.hid hA
  have HB := Lib.hid hB
  have HC := Lib.hid hC
  have H := Lib.hid hv
  have HI1 := Lib.hid hin1
  have HI2 := Lib.hid hin2
  clear hok hn hR hA hB hC hv hin1 hin2
  unfold WayPost
  cases A
  · have e := HR.out
    rw [if_neg (by rw [HA.out]; simp)] at e
    subst e
    go_enter Tryd.func14, Tryd.ntmps14
    go_wp2_with (go_at_call 32; refine HOK.out.mono ?_; rintro e w1 ⟨rfl, hb1⟩)
    refine bodyPost_ret (results_tmp2 rfl _ _ _) rfl ?_
    exact ⟨_, rfl, (own_zero w1).lift hb1.size, Below.alloc hb1 hb1.size _⟩
  · cases B
    · have e := HR.out
      rw [if_neg (by have := HB.out; simp at this; omega)] at e
      subst e
      go_enter Tryd.func14, Tryd.ntmps14
      go_wp2_with (first | (go_at_call 32; refine HOK.out.mono ?_; rintro e w1 ⟨rfl, hb1⟩) | (go_at_call 33; refine (HI1.out _).mono ?_; rintro e w1 ⟨rfl, rfl⟩))
      refine bodyPost_ret (results_tmp2 rfl _ _ _) rfl ?_
      exact ⟨_, rfl, (own_zero _).lift hb1.size, Below.alloc hb1 hb1.size _⟩
    · cases C
      · have e := HR.out
        rw [if_neg (by have := HC.out; unfold addrF; rw [this]; simp)] at e
        subst e
        go_enter Tryd.func14, Tryd.ntmps14
        go_wp2_with (first | (go_at_call 32; refine HOK.out.mono ?_; rintro e w1 ⟨rfl, hb1⟩) | (go_at_call_of 33 (Value.int IntKind.i64 x); refine (HI2.out _).mono ?_; rintro e w1 ⟨rfl, rfl⟩) | (go_at_call 33; refine (HI1.out _).mono ?_; rintro e w1 ⟨rfl, rfl⟩))
        refine bodyPost_ret (results_tmp2 rfl _ _ _) rfl ?_
        exact ⟨_, rfl, (own_zero _).lift hb1.size, Below.alloc hb1 hb1.size _⟩
      · have hhb := HB.out
        simp at hhb
        obtain ⟨h1', h2'⟩ := hhb
        have hx : 0 ≤ x ∧ x ≤ 255 := by have := HC.out; simpa using this
        have e := HR.out
        rw [if_pos ⟨HA.out, by omega, by omega, HC.out⟩, ← goS_eq h1' h2'] at e
        have HE := Lib.hid e
        have HX := Lib.hid hx
        clear e hx
        have hl5 := (tablesOk_at HA.out).2.1
        rw [HN.out] at hl5
        go_enter Tryd.func14, Tryd.ntmps14
        go_wp2_with (first | (go_at_call 32; refine HOK.out.mono ?_; rintro e w1 ⟨rfl, hb1⟩; have BB := Lib.hid hb1; clear hb1) | (go_at_call_of 33 (Value.int IntKind.i64 x); refine (HI2.out _).mono ?_; rintro e w1 ⟨rfl, rfl⟩) | (go_at_call 33; refine (HI1.out _).mono ?_; rintro e w1 ⟨rfl, rfl⟩))
        go_loopg [1, 8, 9] (n + 1) (fun gk s1 s8 s9 wr => ∃ (q : Int) (i : Nat) (way : List Int), s1 = .int .i64 q ∧ s9 = .int .i64 (i : Int) ∧ Hid (OwnInts wr w1.heap.size s8 way) ∧ i + gk = n + 1 ∧ way.length = i ∧ 1 ≤ q ∧ q ≤ (n : Int) ∧ Hid (goS (nextF ls x) n gk q way = R) ∧ Hid (Below w1.heap.size w1 wr))
        case atStart => exact ⟨h, 0, [], rfl, rfl, Lib.hid (own_zero _), by omega, rfl, h1', h2', HE, Lib.hid (Below.alloc (Below.refl _ _) (Nat.le_refl _) _)⟩
        case round =>
          obtain ⟨q, L, way, rfl, rfl, hown, hlen, hL, q1, q2, hgo, hb⟩ := hrel
          obtain ⟨wa, wc, e, hwl, hwc⟩ := hown.out.form
          subst e
          rw [hL] at hown hwl ⊢
          have HL := Lib.hid hL
          clear hL
          cases gk with
          | zero =>
            have hdn : ¬ (L : Int) ≤ (n : Int) := by omega
            have e := hgo.out
            have e' : R = (way, false) := e.symm
            subst e'
            go_wp2_with fail
            refine bodyPost_ret (results_tmp2 rfl _ _ _) rfl ?_
            exact ⟨_, rfl, hown.out.lift BB.out.size, BB.out.trans (hb.out.mono BB.out.size)⟩
          | succ k =>
            have hdn : (L : Int) ≤ (n : Int) := by omega
            obtain ⟨j, rfl⟩ : ∃ j : Nat, q = (j : Int) + 1 := ⟨(q - 1).toNat, by omega⟩
            have hjn : j < n := by omega
            have hjI : (j : Int) < (n : Int) := by omega
            have j0 : (0 : Int) ≤ (j : Int) := by omega
            obtain ⟨T, hT⟩ : ∃ T, nextF ls x ((j : Int) + 1) = T := ⟨_, rfl⟩
            have hstep : goS (nextF ls x) n (k + 1) ((j : Int) + 1) way = if T = (j : Int) + 1 then (way ++ [(j : Int) + 1], true) else if T < 1 ∨ (n : Int) < T then (way ++ [(j : Int) + 1], false) else goS (nextF ls x) n k T (way ++ [(j : Int) + 1]) := by rw [← hT]; rfl
            obtain ⟨b, off, tv, rfl, hbb, c0, hE⟩ := (H.out.below BB.out).get j hjn
            have hcall : ∀ W, Below w1.heap.size w1 W → Calls Tryd.prog 34 #[tv, .int .i64 x] W fun e w' => e = .returned (.int .i64 T) ∧ Below W.heap.size W w' := fun W hW => by
              have := l2Find_any tv _ x HX.out.1 HX.out.2 ((tablesOk_at HA.out).2.2 j (by rw [HN.out]; exact hjn)) W (hE.below hW)
              unfold nextF at hT
              rw [show ((j : Int) + 1 - 1).toNat = j by omega] at hT
              rw [hT] at this
              exact this
            have hin3 : ∀ W, Calls Tryd.prog 33 #[.int .i64 T, .int .i64 1, .int .i64 (n : Int)] W fun e w' => e = .returned (.bool (decide (1 ≤ T) && decide (T ≤ (n : Int)))) ∧ w' = W := fun W => in_any _ _ _ W
            obtain ⟨D, hD⟩ : ∃ D, (decide (1 ≤ T) && decide (T ≤ (n : Int))) = D := ⟨_, rfl⟩
            rw [hD] at hin3
            have HC2 := Lib.hid hcall
            have HI3 := Lib.hid hin3
            have HD := Lib.hid hD
            have HS := Lib.hid (hstep.symm.trans hgo.out)
            have HLEN := Lib.hid hlen
            have OWN : Hid (wr.ownsRow w1.heap.size 3 1 (.slice wa L wc) L (way.map (Value.int .i64))) := Lib.hid (by have := hown.out; unfold OwnInts at this; rw [HL.out] at this; exact this)
            have hs1 : w1.heap.size ≤ wr.heap.size := hb.out.size
            have hcw : ∀ W, Below w1.heap.size w1 W → W.cell? ⟨b, off + j, none⟩ = some tv := fun W hW => (hW.cell (p := ⟨b, off + j, none⟩) hbb).trans c0
            have HCW := Lib.hid hcw
            clear hcall hstep hT hE hin3 hD hlen c0 hcw
            by_cases c1 : T = (j : Int) + 1
            · have e := HS.out
              rw [if_pos c1] at e
              subst e
              have hcb : (T == (j : Int) + 1) = true := by simp [c1]
              go_wp2_with (first | (at_builtin; refine wpList_append_src rfl (.tmp 34) (.tmp 36) 39 rfl w1.heap.size 3 i0 (.int .i64 0) 8 Tryd.underlying39 hi hz0 hz1 hz2 rfl (.slice wa L wc) L (way.map (Value.int .i64)) rfl (World.ownsRow.alloc OWN.out _) (.slice (some ⟨wr.heap.size, 0, none⟩) 1 1) 1 (fun _ => .int .i64 ((j : Int) + 1)) rfl (lit_int wr _) (fun j hj => rfl) (by unfold maxLen; omega) (by omega) (by (try simp); omega) ?_; intro v' w4 hown4 hgrow4; have B4 : Hid (Below w1.heap.size w1 w4) := Lib.hid (Below.grown (Below.alloc hb.out hs1 _) hgrow4 (by simp; omega) (fun g hg => (World.ownsRow.lt OWN.out g hg).1)); have OWN4 : Hid (OwnInts w4 w1.heap.size v' (way ++ [(j : Int) + 1])) := Lib.hid (by unfold OwnInts; rw [List.length_append, HL.out, List.map_append]; exact hown4); have cw4 := HCW.out _ B4.out; clear hown4 hgrow4) | (go_at_call 34; refine (HC2.out _ B4.out).mono ?_; rintro e w5 ⟨rfl, hb5⟩; have B5 := Lib.hid (B4.out.trans (hb5.mono B4.out.size)); have OWN5 := Lib.hid (OWN4.out.below hb5); clear hb5))
              refine bodyPost_ret (results_tmp2 rfl _ _ _) rfl ?_
              exact ⟨_, rfl, OWN5.out.lift BB.out.size, BB.out.trans (B5.out.mono BB.out.size)⟩
            · have hcb : (T == (j : Int) + 1) = false := by simp [c1]
              cases D
              · have e := HS.out
                rw [if_neg c1, if_pos (by have := HD.out; simp at this; omega)] at e
                subst e
                go_wp2_with (first | (at_builtin; refine wpList_append_src rfl (.tmp 34) (.tmp 36) 39 rfl w1.heap.size 3 i0 (.int .i64 0) 8 Tryd.underlying39 hi hz0 hz1 hz2 rfl (.slice wa L wc) L (way.map (Value.int .i64)) rfl (World.ownsRow.alloc OWN.out _) (.slice (some ⟨wr.heap.size, 0, none⟩) 1 1) 1 (fun _ => .int .i64 ((j : Int) + 1)) rfl (lit_int wr _) (fun j hj => rfl) (by unfold maxLen; omega) (by omega) (by (try simp); omega) ?_; intro v' w4 hown4 hgrow4; have B4 : Hid (Below w1.heap.size w1 w4) := Lib.hid (Below.grown (Below.alloc hb.out hs1 _) hgrow4 (by simp; omega) (fun g hg => (World.ownsRow.lt OWN.out g hg).1)); have OWN4 : Hid (OwnInts w4 w1.heap.size v' (way ++ [(j : Int) + 1])) := Lib.hid (by unfold OwnInts; rw [List.length_append, HL.out, List.map_append]; exact hown4); have cw4 := HCW.out _ B4.out; clear hown4 hgrow4) | (go_at_call 34; refine (HC2.out _ B4.out).mono ?_; rintro e w5 ⟨rfl, hb5⟩; have B5 := Lib.hid (B4.out.trans (hb5.mono B4.out.size)); have OWN5 := Lib.hid (OWN4.out.below hb5); clear hb5) | (go_at_call 33; refine (HI3.out _).mono ?_; rintro e w5 ⟨rfl, rfl⟩))
                refine bodyPost_ret (results_tmp2 rfl _ _ _) rfl ?_
                exact ⟨_, rfl, OWN5.out.lift BB.out.size, BB.out.trans (B5.out.mono BB.out.size)⟩
              · have hd := HD.out
                simp at hd
                obtain ⟨d1, d2⟩ := hd
                have e := HS.out
                rw [if_neg c1, if_neg (by omega)] at e
                have HG := Lib.hid e
                clear e
                go_wp2_with (first | (at_builtin; refine wpList_append_src rfl (.tmp 34) (.tmp 36) 39 rfl w1.heap.size 3 i0 (.int .i64 0) 8 Tryd.underlying39 hi hz0 hz1 hz2 rfl (.slice wa L wc) L (way.map (Value.int .i64)) rfl (World.ownsRow.alloc OWN.out _) (.slice (some ⟨wr.heap.size, 0, none⟩) 1 1) 1 (fun _ => .int .i64 ((j : Int) + 1)) rfl (lit_int wr _) (fun j hj => rfl) (by unfold maxLen; omega) (by omega) (by (try simp); omega) ?_; intro v' w4 hown4 hgrow4; have B4 : Hid (Below w1.heap.size w1 w4) := Lib.hid (Below.grown (Below.alloc hb.out hs1 _) hgrow4 (by simp; omega) (fun g hg => (World.ownsRow.lt OWN.out g hg).1)); have OWN4 : Hid (OwnInts w4 w1.heap.size v' (way ++ [(j : Int) + 1])) := Lib.hid (by unfold OwnInts; rw [List.length_append, HL.out, List.map_append]; exact hown4); have cw4 := HCW.out _ B4.out; clear hown4 hgrow4) | (go_at_call 34; refine (HC2.out _ B4.out).mono ?_; rintro e w5 ⟨rfl, hb5⟩; have B5 := Lib.hid (B4.out.trans (hb5.mono B4.out.size)); have OWN5 := Lib.hid (OWN4.out.below hb5); clear hb5) | (go_at_call 33; refine (HI3.out _).mono ?_; rintro e w5 ⟨rfl, rfl⟩))
                go_roundg k
                case measure => omega
                case rel => exact ⟨T, L + 1, way ++ [(j : Int) + 1], rfl, by go_num, OWN5, by have := HLEN.out; omega, by rw [List.length_append, HL.out]; rfl, d1, d2, HG, B5⟩
end Go.Proofs.YtnjkifnlimfhnaaDoor
