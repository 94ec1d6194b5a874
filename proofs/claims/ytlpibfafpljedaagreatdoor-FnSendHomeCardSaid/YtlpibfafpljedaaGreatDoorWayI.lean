/- impl.SendWay, walked. -/
import Derived.Test.YtlpibfafpljedaaGreatDoorWayP
import Derived.Test.YtlpibfafpljedaaGreatDoorMark
namespace Go.Proofs.YtlpibfafpljedaaGreatDoor
open Go.RowKit
set_option linter.unusedVariables false

theorem info_intR : (Tryz.prog.info? 3).map (fun i => (i.zero, i.size, i.bytes)) = some (some (.int .i64 0), 1, 8) := by kernel_rfl
theorem lit_int (W : World) (u : Value) : SliceAt (W.alloc (.cells #[u] 3)) (.slice (some ⟨W.heap.size, 0, none⟩) 1 1) 1 (fun _ => u) :=
  ⟨_, 1, rfl, Nat.le_refl _, by unfold maxLen; omega, .inr ⟨W.heap.size, 0, rfl, by simp, fun i hi => by
    obtain rfl : i = 0 := by omega
    simp⟩⟩
theorem own_one (w : World) (h : Int) : OwnInts (w.alloc (.cells #[.int .i64 h] 3)) w.heap.size (.slice (some ⟨w.heap.size, 0, none⟩) 1 1) [h] :=
  World.ownsRow_lit (base := w.heap.size) (e := 3) (size := 1) w #[.int .i64 h] 1 (Nat.le_refl _) (by simp [maxLen]) rfl
theorem OwnInts.form {w : World} {B : Nat} {v : Value} {l : List Int} (h : OwnInts w B v l) : ∃ a cap, v = .slice a l.length cap ∧ l.length ≤ cap ∧ cap ≤ 9223372036854775807 := owns_form h
def WayPost (R : List Int × Bool) (w : World) (e : Ending) (w' : World) : Prop := ∃ v, e = .returned (.tuple #[v, .bool R.2]) ∧ OwnInts w' w.heap.size v R.1 ∧ Below w.heap.size w w'
set_option maxRecDepth 100000 in
set_option maxHeartbeats 8000000 in
theorem implSendWay_any (v : Value) (ls : List (List Ent)) (h x : Int) (w : World) (hv : TabsAt w v ls) :
    Calls Tryz.prog 11 #[v, .int .i64 h, .int .i64 x] w (WayPost (wayF ls h x) w) := by
  have hfw := forwarding_any v ls w hv
  obtain ⟨i0, hi, hz0, hz1, hz2⟩ := info_parts info_intR
  obtain ⟨a, cap, rfl, hc, hm⟩ := hv.form
  obtain ⟨n, hn⟩ : ∃ n, ls.length = n := ⟨_, rfl⟩
  obtain ⟨R, hR⟩ : ∃ R, wayF ls h x = R := ⟨_, rfl⟩
  rw [hR]
  unfold wayF at hR
  rw [hn] at hfw hR hc ⊢
  have HFW := Lib.hid hfw
  have HN := Lib.hid hn
  have HR := Lib.hid hR
  clear hfw hn hR hv
  unfold WayPost
  cases hok : tablesOkF ls with
  | false =>
    have e := HR.out
    rw [hok, if_neg (by simp)] at e
    subst e
    have hfw : Calls Tryz.prog 28 #[.slice a n cap] w fun e w' => e = .returned (.tuple #[.nilFunc, .bool false]) ∧ Below w.heap.size w w' := HFW.out.mono fun e w1 ⟨h1, h2⟩ => by
      rcases h1 with ⟨h1, _⟩ | ⟨_, h1⟩
      · rw [hok] at h1; cases h1
      · exact ⟨h1, h2⟩
    have HFW := Lib.hid hfw
    clear hfw
    go_enter Tryz.func11, Tryz.ntmps11
    go_wp2_with (go_at_call 28; refine HFW.out.mono ?_; rintro e w1 ⟨rfl, hb1⟩)
    refine bodyPost_ret (results_tmp2 rfl _ _ _) rfl ?_
    exact ⟨_, rfl, World.ownsRow_nil _ _ _ _, hb1⟩
  | true =>
    obtain ⟨hl1, hl5, _⟩ := tablesOk_at hok
    rw [HN.out] at hl1 hl5
    have hfw : Calls Tryz.prog 28 #[.slice a n cap] w fun e w' => ∃ F, e = .returned (.tuple #[fwdV F, .bool true]) ∧ (∃ fv xs, FindAt w' F fv xs ls) ∧ Below w.heap.size w w' := HFW.out.mono fun e w1 ⟨h1, h2⟩ => by
      rcases h1 with ⟨_, F, fv, xs, h1, h3⟩ | ⟨h1, _⟩
      · exact ⟨F, h1, ⟨fv, xs, h3⟩, h2⟩
      · rw [hok] at h1; cases h1
    have HFW := Lib.hid hfw
    have HOK := Lib.hid hok
    clear hfw hok
    by_cases h1 : h < 1
    · have e := HR.out
      rw [if_neg (by omega)] at e
      subst e
      go_enter Tryz.func11, Tryz.ntmps11
      go_wp2_with (go_at_call 28; refine HFW.out.mono ?_; rintro e w1 ⟨F, rfl, hF, hb1⟩; unfold fwdV)
      refine bodyPost_ret (results_tmp2 rfl _ _ _) rfl ?_
      exact ⟨_, rfl, World.ownsRow_nil _ _ _ _, hb1⟩
    · by_cases h2 : (n : Int) < h
      · have e := HR.out
        rw [if_neg (by omega)] at e
        subst e
        go_enter Tryz.func11, Tryz.ntmps11
        go_wp2_with (go_at_call 28; refine HFW.out.mono ?_; rintro e w1 ⟨F, rfl, hF, hb1⟩; unfold fwdV)
        refine bodyPost_ret (results_tmp2 rfl _ _ _) rfl ?_
        exact ⟨_, rfl, World.ownsRow_nil _ _ _ _, hb1⟩
      · obtain ⟨A, hA⟩ : ∃ A, addrF x = A := ⟨_, rfl⟩
        have haddr : ∀ W, Calls Tryz.prog 29 #[.int .i64 x] W fun e w' => e = .returned (.bool A) ∧ Drew W w' := fun W => by rw [← hA]; exact isAddr_any x W
        have HAD := Lib.hid haddr
        have HA := Lib.hid hA
        clear haddr hA
        cases A
        · have e := HR.out
          rw [if_neg (by rw [HA.out]; simp)] at e
          subst e
          go_enter Tryz.func11, Tryz.ntmps11
          go_wp2_with (first | (go_at_call 28; refine HFW.out.mono ?_; rintro e w1 ⟨F, rfl, hF, hb1⟩; unfold fwdV) | (go_at_call 29; refine (HAD.out _).mono ?_; rintro e w2 ⟨rfl, hd⟩; have hb2 := hd.below w1.heap.size))
          refine bodyPost_ret (results_tmp2 rfl _ _ _) rfl ?_
          exact ⟨_, rfl, World.ownsRow_nil _ _ _ _, hb1.trans (hb2.mono hb1.size)⟩
        · have e := HR.out
          rw [if_pos ⟨HOK.out, by omega, by omega, HA.out⟩] at e
          have hx : 0 ≤ x ∧ x ≤ 255 := by
            have := HA.out; unfold addrF at this; simpa using this
          have HE := Lib.hid e
          have HX := Lib.hid hx
          clear e hx
          have h1' : 1 ≤ h := by omega
          have h2' : h ≤ (n : Int) := by omega
          go_enter Tryz.func11, Tryz.ntmps11
          go_wp2_with (first | (go_at_call 28; refine HFW.out.mono ?_; rintro e w1 ⟨F, rfl, hF, hb1⟩; unfold fwdV) | (go_at_call 29; refine (HAD.out _).mono ?_; rintro e w2 ⟨rfl, hd⟩; have hb2 := hd.below w1.heap.size; have BB : Hid (Below w.heap.size w w2) := Lib.hid (hb1.trans (hb2.mono hb1.size)); have HF : Hid (∃ fv xs, FindAt w2 F fv xs ls) := Lib.hid (by obtain ⟨fv, xs, hF⟩ := hF; exact ⟨fv, xs, hF.below hb2⟩); clear hb1 hb2 hF hd))
          go_loopg [1, 10] n (fun gk s1 s10 wr => ∃ (q : Int) (way : List Int), s1 = .int .i64 q ∧ Hid (OwnInts wr w2.heap.size s10 way) ∧ way.length + gk = n + 1 ∧ 1 ≤ q ∧ q ≤ (n : Int) ∧ Hid (goW (nextF ls x) n gk q way = R) ∧ Hid (Below w2.heap.size w2 wr))
          case atStart => exact ⟨h, [h], rfl, Lib.hid (own_one w2 h), by simp; omega, h1', h2', HE, Lib.hid (Below.alloc (Below.refl _ _) (Nat.le_refl _) _)⟩
          case round =>
            obtain ⟨q, way, rfl, hown, hlen, q1, q2, hgo, hb⟩ := hrel
            obtain ⟨wa, wc, e, hwl, hwc⟩ := hown.out.form
            subst e
            obtain ⟨L, hL⟩ : ∃ L, way.length = L := ⟨_, rfl⟩
            rw [hL] at hown hlen hwl ⊢
            have HL := Lib.hid hL
            clear hL
            cases gk with
            | zero =>
              have hdn : ¬ (L : Int) ≤ (n : Int) := by omega
              have e := hgo.out
              have e' : R = (way, false) := e.symm
              subst e'
              go_wp2_with fail
              refine bodyPost_ret (results_tmp2 rfl _ _ _) rfl ?_
              exact ⟨_, rfl, hown.out.lift BB.out.size, BB.out.trans (hb.out.mono BB.out.size)⟩
            | succ k =>
              have hdn : (L : Int) ≤ (n : Int) := by omega
              obtain ⟨j, rfl⟩ : ∃ j : Nat, q = (j : Int) + 1 := ⟨(q - 1).toNat, by omega⟩
              have hjn : j < n := by omega
              obtain ⟨T, hT⟩ : ∃ T, nextF ls x ((j : Int) + 1) = T := ⟨_, rfl⟩
              have hstep : goW (nextF ls x) n (k + 1) ((j : Int) + 1) way = if T = (j : Int) + 1 then (way, true) else if T < 1 ∨ (n : Int) < T then (way, false) else goW (nextF ls x) n k T (way ++ [T]) := by rw [← hT]; rfl
              have hcall : ∀ W, Below w2.heap.size w2 W → Calls Tryz.prog 51 #[.int .i64 ((j : Int) + 1), .int .i64 x, .pointer (some ⟨F, 0, none⟩)] W fun e w' => e = .returned (.int .i64 T) ∧ Below W.heap.size W w' := fun W hW => by
                obtain ⟨fv, xs, hF⟩ := HF.out
                have := fwd1_any F fv xs ls j x HX.out.1 HX.out.2 W (hF.below hW) (by rw [HN.out]; exact hjn) (by rw [HN.out]; exact hl5)
                unfold nextF at hT
                rw [show ((j : Int) + 1 - 1).toNat = j by omega] at hT
                rw [hT] at this
                exact this
              have HC := Lib.hid hcall
              have HS := Lib.hid (hstep.symm.trans hgo.out)
              clear hcall hstep hT
              by_cases c1 : T = (j : Int) + 1
              · have e := HS.out
                rw [if_pos c1] at e
                subst e
                have hcb : (T == (j : Int) + 1) = true := by simp [c1]
                go_wp2_with (go_at_call 51; refine (HC.out _ hb.out).mono ?_; rintro e w3 ⟨rfl, hb3⟩)
                refine bodyPost_ret (results_tmp2 rfl _ _ _) rfl ?_
                exact ⟨_, rfl, (hown.out.below hb3).lift BB.out.size, (BB.out.trans (hb.out.mono BB.out.size)).trans (hb3.mono (Nat.le_trans BB.out.size hb.out.size))⟩
              · have hcb : (T == (j : Int) + 1) = false := by simp [c1]
                by_cases c2 : T < 1
                · have e := HS.out
                  rw [if_neg c1, if_pos (.inl c2)] at e
                  subst e
                  go_wp2_with (go_at_call 51; refine (HC.out _ hb.out).mono ?_; rintro e w3 ⟨rfl, hb3⟩)
                  refine bodyPost_ret (results_tmp2 rfl _ _ _) rfl ?_
                  exact ⟨_, rfl, (hown.out.below hb3).lift BB.out.size, (BB.out.trans (hb.out.mono BB.out.size)).trans (hb3.mono (Nat.le_trans BB.out.size hb.out.size))⟩
                · by_cases c3 : (n : Int) < T
                  · have e := HS.out
                    rw [if_neg c1, if_pos (.inr c3)] at e
                    subst e
                    go_wp2_with (go_at_call 51; refine (HC.out _ hb.out).mono ?_; rintro e w3 ⟨rfl, hb3⟩)
                    refine bodyPost_ret (results_tmp2 rfl _ _ _) rfl ?_
                    exact ⟨_, rfl, (hown.out.below hb3).lift BB.out.size, (BB.out.trans (hb.out.mono BB.out.size)).trans (hb3.mono (Nat.le_trans BB.out.size hb.out.size))⟩
                  · have e := HS.out
                    rw [if_neg c1, if_neg (by omega)] at e
                    have HG := Lib.hid e
                    have HLEN := Lib.hid hlen
                    clear e hlen
                    go_wp2_with (first | (go_at_call 51; refine (HC.out _ hb.out).mono ?_; rintro e w3 ⟨rfl, hb3⟩; have hown3 : w3.ownsRow w2.heap.size 3 1 (.slice wa L wc) L (way.map (Value.int .i64)) := (by have := hown.out.below hb3; unfold OwnInts at this; rw [HL.out] at this; exact this); have OWN3 := Lib.hid hown3; have B3 := Lib.hid (hb.out.trans (hb3.mono hb.out.size)); have hs3 : w2.heap.size ≤ w3.heap.size := B3.out.size; clear hown3 hb3) | (at_builtin; refine wpList_append_src rfl (.tmp 61) (.tmp 63) 37 rfl w2.heap.size 3 i0 (.int .i64 0) 8 Tryz.underlying37 hi hz0 hz1 hz2 rfl (.slice wa L wc) L (way.map (Value.int .i64)) rfl (World.ownsRow.alloc OWN3.out _) (.slice (some ⟨w3.heap.size, 0, none⟩) 1 1) 1 (fun _ => .int .i64 T) rfl (lit_int w3 _) (fun j hj => rfl) (by unfold maxLen; omega) (by omega) (by (try simp); omega) ?_; intro v' w4 hown4 hgrow4))
                    go_roundg k
                    case measure => omega
                    case rel =>
                      refine ⟨T, way ++ [T], rfl, Lib.hid ?_, by have := HLEN.out; rw [List.length_append, HL.out, List.length_singleton]; omega, by omega, by omega, HG, Lib.hid (Below.grown (Below.alloc B3.out hs3 _) hgrow4 (by simp; omega) (fun g hg => (World.ownsRow.lt OWN3.out g hg).1))⟩
                      unfold OwnInts
                      rw [List.length_append, HL.out, List.map_append]
                      exact hown4
end Go.Proofs.YtlpibfafpljedaaGreatDoor
