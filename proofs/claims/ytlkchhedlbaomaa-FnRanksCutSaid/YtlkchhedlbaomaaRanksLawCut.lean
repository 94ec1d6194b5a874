/- The walk of FnRanksCut. -/
import Derived.Test.YtlkchhedlbaomaaRanksLawPick
import Derived.Test.YtlkchhedlbaomaaRanksLy
import Derived.Test.YtlkchhedlbaomaaRanksWays2
import Derived.Deep.RegionHeld3
namespace Go.Proofs.Ytlkchhedlbaomaa
open Go.RowKit
set_option linter.unusedVariables false

set_option maxRecDepth 100000 in
set_option maxHeartbeats 8000000 in
theorem ranksCut_walk (a : Option Addr) (len cap : Nat) (zs : List Int) (a2 : Option Addr) (len2 cap2 : Nat) (zs2 : List Int) (w : World) (h : IsRow .u8 w a len cap zs) (h2 : IsRow .u8 w a2 len2 cap2 zs2) :
    Calls Try.prog 5 #[.slice a len cap, .slice a2 len2 cap2] w fun e w' => e = .returned (.bool true) ∧ Below w.heap.size w w' := by
  obtain ⟨hm, hc⟩ := h.bounds
  have hc' := hc
  unfold maxLen at hc'
  obtain ⟨hm2, hc2⟩ := h2.bounds
  have hc2' := hc2
  unfold maxLen at hc2'
  have H := Lib.hid h
  have BB := Lib.hid (Below.refl w.heap.size w)
  clear h
  obtain ⟨i0, hi, hz0, hz1, hz2⟩ := info_parts info_intR
  go_enter Try.func5, Try.ntmps5
  by_cases hl : 1048576 < len ∨ 1048576 < len2
  · by_cases hl1 : 1048576 < len
    · go_wp2_with fail
      go_ret
      exact ⟨rfl, Below.refl _ _⟩
    · have hl2 : 1048576 < len2 := by omega
      clear hl
      go_wp2_with fail
      go_ret
      exact ⟨rfl, Below.refl _ _⟩
  · have hl1 : ¬ 1048576 < len := by omega
    have hl2 : ¬ 1048576 < len2 := by omega
    clear hl
    go_wp2_with fail
    refine (drawPlay_any _ _ _ zs _ H.out).mono ?_
    rintro e w1 ⟨v, ub, uc, r, order, rfl, hg, hu, hb⟩
    obtain ⟨va, vc, e', hvc, hvm⟩ := hg.form
    subst e'
    obtain ⟨_, huc, hum⟩ := hu.len
    have G := Lib.hid hg
    have U := Lib.hid hu
    have BB := Lib.hid (BB.out.trans (hb.mono BB.out.size))
    clear hg hu hb
    obtain ⟨P, hP⟩ : ∃ P, (playF r order).1 = P := ⟨_, rfl⟩
    obtain ⟨d, hd⟩ : ∃ d, (playF r order).2 = d := ⟨_, rfl⟩
    have himpl : ∀ W, Below w1.heap.size w1 W → Calls Try.prog 27 #[.slice va r.length vc, .slice (some ⟨ub, 0, none⟩) order.length uc] W fun e w' => ∃ v', e = .returned (.tuple #[v', .bool d]) ∧ WaysOwn w' W.heap.size v' P ∧ Below W.heap.size W w' := fun W hW => by rw [← hP, ← hd]; exact implPlay_any _ _ r order W (G.out.below hW) (U.out.below hW)
    have hspec := specPlay_any _ _ r order w1 G.out U.out
    have hspec' : Calls Try.prog 26 #[.slice va r.length vc, .slice (some ⟨ub, 0, none⟩) order.length uc] w1 fun e w' => ∃ v', e = .returned (.tuple #[v', .bool d]) ∧ WaysOwn w' w1.heap.size v' P ∧ Below w1.heap.size w1 w' := by rw [← hP, ← hd]; exact hspec
    have HIM := Lib.hid himpl
    have HSP := Lib.hid hspec'
    have HPP := Lib.hid hP
    have HDD := Lib.hid hd
    have B1 := Lib.hid (Below.refl w1.heap.size w1)
    clear himpl hspec hspec' hP hd
    go_wp2_with fail
    refine (HSP.out).mono ?_
    rintro e w2 ⟨v2, rfl, ho, hb⟩
    obtain ⟨sa2, sc2, e', _, _⟩ := ho.rowsAt.form
    subst e'
    have W0 := Lib.hid ho.rowsAt
    have BB := Lib.hid (BB.out.trans (hb.mono BB.out.size))
    have B1 := Lib.hid (B1.out.trans (hb.mono B1.out.size))
    clear ho hb
    go_wp2_with fail
    refine (HIM.out _ B1.out).mono ?_
    rintro e w3 ⟨v3, rfl, ho, hb⟩
    obtain ⟨sa3, sc3, e', hsc3, hsm3⟩ := ho.rowsAt.form
    subst e'
    have X0 := Lib.hid ho.rowsAt
    have W0 := Lib.hid (W0.out.below hb)
    have BB := Lib.hid (BB.out.trans (hb.mono BB.out.size))
    have B1 := Lib.hid (B1.out.trans (hb.mono B1.out.size))
    clear ho hb
    have hdd : (d != d) = false := by simp
    have hde : (d == d) = true := by simp
    cases d
    · go_wp2_with (go_at_call 28; refine (lyWaysOne _ _ _ X0.out W0.out).mono ?_; rintro e w4 ⟨rfl, q4, rfl⟩)
      refine (lyWaysOne _ _ _ (X0.out.drew ⟨_, rfl⟩) (W0.out.drew ⟨_, rfl⟩)).mono ?_
      rintro e w5 ⟨rfl, q5, rfl⟩
      go_wp2_with fail
      go_ret
      exact ⟨rfl, belowDrewN BB.out _⟩
    · go_wp2_with fail
      refine (lyWaysOne _ _ _ X0.out W0.out).mono ?_
      rintro e w4 ⟨rfl, hd4⟩
      have X0 := Lib.hid (X0.out.drew hd4)
      have BB := Lib.hid (BB.out.trans (hd4.below _))
      have B1 := Lib.hid (B1.out.trans (hd4.below _))
      clear hd4 W0
      have hyes : ranksOk r = true ∧ orderOk order = true := by
        by_cases h : ranksOk r = true ∧ orderOk order = true
        · exact h
        · have e := HDD.out; rw [playF_no h] at e; cases e
      have hP : P = playW r order := by rw [← HPP.out, playF_yes hyes.1 hyes.2]
      subst hP
      have hol := orderOk_len hyes.2
      have hpl := playW_len r order
      have hr3 := ranksOk_len hyes.1
      rw [hpl] at X0 hsc3 ⊢
      obtain ⟨x1, hx1⟩ : ∃ x : Int, 1 + (len2 : Int) % 3 = x := ⟨_, rfl⟩
      have hx : 1 ≤ x1 ∧ x1 ≤ 3 := by omega
      obtain ⟨n, hn⟩ : ∃ n, order.length = n := ⟨_, rfl⟩
      have hU := U.out
      rw [hn] at hU hol huc ⊢
      have UU := Lib.hid hU
      have HN := Lib.hid hn
      have HY := Lib.hid hyes
      have HX1 := Lib.hid hx1
      have HW3 := Lib.hid hpl
      have HR3 := Lib.hid hr3
      have U5 := Lib.hid (UU.out.below B1.out)
      obtain ⟨d, hd⟩ : ∃ d, (playF r (order ++ [x1])).2 = d := ⟨_, rfl⟩
      obtain ⟨P, hP⟩ : ∃ P, (playF r (order ++ [x1])).1 = P := ⟨_, rfl⟩
      have hcall : ∀ W u2, Below w4.heap.size w4 W → IntsAt W u2 (order ++ [x1]) → Calls Try.prog 27 #[.slice va r.length vc, u2] W fun e w' => ∃ v', e = .returned (.tuple #[v', .bool d]) ∧ WaysOwn w' W.heap.size v' P ∧ Below W.heap.size W w' := fun W u2 hW hu2 => by
        rw [← hd, ← hP]
        exact implPlay_any _ u2 r (order ++ [x1]) W ((G.out.below B1.out).below hW) hu2
      have HCALL := Lib.hid hcall
      have HD := Lib.hid hd
      have HP := Lib.hid hP
      clear hU hn HIM HSP hyes hpl hr3 hx1 hd hP hcall
      go_wp2_with (first
        | (at_builtin; refine wpList_append_own _ rfl (.tmp 67) (.tmp 68) 27 rfl w4.heap.size 3 i0 (.int .i64 0) 1 8 Try.underlying27 hi hz0 hz1 hz2 rfl (by decide) _ _ _ rfl (World.ownsRow_made w4 #[] 0 (Nat.le_refl _) (Nat.zero_le _) rfl) ⟨ub, 0, none⟩ n uc (order.map (Value.int .i64)) rfl (by simpa using HN.out) (ints_src U5.out _) (ints_one _) (by unfold maxLen; omega) (by omega) (by simp) ?_; intro v6 w6 hown6 hgrow6 _; have HW6 := Lib.hid (show w6.ownsRow w4.heap.size 3 1 v6 n (order.map (Value.int .i64)) from by simpa using hown6); have HB6 := Lib.hid (show Below w4.heap.size w4 w6 from Below.grown (w := w4.alloc _) ((Below.refl _ _).alloc (Nat.le_refl _) _) hgrow6 (by simp) (fun k hk => (World.ownsRow.lt (base := w4.heap.size) (e := 3) (size := 1) (World.ownsRow_made w4 #[] 0 (Nat.le_refl _) (Nat.zero_le _) rfl) k hk).1)); clear hown6 hgrow6)
        | (at_builtin; refine wpList_append_own _ rfl (.tmp 69) (.tmp 71) 27 rfl w4.heap.size 3 i0 (.int .i64 0) 1 8 Try.underlying27 hi hz0 hz1 hz2 rfl (by decide) _ _ _ rfl (World.ownsRow.alloc HW6.out _) ⟨w6.heap.size, 0, none⟩ 1 1 [.int .i64 (1 + (len2 : Int) % 3)] rfl rfl (cell_one_new _ _ _) (by simp [Value.oneCell']) (by unfold maxLen; omega) (by omega) (by have := HB6.out.size; simp; omega) ?_; intro v7 w7 hown7 hgrow7 _; have HW7 := Lib.hid hown7; have HB7 := Lib.hid (show Below w4.heap.size w4 w7 from Below.grown (w := w6.alloc _) (HB6.out.alloc HB6.out.size _) hgrow7 (by have := HB6.out.size; simp; omega) (fun k hk => (World.ownsRow.lt HW6.out k hk).1)); clear hown7 hgrow7))
      have hI7 : IntsAt w7 v7 (order ++ [x1]) := by
        refine OwnInts.ints (B := w4.heap.size) ?_
        unfold OwnInts
        rw [List.length_append, HN.out, List.map_append, ← HX1.out]
        exact HW7.out
      refine (HCALL.out _ _ HB7.out hI7).mono ?_
      rintro e w8 ⟨v8, rfl, ho, hb⟩
      obtain ⟨sa8, sc8, e', hs8, hm8⟩ := ho.rowsAt.form
      subst e'
      have X8 := Lib.hid ho.rowsAt
      have X0 := Lib.hid ((X0.out.below HB7.out).below hb)
      have B1 := Lib.hid (B1.out.trans ((HB7.out.trans (hb.mono HB7.out.size)).mono B1.out.size))
      have BB := Lib.hid (BB.out.trans ((HB7.out.trans (hb.mono HB7.out.size)).mono BB.out.size))
      clear ho hb hI7
      by_cases h60 : n = 60
      · subst h60
        have hd : d = false := by
          rw [← HD.out, playF_no (by
            intro ⟨_, h⟩
            have := orderOk_len h
            rw [List.length_append, HN.out] at this
            simp at this)]
        subst hd
        go_wp2_with fail
        go_ret
        exact ⟨rfl, BB.out⟩
      · have hn60 : ((n : Int) == 60) = false := by simp; omega
        have hord : orderOk (order ++ [x1]) = true := by
          refine orderOk_mk (by have := HN.out; simp; omega) fun k hk => ?_
          rcases Nat.lt_or_ge k order.length with hlt | hge
          · have := orderOk_at HY.out.2 hlt
            have e : (order ++ [x1]).getD k 0 = order.getD k 0 := by simp [List.getElem?_append, hlt]
            rw [e]; exact this
          · have hk3 : k = order.length := by simp at hk; omega
            subst hk3
            simp; exact hx
        have hyes2 := playF_yes HY.out.1 hord
        have hd : d = true := by rw [← HD.out, hyes2]
        obtain ⟨j, rfl⟩ : ∃ j : Nat, x1 = (j : Int) + 1 := ⟨(x1 - 1).toNat, by omega⟩
        have hj3 : j < 3 := by omega
        have hP : P = (playW r order).set j (pickF (r.getD j []) (playW r order)) := by
          rw [← HP.out, hyes2]
          show playW r (order ++ [(j : Int) + 1]) = _
          rw [playW_snoc]
          unfold stepW
          rw [show ((j : Int) + 1 - 1).toNat = j by omega]
        have hways : waysOk r (playW r order) = true := waysOk_good (by rw [HW3.out, HR3.out]) (fun i _ => playW_state r order i)
        have hpl3 : P.length = 3 := by rw [hP, List.length_set, HW3.out]
        have hpick : ∀ W, Below w8.heap.size w8 W → Calls Try.prog 30 #[.slice va r.length vc, .slice sa3 3 sc3, .int .i64 ((j : Int) + 1)] W fun e w' => ∃ v', e = .returned v' ∧ OwnInts w' W.heap.size v' (pickF (r.getD j []) (playW r order)) ∧ Below W.heap.size W w' := fun W hW => by
          have := implPick_any _ _ _ _ ((j : Int) + 1) W ((G.out.below B1.out).below hW) (X0.out.below hW)
          rw [ranksPickF_yes HY.out.1 hways hj3] at this
          exact this
        rw [hpl3] at X8 hs8 ⊢
        have HPI := Lib.hid hpick
        have HPE := Lib.hid hP
        subst hd
        clear hord hyes2 hP hways hpick hx hpl3
        have hjI : (j : Int) < 3 := by omega
        rw [HX1.out]
        clear HX1
        go_wp2_with fail
        go_loopg [14] 3 (fun g i wr => ∃ k : Nat, i = .int .i64 k ∧ k + g = 3 ∧ Hid (Below w8.heap.size w8 wr) ∧ Hid (Below w.heap.size w wr))
        case atStart => exact ⟨0, rfl, by omega, Lib.hid (Below.refl _ _), BB⟩
        case round =>
          obtain ⟨k, rfl, hk, hB8, hBB⟩ := hrel
          by_cases hg : gk = 0
          · subst hg
            obtain rfl : k = 3 := by omega
            go_wp2_with fail
            go_ret
            exact ⟨rfl, hBB.out⟩
          · have hkn : k < 3 := by omega
            have hkI : (k : Int) < 3 := by omega
            have k0 : (0 : Int) ≤ (k : Int) := by omega
            obtain ⟨xb, xoff, v9, rfl, hxb, hx9, hp9⟩ := (X8.out.below hB8.out).get k hkn
            obtain ⟨yb, yoff, v10, rfl, hyb, hy10, hp10⟩ := (X0.out.below hB8.out).get k hkn
            have HK := Lib.hid hk
            clear hk
            have iw : IntKind.i64.wrap ((k : Int) + 1) = (k : Int) + 1 := IntWalk.i64_in _ (by omega)
            have hxbw : xb < wr.heap.size := hxb
            by_cases hkj : k = j
            · subst hkj
              have he : P.getD k [] = pickF (r.getD k []) (playW r order) := by
                rw [HPE.out, List.getD_eq_getElem?_getD, List.getElem?_set_self (by rw [HW3.out]; exact hkn)]; rfl
              rw [he] at hp9
              have hly : ∀ v' W B, OwnInts W B v' (pickF (r.getD k []) (playW r order)) → Below wr.heap.size wr W → Calls Try.prog 29 #[v9, v'] W fun e w' => e = .returned (.bool true) ∧ Drew W w' := fun v' W B ho hb => by
                have := lyInts_any v9 v' _ _ W (hp9.below hb) ho.ints; simpa using this
              have HLY := Lib.hid hly
              clear hly he hp9 hp10
              have e1 : (((k : Int) + 1) == ((k : Int) + 1)) = true := by simp
              have e2 : (((k : Int) + 1) != ((k : Int) + 1)) = false := by simp
              go_wp2_with fail
              refine wp_region_noPanic ?_
              refine wp_region_held_drew (S := (fun w' => w'.cell? ⟨xb, xoff + k, none⟩ = some v9)) (by kernel_rfl) (by simp [go_sem, *]) (fun hHeld => ?_)
              refine wpAnyH_take (i := 0) (v := .int .i64 (k : Int)) (by (simp only [List.getElem?_toArray, List.getElem?_cons_zero]) <;> rfl) (by kernel_rfl) (by kernel_rfl) (by kernel_rfl) (fun _ _ _ h => h) (Or.inl ⟨by rfl, fun w hSw => by (try dsimp only at hSw); go_simp⟩) (by assumption) ?_
              (try simp only [Act.put, List.setIfInBounds_toArray, List.set_cons_zero, List.set_cons_succ])
              refine wpAnyH_take (i := 1) (v := .int .i64 ((k : Int) + 1)) (by (simp only [List.getElem?_toArray, List.getElem?_cons_succ, List.getElem?_cons_zero]) <;> rfl) (by kernel_rfl) (by kernel_rfl) (by kernel_rfl) (fun _ _ _ h => h) (Or.inl ⟨by rfl, fun w hSw => by (try dsimp only at hSw); go_simp⟩) (by assumption) ?_
              (try simp only [Act.put, List.setIfInBounds_toArray, List.set_cons_zero, List.set_cons_succ])
              refine wpAnyH_take (i := 2) (v := .int .i64 ((k : Int) + 1)) (by (simp only [List.getElem?_toArray, List.getElem?_cons_succ, List.getElem?_cons_zero]) <;> rfl) (by kernel_rfl) (by kernel_rfl) (by kernel_rfl) (fun _ _ _ h => h) (Or.inl ⟨by rfl, fun w hSw => by (try dsimp only at hSw); go_simp⟩) (by assumption) ?_
              (try simp only [Act.put, List.setIfInBounds_toArray, List.set_cons_zero, List.set_cons_succ])
              refine wpAnyH_take (i := 3) (v := .bool true) (by (simp only [List.getElem?_toArray, List.getElem?_cons_succ, List.getElem?_cons_zero]) <;> rfl) (by kernel_rfl) (by kernel_rfl) (by kernel_rfl) (fun _ _ _ h => h) (Or.inl ⟨by rfl, fun w hSw => by (try dsimp only at hSw); go_simp⟩) (by assumption) ?_
              (try simp only [Act.put, List.setIfInBounds_toArray, List.set_cons_zero, List.set_cons_succ])
              refine wpAnyH_take (i := 4) (v := .bool true) (by (simp only [List.getElem?_toArray, List.getElem?_cons_succ, List.getElem?_cons_zero]) <;> rfl) (by kernel_rfl) (by kernel_rfl) (by kernel_rfl) (fun _ _ _ h => h) (Or.inl ⟨by rfl, fun w hSw => by (try dsimp only at hSw); go_simp⟩) (by assumption) ?_
              (try simp only [Act.put, List.setIfInBounds_toArray, List.set_cons_zero, List.set_cons_succ])
              refine wpAnyH_take (i := 5) (v := .slice (some ⟨xb, xoff, none⟩) 3 sc8) (by (simp only [List.getElem?_toArray, List.getElem?_cons_succ, List.getElem?_cons_zero]) <;> rfl) (by kernel_rfl) (by kernel_rfl) (by kernel_rfl) (fun _ _ _ h => h) (Or.inl ⟨by rfl, fun w hSw => by (try dsimp only at hSw); go_simp⟩) (by assumption) ?_
              (try simp only [Act.put, List.setIfInBounds_toArray, List.set_cons_zero, List.set_cons_succ])
              refine wpAnyH_take (i := 6) (v := .int .i64 (k : Int)) (by (simp only [List.getElem?_toArray, List.getElem?_cons_succ, List.getElem?_cons_zero]) <;> rfl) (by kernel_rfl) (by kernel_rfl) (by kernel_rfl) (fun _ _ _ h => h) (Or.inl ⟨by rfl, fun w hSw => by (try dsimp only at hSw); go_simp⟩) (by assumption) ?_
              (try simp only [Act.put, List.setIfInBounds_toArray, List.set_cons_zero, List.set_cons_succ])
              refine wpAnyH_take (i := 7) (v := .pointer (some ⟨xb, xoff + k, none⟩)) (by (simp only [List.getElem?_toArray, List.getElem?_cons_succ, List.getElem?_cons_zero]) <;> rfl) (by kernel_rfl) (by kernel_rfl) (by kernel_rfl) (fun _ _ _ h => h) (Or.inl ⟨by rfl, fun w hSw => by (try dsimp only at hSw); go_simp⟩) (by assumption) ?_
              (try simp only [Act.put, List.setIfInBounds_toArray, List.set_cons_zero, List.set_cons_succ])
              refine wpAnyH_take (i := 8) (v := v9) (by (simp only [List.getElem?_toArray, List.getElem?_cons_succ, List.getElem?_cons_zero]) <;> rfl) (by kernel_rfl) (by kernel_rfl) (by kernel_rfl) (fun _ _ _ h => h) (Or.inl ⟨by rfl, fun w hSw => by (try dsimp only at hSw); go_simp⟩) (by assumption) ?_
              (try simp only [Act.put, List.setIfInBounds_toArray, List.set_cons_zero, List.set_cons_succ])
              refine wpAnyH_take (i := 9) (v := .slice va r.length vc) (by (simp only [List.getElem?_toArray, List.getElem?_cons_succ, List.getElem?_cons_zero]) <;> rfl) (by kernel_rfl) (by kernel_rfl) (by kernel_rfl) (fun _ _ _ h => h) (Or.inl ⟨by rfl, fun w hSw => by (try dsimp only at hSw); go_simp⟩) (by assumption) ?_
              (try simp only [Act.put, List.setIfInBounds_toArray, List.set_cons_zero, List.set_cons_succ])
              refine wpAnyH_take (i := 10) (v := .slice (some ⟨yb, yoff, none⟩) 3 sc3) (by (simp only [List.getElem?_toArray, List.getElem?_cons_succ, List.getElem?_cons_zero]) <;> rfl) (by kernel_rfl) (by kernel_rfl) (by kernel_rfl) (fun _ _ _ h => h) (Or.inl ⟨by rfl, fun w hSw => by (try dsimp only at hSw); go_simp⟩) (by assumption) ?_
              (try simp only [Act.put, List.setIfInBounds_toArray, List.set_cons_zero, List.set_cons_succ])
              refine wpAnyH_take (i := 11) (v := .int .i64 ((k : Int) + 1)) (by (simp only [List.getElem?_toArray, List.getElem?_cons_succ, List.getElem?_cons_zero]) <;> rfl) (by kernel_rfl) (by kernel_rfl) (by kernel_rfl) (fun _ _ _ h => h) (Or.inl ⟨by rfl, fun w hSw => by (try dsimp only at hSw); go_simp⟩) (by assumption) ?_
              (try simp only [Act.put, List.setIfInBounds_toArray, List.set_cons_zero, List.set_cons_succ])
              refine wpAnyH_ready (rs := [12]) (by kernel_rfl) (by simp) ?_
              refine AllReadyH.cons (by (simp only [List.getElem?_toArray, List.getElem?_cons_succ, List.getElem?_cons_zero]) <;> rfl) (fun K hK => ?_) AllReadyH.nil
              go_simp
              (go_at_call 30; refine (HPI.out _ (by refine hB8.out.trans (Below.mono ?_ hB8.out.size); repeat (first | exact Below.refl _ _ | assumption | refine Below.drew ?_ | refine belowDrewN ?_ _ | refine Below.alloc ?_ (by first | exact Nat.le_refl _ | omega | (simp; done) | (simp; omega)) _ | refine Below.setCell ?_ (by first | exact Nat.le_refl _ | omega | (simp; done) | (simp; omega)) _))).mono ?_; rintro e w9 ⟨v', rfl, ho, hb9⟩; have HO := Lib.hid ho; have hB9 : Below wr.heap.size wr w9 := (by refine Below.trans ?_ (hb9.mono (by first | exact Nat.le_refl _ | omega | (simp; done) | (simp; omega))); repeat (first | exact Below.refl _ _ | assumption | refine Below.drew ?_ | refine belowDrewN ?_ _ | refine Below.alloc ?_ (by first | exact Nat.le_refl _ | omega | (simp; done) | (simp; omega)) _ | refine Below.setCell ?_ (by first | exact Nat.le_refl _ | omega | (simp; done) | (simp; omega)) _)); obtain ⟨hc1, hf1⟩ := bcell hB9; clear ho hb9)
              refine hK.out _ _ (by first | exact hHeld | (simp [go_sem, *])) (fun hHeld => ?_)
              (try simp only [Act.put, List.setIfInBounds_toArray, List.set_cons_zero, List.set_cons_succ])
              refine wpAnyH_ready (rs := [13]) (by kernel_rfl) (by simp) ?_
              refine AllReadyH.cons (by (simp only [List.getElem?_toArray, List.getElem?_cons_succ, List.getElem?_cons_zero]) <;> rfl) (fun K hK => ?_) AllReadyH.nil
              go_simp
              (go_at_call 29; refine (HLY.out _ _ _ HO.out hB9).mono ?_; rintro e w10 ⟨rfl, q, rfl⟩)
              refine hK.out _ _ (by first | exact hHeld | (simp [go_sem, *])) (fun hHeld => ?_)
              (try simp only [Act.put, List.setIfInBounds_toArray, List.set_cons_zero, List.set_cons_succ])
              refine wpAnyH_take (i := 14) (v := .bool false) (by (simp only [List.getElem?_toArray, List.getElem?_cons_succ, List.getElem?_cons_zero]) <;> rfl) (by kernel_rfl) (by kernel_rfl) (by kernel_rfl) (fun _ _ _ h => h) (Or.inl ⟨by rfl, fun w hSw => by (try dsimp only at hSw); go_simp⟩) (by assumption) ?_
              (try simp only [Act.put, List.setIfInBounds_toArray, List.set_cons_zero, List.set_cons_succ])
              refine wpAnyH_take (i := 15) (v := .bool false) (by (simp only [List.getElem?_toArray, List.getElem?_cons_succ, List.getElem?_cons_zero]) <;> rfl) (by kernel_rfl) (by kernel_rfl) (by kernel_rfl) (fun _ _ _ h => h) (Or.inl ⟨by rfl, fun w hSw => by (try dsimp only at hSw); go_simp⟩) (by assumption) ?_
              (try simp only [Act.put, List.setIfInBounds_toArray, List.set_cons_zero, List.set_cons_succ])
              refine wpAnyH_take (i := 16) (v := .bool false) (by (simp only [List.getElem?_toArray, List.getElem?_cons_succ, List.getElem?_cons_zero]) <;> rfl) (by kernel_rfl) (by kernel_rfl) (by kernel_rfl) (fun _ _ _ h => h) (Or.inl ⟨by rfl, fun w hSw => by (try dsimp only at hSw); go_simp⟩) (by assumption) ?_
              (try simp only [Act.put, List.setIfInBounds_toArray, List.set_cons_zero, List.set_cons_succ])
              refine wpAnyH_take (i := 17) (v := .int .i64 (k : Int)) (by (simp only [List.getElem?_toArray, List.getElem?_cons_succ, List.getElem?_cons_zero]) <;> rfl) (by kernel_rfl) (by kernel_rfl) (by kernel_rfl) (fun _ _ _ h => h) (Or.inl ⟨by rfl, fun w hSw => by (try dsimp only at hSw); go_simp⟩) (by assumption) ?_
              (try simp only [Act.put, List.setIfInBounds_toArray, List.set_cons_zero, List.set_cons_succ])
              refine wpAnyH_take (i := 18) (v := .int .i64 ((k : Int) + 1)) (by (simp only [List.getElem?_toArray, List.getElem?_cons_succ, List.getElem?_cons_zero]) <;> rfl) (by kernel_rfl) (by kernel_rfl) (by kernel_rfl) (fun _ _ _ h => h) (Or.inl ⟨by rfl, fun w hSw => by (try dsimp only at hSw); go_simp⟩) (by assumption) ?_
              (try simp only [Act.put, List.setIfInBounds_toArray, List.set_cons_zero, List.set_cons_succ])
              refine wpAnyH_take (i := 19) (v := .int .i64 ((k : Int) + 1)) (by (simp only [List.getElem?_toArray, List.getElem?_cons_succ, List.getElem?_cons_zero]) <;> rfl) (by kernel_rfl) (by kernel_rfl) (by kernel_rfl) (fun _ _ _ h => h) (Or.inl ⟨by rfl, fun w hSw => by (try dsimp only at hSw); go_simp⟩) (by assumption) ?_
              (try simp only [Act.put, List.setIfInBounds_toArray, List.set_cons_zero, List.set_cons_succ])
              refine wpAnyH_take (i := 20) (v := .bool false) (by (simp only [List.getElem?_toArray, List.getElem?_cons_succ, List.getElem?_cons_zero]) <;> rfl) (by kernel_rfl) (by kernel_rfl) (by kernel_rfl) (fun _ _ _ h => h) (Or.inl ⟨by rfl, fun w hSw => by (try dsimp only at hSw); go_simp⟩) (by assumption) ?_
              (try simp only [Act.put, List.setIfInBounds_toArray, List.set_cons_zero, List.set_cons_succ])
              refine wpAnyH_take (i := 21) (v := .bool false) (by (simp only [List.getElem?_toArray, List.getElem?_cons_succ, List.getElem?_cons_zero]) <;> rfl) (by kernel_rfl) (by kernel_rfl) (by kernel_rfl) (fun _ _ _ h => h) (Or.inl ⟨by rfl, fun w hSw => by (try dsimp only at hSw); go_simp⟩) (by assumption) ?_
              (try simp only [Act.put, List.setIfInBounds_toArray, List.set_cons_zero, List.set_cons_succ])
              refine wpAnyH_take (i := 22) (v := undef) (by (simp only [List.getElem?_toArray, List.getElem?_cons_succ, List.getElem?_cons_zero]) <;> rfl) (by kernel_rfl) (by kernel_rfl) (by kernel_rfl) (fun _ _ _ h => h) (Or.inr ⟨by rfl, rfl⟩) (by assumption) ?_
              (try simp only [Act.put, List.setIfInBounds_toArray, List.set_cons_zero, List.set_cons_succ])
              refine wpAnyH_take (i := 23) (v := undef) (by (simp only [List.getElem?_toArray, List.getElem?_cons_succ, List.getElem?_cons_zero]) <;> rfl) (by kernel_rfl) (by kernel_rfl) (by kernel_rfl) (fun _ _ _ h => h) (Or.inr ⟨by rfl, rfl⟩) (by assumption) ?_
              (try simp only [Act.put, List.setIfInBounds_toArray, List.set_cons_zero, List.set_cons_succ])
              refine wpAnyH_take (i := 24) (v := undef) (by (simp only [List.getElem?_toArray, List.getElem?_cons_succ, List.getElem?_cons_zero]) <;> rfl) (by kernel_rfl) (by kernel_rfl) (by kernel_rfl) (fun _ _ _ h => h) (Or.inr ⟨by rfl, rfl⟩) (by assumption) ?_
              (try simp only [Act.put, List.setIfInBounds_toArray, List.set_cons_zero, List.set_cons_succ])
              refine wpAnyH_take (i := 25) (v := undef) (by (simp only [List.getElem?_toArray, List.getElem?_cons_succ, List.getElem?_cons_zero]) <;> rfl) (by kernel_rfl) (by kernel_rfl) (by kernel_rfl) (fun _ _ _ h => h) (Or.inr ⟨by rfl, rfl⟩) (by assumption) ?_
              (try simp only [Act.put, List.setIfInBounds_toArray, List.set_cons_zero, List.set_cons_succ])
              refine wpAnyH_take (i := 26) (v := undef) (by (simp only [List.getElem?_toArray, List.getElem?_cons_succ, List.getElem?_cons_zero]) <;> rfl) (by kernel_rfl) (by kernel_rfl) (by kernel_rfl) (fun _ _ _ h => h) (Or.inr ⟨by rfl, rfl⟩) (by assumption) ?_
              (try simp only [Act.put, List.setIfInBounds_toArray, List.set_cons_zero, List.set_cons_succ])
              refine wpAnyH_take (i := 27) (v := undef) (by (simp only [List.getElem?_toArray, List.getElem?_cons_succ, List.getElem?_cons_zero]) <;> rfl) (by kernel_rfl) (by kernel_rfl) (by kernel_rfl) (fun _ _ _ h => h) (Or.inr ⟨by rfl, rfl⟩) (by assumption) ?_
              (try simp only [Act.put, List.setIfInBounds_toArray, List.set_cons_zero, List.set_cons_succ])
              refine wpAnyH_take (i := 28) (v := undef) (by (simp only [List.getElem?_toArray, List.getElem?_cons_succ, List.getElem?_cons_zero]) <;> rfl) (by kernel_rfl) (by kernel_rfl) (by kernel_rfl) (fun _ _ _ h => h) (Or.inr ⟨by rfl, rfl⟩) (by assumption) ?_
              (try simp only [Act.put, List.setIfInBounds_toArray, List.set_cons_zero, List.set_cons_succ])
              refine wpAnyH_take (i := 29) (v := undef) (by (simp only [List.getElem?_toArray, List.getElem?_cons_succ, List.getElem?_cons_zero]) <;> rfl) (by kernel_rfl) (by kernel_rfl) (by kernel_rfl) (fun _ _ _ h => h) (Or.inr ⟨by rfl, rfl⟩) (by assumption) ?_
              (try simp only [Act.put, List.setIfInBounds_toArray, List.set_cons_zero, List.set_cons_succ])
              refine wpAnyH_take (i := 30) (v := undef) (by (simp only [List.getElem?_toArray, List.getElem?_cons_succ, List.getElem?_cons_zero]) <;> rfl) (by kernel_rfl) (by kernel_rfl) (by kernel_rfl) (fun _ _ _ h => h) (Or.inr ⟨by rfl, rfl⟩) (by assumption) ?_
              (try simp only [Act.put, List.setIfInBounds_toArray, List.set_cons_zero, List.set_cons_succ])
              refine wpAnyH_take (i := 31) (v := undef) (by (simp only [List.getElem?_toArray, List.getElem?_cons_succ, List.getElem?_cons_zero]) <;> rfl) (by kernel_rfl) (by kernel_rfl) (by kernel_rfl) (fun _ _ _ h => h) (Or.inr ⟨by rfl, rfl⟩) (by assumption) ?_
              (try simp only [Act.put, List.setIfInBounds_toArray, List.set_cons_zero, List.set_cons_succ])
              refine wpAnyH_take (i := 32) (v := .bool false) (by (simp only [List.getElem?_toArray, List.getElem?_cons_succ, List.getElem?_cons_zero]) <;> rfl) (by kernel_rfl) (by kernel_rfl) (by kernel_rfl) (fun _ _ _ h => h) (Or.inl ⟨by rfl, fun w hSw => by (try dsimp only at hSw); go_simp⟩) (by assumption) ?_
              (try simp only [Act.put, List.setIfInBounds_toArray, List.set_cons_zero, List.set_cons_succ])
              refine wpAnyH_take (i := 33) (v := .bool false) (by (simp only [List.getElem?_toArray, List.getElem?_cons_succ, List.getElem?_cons_zero]) <;> rfl) (by kernel_rfl) (by kernel_rfl) (by kernel_rfl) (fun _ _ _ h => h) (Or.inl ⟨by rfl, fun w hSw => by (try dsimp only at hSw); go_simp⟩) (by assumption) ?_
              (try simp only [Act.put, List.setIfInBounds_toArray, List.set_cons_zero, List.set_cons_succ])
              refine wpAnyH_done (by kernel_rfl) ?_ _
              refine NoPanic.normal ?_
              all_goals
                go_wp2_with fail
                go_roundg (gk - 1)
                case measure => omega
                case rel =>
                  have hB10 := hB9.trans (belowDrewN (Below.refl wr.heap.size w9) q)
                  exact ⟨k + 1, by go_num, by have := HK.out; omega, Lib.hid (hB8.out.trans (hB10.mono hB8.out.size)), Lib.hid (hBB.out.trans (hB10.mono hBB.out.size))⟩
            · have he : P.getD k [] = (playW r order).getD k [] := by
                rw [HPE.out, List.getD_eq_getElem?_getD, List.getElem?_set_ne (Ne.symm hkj), List.getD_eq_getElem?_getD]
              rw [he] at hp9
              have hly : ∀ W, Drew wr W → Calls Try.prog 29 #[v9, v10] W fun e w' => e = .returned (.bool true) ∧ Drew W w' := fun W hW => by
                have := lyInts_any v9 v10 _ _ W (hp9.drew hW) (hp10.drew hW); simpa using this
              have HLY := Lib.hid hly
              clear hly he hp9 hp10
              have e1 : (((k : Int) + 1) == ((j : Int) + 1)) = false := by simp; omega
              have e2 : (((k : Int) + 1) != ((j : Int) + 1)) = true := by simp; omega
              clear hkj
              go_wp2_with fail
              go_quiet ((go_at_call 29; (first | refine quietA (HLY.out _ ?_) | refine quietB (HLY.out _ ?_)); repeat (first | exact Drew.refl _ | assumption | refine Drew.more ?_ _)))
              go_wp2_with fail
              go_roundg (gk - 1)
              case measure => omega
              case rel => exact ⟨k + 1, by go_num, by have := HK.out; omega, Lib.hid (belowDrewN hB8.out _), Lib.hid (belowDrewN hBB.out _)⟩
end Go.Proofs.Ytlkchhedlbaomaa
