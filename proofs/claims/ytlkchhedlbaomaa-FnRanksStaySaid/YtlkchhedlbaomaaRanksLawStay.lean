/- The walk of FnRanksStay. -/
import Derived.Test.YtlkchhedlbaomaaRanksLawPick
import Derived.Test.YtlkchhedlbaomaaRanksLy
import Derived.Test.YtlkchhedlbaomaaRanksWays2
namespace Go.Proofs.Ytlkchhedlbaomaa
open Go.RowKit
set_option linter.unusedVariables false

set_option maxRecDepth 100000 in
set_option maxHeartbeats 8000000 in
theorem ranksStay_walk (a : Option Addr) (len cap : Nat) (zs : List Int) (a2 : Option Addr) (len2 cap2 : Nat) (zs2 : List Int) (w : World) (h : IsRow .u8 w a len cap zs) (h2 : IsRow .u8 w a2 len2 cap2 zs2) :
    Calls Try.prog 6 #[.slice a len cap, .slice a2 len2 cap2] w fun e w' => e = .returned (.bool true) ∧ Below w.heap.size w w' := by
  obtain ⟨hm, hc⟩ := h.bounds
  have hc' := hc
  unfold maxLen at hc'
  obtain ⟨hm2, hc2⟩ := h2.bounds
  have hc2' := hc2
  unfold maxLen at hc2'
  have H := Lib.hid h
  have BB := Lib.hid (Below.refl w.heap.size w)
  clear h
  obtain ⟨i0, hi, hz0, hz1, hz2⟩ := info_parts info_intR
  go_enter Try.func6, Try.ntmps6
  by_cases hl : 1048576 < len ∨ 1048576 < len2
  · by_cases hl1 : 1048576 < len
    · go_wp2_with fail
      go_ret
      exact ⟨rfl, Below.refl _ _⟩
    · have hl2 : 1048576 < len2 := by omega
      clear hl
      go_wp2_with fail
      go_ret
      exact ⟨rfl, Below.refl _ _⟩
  · have hl1 : ¬ 1048576 < len := by omega
    have hl2 : ¬ 1048576 < len2 := by omega
    clear hl
    go_wp2_with fail
    refine (drawPlay_any _ _ _ zs _ H.out).mono ?_
    rintro e w1 ⟨v, ub, uc, r, order, rfl, hg, hu, hb⟩
    obtain ⟨va, vc, e', hvc, hvm⟩ := hg.form
    subst e'
    obtain ⟨_, huc, hum⟩ := hu.len
    have G := Lib.hid hg
    have U := Lib.hid hu
    have BB := Lib.hid (BB.out.trans (hb.mono BB.out.size))
    clear hg hu hb
    obtain ⟨P, hP⟩ : ∃ P, (playF r order).1 = P := ⟨_, rfl⟩
    obtain ⟨d, hd⟩ : ∃ d, (playF r order).2 = d := ⟨_, rfl⟩
    have himpl : ∀ W, Below w1.heap.size w1 W → Calls Try.prog 27 #[.slice va r.length vc, .slice (some ⟨ub, 0, none⟩) order.length uc] W fun e w' => ∃ v', e = .returned (.tuple #[v', .bool d]) ∧ WaysOwn w' W.heap.size v' P ∧ Below W.heap.size W w' := fun W hW => by rw [← hP, ← hd]; exact implPlay_any _ _ r order W (G.out.below hW) (U.out.below hW)
    have hspec := specPlay_any _ _ r order w1 G.out U.out
    have hspec' : Calls Try.prog 26 #[.slice va r.length vc, .slice (some ⟨ub, 0, none⟩) order.length uc] w1 fun e w' => ∃ v', e = .returned (.tuple #[v', .bool d]) ∧ WaysOwn w' w1.heap.size v' P ∧ Below w1.heap.size w1 w' := by rw [← hP, ← hd]; exact hspec
    have HIM := Lib.hid himpl
    have HSP := Lib.hid hspec'
    have HPP := Lib.hid hP
    have HDD := Lib.hid hd
    have B1 := Lib.hid (Below.refl w1.heap.size w1)
    clear himpl hspec hspec' hP hd
    go_wp2_with fail
    refine (HSP.out).mono ?_
    rintro e w2 ⟨v2, rfl, ho, hb⟩
    obtain ⟨sa2, sc2, e', _, _⟩ := ho.rowsAt.form
    subst e'
    have W0 := Lib.hid ho.rowsAt
    have BB := Lib.hid (BB.out.trans (hb.mono BB.out.size))
    have B1 := Lib.hid (B1.out.trans (hb.mono B1.out.size))
    clear ho hb
    go_wp2_with fail
    refine (HIM.out _ B1.out).mono ?_
    rintro e w3 ⟨v3, rfl, ho, hb⟩
    obtain ⟨sa3, sc3, e', hsc3, hsm3⟩ := ho.rowsAt.form
    subst e'
    have X0 := Lib.hid ho.rowsAt
    have W0 := Lib.hid (W0.out.below hb)
    have BB := Lib.hid (BB.out.trans (hb.mono BB.out.size))
    have B1 := Lib.hid (B1.out.trans (hb.mono B1.out.size))
    clear ho hb
    have hdd : (d != d) = false := by simp
    have hde : (d == d) = true := by simp
    cases d
    · go_wp2_with (go_at_call 28; refine (lyWaysOne _ _ _ X0.out W0.out).mono ?_; rintro e w4 ⟨rfl, q4, rfl⟩)
      refine (lyWaysOne _ _ _ (X0.out.drew ⟨_, rfl⟩) (W0.out.drew ⟨_, rfl⟩)).mono ?_
      rintro e w5 ⟨rfl, q5, rfl⟩
      go_wp2_with fail
      go_ret
      exact ⟨rfl, belowDrewN BB.out _⟩
    · go_wp2_with fail
      refine (lyWaysOne _ _ _ X0.out W0.out).mono ?_
      rintro e w4 ⟨rfl, hd4⟩
      have X0 := Lib.hid (X0.out.drew hd4)
      have BB := Lib.hid (BB.out.trans (hd4.below _))
      have B1 := Lib.hid (B1.out.trans (hd4.below _))
      clear hd4 W0
      have hyes : ranksOk r = true ∧ orderOk order = true := by
        by_cases h : ranksOk r = true ∧ orderOk order = true
        · exact h
        · have e := HDD.out; rw [playF_no h] at e; cases e
      have hP : P = playW r order := by rw [← HPP.out, playF_yes hyes.1 hyes.2]
      subst hP
      have hol := orderOk_len hyes.2
      have hpl := playW_len r order
      have hr3 := ranksOk_len hyes.1
      rw [hpl] at X0 hsc3 ⊢
      have hlen := order.length
      obtain ⟨b2, hb2⟩ : ∃ b, ranksStillF r (playW r order) = b := ⟨_, rfl⟩
      have hst := implStill_any _ _ r _ w4 (G.out.below B1.out) X0.out
      rw [hb2] at hst
      have HST := Lib.hid hst
      have HB2 := Lib.hid hb2
      have HY := Lib.hid hyes
      clear hst hb2 hyes hpl hr3 hlen
      cases b2
      · go_wp2_with (go_at_call 31; refine (HST.out).mono ?_; rintro e w5 ⟨rfl, hb⟩)
        go_ret
        exact ⟨rfl, BB.out.trans (hb.mono BB.out.size)⟩
      · by_cases ho50 : 50 < order.length
        · have ho50' : (50 : Int) < (order.length : Int) := by omega
          go_wp2_with (go_at_call 31; refine (HST.out).mono ?_; rintro e w5 ⟨rfl, hb⟩)
          go_ret
          exact ⟨rfl, BB.out.trans (hb.mono BB.out.size)⟩
        · have ho50' : ¬ (50 : Int) < (order.length : Int) := by omega
          go_wp2_with fail
          refine (HST.out).mono ?_
          rintro e w5 ⟨rfl, hb⟩
          have X0 := Lib.hid (X0.out.below hb)
          have BB := Lib.hid (BB.out.trans (hb.mono BB.out.size))
          have B1 := Lib.hid (B1.out.trans (hb.mono B1.out.size))
          clear hb
          obtain ⟨n, hn⟩ : ∃ n, order.length = n := ⟨_, rfl⟩
          have hU := U.out
          have hHIM := HIM.out
          rw [hn] at hU ho50 ho50' hol huc hHIM ⊢
          have UU := Lib.hid hU
          have HN := Lib.hid hn
          clear hU hn hHIM HIM HSP
          obtain ⟨x1, hx1⟩ : ∃ x : Int, 1 + (len2 : Int) % 3 = x := ⟨_, rfl⟩
          obtain ⟨x2, hx2⟩ : ∃ x : Int, 1 + (len2 : Int) / 3 % 3 = x := ⟨_, rfl⟩
          obtain ⟨x3, hx3⟩ : ∃ x : Int, 1 + (len2 : Int) / 9 % 3 = x := ⟨_, rfl⟩
          have hx : (1 ≤ x1 ∧ x1 ≤ 3) ∧ (1 ≤ x2 ∧ x2 ≤ 3) ∧ (1 ≤ x3 ∧ x3 ≤ 3) := by omega
          have hord : orderOk (order ++ [x1, x2, x3]) = true := by
            refine orderOk_mk (by have := HN.out; simp; omega) fun k hk => ?_
            rcases Nat.lt_or_ge k order.length with hlt | hge
            · have := orderOk_at HY.out.2 hlt
              have e : (order ++ [x1, x2, x3]).getD k 0 = order.getD k 0 := by simp [List.getElem?_append, hlt]
              rw [e]; exact this
            · have hk3 : k - order.length < 3 := by simp at hk; omega
              have e : (order ++ [x1, x2, x3]).getD k 0 = [x1, x2, x3].getD (k - order.length) 0 := by simp [List.getElem?_append, Nat.not_lt.2 hge]
              rw [e]
              obtain ⟨q, hq⟩ : ∃ q, k - order.length = q := ⟨_, rfl⟩
              rw [hq] at hk3 ⊢
              match q, hk3 with
              | 0, _ => exact hx.1
              | 1, _ => exact hx.2.1
              | 2, _ => exact hx.2.2
          have hsame : playF r (order ++ [x1, x2, x3]) = (playW r order, true) := by
            rw [playF_yes HY.out.1 hord]
            have hstill : stillF r (playW r order) = true := by
              have e := HB2.out
              unfold ranksStillF at e
              rw [Bool.and_eq_true] at e
              exact e.2
            unfold playW at hstill ⊢
            rw [List.foldl_append]
            simp only [List.foldl_cons, List.foldl_nil]
            rw [step_still hstill (by rw [foldW_len]; rfl) hx.1.1 hx.1.2, step_still hstill (by rw [foldW_len]; rfl) hx.2.1.1 hx.2.1.2, step_still hstill (by rw [foldW_len]; rfl) hx.2.2.1 hx.2.2.2]
          have HSAME := Lib.hid hsame
          have hcall : ∀ W u2, Below w5.heap.size w5 W → IntsAt W u2 (order ++ [x1, x2, x3]) → Calls Try.prog 27 #[.slice va r.length vc, u2] W fun e w' => ∃ v', e = .returned (.tuple #[v', .bool true]) ∧ WaysOwn w' W.heap.size v' (playW r order) ∧ Below W.heap.size W w' := fun W u2 hW hu2 => by
            have := implPlay_any _ u2 r (order ++ [x1, x2, x3]) W ((G.out.below B1.out).below hW) hu2
            unfold PlayPost at this
            rw [HSAME.out] at this
            exact this
          have HCALL := Lib.hid hcall
          have U5 := Lib.hid (UU.out.below B1.out)
          have HX1 := Lib.hid hx1
          have HX2 := Lib.hid hx2
          have HX3 := Lib.hid hx3
          have eA : (len2 : Int).tmod 3 = (len2 : Int) % 3 := Int.tmod_eq_emod_of_nonneg (by omega)
          clear hord hsame hcall hx1 hx2 hx3 eA
          go_wp2_with (first
            | (at_builtin; refine wpList_append_own _ rfl (.tmp 70) (.tmp 71) 27 rfl w5.heap.size 3 i0 (.int .i64 0) 1 8 Try.underlying27 hi hz0 hz1 hz2 rfl (by decide) _ _ _ rfl (World.ownsRow_made w5 #[] 0 (Nat.le_refl _) (Nat.zero_le _) rfl) ⟨ub, 0, none⟩ n uc (order.map (Value.int .i64)) rfl (by simpa using HN.out) (ints_src U5.out _) (ints_one _) (by unfold maxLen; omega) (by omega) (by simp) ?_; intro v6 w6 hown6 hgrow6 _; have HW6 := Lib.hid (show w6.ownsRow w5.heap.size 3 1 v6 n (order.map (Value.int .i64)) from by simpa using hown6); have HB6 := Lib.hid (show Below w5.heap.size w5 w6 from Below.grown (w := w5.alloc _) ((Below.refl _ _).alloc (Nat.le_refl _) _) hgrow6 (by simp) (fun k hk => (World.ownsRow.lt (base := w5.heap.size) (e := 3) (size := 1) (World.ownsRow_made w5 #[] 0 (Nat.le_refl _) (Nat.zero_le _) rfl) k hk).1)); clear hown6 hgrow6)
            | (at_builtin; refine wpList_append_own _ rfl (.tmp 72) (.tmp 87) 27 rfl w5.heap.size 3 i0 (.int .i64 0) 1 8 Try.underlying27 hi hz0 hz1 hz2 rfl (by decide) _ _ _ rfl (World.ownsRow.alloc HW6.out _) ⟨w6.heap.size, 0, none⟩ 3 3 [.int .i64 (1 + (len2 : Int) % 3), .int .i64 (1 + (len2 : Int) / 3 % 3), .int .i64 (1 + (len2 : Int) / 9 % 3)] rfl rfl (cells_new w6 _ _) (by simp [Value.oneCell']) (by unfold maxLen; omega) (by omega) (by have := HB6.out.size; simp; omega) ?_; intro v7 w7 hown7 hgrow7 _; have HW7 := Lib.hid hown7; have HB7 := Lib.hid (show Below w5.heap.size w5 w7 from Below.grown (w := w6.alloc _) (HB6.out.alloc HB6.out.size _) hgrow7 (by have := HB6.out.size; simp; omega) (fun k hk => (World.ownsRow.lt HW6.out k hk).1)); clear hown7 hgrow7))
          have hI7 : IntsAt w7 v7 (order ++ [x1, x2, x3]) := by
            refine OwnInts.ints (B := w5.heap.size) ?_
            unfold OwnInts
            rw [List.length_append, HN.out, List.map_append, ← HX1.out, ← HX2.out, ← HX3.out]
            exact HW7.out
          refine (HCALL.out _ _ HB7.out hI7).mono ?_
          rintro e w8 ⟨v8, rfl, ho, hb⟩
          obtain ⟨sa8, sc8, e', _, _⟩ := ho.rowsAt.form
          subst e'
          have X8 := Lib.hid ho.rowsAt
          have X0 := Lib.hid ((X0.out.below HB7.out).below hb)
          have BB := Lib.hid (BB.out.trans ((HB7.out.trans (hb.mono HB7.out.size)).mono BB.out.size))
          clear ho hb hI7
          go_wp2_with fail
          refine (lyWaysOne _ _ _ X8.out X0.out).mono ?_
          rintro e w9 ⟨rfl, hd9⟩
          have BB := Lib.hid (BB.out.trans (hd9.below _))
          clear hd9
          go_wp2_with fail
          go_ret
          exact ⟨rfl, BB.out⟩
end Go.Proofs.Ytlkchhedlbaomaa
