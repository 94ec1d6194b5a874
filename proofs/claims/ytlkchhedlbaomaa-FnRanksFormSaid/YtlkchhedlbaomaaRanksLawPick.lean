/- The walk of FnRanksPick. -/
import Derived.Test.YtlkchhedlbaomaaRanksDraws2
import Derived.Test.YtlkchhedlbaomaaRanksPlain3
import Derived.Test.YtlkchhedlbaomaaRanksInts
namespace Go.Proofs.Ytlkchhedlbaomaa
open Go.RowKit
set_option linter.unusedVariables false

theorem lyOne {l : List Int} : ∀ W u u2, IntsAt W u l → IntsAt W u2 l → Calls Try.prog 29 #[u, u2] W fun e w' => e = .returned (.bool true) ∧ Below W.heap.size W w' := fun W u u2 hu hu2 => by
  have := drew_below (lyInts_any u u2 l l W hu hu2); simpa using this

set_option maxRecDepth 100000 in
set_option maxHeartbeats 8000000 in
theorem ranksPick_walk (a : Option Addr) (len cap : Nat) (zs : List Int) (w : World) (h : IsRow .u8 w a len cap zs) :
    Calls Try.prog 8 #[.slice a len cap] w fun e w' => e = .returned (.bool true) ∧ Below w.heap.size w w' := by
  obtain ⟨hm, hc⟩ := h.bounds
  have hc' := hc
  unfold maxLen at hc'
  have H := Lib.hid h
  have BB := Lib.hid (Below.refl w.heap.size w)
  clear h
  go_enter Try.func8, Try.ntmps8
  by_cases hl : 1048576 < len
  · go_wp2_with fail
    go_ret
    exact ⟨rfl, Below.refl _ _⟩
  · go_wp2_with fail
    refine (drawPick_any _ _ _ zs _ H.out).mono ?_
    rintro e w1 ⟨v, u, r, ways, h, rfl, h5, hg, hu, hpl, hb⟩
    obtain ⟨va, vc, e', hvc, hvm⟩ := hg.form
    subst e'
    obtain ⟨ua, uc, e', huc, hum⟩ := hu.form
    subst e'
    have G := Lib.hid hg
    have U := Lib.hid hu
    have HPL := Lib.hid hpl
    have BB := Lib.hid (BB.out.trans (hb.mono BB.out.size))
    clear hg hu hpl hb
    obtain ⟨R, hR⟩ : ∃ R, ranksPickF r ways ((h : Int) + 1) = R := ⟨_, rfl⟩
    have hspec : ∀ W, Below w1.heap.size w1 W → Calls Try.prog 36 #[.slice va r.length vc, .slice ua ways.length uc, .int .i64 ((h : Int) + 1)] W fun e w' => ∃ v', e = .returned v' ∧ OwnInts w' W.heap.size v' R ∧ Below W.heap.size W w' := fun W hW => by
      rw [← hR]; exact specPick_any _ _ _ _ _ _ (G.out.below hW) (U.out.below hW)
    have himpl := implPick_any _ _ _ _ ((h : Int) + 1) _ G.out U.out
    rw [hR] at himpl
    obtain ⟨b1, hb1⟩ : ∃ b, ranksOk r = b := ⟨_, rfl⟩
    have hok : ∀ W, Below w1.heap.size w1 W → Calls Try.prog 20 #[.slice va r.length vc] W fun e w' => e = .returned (.bool b1) ∧ Below W.heap.size W w' := fun W hW => by
      rw [← hb1]; exact implRanksOk_any _ _ _ (G.out.below hW)
    have HSP := Lib.hid hspec
    have HIM := Lib.hid himpl
    have HOK := Lib.hid hok
    have HR := Lib.hid hR
    have HB1 := Lib.hid hb1
    have B1 := Lib.hid (Below.refl w1.heap.size w1)
    clear hspec himpl hok hR hb1
    go_wp2_with fail
    refine (HIM.out).mono ?_
    rintro e w2 ⟨v2, rfl, ho, hb⟩
    obtain ⟨sa, sn, sc, e'⟩ := isSlice1 ho
    subst e'
    have P := Lib.hid ho
    have BB := Lib.hid (BB.out.trans (hb.mono BB.out.size))
    have B1 := Lib.hid (B1.out.trans (hb.mono B1.out.size))
    clear ho hb
    go_wp2_with fail
    refine (HSP.out _ B1.out).mono ?_
    rintro e w3 ⟨v3, rfl, ho, hb⟩
    have Q := Lib.hid ho
    have P := Lib.hid (P.out.below hb)
    have BB := Lib.hid (BB.out.trans (hb.mono BB.out.size))
    have B1 := Lib.hid (B1.out.trans (hb.mono B1.out.size))
    clear ho hb
    go_wp2_with fail
    refine (lyOne _ _ _ P.out.ints Q.out.ints).mono ?_
    rintro e w4 ⟨rfl, hb⟩
    have P := Lib.hid (P.out.below hb)
    have BB := Lib.hid (BB.out.trans (hb.mono BB.out.size))
    have B1 := Lib.hid (B1.out.trans (hb.mono B1.out.size))
    clear hb
    go_wp2_with fail
    refine (HOK.out _ B1.out).mono ?_
    rintro e w5 ⟨rfl, hb⟩
    have P := Lib.hid (P.out.below hb)
    have BB := Lib.hid (BB.out.trans (hb.mono BB.out.size))
    have B1 := Lib.hid (B1.out.trans (hb.mono B1.out.size))
    clear hb
    by_cases hmain : b1 = true ∧ ways.length = 3 ∧ h < 3
    · obtain ⟨h1, h3, hh⟩ := hmain
      subst h1
      have hr3 := ranksOk_len HB1.out
      obtain ⟨lo, hlo⟩ := HPL.out
      have hways : waysOk r ways = true := by rw [hlo]; exact playF_ways HB1.out (by rw [← hlo]; exact h3)
      have hRF : pickF (r.getD h []) ways = R := by rw [← HR.out]; exact (ranksPickF_yes HB1.out hways hh).symm
      have hgood := good_of_ranksOk HB1.out hh
      have G5 := G.out.below B1.out
      have U5 := U.out.below B1.out
      rw [hr3] at G5 hvc ⊢
      rw [h3] at U5 huc ⊢
      obtain ⟨b, off, v1, rfl, hb, hx, hr⟩ := G5.get h (by omega)
      obtain ⟨ra, rc, rfl, hrc, hrm⟩ := hr.form
      obtain ⟨row, hrow⟩ : ∃ row, r.getD h [] = row := ⟨_, rfl⟩
      rw [hrow] at hx hr hrc hgood hRF
      obtain ⟨rn, hrn⟩ : ∃ rn, row.length = rn := ⟨_, rfl⟩
      rw [hrn] at hx hr hrc
      have hsn : sn = R.length := by obtain ⟨e1, _, _⟩ := P.out.ints.len; exact e1
      have HRN := Lib.hid hrn
      have HRR := Lib.hid hr
      have U5 := Lib.hid U5
      have HU3 := Lib.hid h3
      have HG := Lib.hid hgood
      have HRF := Lib.hid hRF
      have HSN := Lib.hid hsn
      clear hrow hrn hr hgood hr3 hlo hways hRF hsn G5
      have h3I : (h : Int) + 1 ≤ 3 := by omega
      have h3J : ¬ (3 : Int) < (h : Int) + 1 := by omega
      have i1 : (h : Int) + 1 - 1 = (h : Int) := by omega
      go_wp2_with fail
      go_loopg [7] rn (fun g i wr => ∃ k m : Nat, i = .int .i64 k ∧ k + g = rn ∧ wr = w5.drewN m ∧ Hid (∀ j, j < k → pickHit ways (row.getD j []) = false))
      case atStart => exact ⟨0, 0, rfl, by omega, rfl, Lib.hid fun j hj => by omega⟩
      case round =>
        obtain ⟨k, m, rfl, hk, rfl, hno⟩ := hrel
        by_cases hg : gk = 0
        · subst hg
          obtain rfl : k = rn := by omega
          have e := HRF.out
          rw [pickF_miss (by rw [HRN.out]; exact hno.out)] at e
          have hs0 : sn = 0 := by rw [HSN.out, ← e]; rfl
          subst hs0
          clear e
          go_wp2_with fail
          go_ret
          exact ⟨rfl, belowDrewN BB.out m⟩
        · have hkn : k < rn := by omega
          obtain ⟨rb, roff, v2, rfl, hrb, hx2, hp⟩ := HRR.out.get k hkn
          obtain ⟨pa, pc, rfl, hpc, hpm⟩ := hp.form
          obtain ⟨p, hpp⟩ : ∃ p, row.getD k [] = p := ⟨_, rfl⟩
          rw [hpp] at hx2 hp hpc
          have hgw : GoodWay p := HG.out p (by
            have e : row.getD k [] = row[k]'(by rw [HRN.out]; exact hkn) := by simp [List.getElem?_eq_getElem (by rw [HRN.out]; exact hkn : k < row.length)]
            rw [← hpp, e]; exact List.getElem_mem _)
          obtain ⟨gl, gu, gs⟩ := hgw
          obtain ⟨q, hq⟩ : ∃ q, p.length = q + 2 := ⟨p.length - 2, by omega⟩
          rw [hq] at hx2 hp hpc gl gu
          obtain ⟨pb, poff, rfl, hpb, hx3⟩ := hp.get 1 (by omega)
          have hd := hp.drop1 (by omega)
          obtain ⟨y, hy⟩ : ∃ y, p.getD 1 0 = y := ⟨_, rfl⟩
          rw [hy] at hx3 gs
          have HPP := Lib.hid hpp
          have HY := Lib.hid hy
          have HK := Lib.hid hk
          have HP := Lib.hid hp
          have HD := Lib.hid hd
          clear hpp hy hq hk hp hd
          have hlast : pickHit ways p = true → ∀ W, Drew w5 W → Calls Try.prog 29 #[.slice sa sn sc, .slice (some ⟨pb, poff, none⟩) (q + 2) pc] W fun e w' => e = .returned (.bool true) ∧ Below W.heap.size W w' := fun hh W hW => by
            have e := pickF_hit (by rw [HRN.out]; exact hkn) (by rw [HPP.out]; exact hh) hno.out
            rw [HPP.out, HRF.out] at e
            have hP := P.out.ints
            rw [e] at hP
            exact lyOne W _ _ (hP.drew hW) (HP.out.drew hW)
          have HLAST := Lib.hid hlast
          clear hlast
          by_cases y0 : y = 0
          · subst y0
            have hhit : pickHit ways p = true := by unfold pickHit; rw [HY.out]; simp
            have HH := Lib.hid hhit
            clear hhit
            go_wp2_with fail
            go_quiet (fail)
            go_wp2_with (go_at_call 29; refine (HLAST.out HH.out _ ?_).mono ?_; (repeat (first | exact Drew.refl _ | assumption | refine Drew.more ?_ _)); rintro e w6 ⟨rfl, hb6⟩)
            go_ret
            exact ⟨rfl, (belowDrewN BB.out _).trans (hb6.mono BB.out.size)⟩
          · obtain ⟨j, rfl⟩ : ∃ j : Nat, y = (j : Int) + 1 := ⟨(y - 1).toNat, by omega⟩
            have hj3 : j < 3 := by omega
            obtain ⟨ub, uoff, v3, rfl, hub, hx4, hw⟩ := U5.out.get j hj3
            obtain ⟨wv, hwv⟩ : ∃ x, ways.getD j [] = x := ⟨_, rfl⟩
            rw [hwv] at hw
            obtain ⟨c, hcc⟩ : ∃ c, decide (p.drop 1 = wv) = c := ⟨_, rfl⟩
            have heq : ∀ W, Drew w5 W → Calls Try.prog 29 #[.slice (some ⟨pb, poff + 1, none⟩) (q + 2 - 1) (pc - 1), v3] W fun e w' => e = .returned (.bool c) ∧ Drew W w' := fun W hW => by
              rw [← hcc]; exact lyInts_any _ _ _ _ _ (HD.out.drew hW) (hw.drew hW)
            have hph : pickHit ways p = c := by
              unfold pickHit
              rw [HY.out, ← hcc]
              have e1 : ((j : Int) + 1 - 1).toNat = j := by omega
              rw [e1, hwv]
              have e2 : decide ((j : Int) + 1 = 0) = false := by simp; omega
              rw [e2, Bool.false_or, Bool.eq_iff_iff, decide_eq_true_eq, decide_eq_true_eq]
              exact eq_comm
            have HPH := Lib.hid hph
            have HEQ := Lib.hid heq
            clear hwv hw hcc heq hph gs
            have yb : (((j : Int) + 1) == 0) = false := by simp; omega
            cases c
            · go_wp2_with fail
              go_quiet ((go_at_call 29; (first | refine quietA (HEQ.out _ ?_) | refine quietB (HEQ.out _ ?_)); repeat (first | exact Drew.refl _ | assumption | refine Drew.more ?_ _)))
              go_wp2_with fail
              go_roundg (gk - 1)
              case measure => omega
              case rel =>
                refine ⟨k + 1, m + nq, by go_num, by have := HK.out; omega, rfl, Lib.hid fun i hi => ?_⟩
                by_cases hik : i = k
                · subst hik; rw [HPP.out, HPH.out]
                · exact hno.out i (by omega)
            · go_wp2_with fail
              go_quiet ((go_at_call 29; (first | refine quietA (HEQ.out _ ?_) | refine quietB (HEQ.out _ ?_)); repeat (first | exact Drew.refl _ | assumption | refine Drew.more ?_ _)))
              go_wp2_with (go_at_call 29; refine (HLAST.out HPH.out _ ?_).mono ?_; (repeat (first | exact Drew.refl _ | assumption | refine Drew.more ?_ _)); rintro e w6 ⟨rfl, hb6⟩)
              go_ret
              exact ⟨rfl, (belowDrewN BB.out _).trans (hb6.mono BB.out.size)⟩
    · have hfin : ∀ W, Below w5.heap.size w5 W → Hid (IntsAt W (.slice sa sn sc) R) := fun W hW => Lib.hid (P.out.ints.below hW)
      have HF := Lib.hid hfin
      clear hfin
      have hrest : b1 = false ∨ (b1 = true ∧ ¬ ways.length = 3) ∨ (b1 = true ∧ ways.length = 3 ∧ ¬ h < 3) := by
        cases b1 <;> simp at hmain ⊢
        by_cases h3 : ways.length = 3
        · exact .inr ⟨h3, hmain h3⟩
        · exact .inl h3
      clear hmain
      rcases hrest with e | ⟨e, h3⟩ | ⟨e, h3, hh⟩
      all_goals
        subst e
        first
          | (have hx3 : ((ways.length : Int) != 3) = true := by simp; omega)
          | (have hx3 : ((ways.length : Int) != 3) = false := by simp; omega
             have hx4 : (3 : Int) < (h : Int) + 1 := by omega)
          | skip
        try clear h3
        try clear hh
        go_wp2_with fail
        refine (HSP.out _ B1.out).mono ?_
        rintro e w6 ⟨v6, rfl, ho, hb⟩
        have Q := Lib.hid ho
        have P := Lib.hid (P.out.below hb)
        have BB := Lib.hid (BB.out.trans (hb.mono BB.out.size))
        clear ho hb
        go_wp2_with fail
        refine (lyOne _ _ _ P.out.ints Q.out.ints).mono ?_
        rintro e w7 ⟨rfl, hb⟩
        go_wp2_with fail
        go_ret
        exact ⟨rfl, BB.out.trans (hb.mono BB.out.size)⟩
end Go.Proofs.Ytlkchhedlbaomaa
