/- The walk of FnRanksLike. -/
import Derived.Test.YtlkchhedlbaomaaRanksLawPick
import Derived.Test.YtlkchhedlbaomaaRanksLy
namespace Go.Proofs.Ytlkchhedlbaomaa
open Go.RowKit
set_option linter.unusedVariables false

set_option maxRecDepth 100000 in
set_option maxHeartbeats 8000000 in
theorem ranksLike_walk (a : Option Addr) (len cap : Nat) (zs : List Int) (w : World) (h : IsRow .u8 w a len cap zs) :
    Calls Try.prog 10 #[.slice a len cap] w fun e w' => e = .returned (.bool true) ∧ Below w.heap.size w w' := by
  obtain ⟨hm, hc⟩ := h.bounds
  have hc' := hc
  unfold maxLen at hc'
  have H := Lib.hid h
  have BB := Lib.hid (Below.refl w.heap.size w)
  clear h
  go_enter Try.func10, Try.ntmps10
  by_cases hl : 1048576 < len
  · go_wp2_with fail
    go_ret
    exact ⟨rfl, Below.refl _ _⟩
  · go_wp2_with fail
    refine (drawPick_any _ _ _ zs _ H.out).mono ?_
    rintro e w1 ⟨v, u, r, ways, h, rfl, h5, hg, hu, hpl, hb⟩
    obtain ⟨va, vc, e', hvc, hvm⟩ := hg.form
    subst e'
    obtain ⟨ua, uc, e', huc, hum⟩ := hu.form
    subst e'
    have G := Lib.hid hg
    have U := Lib.hid hu
    have HPL := Lib.hid hpl
    have BB := Lib.hid (BB.out.trans (hb.mono BB.out.size))
    clear hg hu hpl hb
    obtain ⟨R, hR⟩ : ∃ R, ranksPickF r ways ((h : Int) + 1) = R := ⟨_, rfl⟩
    have hspec : ∀ W, Below w1.heap.size w1 W → Calls Try.prog 36 #[.slice va r.length vc, .slice ua ways.length uc, .int .i64 ((h : Int) + 1)] W fun e w' => ∃ v', e = .returned v' ∧ OwnInts w' W.heap.size v' R ∧ Below W.heap.size W w' := fun W hW => by
      rw [← hR]; exact specPick_any _ _ _ _ _ _ (G.out.below hW) (U.out.below hW)
    have himpl := implPick_any _ _ _ _ ((h : Int) + 1) _ G.out U.out
    rw [hR] at himpl
    obtain ⟨b1, hb1⟩ : ∃ b, ranksOk r = b := ⟨_, rfl⟩
    have hok : ∀ W, Below w1.heap.size w1 W → Calls Try.prog 20 #[.slice va r.length vc] W fun e w' => e = .returned (.bool b1) ∧ Below W.heap.size W w' := fun W hW => by
      rw [← hb1]; exact implRanksOk_any _ _ _ (G.out.below hW)
    have HSP := Lib.hid hspec
    have HIM := Lib.hid himpl
    have HOK := Lib.hid hok
    have HR := Lib.hid hR
    have HB1 := Lib.hid hb1
    have B1 := Lib.hid (Below.refl w1.heap.size w1)
    clear hspec himpl hok hR hb1
    go_wp2_with fail
    refine (HIM.out).mono ?_
    rintro e w2 ⟨v2, rfl, ho, hb⟩
    obtain ⟨sa, sn, sc, e'⟩ := isSlice1 ho
    subst e'
    have P := Lib.hid ho
    have BB := Lib.hid (BB.out.trans (hb.mono BB.out.size))
    have B1 := Lib.hid (B1.out.trans (hb.mono B1.out.size))
    clear ho hb
    go_wp2_with fail
    refine (HSP.out _ B1.out).mono ?_
    rintro e w3 ⟨v3, rfl, ho, hb⟩
    have Q := Lib.hid ho
    have P := Lib.hid (P.out.below hb)
    have BB := Lib.hid (BB.out.trans (hb.mono BB.out.size))
    have B1 := Lib.hid (B1.out.trans (hb.mono B1.out.size))
    clear ho hb
    go_wp2_with fail
    refine (lyOne _ _ _ P.out.ints Q.out.ints).mono ?_
    rintro e w4 ⟨rfl, hb⟩
    have P := Lib.hid (P.out.below hb)
    have BB := Lib.hid (BB.out.trans (hb.mono BB.out.size))
    have B1 := Lib.hid (B1.out.trans (hb.mono B1.out.size))
    clear hb
    go_wp2_with fail
    refine (HOK.out _ B1.out).mono ?_
    rintro e w5 ⟨rfl, hb⟩
    have P := Lib.hid (P.out.below hb)
    have BB := Lib.hid (BB.out.trans (hb.mono BB.out.size))
    have B1 := Lib.hid (B1.out.trans (hb.mono B1.out.size))
    clear hb
    by_cases hmain : b1 = true ∧ ways.length = 3 ∧ h < 3
    · obtain ⟨h1, h3, hh⟩ := hmain
      subst h1
      have hr3 := ranksOk_len HB1.out
      obtain ⟨lo, hlo⟩ := HPL.out
      have hways : waysOk r ways = true := by rw [hlo]; exact playF_ways HB1.out (by rw [← hlo]; exact h3)
      have hRF : pickF (r.getD h []) ways = R := by rw [← HR.out]; exact (ranksPickF_yes HB1.out hways hh).symm
      have hgood := good_of_ranksOk HB1.out hh
      have G5 := G.out.below B1.out
      have U5 := U.out.below B1.out
      rw [hr3] at G5 hvc ⊢
      rw [h3] at U5 huc ⊢
      obtain ⟨b, off, v1, rfl, hb, hx, hr⟩ := G5.get h (by omega)
      obtain ⟨ra, rc, rfl, hrc, hrm⟩ := hr.form
      obtain ⟨row, hrow⟩ : ∃ row, r.getD h [] = row := ⟨_, rfl⟩
      rw [hrow] at hx hr hrc hgood hRF
      obtain ⟨rn, hrn⟩ : ∃ rn, row.length = rn := ⟨_, rfl⟩
      rw [hrn] at hx hr hrc
      have hsn : sn = R.length := by obtain ⟨e1, _, _⟩ := P.out.ints.len; exact e1
      have HROW := Lib.hid hrow
      have HRN := Lib.hid hrn
      have HRR := Lib.hid hr
      have U5 := Lib.hid U5
      have HU3 := Lib.hid h3
      have HG := Lib.hid hgood
      have HRF := Lib.hid hRF
      have HSN := Lib.hid hsn
      clear hrow hrn hr hgood hr3 hlo hways hRF hsn G5
      have h3J : ¬ (3 : Int) < (h : Int) + 1 := by omega
      have i1 : (h : Int) + 1 - 1 = (h : Int) := by omega
      by_cases hR0 : R = []
      · subst hR0
        obtain rfl : sn = 0 := HSN.out
        have hnone : ∀ p, p ∈ row → pickHit ways p = false := pickF_none HG.out HRF.out
        have hly : ∀ W u, RowsAt W (.slice ra rn rc) row → IntsAt W u [(h : Int) + 1, 0] → Calls Try.prog 41 #[.slice ra rn rc, u] W fun e w' => e = .returned (.int .i64 (-1)) ∧ Drew W w' := fun W u h1 h2 => by
          have := lyRank_any _ u row [(h : Int) + 1, 0] W h1 h2
          rw [idxP_miss [] (fun j hj => decide_eq_false (fun e => by
            have hm : row.getD j [] ∈ row := by
              have e2 : row.getD j [] = row[j] := by simp [List.getElem?_eq_getElem hj]
              rw [e2]; exact List.getElem_mem _
            have := hnone _ hm
            rw [e] at this
            unfold pickHit at this
            simp at this))] at this
          exact this
        have HLY := Lib.hid hly
        clear hly hnone
        go_wp2_with fail
        refine (HLY.out _ _ ((HRR.out.below ((Below.refl _ _).alloc (Nat.le_refl _) _))) (ints_lit w5 _ 0 rfl (Nat.zero_le _) [(h : Int) + 1, 0] (by simp)).1).mono ?_
        rintro e w6 ⟨rfl, hd⟩
        have HD := Lib.hid hd
        clear hd
        go_wp2_with fail
        go_ret
        exact ⟨rfl, (BB.out.alloc BB.out.size _).trans (HD.out.below _)⟩
      · have hmem := pickF_hit' HRF.out hR0
        obtain ⟨kk, hkk, hke⟩ := List.getElem_of_mem hmem
        have hge : 0 ≤ idxP (fun x => decide (x = R)) row := by
          have := idxP_nonneg (fun x => decide (x = R)) row
          have h2 : row.any (fun x => decide (x = R)) = true := by rw [List.any_eq_true]; exact ⟨R, hmem, by simp⟩
          rw [h2] at this; simpa using this
        obtain ⟨q, hq⟩ : ∃ q, idxP (fun x => decide (x = R)) row = q := ⟨_, rfl⟩
        have hly : ∀ W, Drew w5 W → Calls Try.prog 41 #[.slice ra rn rc, .slice sa sn sc] W fun e w' => e = .returned (.int .i64 q) ∧ Drew W w' := fun W hW => by
          rw [← hq]; exact lyRank_any _ _ row R W (HRR.out.drew hW) (P.out.ints.drew hW)
        rw [hq] at hge
        have hwo : wayOk R ((h : Int) + 1) = true := by
          have h1 := (rankOk_iff.1 (ranksOk_rank HB1.out hh)).2 kk (by rw [HROW.out]; exact hkk)
          rw [HROW.out] at h1
          have e : row.getD kk [] = R := by simp [List.getElem?_eq_getElem hkk, hke]
          rw [e] at h1; exact h1.1
        obtain ⟨e2, e0, el⟩ := wayOk_ends hwo
        have hP := P.out.ints
        rw [← HSN.out] at e2 el
        obtain ⟨sb, soff, rfl, hsb, hs0⟩ := hP.get 0 (by omega)
        obtain ⟨sb', soff', e, hsb', hs1⟩ := hP.get (sn - 1) (by omega)
        simp only [Option.some.injEq, Addr.mk.injEq] at e
        obtain ⟨rfl, rfl, _⟩ := e
        rw [e0, Nat.add_zero] at hs0
        rw [el] at hs1
        obtain ⟨t, rfl⟩ : ∃ t, sn = t + 2 := ⟨sn - 2, by omega⟩
        rw [show t + 2 - 1 = t + 1 by omega] at hs1
        have hR4 : t ≤ 2 := by have := ranksPickF_len r ways ((h : Int) + 1); rw [HR.out, ← HSN.out] at this; omega
        have HLY := Lib.hid hly
        clear hly hq hmem hkk hke hwo e0 el hR0 hP
        have hbe : (((h : Int) + 1) == ((h : Int) + 1)) = true := by simp
        have ht0 : (((t : Int) + 2) == 0) = false := by simp; omega
        go_wp2_with (go_at_call 41; refine (HLY.out _ (Drew.refl _)).mono ?_; rintro e w6 ⟨rfl, q6, rfl⟩)
        go_ret
        exact ⟨rfl, belowDrewN BB.out q6⟩
    · have hfin : ∀ W, Below w5.heap.size w5 W → Hid (IntsAt W (.slice sa sn sc) R) := fun W hW => Lib.hid (P.out.ints.below hW)
      have HF := Lib.hid hfin
      clear hfin
      have hrest : b1 = false ∨ (b1 = true ∧ ¬ ways.length = 3) ∨ (b1 = true ∧ ways.length = 3 ∧ ¬ h < 3) := by
        cases b1 <;> simp at hmain ⊢
        by_cases h3 : ways.length = 3
        · exact .inr ⟨h3, hmain h3⟩
        · exact .inl h3
      clear hmain
      rcases hrest with e | ⟨e, h3⟩ | ⟨e, h3, hh⟩
      all_goals
        subst e
        first
          | (have hx3 : ((ways.length : Int) != 3) = true := by simp; omega)
          | (have hx3 : ((ways.length : Int) != 3) = false := by simp; omega
             have hx4 : (3 : Int) < (h : Int) + 1 := by omega)
          | skip
        try clear h3
        try clear hh
        go_wp2_with fail
        refine (HSP.out _ B1.out).mono ?_
        rintro e w6 ⟨v6, rfl, ho, hb⟩
        have Q := Lib.hid ho
        have P := Lib.hid (P.out.below hb)
        have BB := Lib.hid (BB.out.trans (hb.mono BB.out.size))
        clear ho hb
        go_wp2_with fail
        refine (lyOne _ _ _ P.out.ints Q.out.ints).mono ?_
        rintro e w7 ⟨rfl, hb⟩
        go_wp2_with fail
        go_ret
        exact ⟨rfl, BB.out.trans (hb.mono BB.out.size)⟩
end Go.Proofs.Ytlkchhedlbaomaa
