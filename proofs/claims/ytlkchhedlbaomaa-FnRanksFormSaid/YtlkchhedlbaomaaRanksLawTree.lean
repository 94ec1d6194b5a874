/- The walk of FnRanksTree. -/
import Derived.Test.YtlkchhedlbaomaaRanksLawPick
import Derived.Test.YtlkchhedlbaomaaRanksPlain5
import Derived.Test.YtlkchhedlbaomaaRanksManyI
import Derived.Test.YtlkchhedlbaomaaRanksManyS2
import Derived.Test.YtlkchhedlbaomaaRanksGrid
namespace Go.Proofs.Ytlkchhedlbaomaa
open Go.RowKit
set_option linter.unusedVariables false

def TabPost (w : World) (e : Ending) (w' : World) : Prop := ∃ v r, e = .returned v ∧ TableIn w' w.heap.size v r ∧ Below w.heap.size w w'
set_option maxHeartbeats 1000000 in
theorem drawMany_tab (a : Option Addr) (len cap : Nat) (zs : List Int) (w : World) (h : IsRow .u8 w a len cap zs) :
    Calls Try.prog 32 #[.slice a len cap] w (TabPost w) := by
  obtain ⟨hm, hc⟩ := h.bounds
  have H := Lib.hid h
  clear h
  go_enter Try.func32, Try.ntmps32
  go_wp2_with fail
  refine (l6Open_any _ _ _ zs _ H.out hm hc).mono ?_
  rintro e w1 ⟨len', rfl, hw1, hr⟩
  have hO0 : Only w.heap.size w w1 := by rw [hw1]; exact (Only.refl _ _).alloc _
  have hs1 : w.heap.size ≤ w1.heap.size := hO0.size
  have R := Lib.hid hr
  have O1 := Lib.hid hO0
  clear hr hO0 hw1
  go_wp2_with fail
  refine (l92Ranks_any _ _ _ _ zs 0 _ (by omega) R.out).mono ?_
  rintro e w2 ⟨v, lll, p', rfl, hl, ht, hr, hp, hO⟩
  have hb : Below w.heap.size w w2 := (O1.out.trans hO).below (Nat.le_refl _) (Nat.le_refl _)
  obtain ⟨va, vc, e', _, _⟩ := ht.grid.form
  subst e'
  have HT := Lib.hid ht
  clear hl ht hr hO
  go_wp2_with fail
  go_ret
  exact ⟨_, lll, rfl, HT.out.low hs1, hb⟩
/-- just ways by lesser houses, of k houses; of the first j ways of one -/
def lessT (r : List (List (List Int))) (k : Nat) : List (List (List Int)) := (List.range k).map fun h => (r.getD h []).filter fun p => decide (p.getD 1 0 < (h : Int) + 1)
theorem lessT_len (r : List (List (List Int))) (k : Nat) : (lessT r k).length = k := by simp [lessT]
theorem lessT_succ (r : List (List (List Int))) (k : Nat) : lessT r (k + 1) = lessT r k ++ [(r.getD k []).filter fun p => decide (p.getD 1 0 < (k : Int) + 1)] := by simp [lessT, List.range_succ]
theorem lessT_three (r : List (List (List Int))) : lessT r 3 = lessF r := rfl
theorem filter_take (row : List (List Int)) (P : List Int → Bool) (j : Nat) (hj : j < row.length) : (row.take (j + 1)).filter P = (row.take j).filter P ++ (if P (row.getD j []) = true then [row.getD j []] else []) := by
  rw [List.take_succ_eq_append_getElem hj, List.filter_append]
  have e : row.getD j [] = row[j] := by rw [List.getD_eq_getElem?_getD, List.getElem?_eq_getElem hj]; rfl
  rw [e]
  by_cases hp : P row[j] = true
  · rw [if_pos hp]; simp [hp]
  · rw [if_neg hp]; simp [hp]

set_option maxRecDepth 100000 in
set_option maxHeartbeats 8000000 in
theorem ranksTree_walk (a : Option Addr) (len cap : Nat) (zs : List Int) (w : World) (h : IsRow .u8 w a len cap zs) :
    Calls Try.prog 7 #[.slice a len cap] w fun e w' => e = .returned (.bool true) ∧ Below w.heap.size w w' := by
  obtain ⟨hm, hc⟩ := h.bounds
  have hc' := hc
  unfold maxLen at hc'
  have H := Lib.hid h
  clear h
  go_enter Try.func7, Try.ntmps7
  by_cases hl : 1048576 < len
  · go_wp2_with fail
    go_ret
    exact ⟨rfl, Below.refl _ _⟩
  · go_wp2_with fail
    refine (drawMany_tab _ _ _ zs _ H.out).mono ?_
    rintro e w1 ⟨v, r, rfl, ht, hb⟩
    obtain ⟨va, vc, e', hvc, hvm⟩ := ht.grid.form
    subst e'
    have TB := Lib.hid ht
    have BB := Lib.hid hb
    clear ht hb
    obtain ⟨N, hN⟩ : ∃ N, manyF r = N := ⟨_, rfl⟩
    have himpl := implMany_any _ r w1 TB.out.grid
    have hspec : ∀ W, Below w1.heap.size w1 W → Calls Try.prog 34 #[.slice va r.length vc] W fun e w' => e = .returned (.int .i64 N) ∧ Below W.heap.size W w' := fun W hW => by
      rw [← hN]; exact specMany_any _ r W (TB.out.grid.below hW)
    rw [hN] at himpl
    have HIM := Lib.hid himpl
    have HSP := Lib.hid hspec
    have HN := Lib.hid hN
    have hne : (N != N) = false := by simp
    have heq : (N == N) = true := by simp
    clear himpl hspec hN
    go_wp2_with fail
    refine (HIM.out).mono ?_
    rintro e w2 ⟨rfl, hb⟩
    have B1 := Lib.hid hb
    have BB := Lib.hid (BB.out.trans (hb.mono BB.out.size))
    clear hb
    by_cases hok : ranksOk r = true
    · have hNT : N = (totP r 3 [] : Nat) := by rw [← HN.out]; exact manyF_yes hok
      have hN0 : ¬ N < 0 := by omega
      have hr3 := ranksOk_len hok
      have hlm := implMany_any
      have hgood := fun h (hh : h < 3) => good_of_ranksOk hok hh
      have HOK := Lib.hid hok
      have HR3 := Lib.hid hr3
      have HG := Lib.hid hgood
      rw [hr3] at hvc TB HSP ⊢
      clear hNT hok hr3 hlm hgood
      go_wp2_with fail
      refine (HSP.out _ B1.out).mono ?_
      rintro e w3 ⟨rfl, hb⟩
      have BB := Lib.hid (BB.out.trans (hb.mono BB.out.size))
      have B1 := Lib.hid (B1.out.trans (hb.mono B1.out.size))
      have T3 := Lib.hid (TB.out.below B1.out)
      clear hb
      obtain ⟨lo, hlo⟩ : ∃ lo, w3.heap.size = lo := ⟨_, rfl⟩
      obtain ⟨i2, hi2, hz20, hz21, hz22⟩ := info_parts info_r3D
      obtain ⟨i0, hi, hz0, hz1, hz2⟩ := info_parts info_r2P
      have h0 : Hid (GridOwn (w3.alloc (.cells #[] 26)) lo w.heap.size (.slice (some ⟨w3.heap.size, 0, none⟩) 0 0) (lessT r 0)) := Lib.hid ⟨[], rfl, World.ownsRow_made w3 #[] 0 (by omega) (Nat.zero_le _) rfl, fun i hi => absurd hi (by simp [lessT])⟩
      have hb0 : Hid (Below lo w3 (w3.alloc (.cells #[] 26))) := Lib.hid ((Below.refl _ _).alloc (by omega) _)
      have HLO := Lib.hid hlo
      clear hlo
      go_wp2_with fail
      go_loopg [5, 6] 3 (fun g v i wr => ∃ (k : Nat) (da : Option Addr) (dc : Nat), v = .slice da k dc ∧ i = .int .i64 (k : Int) ∧ k + g = 3 ∧ k ≤ dc ∧ dc ≤ 9223372036854775807 ∧ Hid (GridOwn wr lo w.heap.size (.slice da k dc) (lessT r k)) ∧ Hid (Below lo w3 wr))
      case atStart => exact ⟨0, _, _, rfl, rfl, rfl, Nat.le_refl _, by omega, h0, hb0⟩
      case round =>
        obtain ⟨k, da, dc, rfl, rfl, hk, hkd, hdm, hgo, hbe⟩ := hrel
        obtain ⟨g0, rfl⟩ : ∃ g : Nat, g = gk := ⟨_, rfl⟩
        obtain ⟨wo, rfl⟩ : ∃ x : World, x = wr := ⟨_, rfl⟩
        by_cases hg : g0 = 0
        · subst hg
          obtain rfl : k = 3 := by omega
          have hG := hgo.out.grid
          rw [lessT_three] at hG
          have hmany := implMany_any _ _ wo hG
          rw [lessF_one HOK.out] at hmany
          have HM := Lib.hid hmany
          have BB6 := Lib.hid (BB.out.trans (hbe.out.mono (by rw [← HLO.out]; exact BB.out.size)))
          clear hG hmany hgo hk
          go_wp2_with fail
          refine (HM.out).mono ?_
          rintro e w6 ⟨rfl, hb⟩
          go_wp2_with fail
          go_ret
          exact ⟨rfl, BB6.out.trans (hb.mono BB6.out.size)⟩
        · have hkn : k < 3 := by omega
          have hkI : (k : Int) < 3 := by omega
          have k0 : (0 : Int) ≤ (k : Int) := by omega
          have hg1 : 1 ≤ g0 := by omega
          have hlor : lo ≤ wo.heap.size := by rw [← HLO.out]; exact hbe.out.size
          obtain ⟨gb, goff, v5, rfl, hgb, hgx, hrow⟩ := (T3.out.below (hbe.out.mono (by rw [HLO.out]; exact Nat.le_refl _))).at k hkn
          obtain ⟨ra, rc, rfl, hrc, hrm⟩ := hrow.rows.form
          obtain ⟨row, hrw⟩ : ∃ row, r.getD k [] = row := ⟨_, rfl⟩
          rw [hrw] at hrow hgx hrc
          obtain ⟨rn, hrn⟩ : ∃ rn, row.length = rn := ⟨_, rfl⟩
          have hrn3 : rn ≤ 3 := by have := short3_of_ok HOK.out k; rw [hrw, hrn] at this; exact this
          rw [hrn] at hrow hgx hrc
          have hgw := HG.out k hkn
          rw [hrw] at hgw
          obtain ⟨P, hP⟩ : ∃ P : List Int → Bool, P = fun p => decide (p.getD 1 0 < (k : Int) + 1) := ⟨_, rfl⟩
          have hls : lessT r (k + 1) = lessT r k ++ [row.filter P] := by rw [lessT_succ, hrw, hP]
          have HROW := Lib.hid hrow
          have HRN := Lib.hid hrn
          have HGW := Lib.hid hgw
          have HP := Lib.hid hP
          have HLS := Lib.hid hls
          have HK := Lib.hid hk
          have h1 : Hid (RankOwn (wo.alloc (.cells #[] 27)) wo.heap.size w.heap.size (.slice (some ⟨wo.heap.size, 0, none⟩) 0 0) ((row.take 0).filter P)) := Lib.hid ⟨[], rfl, World.ownsRow_made wo #[] 0 (Nat.le_refl _) (Nat.zero_le _) rfl, fun i hi => absurd hi (by simp)⟩
          have hb1 : Hid (Below wo.heap.size wo (wo.alloc (.cells #[] 27))) := Lib.hid ((Below.refl _ _).alloc (Nat.le_refl _) _)
          clear hrow hrn hrw hgw hP hls hk hg
          go_wp2_with fail
          go_loopg [7, 8] rn (fun g v i wr => ∃ (j n : Nat) (ra : Option Addr) (rc : Nat) (ll : List (List Int)), v = .slice ra n rc ∧ i = .int .i64 (j : Int) ∧ j + g = rn ∧ n ≤ j ∧ n ≤ rc ∧ rc ≤ 9223372036854775807 ∧ Hid (ll = (row.take j).filter P) ∧ Hid (ll.length = n) ∧ Hid (RankOwn wr wo.heap.size w.heap.size (.slice ra n rc) ll) ∧ Hid (Below wo.heap.size wo wr))
          case atStart => exact ⟨0, 0, _, _, _, rfl, rfl, by omega, Nat.le_refl _, Nat.le_refl _, by omega, Lib.hid rfl, Lib.hid (by simp), h1, hb1⟩
          case round =>
            obtain ⟨j, n, sa, sc, ll, rfl, rfl, hj, hnj, hnc, hsm, hll, hln, hro, hbi⟩ := hrel
            have hszo := hbi.out.size
            have hgx2 := (hbi.out.cell (p := ⟨gb, goff + k, none⟩) hgb).trans hgx
            by_cases hg2 : gk = 0
            · subst hg2
              obtain rfl : j = rn := by omega
              have hfull : ll = row.filter P := by rw [hll.out, ← HRN.out, List.take_length]
              have hgw2 := hgo.out.below hbi.out
              obtain ⟨vs, hvl, hown, hrows⟩ := hgw2
              rw [lessT_len] at hvl hown
              have HV := Lib.hid hvl
              have HOWN := Lib.hid hown
              have HROWS := Lib.hid hrows
              have HFULL := Lib.hid hfull
              clear hvl hown hrows hfull hj
              go_wp2_with (at_builtin; refine wpList_append_own _ rfl (.tmp 65) (.tmp 67) 23 rfl lo 26 i2 (.slice none 0 0) 1 24 Try.underlying23 hi2 hz20 hz21 hz22 rfl (by decide) _ _ _ rfl (World.ownsRow.alloc (HOWN.out) _) ⟨wr.heap.size, 0, none⟩ 1 1 [.slice sa n sc] rfl rfl (cell_one_new _ _ _) (by simp [Value.oneCell']) (by unfold maxLen; omega) (by omega) (by simp; omega) ?_; intro v' w5 hown5 hgrow5 _)
              obtain ⟨da', dc', e', hr1, hr2⟩ := owns_form hown5
              have b4 : Below wr.heap.size wr (wr.alloc (.cells #[.slice sa n sc] 26)) := (Below.refl _ _).alloc (Nat.le_refl _) _
              have HG5 : Hid (GridOwn w5 lo w.heap.size v' (lessT r (k + 1))) := Lib.hid (by
                rw [HLS.out, ← HFULL.out]
                exact GridOwn.append ⟨by rw [lessT_len]; exact HV.out, by rw [lessT_len]; exact owns_belowR HOWN.out b4, fun i hi => (HROWS.out i hi).below b4⟩ ((hro.out.lift hlor).below b4) (by rw [lessT_len]; exact hown5) hgrow5)
              have HB5 := Lib.hid (((hbe.out.trans (hbi.out.mono hlor)).trans (b4.mono (by omega))).grown hgrow5 (by simp; omega) (fun g hg => (World.ownsRow.lt HOWN.out g hg).1))
              clear hown5 hgrow5 b4
              subst e'
              go_roundg (g0 - 1)
              case measure => omega
              case rel => exact ⟨k + 1, _, _, rfl, by go_num, by have := HK.out; omega, hr1, hr2, HG5, HB5⟩
            · have hjn : j < rn := by omega
              have hjI : (j : Int) < (rn : Int) := by omega
              have hgk : 1 ≤ gk := by omega
              obtain ⟨rb, roff, v7, rfl, hrb, hrx, hway⟩ := (HROW.out.below hbi.out).at j hjn
              obtain ⟨p, hpp⟩ : ∃ p, row.getD j [] = p := ⟨_, rfl⟩
              rw [hpp] at hway
              have hgp : GoodWay p := HGW.out p (by
                have e : row.getD j [] = row[j]'(by rw [HRN.out]; exact hjn) := by simp [List.getElem?_eq_getElem (by rw [HRN.out]; exact hjn : j < row.length)]
                rw [← hpp, e]; exact List.getElem_mem _)
              obtain ⟨pa, pc, rfl, hpc, hpm⟩ := hway.1.form
              obtain ⟨gl, gu, gs⟩ := hgp
              obtain ⟨q, hq⟩ : ∃ q, p.length = q + 2 := ⟨p.length - 2, by omega⟩
              rw [hq] at hway hpc hrx
              obtain ⟨pb, poff, rfl, hpb, hp1⟩ := hway.1.get 1 (by omega)
              obtain ⟨y, hy⟩ : ∃ y, p.getD 1 0 = y := ⟨_, rfl⟩
              rw [hy] at hp1 gs
              have hft := filter_take row P j (by rw [HRN.out]; exact hjn)
              rw [hpp, ← hll.out] at hft
              have hPy : P p = decide (y < (k : Int) + 1) := by rw [HP.out]; show decide (p.getD 1 0 < _) = _; rw [hy]
              rw [hPy] at hft
              have HFT := Lib.hid hft
              have HJ := Lib.hid hj
              have HWAY := Lib.hid hway
              have qI : (1 : Int) < (q : Int) + 2 := by omega
              clear hj hpp hq hy hft hPy hway hg2 gl
              by_cases hyk : y < (k : Int) + 1
              · obtain ⟨us, hul, hown, hels⟩ := hro.out
                rw [hln.out] at hul hown
                have HU := Lib.hid hul
                have HOWN := Lib.hid hown
                have HELS := Lib.hid hels
                have hfe : (row.take (j + 1)).filter P = ll ++ [p] := by rw [HFT.out, decide_eq_true hyk]; rfl
                have HFE := Lib.hid hfe
                clear hul hown hels hfe
                go_wp2_with (at_builtin; refine wpList_append_own _ rfl (.tmp 55) (.tmp 63) 26 rfl wo.heap.size 27 i0 (.slice none 0 0) 1 24 Try.underlying26 hi hz0 hz1 hz2 rfl (by decide) _ _ _ rfl (World.ownsRow.alloc (HOWN.out) _) ⟨wr.heap.size, 0, none⟩ 1 1 [.slice (some ⟨pb, poff, none⟩) (q + 2) pc] rfl rfl (cell_one_new _ _ _) (by simp [Value.oneCell']) (by unfold maxLen; omega) (by omega) (by simp; omega) ?_; intro v' w5 hown5 hgrow5 _)
                obtain ⟨sa', sc', e', hr1, hr2⟩ := owns_form hown5
                have b4 : Below wr.heap.size wr (wr.alloc (.cells #[.slice (some ⟨pb, poff, none⟩) (q + 2) pc] 27)) := (Below.refl _ _).alloc (Nat.le_refl _) _
                have HR5 : Hid (RankOwn w5 wo.heap.size w.heap.size v' (ll ++ [p])) := Lib.hid (RankOwn.append (HWAY.out.below b4) ⟨by rw [hln.out]; exact HU.out, by rw [hln.out]; exact owns_belowR HOWN.out b4, fun i hi => (HELS.out i hi).below b4⟩ (by rw [hln.out]; exact hown5) hgrow5)
                have HB5 := Lib.hid ((hbi.out.trans (b4.mono hszo)).grown hgrow5 (by simp; omega) (fun g hg => (World.ownsRow.lt HOWN.out g hg).1))
                clear hown5 hgrow5 b4
                subst e'
                go_roundg (gk - 1)
                case measure => omega
                case rel => exact ⟨j + 1, n + 1, _, _, _, rfl, by go_num, by have := HJ.out; omega, by omega, hr1, hr2, Lib.hid HFE.out.symm, Lib.hid (by rw [List.length_append, hln.out]; rfl), HR5, HB5⟩
              · have hfe : (row.take (j + 1)).filter P = ll := by rw [HFT.out, decide_eq_false hyk]; simp
                have HFE := Lib.hid hfe
                clear hfe
                go_wp2_with fail
                go_roundg (gk - 1)
                case measure => omega
                case rel => exact ⟨j + 1, n, _, _, _, rfl, by go_num, by have := HJ.out; omega, by omega, hnc, hsm, Lib.hid HFE.out.symm, hln, hro, hbi⟩
    · have hb1 : ranksOk r = false := by simpa using hok
      have hN1 : N = -1 := by rw [← HN.out]; exact manyF_no hb1
      have hN0 : N < 0 := by omega
      clear hok hb1 hN1
      go_wp2_with fail
      refine (HSP.out _ B1.out).mono ?_
      rintro e w3 ⟨rfl, hb⟩
      have BB := Lib.hid (BB.out.trans (hb.mono BB.out.size))
      have B1 := Lib.hid (B1.out.trans (hb.mono B1.out.size))
      clear hb
      go_wp2_with fail
      refine (HSP.out _ B1.out).mono ?_
      rintro e w4 ⟨rfl, hb⟩
      have BB := Lib.hid (BB.out.trans (hb.mono BB.out.size))
      go_wp2_with fail
      go_ret
      exact ⟨rfl, BB.out⟩
end Go.Proofs.Ytlkchhedlbaomaa
