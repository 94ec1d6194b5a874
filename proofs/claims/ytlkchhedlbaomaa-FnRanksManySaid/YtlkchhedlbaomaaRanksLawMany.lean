/- The walk of FnRanksMany. -/
import Derived.Test.YtlkchhedlbaomaaRanksLawTree
import Derived.Test.YtlkchhedlbaomaaRanksAppend
import Derived.Deep.RegionHeld3
namespace Go.Proofs.Ytlkchhedlbaomaa
open Go.RowKit
set_option linter.unusedVariables false

/-- none, or one of the ways that a house likes, of k houses -/
def allT (r : List (List (List Int))) (k : Nat) : List (List (List Int)) := (List.range k).map fun h => chs (r.getD h [])
theorem allT_len (r : List (List (List Int))) (k : Nat) : (allT r k).length = k := by simp [allT]
theorem allT_succ (r : List (List (List Int))) (k : Nat) : allT r (k + 1) = allT r k ++ [chs (r.getD k [])] := by simp [allT, List.range_succ]
theorem allT_getD (r : List (List (List Int))) (k h : Nat) (hh : h < k) : (allT r k).getD h [] = chs (r.getD h []) := by
  unfold allT
  rw [List.getD_eq_getElem?_getD, List.getElem?_map, List.getElem?_range hh]; rfl
theorem chs_len (l : List (List Int)) : (chs l).length = l.length + 1 := by simp [chs]
theorem stateOk_of_chs {rank : List (List Int)} {j : Nat} (hj : j < rank.length + 1) : stateOk rank ((chs rank).getD j []) = true := by
  unfold stateOk
  cases j with
  | zero => simp [chs]
  | succ j =>
    have e : (chs rank).getD (j + 1) [] = rank[j]'(by omega) := by simp [chs, List.getElem?_eq_getElem (by omega : j < rank.length)]
    rw [e]; simp
theorem still_of_choice {r : List (List (List Int))} {i j k : Nat} (hr : ranksOk r = true) (hi : i < (r.getD 0 []).length + 1) (hj : j < (r.getD 1 []).length + 1) (hk : k < (r.getD 2 []).length + 1) :
    ranksStillF r [(chs (r.getD 0 [])).getD i [], (chs (r.getD 1 [])).getD j [], (chs (r.getD 2 [])).getD k []] = stillF r [(chs (r.getD 0 [])).getD i [], (chs (r.getD 1 [])).getD j [], (chs (r.getD 2 [])).getD k []] := by
  unfold ranksStillF
  rw [hr, waysOk_good (by rw [ranksOk_len hr]; rfl) (fun h hh => ?_)]
  · simp
  · match h, hh with
    | 0, _ => exact stateOk_of_chs hi
    | 1, _ => exact stateOk_of_chs hj
    | 2, _ => exact stateOk_of_chs hk
/-- none, and then all that a house likes -/
theorem rank_chs {W w5 : World} {B lo0 rn : Nat} {v' : Value} {f : Nat → Value} {row : List (List Int)} {b : Nat} {row' : Option Nat} (hl : row.length = rn)
    (h0 : IntsTy W lo0 (.slice (some ⟨b, 0, none⟩) 0 0) []) (hf : ∀ i, i < row.length → IntsTy W lo0 (f i) (row.getD i []))
    (hown : w5.ownsRow B 27 1 v' (1 + rn) ([.slice (some ⟨b, 0, none⟩) 0 0] ++ (List.range rn).map f)) (hg : W.grownBy w5 row') (hrow : ∀ g, row' = some g → ∀ cur mk, W.heap[g]? ≠ some (.cells cur 3 mk)) : RankOwn w5 B lo0 v' (chs row) := by
  refine ⟨[.slice (some ⟨b, 0, none⟩) 0 0] ++ (List.range rn).map f, by simp [chs, hl], by rw [chs_len, hl, Nat.add_comm]; exact hown, fun i hi => ?_⟩
  have hi' : i < rn + 1 := by rw [chs_len, hl] at hi; exact hi
  cases i with
  | zero => exact h0.grown hg hrow
  | succ i =>
    have e1 : ([Value.slice (some ⟨b, 0, none⟩) 0 0] ++ (List.range rn).map f).getD (i + 1) undef = f i := by
      simp [List.getElem?_map, List.getElem?_range (by omega : i < rn)]
    have e2 : (chs row).getD (i + 1) [] = row.getD i [] := by simp [chs]
    rw [e1, e2]
    exact (hf i (by omega)).grown hg hrow

set_option maxRecDepth 100000 in
set_option maxHeartbeats 8000000 in
theorem ranksMany_walk (a : Option Addr) (len cap : Nat) (zs : List Int) (w : World) (h : IsRow .u8 w a len cap zs) :
    Calls Try.prog 11 #[.slice a len cap] w fun e w' => e = .returned (.bool true) ∧ Below w.heap.size w w' := by
  obtain ⟨hm, hc⟩ := h.bounds
  have hc' := hc
  unfold maxLen at hc'
  have H := Lib.hid h
  clear h
  go_enter Try.func11, Try.ntmps11
  by_cases hl : 1048576 < len
  · go_wp2_with fail
    go_ret
    exact ⟨rfl, Below.refl _ _⟩
  · go_wp2_with fail
    refine (drawMany_tab _ _ _ zs _ H.out).mono ?_
    rintro e w1 ⟨v, r, rfl, ht, hb⟩
    obtain ⟨va, vc, e', hvc, hvm⟩ := ht.grid.form
    subst e'
    have TB := Lib.hid ht
    have BB := Lib.hid hb
    clear ht hb
    obtain ⟨N, hN⟩ : ∃ N, manyF r = N := ⟨_, rfl⟩
    have himpl := implMany_any _ r w1 TB.out.grid
    have hspec : ∀ W, Below w1.heap.size w1 W → Calls Try.prog 34 #[.slice va r.length vc] W fun e w' => e = .returned (.int .i64 N) ∧ Below W.heap.size W w' := fun W hW => by
      rw [← hN]; exact specMany_any _ r W (TB.out.grid.below hW)
    rw [hN] at himpl
    have HIM := Lib.hid himpl
    have HSP := Lib.hid hspec
    have HN := Lib.hid hN
    have hne : (N != N) = false := by simp
    have heq : (N == N) = true := by simp
    clear himpl hspec hN
    go_wp2_with fail
    refine (HIM.out).mono ?_
    rintro e w2 ⟨rfl, hb⟩
    have B1 := Lib.hid hb
    have BB := Lib.hid (BB.out.trans (hb.mono BB.out.size))
    clear hb
    by_cases hok : ranksOk r = true
    · have hNT : N = (totP r 3 [] : Nat) := by rw [← HN.out]; exact manyF_yes hok
      have hN0 : ¬ N < 0 := by omega
      have hr3 := ranksOk_len hok
      have hlm := implMany_any
      have hgood := fun h (hh : h < 3) => good_of_ranksOk hok hh
      have HOK := Lib.hid hok
      have HR3 := Lib.hid hr3
      have HG := Lib.hid hgood
      rw [hr3] at hvc TB HSP ⊢
      clear hNT hok hr3 hlm hgood
      go_wp2_with fail
      refine (HSP.out _ B1.out).mono ?_
      rintro e w3 ⟨rfl, hb⟩
      have BB := Lib.hid (BB.out.trans (hb.mono BB.out.size))
      have B1 := Lib.hid (B1.out.trans (hb.mono B1.out.size))
      have T3 := Lib.hid (TB.out.below B1.out)
      clear hb
      obtain ⟨lo, hlo⟩ : ∃ lo, w3.heap.size = lo := ⟨_, rfl⟩
      obtain ⟨i2, hi2, hz20, hz21, hz22⟩ := info_parts info_r3D
      obtain ⟨i0, hi, hz0, hz1, hz2⟩ := info_parts info_r2P
      have h0 : Hid (GridOwn (w3.alloc (.cells #[] 26)) lo w.heap.size (.slice (some ⟨w3.heap.size, 0, none⟩) 0 0) (allT r 0)) := Lib.hid ⟨[], rfl, World.ownsRow_made w3 #[] 0 (by omega) (Nat.zero_le _) rfl, fun i hi => absurd hi (by simp [allT])⟩
      have hb0 : Hid (Below lo w3 (w3.alloc (.cells #[] 26))) := Lib.hid ((Below.refl _ _).alloc (by omega) _)
      have HLO := Lib.hid hlo
      have hlow : w.heap.size ≤ lo := by rw [← hlo]; exact BB.out.size
      clear hlo
      go_wp2_with fail
      go_loopg [5, 6] 3 (fun g v i wr => ∃ (k : Nat) (da : Option Addr) (dc : Nat), v = .slice da k dc ∧ i = .int .i64 (k : Int) ∧ k + g = 3 ∧ k ≤ dc ∧ dc ≤ 9223372036854775807 ∧ Hid (GridOwn wr lo w.heap.size (.slice da k dc) (allT r k)) ∧ Hid (Below lo w3 wr))
      case atStart => exact ⟨0, _, _, rfl, rfl, rfl, Nat.le_refl _, by omega, h0, hb0⟩
      case round =>
        obtain ⟨k, da, dc, rfl, rfl, hk, hkd, hdm, hgo, hbe⟩ := hrel
        obtain ⟨g0, rfl⟩ : ∃ g : Nat, g = gk := ⟨_, rfl⟩
        obtain ⟨wo, rfl⟩ : ∃ x : World, x = wr := ⟨_, rfl⟩
        by_cases hg : g0 = 0
        · subst hg
          obtain rfl : k = 3 := by omega
          rw [show ((3 : Nat) : Int) = 3 from rfl]
          have hTN : N = ((totP r 3 [] : Nat) : Int) := by rw [← HN.out]; exact manyF_yes HOK.out
          have hs3 := short3_of_ok HOK.out
          have h4 := hgo.out.grid
          have BB4 := Lib.hid (BB.out.trans (hbe.out.mono (by rw [← HLO.out]; exact BB.out.size)))
          have G := Lib.hid (T3.out.grid.below (hbe.out.mono (by rw [HLO.out]; exact Nat.le_refl _)))
          obtain ⟨b, off, v0, rfl, hb, hx0, hr0⟩ := h4.get 0 (by omega)
          obtain ⟨b', off', v1, e, _, hx1, hr1⟩ := h4.get 1 (by omega)
          simp only [Option.some.injEq, Addr.mk.injEq] at e
          obtain ⟨rfl, rfl, _⟩ := e
          obtain ⟨b', off', v2, e, _, hx2, hr2⟩ := h4.get 2 (by omega)
          simp only [Option.some.injEq, Addr.mk.injEq] at e
          obtain ⟨rfl, rfl, _⟩ := e
          obtain ⟨x0, y0, rfl, hy0, hz0⟩ := hr0.form
          obtain ⟨x1, y1, rfl, hy1, hz1⟩ := hr1.form
          obtain ⟨x2, y2, rfl, hy2, hz2⟩ := hr2.form
          obtain ⟨r0, hr0e⟩ : ∃ x, r.getD 0 [] = x := ⟨_, rfl⟩
          obtain ⟨r1, hr1e⟩ : ∃ x, r.getD 1 [] = x := ⟨_, rfl⟩
          obtain ⟨r2, hr2e⟩ : ∃ x, r.getD 2 [] = x := ⟨_, rfl⟩
          have n0' := hs3 0
          have n1' := hs3 1
          have n2' := hs3 2
          have q0 : (allT r 3).getD 0 [] = chs r0 := by rw [allT_getD r 3 0 (by omega), hr0e]
          have q1 : (allT r 3).getD 1 [] = chs r1 := by rw [allT_getD r 3 1 (by omega), hr1e]
          have q2 : (allT r 3).getD 2 [] = chs r2 := by rw [allT_getD r 3 2 (by omega), hr2e]
          rw [hr0e] at n0'
          rw [hr1e] at n1'
          rw [hr2e] at n2'
          obtain ⟨n0, hn0⟩ : ∃ n, r0.length = n := ⟨_, rfl⟩
          obtain ⟨n1, hn1⟩ : ∃ n, r1.length = n := ⟨_, rfl⟩
          obtain ⟨n2, hn2⟩ : ∃ n, r2.length = n := ⟨_, rfl⟩
          have l0 : (chs r0).length = n0 + 1 := by rw [chs_len, hn0]
          have l1 : (chs r1).length = n1 + 1 := by rw [chs_len, hn1]
          have l2 : (chs r2).length = n2 + 1 := by rw [chs_len, hn2]
          rw [q0] at hr0 hx0 hy0
          rw [l0] at hr0 hx0 hy0
          rw [q1] at hr1 hx1 hy1
          rw [l1] at hr1 hx1 hy1
          rw [q2] at hr2 hx2 hy2
          rw [l2] at hr2 hx2 hy2
          rw [hn0] at n0'
          rw [hn1] at n1'
          rw [hn2] at n2'
          rw [Nat.add_zero] at hx0
          obtain ⟨A, hA⟩ : ∃ A : Nat → Nat, A = fun i => totP r 2 [(chs r0).getD i []] := ⟨_, rfl⟩
          have hTA : N = ((sumTo A (n0 + 1) : Nat) : Int) := by rw [hTN, totP, hA, ← hn0, ← hr0e]; rfl
          have hA16 : ∀ i, A i ≤ 16 := fun i => by rw [hA]; exact totP2_le hs3 _
          have HT := Lib.hid hTA
          have HA := Lib.hid hA
          have HA16 := Lib.hid hA16
          have HS3 := Lib.hid hs3
          have HR0 := Lib.hid hr0
          have HR1 := Lib.hid hr1
          have HR2 := Lib.hid hr2
          have HE0 := Lib.hid hr0e
          have HE1 := Lib.hid hr1e
          have HE2 := Lib.hid hr2e
          have HN0 := Lib.hid hn0
          have HN1 := Lib.hid hn1
          have HN2 := Lib.hid hn2
          have HX : Hid (∀ W, Below wo.heap.size wo W → W.cell? ⟨b, off, none⟩ = some (.slice x0 (n0 + 1) y0) ∧ W.cell? ⟨b, off + 1, none⟩ = some (.slice x1 (n1 + 1) y1) ∧ W.cell? ⟨b, off + 2, none⟩ = some (.slice x2 (n2 + 1) y2)) := Lib.hid fun W hW =>
            ⟨(hW.cell (p := ⟨b, off, none⟩) hb).trans hx0, (hW.cell (p := ⟨b, off + 1, none⟩) hb).trans hx1, (hW.cell (p := ⟨b, off + 2, none⟩) hb).trans hx2⟩
          have HB0 := Lib.hid (Below.refl wo.heap.size wo)
          clear hTN hs3 hTA hA hA16 hr0 hr1 hr2 hr0e hr1e hr2e hn0 hn1 hn2 hx0 hx1 hx2 hy0 hy1 hy2 q0 q1 q2 l0 l1 l2 h4 hgo hk hbe
          go_wp2_with fail
          go_loopg [7, 8] (n0 + 1) (fun g n i wr => ∃ k : Nat, i = .int .i64 k ∧ k + g = n0 + 1 ∧ n = .int .i64 (sumTo A k : Nat) ∧ Hid (Below wo.heap.size wo wr))
          case atStart => exact ⟨0, rfl, by omega, rfl, HB0⟩
          case round =>
            obtain ⟨ka, rfl, hka, rfl, hba⟩ := hrel
            obtain ⟨ga, rfl⟩ : ∃ g : Nat, g = gk := ⟨_, rfl⟩
            obtain ⟨q0, q1, q2⟩ := HX.out _ hba.out
            by_cases hg : ga = 0
            · subst hg
              obtain rfl : ka = n0 + 1 := by omega
              rw [← HT.out]
              go_wp2_with fail
              go_ret
              exact ⟨rfl, BB4.out.trans (hba.out.mono BB4.out.size)⟩
            · have hkn : ka ≤ n0 := by omega
              have hkI : (ka : Int) < (n0 : Int) + 1 := by omega
              obtain ⟨B, hB⟩ : ∃ B : Nat → Nat, B = fun i => totP r 1 [(chs r0).getD ka [], (chs r1).getD i []] := ⟨_, rfl⟩
              have hAB : A ka = sumTo B (n1 + 1) := by rw [HA.out]; show totP r 2 [_] = _; rw [totP, hB, ← HN1.out, ← HE1.out]; rfl
              have hB4 : ∀ i, B i ≤ 4 := fun i => by rw [hB]; exact totP1_le HS3.out _
              have hsA := sumTo_le4 (n := ka) HA16.out (by omega)
              have HB := Lib.hid hB
              have HAB := Lib.hid hAB
              have HB4 := Lib.hid hB4
              have HKA := Lib.hid hka
              have hga : 1 ≤ ga := by omega
              clear hB hAB hB4 hka hg
              obtain ⟨NA, hNA⟩ : ∃ x, sumTo A ka = x := ⟨_, rfl⟩
              rw [hNA] at hsA ⊢
              have HNA := Lib.hid hNA
              clear hNA
              go_wp2_with fail
              go_loopg [7, 9] (n1 + 1) (fun g n i wr => ∃ k : Nat, i = .int .i64 k ∧ k + g = n1 + 1 ∧ n = .int .i64 (NA + sumTo B k : Nat) ∧ Hid (Below wo.heap.size wo wr))
              case atStart => exact ⟨0, rfl, by omega, rfl, hba⟩
              case round =>
                obtain ⟨kb, rfl, hkb, rfl, hbb⟩ := hrel
                obtain ⟨gb, rfl⟩ : ∃ g : Nat, g = gk := ⟨_, rfl⟩
                clear q0 q1 q2
                obtain ⟨q0, q1, q2⟩ := HX.out _ hbb.out
                by_cases hg : gb = 0
                · subst hg
                  obtain rfl : kb = n1 + 1 := by omega
                  rw [← HAB.out]
                  go_wp2_with fail
                  go_roundg (ga - 1)
                  case measure => omega
                  case rel => exact ⟨ka + 1, by go_num, by have := HKA.out; omega, by rw [← HNA.out]; rfl, hbb⟩
                · have hkn1 : kb ≤ n1 := by omega
                  have hkI1 : (kb : Int) < (n1 : Int) + 1 := by omega
                  obtain ⟨C, hC⟩ : ∃ C : Nat → Nat, C = fun i => totP r 0 [(chs r0).getD ka [], (chs r1).getD kb [], (chs r2).getD i []] := ⟨_, rfl⟩
                  have hBC : B kb = sumTo C (n2 + 1) := by rw [HB.out]; show totP r 1 [_, _] = _; rw [totP, hC, ← HN2.out, ← HE2.out]; rfl
                  have hC1 : ∀ i, C i ≤ 1 := fun i => by rw [hC]; exact totP0_le r _
                  have hsB := sumTo_le4 (n := kb) HB4.out (by omega)
                  have HC := Lib.hid hC
                  have HBC := Lib.hid hBC
                  have HC1 := Lib.hid hC1
                  have HKB := Lib.hid hkb
                  have hgb : 1 ≤ gb := by omega
                  clear hC hBC hC1 hkb hg
                  obtain ⟨NB, hNB⟩ : ∃ x, NA + sumTo B kb = x := ⟨_, rfl⟩
                  have hsB2 : NB ≤ 80 := by omega
                  rw [hNB]
                  have HNB := Lib.hid hNB
                  clear hNB hsB
                  go_wp2_with fail
                  go_loopg [7, 10] (n2 + 1) (fun g n i wr => ∃ k : Nat, i = .int .i64 k ∧ k + g = n2 + 1 ∧ n = .int .i64 (NB + sumTo C k : Nat) ∧ Hid (Below wo.heap.size wo wr))
                  case atStart => exact ⟨0, rfl, by omega, rfl, hbb⟩
                  case round =>
                    obtain ⟨kc, rfl, hkc, rfl, hbc⟩ := hrel
                    clear q0 q1 q2
                    obtain ⟨q0, q1, q2⟩ := HX.out _ hbc.out
                    by_cases hg : gk = 0
                    · subst hg
                      obtain rfl : kc = n2 + 1 := by omega
                      rw [← HBC.out]
                      go_wp2_with fail
                      go_roundg (gb - 1)
                      case measure => omega
                      case rel => exact ⟨kb + 1, by go_num, by have := HKB.out; omega, by
                        have e : ((NA + sumTo B (kb + 1) : Nat) : Int) = ((NA + sumTo B kb : Nat) : Int) + ((B kb : Nat) : Int) := by simp only [sumTo]; omega
                        rw [← HNB.out, e], hbc⟩
                    · have hkn2 : kc ≤ n2 := by omega
                      have hkI2 : (kc : Int) < (n2 : Int) + 1 := by omega
                      have hsC := sumTo_le4 (n := kc) HC1.out (by omega)
                      have hgc : 1 ≤ gk := by omega
                      have HKC := Lib.hid hkc
                      have hbw : b < wr.heap.size := Nat.lt_of_lt_of_le hb hbc.out.size
                      obtain ⟨ab, aoff, va, rfl, hab, hax, hai⟩ := (HR0.out.below hbc.out).get ka (by omega)
                      obtain ⟨bb, boff, vb, rfl, hbb2, hbx, hbi⟩ := (HR1.out.below hbc.out).get kb (by omega)
                      obtain ⟨cb, coff, vc2, rfl, hcb, hcx, hci⟩ := (HR2.out.below hbc.out).get kc (by omega)
                      obtain ⟨sa1, sa3, rfl, _, _⟩ := hai.form
                      obtain ⟨sb1, sb3, rfl, _, _⟩ := hbi.form
                      obtain ⟨sc1, sc3, rfl, _, _⟩ := hci.form
                      have hss := still_of_choice (i := ka) (j := kb) (k := kc) HOK.out (by rw [HE0.out, HN0.out]; omega) (by rw [HE1.out, HN1.out]; omega) (by rw [HE2.out, HN2.out]; omega)
                      rw [HE0.out, HE1.out, HE2.out] at hss
                      obtain ⟨pa, hpa⟩ : ∃ x, (chs r0).getD ka [] = x := ⟨_, rfl⟩
                      obtain ⟨pb, hpb⟩ : ∃ x, (chs r1).getD kb [] = x := ⟨_, rfl⟩
                      obtain ⟨pc, hpc⟩ : ∃ x, (chs r2).getD kc [] = x := ⟨_, rfl⟩
                      rw [hpa] at hax hai hss
                      rw [hpb] at hbx hbi hss
                      rw [hpc] at hcx hci hss
                      obtain ⟨ln1, hln1⟩ : ∃ x, pa.length = x := ⟨_, rfl⟩
                      obtain ⟨ln2, hln2⟩ : ∃ x, pb.length = x := ⟨_, rfl⟩
                      obtain ⟨ln3, hln3⟩ : ∃ x, pc.length = x := ⟨_, rfl⟩
                      rw [hln1] at hax hai
                      rw [hln2] at hbx hbi
                      rw [hln3] at hcx hci
                      have hCk : C kc = totP r 0 [pa, pb, pc] := by rw [HC.out, ← hpa, ← hpb, ← hpc]
                      obtain ⟨q, hq⟩ : ∃ q, stillF r [pa, pb, pc] = q := ⟨_, rfl⟩
                      have ht0 : C kc = if q = true then 1 else 0 := by rw [hCk]; unfold totP; rw [hq]
                      obtain ⟨W3, hW3⟩ : ∃ x : World, x = wr.alloc (.cells #[.slice sa1 ln1 sa3, .slice sb1 ln2 sb3, .slice sc1 ln3 sc3] 27) := ⟨_, rfl⟩
                      have hlit := rows_lit3 wr _ _ _ pa pb pc hai hbi hci
                      have hst : ∀ W, Drew (wr.alloc (.cells #[.slice sa1 ln1 sa3, .slice sb1 ln2 sb3, .slice sc1 ln3 sc3] 27)) W → Calls Try.prog 31 #[.slice va 3 vc, .slice (some ⟨wr.heap.size, 0, none⟩) 3 3] W fun e w' => e = .returned (.bool q) ∧ Below W.heap.size W w' := fun W hW => by
                        rw [← hq, ← hss]
                        have := implStill_any _ _ r [pa, pb, pc] W ((G.out.below hbc.out).below (hlit.2.trans (hW.below _))) (hlit.1.drew hW)
                        exact this
                      have HST := Lib.hid hst
                      have HT0 := Lib.hid ht0
                      clear hpa hpb hpc hCk hq ht0 hst hkc hg hai hbi hci hlit hss hln1 hln2 hln3 hW3 W3
                      obtain ⟨NC, hNC⟩ : ∃ x, NB + sumTo C kc = x := ⟨_, rfl⟩
                      have hsC2 : NC ≤ 84 := by omega
                      rw [hNC]
                      have HNC := Lib.hid hNC
                      clear hNC hsC
                      go_wp2_with fail
                      go_region_held3 (fun w' => w'.cell? ⟨b, off, none⟩ = some (.slice (some ⟨ab, aoff, none⟩) (n0 + 1) y0) ∧ w'.cell? ⟨b, off + 1, none⟩ = some (.slice (some ⟨bb, boff, none⟩) (n1 + 1) y1) ∧ w'.cell? ⟨b, off + 2, none⟩ = some (.slice (some ⟨cb, coff, none⟩) (n2 + 1) y2) ∧ w'.cell? ⟨ab, aoff + ka, none⟩ = some (.slice sa1 ln1 sa3) ∧ w'.cell? ⟨bb, boff + kb, none⟩ = some (.slice sb1 ln2 sb3) ∧ w'.cell? ⟨cb, coff + kc, none⟩ = some (.slice sc1 ln3 sc3)) ((simp [go_sem, *])) (first | (go_at_call 31; refine (HST.out _ (by first | exact Drew.refl _ | exact ⟨1, rfl⟩)).mono ?_; rintro e wd ⟨rfl, hb4⟩; have hB4 : Below wr.heap.size wr wd := (by refine Below.trans ?_ (hb4.mono (by first | exact Nat.le_refl _ | omega | (simp; done) | (simp; omega))); repeat (first | exact Below.refl _ _ | assumption | refine Below.drew ?_ | refine belowDrewN ?_ _ | refine Below.alloc ?_ (by first | exact Nat.le_refl _ | omega | (simp; done) | (simp; omega)) _ | refine Below.setCell ?_ (by first | exact Nat.le_refl _ | omega | (simp; done) | (simp; omega)) _)); obtain ⟨hc4, hf4⟩ := bcell hB4; clear hb4))
                      all_goals
                        have HB5 := Lib.hid (hbc.out.trans (hB4.mono hbc.out.size))
                        clear hB4 hc4 hf4
                        cases q
                        · have h0 : C kc = 0 := by rw [HT0.out]; simp
                          have e : sumTo C (kc + 1) = sumTo C kc := by simp only [sumTo]; omega
                          have HE := Lib.hid e
                          clear h0 e
                          go_wp2_with fail
                          go_roundg (gk - 1)
                          case measure => omega
                          case rel => exact ⟨kc + 1, by go_num, by have := HKC.out; omega, by rw [HE.out, ← HNC.out], HB5⟩
                        · have h0 : C kc = 1 := by rw [HT0.out]; simp
                          have e : ((NB + sumTo C (kc + 1) : Nat) : Int) = ((NB + sumTo C kc : Nat) : Int) + 1 := by simp only [sumTo]; omega
                          have HE := Lib.hid e
                          clear h0 e
                          go_wp2_with fail
                          go_roundg (gk - 1)
                          case measure => omega
                          case rel => exact ⟨kc + 1, by go_num, by have := HKC.out; omega, by rw [HE.out, ← HNC.out], HB5⟩
        · have hkn : k < 3 := by omega
          have hkI : (k : Int) < 3 := by omega
          have k0 : (0 : Int) ≤ (k : Int) := by omega
          have hg1 : 1 ≤ g0 := by omega
          have hlor : lo ≤ wo.heap.size := by rw [← HLO.out]; exact hbe.out.size
          obtain ⟨gb, goff, v5, rfl, hgb, hgx, hrow⟩ := (T3.out.below (hbe.out.mono (by rw [HLO.out]; exact Nat.le_refl _))).at k hkn
          obtain ⟨ra, rc, rfl, hrc, hrm⟩ := hrow.rows.form
          obtain ⟨row, hrw⟩ : ∃ row, r.getD k [] = row := ⟨_, rfl⟩
          rw [hrw] at hrow hgx hrc
          obtain ⟨rn, hrn⟩ : ∃ rn, row.length = rn := ⟨_, rfl⟩
          have hrn3 : rn ≤ 3 := by have := short3_of_ok HOK.out k; rw [hrw, hrn] at this; exact this
          obtain ⟨f, hsl, hlb, hf⟩ := hrow
          rw [hrn] at hsl hgx hrc
          have hls : allT r (k + 1) = allT r k ++ [chs row] := by rw [allT_succ, hrw]
          obtain ⟨vs, hvl, hown, hrows⟩ := hgo.out
          rw [allT_len] at hvl hown
          have hone : ∀ j, j < rn → (f j).oneCell' = true := fun j hj => by
            obtain ⟨q1, q2, e, _⟩ := (hf j (by rw [hrn]; exact hj)).1.form
            rw [e]; rfl
          have ba : Below wo.heap.size wo ((wo.alloc (.cells #[] 3)).alloc (.cells #[.slice (some ⟨wo.heap.size, 0, none⟩) 0 0] 27)) := by repeat (first | exact Below.refl _ _ | assumption | refine Below.drew ?_ | refine belowDrewN ?_ _ | refine Below.alloc ?_ (by first | exact Nat.le_refl _ | omega | (simp; done) | (simp; omega)) _ | refine Below.setCell ?_ (by first | exact Nat.le_refl _ | omega | (simp; done) | (simp; omega)) _)
          have h00 : IntsTy ((wo.alloc (.cells #[] 3)).alloc (.cells #[.slice (some ⟨wo.heap.size, 0, none⟩) 0 0] 27)) w.heap.size (.slice (some ⟨wo.heap.size, 0, none⟩) 0 0) [] := (ints_lit wo wo.heap.size w.heap.size rfl (by omega) [] (by simp)).alloc _
          have hlit : ((wo.alloc (.cells #[] 3)).alloc (.cells #[.slice (some ⟨wo.heap.size, 0, none⟩) 0 0] 27)).ownsRow (wo.heap.size + 1) 27 1 (.slice (some ⟨wo.heap.size + 1, 0, none⟩) 1 1) 1 [.slice (some ⟨wo.heap.size, 0, none⟩) 0 0] := by
            have := World.ownsRow_lit (e := 27) (base := wo.heap.size + 1) (size := 1) (wo.alloc (.cells #[] 3)) #[.slice (some ⟨wo.heap.size, 0, none⟩) 0 0] 1 (by simp) (by unfold maxLen; omega) rfl
            rw [World.size_alloc] at this; exact this
          have HSL := Lib.hid hsl
          have HF := Lib.hid hf
          have HONE := Lib.hid hone
          have HBA := Lib.hid ba
          have H00 := Lib.hid h00
          have HLIT := Lib.hid hlit
          have HRN := Lib.hid hrn
          have HLS := Lib.hid hls
          have HK := Lib.hid hk
          have HV := Lib.hid hvl
          have HOWN := Lib.hid hown
          have HROWS := Lib.hid hrows
          clear hsl hf hone ba h00 hlit hrn hrw hls hk hg hvl hown hrows hlb
          go_wp2_with (first
            | (at_builtin; refine wpList_append_src rfl (.tmp 37) (.tmp 41) 26 rfl (wo.heap.size + 1) 27 i0 (.slice none 0 0) 24 Try.underlying26 hi hz0 hz1 hz2 rfl (.slice (some ⟨wo.heap.size + 1, 0, none⟩) 1 1) 1 [.slice (some ⟨wo.heap.size, 0, none⟩) 0 0] rfl (HLIT.out) (.slice ra rn rc) rn f rfl (HSL.out.below HBA.out) (HONE.out) (by unfold maxLen; omega) (by omega) (by simp) ?_; intro v6 w6 hown6 hgrow6; obtain ⟨sa, sc, e6, hs1, hs2⟩ := owns_form hown6; have hb6 : Below wo.heap.size wo w6 := HBA.out.grown hgrow6 HBA.out.size (fun g hg => by have := (World.ownsRow.lt HLIT.out g hg).1; omega); have HB6 := Lib.hid hb6; have HR6 := Lib.hid (rank_chs HRN.out H00.out (fun i hi => (HF.out i hi).below HBA.out) hown6 hgrow6 (owns_type HLIT.out (by decide))); have HOWN6 := Lib.hid (owns_belowR HOWN.out hb6); have hz6 := hb6.size; clear hown6 hgrow6 hb6; subst e6)
            | (at_builtin; refine wpList_append_own _ rfl (.tmp 35) (.tmp 43) 23 rfl lo 26 i2 (.slice none 0 0) 1 24 Try.underlying23 hi2 hz20 hz21 hz22 rfl (by decide) _ _ _ rfl (World.ownsRow.alloc (HOWN6.out) _) ⟨w6.heap.size, 0, none⟩ 1 1 [.slice sa (1 + rn) sc] rfl rfl (cell_one_new _ _ _) (by simp [Value.oneCell']) (by unfold maxLen; omega) (by omega) (by simp; omega) ?_; intro v' w5 hown5 hgrow5 _))
          obtain ⟨da', dc', e', hr1, hr2⟩ := owns_form hown5
          have b4 : Below w6.heap.size w6 (w6.alloc (.cells #[.slice sa (1 + rn) sc] 26)) := (Below.refl _ _).alloc (Nat.le_refl _) _
          have HG5 : Hid (GridOwn w5 lo w.heap.size v' (allT r (k + 1))) := Lib.hid (by
            rw [HLS.out]
            exact GridOwn.append ⟨by rw [allT_len]; exact HV.out, by rw [allT_len]; exact owns_belowR HOWN6.out b4, fun i hi => ((HROWS.out i hi).below HB6.out).below b4⟩ ((HR6.out.lift (by omega)).below b4) (by rw [allT_len]; exact hown5) hgrow5)
          have HB5 := Lib.hid (((hbe.out.trans (HB6.out.mono hlor)).trans (b4.mono (by omega))).grown hgrow5 (by simp; omega) (fun g hg => (World.ownsRow.lt HOWN6.out g hg).1))
          clear hown5 hgrow5 b4
          subst e'
          go_roundg (g0 - 1)
          case measure => omega
          case rel => exact ⟨k + 1, _, _, rfl, by go_num, by have := HK.out; omega, hr1, hr2, HG5, HB5⟩
    · have hb1 : ranksOk r = false := by simpa using hok
      have hN1 : N = -1 := by rw [← HN.out]; exact manyF_no hb1
      have hN0 : N < 0 := by omega
      clear hok hb1 hN1
      go_wp2_with fail
      refine (HSP.out _ B1.out).mono ?_
      rintro e w3 ⟨rfl, hb⟩
      have BB := Lib.hid (BB.out.trans (hb.mono BB.out.size))
      have B1 := Lib.hid (B1.out.trans (hb.mono B1.out.size))
      clear hb
      go_wp2_with fail
      refine (HSP.out _ B1.out).mono ?_
      rintro e w4 ⟨rfl, hb⟩
      have BB := Lib.hid (BB.out.trans (hb.mono BB.out.size))
      go_wp2_with fail
      go_ret
      exact ⟨rfl, BB.out⟩
end Go.Proofs.Ytlkchhedlbaomaa
