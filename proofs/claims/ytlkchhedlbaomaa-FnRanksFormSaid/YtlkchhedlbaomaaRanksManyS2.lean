/- spec.RanksMany: its three loops. -/
import Derived.Test.YtlkchhedlbaomaaRanksManyS
import Derived.Deep.LoopGhost
import Derived.Deep.RegionWith
namespace Go.Proofs.Ytlkchhedlbaomaa
open Go.RowKit
set_option linter.unusedVariables false

theorem Below.onward {B : Nat} {a b c : World} (h : Below B a b) (g : Below b.heap.size b c) (hB : B ≤ b.heap.size) : Below B a c := h.trans (g.mono hB)

set_option maxRecDepth 100000 in
set_option maxHeartbeats 8000000 in
theorem specMany_any (v : Value) (r : List (List (List Int))) (w : World) (hv : GridAt w v r) :
    Calls Try.prog 34 #[v] w fun e w' => e = .returned (.int .i64 (manyF r)) ∧ Below w.heap.size w w' := by
  have hok := specRanksOk_any v r w hv
  obtain ⟨b1, hb1⟩ : ∃ b, ranksOk r = b := ⟨_, rfl⟩
  rw [hb1] at hok
  obtain ⟨a, cap, rfl, hc, hm⟩ := hv.form
  have H := Lib.hid hv
  have HOK := Lib.hid hok
  have HB1 := Lib.hid hb1
  clear hok hb1 hv
  cases b1
  · have hM := manyF_no HB1.out
    rw [hM]
    clear hM
    go_enter Try.func34, Try.ntmps34
    go_wp2_with (go_at_call 21; refine (HOK.out).mono ?_; rintro e w1 ⟨rfl, hd1⟩)
    go_ret
    exact ⟨rfl, hd1.below _⟩
  · have hM := manyF_yes HB1.out
    have hr3 := ranksOk_len HB1.out
    have hs3 := short3_of_ok HB1.out
    have hgood := fun h (hh : h < 3) => good_of_ranksOk HB1.out hh
    obtain ⟨T, hT⟩ : ∃ T, totP r 3 [] = T := ⟨_, rfl⟩
    have ht := totP3_le hs3 []
    rw [hT] at ht hM
    rw [hM]
    rw [hr3] at hc H HOK ⊢
    obtain ⟨b, off, v0, rfl, hb, hx0, hr0⟩ := H.out.get 0 (by omega)
    obtain ⟨b', off', v1, e, _, hx1, hr1⟩ := H.out.get 1 (by omega)
    simp only [Option.some.injEq, Addr.mk.injEq] at e
    obtain ⟨rfl, rfl, _⟩ := e
    obtain ⟨b', off', v2, e, _, hx2, hr2⟩ := H.out.get 2 (by omega)
    simp only [Option.some.injEq, Addr.mk.injEq] at e
    obtain ⟨rfl, rfl, _⟩ := e
    obtain ⟨x0, y0, rfl, hy0, hz0⟩ := hr0.form
    obtain ⟨x1, y1, rfl, hy1, hz1⟩ := hr1.form
    obtain ⟨x2, y2, rfl, hy2, hz2⟩ := hr2.form
    obtain ⟨r0, hr0e⟩ : ∃ x, r.getD 0 [] = x := ⟨_, rfl⟩
    obtain ⟨r1, hr1e⟩ : ∃ x, r.getD 1 [] = x := ⟨_, rfl⟩
    obtain ⟨r2, hr2e⟩ : ∃ x, r.getD 2 [] = x := ⟨_, rfl⟩
    have n0' := hs3 0
    have n1' := hs3 1
    have n2' := hs3 2
    rw [hr0e] at hr0 hx0 hy0 n0'
    rw [hr1e] at hr1 hx1 hy1 n1'
    rw [hr2e] at hr2 hx2 hy2 n2'
    obtain ⟨n0, hn0⟩ : ∃ n, r0.length = n := ⟨_, rfl⟩
    obtain ⟨n1, hn1⟩ : ∃ n, r1.length = n := ⟨_, rfl⟩
    obtain ⟨n2, hn2⟩ : ∃ n, r2.length = n := ⟨_, rfl⟩
    rw [hn0] at hr0 hx0 hy0 n0'
    rw [hn1] at hr1 hx1 hy1 n1'
    rw [hn2] at hr2 hx2 hy2 n2'
    rw [Nat.add_zero] at hx0
    obtain ⟨A, hA⟩ : ∃ A : Nat → Nat, A = fun i => totP r 2 [(chs r0).getD i []] := ⟨_, rfl⟩
    have hTA : T = sumTo A (n0 + 1) := by rw [← hT, totP, hA, ← hn0, ← hr0e]; rfl
    have hA16 : ∀ i, A i ≤ 16 := fun i => by rw [hA]; exact totP2_le hs3 _
    have HT := Lib.hid hTA
    have HA := Lib.hid hA
    have HA16 := Lib.hid hA16
    have HS3 := Lib.hid hs3
    have HR3 := Lib.hid hr3
    have HG := Lib.hid hgood
    have HR0 := Lib.hid hr0
    have HR1 := Lib.hid hr1
    have HR2 := Lib.hid hr2
    have HE0 := Lib.hid hr0e
    have HE1 := Lib.hid hr1e
    have HE2 := Lib.hid hr2e
    have HN0 := Lib.hid hn0
    have HN1 := Lib.hid hn1
    have HN2 := Lib.hid hn2
    have HX : Hid (∀ W, Below w.heap.size w W → W.cell? ⟨b, off, none⟩ = some (.slice x0 n0 y0) ∧ W.cell? ⟨b, off + 1, none⟩ = some (.slice x1 n1 y1) ∧ W.cell? ⟨b, off + 2, none⟩ = some (.slice x2 n2 y2)) := Lib.hid fun W hW =>
      ⟨(hW.cell (p := ⟨b, off, none⟩) hb).trans hx0, (hW.cell (p := ⟨b, off + 1, none⟩) hb).trans hx1, (hW.cell (p := ⟨b, off + 2, none⟩) hb).trans hx2⟩
    clear hM hr3 hs3 hgood hT hTA hA hA16 hr0 hr1 hr2 hr0e hr1e hr2e hn0 hn1 hn2 hx0 hx1 hx2 hy0 hy1 hy2
    go_enter Try.func34, Try.ntmps34
    go_wp2_with (go_at_call 21; refine (HOK.out).mono ?_; rintro e w1 ⟨rfl, hd1⟩; have HB0 := Lib.hid (hd1.below w.heap.size); clear hd1)
    go_loopg [3, 4] (n0 + 1) (fun g n i wr => ∃ k : Nat, i = .int .i64 k ∧ k + g = n0 + 1 ∧ n = .int .i64 (sumTo A k : Nat) ∧ Hid (Below w.heap.size w wr))
    case atStart => exact ⟨0, rfl, by omega, rfl, HB0⟩
    case round =>
      obtain ⟨ka, rfl, hka, rfl, hba⟩ := hrel
      obtain ⟨ga, rfl⟩ : ∃ g : Nat, g = gk := ⟨_, rfl⟩
      obtain ⟨q0, q1, q2⟩ := HX.out _ hba.out
      by_cases hg : ga = 0
      · subst hg
        obtain rfl : ka = n0 + 1 := by omega
        have hle : ¬ (((n0 + 1 : Nat)) : Int) ≤ (n0 : Int) := by omega
        rw [← HT.out]
        go_wp2_with fail
        go_ret
        exact ⟨rfl, hba.out⟩
      · have hkn : ka ≤ n0 := by omega
        have hkI : (ka : Int) ≤ (n0 : Int) := by omega
        obtain ⟨B, hB⟩ : ∃ B : Nat → Nat, B = fun i => totP r 1 [(chs r0).getD ka [], (chs r1).getD i []] := ⟨_, rfl⟩
        have hAB : A ka = sumTo B (n1 + 1) := by rw [HA.out]; show totP r 2 [_] = _; rw [totP, hB, ← HN1.out, ← HE1.out]; rfl
        have hB4 : ∀ i, B i ≤ 4 := fun i => by rw [hB]; exact totP1_le HS3.out _
        have hsA := sumTo_le4 (n := ka) HA16.out (by omega)
        have HB := Lib.hid hB
        have HAB := Lib.hid hAB
        have HB4 := Lib.hid hB4
        have HKA := Lib.hid hka
        have hga : 1 ≤ ga := by omega
        clear hB hAB hB4 hka hg
        obtain ⟨NA, hNA⟩ : ∃ x, sumTo A ka = x := ⟨_, rfl⟩
        rw [hNA] at hsA ⊢
        have HNA := Lib.hid hNA
        clear hNA
        go_wp2_with fail
        go_loopg [3, 5] (n1 + 1) (fun g n i wr => ∃ k : Nat, i = .int .i64 k ∧ k + g = n1 + 1 ∧ n = .int .i64 (NA + sumTo B k : Nat) ∧ Hid (Below w.heap.size w wr))
        case atStart => exact ⟨0, rfl, by omega, rfl, hba⟩
        case round =>
          obtain ⟨kb, rfl, hkb, rfl, hbb⟩ := hrel
          obtain ⟨gb, rfl⟩ : ∃ g : Nat, g = gk := ⟨_, rfl⟩
          clear q0 q1 q2
          obtain ⟨q0, q1, q2⟩ := HX.out _ hbb.out
          by_cases hg : gb = 0
          · subst hg
            obtain rfl : kb = n1 + 1 := by omega
            have hle : ¬ (((n1 + 1 : Nat)) : Int) ≤ (n1 : Int) := by omega
            rw [← HAB.out]
            go_wp2_with fail
            go_roundg (ga - 1)
            case measure => omega
            case rel => exact ⟨ka + 1, by go_num, by have := HKA.out; omega, by rw [← HNA.out]; rfl, hbb⟩
          · have hkn1 : kb ≤ n1 := by omega
            have hkI1 : (kb : Int) ≤ (n1 : Int) := by omega
            obtain ⟨C, hC⟩ : ∃ C : Nat → Nat, C = fun i => totP r 0 [(chs r0).getD ka [], (chs r1).getD kb [], (chs r2).getD i []] := ⟨_, rfl⟩
            have hBC : B kb = sumTo C (n2 + 1) := by rw [HB.out]; show totP r 1 [_, _] = _; rw [totP, hC, ← HN2.out, ← HE2.out]; rfl
            have hC1 : ∀ i, C i ≤ 1 := fun i => by rw [hC]; exact totP0_le r _
            have hsB := sumTo_le4 (n := kb) HB4.out (by omega)
            have HC := Lib.hid hC
            have HBC := Lib.hid hBC
            have HC1 := Lib.hid hC1
            have HKB := Lib.hid hkb
            have hgb : 1 ≤ gb := by omega
            clear hC hBC hC1 hkb hg
            obtain ⟨NB, hNB⟩ : ∃ x, NA + sumTo B kb = x := ⟨_, rfl⟩
            have hsB2 : NB ≤ 80 := by omega
            rw [hNB]
            have HNB := Lib.hid hNB
            clear hNB hsB
            go_wp2_with fail
            go_loopg [3, 6] (n2 + 1) (fun g n i wr => ∃ k : Nat, i = .int .i64 k ∧ k + g = n2 + 1 ∧ n = .int .i64 (NB + sumTo C k : Nat) ∧ Hid (Below w.heap.size w wr))
            case atStart => exact ⟨0, rfl, by omega, rfl, hbb⟩
            case round =>
              obtain ⟨kc, rfl, hkc, rfl, hbc⟩ := hrel
              clear q0 q1 q2
              obtain ⟨q0, q1, q2⟩ := HX.out _ hbc.out
              by_cases hg : gk = 0
              · subst hg
                obtain rfl : kc = n2 + 1 := by omega
                have hle : ¬ (((n2 + 1 : Nat)) : Int) ≤ (n2 : Int) := by omega
                rw [← HBC.out]
                go_wp2_with fail
                go_roundg (gb - 1)
                case measure => omega
                case rel => exact ⟨kb + 1, by go_num, by have := HKB.out; omega, by
                  have e : ((NA + sumTo B (kb + 1) : Nat) : Int) = ((NA + sumTo B kb : Nat) : Int) + ((B kb : Nat) : Int) := by simp only [sumTo]; omega
                  rw [← HNB.out, e], hbc⟩
              · have hkn2 : kc ≤ n2 := by omega
                have hkI2 : (kc : Int) ≤ (n2 : Int) := by omega
                have hsC := sumTo_le4 (n := kc) HC1.out (by omega)
                have hgc : 1 ≤ gk := by omega
                have HKC := Lib.hid hkc
                have hbw : b < wr.heap.size := Nat.lt_of_lt_of_le hb hbc.out.size
                obtain ⟨pa, hpa⟩ : ∃ x, (chs r0).getD ka [] = x := ⟨_, rfl⟩
                obtain ⟨pb, hpb⟩ : ∃ x, (chs r1).getD kb [] = x := ⟨_, rfl⟩
                obtain ⟨pc, hpc⟩ : ∃ x, (chs r2).getD kc [] = x := ⟨_, rfl⟩
                have hCk : C kc = totP r 0 [pa, pb, pc] := by rw [HC.out, ← hpa, ← hpb, ← hpc]
                have hca : ∀ W, Below wr.heap.size wr W → Calls Try.prog 66 #[.slice x0 n0 y0, .int .i64 (ka : Int)] W fun e w' => ∃ sa sn sc, e = .returned (.slice sa sn sc) ∧ IntsAt w' (.slice sa sn sc) pa ∧ Below W.heap.size W w' := fun W hW => by
                  rw [← hpa]; exact choice_any _ r0 ka W ((HR0.out.below hbc.out).below hW) (by rw [HN0.out]; omega) (by rw [HN0.out]; omega)
                have hcb : ∀ W, Below wr.heap.size wr W → Calls Try.prog 66 #[.slice x1 n1 y1, .int .i64 (kb : Int)] W fun e w' => ∃ sa sn sc, e = .returned (.slice sa sn sc) ∧ IntsAt w' (.slice sa sn sc) pb ∧ Below W.heap.size W w' := fun W hW => by
                  rw [← hpb]; exact choice_any _ r1 kb W ((HR1.out.below hbc.out).below hW) (by rw [HN1.out]; omega) (by rw [HN1.out]; omega)
                have hcc : ∀ W, Below wr.heap.size wr W → Calls Try.prog 66 #[.slice x2 n2 y2, .int .i64 (kc : Int)] W fun e w' => ∃ sa sn sc, e = .returned (.slice sa sn sc) ∧ IntsAt w' (.slice sa sn sc) pc ∧ Below W.heap.size W w' := fun W hW => by
                  rw [← hpc]; exact choice_any _ r2 kc W ((HR2.out.below hbc.out).below hW) (by rw [HN2.out]; omega) (by rw [HN2.out]; omega)
                obtain ⟨q, hq⟩ : ∃ q, stillF r [pa, pb, pc] = q := ⟨_, rfl⟩
                have ht0 : C kc = if q = true then 1 else 0 := by rw [hCk]; unfold totP; rw [hq]
                have hst : ∀ W v', Below wr.heap.size wr W → RowsAt W v' [pa, pb, pc] → Calls Try.prog 65 #[.slice (some ⟨b, off, none⟩) 3 cap, v'] W fun e w' => e = .returned (.bool q) ∧ Below W.heap.size W w' := fun W v' hW hv' => by
                  rw [← hq]; exact l32Still_any _ _ r _ W ((H.out.below hbc.out).below hW) hv' HR3.out rfl HG.out
                have HCA := Lib.hid hca
                have HCB := Lib.hid hcb
                have HCC := Lib.hid hcc
                have HST := Lib.hid hst
                have HT0 := Lib.hid ht0
                clear hpa hpb hpc hCk hca hcb hcc hq ht0 hst hkc hg
                obtain ⟨NC, hNC⟩ : ∃ x, NB + sumTo C kc = x := ⟨_, rfl⟩
                have hsC2 : NC ≤ 84 := by omega
                rw [hNC]
                have HNC := Lib.hid hNC
                clear hNC hsC
                go_wp2_with fail
                go_region_held3 (fun w' => w'.cell? ⟨b, off, none⟩ = some (.slice x0 n0 y0) ∧ w'.cell? ⟨b, off + 1, none⟩ = some (.slice x1 n1 y1) ∧ w'.cell? ⟨b, off + 2, none⟩ = some (.slice x2 n2 y2)) ((simp [go_sem, *])) (first
                  | (go_at_call_of 66 (Value.int IntKind.i64 ((ka : Nat) : Int)); refine (HCA.out _ (by repeat (first | exact Below.refl _ _ | assumption | refine Below.drew ?_ | refine belowDrewN ?_ _ | refine Below.alloc ?_ (by first | exact Nat.le_refl _ | omega | (simp; done) | (simp; omega)) _ | refine Below.setCell ?_ (by first | exact Nat.le_refl _ | omega | (simp; done) | (simp; omega)) _))).mono ?_; rintro e wa ⟨sa, na, ca, rfl, hi, hb1⟩; have HIA := Lib.hid hi; have hB1 : Below wr.heap.size wr wa := (by refine Below.trans ?_ (hb1.mono (by first | exact Nat.le_refl _ | omega | (simp; done) | (simp; omega))); repeat (first | exact Below.refl _ _ | assumption | refine Below.drew ?_ | refine belowDrewN ?_ _ | refine Below.alloc ?_ (by first | exact Nat.le_refl _ | omega | (simp; done) | (simp; omega)) _ | refine Below.setCell ?_ (by first | exact Nat.le_refl _ | omega | (simp; done) | (simp; omega)) _)); have hs1 := hB1.size; have hbw1 : b < wa.heap.size := Nat.lt_of_lt_of_le hbw hs1; obtain ⟨hc1, hf1⟩ := bcell hB1; clear hi hb1)
                  | (go_at_call_of 66 (Value.int IntKind.i64 ((kb : Nat) : Int)); refine (HCB.out _ (by repeat (first | exact Below.refl _ _ | assumption | refine Below.drew ?_ | refine belowDrewN ?_ _ | refine Below.alloc ?_ (by first | exact Nat.le_refl _ | omega | (simp; done) | (simp; omega)) _ | refine Below.setCell ?_ (by first | exact Nat.le_refl _ | omega | (simp; done) | (simp; omega)) _))).mono ?_; rintro e wb ⟨sb, nb, cb, rfl, hi, hb1⟩; have HIB := Lib.hid hi; have HIA2 := Lib.hid (HIA.out.below (by first | exact hb1 | exact Below.trans (by repeat (first | exact Below.refl _ _ | assumption | refine Below.drew ?_ | refine belowDrewN ?_ _ | refine Below.alloc ?_ (by first | exact Nat.le_refl _ | omega | (simp; done) | (simp; omega)) _ | refine Below.setCell ?_ (by first | exact Nat.le_refl _ | omega | (simp; done) | (simp; omega)) _)) hb1)); have hB2 : Below wr.heap.size wr wb := (by refine Below.trans ?_ (hb1.mono (by first | exact Nat.le_refl _ | omega | (simp; done) | (simp; omega))); repeat (first | exact Below.refl _ _ | assumption | refine Below.drew ?_ | refine belowDrewN ?_ _ | refine Below.alloc ?_ (by first | exact Nat.le_refl _ | omega | (simp; done) | (simp; omega)) _ | refine Below.setCell ?_ (by first | exact Nat.le_refl _ | omega | (simp; done) | (simp; omega)) _)); have hs2 := hB2.size; have hbw2 : b < wb.heap.size := Nat.lt_of_lt_of_le hbw hs2; obtain ⟨hc2, hf2⟩ := bcell hB2; clear hi hb1)
                  | (go_at_call_of 66 (Value.int IntKind.i64 ((kc : Nat) : Int)); refine (HCC.out _ (by repeat (first | exact Below.refl _ _ | assumption | refine Below.drew ?_ | refine belowDrewN ?_ _ | refine Below.alloc ?_ (by first | exact Nat.le_refl _ | omega | (simp; done) | (simp; omega)) _ | refine Below.setCell ?_ (by first | exact Nat.le_refl _ | omega | (simp; done) | (simp; omega)) _))).mono ?_; rintro e wc ⟨sc, nc, cc, rfl, hi, hb1⟩; have HIC := Lib.hid hi; have HIA3 := Lib.hid (HIA2.out.below (by first | exact hb1 | exact Below.trans (by repeat (first | exact Below.refl _ _ | assumption | refine Below.drew ?_ | refine belowDrewN ?_ _ | refine Below.alloc ?_ (by first | exact Nat.le_refl _ | omega | (simp; done) | (simp; omega)) _ | refine Below.setCell ?_ (by first | exact Nat.le_refl _ | omega | (simp; done) | (simp; omega)) _)) hb1)); have HIB2 := Lib.hid (HIB.out.below (by first | exact hb1 | exact Below.trans (by repeat (first | exact Below.refl _ _ | assumption | refine Below.drew ?_ | refine belowDrewN ?_ _ | refine Below.alloc ?_ (by first | exact Nat.le_refl _ | omega | (simp; done) | (simp; omega)) _ | refine Below.setCell ?_ (by first | exact Nat.le_refl _ | omega | (simp; done) | (simp; omega)) _)) hb1)); have hB3 : Below wr.heap.size wr wc := (by refine Below.trans ?_ (hb1.mono (by first | exact Nat.le_refl _ | omega | (simp; done) | (simp; omega))); repeat (first | exact Below.refl _ _ | assumption | refine Below.drew ?_ | refine belowDrewN ?_ _ | refine Below.alloc ?_ (by first | exact Nat.le_refl _ | omega | (simp; done) | (simp; omega)) _ | refine Below.setCell ?_ (by first | exact Nat.le_refl _ | omega | (simp; done) | (simp; omega)) _)); have hs3 := hB3.size; have hbw3 : b < wc.heap.size := Nat.lt_of_lt_of_le hbw hs3; obtain ⟨hc3, hf3⟩ := bcell hB3; clear hi hb1)
                  | (go_at_call 65; refine (HST.out _ _ (by repeat (first | exact Below.refl _ _ | assumption | refine Below.drew ?_ | refine belowDrewN ?_ _ | refine Below.alloc ?_ (by first | exact Nat.le_refl _ | omega | (simp; done) | (simp; omega)) _ | refine Below.setCell ?_ (by first | exact Nat.le_refl _ | omega | (simp; done) | (simp; omega)) _)) (rows_lit3 _ _ _ _ pa pb pc HIA3.out HIB2.out HIC.out).1).mono ?_; rintro e wd ⟨rfl, hb4⟩; have hB4 : Below wr.heap.size wr wd := (by refine Below.trans ?_ (hb4.mono (by first | exact Nat.le_refl _ | omega | (simp; done) | (simp; omega))); repeat (first | exact Below.refl _ _ | assumption | refine Below.drew ?_ | refine belowDrewN ?_ _ | refine Below.alloc ?_ (by first | exact Nat.le_refl _ | omega | (simp; done) | (simp; omega)) _ | refine Below.setCell ?_ (by first | exact Nat.le_refl _ | omega | (simp; done) | (simp; omega)) _)); obtain ⟨hc4, hf4⟩ := bcell hB4; clear hb4))
                all_goals
                  have HB5 := Lib.hid (hbc.out.trans (hB4.mono hbc.out.size))
                  clear hB1 hB2 hB3 hB4 hc1 hf1 hc2 hf2 hc3 hf3 hc4 hf4
                  cases q
                  · have h0 : C kc = 0 := by rw [HT0.out]; simp
                    have e : sumTo C (kc + 1) = sumTo C kc := by simp only [sumTo]; omega
                    have HE := Lib.hid e
                    clear h0 e
                    go_wp2_with fail
                    go_roundg (gk - 1)
                    case measure => omega
                    case rel => exact ⟨kc + 1, by go_num, by have := HKC.out; omega, by rw [HE.out, ← HNC.out], HB5⟩
                  · have h0 : C kc = 1 := by rw [HT0.out]; simp
                    have e : ((NB + sumTo C (kc + 1) : Nat) : Int) = ((NB + sumTo C kc : Nat) : Int) + 1 := by simp only [sumTo]; omega
                    have HE := Lib.hid e
                    clear h0 e
                    go_wp2_with fail
                    go_roundg (gk - 1)
                    case measure => omega
                    case rel => exact ⟨kc + 1, by go_num, by have := HKC.out; omega, by rw [HE.out, ← HNC.out], HB5⟩
end Go.Proofs.Ytlkchhedlbaomaa
