/- The walk of FnSendMany. -/
import Derived.Test.YtnjkifnlimfhnaaGreatDoorOwnP
namespace Go.Proofs.YtnjkifnlimfhnaaGreatDoor
open Go.RowKit
set_option linter.unusedVariables false
set_option maxRecDepth 100000

theorem send_drewM {P : Program} {f : FuncId} {args : Array Value} {w : World} {v : Value} (h : Calls P f args w fun e w' => e = .returned v ∧ Drew w w') : Calls P f args w fun e w' => e = .returned v ∧ Below w.heap.size w w' :=
  h.mono fun e w' hh => ⟨hh.1, hh.2.below _⟩
def aloneF (l : List Ent) (i k : Nat) : Bool := (List.range k).all fun q => decide (q = i) || !inF (l.getD q (0, 0, 0)).1 (l.getD q (0, 0, 0)).2.1 (l.getD i (0, 0, 0)).1 (l.getD i (0, 0, 0)).2.1
theorem aloneF_succ (l : List Ent) (i k : Nat) : aloneF l i (k + 1) = (aloneF l i k && (decide (k = i) || !inF (l.getD k (0, 0, 0)).1 (l.getD k (0, 0, 0)).2.1 (l.getD i (0, 0, 0)).1 (l.getD i (0, 0, 0)).2.1)) := by
  unfold aloneF
  rw [List.range_succ, List.all_append]
  simp
theorem aloneF_all {l : List Ent} {i n : Nat} (h : aloneF l i n = true) : ∀ k, k < n → k ≠ i → inF (l.getD k (0, 0, 0)).1 (l.getD k (0, 0, 0)).2.1 (l.getD i (0, 0, 0)).1 (l.getD i (0, 0, 0)).2.1 = false := fun k hk hne => by
  unfold aloneF at h
  rw [List.all_eq_true] at h
  have := h k (List.mem_range.2 hk)
  simpa [hne] using this
theorem rem_small (x L : Nat) (h1 : 1 ≤ L) (h4 : L ≤ 1000) : ∃ k : Nat, k < L ∧ (x : Int).tmod (L : Int) = (k : Int) ∧ IntKind.i64.wrap (k : Int) = (k : Int) := by
  have hk := Nat.mod_lt x (show L > 0 by omega)
  refine ⟨x % L, hk, ?_, IntWalk.i64_in _ (by omega)⟩
  rw [Int.tmod_eq_emod_of_nonneg (by omega)]; rfl
theorem addr_in {f b : Int} {r : Nat} (hr : rangeOkF f b = true) (h : (r : Int) < sizeF b) : hasF f b (f + (r : Int)) = true ∧ addrF (f + (r : Int)) = true ∧ 0 ≤ f + (r : Int) ∧ f + (r : Int) ≤ 255 := by
  obtain ⟨_, _, f0, f1, _⟩ := rangeOk_parts hr
  have ht := range_top hr
  refine ⟨(has_iff hr).2 ⟨by omega, by omega⟩, ?_, by omega, by omega⟩
  unfold addrF
  rw [decide_eq_true (by omega), decide_eq_true (by omega)]; rfl
set_option maxHeartbeats 16000000 in
theorem sendMany_walk (a : Option Addr) (len cap : Nat) (zs : List Int) (a2 : Option Addr) (len2 cap2 : Nat) (zs2 : List Int) (w : World) (h : IsRow .u8 w a len cap zs) (hh2 : IsRow .u8 w a2 len2 cap2 zs2) (hE : ErrOk w) :
    Calls Tryz.prog 5 #[.slice a len cap, .slice a2 len2 cap2] w fun e w' => e = .returned (.bool true) ∧ Below w.heap.size w w' := by
  obtain ⟨hm, hc⟩ := h.bounds
  have hc' := hc
  unfold maxLen at hc'
  obtain ⟨hm2, hc2⟩ := hh2.bounds
  have hc2' := hc2
  unfold maxLen at hc2'
  have H := Lib.hid h
  have HE := Lib.hid hE
  clear h hE hh2
  go_enter Tryz.func5, Tryz.ntmps5
  by_cases hl : 1048576 < len
  · go_wp2_with fail
    go_ret
    exact ⟨rfl, Below.refl _ _⟩
  by_cases hl2 : 1048576 < len2
  · go_wp2_with fail
    go_ret
    exact ⟨rfl, Below.refl _ _⟩
  · go_wp2_with fail
    refine (drawSendTables_any _ _ _ zs _ H.out).mono ?_
    rintro e w1 ⟨v, hv, rs, l, n, rfl, hr, hq, hn2, hn5, hh, hl6, hb⟩
    obtain ⟨ra, rc, e', hrc, hrm⟩ := hr.form
    subst e'
    obtain ⟨la, lc, e', hlc, hlm⟩ := hh.form
    subst e'
    rw [hq.1] at hr hrc ⊢
    obtain ⟨L, hL⟩ : ∃ L, l.length = L := ⟨_, rfl⟩
    rw [hL] at hh hlc hl6 ⊢
    have hE1 := HE.out.below hb
    have himp := implSendTables_any _ _ rs l n w1 hr hh hq.1 hE1
    have hspc : ∀ W, Below w1.heap.size w1 W → Calls Tryz.prog 11 #[.slice ra n rc, .slice la L lc] W fun e w' => ∃ v', e = .returned v' ∧ TabsL w' W.heap.size v' (sendTabsF rs l n) ∧ Below W.heap.size W w' := fun W hW => specSendTables_any _ _ rs l n W (hr.below hW) hq (hh.below hW) (by omega) hn5 (by omega)
    have hhok : ∀ W, Below w1.heap.size w1 W → Calls Tryz.prog 12 #[.slice ra n rc, .slice la L lc] W fun e w' => e = .returned (.bool (homesOkF rs l)) ∧ Below W.heap.size W w' := fun W hW => implHomesOk_any _ _ rs l W (hr.below hW) (hh.below hW)
    obtain ⟨T, hT⟩ : ∃ T, sendTabsF rs l n = T := ⟨_, rfl⟩
    rw [hT] at himp hspc
    obtain ⟨B, hB⟩ : ∃ B, homesOkF rs l = B := ⟨_, rfl⟩
    rw [hB] at hhok
    have HIM := Lib.hid himp
    have HSP := Lib.hid hspc
    have HHO := Lib.hid hhok
    have HB := Lib.hid hB
    have HT := Lib.hid hT
    have HQ := Lib.hid hq
    have HH := Lib.hid hh
    have HR := Lib.hid hr
    have HL := Lib.hid hL
    have BB := Lib.hid hb
    have HE1 := Lib.hid hE1
    clear himp hspc hhok hB hT hq hh hr hb hE1 hL
    go_wp2_with fail
    refine HIM.out.mono ?_
    rintro e w2 ⟨tv, rfl, hT2, hb2⟩
    obtain ⟨ta, tc, e', htc, htm⟩ := hT2.form
    subst e'
    obtain ⟨N, hN⟩ : ∃ N, T.length = N := ⟨_, rfl⟩
    rw [hN] at hT2 htc ⊢
    have T2 := Lib.hid hT2
    have B2 := Lib.hid hb2
    clear hT2 hb2
    go_wp2_with fail
    refine (HSP.out w2 B2.out).mono ?_
    rintro e w3 ⟨sv, rfl, hS3, hb3⟩
    have B3 := Lib.hid (B2.out.trans (hb3.mono B2.out.size))
    have T3 := Lib.hid (T2.out.below hb3)
    have HLY := Lib.hid (lyTables_same _ _ T w3 T3.out.tabs hS3.tabs)
    clear hS3 hb3 T2
    go_wp2_with fail
    refine HLY.out.mono ?_
    rintro e w4 ⟨rfl, hb4⟩
    have B4 := Lib.hid (B3.out.trans (hb4.mono B3.out.size))
    have T4 := Lib.hid (T3.out.below hb4)
    clear hb4 T3 HLY
    go_wp2_with fail
    refine (HHO.out w4 B4.out).mono ?_
    rintro e w5 ⟨rfl, hb5⟩
    have B5 := Lib.hid (B4.out.trans (hb5.mono B4.out.size))
    have T5 := Lib.hid (T4.out.below hb5)
    clear hb5 T4
    have hfin : ∀ W, Below w1.heap.size w1 W → Below w.heap.size w W := fun W hW => BB.out.trans (hW.mono BB.out.size)
    have HFN := Lib.hid hfin
    clear hfin
    cases B
    · go_wp2_with fail
      refine (HSP.out w5 B5.out).mono ?_
      rintro e w6 ⟨sv6, rfl, hS6, hb6⟩
      have B6 := Lib.hid (B5.out.trans (hb6.mono B5.out.size))
      have HLY := Lib.hid (lyTables_same _ _ T w6 (T5.out.below hb6).tabs hS6.tabs)
      clear hS6 hb6
      go_wp2_with fail
      refine HLY.out.mono ?_
      rintro e w7 ⟨rfl, hb7⟩
      have B7 := Lib.hid (B6.out.trans (hb7.mono B6.out.size))
      clear hb7
      go_wp2_with fail
      go_ret
      exact ⟨rfl, HFN.out _ B7.out⟩
    · have hNn : N = n := by rw [← hN, ← HT.out]; exact sendTabs_len2 HB.out
      subst hNn
      have hget : ∀ k, k < N → T.getD k [] = tabF rs N l k L := fun k hk => by rw [← HT.out, sendTabs_get HB.out HQ.out.1 hk, HL.out]
      have hmany : ∀ i, i < L → aloneF l i L = true → ∀ x y : Int, hasF (l.getD i (0, 0, 0)).1 (l.getD i (0, 0, 0)).2.1 x = true → hasF (l.getD i (0, 0, 0)).1 (l.getD i (0, 0, 0)).2.1 y = true → addrF x = true → addrF y = true → ∀ h, wayF T h x = wayF T h y := fun i hi ha x y hx hy x0 y0 h => by
        rw [← HT.out]
        exact many_same HB.out HQ.out.1 (by omega) hn5 (by rw [HL.out]; exact hi) (by rw [HL.out]; exact aloneF_all ha) hx hy x0 y0 h
      have hrok : ∀ i, i < L → rangeOkF (l.getD i (0, 0, 0)).1 (l.getD i (0, 0, 0)).2.1 = true := fun i hi => (homes_house HB.out (by rw [HL.out]; exact hi)).2.2
      have hsw : ∀ W (y ad : Int), Below w5.heap.size w5 W → Calls Tryz.prog 18 #[.slice ta N tc, .int .i64 y, .int .i64 ad] W (WayPost (wayF T y ad) W) := fun W y ad hW => implSendWay_any _ T y ad W (T5.out.tabs.below hW)
      have HMANY := Lib.hid hmany
      have HROK := Lib.hid hrok
      have HSW := Lib.hid hsw
      clear hmany hrok hsw hget hN T5 HIM HSP HHO HB HT HQ HE1 HR
      go_wp2_with fail
      go_loopg [8] L (fun gk s8 wr => ∃ i : Nat, s8 = .int .i64 (i : Int) ∧ i + gk = L ∧ Hid (Below w1.heap.size w1 wr) ∧ Hid (Below w5.heap.size w5 wr))
      case atStart => exact ⟨0, rfl, by omega, B5, Lib.hid (Below.refl _ _)⟩
      case round =>
        clear B2 B3 B4 B5
        obtain ⟨i, rfl, hi, B, LL⟩ := hrel
        by_cases hg : gk = 0
        · subst hg
          obtain rfl : i = L := by omega
          have hdn : decide ((i : Int) < (i : Int)) = false := by simp
          go_wp2_with fail
          go_ret
          exact ⟨rfl, HFN.out _ B.out⟩
        · have hiL : i < L := by omega
          have hiI : (i : Int) < (L : Int) := by omega
          have i0 : (0 : Int) ≤ (i : Int) := by omega
          have hgk : 1 ≤ gk := by omega
          have HI := Lib.hid hi
          obtain ⟨GI, hGI⟩ : ∃ G, G = gk := ⟨_, rfl⟩
          obtain ⟨lb, loff, rfl, hlb, y0, y1, y2⟩ := HH.out.get i hiL
          have hro := HROK.out i hiL
          have hmn := HMANY.out i hiL
          have hasu := fun k => aloneF_succ l i k
          obtain ⟨ent, hent⟩ : ∃ e, l.getD i (0, 0, 0) = e := ⟨_, rfl⟩
          rw [hent] at y0 y1 y2 hro hmn
          simp only [hent] at hasu
          obtain ⟨lf, lbt, lho⟩ := ent
          simp only at y0 y1 y2 hro hmn hasu
          have hys := fun W (hW : Below w1.heap.size w1 W) => (show W.cell? ⟨lb, loff + i * 3, none⟩ = some (.int .i64 lf) ∧ W.cell? ⟨lb, loff + i * 3 + 1, none⟩ = some (.int .i64 lbt) from ⟨(hW.cell (p := ⟨lb, loff + i * 3, none⟩) hlb).trans y0, (hW.cell (p := ⟨lb, loff + i * 3 + 1, none⟩) hlb).trans y1⟩)
          have HYS := Lib.hid hys
          have HRO := Lib.hid hro
          have HMN := Lib.hid hmn
          have HAS := Lib.hid hasu
          clear hi hg hent y0 y1 y2 hro hmn hasu hys
          go_wp2_with fail
          go_loopg [9, 10] L (fun gk s9 s10 wr => ∃ k : Nat, s10 = .int .i64 (k : Int) ∧ k + gk = L ∧ s9 = .bool (aloneF l i k) ∧ Hid (Below w1.heap.size w1 wr) ∧ Hid (Below w5.heap.size w5 wr))
          case atStart => exact ⟨0, rfl, by omega, rfl, B, LL⟩
          case round =>
            clear B LL
            obtain ⟨k, rfl, hk, rfl, B, LL⟩ := hrel
            obtain ⟨y0, y1⟩ := HYS.out wr B.out
            by_cases hg : gk = 0
            · subst hg
              obtain rfl : k = L := by omega
              have hdn : decide ((k : Int) < (k : Int)) = false := by simp
              obtain ⟨al, hal⟩ : ∃ b, aloneF l i k = b := ⟨_, rfl⟩
              rw [hal]
              cases al
              · clear hal
                go_wp2_with fail
                go_roundg (GI - 1)
                case measure => omega
                case rel => exact ⟨i + 1, by go_num, by have := HI.out; omega, B, LL⟩
              · have hmany := HMN.out hal
                obtain ⟨S, hS⟩ : ∃ S : Nat, sizeF lbt = (S : Int) := ⟨(sizeF lbt).toNat, by have := sizeF_pos lbt; omega⟩
                have hS1 : 1 ≤ S := by have := sizeF_pos lbt; omega
                have hS2 : S ≤ 256 := by have := sizeF_le lbt (rangeOk_parts HRO.out).1; omega
                obtain ⟨r, hr, hr1, hr2⟩ := rem_small len2 S hS1 (by omega)
                obtain ⟨q1, q2, q3, q4⟩ := addr_in (r := r) HRO.out (by omega)
                obtain ⟨p1, p2, p3, p4⟩ := addr_in (r := 0) HRO.out (by have := sizeF_pos lbt; omega)
                have hwb : IntKind.i64.wrap (lf + (r : Int)) = lf + (r : Int) := IntWalk.i64_in _ (by omega)
                have hmo := fun h => hmany (lf + ((0 : Nat) : Int)) (lf + (r : Int)) p1 q1 p2 q2 h
                have e0 : lf + ((0 : Nat) : Int) = lf := by omega
                rw [e0] at hmo
                have hmy := fun W => rangeMany_any lf lbt HRO.out W
                rw [hS] at hmy
                have HMY := Lib.hid hmy
                have HMO := Lib.hid hmo
                have hSI : (S : Int) ≠ 0 := by omega
                clear hal hmany hmo hmy hS hr q1 q2 p1 p2 e0
                go_wp2_with fail
                refine (HMY.out _).mono ?_
                rintro e w6 ⟨rfl, hb6⟩
                have B6 := Lib.hid (B.out.trans (hb6.mono B.out.size))
                have L6 := Lib.hid (LL.out.trans (hb6.mono LL.out.size))
                clear hb6 B LL
                go_wp2_with fail
                go_loopg [13] N (fun gk s13 wr => ∃ h : Nat, s13 = .int .i64 ((h : Int) + 1) ∧ h + gk = N ∧ Hid (Below w1.heap.size w1 wr) ∧ Hid (Below w5.heap.size w5 wr))
                case atStart => exact ⟨0, by go_num, by omega, B6, L6⟩
                case round =>
                  clear B6 L6
                  obtain ⟨h, rfl, hh, B, LL⟩ := hrel
                  by_cases hg : gk = 0
                  · subst hg
                    obtain rfl : h = N := by omega
                    have hdn : decide ((h : Int) + 1 ≤ (h : Int)) = false := decide_eq_false (by omega)
                    go_wp2_with fail
                    go_roundg (GI - 1)
                    case measure => omega
                    case rel => exact ⟨i + 1, by go_num, by have := HI.out; omega, B, LL⟩
                  · have hhI : (h : Int) + 1 ≤ (N : Int) := by omega
                    have hhI2 : (h : Int) < (N : Int) := by omega
                    have hgk3 : 1 ≤ gk := by omega
                    have HHH := Lib.hid hh
                    have hw1 := fun W hW => HSW.out W ((h : Int) + 1) lf hW
                    have hw2 := fun W hW => HSW.out W ((h : Int) + 1) (lf + (r : Int)) hW
                    unfold WayPost at hw1 hw2
                    rw [HMO.out] at hw1
                    obtain ⟨way, hway⟩ : ∃ v, (wayF T ((h : Int) + 1) (lf + (r : Int))).1 = v := ⟨_, rfl⟩
                    obtain ⟨ok, hok⟩ : ∃ v, (wayF T ((h : Int) + 1) (lf + (r : Int))).2 = v := ⟨_, rfl⟩
                    rw [hway, hok] at hw1 hw2
                    have HW1 := Lib.hid hw1
                    have HW2 := Lib.hid hw2
                    clear hw1 hw2 hway hok hh hg
                    have hoo : (ok != ok) = false := by simp
                    go_wp2_with fail
                    refine (HW1.out wr LL.out).mono ?_
                    rintro e w7 ⟨v7, rfl, ho7, hb7⟩
                    obtain ⟨sa, sc, e', _, _⟩ := ho7.form
                    subst e'
                    have O7 := Lib.hid ho7
                    have B7 := Lib.hid (B.out.trans (hb7.mono B.out.size))
                    have L7 := Lib.hid (LL.out.trans (hb7.mono LL.out.size))
                    clear ho7 hb7
                    go_wp2_with fail
                    refine (HW2.out w7 L7.out).mono ?_
                    rintro e w8 ⟨v8, rfl, ho8, hb8⟩
                    obtain ⟨sb, sd, e', _, _⟩ := ho8.form
                    subst e'
                    have hly : Calls Tryz.prog 19 #[.slice sa way.length sc, .slice sb way.length sd] w8 fun e w' => e = .returned (.bool true) ∧ Below w8.heap.size w8 w' := by
                      have := send_drewM (lyInts_any _ _ way way w8 (O7.out.ints.below hb8) ho8.ints); simpa using this
                    have HLY := Lib.hid hly
                    have B8 := Lib.hid (B7.out.trans (hb8.mono B7.out.size))
                    have L8 := Lib.hid (L7.out.trans (hb8.mono L7.out.size))
                    clear ho8 hb8 hly B7 L7 O7
                    go_wp2_with fail
                    refine HLY.out.mono ?_
                    rintro e w9 ⟨rfl, hb9⟩
                    have B9 := Lib.hid (B8.out.trans (hb9.mono B8.out.size))
                    have L9 := Lib.hid (L8.out.trans (hb9.mono L8.out.size))
                    clear hb9
                    go_wp2_with fail
                    go_roundg (gk - 1)
                    case measure => omega
                    case rel => exact ⟨h + 1, by go_num, by have := HHH.out; omega, B9, L9⟩
            · have hkL : k < L := by omega
              have hkI : (k : Int) < (L : Int) := by omega
              have k0 : (0 : Int) ≤ (k : Int) := by omega
              have hgk2 : 1 ≤ gk := by omega
              have HK := Lib.hid hk
              obtain ⟨kb, koff, e, hkb, x0, x1, x2⟩ := (HH.out.below B.out).get k hkL
              cases e
              have hrk := HROK.out k hkL
              have hs := HAS.out k
              obtain ⟨ent, hent⟩ : ∃ e, l.getD k (0, 0, 0) = e := ⟨_, rfl⟩
              rw [hent] at x0 x1 x2 hrk hs
              obtain ⟨f, bt, ho⟩ := ent
              simp only at x0 x1 x2 hrk hs
              obtain ⟨al, hal⟩ : ∃ b, aloneF l i k = b := ⟨_, rfl⟩
              rw [hal] at hs ⊢
              have HS := Lib.hid hs
              have HIN := Lib.hid (fun W => rangeIn_any f bt lf lbt hrk HRO.out W)
              clear hk hg hent hal hs hrk
              cases al
              · go_wp2_with fail
                refine wp_region_noPanic ?_
                refine wp_region_held_drew (S := (fun W => W.cell? ⟨lb, loff + i * 3, none⟩ = some (.int .i64 lf))) (by kernel_rfl) (by exact y0) (fun hHeld => ?_)
                refine wpAnyH_take (i := 0) (v := _) (by (simp only [List.getElem?_toArray, List.getElem?_cons_zero]) <;> rfl) (by kernel_rfl) (by kernel_rfl) (by kernel_rfl) (fun _ _ _ h => h) (Or.inl ⟨by rfl, fun w hSw => by ((try dsimp only at hSw); go_simp) <;> with_reducible rfl⟩) (by assumption) ?_
                (try simp only [Act.put, List.setIfInBounds_toArray, List.set_cons_zero, List.set_cons_succ])
                refine wpAnyH_take (i := 1) (v := _) (by (simp only [List.getElem?_toArray, List.getElem?_cons_succ, List.getElem?_cons_zero]) <;> rfl) (by kernel_rfl) (by kernel_rfl) (by kernel_rfl) (fun _ _ _ h => h) (Or.inl ⟨by rfl, fun w hSw => by ((try dsimp only at hSw); go_simp) <;> with_reducible rfl⟩) (by assumption) ?_
                (try simp only [Act.put, List.setIfInBounds_toArray, List.set_cons_zero, List.set_cons_succ])
                refine wpAnyH_take (i := 2) (v := _) (by (simp only [List.getElem?_toArray, List.getElem?_cons_succ, List.getElem?_cons_zero]) <;> rfl) (by kernel_rfl) (by kernel_rfl) (by kernel_rfl) (fun _ _ _ h => h) (Or.inr ⟨by rfl, rfl⟩) (by assumption) ?_
                (try simp only [Act.put, List.setIfInBounds_toArray, List.set_cons_zero, List.set_cons_succ])
                refine wpAnyH_take (i := 3) (v := _) (by (simp only [List.getElem?_toArray, List.getElem?_cons_succ, List.getElem?_cons_zero]) <;> rfl) (by kernel_rfl) (by kernel_rfl) (by kernel_rfl) (fun _ _ _ h => h) (Or.inr ⟨by rfl, rfl⟩) (by assumption) ?_
                (try simp only [Act.put, List.setIfInBounds_toArray, List.set_cons_zero, List.set_cons_succ])
                refine wpAnyH_take (i := 4) (v := _) (by (simp only [List.getElem?_toArray, List.getElem?_cons_succ, List.getElem?_cons_zero]) <;> rfl) (by kernel_rfl) (by kernel_rfl) (by kernel_rfl) (fun _ _ _ h => h) (Or.inr ⟨by rfl, rfl⟩) (by assumption) ?_
                (try simp only [Act.put, List.setIfInBounds_toArray, List.set_cons_zero, List.set_cons_succ])
                refine wpAnyH_take (i := 5) (v := _) (by (simp only [List.getElem?_toArray, List.getElem?_cons_succ, List.getElem?_cons_zero]) <;> rfl) (by kernel_rfl) (by kernel_rfl) (by kernel_rfl) (fun _ _ _ h => h) (Or.inr ⟨by rfl, rfl⟩) (by assumption) ?_
                (try simp only [Act.put, List.setIfInBounds_toArray, List.set_cons_zero, List.set_cons_succ])
                refine wpAnyH_take (i := 6) (v := _) (by (simp only [List.getElem?_toArray, List.getElem?_cons_succ, List.getElem?_cons_zero]) <;> rfl) (by kernel_rfl) (by kernel_rfl) (by kernel_rfl) (fun _ _ _ h => h) (Or.inr ⟨by rfl, rfl⟩) (by assumption) ?_
                (try simp only [Act.put, List.setIfInBounds_toArray, List.set_cons_zero, List.set_cons_succ])
                refine wpAnyH_take (i := 7) (v := _) (by (simp only [List.getElem?_toArray, List.getElem?_cons_succ, List.getElem?_cons_zero]) <;> rfl) (by kernel_rfl) (by kernel_rfl) (by kernel_rfl) (fun _ _ _ h => h) (Or.inr ⟨by rfl, rfl⟩) (by assumption) ?_
                (try simp only [Act.put, List.setIfInBounds_toArray, List.set_cons_zero, List.set_cons_succ])
                refine wpAnyH_take (i := 8) (v := _) (by (simp only [List.getElem?_toArray, List.getElem?_cons_succ, List.getElem?_cons_zero]) <;> rfl) (by kernel_rfl) (by kernel_rfl) (by kernel_rfl) (fun _ _ _ h => h) (Or.inr ⟨by rfl, rfl⟩) (by assumption) ?_
                (try simp only [Act.put, List.setIfInBounds_toArray, List.set_cons_zero, List.set_cons_succ])
                refine wpAnyH_take (i := 9) (v := _) (by (simp only [List.getElem?_toArray, List.getElem?_cons_succ, List.getElem?_cons_zero]) <;> rfl) (by kernel_rfl) (by kernel_rfl) (by kernel_rfl) (fun _ _ _ h => h) (Or.inr ⟨by rfl, rfl⟩) (by assumption) ?_
                (try simp only [Act.put, List.setIfInBounds_toArray, List.set_cons_zero, List.set_cons_succ])
                refine wpAnyH_take (i := 10) (v := _) (by (simp only [List.getElem?_toArray, List.getElem?_cons_succ, List.getElem?_cons_zero]) <;> rfl) (by kernel_rfl) (by kernel_rfl) (by kernel_rfl) (fun _ _ _ h => h) (Or.inr ⟨by rfl, rfl⟩) (by assumption) ?_
                (try simp only [Act.put, List.setIfInBounds_toArray, List.set_cons_zero, List.set_cons_succ])
                refine wpAnyH_take (i := 11) (v := _) (by (simp only [List.getElem?_toArray, List.getElem?_cons_succ, List.getElem?_cons_zero]) <;> rfl) (by kernel_rfl) (by kernel_rfl) (by kernel_rfl) (fun _ _ _ h => h) (Or.inr ⟨by rfl, rfl⟩) (by assumption) ?_
                (try simp only [Act.put, List.setIfInBounds_toArray, List.set_cons_zero, List.set_cons_succ])
                refine wpAnyH_take (i := 12) (v := _) (by (simp only [List.getElem?_toArray, List.getElem?_cons_succ, List.getElem?_cons_zero]) <;> rfl) (by kernel_rfl) (by kernel_rfl) (by kernel_rfl) (fun _ _ _ h => h) (Or.inr ⟨by rfl, rfl⟩) (by assumption) ?_
                (try simp only [Act.put, List.setIfInBounds_toArray, List.set_cons_zero, List.set_cons_succ])
                refine wpAnyH_take (i := 13) (v := _) (by (simp only [List.getElem?_toArray, List.getElem?_cons_succ, List.getElem?_cons_zero]) <;> rfl) (by kernel_rfl) (by kernel_rfl) (by kernel_rfl) (fun _ _ _ h => h) (Or.inr ⟨by rfl, rfl⟩) (by assumption) ?_
                (try simp only [Act.put, List.setIfInBounds_toArray, List.set_cons_zero, List.set_cons_succ])
                refine wpAnyH_take (i := 14) (v := _) (by (simp only [List.getElem?_toArray, List.getElem?_cons_succ, List.getElem?_cons_zero]) <;> rfl) (by kernel_rfl) (by kernel_rfl) (by kernel_rfl) (fun _ _ _ h => h) (Or.inr ⟨by rfl, rfl⟩) (by assumption) ?_
                (try simp only [Act.put, List.setIfInBounds_toArray, List.set_cons_zero, List.set_cons_succ])
                refine wpAnyH_take (i := 15) (v := _) (by (simp only [List.getElem?_toArray, List.getElem?_cons_succ, List.getElem?_cons_zero]) <;> rfl) (by kernel_rfl) (by kernel_rfl) (by kernel_rfl) (fun _ _ _ h => h) (Or.inr ⟨by rfl, rfl⟩) (by assumption) ?_
                (try simp only [Act.put, List.setIfInBounds_toArray, List.set_cons_zero, List.set_cons_succ])
                refine wpAnyH_take (i := 16) (v := _) (by (simp only [List.getElem?_toArray, List.getElem?_cons_succ, List.getElem?_cons_zero]) <;> rfl) (by kernel_rfl) (by kernel_rfl) (by kernel_rfl) (fun _ _ _ h => h) (Or.inr ⟨by rfl, rfl⟩) (by assumption) ?_
                (try simp only [Act.put, List.setIfInBounds_toArray, List.set_cons_zero, List.set_cons_succ])
                refine wpAnyH_take (i := 17) (v := _) (by (simp only [List.getElem?_toArray, List.getElem?_cons_succ, List.getElem?_cons_zero]) <;> rfl) (by kernel_rfl) (by kernel_rfl) (by kernel_rfl) (fun _ _ _ h => h) (Or.inr ⟨by rfl, rfl⟩) (by assumption) ?_
                (try simp only [Act.put, List.setIfInBounds_toArray, List.set_cons_zero, List.set_cons_succ])
                refine wpAnyH_take (i := 18) (v := _) (by (simp only [List.getElem?_toArray, List.getElem?_cons_succ, List.getElem?_cons_zero]) <;> rfl) (by kernel_rfl) (by kernel_rfl) (by kernel_rfl) (fun _ _ _ h => h) (Or.inr ⟨by rfl, rfl⟩) (by assumption) ?_
                (try simp only [Act.put, List.setIfInBounds_toArray, List.set_cons_zero, List.set_cons_succ])
                refine wpAnyH_take (i := 19) (v := _) (by (simp only [List.getElem?_toArray, List.getElem?_cons_succ, List.getElem?_cons_zero]) <;> rfl) (by kernel_rfl) (by kernel_rfl) (by kernel_rfl) (fun _ _ _ h => h) (Or.inl ⟨by rfl, fun w hSw => by ((try dsimp only at hSw); go_simp) <;> with_reducible rfl⟩) (by assumption) ?_
                (try simp only [Act.put, List.setIfInBounds_toArray, List.set_cons_zero, List.set_cons_succ])
                refine wpAnyH_take (i := 20) (v := _) (by (simp only [List.getElem?_toArray, List.getElem?_cons_succ, List.getElem?_cons_zero]) <;> rfl) (by kernel_rfl) (by kernel_rfl) (by kernel_rfl) (fun _ _ _ h => h) (Or.inl ⟨by rfl, fun w hSw => by ((try dsimp only at hSw); go_simp) <;> with_reducible rfl⟩) (by assumption) ?_
                (try simp only [Act.put, List.setIfInBounds_toArray, List.set_cons_zero, List.set_cons_succ])
                refine wpAnyH_done (by kernel_rfl) ?_ _
                refine NoPanic.normal ?_
                go_wp2_with fail
                go_roundg (gk - 1)
                case measure => omega
                case rel => exact ⟨k + 1, by go_num, by have := HK.out; omega, by rw [HS.out]; simp, Lib.hid (Below.drew B.out), Lib.hid (Below.drew LL.out)⟩
              · by_cases hki : k = i
                · subst hki
                  have hkk : ((k : Int) == (k : Int)) = true := by simp
                  go_wp2_with fail
                  refine wp_region_noPanic ?_
                  refine wp_region_held_drew (S := (fun W => W.cell? ⟨lb, loff + k * 3, none⟩ = some (.int .i64 lf))) (by kernel_rfl) (by exact y0) (fun hHeld => ?_)
                  refine wpAnyH_take (i := 0) (v := _) (by (simp only [List.getElem?_toArray, List.getElem?_cons_zero]) <;> rfl) (by kernel_rfl) (by kernel_rfl) (by kernel_rfl) (fun _ _ _ h => h) (Or.inl ⟨by rfl, fun w hSw => by ((try dsimp only at hSw); go_simp) <;> with_reducible rfl⟩) (by assumption) ?_
                  (try simp only [Act.put, List.setIfInBounds_toArray, List.set_cons_zero, List.set_cons_succ])
                  refine wpAnyH_take (i := 1) (v := _) (by (simp only [List.getElem?_toArray, List.getElem?_cons_succ, List.getElem?_cons_zero]) <;> rfl) (by kernel_rfl) (by kernel_rfl) (by kernel_rfl) (fun _ _ _ h => h) (Or.inl ⟨by rfl, fun w hSw => by ((try dsimp only at hSw); go_simp) <;> with_reducible rfl⟩) (by assumption) ?_
                  (try simp only [Act.put, List.setIfInBounds_toArray, List.set_cons_zero, List.set_cons_succ])
                  refine wpAnyH_take (i := 2) (v := _) (by (simp only [List.getElem?_toArray, List.getElem?_cons_succ, List.getElem?_cons_zero]) <;> rfl) (by kernel_rfl) (by kernel_rfl) (by kernel_rfl) (fun _ _ _ h => h) (Or.inl ⟨by rfl, fun w hSw => by ((try dsimp only at hSw); go_simp) <;> with_reducible rfl⟩) (by assumption) ?_
                  (try simp only [Act.put, List.setIfInBounds_toArray, List.set_cons_zero, List.set_cons_succ])
                  refine wpAnyH_take (i := 3) (v := _) (by (simp only [List.getElem?_toArray, List.getElem?_cons_succ, List.getElem?_cons_zero]) <;> rfl) (by kernel_rfl) (by kernel_rfl) (by kernel_rfl) (fun _ _ _ h => h) (Or.inl ⟨by rfl, fun w hSw => by ((try dsimp only at hSw); go_simp) <;> with_reducible rfl⟩) (by assumption) ?_
                  (try simp only [Act.put, List.setIfInBounds_toArray, List.set_cons_zero, List.set_cons_succ])
                  refine wpAnyH_take (i := 4) (v := _) (by (simp only [List.getElem?_toArray, List.getElem?_cons_succ, List.getElem?_cons_zero]) <;> rfl) (by kernel_rfl) (by kernel_rfl) (by kernel_rfl) (fun _ _ _ h => h) (Or.inl ⟨by rfl, fun w hSw => by ((try dsimp only at hSw); go_simp) <;> with_reducible rfl⟩) (by assumption) ?_
                  (try simp only [Act.put, List.setIfInBounds_toArray, List.set_cons_zero, List.set_cons_succ])
                  refine wpAnyH_take (i := 5) (v := _) (by (simp only [List.getElem?_toArray, List.getElem?_cons_succ, List.getElem?_cons_zero]) <;> rfl) (by kernel_rfl) (by kernel_rfl) (by kernel_rfl) (fun _ _ _ h => h) (Or.inl ⟨by rfl, fun w hSw => by ((try dsimp only at hSw); go_simp) <;> with_reducible rfl⟩) (by assumption) ?_
                  (try simp only [Act.put, List.setIfInBounds_toArray, List.set_cons_zero, List.set_cons_succ])
                  refine wpAnyH_take (i := 6) (v := _) (by (simp only [List.getElem?_toArray, List.getElem?_cons_succ, List.getElem?_cons_zero]) <;> rfl) (by kernel_rfl) (by kernel_rfl) (by kernel_rfl) (fun _ _ _ h => h) (Or.inr ⟨by rfl, rfl⟩) (by assumption) ?_
                  (try simp only [Act.put, List.setIfInBounds_toArray, List.set_cons_zero, List.set_cons_succ])
                  refine wpAnyH_take (i := 7) (v := _) (by (simp only [List.getElem?_toArray, List.getElem?_cons_succ, List.getElem?_cons_zero]) <;> rfl) (by kernel_rfl) (by kernel_rfl) (by kernel_rfl) (fun _ _ _ h => h) (Or.inr ⟨by rfl, rfl⟩) (by assumption) ?_
                  (try simp only [Act.put, List.setIfInBounds_toArray, List.set_cons_zero, List.set_cons_succ])
                  refine wpAnyH_take (i := 8) (v := _) (by (simp only [List.getElem?_toArray, List.getElem?_cons_succ, List.getElem?_cons_zero]) <;> rfl) (by kernel_rfl) (by kernel_rfl) (by kernel_rfl) (fun _ _ _ h => h) (Or.inr ⟨by rfl, rfl⟩) (by assumption) ?_
                  (try simp only [Act.put, List.setIfInBounds_toArray, List.set_cons_zero, List.set_cons_succ])
                  refine wpAnyH_take (i := 9) (v := _) (by (simp only [List.getElem?_toArray, List.getElem?_cons_succ, List.getElem?_cons_zero]) <;> rfl) (by kernel_rfl) (by kernel_rfl) (by kernel_rfl) (fun _ _ _ h => h) (Or.inr ⟨by rfl, rfl⟩) (by assumption) ?_
                  (try simp only [Act.put, List.setIfInBounds_toArray, List.set_cons_zero, List.set_cons_succ])
                  refine wpAnyH_take (i := 10) (v := _) (by (simp only [List.getElem?_toArray, List.getElem?_cons_succ, List.getElem?_cons_zero]) <;> rfl) (by kernel_rfl) (by kernel_rfl) (by kernel_rfl) (fun _ _ _ h => h) (Or.inr ⟨by rfl, rfl⟩) (by assumption) ?_
                  (try simp only [Act.put, List.setIfInBounds_toArray, List.set_cons_zero, List.set_cons_succ])
                  refine wpAnyH_take (i := 11) (v := _) (by (simp only [List.getElem?_toArray, List.getElem?_cons_succ, List.getElem?_cons_zero]) <;> rfl) (by kernel_rfl) (by kernel_rfl) (by kernel_rfl) (fun _ _ _ h => h) (Or.inr ⟨by rfl, rfl⟩) (by assumption) ?_
                  (try simp only [Act.put, List.setIfInBounds_toArray, List.set_cons_zero, List.set_cons_succ])
                  refine wpAnyH_take (i := 12) (v := _) (by (simp only [List.getElem?_toArray, List.getElem?_cons_succ, List.getElem?_cons_zero]) <;> rfl) (by kernel_rfl) (by kernel_rfl) (by kernel_rfl) (fun _ _ _ h => h) (Or.inr ⟨by rfl, rfl⟩) (by assumption) ?_
                  (try simp only [Act.put, List.setIfInBounds_toArray, List.set_cons_zero, List.set_cons_succ])
                  refine wpAnyH_take (i := 13) (v := _) (by (simp only [List.getElem?_toArray, List.getElem?_cons_succ, List.getElem?_cons_zero]) <;> rfl) (by kernel_rfl) (by kernel_rfl) (by kernel_rfl) (fun _ _ _ h => h) (Or.inr ⟨by rfl, rfl⟩) (by assumption) ?_
                  (try simp only [Act.put, List.setIfInBounds_toArray, List.set_cons_zero, List.set_cons_succ])
                  refine wpAnyH_take (i := 14) (v := _) (by (simp only [List.getElem?_toArray, List.getElem?_cons_succ, List.getElem?_cons_zero]) <;> rfl) (by kernel_rfl) (by kernel_rfl) (by kernel_rfl) (fun _ _ _ h => h) (Or.inr ⟨by rfl, rfl⟩) (by assumption) ?_
                  (try simp only [Act.put, List.setIfInBounds_toArray, List.set_cons_zero, List.set_cons_succ])
                  refine wpAnyH_take (i := 15) (v := _) (by (simp only [List.getElem?_toArray, List.getElem?_cons_succ, List.getElem?_cons_zero]) <;> rfl) (by kernel_rfl) (by kernel_rfl) (by kernel_rfl) (fun _ _ _ h => h) (Or.inr ⟨by rfl, rfl⟩) (by assumption) ?_
                  (try simp only [Act.put, List.setIfInBounds_toArray, List.set_cons_zero, List.set_cons_succ])
                  refine wpAnyH_take (i := 16) (v := _) (by (simp only [List.getElem?_toArray, List.getElem?_cons_succ, List.getElem?_cons_zero]) <;> rfl) (by kernel_rfl) (by kernel_rfl) (by kernel_rfl) (fun _ _ _ h => h) (Or.inr ⟨by rfl, rfl⟩) (by assumption) ?_
                  (try simp only [Act.put, List.setIfInBounds_toArray, List.set_cons_zero, List.set_cons_succ])
                  refine wpAnyH_take (i := 17) (v := _) (by (simp only [List.getElem?_toArray, List.getElem?_cons_succ, List.getElem?_cons_zero]) <;> rfl) (by kernel_rfl) (by kernel_rfl) (by kernel_rfl) (fun _ _ _ h => h) (Or.inr ⟨by rfl, rfl⟩) (by assumption) ?_
                  (try simp only [Act.put, List.setIfInBounds_toArray, List.set_cons_zero, List.set_cons_succ])
                  refine wpAnyH_take (i := 18) (v := _) (by (simp only [List.getElem?_toArray, List.getElem?_cons_succ, List.getElem?_cons_zero]) <;> rfl) (by kernel_rfl) (by kernel_rfl) (by kernel_rfl) (fun _ _ _ h => h) (Or.inl ⟨by rfl, fun w hSw => by ((try dsimp only at hSw); go_simp) <;> with_reducible rfl⟩) (by assumption) ?_
                  (try simp only [Act.put, List.setIfInBounds_toArray, List.set_cons_zero, List.set_cons_succ])
                  refine wpAnyH_take (i := 19) (v := _) (by (simp only [List.getElem?_toArray, List.getElem?_cons_succ, List.getElem?_cons_zero]) <;> rfl) (by kernel_rfl) (by kernel_rfl) (by kernel_rfl) (fun _ _ _ h => h) (Or.inl ⟨by rfl, fun w hSw => by ((try dsimp only at hSw); go_simp) <;> with_reducible rfl⟩) (by assumption) ?_
                  (try simp only [Act.put, List.setIfInBounds_toArray, List.set_cons_zero, List.set_cons_succ])
                  refine wpAnyH_take (i := 20) (v := _) (by (simp only [List.getElem?_toArray, List.getElem?_cons_succ, List.getElem?_cons_zero]) <;> rfl) (by kernel_rfl) (by kernel_rfl) (by kernel_rfl) (fun _ _ _ h => h) (Or.inl ⟨by rfl, fun w hSw => by ((try dsimp only at hSw); go_simp) <;> with_reducible rfl⟩) (by assumption) ?_
                  (try simp only [Act.put, List.setIfInBounds_toArray, List.set_cons_zero, List.set_cons_succ])
                  refine wpAnyH_done (by kernel_rfl) ?_ _
                  refine NoPanic.normal ?_
                  go_wp2_with fail
                  go_roundg (gk - 1)
                  case measure => omega
                  case rel => exact ⟨k + 1, by go_num, by have := HK.out; omega, by rw [HS.out]; simp, Lib.hid (Below.drew B.out), Lib.hid (Below.drew LL.out)⟩
                · have hkk : ((k : Int) == (i : Int)) = false := by simp; omega
                  have HKI := Lib.hid hki
                  clear hki
                  go_wp2_with fail
                  refine wp_region_noPanic ?_
                  refine wp_region_held_drew (S := (fun W => W.cell? ⟨lb, loff + k * 3, none⟩ = some (.int .i64 f) ∧ W.cell? ⟨lb, loff + k * 3 + 1, none⟩ = some (.int .i64 bt) ∧ W.cell? ⟨lb, loff + i * 3, none⟩ = some (.int .i64 lf) ∧ W.cell? ⟨lb, loff + i * 3 + 1, none⟩ = some (.int .i64 lbt))) (by kernel_rfl) (by exact ⟨x0, x1, y0, y1⟩) (fun hHeld => ?_)
                  refine wpAnyH_take (i := 0) (v := _) (by (simp only [List.getElem?_toArray, List.getElem?_cons_zero]) <;> rfl) (by kernel_rfl) (by kernel_rfl) (by kernel_rfl) (fun _ _ _ h => h) (Or.inl ⟨by rfl, fun w hSw => by ((try dsimp only at hSw); go_simp) <;> with_reducible rfl⟩) (by assumption) ?_
                  (try simp only [Act.put, List.setIfInBounds_toArray, List.set_cons_zero, List.set_cons_succ])
                  refine wpAnyH_take (i := 1) (v := _) (by (simp only [List.getElem?_toArray, List.getElem?_cons_succ, List.getElem?_cons_zero]) <;> rfl) (by kernel_rfl) (by kernel_rfl) (by kernel_rfl) (fun _ _ _ h => h) (Or.inl ⟨by rfl, fun w hSw => by ((try dsimp only at hSw); go_simp) <;> with_reducible rfl⟩) (by assumption) ?_
                  (try simp only [Act.put, List.setIfInBounds_toArray, List.set_cons_zero, List.set_cons_succ])
                  refine wpAnyH_take (i := 2) (v := _) (by (simp only [List.getElem?_toArray, List.getElem?_cons_succ, List.getElem?_cons_zero]) <;> rfl) (by kernel_rfl) (by kernel_rfl) (by kernel_rfl) (fun _ _ _ h => h) (Or.inl ⟨by rfl, fun w hSw => by ((try dsimp only at hSw); go_simp) <;> with_reducible rfl⟩) (by assumption) ?_
                  (try simp only [Act.put, List.setIfInBounds_toArray, List.set_cons_zero, List.set_cons_succ])
                  refine wpAnyH_take (i := 3) (v := _) (by (simp only [List.getElem?_toArray, List.getElem?_cons_succ, List.getElem?_cons_zero]) <;> rfl) (by kernel_rfl) (by kernel_rfl) (by kernel_rfl) (fun _ _ _ h => h) (Or.inl ⟨by rfl, fun w hSw => by ((try dsimp only at hSw); go_simp) <;> with_reducible rfl⟩) (by assumption) ?_
                  (try simp only [Act.put, List.setIfInBounds_toArray, List.set_cons_zero, List.set_cons_succ])
                  refine wpAnyH_take (i := 4) (v := _) (by (simp only [List.getElem?_toArray, List.getElem?_cons_succ, List.getElem?_cons_zero]) <;> rfl) (by kernel_rfl) (by kernel_rfl) (by kernel_rfl) (fun _ _ _ h => h) (Or.inl ⟨by rfl, fun w hSw => by ((try dsimp only at hSw); go_simp) <;> with_reducible rfl⟩) (by assumption) ?_
                  (try simp only [Act.put, List.setIfInBounds_toArray, List.set_cons_zero, List.set_cons_succ])
                  refine wpAnyH_take (i := 5) (v := _) (by (simp only [List.getElem?_toArray, List.getElem?_cons_succ, List.getElem?_cons_zero]) <;> rfl) (by kernel_rfl) (by kernel_rfl) (by kernel_rfl) (fun _ _ _ h => h) (Or.inl ⟨by rfl, fun w hSw => by ((try dsimp only at hSw); go_simp) <;> with_reducible rfl⟩) (by assumption) ?_
                  (try simp only [Act.put, List.setIfInBounds_toArray, List.set_cons_zero, List.set_cons_succ])
                  refine wpAnyH_take (i := 6) (v := _) (by (simp only [List.getElem?_toArray, List.getElem?_cons_succ, List.getElem?_cons_zero]) <;> rfl) (by kernel_rfl) (by kernel_rfl) (by kernel_rfl) (fun _ _ _ h => h) (Or.inl ⟨by rfl, fun w hSw => by ((try dsimp only at hSw); go_simp) <;> with_reducible rfl⟩) (by assumption) ?_
                  (try simp only [Act.put, List.setIfInBounds_toArray, List.set_cons_zero, List.set_cons_succ])
                  refine wpAnyH_take (i := 7) (v := _) (by (simp only [List.getElem?_toArray, List.getElem?_cons_succ, List.getElem?_cons_zero]) <;> rfl) (by kernel_rfl) (by kernel_rfl) (by kernel_rfl) (fun _ _ _ h => h) (Or.inl ⟨by rfl, fun w hSw => by ((try dsimp only at hSw); go_simp) <;> with_reducible rfl⟩) (by assumption) ?_
                  (try simp only [Act.put, List.setIfInBounds_toArray, List.set_cons_zero, List.set_cons_succ])
                  refine wpAnyH_take (i := 8) (v := _) (by (simp only [List.getElem?_toArray, List.getElem?_cons_succ, List.getElem?_cons_zero]) <;> rfl) (by kernel_rfl) (by kernel_rfl) (by kernel_rfl) (fun _ _ _ h => h) (Or.inl ⟨by rfl, fun w hSw => by ((try dsimp only at hSw); go_simp) <;> with_reducible rfl⟩) (by assumption) ?_
                  (try simp only [Act.put, List.setIfInBounds_toArray, List.set_cons_zero, List.set_cons_succ])
                  refine wpAnyH_take (i := 9) (v := _) (by (simp only [List.getElem?_toArray, List.getElem?_cons_succ, List.getElem?_cons_zero]) <;> rfl) (by kernel_rfl) (by kernel_rfl) (by kernel_rfl) (fun _ _ _ h => h) (Or.inl ⟨by rfl, fun w hSw => by ((try dsimp only at hSw); go_simp) <;> with_reducible rfl⟩) (by assumption) ?_
                  (try simp only [Act.put, List.setIfInBounds_toArray, List.set_cons_zero, List.set_cons_succ])
                  refine wpAnyH_take (i := 10) (v := _) (by (simp only [List.getElem?_toArray, List.getElem?_cons_succ, List.getElem?_cons_zero]) <;> rfl) (by kernel_rfl) (by kernel_rfl) (by kernel_rfl) (fun _ _ _ h => h) (Or.inl ⟨by rfl, fun w hSw => by ((try dsimp only at hSw); go_simp) <;> with_reducible rfl⟩) (by assumption) ?_
                  (try simp only [Act.put, List.setIfInBounds_toArray, List.set_cons_zero, List.set_cons_succ])
                  refine wpAnyH_take (i := 11) (v := _) (by (simp only [List.getElem?_toArray, List.getElem?_cons_succ, List.getElem?_cons_zero]) <;> rfl) (by kernel_rfl) (by kernel_rfl) (by kernel_rfl) (fun _ _ _ h => h) (Or.inl ⟨by rfl, fun w hSw => by ((try dsimp only at hSw); go_simp) <;> with_reducible rfl⟩) (by assumption) ?_
                  (try simp only [Act.put, List.setIfInBounds_toArray, List.set_cons_zero, List.set_cons_succ])
                  refine wpAnyH_take (i := 12) (v := _) (by (simp only [List.getElem?_toArray, List.getElem?_cons_succ, List.getElem?_cons_zero]) <;> rfl) (by kernel_rfl) (by kernel_rfl) (by kernel_rfl) (fun _ _ _ h => h) (Or.inl ⟨by rfl, fun w hSw => by ((try dsimp only at hSw); go_simp) <;> with_reducible rfl⟩) (by assumption) ?_
                  (try simp only [Act.put, List.setIfInBounds_toArray, List.set_cons_zero, List.set_cons_succ])
                  refine wpAnyH_take (i := 13) (v := _) (by (simp only [List.getElem?_toArray, List.getElem?_cons_succ, List.getElem?_cons_zero]) <;> rfl) (by kernel_rfl) (by kernel_rfl) (by kernel_rfl) (fun _ _ _ h => h) (Or.inl ⟨by rfl, fun w hSw => by ((try dsimp only at hSw); go_simp) <;> with_reducible rfl⟩) (by assumption) ?_
                  (try simp only [Act.put, List.setIfInBounds_toArray, List.set_cons_zero, List.set_cons_succ])
                  refine wpAnyH_take (i := 14) (v := _) (by (simp only [List.getElem?_toArray, List.getElem?_cons_succ, List.getElem?_cons_zero]) <;> rfl) (by kernel_rfl) (by kernel_rfl) (by kernel_rfl) (fun _ _ _ h => h) (Or.inl ⟨by rfl, fun w hSw => by ((try dsimp only at hSw); go_simp) <;> with_reducible rfl⟩) (by assumption) ?_
                  (try simp only [Act.put, List.setIfInBounds_toArray, List.set_cons_zero, List.set_cons_succ])
                  refine wpAnyH_take (i := 15) (v := _) (by (simp only [List.getElem?_toArray, List.getElem?_cons_succ, List.getElem?_cons_zero]) <;> rfl) (by kernel_rfl) (by kernel_rfl) (by kernel_rfl) (fun _ _ _ h => h) (Or.inl ⟨by rfl, fun w hSw => by ((try dsimp only at hSw); go_simp) <;> with_reducible rfl⟩) (by assumption) ?_
                  (try simp only [Act.put, List.setIfInBounds_toArray, List.set_cons_zero, List.set_cons_succ])
                  refine wpAnyH_ready (rs := [16]) (by kernel_rfl) (by simp) ?_
                  refine AllReadyH.cons (by (simp only [List.getElem?_toArray, List.getElem?_cons_succ, List.getElem?_cons_zero]) <;> rfl) (fun K hK => ?_) AllReadyH.nil
                  go_simp
                  (go_at_call 16; refine (HIN.out _).mono ?_; rintro e w7 ⟨rfl, hb7⟩; have hb8 : Below wr.heap.size wr w7 := (Below.drew (Below.refl _ _)).trans hb7; have B7 := Lib.hid (B.out.trans (hb8.mono B.out.size)); have L7 := Lib.hid (LL.out.trans (hb8.mono LL.out.size)); obtain ⟨u0, u1⟩ := HYS.out w7 B7.out; have v0 := (hb8.cell (p := ⟨lb, loff + k * 3, none⟩) hkb).trans x0; have v1 := (hb8.cell (p := ⟨lb, loff + k * 3 + 1, none⟩) hkb).trans x1; clear hb7 hb8)
                  refine hK.out _ _ (by exact ⟨v0, v1, u0, u1⟩) (fun hHeld => ?_)
                  (try simp only [Act.put, List.setIfInBounds_toArray, List.set_cons_zero, List.set_cons_succ])
                  refine wpAnyH_take (i := 17) (v := _) (by (simp only [List.getElem?_toArray, List.getElem?_cons_succ, List.getElem?_cons_zero]) <;> rfl) (by kernel_rfl) (by kernel_rfl) (by kernel_rfl) (fun _ _ _ h => h) (Or.inl ⟨by rfl, fun w hSw => by ((try dsimp only at hSw); go_simp) <;> with_reducible rfl⟩) (by assumption) ?_
                  (try simp only [Act.put, List.setIfInBounds_toArray, List.set_cons_zero, List.set_cons_succ])
                  refine wpAnyH_take (i := 18) (v := _) (by (simp only [List.getElem?_toArray, List.getElem?_cons_succ, List.getElem?_cons_zero]) <;> rfl) (by kernel_rfl) (by kernel_rfl) (by kernel_rfl) (fun _ _ _ h => h) (Or.inl ⟨by rfl, fun w hSw => by ((try dsimp only at hSw); go_simp) <;> with_reducible rfl⟩) (by assumption) ?_
                  (try simp only [Act.put, List.setIfInBounds_toArray, List.set_cons_zero, List.set_cons_succ])
                  refine wpAnyH_take (i := 19) (v := _) (by (simp only [List.getElem?_toArray, List.getElem?_cons_succ, List.getElem?_cons_zero]) <;> rfl) (by kernel_rfl) (by kernel_rfl) (by kernel_rfl) (fun _ _ _ h => h) (Or.inl ⟨by rfl, fun w hSw => by ((try dsimp only at hSw); go_simp) <;> with_reducible rfl⟩) (by assumption) ?_
                  (try simp only [Act.put, List.setIfInBounds_toArray, List.set_cons_zero, List.set_cons_succ])
                  refine wpAnyH_take (i := 20) (v := _) (by (simp only [List.getElem?_toArray, List.getElem?_cons_succ, List.getElem?_cons_zero]) <;> rfl) (by kernel_rfl) (by kernel_rfl) (by kernel_rfl) (fun _ _ _ h => h) (Or.inl ⟨by rfl, fun w hSw => by ((try dsimp only at hSw); go_simp) <;> with_reducible rfl⟩) (by assumption) ?_
                  (try simp only [Act.put, List.setIfInBounds_toArray, List.set_cons_zero, List.set_cons_succ])
                  refine wpAnyH_done (by kernel_rfl) ?_ _
                  refine NoPanic.normal ?_
                  go_wp2_with fail
                  go_roundg (gk - 1)
                  case measure => omega
                  case rel => exact ⟨k + 1, by go_num, by have := HK.out; omega, by rw [HS.out]; simp [HKI.out], B7, L7⟩
end Go.Proofs.YtnjkifnlimfhnaaGreatDoor
