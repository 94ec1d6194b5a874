/- The walk of FnSendHome. -/
import Derived.Test.YtlpibfafpljedaaGreatDoorOrderI
import Derived.Test.YtlpibfafpljedaaGreatDoorHomeP
namespace Go.Proofs.YtlpibfafpljedaaGreatDoor
open Go.RowKit
set_option linter.unusedVariables false
set_option maxRecDepth 100000

theorem mod_addr (n : Nat) (h : n ≤ 1048576) : ∃ x : Int, IntKind.i64.wrap ((n : Int) * 37) = (n : Int) * 37 ∧ ((n : Int) * 37).tmod 256 = x ∧ IntKind.i64.wrap x = x ∧ 0 ≤ x ∧ x ≤ 255 := by
  have h1 := Int.emod_nonneg ((n : Int) * 37) (show (256 : Int) ≠ 0 by omega)
  have h2 := Int.emod_lt_of_pos ((n : Int) * 37) (show (0 : Int) < 256 by omega)
  exact ⟨((n : Int) * 37) % 256, IntWalk.i64_in _ (by omega), Int.tmod_eq_emod_of_nonneg (by omega), IntWalk.i64_in _ (by omega), h1, by omega⟩
def inAt (l : List Ent) (i k : Nat) : Bool := inF (l.getD i (0, 0, 0)).1 (l.getD i (0, 0, 0)).2.1 (l.getD k (0, 0, 0)).1 (l.getD k (0, 0, 0)).2.1
def hasAt (t : List Ent) (k : Nat) (x : Int) : Bool := hasF (t.getD k (0, 0, 0)).1 (t.getD k (0, 0, 0)).2.1 x
/-- the best so far -/
def BestTo (t : List Ent) (x : Int) (k : Nat) (b : Int) : Prop := (b = -1 ∧ ∀ q, q < k → hasAt t q x = false) ∨ ∃ q : Nat, q < k ∧ b = (q : Int) ∧ hasAt t q x = true
theorem apart_of {l : List Ent} (h : ∀ i k, i < l.length → k < i → inAt l i k = false ∧ inAt l k i = false) : Apart l := fun i k hi hk hne => by
  rcases Nat.lt_or_ge k i with h1 | h1
  · exact (h i k hi h1).1
  · exact (h k i hk (by omega)).2
set_option maxHeartbeats 16000000 in
theorem sendHome_walk (a : Option Addr) (len cap : Nat) (zs : List Int) (a2 : Option Addr) (len2 cap2 : Nat) (zs2 : List Int) (w : World) (h : IsRow .u8 w a len cap zs) (hh2 : IsRow .u8 w a2 len2 cap2 zs2) (hE : ErrOk w) :
    Calls Tryz.prog 3 #[.slice a len cap, .slice a2 len2 cap2] w fun e w' => e = .returned (.bool true) ∧ Below w.heap.size w w' := by
  obtain ⟨hm, hc⟩ := h.bounds
  have hc' := hc
  unfold maxLen at hc'
  obtain ⟨hm2, hc2⟩ := hh2.bounds
  have hc2' := hc2
  unfold maxLen at hc2'
  have H := Lib.hid h
  have HE := Lib.hid hE
  clear h hE hh2
  go_enter Tryz.func3, Tryz.ntmps3
  by_cases hl : 1048576 < len
  · go_wp2_with fail
    go_ret
    exact ⟨rfl, Below.refl _ _⟩
  by_cases hl2 : 1048576 < len2
  · go_wp2_with fail
    go_ret
    exact ⟨rfl, Below.refl _ _⟩
  · go_wp2_with fail
    refine (drawSendTables_any _ _ _ zs _ H.out).mono ?_
    rintro e w1 ⟨v, hv, rs, l, n, rfl, hr, hq, hn2, hn5, hh, hl6, hb⟩
    obtain ⟨ra, rc, e', hrc, hrm⟩ := hr.form
    subst e'
    obtain ⟨la, lc, e', hlc, hlm⟩ := hh.form
    subst e'
    rw [hq.1] at hr hrc ⊢
    obtain ⟨L, hL⟩ : ∃ L, l.length = L := ⟨_, rfl⟩
    rw [hL] at hh hlc hl6 ⊢
    have hE1 := HE.out.below hb
    have himp := implSendTables_any _ _ rs l n w1 hr hh hq.1 hE1
    have hspc : ∀ W, Below w1.heap.size w1 W → Calls Tryz.prog 7 #[.slice ra n rc, .slice la L lc] W fun e w' => ∃ v', e = .returned v' ∧ TabsL w' W.heap.size v' (sendTabsF rs l n) ∧ Below W.heap.size W w' := fun W hW => specSendTables_any _ _ rs l n W (hr.below hW) hq (hh.below hW) (by omega) hn5 (by omega)
    have hhok : ∀ W, Below w1.heap.size w1 W → Calls Tryz.prog 8 #[.slice ra n rc, .slice la L lc] W fun e w' => e = .returned (.bool (homesOkF rs l)) ∧ Below W.heap.size W w' := fun W hW => implHomesOk_any _ _ rs l W (hr.below hW) (hh.below hW)
    obtain ⟨T, hT⟩ : ∃ T, sendTabsF rs l n = T := ⟨_, rfl⟩
    rw [hT] at himp hspc
    obtain ⟨B, hB⟩ : ∃ B, homesOkF rs l = B := ⟨_, rfl⟩
    rw [hB] at hhok
    have HIM := Lib.hid himp
    have HSP := Lib.hid hspc
    have HHO := Lib.hid hhok
    have HB := Lib.hid hB
    have HT := Lib.hid hT
    have HQ := Lib.hid hq
    have HH := Lib.hid hh
    have HR := Lib.hid hr
    have HL := Lib.hid hL
    have BB := Lib.hid hb
    have HE1 := Lib.hid hE1
    clear himp hspc hhok hB hT hq hh hr hb hE1 hL
    go_wp2_with fail
    refine HIM.out.mono ?_
    rintro e w2 ⟨tv, rfl, hT2, hb2⟩
    obtain ⟨ta, tc, e', htc, htm⟩ := hT2.form
    subst e'
    obtain ⟨N, hN⟩ : ∃ N, T.length = N := ⟨_, rfl⟩
    rw [hN] at hT2 htc ⊢
    have T2 := Lib.hid hT2
    have B2 := Lib.hid hb2
    clear hT2 hb2
    go_wp2_with fail
    refine (HSP.out w2 B2.out).mono ?_
    rintro e w3 ⟨sv, rfl, hS3, hb3⟩
    have B3 := Lib.hid (B2.out.trans (hb3.mono B2.out.size))
    have T3 := Lib.hid (T2.out.below hb3)
    have HLY := Lib.hid (lyTables_same _ _ T w3 T3.out.tabs hS3.tabs)
    clear hS3 hb3 T2
    go_wp2_with fail
    refine HLY.out.mono ?_
    rintro e w4 ⟨rfl, hb4⟩
    have B4 := Lib.hid (B3.out.trans (hb4.mono B3.out.size))
    have T4 := Lib.hid (T3.out.below hb4)
    clear hb4 T3 HLY
    go_wp2_with fail
    refine (HHO.out w4 B4.out).mono ?_
    rintro e w5 ⟨rfl, hb5⟩
    have B5 := Lib.hid (B4.out.trans (hb5.mono B4.out.size))
    have T5 := Lib.hid (T4.out.below hb5)
    clear hb5 T4
    have hfin : ∀ W, Below w1.heap.size w1 W → Below w.heap.size w W := fun W hW => BB.out.trans (hW.mono BB.out.size)
    have HFN := Lib.hid hfin
    clear hfin
    cases B
    · go_wp2_with fail
      refine (HSP.out w5 B5.out).mono ?_
      rintro e w6 ⟨sv6, rfl, hS6, hb6⟩
      have B6 := Lib.hid (B5.out.trans (hb6.mono B5.out.size))
      have HLY := Lib.hid (lyTables_same _ _ T w6 (T5.out.below hb6).tabs hS6.tabs)
      clear hS6 hb6
      go_wp2_with fail
      refine HLY.out.mono ?_
      rintro e w7 ⟨rfl, hb7⟩
      have B7 := Lib.hid (B6.out.trans (hb7.mono B6.out.size))
      clear hb7
      go_wp2_with fail
      go_ret
      exact ⟨rfl, HFN.out _ B7.out⟩
    · have hNn : N = n := by rw [← hN, ← HT.out]; exact sendTabs_len2 HB.out
      subst hNn
      have hget : ∀ k, k < N → T.getD k [] = tabF rs N l k L := fun k hk => by rw [← HT.out, sendTabs_get HB.out HQ.out.1 hk, HL.out]
      have hrok : ∀ i, i < L → rangeOkF (l.getD i (0, 0, 0)).1 (l.getD i (0, 0, 0)).2.1 = true := fun i hi => (homes_house HB.out (by rw [HL.out]; exact hi)).2.2
      have hsw : ∀ W (y ad : Int), Below w5.heap.size w5 W → Calls Tryz.prog 11 #[.slice ta N tc, .int .i64 y, .int .i64 ad] W (WayPost (wayF T y ad) W) := fun W y ad hW => implSendWay_any _ T y ad W (T5.out.tabs.below hW)
      have htok : tablesOkF T = true := by rw [← HT.out]; exact tabs_ok HB.out HQ.out.1 (by omega) hn5
      have hsn : ∀ W (h : Nat) (ad : Int), h < N → addrF ad = true → Below w5.heap.size w5 W → Calls Tryz.prog 12 #[.slice ta N tc, .int .i64 ((h : Int) + 1), .int .i64 ad] W fun e w' => e = .returned (.int .i64 (nextF T ad ((h : Int) + 1))) ∧ Below W.heap.size W w' := fun W h ad hh had hW => by
        have h1 := implSendNext_any (.slice ta N tc) T ((h : Int) + 1) ad W (T5.out.tabs.below hW)
        unfold sendF at h1
        rw [if_pos ⟨htok, by omega, by rw [hN]; omega, had⟩] at h1
        exact h1
      have hhome : ∀ (h : Nat) (ad : Int), Apart l → addrF ad = true → h < N → (nextF T ad ((h : Int) + 1) = 0 ∧ wayF T ((h : Int) + 1) ad = ([(h : Int) + 1], false)) ∨
          (∃ q, q < L ∧ hasAt l q ad = true ∧ (end31 rs (l.getD q (0, 0, 0)).2.2 N).getD h [] ≠ [] ∧ nextF T ad ((h : Int) + 1) ≠ 0 ∧ wayF T ((h : Int) + 1) ad = ((end31 rs (l.getD q (0, 0, 0)).2.2 N).getD h [], true)) := fun h ad ha had hh => by
        rw [← HT.out, ← HL.out]
        exact send_home HB.out HQ.out.1 (by omega) hn5 ha had hh
      have hlast : ∀ (h q i : Nat) (ad : Int) (e : Ent), Apart l → h < N → q < L → hasAt l q ad = true → (end31 rs (l.getD q (0, 0, 0)).2.2 N).getD h [] ≠ [] → i < L → hasF e.1 e.2.1 ad = true → (l.getD i (0, 0, 0)).1 = e.1 → (l.getD i (0, 0, 0)).2.1 = e.2.1 →
          ((end31 rs (l.getD q (0, 0, 0)).2.2 N).getD h []).getD (((end31 rs (l.getD q (0, 0, 0)).2.2 N).getD h []).length - 1) 0 = (l.getD i (0, 0, 0)).2.2 := fun h q i ad e ha hh hq hqx hne hi hex e1 e2 =>
        home_last HB.out HQ.out.1 (by omega) ha hh (by rw [HL.out]; exact hq) hqx hne (by rw [HL.out]; exact hi) hex e1 e2
      have hgood : ∀ (h : Nat) (ho : Int), h < N → GoodP ((end31 rs ho N).getD h []) := fun h ho hh => end_good HQ.out.1 (by omega) hn5 hh
      have hhas : ∀ (h : Nat) (ad : Int), h < N → nextF T ad ((h : Int) + 1) ≠ 0 → ∃ k, k < (T.getD h []).length ∧ hasAt (T.getD h []) k ad = true := fun h ad hh hnz => by
        rw [hget h hh, ← HL.out]
        rw [← HT.out] at hnz
        exact next_has HB.out HQ.out.1 hh hnz
      have htrok : ∀ h, h < N → ∀ k, k < (T.getD h []).length → rangeOkF ((T.getD h []).getD k (0, 0, 0)).1 ((T.getD h []).getD k (0, 0, 0)).2.1 = true := fun h hh k hk => by
        have h1 : tableOkF (T.getD h []) = true := by rw [hget h hh, ← HL.out]; exact tabF_ok HQ.out.1 hn5 hh HB.out
        exact entOk_range ((tableOk_all h1).2 k hk).1
      have hmt : ∀ h, h < N → (T.getD h []).length ≤ 12 := fun h hh => by
        have h1 : tableOkF (T.getD h []) = true := by rw [hget h hh, ← HL.out]; exact tabF_ok HQ.out.1 hn5 hh HB.out
        exact (tableOk_all h1).1
      obtain ⟨x, hmx1, hmx2, hmx3, hx0, hx1⟩ := mod_addr len2 (by omega)
      have hax : addrF x = true := by unfold addrF; rw [decide_eq_true hx0, decide_eq_true hx1]; rfl
      have TT := Lib.hid T5.out.tabs
      have HROK := Lib.hid hrok
      have HSW := Lib.hid hsw
      have HSN := Lib.hid hsn
      have HHOME := Lib.hid hhome
      have HLAST := Lib.hid hlast
      have HGOOD := Lib.hid hgood
      have HHAS := Lib.hid hhas
      have HTROK := Lib.hid htrok
      have HMT := Lib.hid hmt
      have HAX := Lib.hid hax
      have HFREE := Lib.hid (fun W hW => relsFree_any (.slice ra N rc) rs W (HR.out.below (w' := W) hW))
      obtain ⟨fr, hfr⟩ : ∃ b, freeF rs = b := ⟨_, rfl⟩
      rw [hfr] at HFREE
      clear hrok hsw htok hsn hhome hlast hgood hhas htrok hmt hget hN T5 HIM HSP HHO HB HT hfr
      cases fr
      · go_wp2_with fail
        refine (HFREE.out w5 B5.out).mono ?_
        rintro e w6 ⟨rfl, hb6⟩
        have B6 := Lib.hid (B5.out.trans (hb6.mono B5.out.size))
        clear hb6
        go_wp2_with fail
        go_ret
        exact ⟨rfl, HFN.out _ B6.out⟩
      go_wp2_with fail
      refine (HFREE.out w5 B5.out).mono ?_
      rintro e w6 ⟨rfl, hb6⟩
      have B6 := Lib.hid (B5.out.trans (hb6.mono B5.out.size))
      have L6 := Lib.hid hb6
      clear hb6 HFREE
      go_wp2_with fail
      go_loopg [8] L (fun gk s8 wr => ∃ i : Nat, s8 = .int .i64 (i : Int) ∧ i + gk = L ∧ Hid (∀ a k, a < i → k < a → inAt l a k = false ∧ inAt l k a = false) ∧ Hid (Below w1.heap.size w1 wr) ∧ Hid (Below w5.heap.size w5 wr))
      case atStart => exact ⟨0, rfl, by omega, Lib.hid (fun a k ha => absurd ha (by omega)), B6, L6⟩
      case round =>
        clear B2 B3 B4 B5 B6 L6
        obtain ⟨i, rfl, hi, HAP, B, LL⟩ := hrel
        by_cases hg : gk = 0
        · subst hg
          obtain rfl : L = i := by omega
          have hdn : decide ((L : Int) < (L : Int)) = false := by simp
          have HA := Lib.hid (apart_of (l := l) (by rw [HL.out]; exact HAP.out))
          clear hi HAP
          go_wp2_with fail
          go_loopg [11] N (fun gk s11 wr => ∃ h : Nat, s11 = .int .i64 ((h : Int) + 1) ∧ h + gk = N ∧ Hid (Below w1.heap.size w1 wr) ∧ Hid (Below w5.heap.size w5 wr))
          case atStart => exact ⟨0, by go_num, by omega, B, LL⟩
          case round =>
            clear B LL
            obtain ⟨h, rfl, hh, B, LL⟩ := hrel
            by_cases hg : gk = 0
            · subst hg
              obtain rfl : h = N := by omega
              have hdn : decide ((h : Int) + 1 ≤ (h : Int)) = false := decide_eq_false (by omega)
              go_wp2_with fail
              go_ret
              exact ⟨rfl, HFN.out _ B.out⟩
            · have hhN : h < N := by omega
              have hhI1 : (h : Int) + 1 ≤ (N : Int) := by omega
              have hhI : (h : Int) < (N : Int) := by omega
              have h0 : (0 : Int) ≤ (h : Int) := by omega
              have hgk : 1 ≤ gk := by omega
              have HHH := Lib.hid hh
              obtain ⟨GH, hGH⟩ : ∃ G, G = gk := ⟨_, rfl⟩
              have hsub : (h : Int) + 1 - 1 = (h : Int) := by omega
              have hwh : IntKind.i64.wrap (h : Int) = (h : Int) := IntWalk.i64_in _ (by omega)
              have hsw := fun W hW => HSW.out W ((h : Int) + 1) x hW
              have hsn := fun W hW => HSN.out W h x hhN HAX.out hW
              have hhas := HHAS.out h x hhN
              unfold WayPost at hsw
              obtain ⟨nx, hnx⟩ : ∃ v, nextF T x ((h : Int) + 1) = v := ⟨_, rfl⟩
              have hcase := HHOME.out h x HA.out HAX.out hhN
              rw [hnx] at hsn hhas hcase
              have HSN1 := Lib.hid hsn
              have HHAS1 := Lib.hid hhas
              clear hsn hhas hnx hh hg
              rcases hcase with ⟨rfl, hway⟩ | ⟨q, hq, hqx, hne, hnz, hway⟩
              · rw [hway] at hsw
                have HSW1 := Lib.hid hsw
                clear hsw hway
                go_wp2_with fail
                refine (HSW1.out wr LL.out).mono ?_
                rintro e w7 ⟨v7, rfl, ho7, hb7⟩
                obtain ⟨sa, sc, e', _, _⟩ := ho7.form
                subst e'
                have B7 := Lib.hid (B.out.trans (hb7.mono B.out.size))
                have L7 := Lib.hid (LL.out.trans (hb7.mono LL.out.size))
                clear ho7 hb7
                go_wp2_with fail
                refine (HSN1.out w7 L7.out).mono ?_
                rintro e w8 ⟨rfl, hb8⟩
                have B8 := Lib.hid (B7.out.trans (hb8.mono B7.out.size))
                have L8 := Lib.hid (L7.out.trans (hb8.mono L7.out.size))
                clear hb8
                go_wp2_with fail
                go_roundg (GH - 1)
                case measure => omega
                case rel => exact ⟨h + 1, by go_num, by have := HHH.out; omega, B8, L8⟩
              · rw [hway] at hsw
                have hls := fun i e hi hex e1 e2 => HLAST.out h q i x e HA.out hhN hq hqx hne hi hex e1 e2
                have hgd := HGOOD.out h (l.getD q (0, 0, 0)).2.2 hhN
                obtain ⟨way, hw⟩ : ∃ v, (end31 rs (l.getD q (0, 0, 0)).2.2 N).getD h [] = v := ⟨_, rfl⟩
                rw [hw] at hsw hls hgd hne
                obtain ⟨wl, hwl⟩ : ∃ m, way.length = m + 1 := by
                  cases way with
                  | nil => exact absurd rfl hne
                  | cons a t => exact ⟨t.length, rfl⟩
                have hw5 : wl + 1 ≤ 5 := by
                  rw [← hwl]
                  exact nodup_short (n := 5) (List.pairwise_iff_getElem.2 (fun a b ha hb hab => by
                    have := hgd.2 a b hab hb
                    rw [List.getD_eq_getElem?_getD, List.getD_eq_getElem?_getD, List.getElem?_eq_getElem hb, List.getElem?_eq_getElem ha] at this
                    exact this)) (fun z hz => by
                    obtain ⟨a, ha, rfl⟩ := List.getElem_of_mem hz
                    have := hgd.1 a ha
                    rw [List.getD_eq_getElem?_getD, List.getElem?_eq_getElem ha] at this
                    exact this)
                have hnzb : (nx == 0) = false := by simp [hnz]
                have HSW1 := Lib.hid hsw
                have HLS := Lib.hid hls
                have HGD := Lib.hid hgd
                have HWL := Lib.hid hwl
                have HHAS2 := Lib.hid (HHAS1.out hnz)
                clear hsw hway hls hgd hw hne hqx hq hwl hnz HHAS1
                go_wp2_with fail
                refine (HSW1.out wr LL.out).mono ?_
                rintro e w7 ⟨v7, rfl, ho7, hb7⟩
                obtain ⟨sa, sc, e', hsc, _⟩ := ho7.form
                subst e'
                have O7 := Lib.hid ho7.ints
                have B7 := Lib.hid (B.out.trans (hb7.mono B.out.size))
                have L7 := Lib.hid (LL.out.trans (hb7.mono LL.out.size))
                have HPK := Lib.hid (fun W hW => pathOk_good _ way W (ho7.ints.below (w' := W) hW) HGD.out)
                rw [HWL.out] at O7 HPK hsc ⊢
                clear ho7 hb7
                go_wp2_with fail
                refine (HSN1.out w7 L7.out).mono ?_
                rintro e w8 ⟨rfl, hb8⟩
                have B8 := Lib.hid (B7.out.trans (hb8.mono B7.out.size))
                have L8 := Lib.hid (L7.out.trans (hb8.mono L7.out.size))
                have Y8 := Lib.hid hb8
                clear hb8
                go_wp2_with fail
                refine (HPK.out w8 Y8.out (HE1.out.below B8.out)).mono ?_
                rintro e w9 ⟨rfl, hb9⟩
                have B9 := Lib.hid (B8.out.trans (hb9.mono B8.out.size))
                have L9 := Lib.hid (L8.out.trans (hb9.mono L8.out.size))
                have Y9 := Lib.hid (Y8.out.trans (hb9.mono Y8.out.size))
                clear hb9 B7 L7 B8 L8 Y8 HPK HSN1 HSW1 B LL
                obtain ⟨tb, toff, tu, rfl, htb, z0, htu⟩ := TT.out.get h hhN
                obtain ⟨tua, tuc, e, htuc, _⟩ := htu.form
                subst e
                have htr := HTROK.out h hhN
                have hm12 := HMT.out h hhN
                have hhs := HHAS2.out
                obtain ⟨tab, htab⟩ : ∃ t, T.getD h [] = t := ⟨_, rfl⟩
                rw [htab] at htu z0 htuc htr hm12 hhs
                obtain ⟨m, hm⟩ : ∃ m, tab.length = m := ⟨_, rfl⟩
                rw [hm] at htu z0 htuc htr hm12 hhs
                have HZZ := Lib.hid (fun W (hW : Below w5.heap.size w5 W) => (hW.cell (p := ⟨tb, toff + h, none⟩) htb).trans z0)
                have HTU := Lib.hid htu
                have HTR := Lib.hid htr
                have HHS := Lib.hid hhs
                obtain ⟨yb, yoff, rfl, hyb, y0⟩ := O7.out.get wl (by omega)
                have HYY := Lib.hid (fun W (hW : Below w7.heap.size w7 W) => (hW.cell (p := ⟨yb, yoff + wl, none⟩) hyb).trans y0)
                have hsubw : (wl : Int) + 1 - 1 = (wl : Int) := by omega
                have hww : IntKind.i64.wrap (wl : Int) = (wl : Int) := IntWalk.i64_in _ (by omega)
                have hwI : (wl : Int) < (wl : Int) + 1 := by omega
                have wl0 : (0 : Int) ≤ (wl : Int) := by omega
                have z0 := HZZ.out w9 L9.out
                clear htu htr hhs htab hm htb y0 HHAS2 HROK HSW HSN HHOME HLAST HGOOD HHAS HTROK HMT HA HAX HGD TT O7 HE hax
                go_wp2_with fail
                clear z0
                go_loopg [15, 16] m (fun gk s15 s16 wr => ∃ (k : Nat) (b : Int), s15 = .int .i64 b ∧ s16 = .int .i64 (k : Int) ∧ k + gk = m ∧ Hid (BestTo tab x k b) ∧ Hid (Below w1.heap.size w1 wr) ∧ Hid (Below w5.heap.size w5 wr) ∧ Hid (Below w7.heap.size w7 wr))
                case atStart => exact ⟨0, -1, rfl, rfl, by omega, Lib.hid (.inl ⟨rfl, fun q hq => absurd hq (by omega)⟩), B9, L9, Y9⟩
                case round =>
                  clear B9 L9 Y9
                  obtain ⟨k, b, rfl, rfl, hk, HBE, B, LL, YY⟩ := hrel
                  have z0 := HZZ.out wr LL.out
                  by_cases hg : gk = 0
                  · subst hg
                    obtain rfl : k = m := by omega
                    have hdn : decide ((k : Int) < (k : Int)) = false := by simp
                    obtain ⟨bb, hbk, rfl, hbh⟩ : ∃ q : Nat, q < k ∧ b = (q : Int) ∧ hasAt tab q x = true := by
                      rcases HBE.out with ⟨_, h2⟩ | h2
                      · obtain ⟨q, hq, hqx⟩ := HHS.out
                        rw [h2 q hq] at hqx
                        cases hqx
                      · exact h2
                    have hbI : (bb : Int) < (k : Int) := by omega
                    have b0 : (0 : Int) ≤ (bb : Int) := by omega
                    have hls := fun i => HLS.out i (tab.getD bb (0, 0, 0))
                    obtain ⟨eb, eoff, rfl, heb, x0, x1, x2⟩ := HTU.out.get bb hbk
                    unfold hasAt at hbh
                    obtain ⟨ent, hent⟩ : ∃ e, tab.getD bb (0, 0, 0) = e := ⟨_, rfl⟩
                    rw [hent] at x0 x1 x2 hbh
                    simp only [hent] at hls
                    obtain ⟨ef, ebt, evi⟩ := ent
                    simp only at x0 x1 x2 hls hbh
                    have HXX := Lib.hid (fun W (hW : Below w5.heap.size w5 W) => (show W.cell? ⟨eb, eoff + bb * 3, none⟩ = some (.int .i64 ef) ∧ W.cell? ⟨eb, eoff + bb * 3 + 1, none⟩ = some (.int .i64 ebt) from ⟨(hW.cell (p := ⟨eb, eoff + bb * 3, none⟩) heb).trans x0, (hW.cell (p := ⟨eb, eoff + bb * 3 + 1, none⟩) heb).trans x1⟩))
                    have HLQ := Lib.hid (fun i hi e1 e2 => hls i hi hbh e1 e2)
                    clear hls hent x0 x1 x2 hk HBE hbh HLS
                    go_wp2_with fail
                    clear z0
                    go_loopg [17] L (fun gk s17 wr => ∃ a : Nat, s17 = .int .i64 (a : Int) ∧ a + gk = L ∧ Hid (Below w1.heap.size w1 wr) ∧ Hid (Below w5.heap.size w5 wr) ∧ Hid (Below w7.heap.size w7 wr))
                    case atStart => exact ⟨0, rfl, by omega, B, LL, YY⟩
                    case round =>
                      clear B LL YY
                      obtain ⟨a, rfl, ha, B, LL, YY⟩ := hrel
                      by_cases hg : gk = 0
                      · subst hg
                        obtain rfl : a = L := by omega
                        have hdn : decide ((a : Int) < (a : Int)) = false := by simp
                        go_wp2_with fail
                        go_roundg (GH - 1)
                        case measure => omega
                        case rel => exact ⟨h + 1, by go_num, by have := HHH.out; omega, B, LL⟩
                      · have haL : a < L := by omega
                        have haI : (a : Int) < (L : Int) := by omega
                        have a0 : (0 : Int) ≤ (a : Int) := by omega
                        have hgk9 : 1 ≤ gk := by omega
                        have HAA := Lib.hid ha
                        obtain ⟨lb, loff, rfl, hlb, u0, u1, u2⟩ := (HH.out.below B.out).get a haL
                        have hlq := HLQ.out a haL
                        obtain ⟨ent, hent⟩ : ∃ e, l.getD a (0, 0, 0) = e := ⟨_, rfl⟩
                        rw [hent] at u0 u1 u2 hlq
                        obtain ⟨f, bt, ho⟩ := ent
                        simp only at u0 u1 u2 hlq
                        have z0 := HZZ.out wr LL.out
                        obtain ⟨x0, x1⟩ := HXX.out wr LL.out
                        have y0 := HYY.out wr YY.out
                        rw [HWL.out, Nat.add_sub_cancel] at hlq
                        have HLQ2 := Lib.hid hlq
                        clear ha hg hent hlq
                        by_cases hf : f = ef
                        · subst hf
                          have hff : (f == f) = true := by simp
                          by_cases hbt : bt = ebt
                          · subst hbt
                            have hbb : (bt == bt) = true := by simp
                            rw [HLQ2.out rfl rfl] at y0
                            have hnn : (ho != ho) = false := by simp
                            go_wp2_with fail
                            (try (rename (∀ (a : Act) (w : World), Code.wp _ _ _ a w → _) => kc1; have KC1 := And.intro (Lib.hid kc1) trivial; clear kc1))
                            (try (rename (∀ (a : Act) (w : World), Code.wp _ _ _ a w → _) => kc2; have KC2 := And.intro (Lib.hid kc2) trivial; clear kc2))
                            (try (rename (∀ (a : Act) (w : World), Code.wp _ _ _ a w → _) => kc3; have KC3 := And.intro (Lib.hid kc3) trivial; clear kc3))
                            (try (rename (∀ (a : Act) (w : World), Code.wp _ _ _ a w → _) => kc4; have KC4 := And.intro (Lib.hid kc4) trivial; clear kc4))
                            (try (rename (∀ (a : Act) (w : World), Code.wp _ _ _ a w → _) => kc5; have KC5 := And.intro (Lib.hid kc5) trivial; clear kc5))
                            (try (rename (∀ (a : Act) (w : World), Code.wp _ _ _ a w → _) => kc6; have KC6 := And.intro (Lib.hid kc6) trivial; clear kc6))
                            (try (rename (∀ (a : Act) (w : World), Code.wp _ _ _ a w → _) => kc7; have KC7 := And.intro (Lib.hid kc7) trivial; clear kc7))
                            (try (rename (∀ (k : Nat) (a' : Act) (w' : World), _ → _) => jc1; have JC1 := And.intro (Lib.hid jc1) trivial; clear jc1))
                            (try (rename (∀ (k : Nat) (a' : Act) (w' : World), _ → _) => jc2; have JC2 := And.intro (Lib.hid jc2) trivial; clear jc2))
                            (try (rename (∀ (k : Nat) (a' : Act) (w' : World), _ → _) => jc3; have JC3 := And.intro (Lib.hid jc3) trivial; clear jc3))
                            (try (rename (∀ (k : Nat) (a' : Act) (w' : World), _ → _) => jc4; have JC4 := And.intro (Lib.hid jc4) trivial; clear jc4))
                            (try (rename (∀ (k : Nat) (a' : Act) (w' : World), _ → _) => jc5; have JC5 := And.intro (Lib.hid jc5) trivial; clear jc5))
                            refine wp_region_noPanic ?_
                            refine wp_region_held_drew (S := (fun W => W.cell? ⟨tb, toff + h, none⟩ = some (.slice (some ⟨eb, eoff, none⟩) k tuc) ∧ W.cell? ⟨eb, eoff + bb * 3, none⟩ = some (.int .i64 f) ∧ W.cell? ⟨eb, eoff + bb * 3 + 1, none⟩ = some (.int .i64 bt) ∧ W.cell? ⟨lb, loff + a * 3, none⟩ = some (.int .i64 f) ∧ W.cell? ⟨lb, loff + a * 3 + 1, none⟩ = some (.int .i64 bt) ∧ W.cell? ⟨lb, loff + a * 3 + 2, none⟩ = some (.int .i64 ho) ∧ W.cell? ⟨yb, yoff + wl, none⟩ = some (.int .i64 ho))) (by kernel_rfl) (by exact ⟨z0, x0, x1, u0, u1, u2, y0⟩) (fun hHeld => ?_)
                            refine wpAnyH_take (i := 0) (v := _) (by (simp only [List.getElem?_toArray, List.getElem?_cons_zero]) <;> rfl) (by kernel_rfl) (by kernel_rfl) (by kernel_rfl) (fun _ _ _ h => h) (Or.inl ⟨by rfl, fun w hSw => by ((try dsimp only at hSw); go_simp) <;> with_reducible rfl⟩) (by assumption) ?_
                            (try simp only [Act.put, List.setIfInBounds_toArray, List.set_cons_zero, List.set_cons_succ])
                            refine wpAnyH_take (i := 1) (v := _) (by (simp only [List.getElem?_toArray, List.getElem?_cons_succ, List.getElem?_cons_zero]) <;> rfl) (by kernel_rfl) (by kernel_rfl) (by kernel_rfl) (fun _ _ _ h => h) (Or.inl ⟨by rfl, fun w hSw => by ((try dsimp only at hSw); go_simp) <;> with_reducible rfl⟩) (by assumption) ?_
                            (try simp only [Act.put, List.setIfInBounds_toArray, List.set_cons_zero, List.set_cons_succ])
                            refine wpAnyH_take (i := 2) (v := _) (by (simp only [List.getElem?_toArray, List.getElem?_cons_succ, List.getElem?_cons_zero]) <;> rfl) (by kernel_rfl) (by kernel_rfl) (by kernel_rfl) (fun _ _ _ h => h) (Or.inl ⟨by rfl, fun w hSw => by ((try dsimp only at hSw); go_simp) <;> with_reducible rfl⟩) (by assumption) ?_
                            (try simp only [Act.put, List.setIfInBounds_toArray, List.set_cons_zero, List.set_cons_succ])
                            refine wpAnyH_take (i := 3) (v := _) (by (simp only [List.getElem?_toArray, List.getElem?_cons_succ, List.getElem?_cons_zero]) <;> rfl) (by kernel_rfl) (by kernel_rfl) (by kernel_rfl) (fun _ _ _ h => h) (Or.inl ⟨by rfl, fun w hSw => by ((try dsimp only at hSw); go_simp) <;> with_reducible rfl⟩) (by assumption) ?_
                            (try simp only [Act.put, List.setIfInBounds_toArray, List.set_cons_zero, List.set_cons_succ])
                            refine wpAnyH_take (i := 4) (v := _) (by (simp only [List.getElem?_toArray, List.getElem?_cons_succ, List.getElem?_cons_zero]) <;> rfl) (by kernel_rfl) (by kernel_rfl) (by kernel_rfl) (fun _ _ _ h => h) (Or.inl ⟨by rfl, fun w hSw => by ((try dsimp only at hSw); go_simp) <;> with_reducible rfl⟩) (by assumption) ?_
                            (try simp only [Act.put, List.setIfInBounds_toArray, List.set_cons_zero, List.set_cons_succ])
                            refine wpAnyH_take (i := 5) (v := _) (by (simp only [List.getElem?_toArray, List.getElem?_cons_succ, List.getElem?_cons_zero]) <;> rfl) (by kernel_rfl) (by kernel_rfl) (by kernel_rfl) (fun _ _ _ h => h) (Or.inl ⟨by rfl, fun w hSw => by ((try dsimp only at hSw); go_simp) <;> with_reducible rfl⟩) (by assumption) ?_
                            (try simp only [Act.put, List.setIfInBounds_toArray, List.set_cons_zero, List.set_cons_succ])
                            refine wpAnyH_take (i := 6) (v := _) (by (simp only [List.getElem?_toArray, List.getElem?_cons_succ, List.getElem?_cons_zero]) <;> rfl) (by kernel_rfl) (by kernel_rfl) (by kernel_rfl) (fun _ _ _ h => h) (Or.inl ⟨by rfl, fun w hSw => by ((try dsimp only at hSw); go_simp) <;> with_reducible rfl⟩) (by assumption) ?_
                            (try simp only [Act.put, List.setIfInBounds_toArray, List.set_cons_zero, List.set_cons_succ])
                            refine wpAnyH_take (i := 7) (v := _) (by (simp only [List.getElem?_toArray, List.getElem?_cons_succ, List.getElem?_cons_zero]) <;> rfl) (by kernel_rfl) (by kernel_rfl) (by kernel_rfl) (fun _ _ _ h => h) (Or.inl ⟨by rfl, fun w hSw => by ((try dsimp only at hSw); go_simp) <;> with_reducible rfl⟩) (by assumption) ?_
                            (try simp only [Act.put, List.setIfInBounds_toArray, List.set_cons_zero, List.set_cons_succ])
                            refine wpAnyH_take (i := 8) (v := _) (by (simp only [List.getElem?_toArray, List.getElem?_cons_succ, List.getElem?_cons_zero]) <;> rfl) (by kernel_rfl) (by kernel_rfl) (by kernel_rfl) (fun _ _ _ h => h) (Or.inl ⟨by rfl, fun w hSw => by ((try dsimp only at hSw); go_simp) <;> with_reducible rfl⟩) (by assumption) ?_
                            (try simp only [Act.put, List.setIfInBounds_toArray, List.set_cons_zero, List.set_cons_succ])
                            refine wpAnyH_take (i := 9) (v := _) (by (simp only [List.getElem?_toArray, List.getElem?_cons_succ, List.getElem?_cons_zero]) <;> rfl) (by kernel_rfl) (by kernel_rfl) (by kernel_rfl) (fun _ _ _ h => h) (Or.inl ⟨by rfl, fun w hSw => by ((try dsimp only at hSw); go_simp) <;> with_reducible rfl⟩) (by assumption) ?_
                            (try simp only [Act.put, List.setIfInBounds_toArray, List.set_cons_zero, List.set_cons_succ])
                            refine wpAnyH_take (i := 10) (v := _) (by (simp only [List.getElem?_toArray, List.getElem?_cons_succ, List.getElem?_cons_zero]) <;> rfl) (by kernel_rfl) (by kernel_rfl) (by kernel_rfl) (fun _ _ _ h => h) (Or.inl ⟨by rfl, fun w hSw => by ((try dsimp only at hSw); go_simp) <;> with_reducible rfl⟩) (by assumption) ?_
                            (try simp only [Act.put, List.setIfInBounds_toArray, List.set_cons_zero, List.set_cons_succ])
                            refine wpAnyH_take (i := 11) (v := _) (by (simp only [List.getElem?_toArray, List.getElem?_cons_succ, List.getElem?_cons_zero]) <;> rfl) (by kernel_rfl) (by kernel_rfl) (by kernel_rfl) (fun _ _ _ h => h) (Or.inl ⟨by rfl, fun w hSw => by ((try dsimp only at hSw); go_simp) <;> with_reducible rfl⟩) (by assumption) ?_
                            (try simp only [Act.put, List.setIfInBounds_toArray, List.set_cons_zero, List.set_cons_succ])
                            refine wpAnyH_take (i := 12) (v := _) (by (simp only [List.getElem?_toArray, List.getElem?_cons_succ, List.getElem?_cons_zero]) <;> rfl) (by kernel_rfl) (by kernel_rfl) (by kernel_rfl) (fun _ _ _ h => h) (Or.inl ⟨by rfl, fun w hSw => by ((try dsimp only at hSw); go_simp) <;> with_reducible rfl⟩) (by assumption) ?_
                            (try simp only [Act.put, List.setIfInBounds_toArray, List.set_cons_zero, List.set_cons_succ])
                            refine wpAnyH_take (i := 13) (v := _) (by (simp only [List.getElem?_toArray, List.getElem?_cons_succ, List.getElem?_cons_zero]) <;> rfl) (by kernel_rfl) (by kernel_rfl) (by kernel_rfl) (fun _ _ _ h => h) (Or.inl ⟨by rfl, fun w hSw => by ((try dsimp only at hSw); go_simp) <;> with_reducible rfl⟩) (by assumption) ?_
                            (try simp only [Act.put, List.setIfInBounds_toArray, List.set_cons_zero, List.set_cons_succ])
                            refine wpAnyH_take (i := 14) (v := _) (by (simp only [List.getElem?_toArray, List.getElem?_cons_succ, List.getElem?_cons_zero]) <;> rfl) (by kernel_rfl) (by kernel_rfl) (by kernel_rfl) (fun _ _ _ h => h) (Or.inl ⟨by rfl, fun w hSw => by ((try dsimp only at hSw); go_simp) <;> with_reducible rfl⟩) (by assumption) ?_
                            (try simp only [Act.put, List.setIfInBounds_toArray, List.set_cons_zero, List.set_cons_succ])
                            refine wpAnyH_take (i := 15) (v := _) (by (simp only [List.getElem?_toArray, List.getElem?_cons_succ, List.getElem?_cons_zero]) <;> rfl) (by kernel_rfl) (by kernel_rfl) (by kernel_rfl) (fun _ _ _ h => h) (Or.inl ⟨by rfl, fun w hSw => by ((try dsimp only at hSw); go_simp) <;> with_reducible rfl⟩) (by assumption) ?_
                            (try simp only [Act.put, List.setIfInBounds_toArray, List.set_cons_zero, List.set_cons_succ])
                            refine wpAnyH_take (i := 16) (v := _) (by (simp only [List.getElem?_toArray, List.getElem?_cons_succ, List.getElem?_cons_zero]) <;> rfl) (by kernel_rfl) (by kernel_rfl) (by kernel_rfl) (fun _ _ _ h => h) (Or.inl ⟨by rfl, fun w hSw => by ((try dsimp only at hSw); go_simp) <;> with_reducible rfl⟩) (by assumption) ?_
                            (try simp only [Act.put, List.setIfInBounds_toArray, List.set_cons_zero, List.set_cons_succ])
                            refine wpAnyH_take (i := 17) (v := _) (by (simp only [List.getElem?_toArray, List.getElem?_cons_succ, List.getElem?_cons_zero]) <;> rfl) (by kernel_rfl) (by kernel_rfl) (by kernel_rfl) (fun _ _ _ h => h) (Or.inl ⟨by rfl, fun w hSw => by ((try dsimp only at hSw); go_simp) <;> with_reducible rfl⟩) (by assumption) ?_
                            (try simp only [Act.put, List.setIfInBounds_toArray, List.set_cons_zero, List.set_cons_succ])
                            refine wpAnyH_take (i := 18) (v := _) (by (simp only [List.getElem?_toArray, List.getElem?_cons_succ, List.getElem?_cons_zero]) <;> rfl) (by kernel_rfl) (by kernel_rfl) (by kernel_rfl) (fun _ _ _ h => h) (Or.inl ⟨by rfl, fun w hSw => by ((try dsimp only at hSw); go_simp) <;> with_reducible rfl⟩) (by assumption) ?_
                            (try simp only [Act.put, List.setIfInBounds_toArray, List.set_cons_zero, List.set_cons_succ])
                            refine wpAnyH_take (i := 19) (v := _) (by (simp only [List.getElem?_toArray, List.getElem?_cons_succ, List.getElem?_cons_zero]) <;> rfl) (by kernel_rfl) (by kernel_rfl) (by kernel_rfl) (fun _ _ _ h => h) (Or.inl ⟨by rfl, fun w hSw => by ((try dsimp only at hSw); go_simp) <;> with_reducible rfl⟩) (by assumption) ?_
                            (try simp only [Act.put, List.setIfInBounds_toArray, List.set_cons_zero, List.set_cons_succ])
                            refine wpAnyH_take (i := 20) (v := _) (by (simp only [List.getElem?_toArray, List.getElem?_cons_succ, List.getElem?_cons_zero]) <;> rfl) (by kernel_rfl) (by kernel_rfl) (by kernel_rfl) (fun _ _ _ h => h) (Or.inl ⟨by rfl, fun w hSw => by ((try dsimp only at hSw); go_simp) <;> with_reducible rfl⟩) (by assumption) ?_
                            (try simp only [Act.put, List.setIfInBounds_toArray, List.set_cons_zero, List.set_cons_succ])
                            refine wpAnyH_take (i := 21) (v := _) (by (simp only [List.getElem?_toArray, List.getElem?_cons_succ, List.getElem?_cons_zero]) <;> rfl) (by kernel_rfl) (by kernel_rfl) (by kernel_rfl) (fun _ _ _ h => h) (Or.inl ⟨by rfl, fun w hSw => by ((try dsimp only at hSw); go_simp) <;> with_reducible rfl⟩) (by assumption) ?_
                            (try simp only [Act.put, List.setIfInBounds_toArray, List.set_cons_zero, List.set_cons_succ])
                            refine wpAnyH_take (i := 22) (v := _) (by (simp only [List.getElem?_toArray, List.getElem?_cons_succ, List.getElem?_cons_zero]) <;> rfl) (by kernel_rfl) (by kernel_rfl) (by kernel_rfl) (fun _ _ _ h => h) (Or.inl ⟨by rfl, fun w hSw => by ((try dsimp only at hSw); go_simp) <;> with_reducible rfl⟩) (by assumption) ?_
                            (try simp only [Act.put, List.setIfInBounds_toArray, List.set_cons_zero, List.set_cons_succ])
                            refine wpAnyH_take (i := 23) (v := _) (by (simp only [List.getElem?_toArray, List.getElem?_cons_succ, List.getElem?_cons_zero]) <;> rfl) (by kernel_rfl) (by kernel_rfl) (by kernel_rfl) (fun _ _ _ h => h) (Or.inl ⟨by rfl, fun w hSw => by ((try dsimp only at hSw); go_simp) <;> with_reducible rfl⟩) (by assumption) ?_
                            (try simp only [Act.put, List.setIfInBounds_toArray, List.set_cons_zero, List.set_cons_succ])
                            refine wpAnyH_take (i := 24) (v := _) (by (simp only [List.getElem?_toArray, List.getElem?_cons_succ, List.getElem?_cons_zero]) <;> rfl) (by kernel_rfl) (by kernel_rfl) (by kernel_rfl) (fun _ _ _ h => h) (Or.inl ⟨by rfl, fun w hSw => by ((try dsimp only at hSw); go_simp) <;> with_reducible rfl⟩) (by assumption) ?_
                            (try simp only [Act.put, List.setIfInBounds_toArray, List.set_cons_zero, List.set_cons_succ])
                            refine wpAnyH_take (i := 25) (v := _) (by (simp only [List.getElem?_toArray, List.getElem?_cons_succ, List.getElem?_cons_zero]) <;> rfl) (by kernel_rfl) (by kernel_rfl) (by kernel_rfl) (fun _ _ _ h => h) (Or.inl ⟨by rfl, fun w hSw => by ((try dsimp only at hSw); go_simp) <;> with_reducible rfl⟩) (by assumption) ?_
                            (try simp only [Act.put, List.setIfInBounds_toArray, List.set_cons_zero, List.set_cons_succ])
                            refine wpAnyH_take (i := 26) (v := _) (by (simp only [List.getElem?_toArray, List.getElem?_cons_succ, List.getElem?_cons_zero]) <;> rfl) (by kernel_rfl) (by kernel_rfl) (by kernel_rfl) (fun _ _ _ h => h) (Or.inl ⟨by rfl, fun w hSw => by ((try dsimp only at hSw); go_simp) <;> with_reducible rfl⟩) (by assumption) ?_
                            (try simp only [Act.put, List.setIfInBounds_toArray, List.set_cons_zero, List.set_cons_succ])
                            refine wpAnyH_take (i := 27) (v := _) (by (simp only [List.getElem?_toArray, List.getElem?_cons_succ, List.getElem?_cons_zero]) <;> rfl) (by kernel_rfl) (by kernel_rfl) (by kernel_rfl) (fun _ _ _ h => h) (Or.inl ⟨by rfl, fun w hSw => by ((try dsimp only at hSw); go_simp) <;> with_reducible rfl⟩) (by assumption) ?_
                            (try simp only [Act.put, List.setIfInBounds_toArray, List.set_cons_zero, List.set_cons_succ])
                            refine wpAnyH_take (i := 28) (v := _) (by (simp only [List.getElem?_toArray, List.getElem?_cons_succ, List.getElem?_cons_zero]) <;> rfl) (by kernel_rfl) (by kernel_rfl) (by kernel_rfl) (fun _ _ _ h => h) (Or.inl ⟨by rfl, fun w hSw => by ((try dsimp only at hSw); go_simp) <;> with_reducible rfl⟩) (by assumption) ?_
                            (try simp only [Act.put, List.setIfInBounds_toArray, List.set_cons_zero, List.set_cons_succ])
                            refine wpAnyH_done (by kernel_rfl) ?_ _
                            refine NoPanic.normal ?_
                            (try have kc7 := KC7.1.out)
                            (try have kc6 := KC6.1.out)
                            (try have kc5 := KC5.1.out)
                            (try have kc4 := KC4.1.out)
                            (try have kc3 := KC3.1.out)
                            (try have kc2 := KC2.1.out)
                            (try have kc1 := KC1.1.out)
                            (try have jc5 := JC5.1.out)
                            (try have jc4 := JC4.1.out)
                            (try have jc3 := JC3.1.out)
                            (try have jc2 := JC2.1.out)
                            (try have jc1 := JC1.1.out)
                            (try clear KC1); (try clear KC2); (try clear KC3); (try clear KC4); (try clear KC5); (try clear KC6); (try clear KC7); (try clear JC1); (try clear JC2); (try clear JC3); (try clear JC4); (try clear JC5)
                            go_wp2_with fail
                            go_roundg (gk - 1)
                            case measure => omega
                            case rel => exact ⟨a + 1, by go_num, by have := HAA.out; omega, Lib.hid (Below.drew B.out), Lib.hid (Below.drew LL.out), Lib.hid (Below.drew YY.out)⟩
                          · have hbb : (bt == ebt) = false := by simp [hbt]
                            clear hbt
                            go_wp2_with fail
                            (try (rename (∀ (a : Act) (w : World), Code.wp _ _ _ a w → _) => kc1; have KC1 := And.intro (Lib.hid kc1) trivial; clear kc1))
                            (try (rename (∀ (a : Act) (w : World), Code.wp _ _ _ a w → _) => kc2; have KC2 := And.intro (Lib.hid kc2) trivial; clear kc2))
                            (try (rename (∀ (a : Act) (w : World), Code.wp _ _ _ a w → _) => kc3; have KC3 := And.intro (Lib.hid kc3) trivial; clear kc3))
                            (try (rename (∀ (a : Act) (w : World), Code.wp _ _ _ a w → _) => kc4; have KC4 := And.intro (Lib.hid kc4) trivial; clear kc4))
                            (try (rename (∀ (a : Act) (w : World), Code.wp _ _ _ a w → _) => kc5; have KC5 := And.intro (Lib.hid kc5) trivial; clear kc5))
                            (try (rename (∀ (a : Act) (w : World), Code.wp _ _ _ a w → _) => kc6; have KC6 := And.intro (Lib.hid kc6) trivial; clear kc6))
                            (try (rename (∀ (a : Act) (w : World), Code.wp _ _ _ a w → _) => kc7; have KC7 := And.intro (Lib.hid kc7) trivial; clear kc7))
                            (try (rename (∀ (k : Nat) (a' : Act) (w' : World), _ → _) => jc1; have JC1 := And.intro (Lib.hid jc1) trivial; clear jc1))
                            (try (rename (∀ (k : Nat) (a' : Act) (w' : World), _ → _) => jc2; have JC2 := And.intro (Lib.hid jc2) trivial; clear jc2))
                            (try (rename (∀ (k : Nat) (a' : Act) (w' : World), _ → _) => jc3; have JC3 := And.intro (Lib.hid jc3) trivial; clear jc3))
                            (try (rename (∀ (k : Nat) (a' : Act) (w' : World), _ → _) => jc4; have JC4 := And.intro (Lib.hid jc4) trivial; clear jc4))
                            (try (rename (∀ (k : Nat) (a' : Act) (w' : World), _ → _) => jc5; have JC5 := And.intro (Lib.hid jc5) trivial; clear jc5))
                            refine wp_region_noPanic ?_
                            refine wp_region_held_drew (S := (fun W => W.cell? ⟨tb, toff + h, none⟩ = some (.slice (some ⟨eb, eoff, none⟩) k tuc) ∧ W.cell? ⟨eb, eoff + bb * 3, none⟩ = some (.int .i64 f) ∧ W.cell? ⟨eb, eoff + bb * 3 + 1, none⟩ = some (.int .i64 ebt) ∧ W.cell? ⟨lb, loff + a * 3, none⟩ = some (.int .i64 f) ∧ W.cell? ⟨lb, loff + a * 3 + 1, none⟩ = some (.int .i64 bt))) (by kernel_rfl) (by exact ⟨z0, x0, x1, u0, u1⟩) (fun hHeld => ?_)
                            refine wpAnyH_take (i := 0) (v := _) (by (simp only [List.getElem?_toArray, List.getElem?_cons_zero]) <;> rfl) (by kernel_rfl) (by kernel_rfl) (by kernel_rfl) (fun _ _ _ h => h) (Or.inl ⟨by rfl, fun w hSw => by ((try dsimp only at hSw); go_simp) <;> with_reducible rfl⟩) (by assumption) ?_
                            (try simp only [Act.put, List.setIfInBounds_toArray, List.set_cons_zero, List.set_cons_succ])
                            refine wpAnyH_take (i := 1) (v := _) (by (simp only [List.getElem?_toArray, List.getElem?_cons_succ, List.getElem?_cons_zero]) <;> rfl) (by kernel_rfl) (by kernel_rfl) (by kernel_rfl) (fun _ _ _ h => h) (Or.inl ⟨by rfl, fun w hSw => by ((try dsimp only at hSw); go_simp) <;> with_reducible rfl⟩) (by assumption) ?_
                            (try simp only [Act.put, List.setIfInBounds_toArray, List.set_cons_zero, List.set_cons_succ])
                            refine wpAnyH_take (i := 2) (v := _) (by (simp only [List.getElem?_toArray, List.getElem?_cons_succ, List.getElem?_cons_zero]) <;> rfl) (by kernel_rfl) (by kernel_rfl) (by kernel_rfl) (fun _ _ _ h => h) (Or.inl ⟨by rfl, fun w hSw => by ((try dsimp only at hSw); go_simp) <;> with_reducible rfl⟩) (by assumption) ?_
                            (try simp only [Act.put, List.setIfInBounds_toArray, List.set_cons_zero, List.set_cons_succ])
                            refine wpAnyH_take (i := 3) (v := _) (by (simp only [List.getElem?_toArray, List.getElem?_cons_succ, List.getElem?_cons_zero]) <;> rfl) (by kernel_rfl) (by kernel_rfl) (by kernel_rfl) (fun _ _ _ h => h) (Or.inl ⟨by rfl, fun w hSw => by ((try dsimp only at hSw); go_simp) <;> with_reducible rfl⟩) (by assumption) ?_
                            (try simp only [Act.put, List.setIfInBounds_toArray, List.set_cons_zero, List.set_cons_succ])
                            refine wpAnyH_take (i := 4) (v := _) (by (simp only [List.getElem?_toArray, List.getElem?_cons_succ, List.getElem?_cons_zero]) <;> rfl) (by kernel_rfl) (by kernel_rfl) (by kernel_rfl) (fun _ _ _ h => h) (Or.inl ⟨by rfl, fun w hSw => by ((try dsimp only at hSw); go_simp) <;> with_reducible rfl⟩) (by assumption) ?_
                            (try simp only [Act.put, List.setIfInBounds_toArray, List.set_cons_zero, List.set_cons_succ])
                            refine wpAnyH_take (i := 5) (v := _) (by (simp only [List.getElem?_toArray, List.getElem?_cons_succ, List.getElem?_cons_zero]) <;> rfl) (by kernel_rfl) (by kernel_rfl) (by kernel_rfl) (fun _ _ _ h => h) (Or.inl ⟨by rfl, fun w hSw => by ((try dsimp only at hSw); go_simp) <;> with_reducible rfl⟩) (by assumption) ?_
                            (try simp only [Act.put, List.setIfInBounds_toArray, List.set_cons_zero, List.set_cons_succ])
                            refine wpAnyH_take (i := 6) (v := _) (by (simp only [List.getElem?_toArray, List.getElem?_cons_succ, List.getElem?_cons_zero]) <;> rfl) (by kernel_rfl) (by kernel_rfl) (by kernel_rfl) (fun _ _ _ h => h) (Or.inl ⟨by rfl, fun w hSw => by ((try dsimp only at hSw); go_simp) <;> with_reducible rfl⟩) (by assumption) ?_
                            (try simp only [Act.put, List.setIfInBounds_toArray, List.set_cons_zero, List.set_cons_succ])
                            refine wpAnyH_take (i := 7) (v := _) (by (simp only [List.getElem?_toArray, List.getElem?_cons_succ, List.getElem?_cons_zero]) <;> rfl) (by kernel_rfl) (by kernel_rfl) (by kernel_rfl) (fun _ _ _ h => h) (Or.inl ⟨by rfl, fun w hSw => by ((try dsimp only at hSw); go_simp) <;> with_reducible rfl⟩) (by assumption) ?_
                            (try simp only [Act.put, List.setIfInBounds_toArray, List.set_cons_zero, List.set_cons_succ])
                            refine wpAnyH_take (i := 8) (v := _) (by (simp only [List.getElem?_toArray, List.getElem?_cons_succ, List.getElem?_cons_zero]) <;> rfl) (by kernel_rfl) (by kernel_rfl) (by kernel_rfl) (fun _ _ _ h => h) (Or.inl ⟨by rfl, fun w hSw => by ((try dsimp only at hSw); go_simp) <;> with_reducible rfl⟩) (by assumption) ?_
                            (try simp only [Act.put, List.setIfInBounds_toArray, List.set_cons_zero, List.set_cons_succ])
                            refine wpAnyH_take (i := 9) (v := _) (by (simp only [List.getElem?_toArray, List.getElem?_cons_succ, List.getElem?_cons_zero]) <;> rfl) (by kernel_rfl) (by kernel_rfl) (by kernel_rfl) (fun _ _ _ h => h) (Or.inl ⟨by rfl, fun w hSw => by ((try dsimp only at hSw); go_simp) <;> with_reducible rfl⟩) (by assumption) ?_
                            (try simp only [Act.put, List.setIfInBounds_toArray, List.set_cons_zero, List.set_cons_succ])
                            refine wpAnyH_take (i := 10) (v := _) (by (simp only [List.getElem?_toArray, List.getElem?_cons_succ, List.getElem?_cons_zero]) <;> rfl) (by kernel_rfl) (by kernel_rfl) (by kernel_rfl) (fun _ _ _ h => h) (Or.inl ⟨by rfl, fun w hSw => by ((try dsimp only at hSw); go_simp) <;> with_reducible rfl⟩) (by assumption) ?_
                            (try simp only [Act.put, List.setIfInBounds_toArray, List.set_cons_zero, List.set_cons_succ])
                            refine wpAnyH_take (i := 11) (v := _) (by (simp only [List.getElem?_toArray, List.getElem?_cons_succ, List.getElem?_cons_zero]) <;> rfl) (by kernel_rfl) (by kernel_rfl) (by kernel_rfl) (fun _ _ _ h => h) (Or.inl ⟨by rfl, fun w hSw => by ((try dsimp only at hSw); go_simp) <;> with_reducible rfl⟩) (by assumption) ?_
                            (try simp only [Act.put, List.setIfInBounds_toArray, List.set_cons_zero, List.set_cons_succ])
                            refine wpAnyH_take (i := 12) (v := _) (by (simp only [List.getElem?_toArray, List.getElem?_cons_succ, List.getElem?_cons_zero]) <;> rfl) (by kernel_rfl) (by kernel_rfl) (by kernel_rfl) (fun _ _ _ h => h) (Or.inl ⟨by rfl, fun w hSw => by ((try dsimp only at hSw); go_simp) <;> with_reducible rfl⟩) (by assumption) ?_
                            (try simp only [Act.put, List.setIfInBounds_toArray, List.set_cons_zero, List.set_cons_succ])
                            refine wpAnyH_take (i := 13) (v := _) (by (simp only [List.getElem?_toArray, List.getElem?_cons_succ, List.getElem?_cons_zero]) <;> rfl) (by kernel_rfl) (by kernel_rfl) (by kernel_rfl) (fun _ _ _ h => h) (Or.inl ⟨by rfl, fun w hSw => by ((try dsimp only at hSw); go_simp) <;> with_reducible rfl⟩) (by assumption) ?_
                            (try simp only [Act.put, List.setIfInBounds_toArray, List.set_cons_zero, List.set_cons_succ])
                            refine wpAnyH_take (i := 14) (v := _) (by (simp only [List.getElem?_toArray, List.getElem?_cons_succ, List.getElem?_cons_zero]) <;> rfl) (by kernel_rfl) (by kernel_rfl) (by kernel_rfl) (fun _ _ _ h => h) (Or.inl ⟨by rfl, fun w hSw => by ((try dsimp only at hSw); go_simp) <;> with_reducible rfl⟩) (by assumption) ?_
                            (try simp only [Act.put, List.setIfInBounds_toArray, List.set_cons_zero, List.set_cons_succ])
                            refine wpAnyH_take (i := 15) (v := _) (by (simp only [List.getElem?_toArray, List.getElem?_cons_succ, List.getElem?_cons_zero]) <;> rfl) (by kernel_rfl) (by kernel_rfl) (by kernel_rfl) (fun _ _ _ h => h) (Or.inl ⟨by rfl, fun w hSw => by ((try dsimp only at hSw); go_simp) <;> with_reducible rfl⟩) (by assumption) ?_
                            (try simp only [Act.put, List.setIfInBounds_toArray, List.set_cons_zero, List.set_cons_succ])
                            refine wpAnyH_take (i := 16) (v := _) (by (simp only [List.getElem?_toArray, List.getElem?_cons_succ, List.getElem?_cons_zero]) <;> rfl) (by kernel_rfl) (by kernel_rfl) (by kernel_rfl) (fun _ _ _ h => h) (Or.inr ⟨by rfl, rfl⟩) (by assumption) ?_
                            (try simp only [Act.put, List.setIfInBounds_toArray, List.set_cons_zero, List.set_cons_succ])
                            refine wpAnyH_take (i := 17) (v := _) (by (simp only [List.getElem?_toArray, List.getElem?_cons_succ, List.getElem?_cons_zero]) <;> rfl) (by kernel_rfl) (by kernel_rfl) (by kernel_rfl) (fun _ _ _ h => h) (Or.inr ⟨by rfl, rfl⟩) (by assumption) ?_
                            (try simp only [Act.put, List.setIfInBounds_toArray, List.set_cons_zero, List.set_cons_succ])
                            refine wpAnyH_take (i := 18) (v := _) (by (simp only [List.getElem?_toArray, List.getElem?_cons_succ, List.getElem?_cons_zero]) <;> rfl) (by kernel_rfl) (by kernel_rfl) (by kernel_rfl) (fun _ _ _ h => h) (Or.inr ⟨by rfl, rfl⟩) (by assumption) ?_
                            (try simp only [Act.put, List.setIfInBounds_toArray, List.set_cons_zero, List.set_cons_succ])
                            refine wpAnyH_take (i := 19) (v := _) (by (simp only [List.getElem?_toArray, List.getElem?_cons_succ, List.getElem?_cons_zero]) <;> rfl) (by kernel_rfl) (by kernel_rfl) (by kernel_rfl) (fun _ _ _ h => h) (Or.inr ⟨by rfl, rfl⟩) (by assumption) ?_
                            (try simp only [Act.put, List.setIfInBounds_toArray, List.set_cons_zero, List.set_cons_succ])
                            refine wpAnyH_take (i := 20) (v := _) (by (simp only [List.getElem?_toArray, List.getElem?_cons_succ, List.getElem?_cons_zero]) <;> rfl) (by kernel_rfl) (by kernel_rfl) (by kernel_rfl) (fun _ _ _ h => h) (Or.inr ⟨by rfl, rfl⟩) (by assumption) ?_
                            (try simp only [Act.put, List.setIfInBounds_toArray, List.set_cons_zero, List.set_cons_succ])
                            refine wpAnyH_take (i := 21) (v := _) (by (simp only [List.getElem?_toArray, List.getElem?_cons_succ, List.getElem?_cons_zero]) <;> rfl) (by kernel_rfl) (by kernel_rfl) (by kernel_rfl) (fun _ _ _ h => h) (Or.inr ⟨by rfl, rfl⟩) (by assumption) ?_
                            (try simp only [Act.put, List.setIfInBounds_toArray, List.set_cons_zero, List.set_cons_succ])
                            refine wpAnyH_take (i := 22) (v := _) (by (simp only [List.getElem?_toArray, List.getElem?_cons_succ, List.getElem?_cons_zero]) <;> rfl) (by kernel_rfl) (by kernel_rfl) (by kernel_rfl) (fun _ _ _ h => h) (Or.inr ⟨by rfl, rfl⟩) (by assumption) ?_
                            (try simp only [Act.put, List.setIfInBounds_toArray, List.set_cons_zero, List.set_cons_succ])
                            refine wpAnyH_take (i := 23) (v := _) (by (simp only [List.getElem?_toArray, List.getElem?_cons_succ, List.getElem?_cons_zero]) <;> rfl) (by kernel_rfl) (by kernel_rfl) (by kernel_rfl) (fun _ _ _ h => h) (Or.inr ⟨by rfl, rfl⟩) (by assumption) ?_
                            (try simp only [Act.put, List.setIfInBounds_toArray, List.set_cons_zero, List.set_cons_succ])
                            refine wpAnyH_take (i := 24) (v := _) (by (simp only [List.getElem?_toArray, List.getElem?_cons_succ, List.getElem?_cons_zero]) <;> rfl) (by kernel_rfl) (by kernel_rfl) (by kernel_rfl) (fun _ _ _ h => h) (Or.inr ⟨by rfl, rfl⟩) (by assumption) ?_
                            (try simp only [Act.put, List.setIfInBounds_toArray, List.set_cons_zero, List.set_cons_succ])
                            refine wpAnyH_take (i := 25) (v := _) (by (simp only [List.getElem?_toArray, List.getElem?_cons_succ, List.getElem?_cons_zero]) <;> rfl) (by kernel_rfl) (by kernel_rfl) (by kernel_rfl) (fun _ _ _ h => h) (Or.inr ⟨by rfl, rfl⟩) (by assumption) ?_
                            (try simp only [Act.put, List.setIfInBounds_toArray, List.set_cons_zero, List.set_cons_succ])
                            refine wpAnyH_take (i := 26) (v := _) (by (simp only [List.getElem?_toArray, List.getElem?_cons_succ, List.getElem?_cons_zero]) <;> rfl) (by kernel_rfl) (by kernel_rfl) (by kernel_rfl) (fun _ _ _ h => h) (Or.inr ⟨by rfl, rfl⟩) (by assumption) ?_
                            (try simp only [Act.put, List.setIfInBounds_toArray, List.set_cons_zero, List.set_cons_succ])
                            refine wpAnyH_take (i := 27) (v := _) (by (simp only [List.getElem?_toArray, List.getElem?_cons_succ, List.getElem?_cons_zero]) <;> rfl) (by kernel_rfl) (by kernel_rfl) (by kernel_rfl) (fun _ _ _ h => h) (Or.inr ⟨by rfl, rfl⟩) (by assumption) ?_
                            (try simp only [Act.put, List.setIfInBounds_toArray, List.set_cons_zero, List.set_cons_succ])
                            refine wpAnyH_take (i := 28) (v := _) (by (simp only [List.getElem?_toArray, List.getElem?_cons_succ, List.getElem?_cons_zero]) <;> rfl) (by kernel_rfl) (by kernel_rfl) (by kernel_rfl) (fun _ _ _ h => h) (Or.inl ⟨by rfl, fun w hSw => by ((try dsimp only at hSw); go_simp) <;> with_reducible rfl⟩) (by assumption) ?_
                            (try simp only [Act.put, List.setIfInBounds_toArray, List.set_cons_zero, List.set_cons_succ])
                            refine wpAnyH_done (by kernel_rfl) ?_ _
                            refine NoPanic.normal ?_
                            (try have kc7 := KC7.1.out)
                            (try have kc6 := KC6.1.out)
                            (try have kc5 := KC5.1.out)
                            (try have kc4 := KC4.1.out)
                            (try have kc3 := KC3.1.out)
                            (try have kc2 := KC2.1.out)
                            (try have kc1 := KC1.1.out)
                            (try have jc5 := JC5.1.out)
                            (try have jc4 := JC4.1.out)
                            (try have jc3 := JC3.1.out)
                            (try have jc2 := JC2.1.out)
                            (try have jc1 := JC1.1.out)
                            (try clear KC1); (try clear KC2); (try clear KC3); (try clear KC4); (try clear KC5); (try clear KC6); (try clear KC7); (try clear JC1); (try clear JC2); (try clear JC3); (try clear JC4); (try clear JC5)
                            go_wp2_with fail
                            go_roundg (gk - 1)
                            case measure => omega
                            case rel => exact ⟨a + 1, by go_num, by have := HAA.out; omega, Lib.hid (Below.drew B.out), Lib.hid (Below.drew LL.out), Lib.hid (Below.drew YY.out)⟩
                        · have hff : (f == ef) = false := by simp [hf]
                          clear hf
                          go_wp2_with fail
                          (try (rename (∀ (a : Act) (w : World), Code.wp _ _ _ a w → _) => kc1; have KC1 := And.intro (Lib.hid kc1) trivial; clear kc1))
                          (try (rename (∀ (a : Act) (w : World), Code.wp _ _ _ a w → _) => kc2; have KC2 := And.intro (Lib.hid kc2) trivial; clear kc2))
                          (try (rename (∀ (a : Act) (w : World), Code.wp _ _ _ a w → _) => kc3; have KC3 := And.intro (Lib.hid kc3) trivial; clear kc3))
                          (try (rename (∀ (a : Act) (w : World), Code.wp _ _ _ a w → _) => kc4; have KC4 := And.intro (Lib.hid kc4) trivial; clear kc4))
                          (try (rename (∀ (a : Act) (w : World), Code.wp _ _ _ a w → _) => kc5; have KC5 := And.intro (Lib.hid kc5) trivial; clear kc5))
                          (try (rename (∀ (a : Act) (w : World), Code.wp _ _ _ a w → _) => kc6; have KC6 := And.intro (Lib.hid kc6) trivial; clear kc6))
                          (try (rename (∀ (a : Act) (w : World), Code.wp _ _ _ a w → _) => kc7; have KC7 := And.intro (Lib.hid kc7) trivial; clear kc7))
                          (try (rename (∀ (k : Nat) (a' : Act) (w' : World), _ → _) => jc1; have JC1 := And.intro (Lib.hid jc1) trivial; clear jc1))
                          (try (rename (∀ (k : Nat) (a' : Act) (w' : World), _ → _) => jc2; have JC2 := And.intro (Lib.hid jc2) trivial; clear jc2))
                          (try (rename (∀ (k : Nat) (a' : Act) (w' : World), _ → _) => jc3; have JC3 := And.intro (Lib.hid jc3) trivial; clear jc3))
                          (try (rename (∀ (k : Nat) (a' : Act) (w' : World), _ → _) => jc4; have JC4 := And.intro (Lib.hid jc4) trivial; clear jc4))
                          (try (rename (∀ (k : Nat) (a' : Act) (w' : World), _ → _) => jc5; have JC5 := And.intro (Lib.hid jc5) trivial; clear jc5))
                          refine wp_region_noPanic ?_
                          refine wp_region_held_drew (S := (fun W => W.cell? ⟨tb, toff + h, none⟩ = some (.slice (some ⟨eb, eoff, none⟩) k tuc) ∧ W.cell? ⟨eb, eoff + bb * 3, none⟩ = some (.int .i64 ef) ∧ W.cell? ⟨eb, eoff + bb * 3 + 1, none⟩ = some (.int .i64 ebt) ∧ W.cell? ⟨lb, loff + a * 3, none⟩ = some (.int .i64 f) ∧ W.cell? ⟨lb, loff + a * 3 + 1, none⟩ = some (.int .i64 bt))) (by kernel_rfl) (by exact ⟨z0, x0, x1, u0, u1⟩) (fun hHeld => ?_)
                          refine wpAnyH_take (i := 0) (v := _) (by (simp only [List.getElem?_toArray, List.getElem?_cons_zero]) <;> rfl) (by kernel_rfl) (by kernel_rfl) (by kernel_rfl) (fun _ _ _ h => h) (Or.inl ⟨by rfl, fun w hSw => by ((try dsimp only at hSw); go_simp) <;> with_reducible rfl⟩) (by assumption) ?_
                          (try simp only [Act.put, List.setIfInBounds_toArray, List.set_cons_zero, List.set_cons_succ])
                          refine wpAnyH_take (i := 1) (v := _) (by (simp only [List.getElem?_toArray, List.getElem?_cons_succ, List.getElem?_cons_zero]) <;> rfl) (by kernel_rfl) (by kernel_rfl) (by kernel_rfl) (fun _ _ _ h => h) (Or.inl ⟨by rfl, fun w hSw => by ((try dsimp only at hSw); go_simp) <;> with_reducible rfl⟩) (by assumption) ?_
                          (try simp only [Act.put, List.setIfInBounds_toArray, List.set_cons_zero, List.set_cons_succ])
                          refine wpAnyH_take (i := 2) (v := _) (by (simp only [List.getElem?_toArray, List.getElem?_cons_succ, List.getElem?_cons_zero]) <;> rfl) (by kernel_rfl) (by kernel_rfl) (by kernel_rfl) (fun _ _ _ h => h) (Or.inl ⟨by rfl, fun w hSw => by ((try dsimp only at hSw); go_simp) <;> with_reducible rfl⟩) (by assumption) ?_
                          (try simp only [Act.put, List.setIfInBounds_toArray, List.set_cons_zero, List.set_cons_succ])
                          refine wpAnyH_take (i := 3) (v := _) (by (simp only [List.getElem?_toArray, List.getElem?_cons_succ, List.getElem?_cons_zero]) <;> rfl) (by kernel_rfl) (by kernel_rfl) (by kernel_rfl) (fun _ _ _ h => h) (Or.inl ⟨by rfl, fun w hSw => by ((try dsimp only at hSw); go_simp) <;> with_reducible rfl⟩) (by assumption) ?_
                          (try simp only [Act.put, List.setIfInBounds_toArray, List.set_cons_zero, List.set_cons_succ])
                          refine wpAnyH_take (i := 4) (v := _) (by (simp only [List.getElem?_toArray, List.getElem?_cons_succ, List.getElem?_cons_zero]) <;> rfl) (by kernel_rfl) (by kernel_rfl) (by kernel_rfl) (fun _ _ _ h => h) (Or.inl ⟨by rfl, fun w hSw => by ((try dsimp only at hSw); go_simp) <;> with_reducible rfl⟩) (by assumption) ?_
                          (try simp only [Act.put, List.setIfInBounds_toArray, List.set_cons_zero, List.set_cons_succ])
                          refine wpAnyH_take (i := 5) (v := _) (by (simp only [List.getElem?_toArray, List.getElem?_cons_succ, List.getElem?_cons_zero]) <;> rfl) (by kernel_rfl) (by kernel_rfl) (by kernel_rfl) (fun _ _ _ h => h) (Or.inl ⟨by rfl, fun w hSw => by ((try dsimp only at hSw); go_simp) <;> with_reducible rfl⟩) (by assumption) ?_
                          (try simp only [Act.put, List.setIfInBounds_toArray, List.set_cons_zero, List.set_cons_succ])
                          refine wpAnyH_take (i := 6) (v := _) (by (simp only [List.getElem?_toArray, List.getElem?_cons_succ, List.getElem?_cons_zero]) <;> rfl) (by kernel_rfl) (by kernel_rfl) (by kernel_rfl) (fun _ _ _ h => h) (Or.inl ⟨by rfl, fun w hSw => by ((try dsimp only at hSw); go_simp) <;> with_reducible rfl⟩) (by assumption) ?_
                          (try simp only [Act.put, List.setIfInBounds_toArray, List.set_cons_zero, List.set_cons_succ])
                          refine wpAnyH_take (i := 7) (v := _) (by (simp only [List.getElem?_toArray, List.getElem?_cons_succ, List.getElem?_cons_zero]) <;> rfl) (by kernel_rfl) (by kernel_rfl) (by kernel_rfl) (fun _ _ _ h => h) (Or.inl ⟨by rfl, fun w hSw => by ((try dsimp only at hSw); go_simp) <;> with_reducible rfl⟩) (by assumption) ?_
                          (try simp only [Act.put, List.setIfInBounds_toArray, List.set_cons_zero, List.set_cons_succ])
                          refine wpAnyH_take (i := 8) (v := _) (by (simp only [List.getElem?_toArray, List.getElem?_cons_succ, List.getElem?_cons_zero]) <;> rfl) (by kernel_rfl) (by kernel_rfl) (by kernel_rfl) (fun _ _ _ h => h) (Or.inl ⟨by rfl, fun w hSw => by ((try dsimp only at hSw); go_simp) <;> with_reducible rfl⟩) (by assumption) ?_
                          (try simp only [Act.put, List.setIfInBounds_toArray, List.set_cons_zero, List.set_cons_succ])
                          refine wpAnyH_take (i := 9) (v := _) (by (simp only [List.getElem?_toArray, List.getElem?_cons_succ, List.getElem?_cons_zero]) <;> rfl) (by kernel_rfl) (by kernel_rfl) (by kernel_rfl) (fun _ _ _ h => h) (Or.inl ⟨by rfl, fun w hSw => by ((try dsimp only at hSw); go_simp) <;> with_reducible rfl⟩) (by assumption) ?_
                          (try simp only [Act.put, List.setIfInBounds_toArray, List.set_cons_zero, List.set_cons_succ])
                          refine wpAnyH_take (i := 10) (v := _) (by (simp only [List.getElem?_toArray, List.getElem?_cons_succ, List.getElem?_cons_zero]) <;> rfl) (by kernel_rfl) (by kernel_rfl) (by kernel_rfl) (fun _ _ _ h => h) (Or.inl ⟨by rfl, fun w hSw => by ((try dsimp only at hSw); go_simp) <;> with_reducible rfl⟩) (by assumption) ?_
                          (try simp only [Act.put, List.setIfInBounds_toArray, List.set_cons_zero, List.set_cons_succ])
                          refine wpAnyH_take (i := 11) (v := _) (by (simp only [List.getElem?_toArray, List.getElem?_cons_succ, List.getElem?_cons_zero]) <;> rfl) (by kernel_rfl) (by kernel_rfl) (by kernel_rfl) (fun _ _ _ h => h) (Or.inl ⟨by rfl, fun w hSw => by ((try dsimp only at hSw); go_simp) <;> with_reducible rfl⟩) (by assumption) ?_
                          (try simp only [Act.put, List.setIfInBounds_toArray, List.set_cons_zero, List.set_cons_succ])
                          refine wpAnyH_take (i := 12) (v := _) (by (simp only [List.getElem?_toArray, List.getElem?_cons_succ, List.getElem?_cons_zero]) <;> rfl) (by kernel_rfl) (by kernel_rfl) (by kernel_rfl) (fun _ _ _ h => h) (Or.inl ⟨by rfl, fun w hSw => by ((try dsimp only at hSw); go_simp) <;> with_reducible rfl⟩) (by assumption) ?_
                          (try simp only [Act.put, List.setIfInBounds_toArray, List.set_cons_zero, List.set_cons_succ])
                          refine wpAnyH_take (i := 13) (v := _) (by (simp only [List.getElem?_toArray, List.getElem?_cons_succ, List.getElem?_cons_zero]) <;> rfl) (by kernel_rfl) (by kernel_rfl) (by kernel_rfl) (fun _ _ _ h => h) (Or.inl ⟨by rfl, fun w hSw => by ((try dsimp only at hSw); go_simp) <;> with_reducible rfl⟩) (by assumption) ?_
                          (try simp only [Act.put, List.setIfInBounds_toArray, List.set_cons_zero, List.set_cons_succ])
                          refine wpAnyH_take (i := 14) (v := _) (by (simp only [List.getElem?_toArray, List.getElem?_cons_succ, List.getElem?_cons_zero]) <;> rfl) (by kernel_rfl) (by kernel_rfl) (by kernel_rfl) (fun _ _ _ h => h) (Or.inl ⟨by rfl, fun w hSw => by ((try dsimp only at hSw); go_simp) <;> with_reducible rfl⟩) (by assumption) ?_
                          (try simp only [Act.put, List.setIfInBounds_toArray, List.set_cons_zero, List.set_cons_succ])
                          refine wpAnyH_take (i := 15) (v := _) (by (simp only [List.getElem?_toArray, List.getElem?_cons_succ, List.getElem?_cons_zero]) <;> rfl) (by kernel_rfl) (by kernel_rfl) (by kernel_rfl) (fun _ _ _ h => h) (Or.inl ⟨by rfl, fun w hSw => by ((try dsimp only at hSw); go_simp) <;> with_reducible rfl⟩) (by assumption) ?_
                          (try simp only [Act.put, List.setIfInBounds_toArray, List.set_cons_zero, List.set_cons_succ])
                          refine wpAnyH_take (i := 16) (v := _) (by (simp only [List.getElem?_toArray, List.getElem?_cons_succ, List.getElem?_cons_zero]) <;> rfl) (by kernel_rfl) (by kernel_rfl) (by kernel_rfl) (fun _ _ _ h => h) (Or.inr ⟨by rfl, rfl⟩) (by assumption) ?_
                          (try simp only [Act.put, List.setIfInBounds_toArray, List.set_cons_zero, List.set_cons_succ])
                          refine wpAnyH_take (i := 17) (v := _) (by (simp only [List.getElem?_toArray, List.getElem?_cons_succ, List.getElem?_cons_zero]) <;> rfl) (by kernel_rfl) (by kernel_rfl) (by kernel_rfl) (fun _ _ _ h => h) (Or.inr ⟨by rfl, rfl⟩) (by assumption) ?_
                          (try simp only [Act.put, List.setIfInBounds_toArray, List.set_cons_zero, List.set_cons_succ])
                          refine wpAnyH_take (i := 18) (v := _) (by (simp only [List.getElem?_toArray, List.getElem?_cons_succ, List.getElem?_cons_zero]) <;> rfl) (by kernel_rfl) (by kernel_rfl) (by kernel_rfl) (fun _ _ _ h => h) (Or.inr ⟨by rfl, rfl⟩) (by assumption) ?_
                          (try simp only [Act.put, List.setIfInBounds_toArray, List.set_cons_zero, List.set_cons_succ])
                          refine wpAnyH_take (i := 19) (v := _) (by (simp only [List.getElem?_toArray, List.getElem?_cons_succ, List.getElem?_cons_zero]) <;> rfl) (by kernel_rfl) (by kernel_rfl) (by kernel_rfl) (fun _ _ _ h => h) (Or.inr ⟨by rfl, rfl⟩) (by assumption) ?_
                          (try simp only [Act.put, List.setIfInBounds_toArray, List.set_cons_zero, List.set_cons_succ])
                          refine wpAnyH_take (i := 20) (v := _) (by (simp only [List.getElem?_toArray, List.getElem?_cons_succ, List.getElem?_cons_zero]) <;> rfl) (by kernel_rfl) (by kernel_rfl) (by kernel_rfl) (fun _ _ _ h => h) (Or.inr ⟨by rfl, rfl⟩) (by assumption) ?_
                          (try simp only [Act.put, List.setIfInBounds_toArray, List.set_cons_zero, List.set_cons_succ])
                          refine wpAnyH_take (i := 21) (v := _) (by (simp only [List.getElem?_toArray, List.getElem?_cons_succ, List.getElem?_cons_zero]) <;> rfl) (by kernel_rfl) (by kernel_rfl) (by kernel_rfl) (fun _ _ _ h => h) (Or.inr ⟨by rfl, rfl⟩) (by assumption) ?_
                          (try simp only [Act.put, List.setIfInBounds_toArray, List.set_cons_zero, List.set_cons_succ])
                          refine wpAnyH_take (i := 22) (v := _) (by (simp only [List.getElem?_toArray, List.getElem?_cons_succ, List.getElem?_cons_zero]) <;> rfl) (by kernel_rfl) (by kernel_rfl) (by kernel_rfl) (fun _ _ _ h => h) (Or.inr ⟨by rfl, rfl⟩) (by assumption) ?_
                          (try simp only [Act.put, List.setIfInBounds_toArray, List.set_cons_zero, List.set_cons_succ])
                          refine wpAnyH_take (i := 23) (v := _) (by (simp only [List.getElem?_toArray, List.getElem?_cons_succ, List.getElem?_cons_zero]) <;> rfl) (by kernel_rfl) (by kernel_rfl) (by kernel_rfl) (fun _ _ _ h => h) (Or.inr ⟨by rfl, rfl⟩) (by assumption) ?_
                          (try simp only [Act.put, List.setIfInBounds_toArray, List.set_cons_zero, List.set_cons_succ])
                          refine wpAnyH_take (i := 24) (v := _) (by (simp only [List.getElem?_toArray, List.getElem?_cons_succ, List.getElem?_cons_zero]) <;> rfl) (by kernel_rfl) (by kernel_rfl) (by kernel_rfl) (fun _ _ _ h => h) (Or.inr ⟨by rfl, rfl⟩) (by assumption) ?_
                          (try simp only [Act.put, List.setIfInBounds_toArray, List.set_cons_zero, List.set_cons_succ])
                          refine wpAnyH_take (i := 25) (v := _) (by (simp only [List.getElem?_toArray, List.getElem?_cons_succ, List.getElem?_cons_zero]) <;> rfl) (by kernel_rfl) (by kernel_rfl) (by kernel_rfl) (fun _ _ _ h => h) (Or.inr ⟨by rfl, rfl⟩) (by assumption) ?_
                          (try simp only [Act.put, List.setIfInBounds_toArray, List.set_cons_zero, List.set_cons_succ])
                          refine wpAnyH_take (i := 26) (v := _) (by (simp only [List.getElem?_toArray, List.getElem?_cons_succ, List.getElem?_cons_zero]) <;> rfl) (by kernel_rfl) (by kernel_rfl) (by kernel_rfl) (fun _ _ _ h => h) (Or.inr ⟨by rfl, rfl⟩) (by assumption) ?_
                          (try simp only [Act.put, List.setIfInBounds_toArray, List.set_cons_zero, List.set_cons_succ])
                          refine wpAnyH_take (i := 27) (v := _) (by (simp only [List.getElem?_toArray, List.getElem?_cons_succ, List.getElem?_cons_zero]) <;> rfl) (by kernel_rfl) (by kernel_rfl) (by kernel_rfl) (fun _ _ _ h => h) (Or.inr ⟨by rfl, rfl⟩) (by assumption) ?_
                          (try simp only [Act.put, List.setIfInBounds_toArray, List.set_cons_zero, List.set_cons_succ])
                          refine wpAnyH_take (i := 28) (v := _) (by (simp only [List.getElem?_toArray, List.getElem?_cons_succ, List.getElem?_cons_zero]) <;> rfl) (by kernel_rfl) (by kernel_rfl) (by kernel_rfl) (fun _ _ _ h => h) (Or.inl ⟨by rfl, fun w hSw => by ((try dsimp only at hSw); go_simp) <;> with_reducible rfl⟩) (by assumption) ?_
                          (try simp only [Act.put, List.setIfInBounds_toArray, List.set_cons_zero, List.set_cons_succ])
                          refine wpAnyH_done (by kernel_rfl) ?_ _
                          refine NoPanic.normal ?_
                          (try have kc7 := KC7.1.out)
                          (try have kc6 := KC6.1.out)
                          (try have kc5 := KC5.1.out)
                          (try have kc4 := KC4.1.out)
                          (try have kc3 := KC3.1.out)
                          (try have kc2 := KC2.1.out)
                          (try have kc1 := KC1.1.out)
                          (try have jc5 := JC5.1.out)
                          (try have jc4 := JC4.1.out)
                          (try have jc3 := JC3.1.out)
                          (try have jc2 := JC2.1.out)
                          (try have jc1 := JC1.1.out)
                          (try clear KC1); (try clear KC2); (try clear KC3); (try clear KC4); (try clear KC5); (try clear KC6); (try clear KC7); (try clear JC1); (try clear JC2); (try clear JC3); (try clear JC4); (try clear JC5)
                          go_wp2_with fail
                          go_roundg (gk - 1)
                          case measure => omega
                          case rel => exact ⟨a + 1, by go_num, by have := HAA.out; omega, Lib.hid (Below.drew B.out), Lib.hid (Below.drew LL.out), Lib.hid (Below.drew YY.out)⟩
                  · have hkm : k < m := by omega
                    have hkI : (k : Int) < (m : Int) := by omega
                    have k0 : (0 : Int) ≤ (k : Int) := by omega
                    have hgk5 : 1 ≤ gk := by omega
                    have HKK := Lib.hid hk
                    obtain ⟨eb, eoff, rfl, heb, x0, x1, x2⟩ := (HTU.out.below LL.out).get k hkm
                    have hhv := fun W => rangeHas_any _ _ x (HTR.out k hkm) hx0 hx1 W
                    have hhd : hasAt tab k x = hasF (tab.getD k (0, 0, 0)).1 (tab.getD k (0, 0, 0)).2.1 x := rfl
                    obtain ⟨hv, hhv'⟩ : ∃ c, hasAt tab k x = c := ⟨_, rfl⟩
                    rw [← hhd, hhv'] at hhv
                    have HHV := Lib.hid hhv'
                    obtain ⟨ent, hent⟩ : ∃ e, tab.getD k (0, 0, 0) = e := ⟨_, rfl⟩
                    rw [hent] at x0 x1 x2 hhv
                    obtain ⟨ef, ebt, evi⟩ := ent
                    simp only at x0 x1 x2 hhv
                    have HHC := Lib.hid hhv
                    clear hk hg hhv hhd hhv' hent
                    cases hv
                    · go_wp2_with fail
                      (try (rename (∀ (a : Act) (w : World), Code.wp _ _ _ a w → _) => kc1; have KC1 := And.intro (Lib.hid kc1) trivial; clear kc1))
                      (try (rename (∀ (a : Act) (w : World), Code.wp _ _ _ a w → _) => kc2; have KC2 := And.intro (Lib.hid kc2) trivial; clear kc2))
                      (try (rename (∀ (a : Act) (w : World), Code.wp _ _ _ a w → _) => kc3; have KC3 := And.intro (Lib.hid kc3) trivial; clear kc3))
                      (try (rename (∀ (a : Act) (w : World), Code.wp _ _ _ a w → _) => kc4; have KC4 := And.intro (Lib.hid kc4) trivial; clear kc4))
                      (try (rename (∀ (a : Act) (w : World), Code.wp _ _ _ a w → _) => kc5; have KC5 := And.intro (Lib.hid kc5) trivial; clear kc5))
                      (try (rename (∀ (a : Act) (w : World), Code.wp _ _ _ a w → _) => kc6; have KC6 := And.intro (Lib.hid kc6) trivial; clear kc6))
                      (try (rename (∀ (a : Act) (w : World), Code.wp _ _ _ a w → _) => kc7; have KC7 := And.intro (Lib.hid kc7) trivial; clear kc7))
                      (try (rename (∀ (k : Nat) (a' : Act) (w' : World), _ → _) => jc1; have JC1 := And.intro (Lib.hid jc1) trivial; clear jc1))
                      (try (rename (∀ (k : Nat) (a' : Act) (w' : World), _ → _) => jc2; have JC2 := And.intro (Lib.hid jc2) trivial; clear jc2))
                      (try (rename (∀ (k : Nat) (a' : Act) (w' : World), _ → _) => jc3; have JC3 := And.intro (Lib.hid jc3) trivial; clear jc3))
                      (try (rename (∀ (k : Nat) (a' : Act) (w' : World), _ → _) => jc4; have JC4 := And.intro (Lib.hid jc4) trivial; clear jc4))
                      (try (rename (∀ (k : Nat) (a' : Act) (w' : World), _ → _) => jc5; have JC5 := And.intro (Lib.hid jc5) trivial; clear jc5))
                      refine wp_region_noPanic ?_
                      refine wp_region_held_drew (S := (fun W => W.cell? ⟨tb, toff + h, none⟩ = some (.slice (some ⟨eb, eoff, none⟩) m tuc) ∧ W.cell? ⟨eb, eoff + k * 3, none⟩ = some (.int .i64 ef) ∧ W.cell? ⟨eb, eoff + k * 3 + 1, none⟩ = some (.int .i64 ebt))) (by kernel_rfl) (by exact ⟨z0, x0, x1⟩) (fun hHeld => ?_)
                      refine wpAnyH_take (i := 0) (v := _) (by (simp only [List.getElem?_toArray, List.getElem?_cons_zero]) <;> rfl) (by kernel_rfl) (by kernel_rfl) (by kernel_rfl) (fun _ _ _ h => h) (Or.inl ⟨by rfl, fun w hSw => by ((try dsimp only at hSw); go_simp) <;> with_reducible rfl⟩) (by assumption) ?_
                      (try simp only [Act.put, List.setIfInBounds_toArray, List.set_cons_zero, List.set_cons_succ])
                      refine wpAnyH_take (i := 1) (v := _) (by (simp only [List.getElem?_toArray, List.getElem?_cons_succ, List.getElem?_cons_zero]) <;> rfl) (by kernel_rfl) (by kernel_rfl) (by kernel_rfl) (fun _ _ _ h => h) (Or.inl ⟨by rfl, fun w hSw => by ((try dsimp only at hSw); go_simp) <;> with_reducible rfl⟩) (by assumption) ?_
                      (try simp only [Act.put, List.setIfInBounds_toArray, List.set_cons_zero, List.set_cons_succ])
                      refine wpAnyH_take (i := 2) (v := _) (by (simp only [List.getElem?_toArray, List.getElem?_cons_succ, List.getElem?_cons_zero]) <;> rfl) (by kernel_rfl) (by kernel_rfl) (by kernel_rfl) (fun _ _ _ h => h) (Or.inl ⟨by rfl, fun w hSw => by ((try dsimp only at hSw); go_simp) <;> with_reducible rfl⟩) (by assumption) ?_
                      (try simp only [Act.put, List.setIfInBounds_toArray, List.set_cons_zero, List.set_cons_succ])
                      refine wpAnyH_take (i := 3) (v := _) (by (simp only [List.getElem?_toArray, List.getElem?_cons_succ, List.getElem?_cons_zero]) <;> rfl) (by kernel_rfl) (by kernel_rfl) (by kernel_rfl) (fun _ _ _ h => h) (Or.inl ⟨by rfl, fun w hSw => by ((try dsimp only at hSw); go_simp) <;> with_reducible rfl⟩) (by assumption) ?_
                      (try simp only [Act.put, List.setIfInBounds_toArray, List.set_cons_zero, List.set_cons_succ])
                      refine wpAnyH_take (i := 4) (v := _) (by (simp only [List.getElem?_toArray, List.getElem?_cons_succ, List.getElem?_cons_zero]) <;> rfl) (by kernel_rfl) (by kernel_rfl) (by kernel_rfl) (fun _ _ _ h => h) (Or.inl ⟨by rfl, fun w hSw => by ((try dsimp only at hSw); go_simp) <;> with_reducible rfl⟩) (by assumption) ?_
                      (try simp only [Act.put, List.setIfInBounds_toArray, List.set_cons_zero, List.set_cons_succ])
                      refine wpAnyH_take (i := 5) (v := _) (by (simp only [List.getElem?_toArray, List.getElem?_cons_succ, List.getElem?_cons_zero]) <;> rfl) (by kernel_rfl) (by kernel_rfl) (by kernel_rfl) (fun _ _ _ h => h) (Or.inl ⟨by rfl, fun w hSw => by ((try dsimp only at hSw); go_simp) <;> with_reducible rfl⟩) (by assumption) ?_
                      (try simp only [Act.put, List.setIfInBounds_toArray, List.set_cons_zero, List.set_cons_succ])
                      refine wpAnyH_take (i := 6) (v := _) (by (simp only [List.getElem?_toArray, List.getElem?_cons_succ, List.getElem?_cons_zero]) <;> rfl) (by kernel_rfl) (by kernel_rfl) (by kernel_rfl) (fun _ _ _ h => h) (Or.inl ⟨by rfl, fun w hSw => by ((try dsimp only at hSw); go_simp) <;> with_reducible rfl⟩) (by assumption) ?_
                      (try simp only [Act.put, List.setIfInBounds_toArray, List.set_cons_zero, List.set_cons_succ])
                      refine wpAnyH_take (i := 7) (v := _) (by (simp only [List.getElem?_toArray, List.getElem?_cons_succ, List.getElem?_cons_zero]) <;> rfl) (by kernel_rfl) (by kernel_rfl) (by kernel_rfl) (fun _ _ _ h => h) (Or.inl ⟨by rfl, fun w hSw => by ((try dsimp only at hSw); go_simp) <;> with_reducible rfl⟩) (by assumption) ?_
                      (try simp only [Act.put, List.setIfInBounds_toArray, List.set_cons_zero, List.set_cons_succ])
                      refine wpAnyH_take (i := 8) (v := _) (by (simp only [List.getElem?_toArray, List.getElem?_cons_succ, List.getElem?_cons_zero]) <;> rfl) (by kernel_rfl) (by kernel_rfl) (by kernel_rfl) (fun _ _ _ h => h) (Or.inl ⟨by rfl, fun w hSw => by ((try dsimp only at hSw); go_simp) <;> with_reducible rfl⟩) (by assumption) ?_
                      (try simp only [Act.put, List.setIfInBounds_toArray, List.set_cons_zero, List.set_cons_succ])
                      refine wpAnyH_take (i := 9) (v := _) (by (simp only [List.getElem?_toArray, List.getElem?_cons_succ, List.getElem?_cons_zero]) <;> rfl) (by kernel_rfl) (by kernel_rfl) (by kernel_rfl) (fun _ _ _ h => h) (Or.inl ⟨by rfl, fun w hSw => by ((try dsimp only at hSw); go_simp) <;> with_reducible rfl⟩) (by assumption) ?_
                      (try simp only [Act.put, List.setIfInBounds_toArray, List.set_cons_zero, List.set_cons_succ])
                      refine wpAnyH_ready (rs := [10]) (by kernel_rfl) (by simp) ?_
                      refine AllReadyH.cons (by (simp only [List.getElem?_toArray, List.getElem?_cons_succ, List.getElem?_cons_zero]) <;> rfl) (fun K hK => ?_) AllReadyH.nil
                      go_simp
                      (go_at_call 14; refine (HHC.out _).mono ?_; rintro e wx ⟨rfl, hbx⟩; have hby : Below wr.heap.size wr wx := (Below.drew (Below.refl _ _)).trans hbx; have Bx := Lib.hid (B.out.trans (hby.mono B.out.size)); have Lx := Lib.hid (LL.out.trans (hby.mono LL.out.size)); have Yx := Lib.hid (YY.out.trans (hby.mono YY.out.size)); have q0 := HZZ.out wx Lx.out; have q1 := (hby.cell (p := ⟨eb, eoff + k * 3, none⟩) heb).trans x0; have q2 := (hby.cell (p := ⟨eb, eoff + k * 3 + 1, none⟩) heb).trans x1; clear hbx hby)
                      refine hK.out _ _ (by exact ⟨q0, q1, q2⟩) (fun hHeld => ?_)
                      (try simp only [Act.put, List.setIfInBounds_toArray, List.set_cons_zero, List.set_cons_succ])
                      refine wpAnyH_take (i := 11) (v := _) (by (simp only [List.getElem?_toArray, List.getElem?_cons_succ, List.getElem?_cons_zero]) <;> rfl) (by kernel_rfl) (by kernel_rfl) (by kernel_rfl) (fun _ _ _ h => h) (Or.inl ⟨by rfl, fun w hSw => by ((try dsimp only at hSw); go_simp) <;> with_reducible rfl⟩) (by assumption) ?_
                      (try simp only [Act.put, List.setIfInBounds_toArray, List.set_cons_zero, List.set_cons_succ])
                      refine wpAnyH_take (i := 12) (v := _) (by (simp only [List.getElem?_toArray, List.getElem?_cons_succ, List.getElem?_cons_zero]) <;> rfl) (by kernel_rfl) (by kernel_rfl) (by kernel_rfl) (fun _ _ _ h => h) (Or.inr ⟨by rfl, rfl⟩) (by assumption) ?_
                      (try simp only [Act.put, List.setIfInBounds_toArray, List.set_cons_zero, List.set_cons_succ])
                      refine wpAnyH_take (i := 13) (v := _) (by (simp only [List.getElem?_toArray, List.getElem?_cons_succ, List.getElem?_cons_zero]) <;> rfl) (by kernel_rfl) (by kernel_rfl) (by kernel_rfl) (fun _ _ _ h => h) (Or.inr ⟨by rfl, rfl⟩) (by assumption) ?_
                      (try simp only [Act.put, List.setIfInBounds_toArray, List.set_cons_zero, List.set_cons_succ])
                      refine wpAnyH_take (i := 14) (v := _) (by (simp only [List.getElem?_toArray, List.getElem?_cons_succ, List.getElem?_cons_zero]) <;> rfl) (by kernel_rfl) (by kernel_rfl) (by kernel_rfl) (fun _ _ _ h => h) (Or.inr ⟨by rfl, rfl⟩) (by assumption) ?_
                      (try simp only [Act.put, List.setIfInBounds_toArray, List.set_cons_zero, List.set_cons_succ])
                      refine wpAnyH_take (i := 15) (v := _) (by (simp only [List.getElem?_toArray, List.getElem?_cons_succ, List.getElem?_cons_zero]) <;> rfl) (by kernel_rfl) (by kernel_rfl) (by kernel_rfl) (fun _ _ _ h => h) (Or.inr ⟨by rfl, rfl⟩) (by assumption) ?_
                      (try simp only [Act.put, List.setIfInBounds_toArray, List.set_cons_zero, List.set_cons_succ])
                      refine wpAnyH_take (i := 16) (v := _) (by (simp only [List.getElem?_toArray, List.getElem?_cons_succ, List.getElem?_cons_zero]) <;> rfl) (by kernel_rfl) (by kernel_rfl) (by kernel_rfl) (fun _ _ _ h => h) (Or.inr ⟨by rfl, rfl⟩) (by assumption) ?_
                      (try simp only [Act.put, List.setIfInBounds_toArray, List.set_cons_zero, List.set_cons_succ])
                      refine wpAnyH_take (i := 17) (v := _) (by (simp only [List.getElem?_toArray, List.getElem?_cons_succ, List.getElem?_cons_zero]) <;> rfl) (by kernel_rfl) (by kernel_rfl) (by kernel_rfl) (fun _ _ _ h => h) (Or.inr ⟨by rfl, rfl⟩) (by assumption) ?_
                      (try simp only [Act.put, List.setIfInBounds_toArray, List.set_cons_zero, List.set_cons_succ])
                      refine wpAnyH_take (i := 18) (v := _) (by (simp only [List.getElem?_toArray, List.getElem?_cons_succ, List.getElem?_cons_zero]) <;> rfl) (by kernel_rfl) (by kernel_rfl) (by kernel_rfl) (fun _ _ _ h => h) (Or.inr ⟨by rfl, rfl⟩) (by assumption) ?_
                      (try simp only [Act.put, List.setIfInBounds_toArray, List.set_cons_zero, List.set_cons_succ])
                      refine wpAnyH_take (i := 19) (v := _) (by (simp only [List.getElem?_toArray, List.getElem?_cons_succ, List.getElem?_cons_zero]) <;> rfl) (by kernel_rfl) (by kernel_rfl) (by kernel_rfl) (fun _ _ _ h => h) (Or.inr ⟨by rfl, rfl⟩) (by assumption) ?_
                      (try simp only [Act.put, List.setIfInBounds_toArray, List.set_cons_zero, List.set_cons_succ])
                      refine wpAnyH_take (i := 20) (v := _) (by (simp only [List.getElem?_toArray, List.getElem?_cons_succ, List.getElem?_cons_zero]) <;> rfl) (by kernel_rfl) (by kernel_rfl) (by kernel_rfl) (fun _ _ _ h => h) (Or.inr ⟨by rfl, rfl⟩) (by assumption) ?_
                      (try simp only [Act.put, List.setIfInBounds_toArray, List.set_cons_zero, List.set_cons_succ])
                      refine wpAnyH_take (i := 21) (v := _) (by (simp only [List.getElem?_toArray, List.getElem?_cons_succ, List.getElem?_cons_zero]) <;> rfl) (by kernel_rfl) (by kernel_rfl) (by kernel_rfl) (fun _ _ _ h => h) (Or.inr ⟨by rfl, rfl⟩) (by assumption) ?_
                      (try simp only [Act.put, List.setIfInBounds_toArray, List.set_cons_zero, List.set_cons_succ])
                      refine wpAnyH_take (i := 22) (v := _) (by (simp only [List.getElem?_toArray, List.getElem?_cons_succ, List.getElem?_cons_zero]) <;> rfl) (by kernel_rfl) (by kernel_rfl) (by kernel_rfl) (fun _ _ _ h => h) (Or.inr ⟨by rfl, rfl⟩) (by assumption) ?_
                      (try simp only [Act.put, List.setIfInBounds_toArray, List.set_cons_zero, List.set_cons_succ])
                      refine wpAnyH_take (i := 23) (v := _) (by (simp only [List.getElem?_toArray, List.getElem?_cons_succ, List.getElem?_cons_zero]) <;> rfl) (by kernel_rfl) (by kernel_rfl) (by kernel_rfl) (fun _ _ _ h => h) (Or.inr ⟨by rfl, rfl⟩) (by assumption) ?_
                      (try simp only [Act.put, List.setIfInBounds_toArray, List.set_cons_zero, List.set_cons_succ])
                      refine wpAnyH_take (i := 24) (v := _) (by (simp only [List.getElem?_toArray, List.getElem?_cons_succ, List.getElem?_cons_zero]) <;> rfl) (by kernel_rfl) (by kernel_rfl) (by kernel_rfl) (fun _ _ _ h => h) (Or.inr ⟨by rfl, rfl⟩) (by assumption) ?_
                      (try simp only [Act.put, List.setIfInBounds_toArray, List.set_cons_zero, List.set_cons_succ])
                      refine wpAnyH_take (i := 25) (v := _) (by (simp only [List.getElem?_toArray, List.getElem?_cons_succ, List.getElem?_cons_zero]) <;> rfl) (by kernel_rfl) (by kernel_rfl) (by kernel_rfl) (fun _ _ _ h => h) (Or.inr ⟨by rfl, rfl⟩) (by assumption) ?_
                      (try simp only [Act.put, List.setIfInBounds_toArray, List.set_cons_zero, List.set_cons_succ])
                      refine wpAnyH_take (i := 26) (v := _) (by (simp only [List.getElem?_toArray, List.getElem?_cons_succ, List.getElem?_cons_zero]) <;> rfl) (by kernel_rfl) (by kernel_rfl) (by kernel_rfl) (fun _ _ _ h => h) (Or.inr ⟨by rfl, rfl⟩) (by assumption) ?_
                      (try simp only [Act.put, List.setIfInBounds_toArray, List.set_cons_zero, List.set_cons_succ])
                      refine wpAnyH_take (i := 27) (v := _) (by (simp only [List.getElem?_toArray, List.getElem?_cons_succ, List.getElem?_cons_zero]) <;> rfl) (by kernel_rfl) (by kernel_rfl) (by kernel_rfl) (fun _ _ _ h => h) (Or.inr ⟨by rfl, rfl⟩) (by assumption) ?_
                      (try simp only [Act.put, List.setIfInBounds_toArray, List.set_cons_zero, List.set_cons_succ])
                      refine wpAnyH_take (i := 28) (v := _) (by (simp only [List.getElem?_toArray, List.getElem?_cons_succ, List.getElem?_cons_zero]) <;> rfl) (by kernel_rfl) (by kernel_rfl) (by kernel_rfl) (fun _ _ _ h => h) (Or.inr ⟨by rfl, rfl⟩) (by assumption) ?_
                      (try simp only [Act.put, List.setIfInBounds_toArray, List.set_cons_zero, List.set_cons_succ])
                      refine wpAnyH_take (i := 29) (v := _) (by (simp only [List.getElem?_toArray, List.getElem?_cons_succ, List.getElem?_cons_zero]) <;> rfl) (by kernel_rfl) (by kernel_rfl) (by kernel_rfl) (fun _ _ _ h => h) (Or.inr ⟨by rfl, rfl⟩) (by assumption) ?_
                      (try simp only [Act.put, List.setIfInBounds_toArray, List.set_cons_zero, List.set_cons_succ])
                      refine wpAnyH_take (i := 30) (v := _) (by (simp only [List.getElem?_toArray, List.getElem?_cons_succ, List.getElem?_cons_zero]) <;> rfl) (by kernel_rfl) (by kernel_rfl) (by kernel_rfl) (fun _ _ _ h => h) (Or.inr ⟨by rfl, rfl⟩) (by assumption) ?_
                      (try simp only [Act.put, List.setIfInBounds_toArray, List.set_cons_zero, List.set_cons_succ])
                      refine wpAnyH_take (i := 31) (v := _) (by (simp only [List.getElem?_toArray, List.getElem?_cons_succ, List.getElem?_cons_zero]) <;> rfl) (by kernel_rfl) (by kernel_rfl) (by kernel_rfl) (fun _ _ _ h => h) (Or.inr ⟨by rfl, rfl⟩) (by assumption) ?_
                      (try simp only [Act.put, List.setIfInBounds_toArray, List.set_cons_zero, List.set_cons_succ])
                      refine wpAnyH_take (i := 32) (v := _) (by (simp only [List.getElem?_toArray, List.getElem?_cons_succ, List.getElem?_cons_zero]) <;> rfl) (by kernel_rfl) (by kernel_rfl) (by kernel_rfl) (fun _ _ _ h => h) (Or.inr ⟨by rfl, rfl⟩) (by assumption) ?_
                      (try simp only [Act.put, List.setIfInBounds_toArray, List.set_cons_zero, List.set_cons_succ])
                      refine wpAnyH_take (i := 33) (v := _) (by (simp only [List.getElem?_toArray, List.getElem?_cons_succ, List.getElem?_cons_zero]) <;> rfl) (by kernel_rfl) (by kernel_rfl) (by kernel_rfl) (fun _ _ _ h => h) (Or.inr ⟨by rfl, rfl⟩) (by assumption) ?_
                      (try simp only [Act.put, List.setIfInBounds_toArray, List.set_cons_zero, List.set_cons_succ])
                      refine wpAnyH_take (i := 34) (v := _) (by (simp only [List.getElem?_toArray, List.getElem?_cons_succ, List.getElem?_cons_zero]) <;> rfl) (by kernel_rfl) (by kernel_rfl) (by kernel_rfl) (fun _ _ _ h => h) (Or.inr ⟨by rfl, rfl⟩) (by assumption) ?_
                      (try simp only [Act.put, List.setIfInBounds_toArray, List.set_cons_zero, List.set_cons_succ])
                      refine wpAnyH_take (i := 35) (v := _) (by (simp only [List.getElem?_toArray, List.getElem?_cons_succ, List.getElem?_cons_zero]) <;> rfl) (by kernel_rfl) (by kernel_rfl) (by kernel_rfl) (fun _ _ _ h => h) (Or.inr ⟨by rfl, rfl⟩) (by assumption) ?_
                      (try simp only [Act.put, List.setIfInBounds_toArray, List.set_cons_zero, List.set_cons_succ])
                      refine wpAnyH_take (i := 36) (v := _) (by (simp only [List.getElem?_toArray, List.getElem?_cons_succ, List.getElem?_cons_zero]) <;> rfl) (by kernel_rfl) (by kernel_rfl) (by kernel_rfl) (fun _ _ _ h => h) (Or.inr ⟨by rfl, rfl⟩) (by assumption) ?_
                      (try simp only [Act.put, List.setIfInBounds_toArray, List.set_cons_zero, List.set_cons_succ])
                      refine wpAnyH_take (i := 37) (v := _) (by (simp only [List.getElem?_toArray, List.getElem?_cons_succ, List.getElem?_cons_zero]) <;> rfl) (by kernel_rfl) (by kernel_rfl) (by kernel_rfl) (fun _ _ _ h => h) (Or.inl ⟨by rfl, fun w hSw => by ((try dsimp only at hSw); go_simp) <;> with_reducible rfl⟩) (by assumption) ?_
                      (try simp only [Act.put, List.setIfInBounds_toArray, List.set_cons_zero, List.set_cons_succ])
                      refine wpAnyH_done (by kernel_rfl) ?_ _
                      refine NoPanic.normal ?_
                      (try have kc7 := KC7.1.out)
                      (try have kc6 := KC6.1.out)
                      (try have kc5 := KC5.1.out)
                      (try have kc4 := KC4.1.out)
                      (try have kc3 := KC3.1.out)
                      (try have kc2 := KC2.1.out)
                      (try have kc1 := KC1.1.out)
                      (try have jc5 := JC5.1.out)
                      (try have jc4 := JC4.1.out)
                      (try have jc3 := JC3.1.out)
                      (try have jc2 := JC2.1.out)
                      (try have jc1 := JC1.1.out)
                      (try clear KC1); (try clear KC2); (try clear KC3); (try clear KC4); (try clear KC5); (try clear KC6); (try clear KC7); (try clear JC1); (try clear JC2); (try clear JC3); (try clear JC4); (try clear JC5)
                      go_wp2_with fail
                      go_roundg (gk - 1)
                      case measure => omega
                      case rel => exact ⟨k + 1, b, rfl, by go_num, by have := HKK.out; omega, Lib.hid (by
                        rcases HBE.out with ⟨h1, h2⟩ | ⟨q, h1, h2⟩
                        · exact .inl ⟨h1, fun q hq => by
                            by_cases hqk : q = k
                            · subst hqk; exact HHV.out
                            · exact h2 q (by omega)⟩
                        · exact .inr ⟨q, by omega, h2⟩), Bx, Lx, Yx⟩
                    · have hbest : BestTo tab x (k + 1) (k : Int) := .inr ⟨k, by omega, rfl, HHV.out⟩
                      have HBN := Lib.hid hbest
                      clear hbest
                      rcases HBE.out with ⟨rfl, _⟩ | ⟨bq, hbq, rfl, hbh⟩
                      · clear HBE
                        have hneg : decide ((-1 : Int) < 0) = true := by decide
                        go_wp2_with fail
                        (try (rename (∀ (a : Act) (w : World), Code.wp _ _ _ a w → _) => kc1; have KC1 := And.intro (Lib.hid kc1) trivial; clear kc1))
                        (try (rename (∀ (a : Act) (w : World), Code.wp _ _ _ a w → _) => kc2; have KC2 := And.intro (Lib.hid kc2) trivial; clear kc2))
                        (try (rename (∀ (a : Act) (w : World), Code.wp _ _ _ a w → _) => kc3; have KC3 := And.intro (Lib.hid kc3) trivial; clear kc3))
                        (try (rename (∀ (a : Act) (w : World), Code.wp _ _ _ a w → _) => kc4; have KC4 := And.intro (Lib.hid kc4) trivial; clear kc4))
                        (try (rename (∀ (a : Act) (w : World), Code.wp _ _ _ a w → _) => kc5; have KC5 := And.intro (Lib.hid kc5) trivial; clear kc5))
                        (try (rename (∀ (a : Act) (w : World), Code.wp _ _ _ a w → _) => kc6; have KC6 := And.intro (Lib.hid kc6) trivial; clear kc6))
                        (try (rename (∀ (a : Act) (w : World), Code.wp _ _ _ a w → _) => kc7; have KC7 := And.intro (Lib.hid kc7) trivial; clear kc7))
                        (try (rename (∀ (k : Nat) (a' : Act) (w' : World), _ → _) => jc1; have JC1 := And.intro (Lib.hid jc1) trivial; clear jc1))
                        (try (rename (∀ (k : Nat) (a' : Act) (w' : World), _ → _) => jc2; have JC2 := And.intro (Lib.hid jc2) trivial; clear jc2))
                        (try (rename (∀ (k : Nat) (a' : Act) (w' : World), _ → _) => jc3; have JC3 := And.intro (Lib.hid jc3) trivial; clear jc3))
                        (try (rename (∀ (k : Nat) (a' : Act) (w' : World), _ → _) => jc4; have JC4 := And.intro (Lib.hid jc4) trivial; clear jc4))
                        (try (rename (∀ (k : Nat) (a' : Act) (w' : World), _ → _) => jc5; have JC5 := And.intro (Lib.hid jc5) trivial; clear jc5))
                        refine wp_region_noPanic ?_
                        refine wp_region_held_drew (S := (fun W => W.cell? ⟨tb, toff + h, none⟩ = some (.slice (some ⟨eb, eoff, none⟩) m tuc) ∧ W.cell? ⟨eb, eoff + k * 3, none⟩ = some (.int .i64 ef) ∧ W.cell? ⟨eb, eoff + k * 3 + 1, none⟩ = some (.int .i64 ebt))) (by kernel_rfl) (by exact ⟨z0, x0, x1⟩) (fun hHeld => ?_)
                        refine wpAnyH_take (i := 0) (v := _) (by (simp only [List.getElem?_toArray, List.getElem?_cons_zero]) <;> rfl) (by kernel_rfl) (by kernel_rfl) (by kernel_rfl) (fun _ _ _ h => h) (Or.inl ⟨by rfl, fun w hSw => by ((try dsimp only at hSw); go_simp) <;> with_reducible rfl⟩) (by assumption) ?_
                        (try simp only [Act.put, List.setIfInBounds_toArray, List.set_cons_zero, List.set_cons_succ])
                        refine wpAnyH_take (i := 1) (v := _) (by (simp only [List.getElem?_toArray, List.getElem?_cons_succ, List.getElem?_cons_zero]) <;> rfl) (by kernel_rfl) (by kernel_rfl) (by kernel_rfl) (fun _ _ _ h => h) (Or.inl ⟨by rfl, fun w hSw => by ((try dsimp only at hSw); go_simp) <;> with_reducible rfl⟩) (by assumption) ?_
                        (try simp only [Act.put, List.setIfInBounds_toArray, List.set_cons_zero, List.set_cons_succ])
                        refine wpAnyH_take (i := 2) (v := _) (by (simp only [List.getElem?_toArray, List.getElem?_cons_succ, List.getElem?_cons_zero]) <;> rfl) (by kernel_rfl) (by kernel_rfl) (by kernel_rfl) (fun _ _ _ h => h) (Or.inl ⟨by rfl, fun w hSw => by ((try dsimp only at hSw); go_simp) <;> with_reducible rfl⟩) (by assumption) ?_
                        (try simp only [Act.put, List.setIfInBounds_toArray, List.set_cons_zero, List.set_cons_succ])
                        refine wpAnyH_take (i := 3) (v := _) (by (simp only [List.getElem?_toArray, List.getElem?_cons_succ, List.getElem?_cons_zero]) <;> rfl) (by kernel_rfl) (by kernel_rfl) (by kernel_rfl) (fun _ _ _ h => h) (Or.inl ⟨by rfl, fun w hSw => by ((try dsimp only at hSw); go_simp) <;> with_reducible rfl⟩) (by assumption) ?_
                        (try simp only [Act.put, List.setIfInBounds_toArray, List.set_cons_zero, List.set_cons_succ])
                        refine wpAnyH_take (i := 4) (v := _) (by (simp only [List.getElem?_toArray, List.getElem?_cons_succ, List.getElem?_cons_zero]) <;> rfl) (by kernel_rfl) (by kernel_rfl) (by kernel_rfl) (fun _ _ _ h => h) (Or.inl ⟨by rfl, fun w hSw => by ((try dsimp only at hSw); go_simp) <;> with_reducible rfl⟩) (by assumption) ?_
                        (try simp only [Act.put, List.setIfInBounds_toArray, List.set_cons_zero, List.set_cons_succ])
                        refine wpAnyH_take (i := 5) (v := _) (by (simp only [List.getElem?_toArray, List.getElem?_cons_succ, List.getElem?_cons_zero]) <;> rfl) (by kernel_rfl) (by kernel_rfl) (by kernel_rfl) (fun _ _ _ h => h) (Or.inl ⟨by rfl, fun w hSw => by ((try dsimp only at hSw); go_simp) <;> with_reducible rfl⟩) (by assumption) ?_
                        (try simp only [Act.put, List.setIfInBounds_toArray, List.set_cons_zero, List.set_cons_succ])
                        refine wpAnyH_take (i := 6) (v := _) (by (simp only [List.getElem?_toArray, List.getElem?_cons_succ, List.getElem?_cons_zero]) <;> rfl) (by kernel_rfl) (by kernel_rfl) (by kernel_rfl) (fun _ _ _ h => h) (Or.inl ⟨by rfl, fun w hSw => by ((try dsimp only at hSw); go_simp) <;> with_reducible rfl⟩) (by assumption) ?_
                        (try simp only [Act.put, List.setIfInBounds_toArray, List.set_cons_zero, List.set_cons_succ])
                        refine wpAnyH_take (i := 7) (v := _) (by (simp only [List.getElem?_toArray, List.getElem?_cons_succ, List.getElem?_cons_zero]) <;> rfl) (by kernel_rfl) (by kernel_rfl) (by kernel_rfl) (fun _ _ _ h => h) (Or.inl ⟨by rfl, fun w hSw => by ((try dsimp only at hSw); go_simp) <;> with_reducible rfl⟩) (by assumption) ?_
                        (try simp only [Act.put, List.setIfInBounds_toArray, List.set_cons_zero, List.set_cons_succ])
                        refine wpAnyH_take (i := 8) (v := _) (by (simp only [List.getElem?_toArray, List.getElem?_cons_succ, List.getElem?_cons_zero]) <;> rfl) (by kernel_rfl) (by kernel_rfl) (by kernel_rfl) (fun _ _ _ h => h) (Or.inl ⟨by rfl, fun w hSw => by ((try dsimp only at hSw); go_simp) <;> with_reducible rfl⟩) (by assumption) ?_
                        (try simp only [Act.put, List.setIfInBounds_toArray, List.set_cons_zero, List.set_cons_succ])
                        refine wpAnyH_take (i := 9) (v := _) (by (simp only [List.getElem?_toArray, List.getElem?_cons_succ, List.getElem?_cons_zero]) <;> rfl) (by kernel_rfl) (by kernel_rfl) (by kernel_rfl) (fun _ _ _ h => h) (Or.inl ⟨by rfl, fun w hSw => by ((try dsimp only at hSw); go_simp) <;> with_reducible rfl⟩) (by assumption) ?_
                        (try simp only [Act.put, List.setIfInBounds_toArray, List.set_cons_zero, List.set_cons_succ])
                        refine wpAnyH_ready (rs := [10]) (by kernel_rfl) (by simp) ?_
                        refine AllReadyH.cons (by (simp only [List.getElem?_toArray, List.getElem?_cons_succ, List.getElem?_cons_zero]) <;> rfl) (fun K hK => ?_) AllReadyH.nil
                        go_simp
                        (go_at_call 14; refine (HHC.out _).mono ?_; rintro e wx ⟨rfl, hbx⟩; have hby : Below wr.heap.size wr wx := (Below.drew (Below.refl _ _)).trans hbx; have Bx := Lib.hid (B.out.trans (hby.mono B.out.size)); have Lx := Lib.hid (LL.out.trans (hby.mono LL.out.size)); have Yx := Lib.hid (YY.out.trans (hby.mono YY.out.size)); have q0 := HZZ.out wx Lx.out; have q1 := (hby.cell (p := ⟨eb, eoff + k * 3, none⟩) heb).trans x0; have q2 := (hby.cell (p := ⟨eb, eoff + k * 3 + 1, none⟩) heb).trans x1; clear hbx hby)
                        refine hK.out _ _ (by exact ⟨q0, q1, q2⟩) (fun hHeld => ?_)
                        (try simp only [Act.put, List.setIfInBounds_toArray, List.set_cons_zero, List.set_cons_succ])
                        refine wpAnyH_take (i := 11) (v := _) (by (simp only [List.getElem?_toArray, List.getElem?_cons_succ, List.getElem?_cons_zero]) <;> rfl) (by kernel_rfl) (by kernel_rfl) (by kernel_rfl) (fun _ _ _ h => h) (Or.inl ⟨by rfl, fun w hSw => by ((try dsimp only at hSw); go_simp) <;> with_reducible rfl⟩) (by assumption) ?_
                        (try simp only [Act.put, List.setIfInBounds_toArray, List.set_cons_zero, List.set_cons_succ])
                        refine wpAnyH_take (i := 12) (v := _) (by (simp only [List.getElem?_toArray, List.getElem?_cons_succ, List.getElem?_cons_zero]) <;> rfl) (by kernel_rfl) (by kernel_rfl) (by kernel_rfl) (fun _ _ _ h => h) (Or.inl ⟨by rfl, fun w hSw => by ((try dsimp only at hSw); go_simp) <;> with_reducible rfl⟩) (by assumption) ?_
                        (try simp only [Act.put, List.setIfInBounds_toArray, List.set_cons_zero, List.set_cons_succ])
                        refine wpAnyH_take (i := 13) (v := _) (by (simp only [List.getElem?_toArray, List.getElem?_cons_succ, List.getElem?_cons_zero]) <;> rfl) (by kernel_rfl) (by kernel_rfl) (by kernel_rfl) (fun _ _ _ h => h) (Or.inl ⟨by rfl, fun w hSw => by ((try dsimp only at hSw); go_simp) <;> with_reducible rfl⟩) (by assumption) ?_
                        (try simp only [Act.put, List.setIfInBounds_toArray, List.set_cons_zero, List.set_cons_succ])
                        refine wpAnyH_take (i := 14) (v := _) (by (simp only [List.getElem?_toArray, List.getElem?_cons_succ, List.getElem?_cons_zero]) <;> rfl) (by kernel_rfl) (by kernel_rfl) (by kernel_rfl) (fun _ _ _ h => h) (Or.inl ⟨by rfl, fun w hSw => by ((try dsimp only at hSw); go_simp) <;> with_reducible rfl⟩) (by assumption) ?_
                        (try simp only [Act.put, List.setIfInBounds_toArray, List.set_cons_zero, List.set_cons_succ])
                        refine wpAnyH_take (i := 15) (v := _) (by (simp only [List.getElem?_toArray, List.getElem?_cons_succ, List.getElem?_cons_zero]) <;> rfl) (by kernel_rfl) (by kernel_rfl) (by kernel_rfl) (fun _ _ _ h => h) (Or.inr ⟨by rfl, rfl⟩) (by assumption) ?_
                        (try simp only [Act.put, List.setIfInBounds_toArray, List.set_cons_zero, List.set_cons_succ])
                        refine wpAnyH_take (i := 16) (v := _) (by (simp only [List.getElem?_toArray, List.getElem?_cons_succ, List.getElem?_cons_zero]) <;> rfl) (by kernel_rfl) (by kernel_rfl) (by kernel_rfl) (fun _ _ _ h => h) (Or.inr ⟨by rfl, rfl⟩) (by assumption) ?_
                        (try simp only [Act.put, List.setIfInBounds_toArray, List.set_cons_zero, List.set_cons_succ])
                        refine wpAnyH_take (i := 17) (v := _) (by (simp only [List.getElem?_toArray, List.getElem?_cons_succ, List.getElem?_cons_zero]) <;> rfl) (by kernel_rfl) (by kernel_rfl) (by kernel_rfl) (fun _ _ _ h => h) (Or.inr ⟨by rfl, rfl⟩) (by assumption) ?_
                        (try simp only [Act.put, List.setIfInBounds_toArray, List.set_cons_zero, List.set_cons_succ])
                        refine wpAnyH_take (i := 18) (v := _) (by (simp only [List.getElem?_toArray, List.getElem?_cons_succ, List.getElem?_cons_zero]) <;> rfl) (by kernel_rfl) (by kernel_rfl) (by kernel_rfl) (fun _ _ _ h => h) (Or.inr ⟨by rfl, rfl⟩) (by assumption) ?_
                        (try simp only [Act.put, List.setIfInBounds_toArray, List.set_cons_zero, List.set_cons_succ])
                        refine wpAnyH_take (i := 19) (v := _) (by (simp only [List.getElem?_toArray, List.getElem?_cons_succ, List.getElem?_cons_zero]) <;> rfl) (by kernel_rfl) (by kernel_rfl) (by kernel_rfl) (fun _ _ _ h => h) (Or.inr ⟨by rfl, rfl⟩) (by assumption) ?_
                        (try simp only [Act.put, List.setIfInBounds_toArray, List.set_cons_zero, List.set_cons_succ])
                        refine wpAnyH_take (i := 20) (v := _) (by (simp only [List.getElem?_toArray, List.getElem?_cons_succ, List.getElem?_cons_zero]) <;> rfl) (by kernel_rfl) (by kernel_rfl) (by kernel_rfl) (fun _ _ _ h => h) (Or.inr ⟨by rfl, rfl⟩) (by assumption) ?_
                        (try simp only [Act.put, List.setIfInBounds_toArray, List.set_cons_zero, List.set_cons_succ])
                        refine wpAnyH_take (i := 21) (v := _) (by (simp only [List.getElem?_toArray, List.getElem?_cons_succ, List.getElem?_cons_zero]) <;> rfl) (by kernel_rfl) (by kernel_rfl) (by kernel_rfl) (fun _ _ _ h => h) (Or.inr ⟨by rfl, rfl⟩) (by assumption) ?_
                        (try simp only [Act.put, List.setIfInBounds_toArray, List.set_cons_zero, List.set_cons_succ])
                        refine wpAnyH_take (i := 22) (v := _) (by (simp only [List.getElem?_toArray, List.getElem?_cons_succ, List.getElem?_cons_zero]) <;> rfl) (by kernel_rfl) (by kernel_rfl) (by kernel_rfl) (fun _ _ _ h => h) (Or.inr ⟨by rfl, rfl⟩) (by assumption) ?_
                        (try simp only [Act.put, List.setIfInBounds_toArray, List.set_cons_zero, List.set_cons_succ])
                        refine wpAnyH_take (i := 23) (v := _) (by (simp only [List.getElem?_toArray, List.getElem?_cons_succ, List.getElem?_cons_zero]) <;> rfl) (by kernel_rfl) (by kernel_rfl) (by kernel_rfl) (fun _ _ _ h => h) (Or.inr ⟨by rfl, rfl⟩) (by assumption) ?_
                        (try simp only [Act.put, List.setIfInBounds_toArray, List.set_cons_zero, List.set_cons_succ])
                        refine wpAnyH_take (i := 24) (v := _) (by (simp only [List.getElem?_toArray, List.getElem?_cons_succ, List.getElem?_cons_zero]) <;> rfl) (by kernel_rfl) (by kernel_rfl) (by kernel_rfl) (fun _ _ _ h => h) (Or.inr ⟨by rfl, rfl⟩) (by assumption) ?_
                        (try simp only [Act.put, List.setIfInBounds_toArray, List.set_cons_zero, List.set_cons_succ])
                        refine wpAnyH_take (i := 25) (v := _) (by (simp only [List.getElem?_toArray, List.getElem?_cons_succ, List.getElem?_cons_zero]) <;> rfl) (by kernel_rfl) (by kernel_rfl) (by kernel_rfl) (fun _ _ _ h => h) (Or.inr ⟨by rfl, rfl⟩) (by assumption) ?_
                        (try simp only [Act.put, List.setIfInBounds_toArray, List.set_cons_zero, List.set_cons_succ])
                        refine wpAnyH_take (i := 26) (v := _) (by (simp only [List.getElem?_toArray, List.getElem?_cons_succ, List.getElem?_cons_zero]) <;> rfl) (by kernel_rfl) (by kernel_rfl) (by kernel_rfl) (fun _ _ _ h => h) (Or.inr ⟨by rfl, rfl⟩) (by assumption) ?_
                        (try simp only [Act.put, List.setIfInBounds_toArray, List.set_cons_zero, List.set_cons_succ])
                        refine wpAnyH_take (i := 27) (v := _) (by (simp only [List.getElem?_toArray, List.getElem?_cons_succ, List.getElem?_cons_zero]) <;> rfl) (by kernel_rfl) (by kernel_rfl) (by kernel_rfl) (fun _ _ _ h => h) (Or.inr ⟨by rfl, rfl⟩) (by assumption) ?_
                        (try simp only [Act.put, List.setIfInBounds_toArray, List.set_cons_zero, List.set_cons_succ])
                        refine wpAnyH_take (i := 28) (v := _) (by (simp only [List.getElem?_toArray, List.getElem?_cons_succ, List.getElem?_cons_zero]) <;> rfl) (by kernel_rfl) (by kernel_rfl) (by kernel_rfl) (fun _ _ _ h => h) (Or.inr ⟨by rfl, rfl⟩) (by assumption) ?_
                        (try simp only [Act.put, List.setIfInBounds_toArray, List.set_cons_zero, List.set_cons_succ])
                        refine wpAnyH_take (i := 29) (v := _) (by (simp only [List.getElem?_toArray, List.getElem?_cons_succ, List.getElem?_cons_zero]) <;> rfl) (by kernel_rfl) (by kernel_rfl) (by kernel_rfl) (fun _ _ _ h => h) (Or.inr ⟨by rfl, rfl⟩) (by assumption) ?_
                        (try simp only [Act.put, List.setIfInBounds_toArray, List.set_cons_zero, List.set_cons_succ])
                        refine wpAnyH_take (i := 30) (v := _) (by (simp only [List.getElem?_toArray, List.getElem?_cons_succ, List.getElem?_cons_zero]) <;> rfl) (by kernel_rfl) (by kernel_rfl) (by kernel_rfl) (fun _ _ _ h => h) (Or.inr ⟨by rfl, rfl⟩) (by assumption) ?_
                        (try simp only [Act.put, List.setIfInBounds_toArray, List.set_cons_zero, List.set_cons_succ])
                        refine wpAnyH_take (i := 31) (v := _) (by (simp only [List.getElem?_toArray, List.getElem?_cons_succ, List.getElem?_cons_zero]) <;> rfl) (by kernel_rfl) (by kernel_rfl) (by kernel_rfl) (fun _ _ _ h => h) (Or.inr ⟨by rfl, rfl⟩) (by assumption) ?_
                        (try simp only [Act.put, List.setIfInBounds_toArray, List.set_cons_zero, List.set_cons_succ])
                        refine wpAnyH_take (i := 32) (v := _) (by (simp only [List.getElem?_toArray, List.getElem?_cons_succ, List.getElem?_cons_zero]) <;> rfl) (by kernel_rfl) (by kernel_rfl) (by kernel_rfl) (fun _ _ _ h => h) (Or.inr ⟨by rfl, rfl⟩) (by assumption) ?_
                        (try simp only [Act.put, List.setIfInBounds_toArray, List.set_cons_zero, List.set_cons_succ])
                        refine wpAnyH_take (i := 33) (v := _) (by (simp only [List.getElem?_toArray, List.getElem?_cons_succ, List.getElem?_cons_zero]) <;> rfl) (by kernel_rfl) (by kernel_rfl) (by kernel_rfl) (fun _ _ _ h => h) (Or.inr ⟨by rfl, rfl⟩) (by assumption) ?_
                        (try simp only [Act.put, List.setIfInBounds_toArray, List.set_cons_zero, List.set_cons_succ])
                        refine wpAnyH_take (i := 34) (v := _) (by (simp only [List.getElem?_toArray, List.getElem?_cons_succ, List.getElem?_cons_zero]) <;> rfl) (by kernel_rfl) (by kernel_rfl) (by kernel_rfl) (fun _ _ _ h => h) (Or.inr ⟨by rfl, rfl⟩) (by assumption) ?_
                        (try simp only [Act.put, List.setIfInBounds_toArray, List.set_cons_zero, List.set_cons_succ])
                        refine wpAnyH_take (i := 35) (v := _) (by (simp only [List.getElem?_toArray, List.getElem?_cons_succ, List.getElem?_cons_zero]) <;> rfl) (by kernel_rfl) (by kernel_rfl) (by kernel_rfl) (fun _ _ _ h => h) (Or.inr ⟨by rfl, rfl⟩) (by assumption) ?_
                        (try simp only [Act.put, List.setIfInBounds_toArray, List.set_cons_zero, List.set_cons_succ])
                        refine wpAnyH_take (i := 36) (v := _) (by (simp only [List.getElem?_toArray, List.getElem?_cons_succ, List.getElem?_cons_zero]) <;> rfl) (by kernel_rfl) (by kernel_rfl) (by kernel_rfl) (fun _ _ _ h => h) (Or.inl ⟨by rfl, fun w hSw => by ((try dsimp only at hSw); go_simp) <;> with_reducible rfl⟩) (by assumption) ?_
                        (try simp only [Act.put, List.setIfInBounds_toArray, List.set_cons_zero, List.set_cons_succ])
                        refine wpAnyH_take (i := 37) (v := _) (by (simp only [List.getElem?_toArray, List.getElem?_cons_succ, List.getElem?_cons_zero]) <;> rfl) (by kernel_rfl) (by kernel_rfl) (by kernel_rfl) (fun _ _ _ h => h) (Or.inl ⟨by rfl, fun w hSw => by ((try dsimp only at hSw); go_simp) <;> with_reducible rfl⟩) (by assumption) ?_
                        (try simp only [Act.put, List.setIfInBounds_toArray, List.set_cons_zero, List.set_cons_succ])
                        refine wpAnyH_done (by kernel_rfl) ?_ _
                        refine NoPanic.normal ?_
                        (try have kc7 := KC7.1.out)
                        (try have kc6 := KC6.1.out)
                        (try have kc5 := KC5.1.out)
                        (try have kc4 := KC4.1.out)
                        (try have kc3 := KC3.1.out)
                        (try have kc2 := KC2.1.out)
                        (try have kc1 := KC1.1.out)
                        (try have jc5 := JC5.1.out)
                        (try have jc4 := JC4.1.out)
                        (try have jc3 := JC3.1.out)
                        (try have jc2 := JC2.1.out)
                        (try have jc1 := JC1.1.out)
                        (try clear KC1); (try clear KC2); (try clear KC3); (try clear KC4); (try clear KC5); (try clear KC6); (try clear KC7); (try clear JC1); (try clear JC2); (try clear JC3); (try clear JC4); (try clear JC5)
                        go_wp2_with fail
                        go_roundg (gk - 1)
                        case measure => omega
                        case rel => exact ⟨k + 1, (k : Int), rfl, by go_num, by have := HKK.out; omega, HBN, Bx, Lx, Yx⟩
                      · have hbm : bq < m := by omega
                        have hbqI : (bq : Int) < (m : Int) := by omega
                        have bq0 : (0 : Int) ≤ (bq : Int) := by omega
                        have hneg : decide ((bq : Int) < 0) = false := decide_eq_false (by omega)
                        obtain ⟨eb2, eoff2, e, _, p0, p1, p2⟩ := (HTU.out.below LL.out).get bq hbm
                        cases e
                        obtain ⟨bbt, hbbt⟩ : ∃ v, (tab.getD bq (0, 0, 0)).2.1 = v := ⟨_, rfl⟩
                        rw [hbbt] at p1
                        have HBO : Hid (BestTo tab x (k + 1) (bq : Int)) := Lib.hid (.inr ⟨bq, by omega, rfl, hbh⟩)
                        clear p0 p2 hbbt hbh HBE
                        by_cases hgt : bbt < ebt
                        · have hgtd : decide (bbt < ebt) = true := decide_eq_true hgt
                          clear hgt
                          go_wp2_with fail
                          (try (rename (∀ (a : Act) (w : World), Code.wp _ _ _ a w → _) => kc1; have KC1 := And.intro (Lib.hid kc1) trivial; clear kc1))
                          (try (rename (∀ (a : Act) (w : World), Code.wp _ _ _ a w → _) => kc2; have KC2 := And.intro (Lib.hid kc2) trivial; clear kc2))
                          (try (rename (∀ (a : Act) (w : World), Code.wp _ _ _ a w → _) => kc3; have KC3 := And.intro (Lib.hid kc3) trivial; clear kc3))
                          (try (rename (∀ (a : Act) (w : World), Code.wp _ _ _ a w → _) => kc4; have KC4 := And.intro (Lib.hid kc4) trivial; clear kc4))
                          (try (rename (∀ (a : Act) (w : World), Code.wp _ _ _ a w → _) => kc5; have KC5 := And.intro (Lib.hid kc5) trivial; clear kc5))
                          (try (rename (∀ (a : Act) (w : World), Code.wp _ _ _ a w → _) => kc6; have KC6 := And.intro (Lib.hid kc6) trivial; clear kc6))
                          (try (rename (∀ (a : Act) (w : World), Code.wp _ _ _ a w → _) => kc7; have KC7 := And.intro (Lib.hid kc7) trivial; clear kc7))
                          (try (rename (∀ (k : Nat) (a' : Act) (w' : World), _ → _) => jc1; have JC1 := And.intro (Lib.hid jc1) trivial; clear jc1))
                          (try (rename (∀ (k : Nat) (a' : Act) (w' : World), _ → _) => jc2; have JC2 := And.intro (Lib.hid jc2) trivial; clear jc2))
                          (try (rename (∀ (k : Nat) (a' : Act) (w' : World), _ → _) => jc3; have JC3 := And.intro (Lib.hid jc3) trivial; clear jc3))
                          (try (rename (∀ (k : Nat) (a' : Act) (w' : World), _ → _) => jc4; have JC4 := And.intro (Lib.hid jc4) trivial; clear jc4))
                          (try (rename (∀ (k : Nat) (a' : Act) (w' : World), _ → _) => jc5; have JC5 := And.intro (Lib.hid jc5) trivial; clear jc5))
                          refine wp_region_noPanic ?_
                          refine wp_region_held_drew (S := (fun W => W.cell? ⟨tb, toff + h, none⟩ = some (.slice (some ⟨eb, eoff, none⟩) m tuc) ∧ W.cell? ⟨eb, eoff + k * 3, none⟩ = some (.int .i64 ef) ∧ W.cell? ⟨eb, eoff + k * 3 + 1, none⟩ = some (.int .i64 ebt) ∧ W.cell? ⟨eb, eoff + bq * 3 + 1, none⟩ = some (.int .i64 bbt))) (by kernel_rfl) (by exact ⟨z0, x0, x1, p1⟩) (fun hHeld => ?_)
                          refine wpAnyH_take (i := 0) (v := _) (by (simp only [List.getElem?_toArray, List.getElem?_cons_zero]) <;> rfl) (by kernel_rfl) (by kernel_rfl) (by kernel_rfl) (fun _ _ _ h => h) (Or.inl ⟨by rfl, fun w hSw => by ((try dsimp only at hSw); go_simp) <;> with_reducible rfl⟩) (by assumption) ?_
                          (try simp only [Act.put, List.setIfInBounds_toArray, List.set_cons_zero, List.set_cons_succ])
                          refine wpAnyH_take (i := 1) (v := _) (by (simp only [List.getElem?_toArray, List.getElem?_cons_succ, List.getElem?_cons_zero]) <;> rfl) (by kernel_rfl) (by kernel_rfl) (by kernel_rfl) (fun _ _ _ h => h) (Or.inl ⟨by rfl, fun w hSw => by ((try dsimp only at hSw); go_simp) <;> with_reducible rfl⟩) (by assumption) ?_
                          (try simp only [Act.put, List.setIfInBounds_toArray, List.set_cons_zero, List.set_cons_succ])
                          refine wpAnyH_take (i := 2) (v := _) (by (simp only [List.getElem?_toArray, List.getElem?_cons_succ, List.getElem?_cons_zero]) <;> rfl) (by kernel_rfl) (by kernel_rfl) (by kernel_rfl) (fun _ _ _ h => h) (Or.inl ⟨by rfl, fun w hSw => by ((try dsimp only at hSw); go_simp) <;> with_reducible rfl⟩) (by assumption) ?_
                          (try simp only [Act.put, List.setIfInBounds_toArray, List.set_cons_zero, List.set_cons_succ])
                          refine wpAnyH_take (i := 3) (v := _) (by (simp only [List.getElem?_toArray, List.getElem?_cons_succ, List.getElem?_cons_zero]) <;> rfl) (by kernel_rfl) (by kernel_rfl) (by kernel_rfl) (fun _ _ _ h => h) (Or.inl ⟨by rfl, fun w hSw => by ((try dsimp only at hSw); go_simp) <;> with_reducible rfl⟩) (by assumption) ?_
                          (try simp only [Act.put, List.setIfInBounds_toArray, List.set_cons_zero, List.set_cons_succ])
                          refine wpAnyH_take (i := 4) (v := _) (by (simp only [List.getElem?_toArray, List.getElem?_cons_succ, List.getElem?_cons_zero]) <;> rfl) (by kernel_rfl) (by kernel_rfl) (by kernel_rfl) (fun _ _ _ h => h) (Or.inl ⟨by rfl, fun w hSw => by ((try dsimp only at hSw); go_simp) <;> with_reducible rfl⟩) (by assumption) ?_
                          (try simp only [Act.put, List.setIfInBounds_toArray, List.set_cons_zero, List.set_cons_succ])
                          refine wpAnyH_take (i := 5) (v := _) (by (simp only [List.getElem?_toArray, List.getElem?_cons_succ, List.getElem?_cons_zero]) <;> rfl) (by kernel_rfl) (by kernel_rfl) (by kernel_rfl) (fun _ _ _ h => h) (Or.inl ⟨by rfl, fun w hSw => by ((try dsimp only at hSw); go_simp) <;> with_reducible rfl⟩) (by assumption) ?_
                          (try simp only [Act.put, List.setIfInBounds_toArray, List.set_cons_zero, List.set_cons_succ])
                          refine wpAnyH_take (i := 6) (v := _) (by (simp only [List.getElem?_toArray, List.getElem?_cons_succ, List.getElem?_cons_zero]) <;> rfl) (by kernel_rfl) (by kernel_rfl) (by kernel_rfl) (fun _ _ _ h => h) (Or.inl ⟨by rfl, fun w hSw => by ((try dsimp only at hSw); go_simp) <;> with_reducible rfl⟩) (by assumption) ?_
                          (try simp only [Act.put, List.setIfInBounds_toArray, List.set_cons_zero, List.set_cons_succ])
                          refine wpAnyH_take (i := 7) (v := _) (by (simp only [List.getElem?_toArray, List.getElem?_cons_succ, List.getElem?_cons_zero]) <;> rfl) (by kernel_rfl) (by kernel_rfl) (by kernel_rfl) (fun _ _ _ h => h) (Or.inl ⟨by rfl, fun w hSw => by ((try dsimp only at hSw); go_simp) <;> with_reducible rfl⟩) (by assumption) ?_
                          (try simp only [Act.put, List.setIfInBounds_toArray, List.set_cons_zero, List.set_cons_succ])
                          refine wpAnyH_take (i := 8) (v := _) (by (simp only [List.getElem?_toArray, List.getElem?_cons_succ, List.getElem?_cons_zero]) <;> rfl) (by kernel_rfl) (by kernel_rfl) (by kernel_rfl) (fun _ _ _ h => h) (Or.inl ⟨by rfl, fun w hSw => by ((try dsimp only at hSw); go_simp) <;> with_reducible rfl⟩) (by assumption) ?_
                          (try simp only [Act.put, List.setIfInBounds_toArray, List.set_cons_zero, List.set_cons_succ])
                          refine wpAnyH_take (i := 9) (v := _) (by (simp only [List.getElem?_toArray, List.getElem?_cons_succ, List.getElem?_cons_zero]) <;> rfl) (by kernel_rfl) (by kernel_rfl) (by kernel_rfl) (fun _ _ _ h => h) (Or.inl ⟨by rfl, fun w hSw => by ((try dsimp only at hSw); go_simp) <;> with_reducible rfl⟩) (by assumption) ?_
                          (try simp only [Act.put, List.setIfInBounds_toArray, List.set_cons_zero, List.set_cons_succ])
                          refine wpAnyH_ready (rs := [10]) (by kernel_rfl) (by simp) ?_
                          refine AllReadyH.cons (by (simp only [List.getElem?_toArray, List.getElem?_cons_succ, List.getElem?_cons_zero]) <;> rfl) (fun K hK => ?_) AllReadyH.nil
                          go_simp
                          (go_at_call 14; refine (HHC.out _).mono ?_; rintro e wx ⟨rfl, hbx⟩; have hby : Below wr.heap.size wr wx := (Below.drew (Below.refl _ _)).trans hbx; have Bx := Lib.hid (B.out.trans (hby.mono B.out.size)); have Lx := Lib.hid (LL.out.trans (hby.mono LL.out.size)); have Yx := Lib.hid (YY.out.trans (hby.mono YY.out.size)); have q0 := HZZ.out wx Lx.out; have q1 := (hby.cell (p := ⟨eb, eoff + k * 3, none⟩) heb).trans x0; have q2 := (hby.cell (p := ⟨eb, eoff + k * 3 + 1, none⟩) heb).trans x1; have q3 := (hby.cell (p := ⟨eb, eoff + bq * 3 + 1, none⟩) heb).trans p1; clear hbx hby)
                          refine hK.out _ _ (by exact ⟨q0, q1, q2, q3⟩) (fun hHeld => ?_)
                          (try simp only [Act.put, List.setIfInBounds_toArray, List.set_cons_zero, List.set_cons_succ])
                          refine wpAnyH_take (i := 11) (v := _) (by (simp only [List.getElem?_toArray, List.getElem?_cons_succ, List.getElem?_cons_zero]) <;> rfl) (by kernel_rfl) (by kernel_rfl) (by kernel_rfl) (fun _ _ _ h => h) (Or.inl ⟨by rfl, fun w hSw => by ((try dsimp only at hSw); go_simp) <;> with_reducible rfl⟩) (by assumption) ?_
                          (try simp only [Act.put, List.setIfInBounds_toArray, List.set_cons_zero, List.set_cons_succ])
                          refine wpAnyH_take (i := 12) (v := _) (by (simp only [List.getElem?_toArray, List.getElem?_cons_succ, List.getElem?_cons_zero]) <;> rfl) (by kernel_rfl) (by kernel_rfl) (by kernel_rfl) (fun _ _ _ h => h) (Or.inl ⟨by rfl, fun w hSw => by ((try dsimp only at hSw); go_simp) <;> with_reducible rfl⟩) (by assumption) ?_
                          (try simp only [Act.put, List.setIfInBounds_toArray, List.set_cons_zero, List.set_cons_succ])
                          refine wpAnyH_take (i := 13) (v := _) (by (simp only [List.getElem?_toArray, List.getElem?_cons_succ, List.getElem?_cons_zero]) <;> rfl) (by kernel_rfl) (by kernel_rfl) (by kernel_rfl) (fun _ _ _ h => h) (Or.inl ⟨by rfl, fun w hSw => by ((try dsimp only at hSw); go_simp) <;> with_reducible rfl⟩) (by assumption) ?_
                          (try simp only [Act.put, List.setIfInBounds_toArray, List.set_cons_zero, List.set_cons_succ])
                          refine wpAnyH_take (i := 14) (v := _) (by (simp only [List.getElem?_toArray, List.getElem?_cons_succ, List.getElem?_cons_zero]) <;> rfl) (by kernel_rfl) (by kernel_rfl) (by kernel_rfl) (fun _ _ _ h => h) (Or.inl ⟨by rfl, fun w hSw => by ((try dsimp only at hSw); go_simp) <;> with_reducible rfl⟩) (by assumption) ?_
                          (try simp only [Act.put, List.setIfInBounds_toArray, List.set_cons_zero, List.set_cons_succ])
                          refine wpAnyH_take (i := 15) (v := _) (by (simp only [List.getElem?_toArray, List.getElem?_cons_succ, List.getElem?_cons_zero]) <;> rfl) (by kernel_rfl) (by kernel_rfl) (by kernel_rfl) (fun _ _ _ h => h) (Or.inl ⟨by rfl, fun w hSw => by ((try dsimp only at hSw); go_simp) <;> with_reducible rfl⟩) (by assumption) ?_
                          (try simp only [Act.put, List.setIfInBounds_toArray, List.set_cons_zero, List.set_cons_succ])
                          refine wpAnyH_take (i := 16) (v := _) (by (simp only [List.getElem?_toArray, List.getElem?_cons_succ, List.getElem?_cons_zero]) <;> rfl) (by kernel_rfl) (by kernel_rfl) (by kernel_rfl) (fun _ _ _ h => h) (Or.inl ⟨by rfl, fun w hSw => by ((try dsimp only at hSw); go_simp) <;> with_reducible rfl⟩) (by assumption) ?_
                          (try simp only [Act.put, List.setIfInBounds_toArray, List.set_cons_zero, List.set_cons_succ])
                          refine wpAnyH_take (i := 17) (v := _) (by (simp only [List.getElem?_toArray, List.getElem?_cons_succ, List.getElem?_cons_zero]) <;> rfl) (by kernel_rfl) (by kernel_rfl) (by kernel_rfl) (fun _ _ _ h => h) (Or.inl ⟨by rfl, fun w hSw => by ((try dsimp only at hSw); go_simp) <;> with_reducible rfl⟩) (by assumption) ?_
                          (try simp only [Act.put, List.setIfInBounds_toArray, List.set_cons_zero, List.set_cons_succ])
                          refine wpAnyH_take (i := 18) (v := _) (by (simp only [List.getElem?_toArray, List.getElem?_cons_succ, List.getElem?_cons_zero]) <;> rfl) (by kernel_rfl) (by kernel_rfl) (by kernel_rfl) (fun _ _ _ h => h) (Or.inl ⟨by rfl, fun w hSw => by ((try dsimp only at hSw); go_simp) <;> with_reducible rfl⟩) (by assumption) ?_
                          (try simp only [Act.put, List.setIfInBounds_toArray, List.set_cons_zero, List.set_cons_succ])
                          refine wpAnyH_take (i := 19) (v := _) (by (simp only [List.getElem?_toArray, List.getElem?_cons_succ, List.getElem?_cons_zero]) <;> rfl) (by kernel_rfl) (by kernel_rfl) (by kernel_rfl) (fun _ _ _ h => h) (Or.inl ⟨by rfl, fun w hSw => by ((try dsimp only at hSw); go_simp) <;> with_reducible rfl⟩) (by assumption) ?_
                          (try simp only [Act.put, List.setIfInBounds_toArray, List.set_cons_zero, List.set_cons_succ])
                          refine wpAnyH_take (i := 20) (v := _) (by (simp only [List.getElem?_toArray, List.getElem?_cons_succ, List.getElem?_cons_zero]) <;> rfl) (by kernel_rfl) (by kernel_rfl) (by kernel_rfl) (fun _ _ _ h => h) (Or.inl ⟨by rfl, fun w hSw => by ((try dsimp only at hSw); go_simp) <;> with_reducible rfl⟩) (by assumption) ?_
                          (try simp only [Act.put, List.setIfInBounds_toArray, List.set_cons_zero, List.set_cons_succ])
                          refine wpAnyH_take (i := 21) (v := _) (by (simp only [List.getElem?_toArray, List.getElem?_cons_succ, List.getElem?_cons_zero]) <;> rfl) (by kernel_rfl) (by kernel_rfl) (by kernel_rfl) (fun _ _ _ h => h) (Or.inl ⟨by rfl, fun w hSw => by ((try dsimp only at hSw); go_simp) <;> with_reducible rfl⟩) (by assumption) ?_
                          (try simp only [Act.put, List.setIfInBounds_toArray, List.set_cons_zero, List.set_cons_succ])
                          refine wpAnyH_take (i := 22) (v := _) (by (simp only [List.getElem?_toArray, List.getElem?_cons_succ, List.getElem?_cons_zero]) <;> rfl) (by kernel_rfl) (by kernel_rfl) (by kernel_rfl) (fun _ _ _ h => h) (Or.inl ⟨by rfl, fun w hSw => by ((try dsimp only at hSw); go_simp) <;> with_reducible rfl⟩) (by assumption) ?_
                          (try simp only [Act.put, List.setIfInBounds_toArray, List.set_cons_zero, List.set_cons_succ])
                          refine wpAnyH_take (i := 23) (v := _) (by (simp only [List.getElem?_toArray, List.getElem?_cons_succ, List.getElem?_cons_zero]) <;> rfl) (by kernel_rfl) (by kernel_rfl) (by kernel_rfl) (fun _ _ _ h => h) (Or.inl ⟨by rfl, fun w hSw => by ((try dsimp only at hSw); go_simp) <;> with_reducible rfl⟩) (by assumption) ?_
                          (try simp only [Act.put, List.setIfInBounds_toArray, List.set_cons_zero, List.set_cons_succ])
                          refine wpAnyH_take (i := 24) (v := _) (by (simp only [List.getElem?_toArray, List.getElem?_cons_succ, List.getElem?_cons_zero]) <;> rfl) (by kernel_rfl) (by kernel_rfl) (by kernel_rfl) (fun _ _ _ h => h) (Or.inl ⟨by rfl, fun w hSw => by ((try dsimp only at hSw); go_simp) <;> with_reducible rfl⟩) (by assumption) ?_
                          (try simp only [Act.put, List.setIfInBounds_toArray, List.set_cons_zero, List.set_cons_succ])
                          refine wpAnyH_take (i := 25) (v := _) (by (simp only [List.getElem?_toArray, List.getElem?_cons_succ, List.getElem?_cons_zero]) <;> rfl) (by kernel_rfl) (by kernel_rfl) (by kernel_rfl) (fun _ _ _ h => h) (Or.inl ⟨by rfl, fun w hSw => by ((try dsimp only at hSw); go_simp) <;> with_reducible rfl⟩) (by assumption) ?_
                          (try simp only [Act.put, List.setIfInBounds_toArray, List.set_cons_zero, List.set_cons_succ])
                          refine wpAnyH_take (i := 26) (v := _) (by (simp only [List.getElem?_toArray, List.getElem?_cons_succ, List.getElem?_cons_zero]) <;> rfl) (by kernel_rfl) (by kernel_rfl) (by kernel_rfl) (fun _ _ _ h => h) (Or.inl ⟨by rfl, fun w hSw => by ((try dsimp only at hSw); go_simp) <;> with_reducible rfl⟩) (by assumption) ?_
                          (try simp only [Act.put, List.setIfInBounds_toArray, List.set_cons_zero, List.set_cons_succ])
                          refine wpAnyH_take (i := 27) (v := _) (by (simp only [List.getElem?_toArray, List.getElem?_cons_succ, List.getElem?_cons_zero]) <;> rfl) (by kernel_rfl) (by kernel_rfl) (by kernel_rfl) (fun _ _ _ h => h) (Or.inl ⟨by rfl, fun w hSw => by ((try dsimp only at hSw); go_simp) <;> with_reducible rfl⟩) (by assumption) ?_
                          (try simp only [Act.put, List.setIfInBounds_toArray, List.set_cons_zero, List.set_cons_succ])
                          refine wpAnyH_take (i := 28) (v := _) (by (simp only [List.getElem?_toArray, List.getElem?_cons_succ, List.getElem?_cons_zero]) <;> rfl) (by kernel_rfl) (by kernel_rfl) (by kernel_rfl) (fun _ _ _ h => h) (Or.inl ⟨by rfl, fun w hSw => by ((try dsimp only at hSw); go_simp) <;> with_reducible rfl⟩) (by assumption) ?_
                          (try simp only [Act.put, List.setIfInBounds_toArray, List.set_cons_zero, List.set_cons_succ])
                          refine wpAnyH_take (i := 29) (v := _) (by (simp only [List.getElem?_toArray, List.getElem?_cons_succ, List.getElem?_cons_zero]) <;> rfl) (by kernel_rfl) (by kernel_rfl) (by kernel_rfl) (fun _ _ _ h => h) (Or.inl ⟨by rfl, fun w hSw => by ((try dsimp only at hSw); go_simp) <;> with_reducible rfl⟩) (by assumption) ?_
                          (try simp only [Act.put, List.setIfInBounds_toArray, List.set_cons_zero, List.set_cons_succ])
                          refine wpAnyH_take (i := 30) (v := _) (by (simp only [List.getElem?_toArray, List.getElem?_cons_succ, List.getElem?_cons_zero]) <;> rfl) (by kernel_rfl) (by kernel_rfl) (by kernel_rfl) (fun _ _ _ h => h) (Or.inl ⟨by rfl, fun w hSw => by ((try dsimp only at hSw); go_simp) <;> with_reducible rfl⟩) (by assumption) ?_
                          (try simp only [Act.put, List.setIfInBounds_toArray, List.set_cons_zero, List.set_cons_succ])
                          refine wpAnyH_take (i := 31) (v := _) (by (simp only [List.getElem?_toArray, List.getElem?_cons_succ, List.getElem?_cons_zero]) <;> rfl) (by kernel_rfl) (by kernel_rfl) (by kernel_rfl) (fun _ _ _ h => h) (Or.inl ⟨by rfl, fun w hSw => by ((try dsimp only at hSw); go_simp) <;> with_reducible rfl⟩) (by assumption) ?_
                          (try simp only [Act.put, List.setIfInBounds_toArray, List.set_cons_zero, List.set_cons_succ])
                          refine wpAnyH_take (i := 32) (v := _) (by (simp only [List.getElem?_toArray, List.getElem?_cons_succ, List.getElem?_cons_zero]) <;> rfl) (by kernel_rfl) (by kernel_rfl) (by kernel_rfl) (fun _ _ _ h => h) (Or.inl ⟨by rfl, fun w hSw => by ((try dsimp only at hSw); go_simp) <;> with_reducible rfl⟩) (by assumption) ?_
                          (try simp only [Act.put, List.setIfInBounds_toArray, List.set_cons_zero, List.set_cons_succ])
                          refine wpAnyH_take (i := 33) (v := _) (by (simp only [List.getElem?_toArray, List.getElem?_cons_succ, List.getElem?_cons_zero]) <;> rfl) (by kernel_rfl) (by kernel_rfl) (by kernel_rfl) (fun _ _ _ h => h) (Or.inl ⟨by rfl, fun w hSw => by ((try dsimp only at hSw); go_simp) <;> with_reducible rfl⟩) (by assumption) ?_
                          (try simp only [Act.put, List.setIfInBounds_toArray, List.set_cons_zero, List.set_cons_succ])
                          refine wpAnyH_take (i := 34) (v := _) (by (simp only [List.getElem?_toArray, List.getElem?_cons_succ, List.getElem?_cons_zero]) <;> rfl) (by kernel_rfl) (by kernel_rfl) (by kernel_rfl) (fun _ _ _ h => h) (Or.inl ⟨by rfl, fun w hSw => by ((try dsimp only at hSw); go_simp) <;> with_reducible rfl⟩) (by assumption) ?_
                          (try simp only [Act.put, List.setIfInBounds_toArray, List.set_cons_zero, List.set_cons_succ])
                          refine wpAnyH_take (i := 35) (v := _) (by (simp only [List.getElem?_toArray, List.getElem?_cons_succ, List.getElem?_cons_zero]) <;> rfl) (by kernel_rfl) (by kernel_rfl) (by kernel_rfl) (fun _ _ _ h => h) (Or.inl ⟨by rfl, fun w hSw => by ((try dsimp only at hSw); go_simp) <;> with_reducible rfl⟩) (by assumption) ?_
                          (try simp only [Act.put, List.setIfInBounds_toArray, List.set_cons_zero, List.set_cons_succ])
                          refine wpAnyH_take (i := 36) (v := _) (by (simp only [List.getElem?_toArray, List.getElem?_cons_succ, List.getElem?_cons_zero]) <;> rfl) (by kernel_rfl) (by kernel_rfl) (by kernel_rfl) (fun _ _ _ h => h) (Or.inl ⟨by rfl, fun w hSw => by ((try dsimp only at hSw); go_simp) <;> with_reducible rfl⟩) (by assumption) ?_
                          (try simp only [Act.put, List.setIfInBounds_toArray, List.set_cons_zero, List.set_cons_succ])
                          refine wpAnyH_take (i := 37) (v := _) (by (simp only [List.getElem?_toArray, List.getElem?_cons_succ, List.getElem?_cons_zero]) <;> rfl) (by kernel_rfl) (by kernel_rfl) (by kernel_rfl) (fun _ _ _ h => h) (Or.inl ⟨by rfl, fun w hSw => by ((try dsimp only at hSw); go_simp) <;> with_reducible rfl⟩) (by assumption) ?_
                          (try simp only [Act.put, List.setIfInBounds_toArray, List.set_cons_zero, List.set_cons_succ])
                          refine wpAnyH_done (by kernel_rfl) ?_ _
                          refine NoPanic.normal ?_
                          (try have kc7 := KC7.1.out)
                          (try have kc6 := KC6.1.out)
                          (try have kc5 := KC5.1.out)
                          (try have kc4 := KC4.1.out)
                          (try have kc3 := KC3.1.out)
                          (try have kc2 := KC2.1.out)
                          (try have kc1 := KC1.1.out)
                          (try have jc5 := JC5.1.out)
                          (try have jc4 := JC4.1.out)
                          (try have jc3 := JC3.1.out)
                          (try have jc2 := JC2.1.out)
                          (try have jc1 := JC1.1.out)
                          (try clear KC1); (try clear KC2); (try clear KC3); (try clear KC4); (try clear KC5); (try clear KC6); (try clear KC7); (try clear JC1); (try clear JC2); (try clear JC3); (try clear JC4); (try clear JC5)
                          go_wp2_with fail
                          go_roundg (gk - 1)
                          case measure => omega
                          case rel => exact ⟨k + 1, (k : Int), rfl, by go_num, by have := HKK.out; omega, HBN, Bx, Lx, Yx⟩
                        · have hgtd : decide (bbt < ebt) = false := decide_eq_false hgt
                          clear hgt
                          go_wp2_with fail
                          (try (rename (∀ (a : Act) (w : World), Code.wp _ _ _ a w → _) => kc1; have KC1 := And.intro (Lib.hid kc1) trivial; clear kc1))
                          (try (rename (∀ (a : Act) (w : World), Code.wp _ _ _ a w → _) => kc2; have KC2 := And.intro (Lib.hid kc2) trivial; clear kc2))
                          (try (rename (∀ (a : Act) (w : World), Code.wp _ _ _ a w → _) => kc3; have KC3 := And.intro (Lib.hid kc3) trivial; clear kc3))
                          (try (rename (∀ (a : Act) (w : World), Code.wp _ _ _ a w → _) => kc4; have KC4 := And.intro (Lib.hid kc4) trivial; clear kc4))
                          (try (rename (∀ (a : Act) (w : World), Code.wp _ _ _ a w → _) => kc5; have KC5 := And.intro (Lib.hid kc5) trivial; clear kc5))
                          (try (rename (∀ (a : Act) (w : World), Code.wp _ _ _ a w → _) => kc6; have KC6 := And.intro (Lib.hid kc6) trivial; clear kc6))
                          (try (rename (∀ (a : Act) (w : World), Code.wp _ _ _ a w → _) => kc7; have KC7 := And.intro (Lib.hid kc7) trivial; clear kc7))
                          (try (rename (∀ (k : Nat) (a' : Act) (w' : World), _ → _) => jc1; have JC1 := And.intro (Lib.hid jc1) trivial; clear jc1))
                          (try (rename (∀ (k : Nat) (a' : Act) (w' : World), _ → _) => jc2; have JC2 := And.intro (Lib.hid jc2) trivial; clear jc2))
                          (try (rename (∀ (k : Nat) (a' : Act) (w' : World), _ → _) => jc3; have JC3 := And.intro (Lib.hid jc3) trivial; clear jc3))
                          (try (rename (∀ (k : Nat) (a' : Act) (w' : World), _ → _) => jc4; have JC4 := And.intro (Lib.hid jc4) trivial; clear jc4))
                          (try (rename (∀ (k : Nat) (a' : Act) (w' : World), _ → _) => jc5; have JC5 := And.intro (Lib.hid jc5) trivial; clear jc5))
                          refine wp_region_noPanic ?_
                          refine wp_region_held_drew (S := (fun W => W.cell? ⟨tb, toff + h, none⟩ = some (.slice (some ⟨eb, eoff, none⟩) m tuc) ∧ W.cell? ⟨eb, eoff + k * 3, none⟩ = some (.int .i64 ef) ∧ W.cell? ⟨eb, eoff + k * 3 + 1, none⟩ = some (.int .i64 ebt) ∧ W.cell? ⟨eb, eoff + bq * 3 + 1, none⟩ = some (.int .i64 bbt))) (by kernel_rfl) (by exact ⟨z0, x0, x1, p1⟩) (fun hHeld => ?_)
                          refine wpAnyH_take (i := 0) (v := _) (by (simp only [List.getElem?_toArray, List.getElem?_cons_zero]) <;> rfl) (by kernel_rfl) (by kernel_rfl) (by kernel_rfl) (fun _ _ _ h => h) (Or.inl ⟨by rfl, fun w hSw => by ((try dsimp only at hSw); go_simp) <;> with_reducible rfl⟩) (by assumption) ?_
                          (try simp only [Act.put, List.setIfInBounds_toArray, List.set_cons_zero, List.set_cons_succ])
                          refine wpAnyH_take (i := 1) (v := _) (by (simp only [List.getElem?_toArray, List.getElem?_cons_succ, List.getElem?_cons_zero]) <;> rfl) (by kernel_rfl) (by kernel_rfl) (by kernel_rfl) (fun _ _ _ h => h) (Or.inl ⟨by rfl, fun w hSw => by ((try dsimp only at hSw); go_simp) <;> with_reducible rfl⟩) (by assumption) ?_
                          (try simp only [Act.put, List.setIfInBounds_toArray, List.set_cons_zero, List.set_cons_succ])
                          refine wpAnyH_take (i := 2) (v := _) (by (simp only [List.getElem?_toArray, List.getElem?_cons_succ, List.getElem?_cons_zero]) <;> rfl) (by kernel_rfl) (by kernel_rfl) (by kernel_rfl) (fun _ _ _ h => h) (Or.inl ⟨by rfl, fun w hSw => by ((try dsimp only at hSw); go_simp) <;> with_reducible rfl⟩) (by assumption) ?_
                          (try simp only [Act.put, List.setIfInBounds_toArray, List.set_cons_zero, List.set_cons_succ])
                          refine wpAnyH_take (i := 3) (v := _) (by (simp only [List.getElem?_toArray, List.getElem?_cons_succ, List.getElem?_cons_zero]) <;> rfl) (by kernel_rfl) (by kernel_rfl) (by kernel_rfl) (fun _ _ _ h => h) (Or.inl ⟨by rfl, fun w hSw => by ((try dsimp only at hSw); go_simp) <;> with_reducible rfl⟩) (by assumption) ?_
                          (try simp only [Act.put, List.setIfInBounds_toArray, List.set_cons_zero, List.set_cons_succ])
                          refine wpAnyH_take (i := 4) (v := _) (by (simp only [List.getElem?_toArray, List.getElem?_cons_succ, List.getElem?_cons_zero]) <;> rfl) (by kernel_rfl) (by kernel_rfl) (by kernel_rfl) (fun _ _ _ h => h) (Or.inl ⟨by rfl, fun w hSw => by ((try dsimp only at hSw); go_simp) <;> with_reducible rfl⟩) (by assumption) ?_
                          (try simp only [Act.put, List.setIfInBounds_toArray, List.set_cons_zero, List.set_cons_succ])
                          refine wpAnyH_take (i := 5) (v := _) (by (simp only [List.getElem?_toArray, List.getElem?_cons_succ, List.getElem?_cons_zero]) <;> rfl) (by kernel_rfl) (by kernel_rfl) (by kernel_rfl) (fun _ _ _ h => h) (Or.inl ⟨by rfl, fun w hSw => by ((try dsimp only at hSw); go_simp) <;> with_reducible rfl⟩) (by assumption) ?_
                          (try simp only [Act.put, List.setIfInBounds_toArray, List.set_cons_zero, List.set_cons_succ])
                          refine wpAnyH_take (i := 6) (v := _) (by (simp only [List.getElem?_toArray, List.getElem?_cons_succ, List.getElem?_cons_zero]) <;> rfl) (by kernel_rfl) (by kernel_rfl) (by kernel_rfl) (fun _ _ _ h => h) (Or.inl ⟨by rfl, fun w hSw => by ((try dsimp only at hSw); go_simp) <;> with_reducible rfl⟩) (by assumption) ?_
                          (try simp only [Act.put, List.setIfInBounds_toArray, List.set_cons_zero, List.set_cons_succ])
                          refine wpAnyH_take (i := 7) (v := _) (by (simp only [List.getElem?_toArray, List.getElem?_cons_succ, List.getElem?_cons_zero]) <;> rfl) (by kernel_rfl) (by kernel_rfl) (by kernel_rfl) (fun _ _ _ h => h) (Or.inl ⟨by rfl, fun w hSw => by ((try dsimp only at hSw); go_simp) <;> with_reducible rfl⟩) (by assumption) ?_
                          (try simp only [Act.put, List.setIfInBounds_toArray, List.set_cons_zero, List.set_cons_succ])
                          refine wpAnyH_take (i := 8) (v := _) (by (simp only [List.getElem?_toArray, List.getElem?_cons_succ, List.getElem?_cons_zero]) <;> rfl) (by kernel_rfl) (by kernel_rfl) (by kernel_rfl) (fun _ _ _ h => h) (Or.inl ⟨by rfl, fun w hSw => by ((try dsimp only at hSw); go_simp) <;> with_reducible rfl⟩) (by assumption) ?_
                          (try simp only [Act.put, List.setIfInBounds_toArray, List.set_cons_zero, List.set_cons_succ])
                          refine wpAnyH_take (i := 9) (v := _) (by (simp only [List.getElem?_toArray, List.getElem?_cons_succ, List.getElem?_cons_zero]) <;> rfl) (by kernel_rfl) (by kernel_rfl) (by kernel_rfl) (fun _ _ _ h => h) (Or.inl ⟨by rfl, fun w hSw => by ((try dsimp only at hSw); go_simp) <;> with_reducible rfl⟩) (by assumption) ?_
                          (try simp only [Act.put, List.setIfInBounds_toArray, List.set_cons_zero, List.set_cons_succ])
                          refine wpAnyH_ready (rs := [10]) (by kernel_rfl) (by simp) ?_
                          refine AllReadyH.cons (by (simp only [List.getElem?_toArray, List.getElem?_cons_succ, List.getElem?_cons_zero]) <;> rfl) (fun K hK => ?_) AllReadyH.nil
                          go_simp
                          (go_at_call 14; refine (HHC.out _).mono ?_; rintro e wx ⟨rfl, hbx⟩; have hby : Below wr.heap.size wr wx := (Below.drew (Below.refl _ _)).trans hbx; have Bx := Lib.hid (B.out.trans (hby.mono B.out.size)); have Lx := Lib.hid (LL.out.trans (hby.mono LL.out.size)); have Yx := Lib.hid (YY.out.trans (hby.mono YY.out.size)); have q0 := HZZ.out wx Lx.out; have q1 := (hby.cell (p := ⟨eb, eoff + k * 3, none⟩) heb).trans x0; have q2 := (hby.cell (p := ⟨eb, eoff + k * 3 + 1, none⟩) heb).trans x1; have q3 := (hby.cell (p := ⟨eb, eoff + bq * 3 + 1, none⟩) heb).trans p1; clear hbx hby)
                          refine hK.out _ _ (by exact ⟨q0, q1, q2, q3⟩) (fun hHeld => ?_)
                          (try simp only [Act.put, List.setIfInBounds_toArray, List.set_cons_zero, List.set_cons_succ])
                          refine wpAnyH_take (i := 11) (v := _) (by (simp only [List.getElem?_toArray, List.getElem?_cons_succ, List.getElem?_cons_zero]) <;> rfl) (by kernel_rfl) (by kernel_rfl) (by kernel_rfl) (fun _ _ _ h => h) (Or.inl ⟨by rfl, fun w hSw => by ((try dsimp only at hSw); go_simp) <;> with_reducible rfl⟩) (by assumption) ?_
                          (try simp only [Act.put, List.setIfInBounds_toArray, List.set_cons_zero, List.set_cons_succ])
                          refine wpAnyH_take (i := 12) (v := _) (by (simp only [List.getElem?_toArray, List.getElem?_cons_succ, List.getElem?_cons_zero]) <;> rfl) (by kernel_rfl) (by kernel_rfl) (by kernel_rfl) (fun _ _ _ h => h) (Or.inl ⟨by rfl, fun w hSw => by ((try dsimp only at hSw); go_simp) <;> with_reducible rfl⟩) (by assumption) ?_
                          (try simp only [Act.put, List.setIfInBounds_toArray, List.set_cons_zero, List.set_cons_succ])
                          refine wpAnyH_take (i := 13) (v := _) (by (simp only [List.getElem?_toArray, List.getElem?_cons_succ, List.getElem?_cons_zero]) <;> rfl) (by kernel_rfl) (by kernel_rfl) (by kernel_rfl) (fun _ _ _ h => h) (Or.inl ⟨by rfl, fun w hSw => by ((try dsimp only at hSw); go_simp) <;> with_reducible rfl⟩) (by assumption) ?_
                          (try simp only [Act.put, List.setIfInBounds_toArray, List.set_cons_zero, List.set_cons_succ])
                          refine wpAnyH_take (i := 14) (v := _) (by (simp only [List.getElem?_toArray, List.getElem?_cons_succ, List.getElem?_cons_zero]) <;> rfl) (by kernel_rfl) (by kernel_rfl) (by kernel_rfl) (fun _ _ _ h => h) (Or.inl ⟨by rfl, fun w hSw => by ((try dsimp only at hSw); go_simp) <;> with_reducible rfl⟩) (by assumption) ?_
                          (try simp only [Act.put, List.setIfInBounds_toArray, List.set_cons_zero, List.set_cons_succ])
                          refine wpAnyH_take (i := 15) (v := _) (by (simp only [List.getElem?_toArray, List.getElem?_cons_succ, List.getElem?_cons_zero]) <;> rfl) (by kernel_rfl) (by kernel_rfl) (by kernel_rfl) (fun _ _ _ h => h) (Or.inl ⟨by rfl, fun w hSw => by ((try dsimp only at hSw); go_simp) <;> with_reducible rfl⟩) (by assumption) ?_
                          (try simp only [Act.put, List.setIfInBounds_toArray, List.set_cons_zero, List.set_cons_succ])
                          refine wpAnyH_take (i := 16) (v := _) (by (simp only [List.getElem?_toArray, List.getElem?_cons_succ, List.getElem?_cons_zero]) <;> rfl) (by kernel_rfl) (by kernel_rfl) (by kernel_rfl) (fun _ _ _ h => h) (Or.inl ⟨by rfl, fun w hSw => by ((try dsimp only at hSw); go_simp) <;> with_reducible rfl⟩) (by assumption) ?_
                          (try simp only [Act.put, List.setIfInBounds_toArray, List.set_cons_zero, List.set_cons_succ])
                          refine wpAnyH_take (i := 17) (v := _) (by (simp only [List.getElem?_toArray, List.getElem?_cons_succ, List.getElem?_cons_zero]) <;> rfl) (by kernel_rfl) (by kernel_rfl) (by kernel_rfl) (fun _ _ _ h => h) (Or.inl ⟨by rfl, fun w hSw => by ((try dsimp only at hSw); go_simp) <;> with_reducible rfl⟩) (by assumption) ?_
                          (try simp only [Act.put, List.setIfInBounds_toArray, List.set_cons_zero, List.set_cons_succ])
                          refine wpAnyH_take (i := 18) (v := _) (by (simp only [List.getElem?_toArray, List.getElem?_cons_succ, List.getElem?_cons_zero]) <;> rfl) (by kernel_rfl) (by kernel_rfl) (by kernel_rfl) (fun _ _ _ h => h) (Or.inl ⟨by rfl, fun w hSw => by ((try dsimp only at hSw); go_simp) <;> with_reducible rfl⟩) (by assumption) ?_
                          (try simp only [Act.put, List.setIfInBounds_toArray, List.set_cons_zero, List.set_cons_succ])
                          refine wpAnyH_take (i := 19) (v := _) (by (simp only [List.getElem?_toArray, List.getElem?_cons_succ, List.getElem?_cons_zero]) <;> rfl) (by kernel_rfl) (by kernel_rfl) (by kernel_rfl) (fun _ _ _ h => h) (Or.inl ⟨by rfl, fun w hSw => by ((try dsimp only at hSw); go_simp) <;> with_reducible rfl⟩) (by assumption) ?_
                          (try simp only [Act.put, List.setIfInBounds_toArray, List.set_cons_zero, List.set_cons_succ])
                          refine wpAnyH_take (i := 20) (v := _) (by (simp only [List.getElem?_toArray, List.getElem?_cons_succ, List.getElem?_cons_zero]) <;> rfl) (by kernel_rfl) (by kernel_rfl) (by kernel_rfl) (fun _ _ _ h => h) (Or.inl ⟨by rfl, fun w hSw => by ((try dsimp only at hSw); go_simp) <;> with_reducible rfl⟩) (by assumption) ?_
                          (try simp only [Act.put, List.setIfInBounds_toArray, List.set_cons_zero, List.set_cons_succ])
                          refine wpAnyH_take (i := 21) (v := _) (by (simp only [List.getElem?_toArray, List.getElem?_cons_succ, List.getElem?_cons_zero]) <;> rfl) (by kernel_rfl) (by kernel_rfl) (by kernel_rfl) (fun _ _ _ h => h) (Or.inl ⟨by rfl, fun w hSw => by ((try dsimp only at hSw); go_simp) <;> with_reducible rfl⟩) (by assumption) ?_
                          (try simp only [Act.put, List.setIfInBounds_toArray, List.set_cons_zero, List.set_cons_succ])
                          refine wpAnyH_take (i := 22) (v := _) (by (simp only [List.getElem?_toArray, List.getElem?_cons_succ, List.getElem?_cons_zero]) <;> rfl) (by kernel_rfl) (by kernel_rfl) (by kernel_rfl) (fun _ _ _ h => h) (Or.inl ⟨by rfl, fun w hSw => by ((try dsimp only at hSw); go_simp) <;> with_reducible rfl⟩) (by assumption) ?_
                          (try simp only [Act.put, List.setIfInBounds_toArray, List.set_cons_zero, List.set_cons_succ])
                          refine wpAnyH_take (i := 23) (v := _) (by (simp only [List.getElem?_toArray, List.getElem?_cons_succ, List.getElem?_cons_zero]) <;> rfl) (by kernel_rfl) (by kernel_rfl) (by kernel_rfl) (fun _ _ _ h => h) (Or.inl ⟨by rfl, fun w hSw => by ((try dsimp only at hSw); go_simp) <;> with_reducible rfl⟩) (by assumption) ?_
                          (try simp only [Act.put, List.setIfInBounds_toArray, List.set_cons_zero, List.set_cons_succ])
                          refine wpAnyH_take (i := 24) (v := _) (by (simp only [List.getElem?_toArray, List.getElem?_cons_succ, List.getElem?_cons_zero]) <;> rfl) (by kernel_rfl) (by kernel_rfl) (by kernel_rfl) (fun _ _ _ h => h) (Or.inl ⟨by rfl, fun w hSw => by ((try dsimp only at hSw); go_simp) <;> with_reducible rfl⟩) (by assumption) ?_
                          (try simp only [Act.put, List.setIfInBounds_toArray, List.set_cons_zero, List.set_cons_succ])
                          refine wpAnyH_take (i := 25) (v := _) (by (simp only [List.getElem?_toArray, List.getElem?_cons_succ, List.getElem?_cons_zero]) <;> rfl) (by kernel_rfl) (by kernel_rfl) (by kernel_rfl) (fun _ _ _ h => h) (Or.inl ⟨by rfl, fun w hSw => by ((try dsimp only at hSw); go_simp) <;> with_reducible rfl⟩) (by assumption) ?_
                          (try simp only [Act.put, List.setIfInBounds_toArray, List.set_cons_zero, List.set_cons_succ])
                          refine wpAnyH_take (i := 26) (v := _) (by (simp only [List.getElem?_toArray, List.getElem?_cons_succ, List.getElem?_cons_zero]) <;> rfl) (by kernel_rfl) (by kernel_rfl) (by kernel_rfl) (fun _ _ _ h => h) (Or.inl ⟨by rfl, fun w hSw => by ((try dsimp only at hSw); go_simp) <;> with_reducible rfl⟩) (by assumption) ?_
                          (try simp only [Act.put, List.setIfInBounds_toArray, List.set_cons_zero, List.set_cons_succ])
                          refine wpAnyH_take (i := 27) (v := _) (by (simp only [List.getElem?_toArray, List.getElem?_cons_succ, List.getElem?_cons_zero]) <;> rfl) (by kernel_rfl) (by kernel_rfl) (by kernel_rfl) (fun _ _ _ h => h) (Or.inl ⟨by rfl, fun w hSw => by ((try dsimp only at hSw); go_simp) <;> with_reducible rfl⟩) (by assumption) ?_
                          (try simp only [Act.put, List.setIfInBounds_toArray, List.set_cons_zero, List.set_cons_succ])
                          refine wpAnyH_take (i := 28) (v := _) (by (simp only [List.getElem?_toArray, List.getElem?_cons_succ, List.getElem?_cons_zero]) <;> rfl) (by kernel_rfl) (by kernel_rfl) (by kernel_rfl) (fun _ _ _ h => h) (Or.inl ⟨by rfl, fun w hSw => by ((try dsimp only at hSw); go_simp) <;> with_reducible rfl⟩) (by assumption) ?_
                          (try simp only [Act.put, List.setIfInBounds_toArray, List.set_cons_zero, List.set_cons_succ])
                          refine wpAnyH_take (i := 29) (v := _) (by (simp only [List.getElem?_toArray, List.getElem?_cons_succ, List.getElem?_cons_zero]) <;> rfl) (by kernel_rfl) (by kernel_rfl) (by kernel_rfl) (fun _ _ _ h => h) (Or.inl ⟨by rfl, fun w hSw => by ((try dsimp only at hSw); go_simp) <;> with_reducible rfl⟩) (by assumption) ?_
                          (try simp only [Act.put, List.setIfInBounds_toArray, List.set_cons_zero, List.set_cons_succ])
                          refine wpAnyH_take (i := 30) (v := _) (by (simp only [List.getElem?_toArray, List.getElem?_cons_succ, List.getElem?_cons_zero]) <;> rfl) (by kernel_rfl) (by kernel_rfl) (by kernel_rfl) (fun _ _ _ h => h) (Or.inl ⟨by rfl, fun w hSw => by ((try dsimp only at hSw); go_simp) <;> with_reducible rfl⟩) (by assumption) ?_
                          (try simp only [Act.put, List.setIfInBounds_toArray, List.set_cons_zero, List.set_cons_succ])
                          refine wpAnyH_take (i := 31) (v := _) (by (simp only [List.getElem?_toArray, List.getElem?_cons_succ, List.getElem?_cons_zero]) <;> rfl) (by kernel_rfl) (by kernel_rfl) (by kernel_rfl) (fun _ _ _ h => h) (Or.inl ⟨by rfl, fun w hSw => by ((try dsimp only at hSw); go_simp) <;> with_reducible rfl⟩) (by assumption) ?_
                          (try simp only [Act.put, List.setIfInBounds_toArray, List.set_cons_zero, List.set_cons_succ])
                          refine wpAnyH_take (i := 32) (v := _) (by (simp only [List.getElem?_toArray, List.getElem?_cons_succ, List.getElem?_cons_zero]) <;> rfl) (by kernel_rfl) (by kernel_rfl) (by kernel_rfl) (fun _ _ _ h => h) (Or.inl ⟨by rfl, fun w hSw => by ((try dsimp only at hSw); go_simp) <;> with_reducible rfl⟩) (by assumption) ?_
                          (try simp only [Act.put, List.setIfInBounds_toArray, List.set_cons_zero, List.set_cons_succ])
                          refine wpAnyH_take (i := 33) (v := _) (by (simp only [List.getElem?_toArray, List.getElem?_cons_succ, List.getElem?_cons_zero]) <;> rfl) (by kernel_rfl) (by kernel_rfl) (by kernel_rfl) (fun _ _ _ h => h) (Or.inl ⟨by rfl, fun w hSw => by ((try dsimp only at hSw); go_simp) <;> with_reducible rfl⟩) (by assumption) ?_
                          (try simp only [Act.put, List.setIfInBounds_toArray, List.set_cons_zero, List.set_cons_succ])
                          refine wpAnyH_take (i := 34) (v := _) (by (simp only [List.getElem?_toArray, List.getElem?_cons_succ, List.getElem?_cons_zero]) <;> rfl) (by kernel_rfl) (by kernel_rfl) (by kernel_rfl) (fun _ _ _ h => h) (Or.inl ⟨by rfl, fun w hSw => by ((try dsimp only at hSw); go_simp) <;> with_reducible rfl⟩) (by assumption) ?_
                          (try simp only [Act.put, List.setIfInBounds_toArray, List.set_cons_zero, List.set_cons_succ])
                          refine wpAnyH_take (i := 35) (v := _) (by (simp only [List.getElem?_toArray, List.getElem?_cons_succ, List.getElem?_cons_zero]) <;> rfl) (by kernel_rfl) (by kernel_rfl) (by kernel_rfl) (fun _ _ _ h => h) (Or.inl ⟨by rfl, fun w hSw => by ((try dsimp only at hSw); go_simp) <;> with_reducible rfl⟩) (by assumption) ?_
                          (try simp only [Act.put, List.setIfInBounds_toArray, List.set_cons_zero, List.set_cons_succ])
                          refine wpAnyH_take (i := 36) (v := _) (by (simp only [List.getElem?_toArray, List.getElem?_cons_succ, List.getElem?_cons_zero]) <;> rfl) (by kernel_rfl) (by kernel_rfl) (by kernel_rfl) (fun _ _ _ h => h) (Or.inl ⟨by rfl, fun w hSw => by ((try dsimp only at hSw); go_simp) <;> with_reducible rfl⟩) (by assumption) ?_
                          (try simp only [Act.put, List.setIfInBounds_toArray, List.set_cons_zero, List.set_cons_succ])
                          refine wpAnyH_take (i := 37) (v := _) (by (simp only [List.getElem?_toArray, List.getElem?_cons_succ, List.getElem?_cons_zero]) <;> rfl) (by kernel_rfl) (by kernel_rfl) (by kernel_rfl) (fun _ _ _ h => h) (Or.inl ⟨by rfl, fun w hSw => by ((try dsimp only at hSw); go_simp) <;> with_reducible rfl⟩) (by assumption) ?_
                          (try simp only [Act.put, List.setIfInBounds_toArray, List.set_cons_zero, List.set_cons_succ])
                          refine wpAnyH_done (by kernel_rfl) ?_ _
                          refine NoPanic.normal ?_
                          (try have kc7 := KC7.1.out)
                          (try have kc6 := KC6.1.out)
                          (try have kc5 := KC5.1.out)
                          (try have kc4 := KC4.1.out)
                          (try have kc3 := KC3.1.out)
                          (try have kc2 := KC2.1.out)
                          (try have kc1 := KC1.1.out)
                          (try have jc5 := JC5.1.out)
                          (try have jc4 := JC4.1.out)
                          (try have jc3 := JC3.1.out)
                          (try have jc2 := JC2.1.out)
                          (try have jc1 := JC1.1.out)
                          (try clear KC1); (try clear KC2); (try clear KC3); (try clear KC4); (try clear KC5); (try clear KC6); (try clear KC7); (try clear JC1); (try clear JC2); (try clear JC3); (try clear JC4); (try clear JC5)
                          go_wp2_with fail
                          go_roundg (gk - 1)
                          case measure => omega
                          case rel => exact ⟨k + 1, (bq : Int), rfl, by go_num, by have := HKK.out; omega, HBO, Bx, Lx, Yx⟩
        · have hiL : i < L := by omega
          have hiI : (i : Int) < (L : Int) := by omega
          have i0 : (0 : Int) ≤ (i : Int) := by omega
          have hgk : 1 ≤ gk := by omega
          have HI := Lib.hid hi
          obtain ⟨GI, hGI⟩ : ∃ G, G = gk := ⟨_, rfl⟩
          clear hi hg
          go_wp2_with fail
          go_loopg [9] i (fun gk s9 wr => ∃ k : Nat, s9 = .int .i64 (k : Int) ∧ k + gk = i ∧ Hid (∀ q, q < k → inAt l i q = false ∧ inAt l q i = false) ∧ Hid (Below w1.heap.size w1 wr) ∧ Hid (Below w5.heap.size w5 wr))
          case atStart => exact ⟨0, rfl, by omega, Lib.hid (fun q hq => absurd hq (by omega)), B, LL⟩
          case round =>
            clear B LL
            obtain ⟨k, rfl, hk, HQK, B, LL⟩ := hrel
            by_cases hg : gk = 0
            · subst hg
              obtain rfl : k = i := by omega
              have hdn : decide ((k : Int) < (k : Int)) = false := by simp
              go_wp2_with fail
              go_roundg (GI - 1)
              case measure => omega
              case rel => exact ⟨k + 1, by go_num, by have := HI.out; omega, Lib.hid (fun a q ha hq => by
                by_cases hak : a = k
                · subst hak; exact HQK.out q hq
                · exact HAP.out a q (by omega) hq), B, LL⟩
            · have hki : k < i := by omega
              have hkiI : (k : Int) < (i : Int) := by omega
              have hkL : (k : Int) < (L : Int) := by omega
              have k0 : (0 : Int) ≤ (k : Int) := by omega
              have hgk2 : 1 ≤ gk := by omega
              have HK := Lib.hid hk
              obtain ⟨lb, loff, rfl, hlb, y0, y1, y2⟩ := (HH.out.below B.out).get i hiL
              obtain ⟨kb, koff, e, hkb, x0, x1, x2⟩ := (HH.out.below B.out).get k (by omega)
              cases e
              have hi1 := fun W => rangeIn_any _ _ _ _ (HROK.out i hiL) (HROK.out k (by omega)) W
              have hi2 := fun W => rangeIn_any _ _ _ _ (HROK.out k (by omega)) (HROK.out i hiL) W
              have e1 : inAt l i k = inF (l.getD i (0, 0, 0)).1 (l.getD i (0, 0, 0)).2.1 (l.getD k (0, 0, 0)).1 (l.getD k (0, 0, 0)).2.1 := rfl
              have e2 : inAt l k i = inF (l.getD k (0, 0, 0)).1 (l.getD k (0, 0, 0)).2.1 (l.getD i (0, 0, 0)).1 (l.getD i (0, 0, 0)).2.1 := rfl
              obtain ⟨c1, hc1⟩ : ∃ b, inAt l i k = b := ⟨_, rfl⟩
              obtain ⟨c2, hc2'⟩ : ∃ b, inAt l k i = b := ⟨_, rfl⟩
              rw [← e1, hc1] at hi1
              rw [← e2, hc2'] at hi2
              have HC1 := Lib.hid hc1
              have HC2 := Lib.hid hc2'
              obtain ⟨ent, hent⟩ : ∃ e, l.getD i (0, 0, 0) = e := ⟨_, rfl⟩
              obtain ⟨ent2, hent2⟩ : ∃ e, l.getD k (0, 0, 0) = e := ⟨_, rfl⟩
              rw [hent] at y0 y1 y2
              rw [hent2] at x0 x1 x2
              rw [hent, hent2] at hi1 hi2
              obtain ⟨lf, lbt, lho⟩ := ent
              obtain ⟨f, bt, ho⟩ := ent2
              simp only at y0 y1 y2 x0 x1 x2 hi1 hi2
              have HI1 := Lib.hid hi1
              have HI2 := Lib.hid hi2
              clear hk hg hent hent2 hi1 hi2 e1 e2 hc1 hc2'
              cases c1
              · cases c2
                · go_wp2_with fail
                  (try (rename (∀ (a : Act) (w : World), Code.wp _ _ _ a w → _) => kc1; have KC1 := And.intro (Lib.hid kc1) trivial; clear kc1))
                  (try (rename (∀ (a : Act) (w : World), Code.wp _ _ _ a w → _) => kc2; have KC2 := And.intro (Lib.hid kc2) trivial; clear kc2))
                  (try (rename (∀ (a : Act) (w : World), Code.wp _ _ _ a w → _) => kc3; have KC3 := And.intro (Lib.hid kc3) trivial; clear kc3))
                  (try (rename (∀ (a : Act) (w : World), Code.wp _ _ _ a w → _) => kc4; have KC4 := And.intro (Lib.hid kc4) trivial; clear kc4))
                  (try (rename (∀ (a : Act) (w : World), Code.wp _ _ _ a w → _) => kc5; have KC5 := And.intro (Lib.hid kc5) trivial; clear kc5))
                  (try (rename (∀ (a : Act) (w : World), Code.wp _ _ _ a w → _) => kc6; have KC6 := And.intro (Lib.hid kc6) trivial; clear kc6))
                  (try (rename (∀ (a : Act) (w : World), Code.wp _ _ _ a w → _) => kc7; have KC7 := And.intro (Lib.hid kc7) trivial; clear kc7))
                  (try (rename (∀ (k : Nat) (a' : Act) (w' : World), _ → _) => jc1; have JC1 := And.intro (Lib.hid jc1) trivial; clear jc1))
                  (try (rename (∀ (k : Nat) (a' : Act) (w' : World), _ → _) => jc2; have JC2 := And.intro (Lib.hid jc2) trivial; clear jc2))
                  (try (rename (∀ (k : Nat) (a' : Act) (w' : World), _ → _) => jc3; have JC3 := And.intro (Lib.hid jc3) trivial; clear jc3))
                  (try (rename (∀ (k : Nat) (a' : Act) (w' : World), _ → _) => jc4; have JC4 := And.intro (Lib.hid jc4) trivial; clear jc4))
                  (try (rename (∀ (k : Nat) (a' : Act) (w' : World), _ → _) => jc5; have JC5 := And.intro (Lib.hid jc5) trivial; clear jc5))
                  refine wp_region_noPanic ?_
                  refine wp_region_held_drew (S := (fun W => W.cell? ⟨lb, loff + i * 3, none⟩ = some (.int .i64 lf) ∧ W.cell? ⟨lb, loff + i * 3 + 1, none⟩ = some (.int .i64 lbt) ∧ W.cell? ⟨lb, loff + k * 3, none⟩ = some (.int .i64 f) ∧ W.cell? ⟨lb, loff + k * 3 + 1, none⟩ = some (.int .i64 bt))) (by kernel_rfl) (by exact ⟨y0, y1, x0, x1⟩) (fun hHeld => ?_)
                  refine wpAnyH_take (i := 0) (v := _) (by (simp only [List.getElem?_toArray, List.getElem?_cons_zero]) <;> rfl) (by kernel_rfl) (by kernel_rfl) (by kernel_rfl) (fun _ _ _ h => h) (Or.inl ⟨by rfl, fun w hSw => by ((try dsimp only at hSw); go_simp) <;> with_reducible rfl⟩) (by assumption) ?_
                  (try simp only [Act.put, List.setIfInBounds_toArray, List.set_cons_zero, List.set_cons_succ])
                  refine wpAnyH_take (i := 1) (v := _) (by (simp only [List.getElem?_toArray, List.getElem?_cons_succ, List.getElem?_cons_zero]) <;> rfl) (by kernel_rfl) (by kernel_rfl) (by kernel_rfl) (fun _ _ _ h => h) (Or.inl ⟨by rfl, fun w hSw => by ((try dsimp only at hSw); go_simp) <;> with_reducible rfl⟩) (by assumption) ?_
                  (try simp only [Act.put, List.setIfInBounds_toArray, List.set_cons_zero, List.set_cons_succ])
                  refine wpAnyH_take (i := 2) (v := _) (by (simp only [List.getElem?_toArray, List.getElem?_cons_succ, List.getElem?_cons_zero]) <;> rfl) (by kernel_rfl) (by kernel_rfl) (by kernel_rfl) (fun _ _ _ h => h) (Or.inl ⟨by rfl, fun w hSw => by ((try dsimp only at hSw); go_simp) <;> with_reducible rfl⟩) (by assumption) ?_
                  (try simp only [Act.put, List.setIfInBounds_toArray, List.set_cons_zero, List.set_cons_succ])
                  refine wpAnyH_take (i := 3) (v := _) (by (simp only [List.getElem?_toArray, List.getElem?_cons_succ, List.getElem?_cons_zero]) <;> rfl) (by kernel_rfl) (by kernel_rfl) (by kernel_rfl) (fun _ _ _ h => h) (Or.inl ⟨by rfl, fun w hSw => by ((try dsimp only at hSw); go_simp) <;> with_reducible rfl⟩) (by assumption) ?_
                  (try simp only [Act.put, List.setIfInBounds_toArray, List.set_cons_zero, List.set_cons_succ])
                  refine wpAnyH_take (i := 4) (v := _) (by (simp only [List.getElem?_toArray, List.getElem?_cons_succ, List.getElem?_cons_zero]) <;> rfl) (by kernel_rfl) (by kernel_rfl) (by kernel_rfl) (fun _ _ _ h => h) (Or.inl ⟨by rfl, fun w hSw => by ((try dsimp only at hSw); go_simp) <;> with_reducible rfl⟩) (by assumption) ?_
                  (try simp only [Act.put, List.setIfInBounds_toArray, List.set_cons_zero, List.set_cons_succ])
                  refine wpAnyH_take (i := 5) (v := _) (by (simp only [List.getElem?_toArray, List.getElem?_cons_succ, List.getElem?_cons_zero]) <;> rfl) (by kernel_rfl) (by kernel_rfl) (by kernel_rfl) (fun _ _ _ h => h) (Or.inl ⟨by rfl, fun w hSw => by ((try dsimp only at hSw); go_simp) <;> with_reducible rfl⟩) (by assumption) ?_
                  (try simp only [Act.put, List.setIfInBounds_toArray, List.set_cons_zero, List.set_cons_succ])
                  refine wpAnyH_take (i := 6) (v := _) (by (simp only [List.getElem?_toArray, List.getElem?_cons_succ, List.getElem?_cons_zero]) <;> rfl) (by kernel_rfl) (by kernel_rfl) (by kernel_rfl) (fun _ _ _ h => h) (Or.inl ⟨by rfl, fun w hSw => by ((try dsimp only at hSw); go_simp) <;> with_reducible rfl⟩) (by assumption) ?_
                  (try simp only [Act.put, List.setIfInBounds_toArray, List.set_cons_zero, List.set_cons_succ])
                  refine wpAnyH_take (i := 7) (v := _) (by (simp only [List.getElem?_toArray, List.getElem?_cons_succ, List.getElem?_cons_zero]) <;> rfl) (by kernel_rfl) (by kernel_rfl) (by kernel_rfl) (fun _ _ _ h => h) (Or.inl ⟨by rfl, fun w hSw => by ((try dsimp only at hSw); go_simp) <;> with_reducible rfl⟩) (by assumption) ?_
                  (try simp only [Act.put, List.setIfInBounds_toArray, List.set_cons_zero, List.set_cons_succ])
                  refine wpAnyH_take (i := 8) (v := _) (by (simp only [List.getElem?_toArray, List.getElem?_cons_succ, List.getElem?_cons_zero]) <;> rfl) (by kernel_rfl) (by kernel_rfl) (by kernel_rfl) (fun _ _ _ h => h) (Or.inl ⟨by rfl, fun w hSw => by ((try dsimp only at hSw); go_simp) <;> with_reducible rfl⟩) (by assumption) ?_
                  (try simp only [Act.put, List.setIfInBounds_toArray, List.set_cons_zero, List.set_cons_succ])
                  refine wpAnyH_take (i := 9) (v := _) (by (simp only [List.getElem?_toArray, List.getElem?_cons_succ, List.getElem?_cons_zero]) <;> rfl) (by kernel_rfl) (by kernel_rfl) (by kernel_rfl) (fun _ _ _ h => h) (Or.inl ⟨by rfl, fun w hSw => by ((try dsimp only at hSw); go_simp) <;> with_reducible rfl⟩) (by assumption) ?_
                  (try simp only [Act.put, List.setIfInBounds_toArray, List.set_cons_zero, List.set_cons_succ])
                  refine wpAnyH_ready (rs := [10]) (by kernel_rfl) (by simp) ?_
                  refine AllReadyH.cons (by (simp only [List.getElem?_toArray, List.getElem?_cons_succ, List.getElem?_cons_zero]) <;> rfl) (fun K hK => ?_) AllReadyH.nil
                  go_simp
                  (go_at_call 10; refine (HI1.out _).mono ?_; rintro e wx ⟨rfl, hbx⟩; have hby : Below wr.heap.size wr wx := (Below.drew (Below.refl _ _)).trans hbx; have Bx := Lib.hid (B.out.trans (hby.mono B.out.size)); have Lx := Lib.hid (LL.out.trans (hby.mono LL.out.size)); have q0 := (hby.cell (p := ⟨lb, loff + i * 3, none⟩) hlb).trans y0; have q1 := (hby.cell (p := ⟨lb, loff + i * 3 + 1, none⟩) hlb).trans y1; have q2 := (hby.cell (p := ⟨lb, loff + k * 3, none⟩) hlb).trans x0; have q3 := (hby.cell (p := ⟨lb, loff + k * 3 + 1, none⟩) hlb).trans x1; have hlb2 := Nat.lt_of_lt_of_le hlb hby.size; clear hbx hby)
                  refine hK.out _ _ (by exact ⟨q0, q1, q2, q3⟩) (fun hHeld => ?_)
                  (try simp only [Act.put, List.setIfInBounds_toArray, List.set_cons_zero, List.set_cons_succ])
                  refine wpAnyH_take (i := 11) (v := _) (by (simp only [List.getElem?_toArray, List.getElem?_cons_succ, List.getElem?_cons_zero]) <;> rfl) (by kernel_rfl) (by kernel_rfl) (by kernel_rfl) (fun _ _ _ h => h) (Or.inl ⟨by rfl, fun w hSw => by ((try dsimp only at hSw); go_simp) <;> with_reducible rfl⟩) (by assumption) ?_
                  (try simp only [Act.put, List.setIfInBounds_toArray, List.set_cons_zero, List.set_cons_succ])
                  refine wpAnyH_take (i := 12) (v := _) (by (simp only [List.getElem?_toArray, List.getElem?_cons_succ, List.getElem?_cons_zero]) <;> rfl) (by kernel_rfl) (by kernel_rfl) (by kernel_rfl) (fun _ _ _ h => h) (Or.inl ⟨by rfl, fun w hSw => by ((try dsimp only at hSw); go_simp) <;> with_reducible rfl⟩) (by assumption) ?_
                  (try simp only [Act.put, List.setIfInBounds_toArray, List.set_cons_zero, List.set_cons_succ])
                  refine wpAnyH_take (i := 13) (v := _) (by (simp only [List.getElem?_toArray, List.getElem?_cons_succ, List.getElem?_cons_zero]) <;> rfl) (by kernel_rfl) (by kernel_rfl) (by kernel_rfl) (fun _ _ _ h => h) (Or.inl ⟨by rfl, fun w hSw => by ((try dsimp only at hSw); go_simp) <;> with_reducible rfl⟩) (by assumption) ?_
                  (try simp only [Act.put, List.setIfInBounds_toArray, List.set_cons_zero, List.set_cons_succ])
                  refine wpAnyH_take (i := 14) (v := _) (by (simp only [List.getElem?_toArray, List.getElem?_cons_succ, List.getElem?_cons_zero]) <;> rfl) (by kernel_rfl) (by kernel_rfl) (by kernel_rfl) (fun _ _ _ h => h) (Or.inl ⟨by rfl, fun w hSw => by ((try dsimp only at hSw); go_simp) <;> with_reducible rfl⟩) (by assumption) ?_
                  (try simp only [Act.put, List.setIfInBounds_toArray, List.set_cons_zero, List.set_cons_succ])
                  refine wpAnyH_take (i := 15) (v := _) (by (simp only [List.getElem?_toArray, List.getElem?_cons_succ, List.getElem?_cons_zero]) <;> rfl) (by kernel_rfl) (by kernel_rfl) (by kernel_rfl) (fun _ _ _ h => h) (Or.inl ⟨by rfl, fun w hSw => by ((try dsimp only at hSw); go_simp) <;> with_reducible rfl⟩) (by assumption) ?_
                  (try simp only [Act.put, List.setIfInBounds_toArray, List.set_cons_zero, List.set_cons_succ])
                  refine wpAnyH_take (i := 16) (v := _) (by (simp only [List.getElem?_toArray, List.getElem?_cons_succ, List.getElem?_cons_zero]) <;> rfl) (by kernel_rfl) (by kernel_rfl) (by kernel_rfl) (fun _ _ _ h => h) (Or.inl ⟨by rfl, fun w hSw => by ((try dsimp only at hSw); go_simp) <;> with_reducible rfl⟩) (by assumption) ?_
                  (try simp only [Act.put, List.setIfInBounds_toArray, List.set_cons_zero, List.set_cons_succ])
                  refine wpAnyH_take (i := 17) (v := _) (by (simp only [List.getElem?_toArray, List.getElem?_cons_succ, List.getElem?_cons_zero]) <;> rfl) (by kernel_rfl) (by kernel_rfl) (by kernel_rfl) (fun _ _ _ h => h) (Or.inl ⟨by rfl, fun w hSw => by ((try dsimp only at hSw); go_simp) <;> with_reducible rfl⟩) (by assumption) ?_
                  (try simp only [Act.put, List.setIfInBounds_toArray, List.set_cons_zero, List.set_cons_succ])
                  refine wpAnyH_take (i := 18) (v := _) (by (simp only [List.getElem?_toArray, List.getElem?_cons_succ, List.getElem?_cons_zero]) <;> rfl) (by kernel_rfl) (by kernel_rfl) (by kernel_rfl) (fun _ _ _ h => h) (Or.inl ⟨by rfl, fun w hSw => by ((try dsimp only at hSw); go_simp) <;> with_reducible rfl⟩) (by assumption) ?_
                  (try simp only [Act.put, List.setIfInBounds_toArray, List.set_cons_zero, List.set_cons_succ])
                  refine wpAnyH_take (i := 19) (v := _) (by (simp only [List.getElem?_toArray, List.getElem?_cons_succ, List.getElem?_cons_zero]) <;> rfl) (by kernel_rfl) (by kernel_rfl) (by kernel_rfl) (fun _ _ _ h => h) (Or.inl ⟨by rfl, fun w hSw => by ((try dsimp only at hSw); go_simp) <;> with_reducible rfl⟩) (by assumption) ?_
                  (try simp only [Act.put, List.setIfInBounds_toArray, List.set_cons_zero, List.set_cons_succ])
                  refine wpAnyH_take (i := 20) (v := _) (by (simp only [List.getElem?_toArray, List.getElem?_cons_succ, List.getElem?_cons_zero]) <;> rfl) (by kernel_rfl) (by kernel_rfl) (by kernel_rfl) (fun _ _ _ h => h) (Or.inl ⟨by rfl, fun w hSw => by ((try dsimp only at hSw); go_simp) <;> with_reducible rfl⟩) (by assumption) ?_
                  (try simp only [Act.put, List.setIfInBounds_toArray, List.set_cons_zero, List.set_cons_succ])
                  refine wpAnyH_take (i := 21) (v := _) (by (simp only [List.getElem?_toArray, List.getElem?_cons_succ, List.getElem?_cons_zero]) <;> rfl) (by kernel_rfl) (by kernel_rfl) (by kernel_rfl) (fun _ _ _ h => h) (Or.inl ⟨by rfl, fun w hSw => by ((try dsimp only at hSw); go_simp) <;> with_reducible rfl⟩) (by assumption) ?_
                  (try simp only [Act.put, List.setIfInBounds_toArray, List.set_cons_zero, List.set_cons_succ])
                  refine wpAnyH_ready (rs := [22]) (by kernel_rfl) (by simp) ?_
                  refine AllReadyH.cons (by (simp only [List.getElem?_toArray, List.getElem?_cons_succ, List.getElem?_cons_zero]) <;> rfl) (fun K hK => ?_) AllReadyH.nil
                  go_simp
                  (go_at_call 10; refine (HI2.out _).mono ?_; rintro e wz ⟨rfl, hbx⟩; have hby : Below wx.heap.size wx wz := (by first|exact hbx|exact (Below.drew (Below.refl _ _)).trans hbx); have Bz := Lib.hid (Bx.out.trans (hby.mono Bx.out.size)); have Lz := Lib.hid (Lx.out.trans (hby.mono Lx.out.size)); have p0 := (hby.cell (p := ⟨lb, loff + i * 3, none⟩) hlb2).trans q0; have p1 := (hby.cell (p := ⟨lb, loff + i * 3 + 1, none⟩) hlb2).trans q1; have p2 := (hby.cell (p := ⟨lb, loff + k * 3, none⟩) hlb2).trans q2; have p3 := (hby.cell (p := ⟨lb, loff + k * 3 + 1, none⟩) hlb2).trans q3; clear hbx hby)
                  refine hK.out _ _ (by exact ⟨p0, p1, p2, p3⟩) (fun hHeld => ?_)
                  (try simp only [Act.put, List.setIfInBounds_toArray, List.set_cons_zero, List.set_cons_succ])
                  refine wpAnyH_take (i := 23) (v := _) (by (simp only [List.getElem?_toArray, List.getElem?_cons_succ, List.getElem?_cons_zero]) <;> rfl) (by kernel_rfl) (by kernel_rfl) (by kernel_rfl) (fun _ _ _ h => h) (Or.inl ⟨by rfl, fun w hSw => by ((try dsimp only at hSw); go_simp) <;> with_reducible rfl⟩) (by assumption) ?_
                  (try simp only [Act.put, List.setIfInBounds_toArray, List.set_cons_zero, List.set_cons_succ])
                  refine wpAnyH_done (by kernel_rfl) ?_ _
                  refine NoPanic.normal ?_
                  (try have kc7 := KC7.1.out)
                  (try have kc6 := KC6.1.out)
                  (try have kc5 := KC5.1.out)
                  (try have kc4 := KC4.1.out)
                  (try have kc3 := KC3.1.out)
                  (try have kc2 := KC2.1.out)
                  (try have kc1 := KC1.1.out)
                  (try have jc5 := JC5.1.out)
                  (try have jc4 := JC4.1.out)
                  (try have jc3 := JC3.1.out)
                  (try have jc2 := JC2.1.out)
                  (try have jc1 := JC1.1.out)
                  (try clear KC1); (try clear KC2); (try clear KC3); (try clear KC4); (try clear KC5); (try clear KC6); (try clear KC7); (try clear JC1); (try clear JC2); (try clear JC3); (try clear JC4); (try clear JC5)
                  go_wp2_with fail
                  go_roundg (gk - 1)
                  case measure => omega
                  case rel => exact ⟨k + 1, by go_num, by have := HK.out; omega, Lib.hid (fun q hq => by
                    by_cases hqk : q = k
                    · subst hqk; exact ⟨HC1.out, HC2.out⟩
                    · exact HQK.out q (by omega)), Bz, Lz⟩
                · go_wp2_with fail
                  (try (rename (∀ (a : Act) (w : World), Code.wp _ _ _ a w → _) => kc1; have KC1 := And.intro (Lib.hid kc1) trivial; clear kc1))
                  (try (rename (∀ (a : Act) (w : World), Code.wp _ _ _ a w → _) => kc2; have KC2 := And.intro (Lib.hid kc2) trivial; clear kc2))
                  (try (rename (∀ (a : Act) (w : World), Code.wp _ _ _ a w → _) => kc3; have KC3 := And.intro (Lib.hid kc3) trivial; clear kc3))
                  (try (rename (∀ (a : Act) (w : World), Code.wp _ _ _ a w → _) => kc4; have KC4 := And.intro (Lib.hid kc4) trivial; clear kc4))
                  (try (rename (∀ (a : Act) (w : World), Code.wp _ _ _ a w → _) => kc5; have KC5 := And.intro (Lib.hid kc5) trivial; clear kc5))
                  (try (rename (∀ (a : Act) (w : World), Code.wp _ _ _ a w → _) => kc6; have KC6 := And.intro (Lib.hid kc6) trivial; clear kc6))
                  (try (rename (∀ (a : Act) (w : World), Code.wp _ _ _ a w → _) => kc7; have KC7 := And.intro (Lib.hid kc7) trivial; clear kc7))
                  (try (rename (∀ (k : Nat) (a' : Act) (w' : World), _ → _) => jc1; have JC1 := And.intro (Lib.hid jc1) trivial; clear jc1))
                  (try (rename (∀ (k : Nat) (a' : Act) (w' : World), _ → _) => jc2; have JC2 := And.intro (Lib.hid jc2) trivial; clear jc2))
                  (try (rename (∀ (k : Nat) (a' : Act) (w' : World), _ → _) => jc3; have JC3 := And.intro (Lib.hid jc3) trivial; clear jc3))
                  (try (rename (∀ (k : Nat) (a' : Act) (w' : World), _ → _) => jc4; have JC4 := And.intro (Lib.hid jc4) trivial; clear jc4))
                  (try (rename (∀ (k : Nat) (a' : Act) (w' : World), _ → _) => jc5; have JC5 := And.intro (Lib.hid jc5) trivial; clear jc5))
                  refine wp_region_noPanic ?_
                  refine wp_region_held_drew (S := (fun W => W.cell? ⟨lb, loff + i * 3, none⟩ = some (.int .i64 lf) ∧ W.cell? ⟨lb, loff + i * 3 + 1, none⟩ = some (.int .i64 lbt) ∧ W.cell? ⟨lb, loff + k * 3, none⟩ = some (.int .i64 f) ∧ W.cell? ⟨lb, loff + k * 3 + 1, none⟩ = some (.int .i64 bt))) (by kernel_rfl) (by exact ⟨y0, y1, x0, x1⟩) (fun hHeld => ?_)
                  refine wpAnyH_take (i := 0) (v := _) (by (simp only [List.getElem?_toArray, List.getElem?_cons_zero]) <;> rfl) (by kernel_rfl) (by kernel_rfl) (by kernel_rfl) (fun _ _ _ h => h) (Or.inl ⟨by rfl, fun w hSw => by ((try dsimp only at hSw); go_simp) <;> with_reducible rfl⟩) (by assumption) ?_
                  (try simp only [Act.put, List.setIfInBounds_toArray, List.set_cons_zero, List.set_cons_succ])
                  refine wpAnyH_take (i := 1) (v := _) (by (simp only [List.getElem?_toArray, List.getElem?_cons_succ, List.getElem?_cons_zero]) <;> rfl) (by kernel_rfl) (by kernel_rfl) (by kernel_rfl) (fun _ _ _ h => h) (Or.inl ⟨by rfl, fun w hSw => by ((try dsimp only at hSw); go_simp) <;> with_reducible rfl⟩) (by assumption) ?_
                  (try simp only [Act.put, List.setIfInBounds_toArray, List.set_cons_zero, List.set_cons_succ])
                  refine wpAnyH_take (i := 2) (v := _) (by (simp only [List.getElem?_toArray, List.getElem?_cons_succ, List.getElem?_cons_zero]) <;> rfl) (by kernel_rfl) (by kernel_rfl) (by kernel_rfl) (fun _ _ _ h => h) (Or.inl ⟨by rfl, fun w hSw => by ((try dsimp only at hSw); go_simp) <;> with_reducible rfl⟩) (by assumption) ?_
                  (try simp only [Act.put, List.setIfInBounds_toArray, List.set_cons_zero, List.set_cons_succ])
                  refine wpAnyH_take (i := 3) (v := _) (by (simp only [List.getElem?_toArray, List.getElem?_cons_succ, List.getElem?_cons_zero]) <;> rfl) (by kernel_rfl) (by kernel_rfl) (by kernel_rfl) (fun _ _ _ h => h) (Or.inl ⟨by rfl, fun w hSw => by ((try dsimp only at hSw); go_simp) <;> with_reducible rfl⟩) (by assumption) ?_
                  (try simp only [Act.put, List.setIfInBounds_toArray, List.set_cons_zero, List.set_cons_succ])
                  refine wpAnyH_take (i := 4) (v := _) (by (simp only [List.getElem?_toArray, List.getElem?_cons_succ, List.getElem?_cons_zero]) <;> rfl) (by kernel_rfl) (by kernel_rfl) (by kernel_rfl) (fun _ _ _ h => h) (Or.inl ⟨by rfl, fun w hSw => by ((try dsimp only at hSw); go_simp) <;> with_reducible rfl⟩) (by assumption) ?_
                  (try simp only [Act.put, List.setIfInBounds_toArray, List.set_cons_zero, List.set_cons_succ])
                  refine wpAnyH_take (i := 5) (v := _) (by (simp only [List.getElem?_toArray, List.getElem?_cons_succ, List.getElem?_cons_zero]) <;> rfl) (by kernel_rfl) (by kernel_rfl) (by kernel_rfl) (fun _ _ _ h => h) (Or.inl ⟨by rfl, fun w hSw => by ((try dsimp only at hSw); go_simp) <;> with_reducible rfl⟩) (by assumption) ?_
                  (try simp only [Act.put, List.setIfInBounds_toArray, List.set_cons_zero, List.set_cons_succ])
                  refine wpAnyH_take (i := 6) (v := _) (by (simp only [List.getElem?_toArray, List.getElem?_cons_succ, List.getElem?_cons_zero]) <;> rfl) (by kernel_rfl) (by kernel_rfl) (by kernel_rfl) (fun _ _ _ h => h) (Or.inl ⟨by rfl, fun w hSw => by ((try dsimp only at hSw); go_simp) <;> with_reducible rfl⟩) (by assumption) ?_
                  (try simp only [Act.put, List.setIfInBounds_toArray, List.set_cons_zero, List.set_cons_succ])
                  refine wpAnyH_take (i := 7) (v := _) (by (simp only [List.getElem?_toArray, List.getElem?_cons_succ, List.getElem?_cons_zero]) <;> rfl) (by kernel_rfl) (by kernel_rfl) (by kernel_rfl) (fun _ _ _ h => h) (Or.inl ⟨by rfl, fun w hSw => by ((try dsimp only at hSw); go_simp) <;> with_reducible rfl⟩) (by assumption) ?_
                  (try simp only [Act.put, List.setIfInBounds_toArray, List.set_cons_zero, List.set_cons_succ])
                  refine wpAnyH_take (i := 8) (v := _) (by (simp only [List.getElem?_toArray, List.getElem?_cons_succ, List.getElem?_cons_zero]) <;> rfl) (by kernel_rfl) (by kernel_rfl) (by kernel_rfl) (fun _ _ _ h => h) (Or.inl ⟨by rfl, fun w hSw => by ((try dsimp only at hSw); go_simp) <;> with_reducible rfl⟩) (by assumption) ?_
                  (try simp only [Act.put, List.setIfInBounds_toArray, List.set_cons_zero, List.set_cons_succ])
                  refine wpAnyH_take (i := 9) (v := _) (by (simp only [List.getElem?_toArray, List.getElem?_cons_succ, List.getElem?_cons_zero]) <;> rfl) (by kernel_rfl) (by kernel_rfl) (by kernel_rfl) (fun _ _ _ h => h) (Or.inl ⟨by rfl, fun w hSw => by ((try dsimp only at hSw); go_simp) <;> with_reducible rfl⟩) (by assumption) ?_
                  (try simp only [Act.put, List.setIfInBounds_toArray, List.set_cons_zero, List.set_cons_succ])
                  refine wpAnyH_ready (rs := [10]) (by kernel_rfl) (by simp) ?_
                  refine AllReadyH.cons (by (simp only [List.getElem?_toArray, List.getElem?_cons_succ, List.getElem?_cons_zero]) <;> rfl) (fun K hK => ?_) AllReadyH.nil
                  go_simp
                  (go_at_call 10; refine (HI1.out _).mono ?_; rintro e wx ⟨rfl, hbx⟩; have hby : Below wr.heap.size wr wx := (Below.drew (Below.refl _ _)).trans hbx; have Bx := Lib.hid (B.out.trans (hby.mono B.out.size)); have q0 := (hby.cell (p := ⟨lb, loff + i * 3, none⟩) hlb).trans y0; have q1 := (hby.cell (p := ⟨lb, loff + i * 3 + 1, none⟩) hlb).trans y1; have q2 := (hby.cell (p := ⟨lb, loff + k * 3, none⟩) hlb).trans x0; have q3 := (hby.cell (p := ⟨lb, loff + k * 3 + 1, none⟩) hlb).trans x1; have hlb2 := Nat.lt_of_lt_of_le hlb hby.size; clear hbx hby)
                  refine hK.out _ _ (by exact ⟨q0, q1, q2, q3⟩) (fun hHeld => ?_)
                  (try simp only [Act.put, List.setIfInBounds_toArray, List.set_cons_zero, List.set_cons_succ])
                  refine wpAnyH_take (i := 11) (v := _) (by (simp only [List.getElem?_toArray, List.getElem?_cons_succ, List.getElem?_cons_zero]) <;> rfl) (by kernel_rfl) (by kernel_rfl) (by kernel_rfl) (fun _ _ _ h => h) (Or.inl ⟨by rfl, fun w hSw => by ((try dsimp only at hSw); go_simp) <;> with_reducible rfl⟩) (by assumption) ?_
                  (try simp only [Act.put, List.setIfInBounds_toArray, List.set_cons_zero, List.set_cons_succ])
                  refine wpAnyH_take (i := 12) (v := _) (by (simp only [List.getElem?_toArray, List.getElem?_cons_succ, List.getElem?_cons_zero]) <;> rfl) (by kernel_rfl) (by kernel_rfl) (by kernel_rfl) (fun _ _ _ h => h) (Or.inl ⟨by rfl, fun w hSw => by ((try dsimp only at hSw); go_simp) <;> with_reducible rfl⟩) (by assumption) ?_
                  (try simp only [Act.put, List.setIfInBounds_toArray, List.set_cons_zero, List.set_cons_succ])
                  refine wpAnyH_take (i := 13) (v := _) (by (simp only [List.getElem?_toArray, List.getElem?_cons_succ, List.getElem?_cons_zero]) <;> rfl) (by kernel_rfl) (by kernel_rfl) (by kernel_rfl) (fun _ _ _ h => h) (Or.inl ⟨by rfl, fun w hSw => by ((try dsimp only at hSw); go_simp) <;> with_reducible rfl⟩) (by assumption) ?_
                  (try simp only [Act.put, List.setIfInBounds_toArray, List.set_cons_zero, List.set_cons_succ])
                  refine wpAnyH_take (i := 14) (v := _) (by (simp only [List.getElem?_toArray, List.getElem?_cons_succ, List.getElem?_cons_zero]) <;> rfl) (by kernel_rfl) (by kernel_rfl) (by kernel_rfl) (fun _ _ _ h => h) (Or.inl ⟨by rfl, fun w hSw => by ((try dsimp only at hSw); go_simp) <;> with_reducible rfl⟩) (by assumption) ?_
                  (try simp only [Act.put, List.setIfInBounds_toArray, List.set_cons_zero, List.set_cons_succ])
                  refine wpAnyH_take (i := 15) (v := _) (by (simp only [List.getElem?_toArray, List.getElem?_cons_succ, List.getElem?_cons_zero]) <;> rfl) (by kernel_rfl) (by kernel_rfl) (by kernel_rfl) (fun _ _ _ h => h) (Or.inl ⟨by rfl, fun w hSw => by ((try dsimp only at hSw); go_simp) <;> with_reducible rfl⟩) (by assumption) ?_
                  (try simp only [Act.put, List.setIfInBounds_toArray, List.set_cons_zero, List.set_cons_succ])
                  refine wpAnyH_take (i := 16) (v := _) (by (simp only [List.getElem?_toArray, List.getElem?_cons_succ, List.getElem?_cons_zero]) <;> rfl) (by kernel_rfl) (by kernel_rfl) (by kernel_rfl) (fun _ _ _ h => h) (Or.inl ⟨by rfl, fun w hSw => by ((try dsimp only at hSw); go_simp) <;> with_reducible rfl⟩) (by assumption) ?_
                  (try simp only [Act.put, List.setIfInBounds_toArray, List.set_cons_zero, List.set_cons_succ])
                  refine wpAnyH_take (i := 17) (v := _) (by (simp only [List.getElem?_toArray, List.getElem?_cons_succ, List.getElem?_cons_zero]) <;> rfl) (by kernel_rfl) (by kernel_rfl) (by kernel_rfl) (fun _ _ _ h => h) (Or.inl ⟨by rfl, fun w hSw => by ((try dsimp only at hSw); go_simp) <;> with_reducible rfl⟩) (by assumption) ?_
                  (try simp only [Act.put, List.setIfInBounds_toArray, List.set_cons_zero, List.set_cons_succ])
                  refine wpAnyH_take (i := 18) (v := _) (by (simp only [List.getElem?_toArray, List.getElem?_cons_succ, List.getElem?_cons_zero]) <;> rfl) (by kernel_rfl) (by kernel_rfl) (by kernel_rfl) (fun _ _ _ h => h) (Or.inl ⟨by rfl, fun w hSw => by ((try dsimp only at hSw); go_simp) <;> with_reducible rfl⟩) (by assumption) ?_
                  (try simp only [Act.put, List.setIfInBounds_toArray, List.set_cons_zero, List.set_cons_succ])
                  refine wpAnyH_take (i := 19) (v := _) (by (simp only [List.getElem?_toArray, List.getElem?_cons_succ, List.getElem?_cons_zero]) <;> rfl) (by kernel_rfl) (by kernel_rfl) (by kernel_rfl) (fun _ _ _ h => h) (Or.inl ⟨by rfl, fun w hSw => by ((try dsimp only at hSw); go_simp) <;> with_reducible rfl⟩) (by assumption) ?_
                  (try simp only [Act.put, List.setIfInBounds_toArray, List.set_cons_zero, List.set_cons_succ])
                  refine wpAnyH_take (i := 20) (v := _) (by (simp only [List.getElem?_toArray, List.getElem?_cons_succ, List.getElem?_cons_zero]) <;> rfl) (by kernel_rfl) (by kernel_rfl) (by kernel_rfl) (fun _ _ _ h => h) (Or.inl ⟨by rfl, fun w hSw => by ((try dsimp only at hSw); go_simp) <;> with_reducible rfl⟩) (by assumption) ?_
                  (try simp only [Act.put, List.setIfInBounds_toArray, List.set_cons_zero, List.set_cons_succ])
                  refine wpAnyH_take (i := 21) (v := _) (by (simp only [List.getElem?_toArray, List.getElem?_cons_succ, List.getElem?_cons_zero]) <;> rfl) (by kernel_rfl) (by kernel_rfl) (by kernel_rfl) (fun _ _ _ h => h) (Or.inl ⟨by rfl, fun w hSw => by ((try dsimp only at hSw); go_simp) <;> with_reducible rfl⟩) (by assumption) ?_
                  (try simp only [Act.put, List.setIfInBounds_toArray, List.set_cons_zero, List.set_cons_succ])
                  refine wpAnyH_ready (rs := [22]) (by kernel_rfl) (by simp) ?_
                  refine AllReadyH.cons (by (simp only [List.getElem?_toArray, List.getElem?_cons_succ, List.getElem?_cons_zero]) <;> rfl) (fun K hK => ?_) AllReadyH.nil
                  go_simp
                  (go_at_call 10; refine (HI2.out _).mono ?_; rintro e wz ⟨rfl, hbx⟩; have hby : Below wx.heap.size wx wz := (by first|exact hbx|exact (Below.drew (Below.refl _ _)).trans hbx); have Bz := Lib.hid (Bx.out.trans (hby.mono Bx.out.size)); have p0 := (hby.cell (p := ⟨lb, loff + i * 3, none⟩) hlb2).trans q0; have p1 := (hby.cell (p := ⟨lb, loff + i * 3 + 1, none⟩) hlb2).trans q1; have p2 := (hby.cell (p := ⟨lb, loff + k * 3, none⟩) hlb2).trans q2; have p3 := (hby.cell (p := ⟨lb, loff + k * 3 + 1, none⟩) hlb2).trans q3; clear hbx hby)
                  refine hK.out _ _ (by exact ⟨p0, p1, p2, p3⟩) (fun hHeld => ?_)
                  (try simp only [Act.put, List.setIfInBounds_toArray, List.set_cons_zero, List.set_cons_succ])
                  refine wpAnyH_take (i := 23) (v := _) (by (simp only [List.getElem?_toArray, List.getElem?_cons_succ, List.getElem?_cons_zero]) <;> rfl) (by kernel_rfl) (by kernel_rfl) (by kernel_rfl) (fun _ _ _ h => h) (Or.inl ⟨by rfl, fun w hSw => by ((try dsimp only at hSw); go_simp) <;> with_reducible rfl⟩) (by assumption) ?_
                  (try simp only [Act.put, List.setIfInBounds_toArray, List.set_cons_zero, List.set_cons_succ])
                  refine wpAnyH_done (by kernel_rfl) ?_ _
                  refine NoPanic.normal ?_
                  (try have kc7 := KC7.1.out)
                  (try have kc6 := KC6.1.out)
                  (try have kc5 := KC5.1.out)
                  (try have kc4 := KC4.1.out)
                  (try have kc3 := KC3.1.out)
                  (try have kc2 := KC2.1.out)
                  (try have kc1 := KC1.1.out)
                  (try have jc5 := JC5.1.out)
                  (try have jc4 := JC4.1.out)
                  (try have jc3 := JC3.1.out)
                  (try have jc2 := JC2.1.out)
                  (try have jc1 := JC1.1.out)
                  (try clear KC1); (try clear KC2); (try clear KC3); (try clear KC4); (try clear KC5); (try clear KC6); (try clear KC7); (try clear JC1); (try clear JC2); (try clear JC3); (try clear JC4); (try clear JC5)
                  go_wp2_with fail
                  go_ret
                  exact ⟨rfl, HFN.out _ Bz.out⟩
              · go_wp2_with fail
                (try (rename (∀ (a : Act) (w : World), Code.wp _ _ _ a w → _) => kc1; have KC1 := And.intro (Lib.hid kc1) trivial; clear kc1))
                (try (rename (∀ (a : Act) (w : World), Code.wp _ _ _ a w → _) => kc2; have KC2 := And.intro (Lib.hid kc2) trivial; clear kc2))
                (try (rename (∀ (a : Act) (w : World), Code.wp _ _ _ a w → _) => kc3; have KC3 := And.intro (Lib.hid kc3) trivial; clear kc3))
                (try (rename (∀ (a : Act) (w : World), Code.wp _ _ _ a w → _) => kc4; have KC4 := And.intro (Lib.hid kc4) trivial; clear kc4))
                (try (rename (∀ (a : Act) (w : World), Code.wp _ _ _ a w → _) => kc5; have KC5 := And.intro (Lib.hid kc5) trivial; clear kc5))
                (try (rename (∀ (a : Act) (w : World), Code.wp _ _ _ a w → _) => kc6; have KC6 := And.intro (Lib.hid kc6) trivial; clear kc6))
                (try (rename (∀ (a : Act) (w : World), Code.wp _ _ _ a w → _) => kc7; have KC7 := And.intro (Lib.hid kc7) trivial; clear kc7))
                (try (rename (∀ (k : Nat) (a' : Act) (w' : World), _ → _) => jc1; have JC1 := And.intro (Lib.hid jc1) trivial; clear jc1))
                (try (rename (∀ (k : Nat) (a' : Act) (w' : World), _ → _) => jc2; have JC2 := And.intro (Lib.hid jc2) trivial; clear jc2))
                (try (rename (∀ (k : Nat) (a' : Act) (w' : World), _ → _) => jc3; have JC3 := And.intro (Lib.hid jc3) trivial; clear jc3))
                (try (rename (∀ (k : Nat) (a' : Act) (w' : World), _ → _) => jc4; have JC4 := And.intro (Lib.hid jc4) trivial; clear jc4))
                (try (rename (∀ (k : Nat) (a' : Act) (w' : World), _ → _) => jc5; have JC5 := And.intro (Lib.hid jc5) trivial; clear jc5))
                refine wp_region_noPanic ?_
                refine wp_region_held_drew (S := (fun W => W.cell? ⟨lb, loff + i * 3, none⟩ = some (.int .i64 lf) ∧ W.cell? ⟨lb, loff + i * 3 + 1, none⟩ = some (.int .i64 lbt) ∧ W.cell? ⟨lb, loff + k * 3, none⟩ = some (.int .i64 f) ∧ W.cell? ⟨lb, loff + k * 3 + 1, none⟩ = some (.int .i64 bt))) (by kernel_rfl) (by exact ⟨y0, y1, x0, x1⟩) (fun hHeld => ?_)
                refine wpAnyH_take (i := 0) (v := _) (by (simp only [List.getElem?_toArray, List.getElem?_cons_zero]) <;> rfl) (by kernel_rfl) (by kernel_rfl) (by kernel_rfl) (fun _ _ _ h => h) (Or.inl ⟨by rfl, fun w hSw => by ((try dsimp only at hSw); go_simp) <;> with_reducible rfl⟩) (by assumption) ?_
                (try simp only [Act.put, List.setIfInBounds_toArray, List.set_cons_zero, List.set_cons_succ])
                refine wpAnyH_take (i := 1) (v := _) (by (simp only [List.getElem?_toArray, List.getElem?_cons_succ, List.getElem?_cons_zero]) <;> rfl) (by kernel_rfl) (by kernel_rfl) (by kernel_rfl) (fun _ _ _ h => h) (Or.inl ⟨by rfl, fun w hSw => by ((try dsimp only at hSw); go_simp) <;> with_reducible rfl⟩) (by assumption) ?_
                (try simp only [Act.put, List.setIfInBounds_toArray, List.set_cons_zero, List.set_cons_succ])
                refine wpAnyH_take (i := 2) (v := _) (by (simp only [List.getElem?_toArray, List.getElem?_cons_succ, List.getElem?_cons_zero]) <;> rfl) (by kernel_rfl) (by kernel_rfl) (by kernel_rfl) (fun _ _ _ h => h) (Or.inl ⟨by rfl, fun w hSw => by ((try dsimp only at hSw); go_simp) <;> with_reducible rfl⟩) (by assumption) ?_
                (try simp only [Act.put, List.setIfInBounds_toArray, List.set_cons_zero, List.set_cons_succ])
                refine wpAnyH_take (i := 3) (v := _) (by (simp only [List.getElem?_toArray, List.getElem?_cons_succ, List.getElem?_cons_zero]) <;> rfl) (by kernel_rfl) (by kernel_rfl) (by kernel_rfl) (fun _ _ _ h => h) (Or.inl ⟨by rfl, fun w hSw => by ((try dsimp only at hSw); go_simp) <;> with_reducible rfl⟩) (by assumption) ?_
                (try simp only [Act.put, List.setIfInBounds_toArray, List.set_cons_zero, List.set_cons_succ])
                refine wpAnyH_take (i := 4) (v := _) (by (simp only [List.getElem?_toArray, List.getElem?_cons_succ, List.getElem?_cons_zero]) <;> rfl) (by kernel_rfl) (by kernel_rfl) (by kernel_rfl) (fun _ _ _ h => h) (Or.inl ⟨by rfl, fun w hSw => by ((try dsimp only at hSw); go_simp) <;> with_reducible rfl⟩) (by assumption) ?_
                (try simp only [Act.put, List.setIfInBounds_toArray, List.set_cons_zero, List.set_cons_succ])
                refine wpAnyH_take (i := 5) (v := _) (by (simp only [List.getElem?_toArray, List.getElem?_cons_succ, List.getElem?_cons_zero]) <;> rfl) (by kernel_rfl) (by kernel_rfl) (by kernel_rfl) (fun _ _ _ h => h) (Or.inl ⟨by rfl, fun w hSw => by ((try dsimp only at hSw); go_simp) <;> with_reducible rfl⟩) (by assumption) ?_
                (try simp only [Act.put, List.setIfInBounds_toArray, List.set_cons_zero, List.set_cons_succ])
                refine wpAnyH_take (i := 6) (v := _) (by (simp only [List.getElem?_toArray, List.getElem?_cons_succ, List.getElem?_cons_zero]) <;> rfl) (by kernel_rfl) (by kernel_rfl) (by kernel_rfl) (fun _ _ _ h => h) (Or.inl ⟨by rfl, fun w hSw => by ((try dsimp only at hSw); go_simp) <;> with_reducible rfl⟩) (by assumption) ?_
                (try simp only [Act.put, List.setIfInBounds_toArray, List.set_cons_zero, List.set_cons_succ])
                refine wpAnyH_take (i := 7) (v := _) (by (simp only [List.getElem?_toArray, List.getElem?_cons_succ, List.getElem?_cons_zero]) <;> rfl) (by kernel_rfl) (by kernel_rfl) (by kernel_rfl) (fun _ _ _ h => h) (Or.inl ⟨by rfl, fun w hSw => by ((try dsimp only at hSw); go_simp) <;> with_reducible rfl⟩) (by assumption) ?_
                (try simp only [Act.put, List.setIfInBounds_toArray, List.set_cons_zero, List.set_cons_succ])
                refine wpAnyH_take (i := 8) (v := _) (by (simp only [List.getElem?_toArray, List.getElem?_cons_succ, List.getElem?_cons_zero]) <;> rfl) (by kernel_rfl) (by kernel_rfl) (by kernel_rfl) (fun _ _ _ h => h) (Or.inl ⟨by rfl, fun w hSw => by ((try dsimp only at hSw); go_simp) <;> with_reducible rfl⟩) (by assumption) ?_
                (try simp only [Act.put, List.setIfInBounds_toArray, List.set_cons_zero, List.set_cons_succ])
                refine wpAnyH_take (i := 9) (v := _) (by (simp only [List.getElem?_toArray, List.getElem?_cons_succ, List.getElem?_cons_zero]) <;> rfl) (by kernel_rfl) (by kernel_rfl) (by kernel_rfl) (fun _ _ _ h => h) (Or.inl ⟨by rfl, fun w hSw => by ((try dsimp only at hSw); go_simp) <;> with_reducible rfl⟩) (by assumption) ?_
                (try simp only [Act.put, List.setIfInBounds_toArray, List.set_cons_zero, List.set_cons_succ])
                refine wpAnyH_ready (rs := [10]) (by kernel_rfl) (by simp) ?_
                refine AllReadyH.cons (by (simp only [List.getElem?_toArray, List.getElem?_cons_succ, List.getElem?_cons_zero]) <;> rfl) (fun K hK => ?_) AllReadyH.nil
                go_simp
                (go_at_call 10; refine (HI1.out _).mono ?_; rintro e wx ⟨rfl, hbx⟩; have hby : Below wr.heap.size wr wx := (Below.drew (Below.refl _ _)).trans hbx; have Bx := Lib.hid (B.out.trans (hby.mono B.out.size)); have q0 := (hby.cell (p := ⟨lb, loff + i * 3, none⟩) hlb).trans y0; have q1 := (hby.cell (p := ⟨lb, loff + i * 3 + 1, none⟩) hlb).trans y1; have q2 := (hby.cell (p := ⟨lb, loff + k * 3, none⟩) hlb).trans x0; have q3 := (hby.cell (p := ⟨lb, loff + k * 3 + 1, none⟩) hlb).trans x1; clear hbx hby)
                refine hK.out _ _ (by exact ⟨q0, q1, q2, q3⟩) (fun hHeld => ?_)
                (try simp only [Act.put, List.setIfInBounds_toArray, List.set_cons_zero, List.set_cons_succ])
                refine wpAnyH_take (i := 11) (v := _) (by (simp only [List.getElem?_toArray, List.getElem?_cons_succ, List.getElem?_cons_zero]) <;> rfl) (by kernel_rfl) (by kernel_rfl) (by kernel_rfl) (fun _ _ _ h => h) (Or.inl ⟨by rfl, fun w hSw => by ((try dsimp only at hSw); go_simp) <;> with_reducible rfl⟩) (by assumption) ?_
                (try simp only [Act.put, List.setIfInBounds_toArray, List.set_cons_zero, List.set_cons_succ])
                refine wpAnyH_take (i := 12) (v := _) (by (simp only [List.getElem?_toArray, List.getElem?_cons_succ, List.getElem?_cons_zero]) <;> rfl) (by kernel_rfl) (by kernel_rfl) (by kernel_rfl) (fun _ _ _ h => h) (Or.inr ⟨by rfl, rfl⟩) (by assumption) ?_
                (try simp only [Act.put, List.setIfInBounds_toArray, List.set_cons_zero, List.set_cons_succ])
                refine wpAnyH_take (i := 13) (v := _) (by (simp only [List.getElem?_toArray, List.getElem?_cons_succ, List.getElem?_cons_zero]) <;> rfl) (by kernel_rfl) (by kernel_rfl) (by kernel_rfl) (fun _ _ _ h => h) (Or.inr ⟨by rfl, rfl⟩) (by assumption) ?_
                (try simp only [Act.put, List.setIfInBounds_toArray, List.set_cons_zero, List.set_cons_succ])
                refine wpAnyH_take (i := 14) (v := _) (by (simp only [List.getElem?_toArray, List.getElem?_cons_succ, List.getElem?_cons_zero]) <;> rfl) (by kernel_rfl) (by kernel_rfl) (by kernel_rfl) (fun _ _ _ h => h) (Or.inr ⟨by rfl, rfl⟩) (by assumption) ?_
                (try simp only [Act.put, List.setIfInBounds_toArray, List.set_cons_zero, List.set_cons_succ])
                refine wpAnyH_take (i := 15) (v := _) (by (simp only [List.getElem?_toArray, List.getElem?_cons_succ, List.getElem?_cons_zero]) <;> rfl) (by kernel_rfl) (by kernel_rfl) (by kernel_rfl) (fun _ _ _ h => h) (Or.inr ⟨by rfl, rfl⟩) (by assumption) ?_
                (try simp only [Act.put, List.setIfInBounds_toArray, List.set_cons_zero, List.set_cons_succ])
                refine wpAnyH_take (i := 16) (v := _) (by (simp only [List.getElem?_toArray, List.getElem?_cons_succ, List.getElem?_cons_zero]) <;> rfl) (by kernel_rfl) (by kernel_rfl) (by kernel_rfl) (fun _ _ _ h => h) (Or.inr ⟨by rfl, rfl⟩) (by assumption) ?_
                (try simp only [Act.put, List.setIfInBounds_toArray, List.set_cons_zero, List.set_cons_succ])
                refine wpAnyH_take (i := 17) (v := _) (by (simp only [List.getElem?_toArray, List.getElem?_cons_succ, List.getElem?_cons_zero]) <;> rfl) (by kernel_rfl) (by kernel_rfl) (by kernel_rfl) (fun _ _ _ h => h) (Or.inr ⟨by rfl, rfl⟩) (by assumption) ?_
                (try simp only [Act.put, List.setIfInBounds_toArray, List.set_cons_zero, List.set_cons_succ])
                refine wpAnyH_take (i := 18) (v := _) (by (simp only [List.getElem?_toArray, List.getElem?_cons_succ, List.getElem?_cons_zero]) <;> rfl) (by kernel_rfl) (by kernel_rfl) (by kernel_rfl) (fun _ _ _ h => h) (Or.inr ⟨by rfl, rfl⟩) (by assumption) ?_
                (try simp only [Act.put, List.setIfInBounds_toArray, List.set_cons_zero, List.set_cons_succ])
                refine wpAnyH_take (i := 19) (v := _) (by (simp only [List.getElem?_toArray, List.getElem?_cons_succ, List.getElem?_cons_zero]) <;> rfl) (by kernel_rfl) (by kernel_rfl) (by kernel_rfl) (fun _ _ _ h => h) (Or.inr ⟨by rfl, rfl⟩) (by assumption) ?_
                (try simp only [Act.put, List.setIfInBounds_toArray, List.set_cons_zero, List.set_cons_succ])
                refine wpAnyH_take (i := 20) (v := _) (by (simp only [List.getElem?_toArray, List.getElem?_cons_succ, List.getElem?_cons_zero]) <;> rfl) (by kernel_rfl) (by kernel_rfl) (by kernel_rfl) (fun _ _ _ h => h) (Or.inr ⟨by rfl, rfl⟩) (by assumption) ?_
                (try simp only [Act.put, List.setIfInBounds_toArray, List.set_cons_zero, List.set_cons_succ])
                refine wpAnyH_take (i := 21) (v := _) (by (simp only [List.getElem?_toArray, List.getElem?_cons_succ, List.getElem?_cons_zero]) <;> rfl) (by kernel_rfl) (by kernel_rfl) (by kernel_rfl) (fun _ _ _ h => h) (Or.inr ⟨by rfl, rfl⟩) (by assumption) ?_
                (try simp only [Act.put, List.setIfInBounds_toArray, List.set_cons_zero, List.set_cons_succ])
                refine wpAnyH_take (i := 22) (v := _) (by (simp only [List.getElem?_toArray, List.getElem?_cons_succ, List.getElem?_cons_zero]) <;> rfl) (by kernel_rfl) (by kernel_rfl) (by kernel_rfl) (fun _ _ _ h => h) (Or.inr ⟨by rfl, rfl⟩) (by assumption) ?_
                (try simp only [Act.put, List.setIfInBounds_toArray, List.set_cons_zero, List.set_cons_succ])
                refine wpAnyH_take (i := 23) (v := _) (by (simp only [List.getElem?_toArray, List.getElem?_cons_succ, List.getElem?_cons_zero]) <;> rfl) (by kernel_rfl) (by kernel_rfl) (by kernel_rfl) (fun _ _ _ h => h) (Or.inl ⟨by rfl, fun w hSw => by ((try dsimp only at hSw); go_simp) <;> with_reducible rfl⟩) (by assumption) ?_
                (try simp only [Act.put, List.setIfInBounds_toArray, List.set_cons_zero, List.set_cons_succ])
                refine wpAnyH_done (by kernel_rfl) ?_ _
                refine NoPanic.normal ?_
                (try have kc7 := KC7.1.out)
                (try have kc6 := KC6.1.out)
                (try have kc5 := KC5.1.out)
                (try have kc4 := KC4.1.out)
                (try have kc3 := KC3.1.out)
                (try have kc2 := KC2.1.out)
                (try have kc1 := KC1.1.out)
                (try have jc5 := JC5.1.out)
                (try have jc4 := JC4.1.out)
                (try have jc3 := JC3.1.out)
                (try have jc2 := JC2.1.out)
                (try have jc1 := JC1.1.out)
                (try clear KC1); (try clear KC2); (try clear KC3); (try clear KC4); (try clear KC5); (try clear KC6); (try clear KC7); (try clear JC1); (try clear JC2); (try clear JC3); (try clear JC4); (try clear JC5)
                go_wp2_with fail
                go_ret
                exact ⟨rfl, HFN.out _ Bx.out⟩
end Go.Proofs.YtlpibfafpljedaaGreatDoor
