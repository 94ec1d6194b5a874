/- The walk of FnSendNext. -/
import Derived.Test.YtgpdkplpneklgaaSendDraw
import Derived.Test.YtgpdkplpneklgaaSendS
namespace Go.Proofs.Ytgpdkplpneklgaa
open Go.RowKit
set_option linter.unusedVariables false

theorem send_find {ls : List (List Ent)} {h x : Int} (h1 : 1 ≤ h) (hl : h ≤ (ls.length : Int)) (h5 : ls.length ≤ 5) (hok : ∀ i, i < ls.length → tableOkF (ls.getD i []) = true) : sendF ls h x = findF (ls.getD (h - 1).toNat []) x := by
  unfold sendF findF
  rw [tablesOk_good (by omega) h5 hok, hok (h - 1).toNat (by omega)]
  by_cases ha : addrF x = true
  · rw [if_pos ⟨rfl, h1, hl, ha⟩, if_pos ⟨rfl, ha⟩]
  · rw [if_neg (fun h => ha h.2.2.2), if_neg (fun h => ha h.2)]
theorem send_bad {ls : List (List Ent)} {h x : Int} {i : Nat} (hi : i < ls.length) (hb : tableOkF (ls.getD i []) = false) : sendF ls h x = 0 := by
  unfold sendF
  rw [if_neg]
  intro h'
  have := (tablesOk_at h'.1).2.2 i hi
  rw [hb] at this
  cases this
set_option maxRecDepth 100000 in
set_option maxHeartbeats 8000000 in
theorem sendNext_walk (a : Option Addr) (len cap : Nat) (zs : List Int) (w : World) (h : IsRow .u8 w a len cap zs) :
    Calls Try.prog 7 #[.slice a len cap] w fun e w' => e = .returned (.bool true) ∧ Below w.heap.size w w' := by
  obtain ⟨hm, hc⟩ := h.bounds
  have hc' := hc
  unfold maxLen at hc'
  have H := Lib.hid h
  clear h
  go_enter Try.func7, Try.ntmps7
  by_cases hl : 1048576 < len
  · go_wp2_with fail
    go_ret
    exact ⟨rfl, Below.refl _ _⟩
  · go_wp2_with fail
    refine (drawSendNext_any _ _ _ zs _ H.out).mono ?_
    rintro e w1 ⟨v, h, ad, ls, rfl, h1, h5, a0, a6, hT, hT3, hb⟩
    obtain ⟨va, vc, e', hvc, hvm⟩ := hT.form
    subst e'
    obtain ⟨n, hn⟩ : ∃ n, ls.length = n := ⟨_, rfl⟩
    have hn5 : n ≤ 5 := by rw [← hn]; exact hT3.1
    rw [hn] at hT hvc ⊢
    obtain ⟨R, hR⟩ : ∃ R, sendF ls h ad = R := ⟨_, rfl⟩
    have himp := implSendNext_any _ ls h ad w1 hT
    have hspc : ∀ W, Below w1.heap.size w1 W → Calls Try.prog 19 #[.slice va n vc, .int .i64 h, .int .i64 ad] W fun e w' => e = .returned (.int .i64 R) ∧ Below W.heap.size W w' := fun W hW => by rw [← hR]; exact specSendNext_any _ ls h ad W (hT.below hW)
    rw [hR] at himp
    have hfin : ∀ W u, Below w1.heap.size w1 W → EntsAt W u (ls.getD (h - 1).toNat []) → Calls Try.prog 31 #[u, .int .i64 ad] W fun e w' => e = .returned (.int .i64 (findF (ls.getD (h - 1).toNat []) ad)) ∧ Below W.heap.size W w' := fun W u _ hu => tableFind_any u _ ad W hu
    have hbad : ∀ i, i < n → tableOkF (ls.getD i []) = false → R = 0 := fun i hi hb => by rw [← hR]; exact send_bad (by omega) hb
    have hgood : h ≤ (n : Int) → (∀ i, i < n → tableOkF (ls.getD i []) = true) → R = findF (ls.getD (h - 1).toNat []) ad := fun hh hall => by rw [← hR]; exact send_find h1 (by omega) (by omega) (fun i hi => hall i (by omega))
    have T := Lib.hid hT
    have HIM := Lib.hid himp
    have HSP := Lib.hid hspc
    have HFI := Lib.hid hfin
    have HBD := Lib.hid hbad
    have HGD := Lib.hid hgood
    have BB := Lib.hid hb
    clear hT himp hspc hfin hbad hgood hb hR hT3 hn
    go_wp2_with fail
    refine HIM.out.mono ?_
    rintro e w2 ⟨rfl, hb2⟩
    have B2 := Lib.hid hb2
    clear hb2
    go_wp2_with fail
    refine (HSP.out w2 B2.out).mono ?_
    rintro e w3 ⟨rfl, hb3⟩
    have B3 := Lib.hid (B2.out.trans (hb3.mono B2.out.size))
    have hRR : (R != R) = false := by simp
    have hRE : (R == R) = true := by simp
    clear hb3
    have hfin : ∀ W, Below w1.heap.size w1 W → Below w.heap.size w W := fun W hW => BB.out.trans (hW.mono BB.out.size)
    have HFN := Lib.hid hfin
    clear hfin
    by_cases hn0 : n = 0
    · subst hn0
      go_wp2_with fail
      refine (HSP.out w3 B3.out).mono ?_
      rintro e w4 ⟨rfl, hb4⟩
      have B4 := Lib.hid (B3.out.trans (hb4.mono B3.out.size))
      clear hb4
      go_wp2_with fail
      go_ret
      exact ⟨by simp, HFN.out _ B4.out⟩
    · have hnb : ((n : Int) == 0) = false := by simp [hn0]
      by_cases hhn : (n : Int) < h
      · go_wp2_with fail
        refine (HSP.out w3 B3.out).mono ?_
        rintro e w4 ⟨rfl, hb4⟩
        have B4 := Lib.hid (B3.out.trans (hb4.mono B3.out.size))
        clear hb4
        go_wp2_with fail
        go_ret
        exact ⟨by simp, HFN.out _ B4.out⟩
      · have hhd : decide ((n : Int) < h) = false := decide_eq_false hhn
        go_wp2_with fail
        go_loopg [7] n (fun gk s wr => ∃ i : Nat, s = .int .i64 (i : Int) ∧ i + gk = n ∧ Hid (∀ j, j < i → tableOkF (ls.getD j []) = true) ∧ Hid (Below w1.heap.size w1 wr))
        case atStart => exact ⟨0, rfl, by omega, Lib.hid fun j hj => by omega, B3⟩
        case round =>
          clear B2 B3
          obtain ⟨i, rfl, hi, hall, B⟩ := hrel
          by_cases hg : gk = 0
          · subst hg
            obtain rfl : i = n := by omega
            have hdn : decide ((i : Int) < (i : Int)) = false := by simp
            obtain ⟨q, hq⟩ : ∃ q : Nat, h = (q : Int) + 1 := ⟨(h - 1).toNat, by omega⟩
            subst hq
            have hqn : q < i := by omega
            have hqI : (q : Int) < (i : Int) := by omega
            have q0 : (0 : Int) ≤ (q : Int) := by omega
            have e1 : (q : Int) + 1 - 1 = (q : Int) := by omega
            have eq1 : ((q : Int) + 1 - 1).toNat = q := by omega
            obtain ⟨tb, toff, u, rfl, htb, htc, hu⟩ := (T.out.below B.out).get q hqn
            have hR2 := HGD.out (by omega) hall.out
            have hcall := HFI.out wr u B.out (by rw [eq1]; exact hu)
            rw [← hR2] at hcall
            have HC := Lib.hid hcall
            clear hcall hR2 hu eq1
            go_wp2_with fail
            refine HC.out.mono ?_
            rintro e w4 ⟨rfl, hb4⟩
            have B4 := Lib.hid (B.out.trans (hb4.mono B.out.size))
            clear hb4
            go_wp2_with fail
            go_ret
            exact ⟨by simp, HFN.out _ B4.out⟩
          · have hin : i < n := by omega
            have hiI : (i : Int) < (n : Int) := by omega
            have i0 : (0 : Int) ≤ (i : Int) := by omega
            have hgk : 1 ≤ gk := by omega
            have HI := Lib.hid hi
            obtain ⟨tb, toff, u, rfl, htb, htc, hu⟩ := (T.out.below B.out).get i hin
            obtain ⟨d, hd⟩ : ∃ d, tableOkF (ls.getD i []) = d := ⟨_, rfl⟩
            have hcall := implTableOk_any u (ls.getD i []) wr hu
            rw [hd] at hcall
            have HC := Lib.hid hcall
            have HD := Lib.hid hd
            clear hcall hu hd hi hg
            go_wp2_with fail
            refine HC.out.mono ?_
            rintro e w4 ⟨rfl, hb4⟩
            have B4 := Lib.hid (B.out.trans (hb4.mono B.out.size))
            clear hb4
            cases d
            · have hR0 := HBD.out i hin HD.out
              subst hR0
              go_wp2_with fail
              go_ret
              exact ⟨rfl, HFN.out _ B4.out⟩
            · go_wp2_with fail
              go_roundg (gk - 1)
              case measure => omega
              case rel => exact ⟨i + 1, by go_num, by have := HI.out; omega, Lib.hid fun j hj => by
                by_cases hji : j = i
                · subst hji; exact HD.out
                · exact hall.out j (by omega), B4⟩
end Go.Proofs.Ytgpdkplpneklgaa
