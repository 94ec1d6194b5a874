/- The walk of FnSendLess. -/
import Derived.Test.YtnjkifnlimfhnaaSendDraw
import Derived.Test.YtnjkifnlimfhnaaLessT
import Derived.Test.YtnjkifnlimfhnaaRanksInts
namespace Go.Proofs.Ytnjkifnlimfhnaa
open Go.RowKit
set_option linter.unusedVariables false

theorem send_less_drew {P : Program} {f : FuncId} {args : Array Value} {w : World} {v : Value} (h : Calls P f args w fun e w' => e = .returned v ∧ Drew w w') : Calls P f args w fun e w' => e = .returned v ∧ Below w.heap.size w w' := h.mono fun e w' h => ⟨h.1, h.2.below _⟩
set_option maxRecDepth 100000 in
set_option maxHeartbeats 8000000 in
theorem sendLess_walk (a : Option Addr) (len cap : Nat) (zs : List Int) (w : World) (h : IsRow .u8 w a len cap zs) :
    Calls Try.prog 3 #[.slice a len cap] w fun e w' => e = .returned (.bool true) ∧ Below w.heap.size w w' := by
  obtain ⟨hm, hc⟩ := h.bounds
  have hc' := hc
  unfold maxLen at hc'
  have H := Lib.hid h
  clear h
  go_enter Try.func3, Try.ntmps3
  by_cases hl : 1048576 < len
  · go_wp2_with fail
    go_ret
    exact ⟨rfl, Below.refl _ _⟩
  · go_wp2_with fail
    refine (drawSendWay_any _ _ _ zs _ H.out).mono ?_
    rintro e w1 ⟨v, h, ad, ls, rfl, h1, h5, a0, a6, hT, hT3, hb⟩
    obtain ⟨va, vc, e', hvc, hvm⟩ := hT.form
    subst e'
    obtain ⟨n, hn⟩ : ∃ n, ls.length = n := ⟨_, rfl⟩
    have hn5 : n ≤ 5 := by rw [← hn]; exact hT3.1
    have hspc := specSendWay_any _ ls h ad w1 hT
    have himp := fun W hW => implSendWay_any _ ls h ad W (hT.below (w' := W) hW)
    obtain ⟨way, hway⟩ : ∃ l, (wayF ls h ad).1 = l := ⟨_, rfl⟩
    obtain ⟨ok, hok⟩ : ∃ b, (wayF ls h ad).2 = b := ⟨_, rfl⟩
    have hdom : way ≠ [] → tablesOkF ls = true := fun hne => way_dom (h := h) (x := ad) (by rw [hway]; exact hne)
    have hlessway : ∀ ls', ls'.length = ls.length → (∀ i, i < ls.length → tableOkF (ls'.getD i []) = true ∧ SameF (ls'.getD i []) (ls.getD i [])) → tablesOkF ls = true → (wayF ls' h ad).1 = way ∧ (wayF ls' h ad).2 = ok := fun ls' h1 h2 h3 => by rw [wayF_less h1 h2 h3]; exact ⟨hway, hok⟩
    unfold WayPost at hspc himp
    rw [hn] at hT hvc hspc himp hlessway ⊢
    rw [hway, hok] at hspc himp
    have HDM := Lib.hid hdom
    have HLW := Lib.hid hlessway
    have HN := Lib.hid hn
    have T := Lib.hid hT
    have HSP := Lib.hid hspc
    have HIM := Lib.hid himp
    have BB := Lib.hid hb
    have HT3 := Lib.hid hT3
    clear hT hspc himp hb hT3 hn hway hok hdom hlessway
    obtain ⟨m, hm'⟩ : ∃ m, way.length = m := ⟨_, rfl⟩
    have HM := Lib.hid hm'
    clear hm'
    go_wp2_with fail
    refine HSP.out.mono ?_
    rintro e w2 ⟨v2, rfl, ho2, hb2⟩
    have O2 := Lib.hid ho2
    have B2 := Lib.hid hb2
    obtain ⟨sa, sc, e', _, _⟩ := ho2.form
    subst e'
    clear ho2 hb2
    rw [HM.out] at O2 ⊢
    go_wp2_with fail
    refine (HIM.out w2 B2.out).mono ?_
    rintro e w3 ⟨v3, rfl, ho3, hb3⟩
    have O3 := Lib.hid ho3
    have O23 := Lib.hid (O2.out.below hb3)
    have B3 := Lib.hid (B2.out.trans (hb3.mono B2.out.size))
    obtain ⟨ta, tc, e', htc, htm⟩ := ho3.form
    subst e'
    clear ho3 hb3 O2
    rw [HM.out] at O3 htc ⊢
    have hly : ∀ W, Below w3.heap.size w3 W → Calls Try.prog 7 #[.slice ta m tc, .slice sa m sc] W fun e w' => e = .returned (.bool true) ∧ Below W.heap.size W w' := fun W hW => by
      have := send_less_drew (lyInts_any _ _ way way W (O3.out.ints.below hW) (O23.out.ints.below hW)); simpa using this
    have HLY := Lib.hid hly
    have WI := Lib.hid O3.out.ints
    have hokk : (ok != ok) = false := by simp
    have hoke : (ok == ok) = true := by simp
    have hfin : ∀ W, Below w1.heap.size w1 W → Below w.heap.size w W := fun W hW => BB.out.trans (hW.mono BB.out.size)
    have HFN := Lib.hid hfin
    have HB3 := Lib.hid B3.out
    clear hfin hly B2 O23
    by_cases hm0 : m = 0
    · subst hm0
      go_wp2_with fail
      refine (HLY.out w3 (Below.refl _ _)).mono ?_
      rintro e w4 ⟨rfl, hb4⟩
      have B4 := Lib.hid (B3.out.trans (hb4.mono B3.out.size))
      have L4 := Lib.hid hb4
      clear hb4
      go_wp2_with fail
      refine (HLY.out w4 L4.out).mono ?_
      rintro e w5 ⟨rfl, hb5⟩
      have B5 := Lib.hid (B4.out.trans (hb5.mono B4.out.size))
      clear hb5
      go_wp2_with fail
      go_ret
      exact ⟨rfl, HFN.out _ B5.out⟩
    · have hmb : ((m : Int) == 0) = false := by simp [hm0]
      have hD := HDM.out (by intro e; apply hm0; rw [← HM.out, e]; rfl)
      obtain ⟨d1, d5, dall⟩ := tablesOk_at hD
      rw [HN.out] at d1 d5 dall
      have HD := Lib.hid hD
      have HDA := Lib.hid dall
      clear hD dall
      go_wp2_with fail
      refine (HLY.out w3 (Below.refl _ _)).mono ?_
      rintro e w4 ⟨rfl, hb4⟩
      have B4 := Lib.hid (B3.out.trans (hb4.mono B3.out.size))
      have O4 := Lib.hid (O3.out.below hb4)
      clear hb4
      have Z4 := Lib.hid (TabsL.zero w4)
      have A4 := Lib.hid (Below.alloc (Below.refl w4.heap.size w4) (Nat.le_refl _) (.cells #[] 30))
      go_wp2_with fail
      go_loopg [10, 11] n (fun gk s10 s11 wr => ∃ (i : Nat) (ls' : List (List Ent)), s11 = .int .i64 (i : Int) ∧ i + gk = n ∧ ls'.length = i ∧ Hid (TabsL wr w4.heap.size s10 ls') ∧ Hid (∀ j, j < i → tableOkF (ls'.getD j []) = true ∧ SameF (ls'.getD j []) (ls.getD j [])) ∧ Hid (Below w4.heap.size w4 wr))
      case atStart => exact ⟨0, [], rfl, by omega, rfl, Z4, Lib.hid (fun j hj => by omega), A4⟩
      case round =>
        clear Z4 A4
        obtain ⟨i, ls', rfl, hi, hlen, O, HA, B⟩ := hrel
        obtain ⟨oa, oc, e, hoc, hom⟩ := O.out.form
        subst e
        rw [hlen] at O hoc ⊢
        have HLEN := Lib.hid hlen
        clear hlen
        have B1r := Lib.hid (B4.out.trans (B.out.mono B4.out.size))
        have hs4 : w4.heap.size ≤ wr.heap.size := B.out.size
        by_cases hg : gk = 0
        · subst hg
          obtain rfl : i = n := by omega
          have hdn : decide ((i : Int) < (i : Int)) = false := by simp
          obtain ⟨q1, q2⟩ := HLW.out ls' (by rw [HLEN.out]) HA.out HD.out
          have hsw := implSendWay_any _ ls' h ad wr O.out.tabs
          unfold WayPost at hsw
          rw [q1, q2] at hsw
          have HSW := Lib.hid hsw
          clear hsw q1 q2
          go_wp2_with fail
          refine HSW.out.mono ?_
          rintro e w5 ⟨v5, rfl, ho5, hb5⟩
          have O5 := Lib.hid ho5
          have I5 := Lib.hid ((O4.out.below (w1 := wr) (by have := B.out; exact this)).below hb5)
          obtain ⟨za, zc, e', _, _⟩ := ho5.form
          subst e'
          have B5 := Lib.hid (B1r.out.trans (hb5.mono B1r.out.size))
          clear ho5 hb5
          rw [HM.out] at O5 ⊢
          have CL := Lib.hid (show Calls Try.prog 7 #[.slice za m zc, .slice ta m tc] w5 fun e w' => e = .returned (.bool true) ∧ Below w5.heap.size w5 w' from by have := send_less_drew (lyInts_any _ _ way way w5 O5.out.ints I5.out.ints); simpa using this)
          go_wp2_with fail
          refine CL.out.mono ?_
          rintro e w6 ⟨rfl, hb6⟩
          have B6 := Lib.hid (B5.out.trans (hb6.mono B5.out.size))
          clear hb6
          go_wp2_with fail
          go_ret
          exact ⟨rfl, HFN.out _ B6.out⟩
        · have hin : i < n := by omega
          have hiI : (i : Int) < (n : Int) := by omega
          have i0 : (0 : Int) ≤ (i : Int) := by omega
          have hgk : 1 ≤ gk := by omega
          have HI := Lib.hid hi
          obtain ⟨tb, toff, u, rfl, htb, htc', hu⟩ := (T.out.below B1r.out).get i hin
          have hcl := tableLess_any u (ls.getD i []) wr hu
          unfold LessPost at hcl
          have HC := Lib.hid hcl
          clear hcl
          clear hu hi hg
          go_wp2_with fail
          refine HC.out.mono ?_
          rintro e w5 ⟨v5, l5, rfl, hE5, hok5, hb5⟩
          have U5 := Lib.hid (hE5.lift hs4)
          obtain ⟨xa, xc, e', _, _⟩ := hE5.form
          subst e'
          have HO5 := Lib.hid (hok5 (HDA.out i hin))
          have O5 := Lib.hid (O.out.below hb5)
          have B5 := Lib.hid (B.out.trans (hb5.mono hs4))
          have hs5 : w4.heap.size ≤ w5.heap.size := B5.out.size
          clear hE5 hok5 hb5
          go_wp2_with (at_builtin; refine wpList_append_tab rfl (.tmp 66) (.tmp 72) rfl w4.heap.size _ _ ls' l5 i HLEN.out rfl O5.out hs5 _ rfl rfl U5.out ⟨_, _, _, rfl⟩ (by omega) ?_; intro ad6 c6 w6 hR6 hb6 hs6; have R6 := Lib.hid hR6; have B6 := Lib.hid (B5.out.trans hb6); clear hR6 hb6)
          go_roundg (gk - 1)
          case measure => omega
          case rel => exact ⟨i + 1, ls' ++ [l5], by go_num, by have := HI.out; omega, by rw [List.length_append, HLEN.out]; rfl, R6, Lib.hid (fun j hj => by
            by_cases hji : j = i
            · subst hji
              have e : (ls' ++ [l5]).getD j [] = l5 := by simp only [List.getD_eq_getElem?_getD]; rw [List.getElem?_append_right (by rw [HLEN.out]; omega), HLEN.out]; simp
              rw [e]; exact HO5.out
            · have e : (ls' ++ [l5]).getD j [] = ls'.getD j [] := by simp only [List.getD_eq_getElem?_getD]; rw [List.getElem?_append_left (by rw [HLEN.out]; omega)]
              rw [e]; exact HA.out j (by omega)), B6⟩
end Go.Proofs.Ytnjkifnlimfhnaa
