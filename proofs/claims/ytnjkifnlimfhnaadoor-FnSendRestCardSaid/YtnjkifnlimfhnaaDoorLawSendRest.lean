/- The walk of FnSendRest. -/
import Derived.Test.YtnjkifnlimfhnaaDoorRestP
namespace Go.Proofs.YtnjkifnlimfhnaaDoor
open Go.RowKit
set_option linter.unusedVariables false

theorem rem_small (x L : Nat) (h1 : 1 ≤ L) (h4 : L ≤ 1000) : ∃ k : Nat, k < L ∧ (x : Int).tmod (L : Int) = (k : Int) ∧ IntKind.i64.wrap (k : Int) = (k : Int) := by
  have hk := Nat.mod_lt x (show L > 0 by omega)
  refine ⟨x % L, hk, ?_, IntWalk.i64_in _ (by omega)⟩
  rw [Int.tmod_eq_emod_of_nonneg (by omega)]; rfl
set_option maxRecDepth 100000 in
set_option maxHeartbeats 8000000 in
theorem sendRest_walk (a : Option Addr) (len cap : Nat) (zs : List Int) (a2 : Option Addr) (len2 cap2 : Nat) (zs2 : List Int) (w : World) (h : IsRow .u8 w a len cap zs) (hh2 : IsRow .u8 w a2 len2 cap2 zs2) (hE : ErrOk w) :
    Calls Tryd.prog 5 #[.slice a len cap, .slice a2 len2 cap2] w fun e w' => e = .returned (.bool true) ∧ Below w.heap.size w w' := by
  obtain ⟨hm, hc⟩ := h.bounds
  obtain ⟨hm2, hc2⟩ := hh2.bounds
  have hc' := hc
  unfold maxLen at hc'
  have hc2' := hc2
  unfold maxLen at hc2'
  have H := Lib.hid h
  have HE := Lib.hid hE
  clear h hh2 hE
  go_enter Tryd.func5, Tryd.ntmps5
  by_cases hl : 1048576 < len
  · go_wp2_with fail
    go_ret
    exact ⟨rfl, Below.refl _ _⟩
  by_cases hl2 : 1048576 < len2
  · go_wp2_with fail
    go_ret
    exact ⟨rfl, Below.refl _ _⟩
  · go_wp2_with fail
    refine (drawSendWay_any _ _ _ zs _ H.out).mono ?_
    rintro e w1 ⟨v, h, ad, ls, rfl, h1, h5, a0, a6, hT, hT3, hb⟩
    obtain ⟨va, vc, e', hvc, hvm⟩ := hT.form
    subst e'
    obtain ⟨n, hn⟩ : ∃ n, ls.length = n := ⟨_, rfl⟩
    have hn5 : n ≤ 5 := by rw [← hn]; exact hT3.1
    have hspc := specSendWay_any _ ls h ad w1 hT
    have himp := fun W hW y => implSendWay_any _ ls y ad W (hT.below (w' := W) hW)
    have hrst := way_rest (ls := ls) (h := h) (x := ad) (by omega)
    have hshort := way_facts ls h ad
    obtain ⟨way, hway⟩ : ∃ l, (wayF ls h ad).1 = l := ⟨_, rfl⟩
    obtain ⟨ok, hok⟩ : ∃ b, (wayF ls h ad).2 = b := ⟨_, rfl⟩
    have hml : way.length ≤ 6 := by
      rcases hshort with e | ⟨last, _, h2, _⟩
      · rw [e] at hway; rw [← hway]; simp
      · rw [hway] at h2; omega
    have himp0 : ∀ W, Below w1.heap.size w1 W → Calls Tryd.prog 15 #[.slice va ls.length vc, .int .i64 h, .int .i64 ad] W fun e w' => ∃ v, e = .returned (.tuple #[v, .bool ok]) ∧ OwnInts w' W.heap.size v way ∧ Below W.heap.size W w' := fun W hW => by
      have := himp W hW h
      unfold WayPost at this
      rw [hway, hok] at this
      exact this
    have himp1 : ok = true → ∀ k, k < way.length → ∀ W, Below w1.heap.size w1 W → Calls Tryd.prog 15 #[.slice va ls.length vc, .int .i64 (way.getD k 0), .int .i64 ad] W fun e w' => ∃ v, e = .returned (.tuple #[v, .bool true]) ∧ OwnInts w' W.heap.size v (way.drop k) ∧ Below W.heap.size W w' := fun ht k hk W hW => by
      have := himp W hW (way.getD k 0)
      unfold WayPost at this
      have h2 := (hrst (by rw [hok]; exact ht)).2.2 k (by rw [hway]; exact hk)
      rw [hway] at h2
      rw [h2] at this
      exact this
    have hgood : ok = true → GoodP way ∧ 1 ≤ way.length := fun ht => by
      have h2 := hrst (by rw [hok]; exact ht)
      rw [hway] at h2
      exact ⟨h2.1, h2.2.1⟩
    unfold WayPost at hspc
    rw [hn] at hT hvc hspc himp0 himp1 ⊢
    rw [hway, hok] at hspc
    have HSP := Lib.hid hspc
    have HIM := Lib.hid himp0
    have HI1 := Lib.hid himp1
    have HGO := Lib.hid hgood
    have BB := Lib.hid hb
    clear hT hspc himp himp0 himp1 hb hT3 hn hway hok hrst hshort hgood
    obtain ⟨m, hm'⟩ : ∃ m, way.length = m := ⟨_, rfl⟩
    rw [hm'] at hml
    have HM := Lib.hid hm'
    clear hm'
    go_wp2_with fail
    refine HSP.out.mono ?_
    rintro e w2 ⟨v2, rfl, ho2, hb2⟩
    have O2 := Lib.hid ho2
    have B2 := Lib.hid hb2
    obtain ⟨sa, sc, e', _, _⟩ := ho2.form
    subst e'
    clear ho2 hb2
    rw [HM.out] at O2 ⊢
    go_wp2_with fail
    refine (HIM.out w2 B2.out).mono ?_
    rintro e w3 ⟨v3, rfl, ho3, hb3⟩
    have O3 := Lib.hid ho3
    have O23 := Lib.hid (O2.out.below hb3)
    have B3 := Lib.hid (B2.out.trans (hb3.mono B2.out.size))
    obtain ⟨ta, tc, e', htc, htm⟩ := ho3.form
    subst e'
    clear ho3 hb3 O2
    rw [HM.out] at O3 htc ⊢
    have hly : ∀ W, Below w3.heap.size w3 W → Calls Tryd.prog 16 #[.slice ta m tc, .slice sa m sc] W fun e w' => e = .returned (.bool true) ∧ Below W.heap.size W w' := fun W hW => by
      have := send_drew (lyInts_any _ _ way way W (O3.out.ints.below hW) (O23.out.ints.below hW)); simpa using this
    have HLY := Lib.hid hly
    have WI := Lib.hid O3.out.ints
    have hokk : (ok != ok) = false := by simp
    have hoke : (ok == ok) = true := by simp
    have hfin : ∀ W, Below w1.heap.size w1 W → Below w.heap.size w W := fun W hW => BB.out.trans (hW.mono BB.out.size)
    have HFN := Lib.hid hfin
    clear hfin hly B2 O3 O23
    by_cases hm0 : m = 0
    · subst hm0
      go_wp2_with fail
      refine (HLY.out w3 (Below.refl _ _)).mono ?_
      rintro e w4 ⟨rfl, hb4⟩
      have B4 := Lib.hid (B3.out.trans (hb4.mono B3.out.size))
      have L4 := Lib.hid hb4
      clear hb4
      go_wp2_with fail
      refine (HLY.out w4 L4.out).mono ?_
      rintro e w5 ⟨rfl, hb5⟩
      have B5 := Lib.hid (B4.out.trans (hb5.mono B4.out.size))
      clear hb5
      go_wp2_with fail
      go_ret
      exact ⟨rfl, HFN.out _ B5.out⟩
    · have hmb : ((m : Int) == 0) = false := by simp [hm0]
      have hmI : (m : Int) ≠ 0 := by omega
      cases ok
      · go_wp2_with fail
        refine (HLY.out w3 (Below.refl _ _)).mono ?_
        rintro e w4 ⟨rfl, hb4⟩
        have B4 := Lib.hid (B3.out.trans (hb4.mono B3.out.size))
        clear hb4
        go_wp2_with fail
        go_ret
        exact ⟨rfl, HFN.out _ B4.out⟩
      · obtain ⟨k, hk, hr1, hr2⟩ := rem_small len2 m (by omega) (by omega)
        have hkI : (k : Int) < (m : Int) := by omega
        have k0 : (0 : Int) ≤ (k : Int) := by omega
        have HRS := Lib.hid (HI1.out rfl k (by rw [HM.out]; exact hk))
        have HGD := Lib.hid (HGO.out rfl).1
        obtain ⟨x, hx⟩ : ∃ x, way.getD k 0 = x := ⟨_, rfl⟩
        rw [hx] at HRS
        have HX := Lib.hid hx
        clear hx HGO HI1 HIM HSP
        go_wp2_with fail
        refine (HLY.out w3 (Below.refl _ _)).mono ?_
        rintro e w4 ⟨rfl, hb4⟩
        have B4 := Lib.hid (B3.out.trans (hb4.mono B3.out.size))
        have L4 := Lib.hid hb4
        clear hb4
        obtain ⟨tb, toff, rfl, htb, z0⟩ := (WI.out.below L4.out).get k hk
        rw [HX.out] at z0
        go_wp2_with fail
        refine (HRS.out w4 B4.out).mono ?_
        rintro e w5 ⟨v5, rfl, ho5, hb5⟩
        have hdl : (way.drop k).length = m - k := by rw [List.length_drop, HM.out]
        obtain ⟨ra, rc, e', hrc, hrm⟩ := ho5.form
        subst e'
        rw [hdl] at ho5 hrc ⊢
        have B5 := Lib.hid (B4.out.trans (hb5.mono B4.out.size))
        have L5 := Lib.hid (L4.out.trans (hb5.mono L4.out.size))
        have W5 := Lib.hid (WI.out.below (L4.out.trans (hb5.mono L4.out.size)))
        have hly2 : ∀ c : Option Addr, IntsAt w5 (.slice c (m - k) (tc - k)) (way.drop k) → Calls Tryd.prog 16 #[.slice ra (m - k) rc, .slice c (m - k) (tc - k)] w5 fun e w' => e = .returned (.bool true) ∧ Below w5.heap.size w5 w' := fun c hcc => by
          have := send_drew (lyInts_any _ _ (way.drop k) (way.drop k) w5 ho5.ints hcc); simpa using this
        have HL2 := Lib.hid (hly2 _ (W5.out.dropIf (k := k) (by omega)))
        have hpok : ∀ W, Below w3.heap.size w3 W → Calls Tryd.prog 17 #[.slice (some ⟨tb, toff, none⟩) m tc] W fun e w' => e = .returned (.bool true) ∧ Below W.heap.size W w' := fun W hW => pathOk_good _ way W (WI.out.below hW) HGD.out ((HE.out.below (HFN.out _ B3.out)).below hW)
        have HPO := Lib.hid hpok
        clear ho5 hb5 hly2 hpok hdl
        by_cases hck : tc = k
        · exfalso; omega
        · rw [if_neg hck] at HL2
          go_wp2_with fail
          refine HL2.out.mono ?_
          rintro e w6 ⟨rfl, hb6⟩
          have B6 := Lib.hid (B5.out.trans (hb6.mono B5.out.size))
          have L6 := Lib.hid (L5.out.trans (hb6.mono L5.out.size))
          clear hb6
          go_wp2_with fail
          refine (HPO.out w6 L6.out).mono ?_
          rintro e w7 ⟨rfl, hb7⟩
          have B7 := Lib.hid (B6.out.trans (hb7.mono B6.out.size))
          clear hb7
          go_wp2_with fail
          go_ret
          exact ⟨rfl, HFN.out _ B7.out⟩
end Go.Proofs.YtnjkifnlimfhnaaDoor
