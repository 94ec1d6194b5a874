/- The walk of spec.RanksOk. -/
import Derived.Test.YtbbhnnbpeiodnaaDoorRanksWay2
import Derived.Test.YtbbhnnbpeiodnaaDoorRanksCmp
import Derived.Deep.LoopGhost
import Derived.Deep.DeepCutAuto
namespace Go.Proofs.YtbbhnnbpeiodnaaDoor
open Go.RowKit
set_option linter.unusedVariables false

set_option maxHeartbeats 4000000 in
theorem specRanksOk_any (v : Value) (r : List (List (List Int))) (w : World) (hv : GridAt w v r) :
    Calls Tryd.prog 13 #[v] w fun e w' => e = .returned (.bool (ranksOk r)) ∧ Drew w w' := by
  obtain ⟨a, cap, rfl, hc, hm⟩ := hv.form
  obtain ⟨n, hn⟩ : ∃ n, r.length = n := ⟨_, rfl⟩
  rw [hn] at hc hv ⊢
  obtain ⟨B, hB⟩ : ∃ B, ranksOk r = B := ⟨_, rfl⟩
  rw [hB]
  have HB := Lib.hid hB
  have HN := Lib.hid hn
  have H := Lib.hid hv
  clear hB hn hv
  go_enter Tryd.func13, Tryd.ntmps13
  go_wp2_with fail
  go_loopg [3] n (fun g i wr => ∃ k m : Nat, i = .int .i64 k ∧ k + g = n ∧ wr = w.drewN m ∧ Hid (∀ j, j < k → rankOk (r.getD j []) ((j : Int) + 1) = true))
  case atStart => exact ⟨0, 0, rfl, by omega, rfl, Lib.hid fun j hj => by omega⟩
  case round =>
    obtain ⟨k, m, rfl, hk, rfl, hno⟩ := hrel
    obtain ⟨g0, rfl⟩ : ∃ g : Nat, g = gk := ⟨_, rfl⟩
    by_cases hg : g0 = 0
    · subst hg
      obtain rfl : k = n := by omega
      have hg := ranksOk_good (r := r) (fun j hj => hno.out j (by rw [HN.out] at hj; omega))
      rw [HB.out, HN.out] at hg
      by_cases h3 : k = 3
      · subst h3
        have hB' : B = true := by simpa using hg
        subst hB'
        clear hg
        go_wp2_with fail
        go_ret
        exact ⟨rfl, m, rfl⟩
      · have hB' : B = false := by simpa [h3] using hg
        subst hB'
        clear hg
        have h3' : ((k : Int) == 3) = false := by simp; omega
        go_wp2_with fail
        go_ret
        exact ⟨rfl, m, rfl⟩
    · have hkn : k < n := by omega
      obtain ⟨b, off, v1, rfl, hb, hx, hr⟩ := H.out.get k hkn
      obtain ⟨ra, rc, rfl, hrc, hrm⟩ := hr.form
      obtain ⟨row, hrow⟩ : ∃ row, r.getD k [] = row := ⟨_, rfl⟩
      rw [hrow] at hx hr hrc
      obtain ⟨rn, hrn⟩ : ∃ rn, row.length = rn := ⟨_, rfl⟩
      rw [hrn] at hx hr hrc
      have HROW := Lib.hid hrow
      have HRN := Lib.hid hrn
      have HR := Lib.hid hr
      have HK := Lib.hid hk
      clear hrow hrn hr hk
      go_wp2_with fail
      go_loopg [4] rn (fun g i wr => ∃ j q : Nat, i = .int .i64 j ∧ j + g = rn ∧ wr = w.drewN q ∧ Hid (∀ i, i < j → wayOk (row.getD i []) ((k : Int) + 1) = true ∧ ∀ k, k < i → row.getD k [] ≠ row.getD i []))
      case atStart => exact ⟨0, m, rfl, by omega, rfl, Lib.hid fun j hj => by omega⟩
      case round =>
        obtain ⟨j, q, rfl, hj, rfl, hno1⟩ := hrel
        obtain ⟨g1, rfl⟩ : ∃ g : Nat, g = gk := ⟨_, rfl⟩
        by_cases hg1 : g1 = 0
        · subst hg1
          obtain rfl : j = rn := by omega
          by_cases hlong : 3 < j
          · have e := HB.out
            rw [ranksOk_bad (h := k) (by rw [HN.out]; exact hkn) (by rw [HROW.out]; exact rankOk_long (by rw [HRN.out]; exact hlong))] at e
            subst e
            go_wp2_with fail
            go_ret
            exact ⟨rfl, q, rfl⟩
          · go_wp2_with fail
            go_roundg (g0 - 1)
            case measure => omega
            case rel =>
              refine ⟨k + 1, q, by go_num, by have := HK.out; omega, rfl, Lib.hid fun i hi => ?_⟩
              by_cases hik : i = k
              · subst hik; rw [HROW.out]; exact rankOk_good (by rw [HRN.out]; omega) (fun i hi => hno1.out i (by rw [HRN.out] at hi; exact hi))
              · exact hno.out i (by omega)
        · have hjn : j < rn := by omega
          obtain ⟨rb, roff, v2, rfl, hrb, hx2, hi⟩ := HR.out.get j hjn
          obtain ⟨wv, hwv⟩ : ∃ wv, wayOk (row.getD j []) ((k : Int) + 1) = wv := ⟨_, rfl⟩
          have hway : ∀ W, Drew w W → Calls Tryd.prog 24 #[v2, .int .i64 ((k : Int) + 1)] W fun e w' => e = .returned (.bool wv) ∧ Drew W w' := fun W hW => by rw [← hwv]; exact way_any _ _ _ _ (hi.drew hW)
          have HWV := Lib.hid hwv
          have HI := Lib.hid hi
          have HJ := Lib.hid hj
          have HW := Lib.hid hway
          clear hwv hi hj hway
          cases wv
          · have e := HB.out
            rw [ranksOk_bad (h := k) (by rw [HN.out]; exact hkn) (by rw [HROW.out]; exact rankOk_badway (by rw [HRN.out]; exact hjn) HWV.out)] at e
            subst e
            go_wp2_with (go_at_call 24; refine (HW.out _ ?_).mono ?_; (repeat (first | exact Drew.refl _ | assumption | refine Drew.more ?_ _)); rintro e w1 ⟨rfl, q1, rfl⟩)
            go_ret
            exact ⟨rfl, by repeat (first | exact Drew.refl _ | assumption | refine Drew.more ?_ _)⟩
          · go_wp2_with (go_at_call 24; refine (HW.out _ ?_).mono ?_; (repeat (first | exact Drew.refl _ | assumption | refine Drew.more ?_ _)); rintro e w1 ⟨rfl, q1, rfl⟩)
            go_loopg [5] j (fun g i wr => ∃ i' q : Nat, i = .int .i64 i' ∧ i' + g = j ∧ wr = w.drewN q ∧ Hid (∀ k, k < i' → row.getD k [] ≠ row.getD j []))
            case atStart => exact ⟨0, q + q1, rfl, by omega, rfl, Lib.hid fun j hj => by omega⟩
            case round =>
              obtain ⟨i, q2, rfl, hi, rfl, hno2⟩ := hrel
              by_cases hg2 : gk = 0
              · subst hg2
                obtain rfl : i = j := by omega
                go_wp2_with fail
                go_roundg (g1 - 1)
                case measure => omega
                case rel =>
                  refine ⟨i + 1, q2, by go_num, by have := HJ.out; omega, rfl, Lib.hid fun x hx => ?_⟩
                  by_cases hik : x = i
                  · subst hik; exact ⟨HWV.out, hno2.out⟩
                  · exact hno1.out x (by omega)
              · have hij : i < j := by omega
                have hijn : i < rn := by omega
                have b1 : (k : Int) < (n : Int) := by omega
                have b2 : (j : Int) < (rn : Int) := by omega
                have b3 : (i : Int) < (rn : Int) := by omega
                obtain ⟨rb', roff', v3, e, hrb', hx3, hi3⟩ := HR.out.get i hijn
                simp only [Option.some.injEq, Addr.mk.injEq] at e
                obtain ⟨rfl, rfl, _⟩ := e
                obtain ⟨c, hcc⟩ : ∃ c, cmpF (row.getD i []) (row.getD j []) = c := ⟨_, rfl⟩
                have hcmp : ∀ W, Drew w W → Calls Tryd.prog 23 #[v3, v2] W fun e w' => e = .returned (.int .i64 c) ∧ Drew W w' := fun W hW => by rw [← hcc]; exact cmp_any _ _ _ _ _ (hi3.drew hW) (HI.out.drew hW)
                have HC := Lib.hid hcc
                have HCM := Lib.hid hcmp
                have HII := Lib.hid hi
                clear hcc hcmp hi hi3
                by_cases hc0 : c = 0
                · subst hc0
                  have e := HB.out
                  rw [ranksOk_bad (h := k) (by rw [HN.out]; exact hkn) (by rw [HROW.out]; exact rankOk_badsame (by rw [HRN.out]; exact hjn) hij ((cmpF_zero _ _).1 HC.out))] at e
                  subst e
                  go_wp2_with fail
                  go_quiet ((go_at_call 23; (first | refine quietA (HCM.out _ ?_) | refine quietB (HCM.out _ ?_)); repeat (first | exact Drew.refl _ | assumption | refine Drew.more ?_ _)))
                  go_wp2_with fail
                  go_ret
                  exact ⟨rfl, by repeat (first | exact Drew.refl _ | assumption | refine Drew.more ?_ _)⟩
                · have hc0' : (c == 0) = false := by simp [hc0]
                  have HC0 := Lib.hid hc0
                  clear hc0
                  go_wp2_with fail
                  go_quiet ((go_at_call 23; (first | refine quietA (HCM.out _ ?_) | refine quietB (HCM.out _ ?_)); repeat (first | exact Drew.refl _ | assumption | refine Drew.more ?_ _)))
                  go_wp2_with fail
                  go_roundg (gk - 1)
                  case measure => omega
                  case rel =>
                    refine ⟨i + 1, q2 + nq, by go_num, by have := HII.out; omega, rfl, Lib.hid fun x hx => ?_⟩
                    by_cases hik : x = i
                    · subst hik; intro e; exact HC0.out (by rw [← HC.out]; exact (cmpF_zero _ _).2 e)
                    · exact hno2.out x (by omega)
end Go.Proofs.YtbbhnnbpeiodnaaDoor
