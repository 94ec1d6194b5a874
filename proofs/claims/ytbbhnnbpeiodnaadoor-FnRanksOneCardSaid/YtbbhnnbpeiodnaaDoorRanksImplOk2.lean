/- impl.RanksOk. -/
import Derived.Test.YtbbhnnbpeiodnaaDoorRanksImplOk
namespace Go.Proofs.YtbbhnnbpeiodnaaDoor
open Go.RowKit
set_option linter.unusedVariables false

set_option maxHeartbeats 4000000 in
theorem implRanksOk_any (v : Value) (r : List (List (List Int))) (w : World) (hv : GridAt w v r) :
    Calls Tryd.prog 16 #[v] w fun e w' => e = .returned (.bool (ranksOk r)) ∧ Below w.heap.size w w' := by
  obtain ⟨a, cap, rfl, hc, hm⟩ := hv.form
  obtain ⟨n, hn⟩ : ∃ n, r.length = n := ⟨_, rfl⟩
  rw [hn] at hc hv ⊢
  obtain ⟨B, hB⟩ : ∃ B, ranksOk r = B := ⟨_, rfl⟩
  rw [hB]
  have HB := Lib.hid hB
  have HN := Lib.hid hn
  have H := Lib.hid hv
  clear hB hn hv
  by_cases h3 : n = 3
  · have h3' : ((n : Int) != 3) = false := by simp; omega
    have H3 := Lib.hid h3
    clear h3
    go_enter Tryd.func16, Tryd.ntmps16
    go_wp2_with fail
    go_loopg [12] n (fun g i wr => ∃ k : Nat, i = .int .i64 k ∧ k + g = n ∧ Hid (Below w.heap.size w wr) ∧ Hid (∀ j, j < k → rankOk (r.getD j []) ((j : Int) + 1) = true))
    case atStart => exact ⟨0, rfl, by omega, Lib.hid (Below.refl _ _), Lib.hid fun j hj => by omega⟩
    case round =>
      obtain ⟨k, rfl, hk, hbe, hno⟩ := hrel
      obtain ⟨g0, rfl⟩ : ∃ g : Nat, g = gk := ⟨_, rfl⟩
      obtain ⟨wo, rfl⟩ : ∃ x : World, x = wr := ⟨_, rfl⟩
      by_cases hg : g0 = 0
      · subst hg
        obtain rfl : k = n := by omega
        have e := ranksOk_good (r := r) (fun j hj => hno.out j (by rw [HN.out] at hj; omega))
        rw [HB.out, HN.out] at e
        have hB' : B = true := by simpa [H3.out] using e
        subst hB'
        clear e
        go_wp2_with fail
        go_ret
        exact ⟨rfl, hbe.out⟩
      · have hkn : k < n := by omega
        obtain ⟨b, off, v1, rfl, hb, hx, hr⟩ := (H.out.below hbe.out).get k hkn
        obtain ⟨ra, rc, rfl, hrc, hrm⟩ := hr.form
        obtain ⟨row, hrow⟩ : ∃ row, r.getD k [] = row := ⟨_, rfl⟩
        rw [hrow] at hx hr hrc
        obtain ⟨rn, hrn⟩ : ∃ rn, row.length = rn := ⟨_, rfl⟩
        rw [hrn] at hx hr hrc
        have HROW := Lib.hid hrow
        have HRN := Lib.hid hrn
        have HR := Lib.hid hr
        have HK := Lib.hid hk
        clear hrow hrn hr hk
        by_cases hlong : 3 < rn
        · have e := HB.out
          rw [ranksOk_bad (h := k) (by rw [HN.out]; exact hkn) (by rw [HROW.out]; exact rankOk_long (by rw [HRN.out]; exact hlong))] at e
          subst e
          go_wp2_with fail
          go_ret
          exact ⟨rfl, hbe.out⟩
        · have hlong' : ¬ (3 : Int) < (rn : Int) := by omega
          go_wp2_with fail
          go_loopg [22] rn (fun g i wr => ∃ j : Nat, i = .int .i64 j ∧ j + g = rn ∧ Hid (Below wo.heap.size wo wr) ∧ Hid (∀ i, i < j → wayOk (row.getD i []) ((k : Int) + 1) = true ∧ ∀ k, k < i → row.getD k [] ≠ row.getD i []))
          case atStart => exact ⟨0, rfl, by omega, Lib.hid (Below.refl _ _), Lib.hid fun j hj => by omega⟩
          case round =>
            obtain ⟨j, rfl, hj, hbi, hno1⟩ := hrel
            by_cases hg1 : gk = 0
            · subst hg1
              obtain rfl : j = rn := by omega
              go_wp2_with fail
              go_roundg (g0 - 1)
              case measure => omega
              case rel =>
                refine ⟨k + 1, by go_num, by have := HK.out; omega, Lib.hid (hbe.out.trans (hbi.out.mono hbe.out.size)), Lib.hid fun i hi => ?_⟩
                by_cases hik : i = k
                · subst hik; rw [HROW.out]; exact rankOk_good (by rw [HRN.out]; omega) (fun i hi => hno1.out i (by rw [HRN.out] at hi; exact hi))
                · exact hno.out i (by omega)
            · have hjn : j < rn := by omega
              obtain ⟨rb, roff, v2, rfl, hrb, hx2, hi⟩ := (HR.out.below hbi.out).get j hjn
              obtain ⟨ia, ic, rfl, hic, him⟩ := hi.form
              obtain ⟨p, hp⟩ : ∃ p, row.getD j [] = p := ⟨_, rfl⟩
              rw [hp] at hx2 hi hic
              obtain ⟨pn, hpn⟩ : ∃ pn, p.length = pn := ⟨_, rfl⟩
              rw [hpn] at hx2 hi hic
              obtain ⟨wv, hwv⟩ : ∃ wv, wayOk p ((k : Int) + 1) = wv := ⟨_, rfl⟩
              have hway := ranked_any (.slice ia pn ic) p ((k : Int) + 1) wr hi
              rw [hwv] at hway
              have hper := permitted_any (.slice (some ⟨rb, roff, none⟩) j rc) (.slice ia pn ic) (row.take j) p wr ((HR.out.below hbi.out).take (by rw [HRN.out]; omega)) hi
              obtain ⟨pv, hpv⟩ : ∃ pv, decide (p ∈ row.take j) = pv := ⟨_, rfl⟩
              rw [hpv] at hper
              have HP := Lib.hid hp
              have HPV := Lib.hid hpv
              have HWV := Lib.hid hwv
              have HJ := Lib.hid hj
              have HW := Lib.hid hway
              have HPE := Lib.hid hper
              clear hp hpn hwv hi hj hway hper hpv
              cases wv
              · have e := HB.out
                rw [ranksOk_bad (h := k) (by rw [HN.out]; exact hkn) (by rw [HROW.out]; exact rankOk_badway (by rw [HRN.out]; exact hjn) (by rw [HP.out]; exact HWV.out))] at e
                subst e
                go_wp2_with (go_at_call 25; refine (HW.out).mono ?_; rintro e w1 ⟨rfl, rfl⟩)
                go_ret
                exact ⟨rfl, hbe.out.trans (hbi.out.mono hbe.out.size)⟩
              · cases pv
                · go_wp2_with (first | (go_at_call 25; refine (HW.out).mono ?_; rintro e w1 ⟨rfl, rfl⟩) | (go_at_call 26; refine (HPE.out).mono ?_; rintro e w1 ⟨rfl, hb1⟩))
                  go_roundg (gk - 1)
                  case measure => omega
                  case rel =>
                    refine ⟨j + 1, by go_num, by have := HJ.out; omega, Lib.hid (hbi.out.trans (hb1.mono hbi.out.size)), Lib.hid fun x hx => ?_⟩
                    by_cases hik : x = j
                    · subst hik
                      refine ⟨by rw [HP.out]; exact HWV.out, fun i hi e => ?_⟩
                      have := HPV.out
                      rw [decide_eq_false_iff_not] at this
                      apply this
                      rw [← HP.out, ← e]
                      have e2 : row.getD i [] = (row.take x)[i]'(by rw [List.length_take, HRN.out]; omega) := by rw [List.getElem_take]; simp [List.getElem?_eq_getElem (by rw [HRN.out]; omega : i < row.length)]
                      rw [e2]; exact List.getElem_mem _
                    · exact hno1.out x (by omega)
                · have e := HB.out
                  have hin : p ∈ row.take j := by simpa using HPV.out
                  rw [ranksOk_bad (h := k) (by rw [HN.out]; exact hkn) (by
                    rw [HROW.out]
                    obtain ⟨i, hi, e⟩ := List.getElem_of_mem hin
                    rw [List.length_take] at hi
                    refine rankOk_badsame (i := j) (k := i) (by rw [HRN.out]; exact hjn) (by omega) ?_
                    rw [HP.out, ← e, List.getElem_take]; simp [List.getElem?_eq_getElem (by omega : i < row.length)])] at e
                  subst e
                  clear hin
                  go_wp2_with (first | (go_at_call 25; refine (HW.out).mono ?_; rintro e w1 ⟨rfl, rfl⟩) | (go_at_call 26; refine (HPE.out).mono ?_; rintro e w1 ⟨rfl, hb1⟩))
                  go_ret
                  exact ⟨rfl, (hbe.out.trans (hbi.out.mono hbe.out.size)).trans (hb1.mono (Nat.le_trans hbe.out.size hbi.out.size))⟩
  · have h3' : ((n : Int) != 3) = true := by simp; omega
    have hB : B = false := by
      rw [← HB.out]
      cases hw : ranksOk r with
      | false => rfl
      | true => have := ranksOk_len hw; rw [HN.out] at this; exact absurd this h3
    subst hB
    clear h3
    go_enter Tryd.func16, Tryd.ntmps16
    go_wp2_with fail
    go_ret
    exact ⟨rfl, Below.refl _ _⟩
end Go.Proofs.YtbbhnnbpeiodnaaDoor
