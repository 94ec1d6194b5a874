/- impl.isState: waysOk, of ranks of three houses. -/
import Derived.Test.YtlkchhedlbaomaaRanksSl2
namespace Go.Proofs.Ytlkchhedlbaomaa
open Go.RowKit
set_option linter.unusedVariables false

set_option maxHeartbeats 4000000 in
theorem isState_any (v u : Value) (r : List (List (List Int))) (ways : List (List Int)) (w : World) (hv : GridAt w v r) (hu : RowsAt w u ways) (hr3 : r.length = 3) :
    Calls Try.prog 62 #[v, u] w fun e w' => e = .returned (.bool (waysOk r ways)) ∧ Below w.heap.size w w' := by
  obtain ⟨a, cap, rfl, hc, hm⟩ := hv.form
  obtain ⟨ua, uc, rfl, huc, hum⟩ := hu.form
  obtain ⟨B, hB⟩ : ∃ B, waysOk r ways = B := ⟨_, rfl⟩
  rw [hB]
  obtain ⟨n, hn⟩ : ∃ n, ways.length = n := ⟨_, rfl⟩
  rw [hn] at huc hu ⊢
  rw [hr3] at hc hv ⊢
  have HB := Lib.hid hB
  have HN := Lib.hid hn
  have HR3 := Lib.hid hr3
  have H := Lib.hid hv
  have U := Lib.hid hu
  clear hB hn hv hu hr3
  by_cases h3 : n = 3
  · subst h3
    go_enter Try.func62, Try.ntmps62
    go_wp2_with fail
    go_loopg [12] 3 (fun g i wr => ∃ k : Nat, i = .int .i64 k ∧ k + g = 3 ∧ Hid (Below w.heap.size w wr) ∧ Hid (∀ j, j < k → stateOk (r.getD j []) (ways.getD j []) = true))
    case atStart => exact ⟨0, rfl, by omega, Lib.hid (Below.refl _ _), Lib.hid fun j hj => by omega⟩
    case round =>
      obtain ⟨k, rfl, hk, hbe, hno⟩ := hrel
      by_cases hg : gk = 0
      · subst hg
        obtain rfl : k = 3 := by omega
        have e := waysOk_good (r := r) (ways := ways) (by rw [HN.out, HR3.out]) (fun j hj => hno.out j (by rw [HN.out] at hj; omega))
        rw [HB.out] at e
        subst e
        go_wp2_with fail
        go_ret
        exact ⟨rfl, hbe.out⟩
      · have hkn : k < 3 := by omega
        obtain ⟨b, off, v1, rfl, hb, hx, hr⟩ := (H.out.below hbe.out).get k hkn
        obtain ⟨ra, rc, rfl, hrc, hrm⟩ := hr.form
        obtain ⟨ub, uoff, v2, rfl, hub, hux, hp⟩ := (U.out.below hbe.out).get k hkn
        obtain ⟨pa, pc, rfl, hpc, hpm⟩ := hp.form
        obtain ⟨row, hrow⟩ : ∃ row, r.getD k [] = row := ⟨_, rfl⟩
        obtain ⟨p, hpp⟩ : ∃ p, ways.getD k [] = p := ⟨_, rfl⟩
        rw [hrow] at hx hr hrc
        rw [hpp] at hux hp hpc
        have hper := permitted_any _ _ _ _ wr hr hp
        obtain ⟨rn, hrn⟩ : ∃ rn, row.length = rn := ⟨_, rfl⟩
        obtain ⟨pn, hpn⟩ : ∃ pn, p.length = pn := ⟨_, rfl⟩
        rw [hrn, hpn] at hper
        rw [hrn] at hx hrc
        rw [hpn] at hux hpc
        obtain ⟨c, hcc⟩ : ∃ c, decide (p ∈ row) = c := ⟨_, rfl⟩
        rw [hcc] at hper
        have hst : stateOk row p = (decide (pn = 0) || c) := by
          unfold stateOk
          rw [hcc]
          have : decide (p = []) = decide (pn = 0) := by rw [← hpn]; simp
          rw [this]
        have HST := Lib.hid hst
        have HROW := Lib.hid hrow
        have HPP := Lib.hid hpp
        have HPER := Lib.hid hper
        have HK := Lib.hid hk
        clear hst hrow hpp hper hk hr hp hrn hpn hcc
        by_cases hp0 : pn = 0
        · subst hp0
          go_wp2_with fail
          go_roundg (gk - 1)
          case measure => omega
          case rel =>
            refine ⟨k + 1, by go_num, by have := HK.out; omega, hbe, Lib.hid fun i hi => ?_⟩
            by_cases hik : i = k
            · subst hik; rw [HROW.out, HPP.out, HST.out]; rfl
            · exact hno.out i (by omega)
        · have hp1 : (0 : Int) < (pn : Int) := by omega
          have hp2 : 0 < pn := by omega
          cases c
          · have e := HB.out
            rw [waysOk_bad (h := k) (by rw [HN.out]; exact hkn) (by rw [HROW.out, HPP.out, HST.out]; simp [hp0])] at e
            subst e
            go_wp2_with (go_at_call 54; refine (HPER.out).mono ?_; rintro e w1 ⟨rfl, hb1⟩)
            go_ret
            exact ⟨rfl, hbe.out.trans (hb1.mono hbe.out.size)⟩
          · go_wp2_with (go_at_call 54; refine (HPER.out).mono ?_; rintro e w1 ⟨rfl, hb1⟩)
            go_roundg (gk - 1)
            case measure => omega
            case rel =>
              refine ⟨k + 1, by go_num, by have := HK.out; omega, Lib.hid (hbe.out.trans (hb1.mono hbe.out.size)), Lib.hid fun i hi => ?_⟩
              by_cases hik : i = k
              · subst hik; rw [HROW.out, HPP.out, HST.out]; simp
              · exact hno.out i (by omega)
  · have h3' : ((n : Int) != 3) = true := by simp; omega
    have hB : B = false := by rw [← HB.out]; exact waysOk_len (by rw [HN.out, HR3.out]; exact h3)
    subst hB
    clear h3
    go_enter Try.func62, Try.ntmps62
    go_wp2_with fail
    go_ret
    exact ⟨rfl, Below.refl _ _⟩
end Go.Proofs.Ytlkchhedlbaomaa
