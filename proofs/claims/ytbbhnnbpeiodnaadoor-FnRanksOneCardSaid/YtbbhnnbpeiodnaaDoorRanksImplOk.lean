/- impl.ranked, impl.RanksOk, impl.isState. -/
import Derived.Test.YtbbhnnbpeiodnaaDoorRanksSl2
import Derived.Test.YtbbhnnbpeiodnaaDoorRanksWay
namespace Go.Proofs.YtbbhnnbpeiodnaaDoor
open Go.RowKit
set_option linter.unusedVariables false

set_option maxHeartbeats 2000000 in
theorem ranked_any (v : Value) (l : List Int) (h : Int) (w : World) (hv : IntsAt w v l) :
    Calls Tryd.prog 25 #[v, .int .i64 h] w fun e w' => e = .returned (.bool (wayOk l h)) ∧ w' = w := by
  obtain ⟨a, cap, rfl, hc, hm⟩ := hv.form
  obtain ⟨n, hn⟩ : ∃ n, l.length = n := ⟨_, rfl⟩
  rw [hn] at hc hv ⊢
  obtain ⟨B, hB⟩ : ∃ B, wayOk l h = B := ⟨_, rfl⟩
  rw [hB]
  have HB := Lib.hid hB
  have HN := Lib.hid hn
  have H := Lib.hid hv
  clear hB hn hv
  by_cases h2 : 2 ≤ n
  · obtain ⟨b, off, rfl, hb, hx⟩ := H.out.get 0 (by omega)
    obtain ⟨b', off', e, hb', hy⟩ := H.out.get (n - 1) (by omega)
    simp only [Option.some.injEq, Addr.mk.injEq] at e
    obtain ⟨rfl, rfl, _⟩ := e
    obtain ⟨y0, hy0⟩ : ∃ y, l.getD 0 0 = y := ⟨_, rfl⟩
    obtain ⟨y1, hy1⟩ : ∃ y, l.getD (n - 1) 0 = y := ⟨_, rfl⟩
    have hbad : y0 ≠ h ∨ y1 ≠ 0 → B = false := by
      intro ho
      rw [← HB.out]
      cases hw : wayOk l h with
      | false => rfl
      | true =>
        obtain ⟨_, g1, g2⟩ := wayOk_ends hw
        rw [HN.out] at g2
        rw [hy0] at g1
        rw [hy1] at g2
        rcases ho with ho | ho
        · exact absurd g1 ho
        · exact absurd g2 ho
    rw [hy0, Nat.add_zero] at hx
    rw [hy1] at hy
    have HY0 := Lib.hid hy0
    have HY1 := Lib.hid hy1
    clear hy0 hy1
    obtain ⟨q, rfl⟩ : ∃ q, n = q + 2 := ⟨n - 2, by omega⟩
    have e1 : q + 2 - 1 = q + 1 := by omega
    rw [e1] at hy
    clear e1
    by_cases c0 : y0 = h
    · subst c0
      by_cases c1 : y1 = 0
      · subst c1
        clear hbad
        go_enter Tryd.func25, Tryd.ntmps25
        go_wp2_with fail
        go_loopg [31] (q + 1) (fun g i wr => ∃ k : Nat, i = .int .i64 k ∧ k + g = q + 1 ∧ wr = w ∧ Hid (∀ j, j < k → stepOk l j = true))
        case atStart => exact ⟨0, rfl, by omega, rfl, Lib.hid fun j hj => by omega⟩
        case round =>
          obtain ⟨k, rfl, hk, rfl, hno⟩ := hrel
          by_cases hg : gk = 0
          · subst hg
            obtain rfl : k = q + 1 := by omega
            have e := wayOk_good (p := l) (h := y0) (fun j hj => hno.out j (by rw [HN.out] at hj; omega))
            have hb1 := HY1.out
            rw [HB.out, HN.out, HY0.out, hb1] at e
            have hB' : B = true := by simpa using e
            subst hB'
            clear e hb1
            go_wp2_with fail
            go_ret
            exact ⟨rfl, rfl⟩
          · have hkn : k < q + 1 := by omega
            obtain ⟨b'', off'', e, hb'', hz⟩ := H.out.get k (by omega)
            simp only [Option.some.injEq, Addr.mk.injEq] at e
            obtain ⟨rfl, rfl, _⟩ := e
            obtain ⟨y, hy'⟩ : ∃ y, l.getD k 0 = y := ⟨_, rfl⟩
            rw [hy'] at hz
            obtain ⟨c, hcc⟩ : ∃ c, decide (y ∈ l.take k) = c := ⟨_, rfl⟩
            have hcon := slContains_any (.slice (some ⟨b, off, none⟩) k cap) (l.take k) y wr (H.out.take (by rw [HN.out]; omega))
            rw [hcc] at hcon
            have hst : stepOk l k = (decide (1 ≤ y) && decide (y ≤ 3) && !c) := by unfold stepOk; rw [hy', ← hcc]; simp
            have HST := Lib.hid hst
            have HC := Lib.hid hcon
            have HK := Lib.hid hk
            clear hst hcc hcon hk hy'
            by_cases l1 : y < 1
            · have e := HB.out
              rw [wayOk_bad (k := k) (by rw [HN.out]; omega) (by rw [HST.out]; simp; omega)] at e
              subst e
              go_wp2_with fail
              go_ret
              exact ⟨rfl, rfl⟩
            · by_cases l3 : 3 < y
              · have e := HB.out
                rw [wayOk_bad (k := k) (by rw [HN.out]; omega) (by rw [HST.out]; simp; omega)] at e
                subst e
                go_wp2_with fail
                go_ret
                exact ⟨rfl, rfl⟩
              · cases c
                · go_wp2_with (go_at_call 38; refine (HC.out).mono ?_; rintro e w' ⟨rfl, rfl⟩)
                  go_roundg (gk - 1)
                  case measure => omega
                  case rel =>
                    refine ⟨k + 1, by go_num, by have := HK.out; omega, rfl, Lib.hid fun j hj => ?_⟩
                    by_cases hjk : j = k
                    · subst hjk; rw [HST.out]; simp; omega
                    · exact hno.out j (by omega)
                · have e := HB.out
                  rw [wayOk_bad (k := k) (by rw [HN.out]; omega) (by rw [HST.out]; simp)] at e
                  subst e
                  go_wp2_with (go_at_call 38; refine (HC.out).mono ?_; rintro e w' ⟨rfl, rfl⟩)
                  go_ret
                  exact ⟨rfl, rfl⟩
      · have e := hbad (.inr c1)
        subst e
        clear hbad
        have c1' : (y1 != 0) = true := by simp [c1]
        go_enter Tryd.func25, Tryd.ntmps25
        go_wp2_with fail
        go_ret
        exact ⟨rfl, rfl⟩
    · have e := hbad (.inl c0)
      subst e
      clear hbad
      have c0' : (y0 != h) = true := by simp [c0]
      go_enter Tryd.func25, Tryd.ntmps25
      go_wp2_with fail
      go_ret
      exact ⟨rfl, rfl⟩
  · have hB : B = false := by
      rw [← HB.out]
      cases hw : wayOk l h with
      | false => rfl
      | true => obtain ⟨g1, _⟩ := wayOk_ends hw; rw [HN.out] at g1; omega
    subst hB
    have hlt : (n : Int) - 1 < 1 := by omega
    go_enter Tryd.func25, Tryd.ntmps25
    go_wp2_with fail
    go_ret
    exact ⟨rfl, rfl⟩
end Go.Proofs.YtbbhnnbpeiodnaaDoor
