/- The walk of spec.l32Way. -/
import Derived.Test.YtbbhnnbpeiodnaaDoorRanksWay
import Derived.Test.YtbbhnnbpeiodnaaDoorRanksPlain
import Derived.Deep.LoopGhost
import Derived.Deep.DeepCutAuto
namespace Go.Proofs.YtbbhnnbpeiodnaaDoor
open Go.RowKit
set_option linter.unusedVariables false

set_option maxHeartbeats 2000000 in
theorem way_any (v : Value) (l : List Int) (h : Int) (w : World) (hv : IntsAt w v l) :
    Calls Tryd.prog 24 #[v, .int .i64 h] w fun e w' => e = .returned (.bool (wayOk l h)) ∧ Drew w w' := by
  obtain ⟨a, cap, rfl, hc, hm⟩ := hv.form
  obtain ⟨n, hn⟩ : ∃ n, l.length = n := ⟨_, rfl⟩
  rw [hn] at hc hv ⊢
  obtain ⟨B, hB⟩ : ∃ B, wayOk l h = B := ⟨_, rfl⟩
  rw [hB]
  have HB := Lib.hid hB
  have HN := Lib.hid hn
  have H := Lib.hid hv
  clear hB hn hv
  go_enter Tryd.func24, Tryd.ntmps24
  go_wp2_with fail
  go_loopg [5] (n - 1) (fun g i wr => ∃ k : Nat, i = .int .i64 k ∧ k + g = n - 1 ∧ Hid (Drew w wr) ∧ Hid (∀ j, j < k → stepOk l j = true))
  case atStart => exact ⟨0, rfl, by omega, Lib.hid (Drew.refl _), fun j hj => by omega⟩
  case round =>
    obtain ⟨k, rfl, hk, hd, hno⟩ := hrel
    have HR : Hid (IntsAt wr (.slice a n cap) l) := Lib.hid (H.out.below (hd.out.below _))
    by_cases hg : gk = 0
    · subst hg
      have hg := wayOk_good (p := l) (h := h) (fun j hj => hno.out j (by rw [HN.out] at hj; omega))
      rw [HB.out, HN.out] at hg
      by_cases h2 : 2 ≤ n
      · obtain ⟨b, off, rfl, hb, hx⟩ := HR.out.get 0 (by omega)
        obtain ⟨b', off', e, hb', hy⟩ := HR.out.get (n - 1) (by omega)
        simp only [Option.some.injEq, Addr.mk.injEq] at e
        obtain ⟨rfl, rfl, _⟩ := e
        have hkk : k = n - 1 := by omega
        subst hkk
        obtain ⟨y0, hy0⟩ : ∃ y, l.getD 0 0 = y := ⟨_, rfl⟩
        obtain ⟨y1, hy1⟩ : ∃ y, l.getD (n - 1) 0 = y := ⟨_, rfl⟩
        rw [hy0] at hx hg
        rw [Nat.add_zero] at hx
        rw [hy1] at hy hg
        obtain ⟨q, rfl⟩ : ∃ q, n = q + 2 := ⟨n - 2, by omega⟩
        have e1 : q + 2 - 1 = q + 1 := by omega
        rw [e1] at hy
        clear hy0 hy1 e1 hk
        have hB : B = (decide (y0 = h) && decide (y1 = 0)) := by rw [hg]; simp
        clear hg
        have ht : decide ((2 : Int) ≤ ((q + 2 : Nat) : Int)) = true := by simp; omega
        by_cases c0 : y0 = h
        · subst c0
          by_cases c1 : y1 = 0
          · subst c1
            have hB' : B = true := by simpa using hB
            subst hB'
            clear hB
            go_wp2_with fail
            go_ret
            exact ⟨rfl, hd.out⟩
          · have hB' : B = false := by simpa [c1] using hB
            subst hB'
            clear hB
            have c1' : (y1 == 0) = false := by simp [c1]
            go_wp2_with fail
            go_ret
            exact ⟨rfl, hd.out⟩
        · have hB' : B = false := by simpa [c0] using hB
          subst hB'
          clear hB
          have c0' : (y0 == h) = false := by simp [c0]
          go_wp2_with fail
          go_ret
          exact ⟨rfl, hd.out⟩
      · have hB' : B = false := by rw [hg]; simp [h2]
        subst hB'
        clear hg
        have ht : decide ((2 : Int) ≤ (n : Int)) = false := by simp; omega
        have hkk : k = n - 1 := by omega
        subst hkk
        have hq : ¬ ((n - 1 : Nat) : Int) + 1 < (n : Int) := by omega
        go_wp2_with fail
        go_ret
        exact ⟨rfl, hd.out⟩
    · have hkn : k < n := by omega
      have hkn2 : (k : Int) + 1 < (n : Int) := by omega
      obtain ⟨b, off, rfl, hb, hx⟩ := HR.out.get k hkn
      have hsub : ∀ q, IntsAt (wr.drewN q) (.slice (some ⟨b, off, none⟩) k cap) (l.take k) := fun q => (HR.out.take (by rw [HN.out]; omega)).below (belowDrewN (Below.refl _ _) q)
      have hH : ∀ q, Calls Tryd.prog 37 #[.slice (some ⟨b, off, none⟩) k cap, .int .i64 (l.getD k 0)] (wr.drewN q) fun e w' => e = .returned (.bool (decide (l.getD k 0 ∈ l.take k))) ∧ w' = wr.drewN q := fun q => has_any _ _ _ _ (hsub q)
      obtain ⟨y, hy⟩ : ∃ y, l.getD k 0 = y := ⟨_, rfl⟩
      rw [hy] at hx hH
      obtain ⟨c, hcc⟩ : ∃ c, decide (y ∈ l.take k) = c := ⟨_, rfl⟩
      rw [hcc] at hH
      have hst : stepOk l k = (decide (1 ≤ y) && decide (y ≤ 3) && !c) := by unfold stepOk; rw [hy, ← hcc]; simp
      have HK := Lib.hid hk
      have hI := fun w => in_any y 1 3 w
      obtain ⟨d, hdd⟩ : ∃ d, (decide (1 ≤ y) && decide (y ≤ 3)) = d := ⟨_, rfl⟩
      rw [hdd] at hI hst
      have HST := Lib.hid hst
      have HH := Lib.hid hH
      have HI := Lib.hid hI
      clear hst hH hsub hy hcc hk hI hdd
      cases d
      · have e := HB.out
        rw [wayOk_bad (k := k) (by rw [HN.out]; omega) (by rw [HST.out]; rfl)] at e
        subst e
        go_wp2_with fail
        go_quiet (first | (go_at_call 14; exact Calls.quiet_of_same (HI.out _)) | (go_at_call 37; exact Calls.quiet_of_same (HH.out _)))
        go_wp2_with fail
        go_ret
        exact ⟨rfl, hd.out.more _⟩
      · cases c
        · go_wp2_with fail
          go_quiet (first | (go_at_call 14; exact Calls.quiet_of_same (HI.out _)) | (go_at_call 37; exact Calls.quiet_of_same (HH.out _)))
          go_wp2_with fail
          go_roundg (gk - 1)
          case measure => omega
          case rel =>
            refine ⟨k + 1, by go_num, by have := HK.out; omega, Lib.hid (hd.out.more _), fun j hj => ?_⟩
            by_cases hjk : j = k
            · subst hjk; rw [HST.out]; rfl
            · exact hno.out j (by omega)
        · have e := HB.out
          rw [wayOk_bad (k := k) (by rw [HN.out]; omega) (by rw [HST.out]; rfl)] at e
          subst e
          go_wp2_with fail
          go_quiet (first | (go_at_call 14; exact Calls.quiet_of_same (HI.out _)) | (go_at_call 37; exact Calls.quiet_of_same (HH.out _)))
          go_wp2_with fail
          go_ret
          exact ⟨rfl, hd.out.more _⟩
end Go.Proofs.YtbbhnnbpeiodnaaDoor
