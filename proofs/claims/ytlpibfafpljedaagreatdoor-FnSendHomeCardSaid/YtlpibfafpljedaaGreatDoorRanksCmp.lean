/- spec.l3Cmp: 0 just at two slices of the same numbers. -/
import Derived.Test.YtlpibfafpljedaaGreatDoorRanksInts
import Derived.Deep.LoopGhost
import Derived.Deep.QuietTactic
import Derived.BigQuiet
namespace Go.Proofs.YtlpibfafpljedaaGreatDoor
open Go.RowKit
set_option linter.unusedVariables false

set_option maxHeartbeats 1000000 in
theorem cmp_any (v v2 : Value) (l l2 : List Int) (w : World) (h : IntsAt w v l) (h2 : IntsAt w v2 l2) :
    Calls Tryz.prog 74 #[v, v2] w fun e w' => e = .returned (.int .i64 (cmpF l l2)) ∧ Drew w w' := by
  obtain ⟨a, cap, rfl, hc, hm, h⟩ := h
  obtain ⟨a2, cap2, rfl, hc2, hm2, h2⟩ := h2
  unfold maxLen at hm hm2
  obtain ⟨n, hn⟩ : ∃ n, l.length = n := ⟨_, rfl⟩
  obtain ⟨n2, hn2⟩ : ∃ n, l2.length = n := ⟨_, rfl⟩
  rw [hn] at hc h ⊢
  rw [hn2] at hc2 h2 ⊢
  obtain ⟨c, hcc⟩ : ∃ c, cmpF l l2 = c := ⟨_, rfl⟩
  rw [hcc]
  have HC := Lib.hid hcc
  have HN := Lib.hid hn
  have HN2 := Lib.hid hn2
  have H := Lib.hid h
  have H2 := Lib.hid h2
  clear hn hn2 h h2 hcc
  by_cases hnn : n = n2
  · subst hnn
    go_enter Tryz.func74, Tryz.ntmps74
    go_wp2_with fail
    go_loopg [5] n (fun g i wr => ∃ k m : Nat, i = .int .i64 k ∧ k + g = n ∧ wr = w.drewN m ∧ Hid (∀ j, j < k → l.getD j 0 = l2.getD j 0))
    case atStart => exact ⟨0, 0, rfl, by omega, rfl, fun j hj => by omega⟩
    case round =>
      obtain ⟨k, m, rfl, hk, rfl, hno⟩ := hrel
      by_cases hg : gk = 0
      · subst hg
        obtain rfl : k = n := by omega
        have e := HC.out
        rw [cmpF_same (by rw [HN.out, HN2.out]) (by rw [HN.out]; exact hno.out)] at e
        subst e
        go_wp2_with fail
        go_ret
        exact ⟨rfl, m, rfl⟩
      · have hkn : k < n := by omega
        have hkn2 : (k : Int) < (n : Int) := by omega
        rcases H.out with h0 | ⟨b, off, rfl, hb, hcell⟩
        · omega
        · rcases H2.out with h0 | ⟨b2, off2, rfl, hb2, hcell2⟩
          · omega
          · have hx := hcell k hkn
            have hx2 := hcell2 k hkn
            clear hcell hcell2
            obtain ⟨y, hy⟩ : ∃ y, l.getD k 0 = y := ⟨_, rfl⟩
            obtain ⟨y2, hy2⟩ : ∃ y, l2.getD k 0 = y := ⟨_, rfl⟩
            rw [hy] at hx
            rw [hy2] at hx2
            have HY := Lib.hid hy
            have HY2 := Lib.hid hy2
            have HK := Lib.hid hk
            clear hy hy2 hk
            by_cases hyx : y = y2
            · have hlt1 : ¬ y < y2 := by omega
              have hlt2 : ¬ y2 < y := by omega
              have HE := Lib.hid hyx
              clear hyx
              go_wp2_with fail
              go_quiet (fail)
              revert nq
              intro q1
              go_wp2_with fail
              go_quiet (fail)
              go_wp2_with fail
              go_roundg (gk - 1)
              case measure => omega
              case rel =>
                refine ⟨k + 1, m + q1 + nq, by go_num, by have := HK.out; omega, rfl, fun j hj => ?_⟩
                by_cases hjk : j = k
                · subst hjk; rw [HY.out, HY2.out]; exact HE.out
                · exact hno.out j (by omega)
            · by_cases hlt : y < y2
              · have e := HC.out
                rw [cmpF_lt (k := k) (by rw [HN.out, HN2.out]) (by rw [HN.out]; exact hkn) hno.out (by rw [HY.out, HY2.out]; exact hlt)] at e
                subst e
                go_wp2_with fail
                go_quiet (fail)
                go_wp2_with fail
                go_ret
                exact ⟨rfl, by repeat (first | exact Drew.refl _ | assumption | refine Drew.more ?_ _)⟩
              · have hgt : y2 < y := by omega
                have e := HC.out
                rw [cmpF_gt (k := k) (by rw [HN.out, HN2.out]) (by rw [HN.out]; exact hkn) hno.out (by rw [HY.out, HY2.out]; exact hgt)] at e
                subst e
                go_wp2_with fail
                go_quiet (fail)
                go_wp2_with fail
                go_quiet (fail)
                go_wp2_with fail
                go_ret
                exact ⟨rfl, by repeat (first | exact Drew.refl _ | assumption | refine Drew.more ?_ _)⟩
  · have hne : ¬ ((n : Int) = (n2 : Int)) := by omega
    have e := HC.out
    unfold cmpF at e
    rw [HN.out, HN2.out] at e
    by_cases hlt : (n : Int) < (n2 : Int)
    · rw [if_pos (by omega)] at e
      subst e
      go_enter Tryz.func74, Tryz.ntmps74
      go_wp2_with fail
      go_ret
      exact ⟨rfl, Drew.refl _⟩
    · rw [if_neg (by omega), if_pos (by omega)] at e
      subst e
      go_enter Tryz.func74, Tryz.ntmps74
      go_wp2_with fail
      go_ret
      exact ⟨rfl, Drew.refl _⟩
end Go.Proofs.YtlpibfafpljedaaGreatDoor
