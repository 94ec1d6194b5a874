/- spec.l3Has: whether a number is among such. -/
import Derived.Test.YtlpibfafpljedaaGreatDoorNest
import Derived.Deep.LoopGhost
namespace Go.Proofs.YtlpibfafpljedaaGreatDoor
open Go.RowKit
set_option linter.unusedVariables false

set_option maxHeartbeats 1000000 in
theorem has_any (v : Value) (l : List Int) (x : Int) (w : World) (h : IntsAt w v l) :
    Calls Tryz.prog 81 #[v, .int .i64 x] w fun e w' => e = .returned (.bool (decide (x ∈ l))) ∧ w' = w := by
  obtain ⟨a, cap, rfl, hc, hm, h⟩ := h
  unfold maxLen at hm
  obtain ⟨n, hn⟩ : ∃ n, l.length = n := ⟨_, rfl⟩
  rw [hn] at hc h ⊢
  obtain ⟨B, hB⟩ : ∃ B, decide (x ∈ l) = B := ⟨_, rfl⟩
  rw [hB]
  have HB := Lib.hid hB
  have HN := Lib.hid hn
  have H := Lib.hid h
  clear hB hn h
  go_enter Tryz.func81, Tryz.ntmps81
  go_wp2_with fail
  go_loopg [5] n (fun g i wr => ∃ k : Nat, i = .int .i64 k ∧ k + g = n ∧ wr = w ∧ Hid (∀ j, j < k → l.getD j 0 ≠ x))
  case atStart => exact ⟨0, rfl, by omega, rfl, fun j hj => by omega⟩
  case round =>
    obtain ⟨k, rfl, hk, rfl, hno⟩ := hrel
    by_cases hg : gk = 0
    · subst hg
      obtain rfl : k = n := by omega
      have hB : B = false := by
        rw [← HB.out, decide_eq_false_iff_not]
        intro hx
        obtain ⟨j, hj, he⟩ := List.getElem_of_mem hx
        exact hno.out j (by rw [HN.out] at hj; exact hj) (by simp [List.getElem?_eq_getElem hj, he])
      subst hB
      go_wp2_with fail
      go_ret
      exact ⟨rfl, rfl⟩
    · have hkn : k < n := by omega
      rcases H.out with h0 | ⟨b, off, rfl, hb, hcell⟩
      · omega
      · have hx := hcell k hkn
        clear hcell
        obtain ⟨y, hy⟩ : ∃ y, l.getD k 0 = y := ⟨_, rfl⟩
        rw [hy] at hx
        have HY := Lib.hid hy
        have HK := Lib.hid hk
        clear hy hk
        by_cases hyx : y = x
        · subst hyx
          have hB : B = true := by
            rw [← HB.out, decide_eq_true_eq, ← HY.out]
            have hlt : k < l.length := by rw [HN.out]; exact hkn
            simp [List.getElem?_eq_getElem hlt]
          subst hB
          go_wp2_with fail
          go_ret
          exact ⟨rfl, rfl⟩
        · have hyx' : (y == x) = false := by simp [hyx]
          go_wp2_with fail
          go_roundg (gk - 1)
          case measure => omega
          case rel =>
            refine ⟨k + 1, by go_num, by have := HK.out; omega, rfl, fun j hj => ?_⟩
            by_cases hjk : j = k
            · subst hjk; rw [HY.out]; exact hyx
            · exact hno.out j (by omega)
end Go.Proofs.YtlpibfafpljedaaGreatDoor
