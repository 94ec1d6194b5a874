/- laws.lyWays, laws.lyRank. -/
import Derived.Test.YtbbhnnbpeiodnaaDoorRanksInts
namespace Go.Proofs.YtbbhnnbpeiodnaaDoor
open Go.RowKit
set_option linter.unusedVariables false

set_option maxHeartbeats 2000000 in
theorem lyWays_any (v v2 : Value) (l l2 : List (List Int)) (w : World) (h : RowsAt w v l) (h2 : RowsAt w v2 l2) :
    Calls Tryd.prog 7 #[v, v2] w fun e w' => e = .returned (.bool (decide (l = l2))) ∧ Drew w w' := by
  obtain ⟨a, cap, rfl, hc, hm⟩ := h.form
  obtain ⟨a2, cap2, rfl, hc2, hm2⟩ := h2.form
  obtain ⟨n, hn⟩ : ∃ n, l.length = n := ⟨_, rfl⟩
  obtain ⟨n2, hn2⟩ : ∃ n, l2.length = n := ⟨_, rfl⟩
  rw [hn] at hc h ⊢
  rw [hn2] at hc2 h2 ⊢
  obtain ⟨B, hB⟩ : ∃ B, decide (l = l2) = B := ⟨_, rfl⟩
  rw [hB]
  have HB := Lib.hid hB
  have HN := Lib.hid hn
  have HN2 := Lib.hid hn2
  have H := Lib.hid h
  have H2 := Lib.hid h2
  clear hB hn hn2 h h2
  by_cases hnn : n = n2
  · subst hnn
    go_enter Tryd.func7, Tryd.ntmps7
    go_wp2_with fail
    go_loopg [5] n (fun g i wr => ∃ k m : Nat, i = .int .i64 k ∧ k + g = n ∧ wr = w.drewN m ∧ Hid (∀ j, j < k → l.getD j [] = l2.getD j []))
    case atStart => exact ⟨0, 0, rfl, by omega, rfl, Lib.hid fun j hj => by omega⟩
    case round =>
      obtain ⟨k, m, rfl, hk, rfl, hno⟩ := hrel
      by_cases hg : gk = 0
      · subst hg
        obtain rfl : k = n := by omega
        have hB : B = true := by
          rw [← HB.out, decide_eq_true_eq]
          apply List.ext_getElem (by rw [HN.out, HN2.out])
          intro j h1 h2
          have := hno.out j (by rw [← HN.out]; exact h1)
          simpa [List.getElem?_eq_getElem h1, List.getElem?_eq_getElem h2] using this
        subst hB
        go_wp2_with fail
        go_ret
        exact ⟨rfl, m, rfl⟩
      · have hkn : k < n := by omega
        have hkn2 : (k : Int) < (n : Int) := by omega
        obtain ⟨b, off, u, rfl, hb, hx, hu⟩ := H.out.get k hkn
        obtain ⟨b2, off2, u2, rfl, hb2, hx2, hu2⟩ := H2.out.get k hkn
        obtain ⟨c, hcc⟩ : ∃ c, decide (l.getD k [] = l2.getD k []) = c := ⟨_, rfl⟩
        have heq : ∀ W, Drew w W → Calls Tryd.prog 20 #[u, u2] W fun e w' => e = .returned (.bool c) ∧ Drew W w' := fun W hW => by rw [← hcc]; exact lyInts_any _ _ _ _ _ (hu.drew hW) (hu2.drew hW)
        have HC := Lib.hid hcc
        have HEQ := Lib.hid heq
        have HK := Lib.hid hk
        clear hcc heq hk hu hu2
        cases c
        · have hB : B = false := by
            rw [← HB.out, decide_eq_false_iff_not]
            intro e
            have := HC.out
            rw [e] at this
            simp at this
          subst hB
          go_wp2_with fail
          go_quiet ((go_at_call 20; (first | refine quietA (HEQ.out _ ?_) | refine quietB (HEQ.out _ ?_)); repeat (first | exact Drew.refl _ | assumption | refine Drew.more ?_ _)))
          go_wp2_with fail
          go_ret
          exact ⟨rfl, by repeat (first | exact Drew.refl _ | assumption | refine Drew.more ?_ _)⟩
        · go_wp2_with fail
          go_quiet ((go_at_call 20; (first | refine quietA (HEQ.out _ ?_) | refine quietB (HEQ.out _ ?_)); repeat (first | exact Drew.refl _ | assumption | refine Drew.more ?_ _)))
          go_wp2_with fail
          go_roundg (gk - 1)
          case measure => omega
          case rel =>
            refine ⟨k + 1, m + nq, by go_num, by have := HK.out; omega, rfl, Lib.hid fun j hj => ?_⟩
            by_cases hjk : j = k
            · subst hjk; exact of_decide_eq_true HC.out
            · exact hno.out j (by omega)
  · have hB : B = false := by
      rw [← HB.out, decide_eq_false_iff_not]
      intro e
      apply hnn
      rw [← HN.out, ← HN2.out, e]
    subst hB
    have hne : ¬ ((n : Int) = (n2 : Int)) := by omega
    go_enter Tryd.func7, Tryd.ntmps7
    go_wp2_with fail
    go_ret
    exact ⟨rfl, Drew.refl _⟩

set_option maxHeartbeats 1000000 in
theorem lyRank_any (v u : Value) (ll : List (List Int)) (l : List Int) (w : World) (h : RowsAt w v ll) (hu : IntsAt w u l) :
    Calls Tryd.prog 8 #[v, u] w fun e w' => e = .returned (.int .i64 (idxP (fun x => decide (x = l)) ll)) ∧ Drew w w' := by
  obtain ⟨a, cap, rfl, hc, hm⟩ := h.form
  obtain ⟨ua, uc, rfl, huc, hum⟩ := hu.form
  obtain ⟨n, hn⟩ : ∃ n, ll.length = n := ⟨_, rfl⟩
  rw [hn] at hc h ⊢
  obtain ⟨B, hB⟩ : ∃ B, idxP (fun x => decide (x = l)) ll = B := ⟨_, rfl⟩
  rw [hB]
  have HB := Lib.hid hB
  have HN := Lib.hid hn
  have H := Lib.hid h
  have U := Lib.hid hu
  clear hB hn h hu
  go_enter Tryd.func8, Tryd.ntmps8
  go_wp2_with fail
  go_loopg [5] n (fun g i wr => ∃ k m : Nat, i = .int .i64 k ∧ k + g = n ∧ wr = w.drewN m ∧ Hid (∀ j, j < k → decide (ll.getD j [] = l) = false))
  case atStart => exact ⟨0, 0, rfl, by omega, rfl, Lib.hid fun j hj => by omega⟩
  case round =>
    obtain ⟨k, m, rfl, hk, rfl, hno⟩ := hrel
    by_cases hg : gk = 0
    · subst hg
      obtain rfl : k = n := by omega
      have e := HB.out
      rw [idxP_miss [] (by rw [HN.out]; exact hno.out)] at e
      subst e
      go_wp2_with fail
      go_ret
      exact ⟨rfl, m, rfl⟩
    · have hkn : k < n := by omega
      obtain ⟨b, off, v2, rfl, hb, hx, hp⟩ := H.out.get k hkn
      obtain ⟨c, hcc⟩ : ∃ c, decide (ll.getD k [] = l) = c := ⟨_, rfl⟩
      have hcall : ∀ W, Drew w W → Calls Tryd.prog 20 #[v2, .slice ua l.length uc] W fun e w' => e = .returned (.bool c) ∧ Drew W w' := fun W hW => by
        rw [← hcc]; exact lyInts_any _ _ _ _ _ (hp.drew hW) (U.out.drew hW)
      have HC := Lib.hid hcc
      have HK := Lib.hid hk
      have HCALL := Lib.hid hcall
      clear hcc hk hcall hp
      cases c
      · go_wp2_with (go_at_call 20; refine (HCALL.out _ ?_).mono ?_; (repeat (first | exact Drew.refl _ | assumption | refine Drew.more ?_ _)); rintro e w' ⟨rfl, q', rfl⟩)
        go_roundg (gk - 1)
        case measure => omega
        case rel =>
          refine ⟨k + 1, m + q', by go_num, by have := HK.out; omega, rfl, Lib.hid fun j hj => ?_⟩
          by_cases hjk : j = k
          · subst hjk; exact HC.out
          · exact hno.out j (by omega)
      · have e := HB.out
        rw [idxP_hit [] (by rw [HN.out]; exact hkn) HC.out hno.out] at e
        subst e
        go_wp2_with (go_at_call 20; refine (HCALL.out _ ?_).mono ?_; (repeat (first | exact Drew.refl _ | assumption | refine Drew.more ?_ _)); rintro e w' ⟨rfl, q', rfl⟩)
        go_ret
        exact ⟨rfl, by repeat (first | exact Drew.refl _ | assumption | refine Drew.more ?_ _)⟩
end Go.Proofs.YtbbhnnbpeiodnaaDoor
