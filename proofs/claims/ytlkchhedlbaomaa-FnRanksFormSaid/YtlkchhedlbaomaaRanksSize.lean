/- The laws' own measures and comparisons of slices: szIntS.., eqIntS... -/
import Derived.Test.YtlkchhedlbaomaaRanksCopy
import Derived.Deep.LoopGhost
import Derived.Deep.QuietTactic
import Derived.BigQuiet
namespace Go.Proofs.Ytlkchhedlbaomaa
open Go.RowKit
set_option linter.unusedVariables false

/-- what is left, or -1 -/
def SzPost (small : Prop) (left : Int) (w : World) (e : Ending) (w' : World) : Prop := ∃ k : Int, e = .returned (.int .i64 k) ∧ k ≤ left ∧ -1 ≤ k ∧ (0 ≤ k → small) ∧ w' = w
set_option maxHeartbeats 1000000 in
theorem szIntS_any (v : Value) (l : List Int) (left : Int) (w : World) (h : IntsAt w v l) (h0 : 0 ≤ left) (h1 : left ≤ 1048576) :
    Calls Try.prog 69 #[v, .int .i64 left] w (SzPost (Small1 l) left w) := by
  obtain ⟨a, cap, rfl, hc, hm⟩ := h.form
  have hs : (0 ≤ left - l.length → Small1 l) := fun h => by unfold Small1; omega
  obtain ⟨n, hn⟩ : ∃ n, l.length = n := ⟨_, rfl⟩
  rw [hn] at hc h hs ⊢
  have HS := Lib.hid hs
  clear hs h hn
  go_enter Try.func69, Try.ntmps69
  by_cases hlt : left - (n : Int) < 0
  · go_wp2_with fail
    go_ret
    exact ⟨-1, rfl, by omega, by omega, fun h => by omega, rfl⟩
  · go_wp2_with fail
    go_ret
    exact ⟨left - n, rfl, by omega, by omega, HS.out, rfl⟩

set_option maxHeartbeats 1000000 in
theorem szIntSS_any (v : Value) (l : List (List Int)) (left : Int) (w : World) (h : RowsAt w v l) (h0 : 0 ≤ left) (h1 : left ≤ 1048576) :
    Calls Try.prog 37 #[v, .int .i64 left] w (SzPost (Small2 l) left w) := by
  obtain ⟨a, cap, rfl, hc, hm⟩ := h.form
  obtain ⟨n, hn⟩ : ∃ n, l.length = n := ⟨_, rfl⟩
  rw [hn] at hc h ⊢
  have HN := Lib.hid hn
  have H := Lib.hid h
  clear hn h
  by_cases hlt : left - (n : Int) < 0
  · go_enter Try.func37, Try.ntmps37
    go_wp2_with fail
    go_ret
    exact ⟨-1, rfl, by omega, by omega, fun h => by omega, rfl⟩
  · have hnl : n ≤ 1048576 := by omega
    go_enter Try.func37, Try.ntmps37
    go_wp2_with fail
    go_loopg [1, 5] n (fun g s i wr => ∃ (k : Nat) (r : Int), i = .int .i64 k ∧ s = .int .i64 r ∧ k + g = n ∧ 0 ≤ r ∧ r ≤ left ∧ wr = w ∧ Hid (∀ i, i < k → Small1 (l.getD i [])))
    case atStart => exact ⟨0, left - n, rfl, rfl, by omega, by omega, by omega, rfl, Lib.hid fun i hi => by omega⟩
    case round =>
      obtain ⟨k, r, rfl, rfl, hk, r0, r1, rfl, hsm⟩ := hrel
      by_cases hg : gk = 0
      · subst hg
        obtain rfl : k = n := by omega
        go_wp2_with fail
        go_ret
        exact ⟨r, rfl, r1, by omega, fun _ => ⟨by rw [HN.out]; exact hnl, fun i hi => hsm.out i (by rw [← HN.out]; exact hi)⟩, rfl⟩
      · have hkl : k < n := by omega
        obtain ⟨b, off, v2, rfl, hb, hx, hin⟩ := H.out.get k hkl
        have hcall := szIntS_any v2 (l.getD k []) r wr hin r0 (by omega)
        have HC := Lib.hid hcall
        have HK := Lib.hid hk
        clear hk hcall hin
        go_wp2_with fail
        refine (HC.out).mono ?_
        rintro e w1 ⟨q, rfl, q1, q2, hq, rfl⟩
        have HQ := Lib.hid hq
        clear hq
        by_cases hq0 : q < 0
        · go_wp2_with fail
          go_ret
          exact ⟨-1, rfl, by omega, by omega, fun h => by omega, rfl⟩
        · go_wp2_with fail
          go_roundg (gk - 1)
          case measure => omega
          case rel =>
            refine ⟨k + 1, q, by go_num, rfl, by have := HK.out; omega, by omega, by omega, rfl, Lib.hid fun i hi => ?_⟩
            by_cases hik : i = k
            · subst hik; exact HQ.out (by omega)
            · exact hsm.out i (by omega)

set_option maxHeartbeats 1000000 in
theorem szIntSSS_any (v : Value) (l : List (List (List Int))) (left : Int) (w : World) (h : GridAt w v l) (h0 : 0 ≤ left) (h1 : left ≤ 1048576) :
    Calls Try.prog 22 #[v, .int .i64 left] w (SzPost (Small3 l) left w) := by
  obtain ⟨a, cap, rfl, hc, hm⟩ := h.form
  obtain ⟨n, hn⟩ : ∃ n, l.length = n := ⟨_, rfl⟩
  rw [hn] at hc h ⊢
  have HN := Lib.hid hn
  have H := Lib.hid h
  clear hn h
  by_cases hlt : left - (n : Int) < 0
  · go_enter Try.func22, Try.ntmps22
    go_wp2_with fail
    go_ret
    exact ⟨-1, rfl, by omega, by omega, fun h => by omega, rfl⟩
  · have hnl : n ≤ 1048576 := by omega
    go_enter Try.func22, Try.ntmps22
    go_wp2_with fail
    go_loopg [1, 5] n (fun g s i wr => ∃ (k : Nat) (r : Int), i = .int .i64 k ∧ s = .int .i64 r ∧ k + g = n ∧ 0 ≤ r ∧ r ≤ left ∧ wr = w ∧ Hid (∀ i, i < k → Small2 (l.getD i [])))
    case atStart => exact ⟨0, left - n, rfl, rfl, by omega, by omega, by omega, rfl, Lib.hid fun i hi => by omega⟩
    case round =>
      obtain ⟨k, r, rfl, rfl, hk, r0, r1, rfl, hsm⟩ := hrel
      by_cases hg : gk = 0
      · subst hg
        obtain rfl : k = n := by omega
        go_wp2_with fail
        go_ret
        exact ⟨r, rfl, r1, by omega, fun _ => ⟨by rw [HN.out]; exact hnl, fun i hi => hsm.out i (by rw [← HN.out]; exact hi)⟩, rfl⟩
      · have hkl : k < n := by omega
        obtain ⟨b, off, v2, rfl, hb, hx, hin⟩ := H.out.get k hkl
        have hcall := szIntSS_any v2 (l.getD k []) r wr hin r0 (by omega)
        have HC := Lib.hid hcall
        have HK := Lib.hid hk
        clear hk hcall hin
        go_wp2_with fail
        refine (HC.out).mono ?_
        rintro e w1 ⟨q, rfl, q1, q2, hq, rfl⟩
        have HQ := Lib.hid hq
        clear hq
        by_cases hq0 : q < 0
        · go_wp2_with fail
          go_ret
          exact ⟨-1, rfl, by omega, by omega, fun h => by omega, rfl⟩
        · go_wp2_with fail
          go_roundg (gk - 1)
          case measure => omega
          case rel =>
            refine ⟨k + 1, q, by go_num, rfl, by have := HK.out; omega, by omega, by omega, rfl, Lib.hid fun i hi => ?_⟩
            by_cases hik : i = k
            · subst hik; exact HQ.out (by omega)
            · exact hsm.out i (by omega)
set_option maxHeartbeats 1000000 in
theorem eqIntS_any (v v2 : Value) (l l2 : List Int) (w : World) (h : IntsAt w v l) (h2 : IntsAt w v2 l2) :
    Calls Try.prog 44 #[v, v2] w fun e w' => e = .returned (.bool (decide (l = l2))) ∧ Drew w w' := by
  obtain ⟨a, cap, rfl, hc, hm, h⟩ := h
  obtain ⟨a2, cap2, rfl, hc2, hm2, h2⟩ := h2
  unfold maxLen at hm hm2
  obtain ⟨n, hn⟩ : ∃ n, l.length = n := ⟨_, rfl⟩
  obtain ⟨n2, hn2⟩ : ∃ n, l2.length = n := ⟨_, rfl⟩
  rw [hn] at hc h ⊢
  rw [hn2] at hc2 h2 ⊢
  obtain ⟨B, hB⟩ : ∃ B, decide (l = l2) = B := ⟨_, rfl⟩
  rw [hB]
  have HB := Lib.hid hB
  have HN := Lib.hid hn
  have HN2 := Lib.hid hn2
  have H := Lib.hid h
  have H2 := Lib.hid h2
  clear hB hn hn2 h h2
  by_cases hnn : n = n2
  · subst hnn
    go_enter Try.func44, Try.ntmps44
    go_wp2_with fail
    go_loopg [5] n (fun g i wr => ∃ k m : Nat, i = .int .i64 k ∧ k + g = n ∧ wr = w.drewN m ∧ Hid (∀ j, j < k → l.getD j 0 = l2.getD j 0))
    case atStart => exact ⟨0, 0, rfl, by omega, rfl, fun j hj => by omega⟩
    case round =>
      obtain ⟨k, m, rfl, hk, rfl, hno⟩ := hrel
      by_cases hg : gk = 0
      · subst hg
        obtain rfl : k = n := by omega
        have hB : B = true := by
          rw [← HB.out, decide_eq_true_eq]
          exact same_list (by rw [HN.out, HN2.out]) (by rw [HN.out]; exact hno.out)
        subst hB
        go_wp2_with fail
        go_ret
        exact ⟨rfl, m, rfl⟩
      · have hkn : k < n := by omega
        have hkn2 : (k : Int) < (n : Int) := by omega
        rcases H.out with h0 | ⟨b, off, rfl, hb, hcell⟩
        · omega
        · rcases H2.out with h0 | ⟨b2, off2, rfl, hb2, hcell2⟩
          · omega
          · have hx := hcell k hkn
            have hx2 := hcell2 k hkn
            clear hcell hcell2
            obtain ⟨y, hy⟩ : ∃ y, l.getD k 0 = y := ⟨_, rfl⟩
            obtain ⟨y2, hy2⟩ : ∃ y, l2.getD k 0 = y := ⟨_, rfl⟩
            rw [hy] at hx
            rw [hy2] at hx2
            have HY := Lib.hid hy
            have HY2 := Lib.hid hy2
            have HK := Lib.hid hk
            clear hy hy2 hk
            by_cases hyx : y = y2
            · have hne : (y != y2) = false := by simp [hyx]
              have HE := Lib.hid hyx
              clear hyx
              go_wp2_with fail
              go_quiet (fail)
              go_wp2_with fail
              go_roundg (gk - 1)
              case measure => omega
              case rel =>
                refine ⟨k + 1, m + nq, by go_num, by have := HK.out; omega, rfl, fun j hj => ?_⟩
                by_cases hjk : j = k
                · subst hjk; rw [HY.out, HY2.out]; exact HE.out
                · exact hno.out j (by omega)
            · have hB : B = false := by
                rw [← HB.out, decide_eq_false_iff_not]
                intro e
                apply hyx
                rw [← HY.out, ← HY2.out, e]
              subst hB
              have hne : (y != y2) = true := by simp [hyx]
              go_wp2_with fail
              go_quiet (fail)
              go_wp2_with fail
              go_ret
              exact ⟨rfl, by repeat (first | exact Drew.refl _ | assumption | refine Drew.more ?_ _)⟩
  · have hB : B = false := by
      rw [← HB.out, decide_eq_false_iff_not]
      intro e
      apply hnn
      rw [← HN.out, ← HN2.out, e]
    subst hB
    have hne : ¬ ((n : Int) = (n2 : Int)) := by omega
    go_enter Try.func44, Try.ntmps44
    go_wp2_with fail
    go_ret
    exact ⟨rfl, Drew.refl _⟩

set_option maxHeartbeats 2000000 in
theorem eqIntSS_any (v v2 : Value) (l l2 : List (List Int)) (w : World) (h : RowsAt w v l) (h2 : RowsAt w v2 l2) :
    Calls Try.prog 40 #[v, v2] w fun e w' => e = .returned (.bool (decide (l = l2))) ∧ Drew w w' := by
  obtain ⟨a, cap, rfl, hc, hm⟩ := h.form
  obtain ⟨a2, cap2, rfl, hc2, hm2⟩ := h2.form
  obtain ⟨n, hn⟩ : ∃ n, l.length = n := ⟨_, rfl⟩
  obtain ⟨n2, hn2⟩ : ∃ n, l2.length = n := ⟨_, rfl⟩
  rw [hn] at hc h ⊢
  rw [hn2] at hc2 h2 ⊢
  obtain ⟨B, hB⟩ : ∃ B, decide (l = l2) = B := ⟨_, rfl⟩
  rw [hB]
  have HB := Lib.hid hB
  have HN := Lib.hid hn
  have HN2 := Lib.hid hn2
  have H := Lib.hid h
  have H2 := Lib.hid h2
  clear hB hn hn2 h h2
  by_cases hnn : n = n2
  · subst hnn
    go_enter Try.func40, Try.ntmps40
    go_wp2_with fail
    go_loopg [5] n (fun g i wr => ∃ k m : Nat, i = .int .i64 k ∧ k + g = n ∧ wr = w.drewN m ∧ Hid (∀ j, j < k → l.getD j [] = l2.getD j []))
    case atStart => exact ⟨0, 0, rfl, by omega, rfl, Lib.hid fun j hj => by omega⟩
    case round =>
      obtain ⟨k, m, rfl, hk, rfl, hno⟩ := hrel
      by_cases hg : gk = 0
      · subst hg
        obtain rfl : k = n := by omega
        have hB : B = true := by
          rw [← HB.out, decide_eq_true_eq]
          apply List.ext_getElem (by rw [HN.out, HN2.out])
          intro j h1 h2
          have := hno.out j (by rw [← HN.out]; exact h1)
          simpa [List.getElem?_eq_getElem h1, List.getElem?_eq_getElem h2] using this
        subst hB
        go_wp2_with fail
        go_ret
        exact ⟨rfl, m, rfl⟩
      · have hkn : k < n := by omega
        have hkn2 : (k : Int) < (n : Int) := by omega
        obtain ⟨b, off, u, rfl, hb, hx, hu⟩ := H.out.get k hkn
        obtain ⟨b2, off2, u2, rfl, hb2, hx2, hu2⟩ := H2.out.get k hkn
        obtain ⟨c, hcc⟩ : ∃ c, decide (l.getD k [] = l2.getD k []) = c := ⟨_, rfl⟩
        have heq : ∀ W, Drew w W → Calls Try.prog 44 #[u, u2] W fun e w' => e = .returned (.bool c) ∧ Drew W w' := fun W hW => by rw [← hcc]; exact eqIntS_any _ _ _ _ _ (hu.drew hW) (hu2.drew hW)
        have HC := Lib.hid hcc
        have HEQ := Lib.hid heq
        have HK := Lib.hid hk
        clear hcc heq hk hu hu2
        cases c
        · have hB : B = false := by
            rw [← HB.out, decide_eq_false_iff_not]
            intro e
            have := HC.out
            rw [e] at this
            simp at this
          subst hB
          go_wp2_with fail
          go_quiet ((go_at_call 44; (first | refine quietA (HEQ.out _ ?_) | refine quietB (HEQ.out _ ?_)); repeat (first | exact Drew.refl _ | assumption | refine Drew.more ?_ _)))
          go_wp2_with fail
          go_ret
          exact ⟨rfl, by repeat (first | exact Drew.refl _ | assumption | refine Drew.more ?_ _)⟩
        · go_wp2_with fail
          go_quiet ((go_at_call 44; (first | refine quietA (HEQ.out _ ?_) | refine quietB (HEQ.out _ ?_)); repeat (first | exact Drew.refl _ | assumption | refine Drew.more ?_ _)))
          go_wp2_with fail
          go_roundg (gk - 1)
          case measure => omega
          case rel =>
            refine ⟨k + 1, m + nq, by go_num, by have := HK.out; omega, rfl, Lib.hid fun j hj => ?_⟩
            by_cases hjk : j = k
            · subst hjk; exact of_decide_eq_true HC.out
            · exact hno.out j (by omega)
  · have hB : B = false := by
      rw [← HB.out, decide_eq_false_iff_not]
      intro e
      apply hnn
      rw [← HN.out, ← HN2.out, e]
    subst hB
    have hne : ¬ ((n : Int) = (n2 : Int)) := by omega
    go_enter Try.func40, Try.ntmps40
    go_wp2_with fail
    go_ret
    exact ⟨rfl, Drew.refl _⟩

set_option maxHeartbeats 2000000 in
theorem eqIntSSS_any (v v2 : Value) (l l2 : List (List (List Int))) (w : World) (h : GridAt w v l) (h2 : GridAt w v2 l2) :
    Calls Try.prog 24 #[v, v2] w fun e w' => e = .returned (.bool (decide (l = l2))) ∧ Drew w w' := by
  obtain ⟨a, cap, rfl, hc, hm⟩ := h.form
  obtain ⟨a2, cap2, rfl, hc2, hm2⟩ := h2.form
  obtain ⟨n, hn⟩ : ∃ n, l.length = n := ⟨_, rfl⟩
  obtain ⟨n2, hn2⟩ : ∃ n, l2.length = n := ⟨_, rfl⟩
  rw [hn] at hc h ⊢
  rw [hn2] at hc2 h2 ⊢
  obtain ⟨B, hB⟩ : ∃ B, decide (l = l2) = B := ⟨_, rfl⟩
  rw [hB]
  have HB := Lib.hid hB
  have HN := Lib.hid hn
  have HN2 := Lib.hid hn2
  have H := Lib.hid h
  have H2 := Lib.hid h2
  clear hB hn hn2 h h2
  by_cases hnn : n = n2
  · subst hnn
    go_enter Try.func24, Try.ntmps24
    go_wp2_with fail
    go_loopg [5] n (fun g i wr => ∃ k m : Nat, i = .int .i64 k ∧ k + g = n ∧ wr = w.drewN m ∧ Hid (∀ j, j < k → l.getD j [] = l2.getD j []))
    case atStart => exact ⟨0, 0, rfl, by omega, rfl, Lib.hid fun j hj => by omega⟩
    case round =>
      obtain ⟨k, m, rfl, hk, rfl, hno⟩ := hrel
      by_cases hg : gk = 0
      · subst hg
        obtain rfl : k = n := by omega
        have hB : B = true := by
          rw [← HB.out, decide_eq_true_eq]
          apply List.ext_getElem (by rw [HN.out, HN2.out])
          intro j h1 h2
          have := hno.out j (by rw [← HN.out]; exact h1)
          simpa [List.getElem?_eq_getElem h1, List.getElem?_eq_getElem h2] using this
        subst hB
        go_wp2_with fail
        go_ret
        exact ⟨rfl, m, rfl⟩
      · have hkn : k < n := by omega
        have hkn2 : (k : Int) < (n : Int) := by omega
        obtain ⟨b, off, u, rfl, hb, hx, hu⟩ := H.out.get k hkn
        obtain ⟨b2, off2, u2, rfl, hb2, hx2, hu2⟩ := H2.out.get k hkn
        obtain ⟨c, hcc⟩ : ∃ c, decide (l.getD k [] = l2.getD k []) = c := ⟨_, rfl⟩
        have heq : ∀ W, Drew w W → Calls Try.prog 40 #[u, u2] W fun e w' => e = .returned (.bool c) ∧ Drew W w' := fun W hW => by rw [← hcc]; exact eqIntSS_any _ _ _ _ _ (hu.drew hW) (hu2.drew hW)
        have HC := Lib.hid hcc
        have HEQ := Lib.hid heq
        have HK := Lib.hid hk
        clear hcc heq hk hu hu2
        cases c
        · have hB : B = false := by
            rw [← HB.out, decide_eq_false_iff_not]
            intro e
            have := HC.out
            rw [e] at this
            simp at this
          subst hB
          go_wp2_with fail
          go_quiet ((go_at_call 40; (first | refine quietA (HEQ.out _ ?_) | refine quietB (HEQ.out _ ?_)); repeat (first | exact Drew.refl _ | assumption | refine Drew.more ?_ _)))
          go_wp2_with fail
          go_ret
          exact ⟨rfl, by repeat (first | exact Drew.refl _ | assumption | refine Drew.more ?_ _)⟩
        · go_wp2_with fail
          go_quiet ((go_at_call 40; (first | refine quietA (HEQ.out _ ?_) | refine quietB (HEQ.out _ ?_)); repeat (first | exact Drew.refl _ | assumption | refine Drew.more ?_ _)))
          go_wp2_with fail
          go_roundg (gk - 1)
          case measure => omega
          case rel =>
            refine ⟨k + 1, m + nq, by go_num, by have := HK.out; omega, rfl, Lib.hid fun j hj => ?_⟩
            by_cases hjk : j = k
            · subst hjk; exact of_decide_eq_true HC.out
            · exact hno.out j (by omega)
  · have hB : B = false := by
      rw [← HB.out, decide_eq_false_iff_not]
      intro e
      apply hnn
      rw [← HN.out, ← HN2.out, e]
    subst hB
    have hne : ¬ ((n : Int) = (n2 : Int)) := by omega
    go_enter Try.func24, Try.ntmps24
    go_wp2_with fail
    go_ret
    exact ⟨rfl, Drew.refl _⟩
end Go.Proofs.Ytlkchhedlbaomaa
