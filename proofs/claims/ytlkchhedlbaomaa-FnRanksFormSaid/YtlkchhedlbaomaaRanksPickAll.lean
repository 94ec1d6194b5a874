/- RanksPick, RanksStill of the program and of the reference. -/
import Derived.Test.YtlkchhedlbaomaaRanksStill
import Derived.Test.YtlkchhedlbaomaaRanksWays
import Derived.Test.YtlkchhedlbaomaaRanksState
import Derived.Test.YtlkchhedlbaomaaRanksImplOk2
import Derived.Test.YtlkchhedlbaomaaRanksSpecOk
import Derived.Test.YtlkchhedlbaomaaRanksPlain2
namespace Go.Proofs.Ytlkchhedlbaomaa
open Go.RowKit
set_option linter.unusedVariables false

theorem OwnInts.mono {w : World} {B B' : Nat} {v : Value} {l : List Int} (h : OwnInts w B v l) (hb : B' ≤ B) : OwnInts w B' v l := by
  refine ⟨h.1, ?_⟩
  rcases h.2 with h | ⟨g, cap, cur, h1, h2, h3⟩
  · exact .inl h
  · exact .inr ⟨g, cap, cur, h1, Nat.le_trans hb h2, h3⟩
theorem drew_below {P : Program} {f : FuncId} {args : Array Value} {w : World} {v : Value} (h : Calls P f args w fun e w' => e = .returned v ∧ Drew w w') : Calls P f args w fun e w' => e = .returned v ∧ Below w.heap.size w w' :=
  h.mono fun _ _ ⟨he, hd⟩ => ⟨he, hd.below _⟩

set_option maxHeartbeats 4000000 in
theorem implPick_any (v u : Value) (r : List (List (List Int))) (ways : List (List Int)) (h : Int) (w : World) (hv : GridAt w v r) (hu : RowsAt w u ways) :
    Calls Try.prog 30 #[v, u, .int .i64 h] w fun e w' => ∃ v', e = .returned v' ∧ OwnInts w' w.heap.size v' (ranksPickF r ways h) ∧ Below w.heap.size w w' := by
  have hok := implRanksOk_any v r w hv
  obtain ⟨R, hR⟩ : ∃ R, ranksPickF r ways h = R := ⟨_, rfl⟩
  obtain ⟨b1, hb1⟩ : ∃ b, ranksOk r = b := ⟨_, rfl⟩
  obtain ⟨b2, hb2⟩ : ∃ b, waysOk r ways = b := ⟨_, rfl⟩
  rw [hb1] at hok
  rw [hR]
  obtain ⟨a, cap, rfl, hc, hm⟩ := hv.form
  obtain ⟨ua, uc, rfl, huc, hum⟩ := hu.form
  have HOK := Lib.hid hok
  have HR := Lib.hid hR
  have H := Lib.hid hv
  have U := Lib.hid hu
  have HB1 := Lib.hid hb1
  have HB2 := Lib.hid hb2
  have hno : ¬ (b1 = true ∧ b2 = true ∧ 1 ≤ h ∧ h ≤ 3) → R = [] := fun hn => by rw [← HR.out]; exact ranksPickF_no (by rw [hb1, hb2]; exact hn)
  have HNO := Lib.hid hno
  clear hok hR hv hu hb1 hb2 hno
  cases b1
  · have e := HNO.out (by simp)
    subst e
    go_enter Try.func30, Try.ntmps30
    go_wp2_with (go_at_call 20; refine (HOK.out).mono ?_; rintro e w1 ⟨rfl, hb1⟩)
    go_ret
    exact ⟨_, rfl, World.ownsRow_nil _ _ _ _, hb1⟩
  · have hst : ∀ W, Below w.heap.size w W → Calls Try.prog 62 #[.slice a r.length cap, .slice ua ways.length uc] W fun e w' => e = .returned (.bool b2) ∧ Below W.heap.size W w' := fun W hW => by
      rw [← HB2.out]; exact isState_any _ _ _ _ _ (H.out.below hW) (U.out.below hW) (ranksOk_len HB1.out)
    have HST := Lib.hid hst
    clear hst
    cases b2
    · have e := HNO.out (by simp)
      subst e
      go_enter Try.func30, Try.ntmps30
      go_wp2_with (first | (go_at_call 20; refine (HOK.out).mono ?_; rintro e w1 ⟨rfl, hb1⟩) | (go_at_call 62; refine (HST.out _ hb1).mono ?_; rintro e w2 ⟨rfl, hb2⟩))
      go_ret
      exact ⟨_, rfl, World.ownsRow_nil _ _ _ _, hb1.trans (hb2.mono hb1.size)⟩
    · by_cases h1 : h < 1
      · have e := HNO.out (by omega)
        subst e
        go_enter Try.func30, Try.ntmps30
        go_wp2_with (first | (go_at_call 20; refine (HOK.out).mono ?_; rintro e w1 ⟨rfl, hb1⟩) | (go_at_call 62; refine (HST.out _ hb1).mono ?_; rintro e w2 ⟨rfl, hb2⟩))
        go_ret
        exact ⟨_, rfl, World.ownsRow_nil _ _ _ _, hb1.trans (hb2.mono hb1.size)⟩
      · by_cases h3 : 3 < h
        · have e := HNO.out (by omega)
          subst e
          go_enter Try.func30, Try.ntmps30
          go_wp2_with (first | (go_at_call 20; refine (HOK.out).mono ?_; rintro e w1 ⟨rfl, hb1⟩) | (go_at_call 62; refine (HST.out _ hb1).mono ?_; rintro e w2 ⟨rfl, hb2⟩))
          go_ret
          exact ⟨_, rfl, World.ownsRow_nil _ _ _ _, hb1.trans (hb2.mono hb1.size)⟩
        · obtain ⟨j, rfl⟩ : ∃ j : Nat, h = (j : Int) + 1 := ⟨(h - 1).toNat, by omega⟩
          have hj : j < 3 := by omega
          have hl := ranksOk_len HB1.out
          have hpr : ∀ W, Below w.heap.size w W → Calls Try.prog 61 #[.slice a r.length cap, .slice ua ways.length uc, .int .i64 ((j : Int) + 1)] W fun e w' => ∃ v', e = .returned v' ∧ OwnInts w' W.heap.size v' R ∧ Below W.heap.size W w' := fun W hW => by
            rw [← HR.out, ranksPickF_yes HB1.out HB2.out hj]
            exact preferred_any _ _ _ _ _ _ (H.out.below hW) (U.out.below hW) hl (by rw [waysOk_len3 HB2.out, hl]) hj (good_of_ranksOk HB1.out hj)
          have HPR := Lib.hid hpr
          clear hpr hl
          go_enter Try.func30, Try.ntmps30
          go_wp2_with (first | (go_at_call 20; refine (HOK.out).mono ?_; rintro e w1 ⟨rfl, hb1⟩) | (go_at_call 62; refine (HST.out _ hb1).mono ?_; rintro e w2 ⟨rfl, hb2⟩; have hb12 := hb1.trans (hb2.mono hb1.size)) | (go_at_call 61; refine (HPR.out _ hb12).mono ?_; rintro e w3 ⟨v', rfl, ho, hb3⟩))
          go_ret
          exact ⟨_, rfl, ho.mono hb12.size, hb12.trans (hb3.mono hb12.size)⟩

set_option maxHeartbeats 4000000 in
theorem specPick_any (v u : Value) (r : List (List (List Int))) (ways : List (List Int)) (h : Int) (w : World) (hv : GridAt w v r) (hu : RowsAt w u ways) :
    Calls Try.prog 36 #[v, u, .int .i64 h] w fun e w' => ∃ v', e = .returned v' ∧ OwnInts w' w.heap.size v' (ranksPickF r ways h) ∧ Below w.heap.size w w' := by
  have hok := drew_below (specRanksOk_any v r w hv)
  obtain ⟨R, hR⟩ : ∃ R, ranksPickF r ways h = R := ⟨_, rfl⟩
  obtain ⟨b1, hb1⟩ : ∃ b, ranksOk r = b := ⟨_, rfl⟩
  obtain ⟨b2, hb2⟩ : ∃ b, waysOk r ways = b := ⟨_, rfl⟩
  rw [hb1] at hok
  rw [hR]
  obtain ⟨a, cap, rfl, hc, hm⟩ := hv.form
  obtain ⟨ua, uc, rfl, huc, hum⟩ := hu.form
  have HOK := Lib.hid hok
  have HR := Lib.hid hR
  have H := Lib.hid hv
  have U := Lib.hid hu
  have HB1 := Lib.hid hb1
  have HB2 := Lib.hid hb2
  have hno : ¬ (b1 = true ∧ b2 = true ∧ 1 ≤ h ∧ h ≤ 3) → R = [] := fun hn => by rw [← HR.out]; exact ranksPickF_no (by rw [hb1, hb2]; exact hn)
  have HNO := Lib.hid hno
  clear hok hR hv hu hb1 hb2 hno
  cases b1
  · have e := HNO.out (by simp)
    subst e
    go_enter Try.func36, Try.ntmps36
    go_wp2_with (go_at_call 21; refine (HOK.out).mono ?_; rintro e w1 ⟨rfl, hb1⟩)
    go_ret
    exact ⟨_, rfl, World.ownsRow_made _ #[] 0 hb1.size (Nat.zero_le _) rfl, hb1.alloc hb1.size _⟩
  · have hst : ∀ W, Below w.heap.size w W → Calls Try.prog 68 #[.slice a r.length cap, .slice ua ways.length uc] W fun e w' => e = .returned (.bool b2) ∧ Below W.heap.size W w' := fun W hW => by
      rw [← HB2.out]; exact drew_below (l32Ways_any _ _ _ _ _ (H.out.below hW) (U.out.below hW))
    have HST := Lib.hid hst
    clear hst
    cases b2
    · have e := HNO.out (by simp)
      subst e
      go_enter Try.func36, Try.ntmps36
      go_wp2_with (first | (go_at_call 21; refine (HOK.out).mono ?_; rintro e w1 ⟨rfl, hb1⟩) | (go_at_call 68; refine (HST.out _ hb1).mono ?_; rintro e w2 ⟨rfl, hb2⟩))
      go_ret
      have hb12 := hb1.trans (hb2.mono hb1.size)
      exact ⟨_, rfl, World.ownsRow_made _ #[] 0 hb12.size (Nat.zero_le _) rfl, hb12.alloc hb12.size _⟩
    · have hin : ∀ W, Calls Try.prog 57 #[.int .i64 h, .int .i64 1, .int .i64 3] W fun e w' => e = .returned (.bool (decide (1 ≤ h) && decide (h ≤ 3))) ∧ w' = W := fun W => in_any h 1 3 W
      obtain ⟨d, hd⟩ : ∃ d, (decide (1 ≤ h) && decide (h ≤ 3)) = d := ⟨_, rfl⟩
      rw [hd] at hin
      have HIN := Lib.hid hin
      clear hin
      cases d
      · have e := HNO.out (by intro ⟨_, _, h1, h3⟩; simp at hd; omega)
        subst e
        clear hd
        go_enter Try.func36, Try.ntmps36
        go_wp2_with (first | (go_at_call 21; refine (HOK.out).mono ?_; rintro e w1 ⟨rfl, hb1⟩) | (go_at_call 68; refine (HST.out _ hb1).mono ?_; rintro e w2 ⟨rfl, hb2⟩) | (go_at_call 57; refine (HIN.out _).mono ?_; rintro e w3 ⟨rfl, rfl⟩))
        go_ret
        have hb12 := hb1.trans (hb2.mono hb1.size)
        exact ⟨_, rfl, World.ownsRow_made _ #[] 0 hb12.size (Nat.zero_le _) rfl, hb12.alloc hb12.size _⟩
      · have h1 : ¬ h < 1 := by simp at hd; omega
        have h3 : ¬ 3 < h := by simp at hd; omega
        clear hd
        obtain ⟨j, rfl⟩ : ∃ j : Nat, h = (j : Int) + 1 := ⟨(h - 1).toNat, by omega⟩
        have hj : j < 3 := by omega
        have hl := ranksOk_len HB1.out
        have hpr : ∀ W, Below w.heap.size w W → Calls Try.prog 58 #[.slice a r.length cap, .slice ua ways.length uc, .int .i64 ((j : Int) + 1)] W fun e w' => ∃ v', e = .returned v' ∧ OwnInts w' W.heap.size v' R ∧ Below W.heap.size W w' := fun W hW => by
          rw [← HR.out, ranksPickF_yes HB1.out HB2.out hj]
          exact l32Pick_any _ _ _ _ _ _ (H.out.below hW) (U.out.below hW) hl (by rw [waysOk_len3 HB2.out, hl]) hj (good_of_ranksOk HB1.out hj)
        have HPR := Lib.hid hpr
        clear hpr hl
        go_enter Try.func36, Try.ntmps36
        go_wp2_with (first | (go_at_call 21; refine (HOK.out).mono ?_; rintro e w1 ⟨rfl, hb1⟩) | (go_at_call 68; refine (HST.out _ hb1).mono ?_; rintro e w2 ⟨rfl, hb2⟩; have hb12 := hb1.trans (hb2.mono hb1.size)) | (go_at_call 57; refine (HIN.out _).mono ?_; rintro e w4 ⟨rfl, rfl⟩) | (go_at_call 58; refine (HPR.out _ hb12).mono ?_; rintro e w3 ⟨v', rfl, ho, hb3⟩))
        go_ret
        exact ⟨_, rfl, ho.mono hb12.size, hb12.trans (hb3.mono hb12.size)⟩

set_option maxHeartbeats 4000000 in
theorem implStill_any (v u : Value) (r : List (List (List Int))) (ways : List (List Int)) (w : World) (hv : GridAt w v r) (hu : RowsAt w u ways) :
    Calls Try.prog 31 #[v, u] w fun e w' => e = .returned (.bool (ranksStillF r ways)) ∧ Below w.heap.size w w' := by
  have hok := implRanksOk_any v r w hv
  obtain ⟨R, hR⟩ : ∃ R, ranksStillF r ways = R := ⟨_, rfl⟩
  rw [hR]
  unfold ranksStillF at hR
  obtain ⟨b1, hb1⟩ : ∃ b, ranksOk r = b := ⟨_, rfl⟩
  obtain ⟨b2, hb2⟩ : ∃ b, waysOk r ways = b := ⟨_, rfl⟩
  rw [hb1] at hok
  rw [hb1, hb2] at hR
  obtain ⟨a, cap, rfl, hc, hm⟩ := hv.form
  obtain ⟨ua, uc, rfl, huc, hum⟩ := hu.form
  have HOK := Lib.hid hok
  have H := Lib.hid hv
  have U := Lib.hid hu
  have HB1 := Lib.hid hb1
  have HB2 := Lib.hid hb2
  clear hok hv hu hb1 hb2
  cases b1
  · have e : R = false := by rw [← hR]; rfl
    clear hR
    subst e
    go_enter Try.func31, Try.ntmps31
    go_wp2_with (go_at_call 20; refine (HOK.out).mono ?_; rintro e w1 ⟨rfl, hb1⟩)
    go_ret
    exact ⟨rfl, hb1⟩
  · have hst : ∀ W, Below w.heap.size w W → Calls Try.prog 62 #[.slice a r.length cap, .slice ua ways.length uc] W fun e w' => e = .returned (.bool b2) ∧ Below W.heap.size W w' := fun W hW => by
      rw [← HB2.out]; exact isState_any _ _ _ _ _ (H.out.below hW) (U.out.below hW) (ranksOk_len HB1.out)
    have HST := Lib.hid hst
    clear hst
    cases b2
    · have e : R = false := by rw [← hR]; rfl
      clear hR
      subst e
      go_enter Try.func31, Try.ntmps31
      go_wp2_with (first | (go_at_call 20; refine (HOK.out).mono ?_; rintro e w1 ⟨rfl, hb1⟩) | (go_at_call 62; refine (HST.out _ hb1).mono ?_; rintro e w2 ⟨rfl, hb2⟩))
      go_ret
      exact ⟨rfl, hb1.trans (hb2.mono hb1.size)⟩
    · have e : stillF r ways = R := by rw [← hR]; rfl
      have hl := ranksOk_len HB1.out
      have hs : ∀ W, Below w.heap.size w W → Calls Try.prog 63 #[.slice a r.length cap, .slice ua ways.length uc] W fun e w' => e = .returned (.bool R) ∧ Below W.heap.size W w' := fun W hW => by
        rw [← e]; exact still_any _ _ _ _ _ (H.out.below hW) (U.out.below hW) hl (by rw [waysOk_len3 HB2.out, hl]) (fun h hh => good_of_ranksOk HB1.out hh)
      have HS := Lib.hid hs
      clear hs hl e hR
      go_enter Try.func31, Try.ntmps31
      go_wp2_with (first | (go_at_call 20; refine (HOK.out).mono ?_; rintro e w1 ⟨rfl, hb1⟩) | (go_at_call 62; refine (HST.out _ hb1).mono ?_; rintro e w2 ⟨rfl, hb2⟩; have hb12 := hb1.trans (hb2.mono hb1.size)) | (go_at_call 63; refine (HS.out _ hb12).mono ?_; rintro e w3 ⟨rfl, hb3⟩))
      go_ret
      exact ⟨rfl, hb12.trans (hb3.mono hb12.size)⟩

set_option maxHeartbeats 4000000 in
theorem specStill_any (v u : Value) (r : List (List (List Int))) (ways : List (List Int)) (w : World) (hv : GridAt w v r) (hu : RowsAt w u ways) :
    Calls Try.prog 38 #[v, u] w fun e w' => e = .returned (.bool (ranksStillF r ways)) ∧ Below w.heap.size w w' := by
  have hok := drew_below (specRanksOk_any v r w hv)
  obtain ⟨R, hR⟩ : ∃ R, ranksStillF r ways = R := ⟨_, rfl⟩
  rw [hR]
  unfold ranksStillF at hR
  obtain ⟨b1, hb1⟩ : ∃ b, ranksOk r = b := ⟨_, rfl⟩
  obtain ⟨b2, hb2⟩ : ∃ b, waysOk r ways = b := ⟨_, rfl⟩
  rw [hb1] at hok
  rw [hb1, hb2] at hR
  obtain ⟨a, cap, rfl, hc, hm⟩ := hv.form
  obtain ⟨ua, uc, rfl, huc, hum⟩ := hu.form
  have HOK := Lib.hid hok
  have H := Lib.hid hv
  have U := Lib.hid hu
  have HB1 := Lib.hid hb1
  have HB2 := Lib.hid hb2
  clear hok hv hu hb1 hb2
  cases b1
  · have e : R = false := by rw [← hR]; rfl
    clear hR
    subst e
    go_enter Try.func38, Try.ntmps38
    go_wp2_with (go_at_call 21; refine (HOK.out).mono ?_; rintro e w1 ⟨rfl, hb1⟩)
    go_ret
    exact ⟨rfl, hb1⟩
  · have hst : ∀ W, Below w.heap.size w W → Calls Try.prog 68 #[.slice a r.length cap, .slice ua ways.length uc] W fun e w' => e = .returned (.bool b2) ∧ Below W.heap.size W w' := fun W hW => by
      rw [← HB2.out]; exact drew_below (l32Ways_any _ _ _ _ _ (H.out.below hW) (U.out.below hW))
    have HST := Lib.hid hst
    clear hst
    cases b2
    · have e : R = false := by rw [← hR]; rfl
      clear hR
      subst e
      go_enter Try.func38, Try.ntmps38
      go_wp2_with (first | (go_at_call 21; refine (HOK.out).mono ?_; rintro e w1 ⟨rfl, hb1⟩) | (go_at_call 68; refine (HST.out _ hb1).mono ?_; rintro e w2 ⟨rfl, hb2⟩))
      go_ret
      exact ⟨rfl, hb1.trans (hb2.mono hb1.size)⟩
    · have e : stillF r ways = R := by rw [← hR]; rfl
      have hl := ranksOk_len HB1.out
      have hs : ∀ W, Below w.heap.size w W → Calls Try.prog 65 #[.slice a r.length cap, .slice ua ways.length uc] W fun e w' => e = .returned (.bool R) ∧ Below W.heap.size W w' := fun W hW => by
        rw [← e]; exact l32Still_any _ _ _ _ _ (H.out.below hW) (U.out.below hW) hl (by rw [waysOk_len3 HB2.out, hl]) (fun h hh => good_of_ranksOk HB1.out hh)
      have HS := Lib.hid hs
      clear hs hl e hR
      go_enter Try.func38, Try.ntmps38
      go_wp2_with (first | (go_at_call 21; refine (HOK.out).mono ?_; rintro e w1 ⟨rfl, hb1⟩) | (go_at_call 68; refine (HST.out _ hb1).mono ?_; rintro e w2 ⟨rfl, hb2⟩; have hb12 := hb1.trans (hb2.mono hb1.size)) | (go_at_call 65; refine (HS.out _ hb12).mono ?_; rintro e w3 ⟨rfl, hb3⟩))
      go_ret
      exact ⟨rfl, hb12.trans (hb3.mono hb12.size)⟩
end Go.Proofs.Ytlkchhedlbaomaa
