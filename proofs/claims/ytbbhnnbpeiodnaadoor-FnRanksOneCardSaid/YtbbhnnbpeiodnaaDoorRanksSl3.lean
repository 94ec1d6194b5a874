/- slices.IndexFunc, slices.ContainsFunc at []int, whatever the function. -/
import Derived.Test.YtbbhnnbpeiodnaaDoorRanksSl
import Derived.Shelf.Abstract
import Derived.Deep.LoopGhost
import Derived.Deep.QuietTactic
import Derived.BigQuiet
namespace Go.Proofs.YtbbhnnbpeiodnaaDoor
open Go.RowKit
set_option linter.unusedVariables false

set_option maxHeartbeats 1000000 in
theorem slIndexFuncI_any (g : Nat) (lb : Array Value) (p : Int → Bool) (v : Value) (ll : List Int) (w : World) (h : IntsAt w v ll)
    (eg : ∀ args w, (callFunc g args).run Tryd.prog w = .ok (.enter g args) w)
    (hp : ∀ W l, Drew w W → Calls Tryd.prog g (#[.int .i64 l] ++ lb) W fun e w' => e = .returned (.bool (p l)) ∧ Drew W w') :
    Calls Tryd.prog 27 #[v, .func (.func g) #[] lb] w fun e w' => e = .returned (.int .i64 (idxP p ll)) ∧ Drew w w' := by
  obtain ⟨a, cap, rfl, hc, hm⟩ := h.form
  obtain ⟨n, hn⟩ : ∃ n, ll.length = n := ⟨_, rfl⟩
  rw [hn] at hc h ⊢
  obtain ⟨B, hB⟩ : ∃ B, idxP p ll = B := ⟨_, rfl⟩
  rw [hB]
  have HB := Lib.hid hB
  have HN := Lib.hid hn
  have H := Lib.hid h
  have HP := Lib.hid hp
  clear hB hn h hp
  go_enter Tryd.func27, Tryd.ntmps27
  go_wp2_with fail
  go_loopg [8] n (fun g i wr => ∃ k m : Nat, i = .int .i64 k ∧ k + g = n ∧ wr = w.drewN m ∧ Hid (∀ j, j < k → p (ll.getD j 0) = false))
  case atStart => exact ⟨0, 0, rfl, by omega, rfl, Lib.hid fun j hj => by omega⟩
  case round =>
    obtain ⟨k, m, rfl, hk, rfl, hno⟩ := hrel
    by_cases hg : gk = 0
    · subst hg
      obtain rfl : k = n := by omega
      have e := HB.out
      rw [idxP_miss 0 (by rw [HN.out]; exact hno.out)] at e
      subst e
      go_wp2_with fail
      go_ret
      exact ⟨rfl, m, rfl⟩
    · have hkn : k < n := by omega
      obtain ⟨b, off, rfl, hb, hx⟩ := H.out.get k hkn
      obtain ⟨y, hy⟩ : ∃ y, ll.getD k 0 = y := ⟨_, rfl⟩
      rw [hy] at hx
      obtain ⟨c, hcc⟩ : ∃ c, p y = c := ⟨_, rfl⟩
      have hcall := HP.out (w.drewN m) y (by repeat (first | exact Drew.refl _ | assumption | refine Drew.more ?_ _))
      rw [hcc] at hcall
      rw [← hy] at hcc
      have HC := Lib.hid hcc
      have HK := Lib.hid hk
      have HCALL := Lib.hid hcall
      clear hcc hk hcall hy
      cases c
      · go_wp2_with (go_at_fn g; refine (HCALL.out).mono ?_; rintro e w' ⟨rfl, q', rfl⟩)
        go_roundg (gk - 1)
        case measure => omega
        case rel =>
          refine ⟨k + 1, m + q', by go_num, by have := HK.out; omega, rfl, Lib.hid fun j hj => ?_⟩
          by_cases hjk : j = k
          · subst hjk; exact HC.out
          · exact hno.out j (by omega)
      · have e := HB.out
        rw [idxP_hit 0 (by rw [HN.out]; exact hkn) HC.out hno.out] at e
        subst e
        go_wp2_with (go_at_fn g; refine (HCALL.out).mono ?_; rintro e w' ⟨rfl, q', rfl⟩)
        go_ret
        exact ⟨rfl, by repeat (first | exact Drew.refl _ | assumption | refine Drew.more ?_ _)⟩

set_option maxHeartbeats 1000000 in
theorem slContainsFuncI_any (g : Nat) (lb : Array Value) (p : Int → Bool) (v : Value) (ll : List Int) (w : World) (h : IntsAt w v ll)
    (eg : ∀ args w, (callFunc g args).run Tryd.prog w = .ok (.enter g args) w)
    (hp : ∀ W l, Drew w W → Calls Tryd.prog g (#[.int .i64 l] ++ lb) W fun e w' => e = .returned (.bool (p l)) ∧ Drew W w') :
    Calls Tryd.prog 17 #[v, .func (.func g) #[] lb] w fun e w' => e = .returned (.bool (ll.any p)) ∧ Drew w w' := by
  have hc := slIndexFuncI_any g lb p v ll w h eg hp
  obtain ⟨i, hi⟩ : ∃ i, idxP p ll = i := ⟨_, rfl⟩
  have e := idxP_nonneg p ll
  rw [hi] at e
  rw [hi] at hc
  rw [← e]
  have HC := Lib.hid hc
  obtain ⟨a, cap, rfl, _, _⟩ := h.form
  clear hc hi e h hp eg
  go_enter Tryd.func17, Tryd.ntmps17
  go_wp2_with (go_at_call 27; refine (HC.out).mono ?_; rintro e w' ⟨rfl, q, rfl⟩)
  go_ret
  exact ⟨rfl, q, rfl⟩

end Go.Proofs.YtbbhnnbpeiodnaaDoor
