/- slices.IndexFunc, slices.ContainsFunc at []int and at [][]int, whatever the function; impl.permitted. -/
import Derived.Test.YtbbhnnbpeiodnaaDoorRanksSl
import Derived.Shelf.Abstract
import Derived.Deep.LoopGhost
import Derived.Deep.QuietTactic
import Derived.BigQuiet
namespace Go.Proofs.YtbbhnnbpeiodnaaDoor
open Go.RowKit
set_option linter.unusedVariables false

set_option maxHeartbeats 1000000 in
theorem slIndexFuncR_any (g : Nat) (lb : Array Value) (p : List Int → Bool) (v : Value) (ll : List (List Int)) (w : World) (h : RowsAt w v ll)
    (eg : ∀ args w, (callFunc g args).run Tryd.prog w = .ok (.enter g args) w)
    (hp : ∀ W u l, Drew w W → IntsAt W u l → Calls Tryd.prog g (#[u] ++ lb) W fun e w' => e = .returned (.bool (p l)) ∧ Drew W w') :
    Calls Tryd.prog 43 #[v, .func (.func g) #[] lb] w fun e w' => e = .returned (.int .i64 (idxP p ll)) ∧ Drew w w' := by
  obtain ⟨a, cap, rfl, hc, hm⟩ := h.form
  obtain ⟨n, hn⟩ : ∃ n, ll.length = n := ⟨_, rfl⟩
  rw [hn] at hc h ⊢
  obtain ⟨B, hB⟩ : ∃ B, idxP p ll = B := ⟨_, rfl⟩
  rw [hB]
  have HB := Lib.hid hB
  have HN := Lib.hid hn
  have H := Lib.hid h
  have HP := Lib.hid hp
  clear hB hn h hp
  go_enter Tryd.func43, Tryd.ntmps43
  go_wp2_with fail
  go_loopg [8] n (fun g i wr => ∃ k m : Nat, i = .int .i64 k ∧ k + g = n ∧ wr = w.drewN m ∧ Hid (∀ j, j < k → p (ll.getD j []) = false))
  case atStart => exact ⟨0, 0, rfl, by omega, rfl, Lib.hid fun j hj => by omega⟩
  case round =>
    obtain ⟨k, m, rfl, hk, rfl, hno⟩ := hrel
    by_cases hg : gk = 0
    · subst hg
      obtain rfl : k = n := by omega
      have e := HB.out
      rw [idxP_miss [] (by rw [HN.out]; exact hno.out)] at e
      subst e
      go_wp2_with fail
      go_ret
      exact ⟨rfl, m, rfl⟩
    · have hkn : k < n := by omega
      obtain ⟨b, off, u, rfl, hb, hx, hu⟩ := H.out.get k hkn
      obtain ⟨c, hcc⟩ : ∃ c, p (ll.getD k []) = c := ⟨_, rfl⟩
      have hcall := HP.out (w.drewN m) u (ll.getD k []) (by repeat (first | exact Drew.refl _ | assumption | refine Drew.more ?_ _)) (hu.drew (by repeat (first | exact Drew.refl _ | assumption | refine Drew.more ?_ _)))
      rw [hcc] at hcall
      have HC := Lib.hid hcc
      have HK := Lib.hid hk
      have HCALL := Lib.hid hcall
      clear hcc hk hcall hu
      cases c
      · go_wp2_with (go_at_fn g; refine (HCALL.out).mono ?_; rintro e w' ⟨rfl, q', rfl⟩)
        go_roundg (gk - 1)
        case measure => omega
        case rel =>
          refine ⟨k + 1, m + q', by go_num, by have := HK.out; omega, rfl, Lib.hid fun j hj => ?_⟩
          by_cases hjk : j = k
          · subst hjk; exact HC.out
          · exact hno.out j (by omega)
      · have e := HB.out
        rw [idxP_hit [] (by rw [HN.out]; exact hkn) HC.out hno.out] at e
        subst e
        go_wp2_with (go_at_fn g; refine (HCALL.out).mono ?_; rintro e w' ⟨rfl, q', rfl⟩)
        go_ret
        exact ⟨rfl, by repeat (first | exact Drew.refl _ | assumption | refine Drew.more ?_ _)⟩

set_option maxHeartbeats 1000000 in
theorem slContainsFuncR_any (g : Nat) (lb : Array Value) (p : List Int → Bool) (v : Value) (ll : List (List Int)) (w : World) (h : RowsAt w v ll)
    (eg : ∀ args w, (callFunc g args).run Tryd.prog w = .ok (.enter g args) w)
    (hp : ∀ W u l, Drew w W → IntsAt W u l → Calls Tryd.prog g (#[u] ++ lb) W fun e w' => e = .returned (.bool (p l)) ∧ Drew W w') :
    Calls Tryd.prog 39 #[v, .func (.func g) #[] lb] w fun e w' => e = .returned (.bool (ll.any p)) ∧ Drew w w' := by
  have hc := slIndexFuncR_any g lb p v ll w h eg hp
  obtain ⟨i, hi⟩ : ∃ i, idxP p ll = i := ⟨_, rfl⟩
  have e := idxP_nonneg p ll
  rw [hi] at e
  rw [hi] at hc
  rw [← e]
  have HC := Lib.hid hc
  obtain ⟨a, cap, rfl, _, _⟩ := h.form
  clear hc hi e h hp eg
  go_enter Tryd.func39, Tryd.ntmps39
  go_wp2_with (go_at_call 43; refine (HC.out).mono ?_; rintro e w' ⟨rfl, q, rfl⟩)
  go_ret
  exact ⟨rfl, q, rfl⟩

/-- the closure of permitted: the list in the box is the same as the one that is handed over -/
theorem permitted1_any (u pv : Value) (l p : List Int) (B : Nat) (W : World) (hc : W.cell? ⟨B, 0, none⟩ = some pv) (hp : IntsAt W pv p) (hu : IntsAt W u l) :
    Calls Tryd.prog 40 #[u, .pointer (some ⟨B, 0, none⟩)] W fun e w' => e = .returned (.bool (decide (p = l))) ∧ Drew W w' := by
  have hcon := slEqual_any pv u p l W hp hu
  obtain ⟨c, hcc⟩ : ∃ c, decide (p = l) = c := ⟨_, rfl⟩
  rw [hcc] at hcon ⊢
  obtain ⟨a, cap, rfl, _, _⟩ := hu.form
  obtain ⟨a', cap', rfl, _, _⟩ := hp.form
  have HC := Lib.hid hcon
  clear hcon hcc hp hu
  go_enter Tryd.func40, Tryd.ntmps40
  go_wp2_with (go_at_call 28; refine (HC.out).mono ?_; rintro e w' ⟨rfl, q, rfl⟩)
  go_ret
  exact ⟨rfl, q, rfl⟩

theorem any_mem {p : List Int} {ll : List (List Int)} : ll.any (fun l => decide (p = l)) = decide (p ∈ ll) := by
  rw [Bool.eq_iff_iff, List.any_eq_true, decide_eq_true_eq]
  constructor
  · rintro ⟨y, hy, e⟩; simp at e; subst e; exact hy
  · intro h; exact ⟨p, h, by simp⟩

set_option maxHeartbeats 1000000 in
theorem permitted_any (v pv : Value) (ll : List (List Int)) (p : List Int) (w : World) (h : RowsAt w v ll) (hp : IntsAt w pv p) :
    Calls Tryd.prog 26 #[v, pv] w fun e w' => e = .returned (.bool (decide (p ∈ ll))) ∧ Below w.heap.size w w' := by
  obtain ⟨a', cap', rfl, _, _⟩ := hp.form
  have eg : ∀ args w, (callFunc 40 args).run Tryd.prog w = .ok (.enter 40 args) w := enters_of Tryd.func40 (by kernel_rfl) rfl
  have hb : Below w.heap.size w (w.alloc (.cells #[.slice a' p.length cap'] 24)) := (Below.refl _ _).alloc (Nat.le_refl _) _
  have hcon := slContainsFuncR_any 40 #[.pointer (some ⟨w.heap.size, 0, none⟩)] (fun l => decide (p = l)) v ll (w.alloc (.cells #[.slice a' p.length cap'] 24)) (h.below hb) eg
    (fun W u l hW hu => permitted1_any u _ l p w.heap.size W (by obtain ⟨m, rfl⟩ := hW; simp) ((hp.below hb).drew hW) hu)
  obtain ⟨c, hcc⟩ : ∃ c, decide (p ∈ ll) = c := ⟨_, rfl⟩
  rw [any_mem, hcc] at hcon
  rw [hcc]
  obtain ⟨a, cap, rfl, _, _⟩ := h.form
  have HC := Lib.hid hcon
  clear hcon hcc hp h hb eg
  go_enter Tryd.func26, Tryd.ntmps26
  go_wp2_with (go_at_call 39; refine (HC.out).mono ?_; rintro e w' ⟨rfl, q, rfl⟩)
  go_ret
  exact ⟨rfl, by repeat (first | exact Below.refl _ _ | assumption | refine Below.drew ?_ | refine belowDrewN ?_ _ | refine Below.alloc ?_ (by first | exact Nat.le_refl _ | omega | (simp; done) | (simp; omega)) _ | refine Below.setCell ?_ (by first | exact Nat.le_refl _ | omega | (simp; done) | (simp; omega)) _)⟩
end Go.Proofs.YtbbhnnbpeiodnaaDoor
