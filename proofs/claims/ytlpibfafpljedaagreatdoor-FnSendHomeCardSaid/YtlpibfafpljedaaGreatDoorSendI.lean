/- The closure of impl.forwarding; impl.SendNext. -/
import Derived.Test.YtlpibfafpljedaaGreatDoorFwdW
namespace Go.Proofs.YtlpibfafpljedaaGreatDoor
open Go.RowKit
set_option linter.unusedVariables false

set_option maxRecDepth 100000 in
set_option maxHeartbeats 4000000 in
theorem fwd1_any (F : Nat) (fv : Value) (xs : List Value) (ls : List (List Ent)) (k : Nat) (x : Int) (hx0 : 0 ≤ x) (hx1 : x ≤ 255) (w : World) (hF : FindAt w F fv xs ls) (hk : k < ls.length) (h5 : ls.length ≤ 5) :
    Calls Tryz.prog 51 #[.int .i64 ((k : Int) + 1), .int .i64 x, .pointer (some ⟨F, 0, none⟩)] w fun e w' => e = .returned (.int .i64 (fV (vF (ls.getD k [])) x 9)) ∧ Below w.heap.size w w' := by
  obtain ⟨root, hxr, m, hT, hr⟩ := hF.tries k hk
  have hcell := hF.cell
  obtain ⟨fa, fc, rfl, hfk, hfm⟩ := owns_form hF.own
  have hxl : xs.length = ls.length := by have := hF.own.1; omega
  obtain ⟨n, hn⟩ : ∃ n, ls.length = n := ⟨_, rfl⟩
  obtain ⟨R, hR⟩ : ∃ R, fV (vF (ls.getD k [])) x 9 = R := ⟨_, rfl⟩
  have hc : ∃ g, fa = some ⟨g, 0, none⟩ ∧ w.cell? ⟨g, k, none⟩ = some (findV root) := by
    rcases hF.own.2 with ⟨h1, h2⟩ | ⟨g, cap, cur, e1, _⟩
    · omega
    · simp only [Value.slice.injEq] at e1
      refine ⟨g, e1.1, ?_⟩
      have := hF.own
      rw [e1.1] at this
      rw [this.cellAt k (by omega), ← hxr, List.getD_eq_getElem?_getD, List.getElem?_eq_getElem (by omega)]; rfl
  obtain ⟨g, rfl, hgc⟩ := hc
  rw [hn] at hcell hfk hk h5
  rw [hR]
  have hfind : ∀ W, Drew w W → Calls Tryz.prog 50 #[.pointer (some ⟨root, 0, none⟩), .int .i64 x] W fun e w' => e = .returned (.int .i64 R) ∧ Drew W w' := fun W hW => by
    rw [← hR]; exact find_any root (F + 1) m _ x hx0 hx1 W (hT.below (hW.below _)) hr
  have HFI := Lib.hid hfind
  unfold findV at hgc
  have hkI : (k : Int) < (n : Int) := by omega
  have k0 : (0 : Int) ≤ (k : Int) := by omega
  clear hfind hT hr hxr hR hF hxl hn hx0 hx1
  go_enter Tryz.func51, Tryz.ntmps51
  go_wp2_with (go_at_call 50; refine (HFI.out _ (by first | exact Drew.refl _ | exact ⟨_, rfl⟩)).mono ?_; rintro e w1 ⟨rfl, hd⟩; have hb := hd.below w.heap.size; clear hd)
  go_ret
  exact ⟨rfl, hb⟩
def sendF (ls : List (List Ent)) (h x : Int) : Int := if tablesOkF ls = true ∧ 1 ≤ h ∧ h ≤ (ls.length : Int) ∧ addrF x = true then fV (vF (ls.getD (h - 1).toNat [])) x 9 else 0
set_option maxRecDepth 100000 in
set_option maxHeartbeats 4000000 in
theorem implSendNext_any (v : Value) (ls : List (List Ent)) (h x : Int) (w : World) (hv : TabsAt w v ls) :
    Calls Tryz.prog 12 #[v, .int .i64 h, .int .i64 x] w fun e w' => e = .returned (.int .i64 (sendF ls h x)) ∧ Below w.heap.size w w' := by
  have hfw := forwarding_any v ls w hv
  obtain ⟨a, cap, rfl, hc, hm⟩ := hv.form
  obtain ⟨n, hn⟩ : ∃ n, ls.length = n := ⟨_, rfl⟩
  obtain ⟨R, hR⟩ : ∃ R, sendF ls h x = R := ⟨_, rfl⟩
  rw [hR]
  unfold sendF at hR
  rw [hn] at hfw hR hc ⊢
  have HFW := Lib.hid hfw
  have HN := Lib.hid hn
  have HR := Lib.hid hR
  clear hfw hn hR hv
  cases hok : tablesOkF ls with
  | false =>
    have e := HR.out
    rw [hok, if_neg (by simp)] at e
    subst e
    have hfw : Calls Tryz.prog 28 #[.slice a n cap] w fun e w' => e = .returned (.tuple #[.nilFunc, .bool false]) ∧ Below w.heap.size w w' := HFW.out.mono fun e w1 ⟨h1, h2⟩ => by
      rcases h1 with ⟨h1, _⟩ | ⟨_, h1⟩
      · rw [hok] at h1; cases h1
      · exact ⟨h1, h2⟩
    have HFW := Lib.hid hfw
    clear hfw
    go_enter Tryz.func12, Tryz.ntmps12
    go_wp2_with (go_at_call 28; refine HFW.out.mono ?_; rintro e w1 ⟨rfl, hb1⟩)
    go_ret
    exact ⟨rfl, hb1⟩
  | true =>
    obtain ⟨hl1, hl5, _⟩ := tablesOk_at hok
    rw [HN.out] at hl1 hl5
    have hfw : Calls Tryz.prog 28 #[.slice a n cap] w fun e w' => ∃ F, e = .returned (.tuple #[fwdV F, .bool true]) ∧ (∃ fv xs, FindAt w' F fv xs ls) ∧ Below w.heap.size w w' := HFW.out.mono fun e w1 ⟨h1, h2⟩ => by
      rcases h1 with ⟨_, F, fv, xs, h1, h3⟩ | ⟨h1, _⟩
      · exact ⟨F, h1, ⟨fv, xs, h3⟩, h2⟩
      · rw [hok] at h1; cases h1
    have HFW := Lib.hid hfw
    have HOK := Lib.hid hok
    clear hfw hok
    by_cases h1 : h < 1
    · have e := HR.out
      rw [if_neg (by omega)] at e
      subst e
      go_enter Tryz.func12, Tryz.ntmps12
      go_wp2_with (go_at_call 28; refine HFW.out.mono ?_; rintro e w1 ⟨F, rfl, hF, hb1⟩; unfold fwdV)
      go_ret
      exact ⟨rfl, hb1⟩
    · by_cases h2 : (n : Int) < h
      · have e := HR.out
        rw [if_neg (by omega)] at e
        subst e
        go_enter Tryz.func12, Tryz.ntmps12
        go_wp2_with (go_at_call 28; refine HFW.out.mono ?_; rintro e w1 ⟨F, rfl, hF, hb1⟩; unfold fwdV)
        go_ret
        exact ⟨rfl, hb1⟩
      · obtain ⟨A, hA⟩ : ∃ A, addrF x = A := ⟨_, rfl⟩
        have haddr : ∀ W, Calls Tryz.prog 29 #[.int .i64 x] W fun e w' => e = .returned (.bool A) ∧ Drew W w' := fun W => by rw [← hA]; exact isAddr_any x W
        have HAD := Lib.hid haddr
        have HA := Lib.hid hA
        clear haddr hA
        cases A
        · have e := HR.out
          rw [if_neg (by rw [HA.out]; simp)] at e
          subst e
          go_enter Tryz.func12, Tryz.ntmps12
          go_wp2_with (first | (go_at_call 28; refine HFW.out.mono ?_; rintro e w1 ⟨F, rfl, hF, hb1⟩; unfold fwdV) | (go_at_call 29; refine (HAD.out _).mono ?_; rintro e w2 ⟨rfl, hd⟩; have hb2 := hd.below w1.heap.size))
          go_ret
          exact ⟨rfl, hb1.trans (hb2.mono hb1.size)⟩
        · obtain ⟨k, rfl⟩ : ∃ k : Nat, h = (k : Int) + 1 := ⟨(h - 1).toNat, by omega⟩
          have e := HR.out
          rw [if_pos ⟨HOK.out, by omega, by omega, HA.out⟩, show ((k : Int) + 1 - 1).toNat = k by omega] at e
          have hx : 0 ≤ x ∧ x ≤ 255 := by
            have := HA.out; unfold addrF at this; simpa using this
          have hkn : k < n := by omega
          have HE := Lib.hid e
          have HX := Lib.hid hx
          clear e hx
          go_enter Tryz.func12, Tryz.ntmps12
          go_wp2_with (first | (go_at_call 28; refine HFW.out.mono ?_; rintro e w1 ⟨F, rfl, hF, hb1⟩; unfold fwdV) | (go_at_call 29; refine (HAD.out _).mono ?_; rintro e w2 ⟨rfl, hd⟩; have hb2 := hd.below w1.heap.size) | (go_at_call 51; obtain ⟨fv, xs, hF⟩ := hF; refine (fwd1_any F fv xs ls k x HX.out.1 HX.out.2 _ (hF.below hb2) (by rw [HN.out]; exact hkn) (by rw [HN.out]; exact hl5)).mono ?_; rintro e w3 ⟨rfl, hb3⟩))
          go_ret
          exact ⟨congrArg (fun z => Ending.returned (.int .i64 z)) HE.out, (hb1.trans (hb2.mono hb1.size)).trans (hb3.mono (Nat.le_trans hb1.size hb2.size))⟩
end Go.Proofs.YtlpibfafpljedaaGreatDoor
