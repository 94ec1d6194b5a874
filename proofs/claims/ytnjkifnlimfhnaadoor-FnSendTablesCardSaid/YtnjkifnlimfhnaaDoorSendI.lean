/- The closure of impl.forwarding; impl.SendNext. -/
import Derived.Test.YtnjkifnlimfhnaaDoorFwdW
namespace Go.Proofs.YtnjkifnlimfhnaaDoor
open Go.RowKit
set_option linter.unusedVariables false

set_option maxRecDepth 100000 in
set_option maxHeartbeats 4000000 in
theorem fwd1_any (F : Nat) (fv : Value) (xs : List Value) (ls : List (List Ent)) (k : Nat) (x : Int) (hx0 : 0 ≤ x) (hx1 : x ≤ 255) (w : World) (hF : FindAt w F fv xs ls) (hk : k < ls.length) (h5 : ls.length ≤ 5) :
    Calls Tryd.prog 58 #[.int .i64 ((k : Int) + 1), .int .i64 x, .pointer (some ⟨F, 0, none⟩)] w fun e w' => e = .returned (.int .i64 (fV (vF (ls.getD k [])) x 9)) ∧ Below w.heap.size w w' := by
  obtain ⟨root, hxr, m, hT, hr⟩ := hF.tries k hk
  have hcell := hF.cell
  obtain ⟨fa, fc, rfl, hfk, hfm⟩ := owns_form hF.own
  have hxl : xs.length = ls.length := by have := hF.own.1; omega
  obtain ⟨n, hn⟩ : ∃ n, ls.length = n := ⟨_, rfl⟩
  obtain ⟨R, hR⟩ : ∃ R, fV (vF (ls.getD k [])) x 9 = R := ⟨_, rfl⟩
  have hc : ∃ g, fa = some ⟨g, 0, none⟩ ∧ w.cell? ⟨g, k, none⟩ = some (findV root) := by
    rcases hF.own.2 with ⟨h1, h2⟩ | ⟨g, cap, cur, e1, _⟩
    · omega
    · simp only [Value.slice.injEq] at e1
      refine ⟨g, e1.1, ?_⟩
      have := hF.own
      rw [e1.1] at this
      rw [this.cellAt k (by omega), ← hxr, List.getD_eq_getElem?_getD, List.getElem?_eq_getElem (by omega)]; rfl
  obtain ⟨g, rfl, hgc⟩ := hc
  rw [hn] at hcell hfk hk h5
  rw [hR]
  have hfind : ∀ W, Drew w W → Calls Tryd.prog 57 #[.pointer (some ⟨root, 0, none⟩), .int .i64 x] W fun e w' => e = .returned (.int .i64 R) ∧ Drew W w' := fun W hW => by
    rw [← hR]; exact find_any root (F + 1) m _ x hx0 hx1 W (hT.below (hW.below _)) hr
  have HFI := Lib.hid hfind
  unfold findV at hgc
  have hkI : (k : Int) < (n : Int) := by omega
  have k0 : (0 : Int) ≤ (k : Int) := by omega
  clear hfind hT hr hxr hR hF hxl hn hx0 hx1
  go_enter Tryd.func58, Tryd.ntmps58
  go_wp2_with (go_at_call 57; refine (HFI.out _ (by first | exact Drew.refl _ | exact ⟨_, rfl⟩)).mono ?_; rintro e w1 ⟨rfl, hd⟩; have hb := hd.below w.heap.size; clear hd)
  go_ret
  exact ⟨rfl, hb⟩
def sendF (ls : List (List Ent)) (h x : Int) : Int := if tablesOkF ls = true ∧ 1 ≤ h ∧ h ≤ (ls.length : Int) ∧ addrF x = true then fV (vF (ls.getD (h - 1).toNat [])) x 9 else 0
end Go.Proofs.YtnjkifnlimfhnaaDoor
