/- The draws of FnSendNext and FnSendWay; impl.TableFind. -/
import Derived.Test.YtnjkifnlimfhnaaDoorDrawTabs
import Derived.Test.YtnjkifnlimfhnaaDoorSendI
namespace Go.Proofs.YtnjkifnlimfhnaaDoor
open Go.RowKit
set_option linter.unusedVariables false

def SendDrawn (w : World) (e : Ending) (w' : World) : Prop :=
  ∃ (v : Value) (h ad : Int) (ls : List (List Ent)), e = .returned (.tuple #[v, .int .i64 h, .int .i64 ad]) ∧ 1 ≤ h ∧ h ≤ 5 ∧ 0 ≤ ad ∧ ad ≤ 600 ∧ TabsAt w' v ls ∧ Tabs3 ls ∧ Below w.heap.size w w'
set_option maxHeartbeats 1000000 in
theorem drawSendWay_any (a : Option Addr) (len cap : Nat) (zs : List Int) (w : World) (h : IsRow .u8 w a len cap zs) :
    Calls Tryd.prog 13 #[.slice a len cap] w (SendDrawn w) := by
  obtain ⟨hm, hc⟩ := h.bounds
  have H := Lib.hid h
  clear h
  go_enter Tryd.func13, Tryd.ntmps13
  go_wp2_with fail
  refine (l6Open_any _ _ _ zs _ H.out hm hc).mono ?_
  rintro e w1 ⟨len', rfl, hw1, hr⟩
  have hO0 : Only w.heap.size w w1 := by rw [hw1]; exact (Only.refl _ _).alloc _
  have hs1 : w.heap.size < w1.heap.size := by rw [hw1]; simp
  have R := Lib.hid hr
  have O1 := Lib.hid hO0
  clear hr hO0 hw1
  go_wp2_with fail
  refine (l92Tables_any _ _ _ _ zs 0 _ (by omega) hs1 R.out).mono ?_
  rintro e w2 ⟨v, h, ad, q, ls, rfl, h1, h5, a0, a6, _, _, hR, hO, hT, hT3⟩
  have hb : Below w.heap.size w w2 := (O1.out.trans hO).below (Nat.le_refl _) (Nat.le_refl _)
  have HT := Lib.hid hT.tabs
  have HT3 := Lib.hid hT3
  obtain ⟨va, vc, e', _, _⟩ := hT.form
  subst e'
  clear hR hO hT hT3
  go_wp2_with fail
  refine bodyPost_ret (v := .tuple #[.slice va ls.length vc, .int .i64 h, .int .i64 ad]) (by simp [results, Tryd.results13, go_sem]) rfl ?_
  exact ⟨_, h, ad, ls, rfl, h1, h5, a0, a6, HT.out, HT3.out, hb⟩
def findF (l : List Ent) (x : Int) : Int := if tableOkF l = true ∧ addrF x = true then fV (vF l) x 9 else 0
end Go.Proofs.YtnjkifnlimfhnaaDoor
