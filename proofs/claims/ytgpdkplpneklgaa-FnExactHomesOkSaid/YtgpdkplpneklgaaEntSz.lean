/- The laws' own measures of tables: szEntryS, szEntrySS. -/
import Derived.Test.YtgpdkplpneklgaaSendS
import Derived.Deep.LoopGhost
namespace Go.Proofs.Ytgpdkplpneklgaa
open Go.RowKit
set_option linter.unusedVariables false

def SmallE (l : List Ent) : Prop := l.length ≤ 1048576
def SmallT (l : List (List Ent)) : Prop := l.length ≤ 1048576 ∧ ∀ i, i < l.length → SmallE (l.getD i [])
/-- what is left, or -1 -/
def SzPost (small : Prop) (left : Int) (w : World) (e : Ending) (w' : World) : Prop := ∃ k : Int, e = .returned (.int .i64 k) ∧ k ≤ left ∧ -1 ≤ k ∧ (0 ≤ k → small) ∧ w' = w
set_option maxHeartbeats 1000000 in
theorem szEntryS_any (v : Value) (l : List Ent) (left : Int) (w : World) (h : EntsAt w v l) (h0 : 0 ≤ left) (h1 : left ≤ 1048576) :
    Calls Try.prog 50 #[v, .int .i64 left] w (SzPost (SmallE l) left w) := by
  obtain ⟨a, cap, rfl, hc, hm⟩ := h.form
  have hs : (0 ≤ left - l.length → SmallE l) := fun h => by unfold SmallE; omega
  obtain ⟨n, hn⟩ : ∃ n, l.length = n := ⟨_, rfl⟩
  rw [hn] at hc h hs ⊢
  have HS := Lib.hid hs
  clear hs h hn
  go_enter Try.func50, Try.ntmps50
  by_cases hlt : left - (n : Int) < 0
  · go_wp2_with fail
    go_ret
    exact ⟨-1, rfl, by omega, by omega, fun h => by omega, rfl⟩
  · go_wp2_with fail
    go_ret
    exact ⟨left - n, rfl, by omega, by omega, HS.out, rfl⟩

set_option maxHeartbeats 1000000 in
theorem szEntrySS_any (v : Value) (l : List (List Ent)) (left : Int) (w : World) (h : TabsAt w v l) (h0 : 0 ≤ left) (h1 : left ≤ 1048576) :
    Calls Try.prog 18 #[v, .int .i64 left] w (SzPost (SmallT l) left w) := by
  obtain ⟨a, cap, rfl, hc, hm⟩ := h.form
  obtain ⟨n, hn⟩ : ∃ n, l.length = n := ⟨_, rfl⟩
  rw [hn] at hc h ⊢
  have HN := Lib.hid hn
  have H := Lib.hid h
  clear hn h
  by_cases hlt : left - (n : Int) < 0
  · go_enter Try.func18, Try.ntmps18
    go_wp2_with fail
    go_ret
    exact ⟨-1, rfl, by omega, by omega, fun h => by omega, rfl⟩
  · have hnl : n ≤ 1048576 := by omega
    go_enter Try.func18, Try.ntmps18
    go_wp2_with fail
    go_loopg [1, 5] n (fun g s i wr => ∃ (k : Nat) (r : Int), i = .int .i64 k ∧ s = .int .i64 r ∧ k + g = n ∧ 0 ≤ r ∧ r ≤ left ∧ wr = w ∧ Hid (∀ i, i < k → SmallE (l.getD i [])))
    case atStart => exact ⟨0, left - n, rfl, rfl, by omega, by omega, by omega, rfl, Lib.hid fun i hi => by omega⟩
    case round =>
      obtain ⟨k, r, rfl, rfl, hk, r0, r1, rfl, hsm⟩ := hrel
      by_cases hg : gk = 0
      · subst hg
        obtain rfl : k = n := by omega
        go_wp2_with fail
        go_ret
        exact ⟨r, rfl, r1, by omega, fun _ => ⟨by rw [HN.out]; exact hnl, fun i hi => hsm.out i (by rw [← HN.out]; exact hi)⟩, rfl⟩
      · have hkl : k < n := by omega
        obtain ⟨b, off, v2, rfl, hb, hx, hin⟩ := H.out.get k hkl
        have hcall := szEntryS_any v2 (l.getD k []) r wr hin r0 (by omega)
        have HC := Lib.hid hcall
        have HK := Lib.hid hk
        clear hk hcall hin
        go_wp2_with fail
        refine (HC.out).mono ?_
        rintro e w1 ⟨q, rfl, q1, q2, hq, rfl⟩
        have HQ := Lib.hid hq
        clear hq
        by_cases hq0 : q < 0
        · go_wp2_with fail
          go_ret
          exact ⟨-1, rfl, by omega, by omega, fun h => by omega, rfl⟩
        · go_wp2_with fail
          go_roundg (gk - 1)
          case measure => omega
          case rel =>
            refine ⟨k + 1, q, by go_num, rfl, by have := HK.out; omega, by omega, by omega, rfl, Lib.hid fun i hi => ?_⟩
            by_cases hik : i = k
            · subst hik; exact HQ.out (by omega)
            · exact hsm.out i (by omega)

end Go.Proofs.Ytgpdkplpneklgaa
