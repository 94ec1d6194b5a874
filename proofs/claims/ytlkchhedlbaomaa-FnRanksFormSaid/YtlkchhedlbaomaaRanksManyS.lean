/- spec.RanksMany. -/
import Derived.Test.YtlkchhedlbaomaaRanksStill
import Derived.Test.YtlkchhedlbaomaaRanksSpecOk
import Derived.Test.YtlkchhedlbaomaaRanksPlain4
import Derived.Test.YtlkchhedlbaomaaRanksCopy
import Derived.Deep.RegionHeld3
namespace Go.Proofs.Ytlkchhedlbaomaa
open Go.RowKit
set_option linter.unusedVariables false

theorem choice_any (v : Value) (row : List (List Int)) (k : Nat) (w : World) (hv : RowsAt w v row) (hk : k ≤ row.length) (h3 : row.length ≤ 3) :
    Calls Try.prog 66 #[v, .int .i64 (k : Int)] w fun e w' => ∃ sa sn sc, e = .returned (.slice sa sn sc) ∧ IntsAt w' (.slice sa sn sc) ((chs row).getD k []) ∧ Below w.heap.size w w' := by
  obtain ⟨a, cap, rfl, hc, hm⟩ := hv.form
  by_cases h0 : k = 0
  · subst h0
    clear hv
    go_enter Try.func66, Try.ntmps66
    go_wp2_with fail
    go_ret
    refine ⟨_, _, _, rfl, ?_, by repeat (first | exact Below.refl _ _ | assumption | refine Below.drew ?_ | refine belowDrewN ?_ _ | refine Below.alloc ?_ (by first | exact Nat.le_refl _ | omega | (simp; done) | (simp; omega)) _ | refine Below.setCell ?_ (by first | exact Nat.le_refl _ | omega | (simp; done) | (simp; omega)) _)⟩
    exact ⟨_, _, rfl, Nat.zero_le _, by unfold maxLen; omega, .inl rfl⟩
  · obtain ⟨j, rfl⟩ : ∃ j, k = j + 1 := ⟨k - 1, by omega⟩
    obtain ⟨rn, hrn⟩ : ∃ rn, row.length = rn := ⟨_, rfl⟩
    rw [hrn] at hk h3 hv hc ⊢
    obtain ⟨b, off, v1, rfl, hb, hx, hi⟩ := hv.get j (by omega)
    obtain ⟨sa, sc, rfl, _, _⟩ := hi.form
    have HI := Lib.hid hi
    clear hi hv
    have hne : (((j : Int) + 1) == 0) = false := by simp; omega
    have e1 : (((j + 1 : Nat)) : Int) = (j : Int) + 1 := by omega
    rw [e1]
    have i1 : (j : Int) + 1 - 1 = (j : Int) := by omega
    have i3 : IntKind.i64.wrap (j : Int) = (j : Int) := IntWalk.i64_in _ (by omega)
    go_enter Try.func66, Try.ntmps66
    go_wp2_with fail
    go_ret
    refine ⟨_, _, _, rfl, ?_, Below.refl _ _⟩
    have : (chs row).getD (j + 1) [] = row.getD j [] := by simp [chs]
    rw [this]; exact HI.out

/-- three ways in a slice of their own -/
theorem rows_lit3 (w : World) (v0 v1 v2 : Value) (p0 p1 p2 : List Int) (h0 : IntsAt w v0 p0) (h1 : IntsAt w v1 p1) (h2 : IntsAt w v2 p2) :
    RowsAt (w.alloc (.cells #[v0, v1, v2] 27)) (.slice (some ⟨w.heap.size, 0, none⟩) 3 3) [p0, p1, p2] ∧ Below w.heap.size w (w.alloc (.cells #[v0, v1, v2] 27)) := by
  have hb : Below w.heap.size w (w.alloc (.cells #[v0, v1, v2] 27)) := (Below.refl _ _).alloc (Nat.le_refl _) _
  have hl := World.ownsRow_lit (e := 27) (base := w.heap.size) (size := 1) w #[v0, v1, v2] 3 (Nat.le_refl _) (by unfold maxLen; omega) rfl
  have hs := ownsRow_slice (vs := [v0, v1, v2]) rfl hl
  refine ⟨⟨_, hs, fun i hi => ?_⟩, hb⟩
  match i, hi with
  | 0, _ => exact h0.below hb
  | 1, _ => exact h1.below hb
  | 2, _ => exact h2.below hb
end Go.Proofs.Ytlkchhedlbaomaa
