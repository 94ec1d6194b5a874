/- What came in as [][]int or [][][]int reads as lists of lists. -/
import Derived.Test.YtlkchhedlbaomaaNest
import Derived.Deep.Slices
import Derived.OpenShut
import Derived.ChangeOld
import Derived.Lib.SmallJoins
import Derived.ProofKit
namespace Go.Proofs.Ytlkchhedlbaomaa
open Go.RowKit Go.Joins Go.ChangeShapes Go.WideShapes Go.ChangeAt Go.Deep
set_option linter.unusedVariables false
variable {H : Type} {enc : TypeId × Value → H} {w : World} {base : Nat} {spare : Nat → Bool} {held : Bool}

theorem sliceAt_open {t e : TypeId} {fuel : Nat} {v : Value} {x : DataW H × List MemPlace} (ht : Try.prog.underlying t = some (.slice e)) (hc : Try.prog.cellsOf e = 1) (h : DataW.trod enc Try.prog w base spare held fuel t [v] = some x) :
    ∃ n V, SliceAt w v n V ∧ ∀ i, i < n → ∃ m y, DataW.trod enc Try.prog w base spare held m e [V i] = some y := by
  rcases open_slice1 ht hc h with ⟨hcs, _⟩ | ⟨a, len, cap, m, n, V, D, Pl, hcs, hb, hl, hm, hmm, _, hx⟩
  · simp only [List.cons.injEq, and_true] at hcs
    subst hcs
    exact ⟨0, fun _ => undef, ⟨none, 0, rfl, Nat.le_refl _, Nat.zero_le _, .inl rfl⟩, fun i hi => by omega⟩
  · simp only [List.cons.injEq, and_true] at hcs
    subst hcs
    have hlm : len ≤ m := by rw [hmm]; split <;> omega
    refine ⟨len, V, ⟨some a, cap, rfl, hl, hm, ?_⟩, fun i hi => ⟨n, _, (hx i (by omega)).2⟩⟩
    by_cases h0 : len = 0
    · exact .inl h0
    · obtain ⟨b, off, spot⟩ := a
      have hspot : spot = none := by simpa [Addr.add] using World.cell?_spot (hx 0 (by omega)).1
      subst hspot
      refine .inr ⟨b, off, rfl, ?_, fun i hi => ?_⟩
      · have := lt_of_cell (hx 0 (by omega)).1; rwa [add_block] at this
      · have := (hx i (by omega)).1; rwa [add_at] at this

theorem intsAt_open {fuel : Nat} {v : Value} {x : DataW H × List MemPlace} (h : DataW.trod enc Try.prog w base spare held fuel 27 [v] = some x) : ∃ l, IntsAt w v l := by
  obtain ⟨n, V, hs, hi⟩ := sliceAt_open Try.underlying27 (by kernel_rfl) h
  have hz : ∀ i, i < n → ∃ z : Int, V i = .int .i64 z := fun i hin => by
    obtain ⟨m, y, hy⟩ := hi i hin
    obtain ⟨p, e, _⟩ := DataW.trod_int Try.underlying3 hy
    simp only [List.cons.injEq, and_true] at e
    exact ⟨p, e⟩
  obtain ⟨Z, hZ⟩ := choose_lt (α := Int) hz
  refine ⟨(List.range n).map Z, ?_⟩
  unfold IntsAt
  simp only [List.length_map, List.length_range]
  obtain ⟨a, cap, rfl, h1, h2, h3⟩ := hs
  refine ⟨a, cap, rfl, h1, h2, ?_⟩
  rcases h3 with h3 | ⟨b, off, rfl, hb, hc⟩
  · exact .inl h3
  · refine .inr ⟨b, off, rfl, hb, fun i hin => ?_⟩
    rw [hc i hin, hZ i hin]
    simp [hin]
theorem rowsAt_open {fuel : Nat} {v : Value} {x : DataW H × List MemPlace} (h : DataW.trod enc Try.prog w base spare held fuel 26 [v] = some x) : ∃ l, RowsAt w v l := by
  obtain ⟨n, V, hs, hi⟩ := sliceAt_open Try.underlying26 (by kernel_rfl) h
  have hz : ∀ i, i < n → ∃ l, IntsAt w (V i) l := fun i hin => by
    obtain ⟨m, y, hy⟩ := hi i hin
    exact intsAt_open hy
  obtain ⟨Z, hZ⟩ := choose_lt (α := List Int) hz
  refine ⟨(List.range n).map Z, V, by simpa using hs, fun i hin => ?_⟩
  have hin' : i < n := by simpa using hin
  have e : ((List.range n).map Z).getD i [] = Z i := by simp [hin']
  rw [e]; exact hZ i hin'
theorem gridAt_open {fuel : Nat} {v : Value} {x : DataW H × List MemPlace} (h : DataW.trod enc Try.prog w base spare held fuel 23 [v] = some x) : ∃ l, GridAt w v l := by
  obtain ⟨n, V, hs, hi⟩ := sliceAt_open Try.underlying23 (by kernel_rfl) h
  have hz : ∀ i, i < n → ∃ l, RowsAt w (V i) l := fun i hin => by
    obtain ⟨m, y, hy⟩ := hi i hin
    exact rowsAt_open hy
  obtain ⟨Z, hZ⟩ := choose_lt (α := List (List Int)) hz
  refine ⟨(List.range n).map Z, V, by simpa using hs, fun i hin => ?_⟩
  have hin' : i < n := by simpa using hin
  have e : ((List.range n).map Z).getD i [] = Z i := by simp [hin']
  rw [e]; exact hZ i hin'
end Go.Proofs.Ytlkchhedlbaomaa
