/- Homes, and rows of numbers, as arguments. -/
import Derived.Test.YtnjkifnlimfhnaaGreatDoorEntOpen
import Derived.Deep.Slices
import Derived.ChangeSame
import Derived.OpenShut
import Derived.ChangeOld
import Derived.Lib.SmallJoins
import Derived.ProofKit
namespace Go.Proofs.YtnjkifnlimfhnaaGreatDoor
open Go.RowKit Go.Joins Go.ChangeShapes Go.WideShapes Go.ChangeAt Go.Deep
set_option linter.unusedVariables false
variable {H : Type} {enc : TypeId × Value → H} {w : World} {base : Nat} {spare : Nat → Bool} {held : Bool}

theorem intsAt_open {fuel : Nat} {v : Value} {x : DataW H × List MemPlace} (h : DataW.trod enc Tryz.prog w base spare held fuel 43 [v] = some x) : ∃ l, IntsAt w v l := by
  obtain ⟨n, V, hs, hi⟩ := sliceAt_open Tryz.underlying43 (by kernel_rfl) h
  have hz : ∀ i, i < n → ∃ z : Int, V i = .int .i64 z := fun i hin => by
    obtain ⟨m, y, hy⟩ := hi i hin
    obtain ⟨p, e, _⟩ := DataW.trod_int Tryz.underlying3 hy
    simp only [List.cons.injEq, and_true] at e
    exact ⟨p, e⟩
  obtain ⟨Z, hZ⟩ := choose_lt (α := Int) hz
  refine ⟨(List.range n).map Z, ?_⟩
  unfold IntsAt
  simp only [List.length_map, List.length_range]
  obtain ⟨a, cap, rfl, h1, h2, h3⟩ := hs
  refine ⟨a, cap, rfl, h1, h2, ?_⟩
  rcases h3 with h3 | ⟨b, off, rfl, hb, hc⟩
  · exact .inl h3
  · refine .inr ⟨b, off, rfl, hb, fun i hin => ?_⟩
    rw [hc i hin, hZ i hin]
    simp [hin]
theorem rowsAt_open {fuel : Nat} {v : Value} {x : DataW H × List MemPlace} (h : DataW.trod enc Tryz.prog w base spare held fuel 23 [v] = some x) : ∃ l, RowsAt w v l := by
  obtain ⟨n, V, hs, hi⟩ := sliceAt_open Tryz.underlying23 (by kernel_rfl) h
  have hz : ∀ i, i < n → ∃ l, IntsAt w (V i) l := fun i hin => by
    obtain ⟨m, y, hy⟩ := hi i hin
    exact intsAt_open hy
  obtain ⟨Z, hZ⟩ := choose_lt (α := List Int) hz
  refine ⟨(List.range n).map Z, V, by simpa using hs, fun i hin => ?_⟩
  have hin' : i < n := by simpa using hin
  have e : ((List.range n).map Z).getD i [] = Z i := by simp [hin']
  rw [e]; exact hZ i hin'
set_option maxRecDepth 100000 in
theorem homAt_open {fuel : Nat} {cs : List Value} {x : DataW H × List MemPlace} (h : DataW.trod enc Tryz.prog w base spare held fuel 90 cs = some x) : ∃ e : Ent, cs = [.int .i64 e.1, .int .i64 e.2.1, .int .i64 e.2.2] := by
  obtain ⟨y0, y1, n, _, hl, h0, h1⟩ := trod_struct2 Tryz.underlying90 h
  have c3 : Tryz.prog.cellsOf 90 = 3 := by kernel_rfl
  have c2 : Tryz.prog.cellsOf 88 = 2 := by kernel_rfl
  have c1 : Tryz.prog.cellsOf 3 = 1 := by kernel_rfl
  rw [c3] at hl
  match cs, hl with
  | [v0, v1, v2], _ =>
    simp [c2, c1] at h0 h1
    obtain ⟨z0, z1, n', _, _, g0, g1⟩ := trod_struct2 Tryz.underlying88 h0
    simp [c1] at g0 g1
    obtain ⟨p2, e2, _⟩ := DataW.trod_int Tryz.underlying3 h1
    obtain ⟨p0, e0, _⟩ := DataW.trod_int Tryz.underlying3 g0
    obtain ⟨p1, e1, _⟩ := DataW.trod_int Tryz.underlying3 g1
    simp only [List.cons.injEq, and_true] at e0 e1 e2
    subst e0 e1 e2
    exact ⟨(p0, p1, p2), rfl⟩
theorem homsAt_open {fuel : Nat} {v : Value} {x : DataW H × List MemPlace} (h : DataW.trod enc Tryz.prog w base spare held fuel 47 [v] = some x) : ∃ l, EntsAt w v l := by
  have c3 : Tryz.prog.cellsOf 90 = 3 := by kernel_rfl
  rcases open_slice Tryz.underlying47 h with ⟨hcs, _⟩ | ⟨a, len, cap, m, n, D, Pl, hcs, hb, hl, hm, hmm, _, hx⟩
  · simp only [List.cons.injEq, and_true] at hcs
    subst hcs
    exact ⟨[], none, 0, rfl, Nat.le_refl _, Nat.zero_le _, .inl rfl⟩
  · simp only [List.cons.injEq, and_true] at hcs
    subst hcs
    have hlm : len ≤ m := by rw [hmm]; split <;> omega
    have each : ∀ i, i < len → ∃ e : Ent, w.cell? (a.add (i * 3)) = some (.int .i64 e.1) ∧ w.cell? (a.add (i * 3 + 1)) = some (.int .i64 e.2.1) ∧ w.cell? (a.add (i * 3 + 2)) = some (.int .i64 e.2.2) := fun i hi => by
      obtain ⟨cs', h1, h2⟩ := hx i (by omega)
      rw [c3] at h1
      obtain ⟨_, hlen, hcell⟩ := World.cells?_some h1
      obtain ⟨e, rfl⟩ := homAt_open h2
      have e0 := hcell 0 (by omega)
      have e1 := hcell 1 (by omega)
      have e2 := hcell 2 (by omega)
      rw [add_add] at e0 e1 e2
      exact ⟨e, by simpa using e0, by simpa using e1, by simpa using e2⟩
    obtain ⟨Z, hZ⟩ := choose_lt (α := Ent) each
    refine ⟨(List.range len).map Z, some a, cap, by simp, by simpa using hl, hm, ?_⟩
    simp only [List.length_map, List.length_range]
    by_cases h0 : len = 0
    · exact .inl h0
    · obtain ⟨b, off, spot⟩ := a
      have hspot : spot = none := by simpa [Addr.add] using World.cell?_spot (hZ 0 (by omega)).1
      subst hspot
      refine .inr ⟨b, off, rfl, ?_, fun i hi => ?_⟩
      · have := lt_of_cell (hZ 0 (by omega)).1; rwa [add_block] at this
      · have e : ((List.range len).map Z).getD i (0, 0, 0) = Z i := by simp [hi]
        have := hZ i hi
        rw [add_at, add_at, add_at] at this
        rw [e]; exact this

end Go.Proofs.YtnjkifnlimfhnaaGreatDoor
