/- What came in as [][]Entry reads as tables. -/
import Derived.Test.YtgpdkplpneklgaaFwd
import Derived.Deep.Slices
import Derived.ChangeSame
import Derived.OpenShut
import Derived.ChangeOld
import Derived.Lib.SmallJoins
import Derived.ProofKit
namespace Go.Proofs.Ytgpdkplpneklgaa
open Go.RowKit Go.Joins Go.ChangeShapes Go.WideShapes Go.ChangeAt Go.Deep
set_option linter.unusedVariables false
variable {H : Type} {enc : TypeId × Value → H} {w : World} {base : Nat} {spare : Nat → Bool} {held : Bool}

theorem sliceAt_open {t e : TypeId} {fuel : Nat} {v : Value} {x : DataW H × List MemPlace} (ht : Try.prog.underlying t = some (.slice e)) (hc : Try.prog.cellsOf e = 1) (h : DataW.trod enc Try.prog w base spare held fuel t [v] = some x) :
    ∃ n V, SliceAt w v n V ∧ ∀ i, i < n → ∃ m y, DataW.trod enc Try.prog w base spare held m e [V i] = some y := by
  rcases open_slice1 ht hc h with ⟨hcs, _⟩ | ⟨a, len, cap, m, n, V, D, Pl, hcs, hb, hl, hm, hmm, _, hx⟩
  · simp only [List.cons.injEq, and_true] at hcs
    subst hcs
    exact ⟨0, fun _ => undef, ⟨none, 0, rfl, Nat.le_refl _, Nat.zero_le _, .inl rfl⟩, fun i hi => by omega⟩
  · simp only [List.cons.injEq, and_true] at hcs
    subst hcs
    have hlm : len ≤ m := by rw [hmm]; split <;> omega
    refine ⟨len, V, ⟨some a, cap, rfl, hl, hm, ?_⟩, fun i hi => ⟨n, _, (hx i (by omega)).2⟩⟩
    by_cases h0 : len = 0
    · exact .inl h0
    · obtain ⟨b, off, spot⟩ := a
      have hspot : spot = none := by simpa [Addr.add] using World.cell?_spot (hx 0 (by omega)).1
      subst hspot
      refine .inr ⟨b, off, rfl, ?_, fun i hi => ?_⟩
      · have := lt_of_cell (hx 0 (by omega)).1; rwa [add_block] at this
      · have := (hx i (by omega)).1; rwa [add_at] at this

set_option maxRecDepth 100000 in
theorem entAt_open {fuel : Nat} {cs : List Value} {x : DataW H × List MemPlace} (h : DataW.trod enc Try.prog w base spare held fuel 109 cs = some x) : ∃ e : Ent, cs = [.int .i64 e.1, .int .i64 e.2.1, .int .i64 e.2.2] := by
  obtain ⟨y0, y1, n, _, hl, h0, h1⟩ := trod_struct2 Try.underlying109 h
  have c3 : Try.prog.cellsOf 109 = 3 := by kernel_rfl
  have c2 : Try.prog.cellsOf 77 = 2 := by kernel_rfl
  have c1 : Try.prog.cellsOf 3 = 1 := by kernel_rfl
  rw [c3] at hl
  match cs, hl with
  | [v0, v1, v2], _ =>
    simp [c2, c1] at h0 h1
    obtain ⟨z0, z1, n', _, _, g0, g1⟩ := trod_struct2 Try.underlying77 h0
    simp [c1] at g0 g1
    obtain ⟨p2, e2, _⟩ := DataW.trod_int Try.underlying3 h1
    obtain ⟨p0, e0, _⟩ := DataW.trod_int Try.underlying3 g0
    obtain ⟨p1, e1, _⟩ := DataW.trod_int Try.underlying3 g1
    simp only [List.cons.injEq, and_true] at e0 e1 e2
    subst e0 e1 e2
    exact ⟨(p0, p1, p2), rfl⟩
theorem entsAt_open {fuel : Nat} {v : Value} {x : DataW H × List MemPlace} (h : DataW.trod enc Try.prog w base spare held fuel 82 [v] = some x) : ∃ l, EntsAt w v l := by
  have c3 : Try.prog.cellsOf 109 = 3 := by kernel_rfl
  rcases open_slice Try.underlying82 h with ⟨hcs, _⟩ | ⟨a, len, cap, m, n, D, Pl, hcs, hb, hl, hm, hmm, _, hx⟩
  · simp only [List.cons.injEq, and_true] at hcs
    subst hcs
    exact ⟨[], none, 0, rfl, Nat.le_refl _, Nat.zero_le _, .inl rfl⟩
  · simp only [List.cons.injEq, and_true] at hcs
    subst hcs
    have hlm : len ≤ m := by rw [hmm]; split <;> omega
    have each : ∀ i, i < len → ∃ e : Ent, w.cell? (a.add (i * 3)) = some (.int .i64 e.1) ∧ w.cell? (a.add (i * 3 + 1)) = some (.int .i64 e.2.1) ∧ w.cell? (a.add (i * 3 + 2)) = some (.int .i64 e.2.2) := fun i hi => by
      obtain ⟨cs', h1, h2⟩ := hx i (by omega)
      rw [c3] at h1
      obtain ⟨_, hlen, hcell⟩ := World.cells?_some h1
      obtain ⟨e, rfl⟩ := entAt_open h2
      have e0 := hcell 0 (by omega)
      have e1 := hcell 1 (by omega)
      have e2 := hcell 2 (by omega)
      rw [add_add] at e0 e1 e2
      exact ⟨e, by simpa using e0, by simpa using e1, by simpa using e2⟩
    obtain ⟨Z, hZ⟩ := choose_lt (α := Ent) each
    refine ⟨(List.range len).map Z, some a, cap, by simp, by simpa using hl, hm, ?_⟩
    simp only [List.length_map, List.length_range]
    by_cases h0 : len = 0
    · exact .inl h0
    · obtain ⟨b, off, spot⟩ := a
      have hspot : spot = none := by simpa [Addr.add] using World.cell?_spot (hZ 0 (by omega)).1
      subst hspot
      refine .inr ⟨b, off, rfl, ?_, fun i hi => ?_⟩
      · have := lt_of_cell (hZ 0 (by omega)).1; rwa [add_block] at this
      · have e : ((List.range len).map Z).getD i (0, 0, 0) = Z i := by simp [hi]
        have := hZ i hi
        rw [add_at, add_at, add_at] at this
        rw [e]; exact this
theorem tabsAt_open {fuel : Nat} {v : Value} {x : DataW H × List MemPlace} (h : DataW.trod enc Try.prog w base spare held fuel 41 [v] = some x) : ∃ l, TabsAt w v l := by
  obtain ⟨n, V, hs, hi⟩ := sliceAt_open Try.underlying41 (by kernel_rfl) h
  have hz : ∀ i, i < n → ∃ l, EntsAt w (V i) l := fun i hin => by
    obtain ⟨m, y, hy⟩ := hi i hin
    exact entsAt_open hy
  obtain ⟨Z, hZ⟩ := choose_lt (α := List Ent) hz
  refine ⟨(List.range n).map Z, V, by simpa using hs, fun i hin => ?_⟩
  have hin' : i < n := by simpa using hin
  have e : ((List.range n).map Z).getD i [] = Z i := by simp [hin']
  rw [e]; exact hZ i hin'
end Go.Proofs.Ytgpdkplpneklgaa
