/- Slices of integers that the laws themselves copy and compare: toIntS, eqIntS. -/
import Derived.Test.YtbjonkjigfnnnaaKit
import Derived.OwnWalk
import Derived.Deep.LoopGhost
import Derived.Deep.QuietTactic
import Derived.BigQuiet
namespace Go.Proofs.Ytbjonkjigfnnnaa
open Go.RowKit
set_option linter.unusedVariables false

theorem info_int' : (Try.prog.info? 3).map (fun i => (i.zero, i.size, i.bytes)) = some (some (.int .i64 0), 1, 8) := by kernel_rfl

/-- the first k of the numbers, and noughts -/
def halfCopy (zs : List Int) (len k : Nat) : List Value := (List.range len).map fun j => if j < k then .int .i64 (zs.getD j 0) else .int .i64 0
theorem halfCopy_zero (zs : List Int) (len : Nat) : halfCopy zs len 0 = List.replicate len (.int .i64 0) := by
  unfold halfCopy; simp [List.map_const']
theorem halfCopy_len (zs : List Int) (len : Nat) (h : len ≤ zs.length) : halfCopy zs len len = (zs.take len).map (Value.int .i64) := by
  unfold halfCopy
  apply List.ext_getElem?
  intro j
  by_cases hj : j < len
  · simp [hj, List.getElem?_eq_getElem (show j < zs.length by omega)]
  · simp [hj]; omega
theorem halfCopy_get (zs : List Int) (len k : Nat) (h : k < len) : (halfCopy zs len k)[k]? = some (.int .i64 0) := by
  unfold halfCopy; simp [h]
theorem halfCopy_set (zs : List Int) (len k : Nat) (h : k < len) : (halfCopy zs len k).set k (.int .i64 (zs.getD k 0)) = halfCopy zs len (k + 1) := by
  unfold halfCopy
  apply List.ext_getElem?
  intro j
  rw [List.getElem?_set]
  by_cases hj : j < len
  · by_cases hk : k = j
    · subst hk; simp [hj]
    · simp [hj, hk]
      by_cases h1 : j < k
      · simp [h1, show j < k + 1 by omega]
      · simp [h1, show ¬ j < k + 1 by omega]
  · have : ¬ k = j := by omega
    simp [hj, this]

/-- The numbers have been copied into a new row. -/
def CopyPost (l : List Int) (w : World) (e : Ending) (w' : World) : Prop :=
  e = .returned (.slice (some ⟨w.heap.size, 0, none⟩) l.length l.length) ∧ w'.ownsRow w.heap.size 3 1 (.slice (some ⟨w.heap.size, 0, none⟩) l.length l.length) l.length (l.map (Value.int .i64)) ∧ Below w.heap.size w w'

set_option maxHeartbeats 1000000 in
theorem toIntS_some (b off len cap : Nat) (zs : List Int) (w : World) (hl0 : 0 < len) (hlz : len ≤ zs.length) (hlen : len ≤ 1048576) (hb : b < w.heap.size)
    (hcell : Hid (∀ i, i < len → w.cell? ⟨b, off + i, none⟩ = some (.int .i64 (zs.getD i 0)))) :
    Calls Try.prog 33 #[.slice (some ⟨b, off, none⟩) len cap] w (CopyPost (zs.take len) w) := by
  obtain ⟨i0, hi, hz0, hz1, hz2⟩ := info_parts info_int'
  have hlt : (zs.take len).length = len := by simp; omega
  have HLT := Lib.hid hlt
  clear hlt
  go_enter Try.func33, Try.ntmps33
  go_wp2_with (at_make; refine wpList_make_full _ rfl (.tmp 6) (.tmp 6) 39 rfl w.heap.size 3 i0 (.int .i64 0) 1 Try.underlying39 hi hz0 hz1 .i64 .i64 len len len rfl rfl rfl rfl (by rw [hz2]; omega) (by unfold maxLen; omega) (by simp) ?_; intro w1 hown hgrow)
  have hB1 : Below w.heap.size w w1 := (Below.refl _ _).grown hgrow (Nat.le_refl _) (by intro k hk; cases hk)
  have hown0 : w1.ownsRow w.heap.size 3 1 (.slice (some ⟨w.heap.size, 0, none⟩) len len) len (halfCopy zs len 0) := by
    rw [halfCopy_zero, ← toList_madeCells_one]; simpa [Value.cells] using hown
  clear hown hgrow
  go_loopg [4] len (fun g i wr => ∃ k : Nat, i = .int .i64 k ∧ k + g = len ∧ wr.ownsRow w.heap.size 3 1 (.slice (some ⟨w.heap.size, 0, none⟩) len len) len (halfCopy zs len k) ∧ Below w.heap.size w wr)
  case atStart => exact ⟨0, rfl, by omega, hown0, hB1⟩
  case round =>
    obtain ⟨k, rfl, hk, hown, hbel⟩ := hrel
    by_cases hg : gk = 0
    · subst hg
      obtain rfl : k = len := by omega
      go_wp2_with fail
      go_ret
      rw [halfCopy_len zs k hlz] at hown
      refine ⟨?_, ?_, hbel⟩
      · rw [HLT.out]; rfl
      · rw [HLT.out]; exact hown
    · have hkl : k < len := by omega
      have hx : wr.cell? ⟨b, off + k, none⟩ = some (.int .i64 (zs.getD k 0)) := (hbel.cell (p := ⟨b, off + k, none⟩) hb).trans (hcell.out k hkl)
      have hy : wr.cell? ⟨w.heap.size, k, none⟩ = some (.int .i64 0) := by rw [hown.cellAt k (by omega)]; exact halfCopy_get zs len k hkl
      have hz : wr.frozen? ⟨w.heap.size, k, none⟩ = false := hown.frozenAt k
      have hst := (hown.stored k (.int .i64 (zs.getD k 0))).1
      rw [halfCopy_set zs len k hkl] at hst
      obtain ⟨n, hn⟩ : ∃ n, zs.getD k 0 = n := ⟨_, rfl⟩
      rw [hn] at hx hst
      have HN := Lib.hid hn
      have HK := Lib.hid hk
      clear hn hk
      go_wp2_with fail
      go_roundg (gk - 1)
      case measure => omega
      case rel => exact ⟨k + 1, by go_num, by have := HK.out; omega, hst, hbel.setCell (Nat.le_refl _) _⟩

set_option maxHeartbeats 1000000 in
theorem toIntS_none (a : Option Addr) (cap : Nat) (w : World) :
    Calls Try.prog 33 #[.slice a 0 cap] w (CopyPost [] w) := by
  obtain ⟨i0, hi, hz0, hz1, hz2⟩ := info_parts info_int'
  go_enter Try.func33, Try.ntmps33
  go_wp2_with (at_make; refine wpList_make_full _ rfl (.tmp 6) (.tmp 6) 39 rfl w.heap.size 3 i0 (.int .i64 0) 1 Try.underlying39 hi hz0 hz1 .i64 .i64 0 0 0 rfl rfl rfl rfl (by rw [hz2]; omega) (by unfold maxLen; omega) (by simp) ?_; intro w1 hown hgrow)
  have hB1 : Below w.heap.size w w1 := (Below.refl _ _).grown hgrow (Nat.le_refl _) (by intro k hk; cases hk)
  go_loopg [4] 1 (fun g i wr => i = .int .i64 0 ∧ wr = w1)
  case atStart => exact ⟨rfl, rfl⟩
  case round =>
    obtain ⟨rfl, rfl⟩ := hrel
    go_wp2_with fail
    go_ret
    exact ⟨rfl, by simpa [Value.cells, toList_madeCells_one] using hown, hB1⟩

theorem toIntS_any (a : Option Addr) (len cap : Nat) (zs : List Int) (w : World) (hlen : len ≤ 1048576) (h : IsRow .i64 w a len cap zs) :
    Calls Try.prog 33 #[.slice a len cap] w (CopyPost (zs.take len) w) := by
  by_cases hl : 0 < len
  · rcases h with ⟨_, e, _⟩ | ⟨⟨b, off, spot⟩, rfl, h1, h2, h3, h4, h5⟩
    · omega
    · have hspot : spot = none := by simpa [Addr.add] using World.cell?_spot (h4 0 (by omega))
      subst hspot
      refine toIntS_some b off len cap zs w hl (by omega) hlen ?_ fun i hi => ?_
      · have := lt_of_cell (h4 0 (by omega)); rwa [add_block] at this
      · have := h4 i (by omega); rw [add_at] at this; exact this
  · obtain rfl : len = 0 := by omega
    rw [List.take_zero]
    exact toIntS_none a cap w

set_option maxHeartbeats 1000000 in
/-- Two slices of the same numbers are found to be the same. -/
theorem eqIntS_same (g1 g2 o1 o2 c1 c2 : Nat) (l : List Int) (w : World) (hlen : l.length ≤ 1048576)
    (h1 : Hid (∀ i, i < l.length → w.cell? ⟨g1, o1 + i, none⟩ = some (.int .i64 (l.getD i 0)))) (h2 : Hid (∀ i, i < l.length → w.cell? ⟨g2, o2 + i, none⟩ = some (.int .i64 (l.getD i 0)))) :
    Calls Try.prog 35 #[.slice (some ⟨g1, o1, none⟩) l.length c1, .slice (some ⟨g2, o2, none⟩) l.length c2] w fun e w' => e = .returned (.bool true) ∧ Below w.heap.size w w' := by
  generalize hn : l.length = n at *
  have HN := Lib.hid hn
  clear hn
  go_enter Try.func35, Try.ntmps35
  go_wp2_with fail
  go_loopg [5] n (fun g i wr => ∃ k m : Nat, i = .int .i64 k ∧ k + g = n ∧ wr = w.drewN m)
  case atStart => exact ⟨0, 0, rfl, by omega, rfl⟩
  case round =>
    obtain ⟨k, m, rfl, hk, rfl⟩ := hrel
    by_cases hg : gk = 0
    · subst hg
      obtain rfl : k = n := by omega
      go_wp2_with fail
      go_ret
      exact ⟨rfl, by repeat (first | exact Below.refl _ _ | assumption | refine Below.drew ?_ | refine belowDrewN ?_ _ | refine Below.alloc ?_ (by first | exact Nat.le_refl _ | omega | (simp; done) | (simp; omega)) _ | refine Below.setCell ?_ (by first | exact Nat.le_refl _ | omega | (simp; done) | (simp; omega)) _)⟩
    · have hkl : k < n := by omega
      have hkl2 : (k : Int) < (n : Int) := by omega
      have hx := h1.out k hkl
      have hy := h2.out k hkl
      generalize l.getD k 0 = x at hx hy
      have HK := Lib.hid hk
      clear hk
      go_wp2_with fail
      go_quiet (fail)
      go_wp2_with fail
      go_roundg (gk - 1)
      case measure => omega
      case rel => exact ⟨k + 1, m + nq, by go_num, by have := HK.out; omega, rfl⟩

theorem IsRow.below {W w : World} {k : IntKind} {a : Option Addr} {len cap : Nat} {zs : List Int} (h : IsRow k W a len cap zs) (hb : Below W.heap.size W w) : IsRow k w a len cap zs := by
  rcases h with r | ⟨x, hx, h1, h2, h3, h4, h5⟩
  · exact .inl r
  · exact .inr ⟨x, hx, h1, h2, h3, fun i hi => (hb.cell (p := x.add i) (lt_of_cell (h4 i hi))).trans (h4 i hi), h5⟩
theorem owns_below {W w1 : World} {B : Nat} {e : TypeId} {size n : Nat} {v : Value} {xs : List Value} (h : W.ownsRow B e size v n xs) (hb : Below W.heap.size W w1) : w1.ownsRow B e size v n xs :=
  h.kept (row := none) ⟨hb.os, hb.tape, hb.output, hb.size, fun k hk _ => hb.block k hk⟩ (by cases h : v.ownBlock <;> simp)
theorem owns_cells {w : World} {B g cap : Nat} {l : List Int} (h : w.ownsRow B 3 1 (.slice (some ⟨g, 0, none⟩) l.length cap) l.length (l.map (Value.int .i64))) :
    ∀ i, i < l.length → w.cell? ⟨g, 0 + i, none⟩ = some (.int .i64 (l.getD i 0)) := by
  intro i hi
  rw [Nat.zero_add, h.cellAt i (by omega)]
  simp [List.getElem?_eq_getElem hi]
end Go.Proofs.Ytbjonkjigfnnnaa
