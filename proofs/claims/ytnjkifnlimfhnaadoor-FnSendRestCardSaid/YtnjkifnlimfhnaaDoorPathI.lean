/- impl.PathOk at a path: errors.Is of nil and a sentinel. Slices cut at the front. -/
import Derived.Test.YtnjkifnlimfhnaaDoorTrail
import Derived.LaidEql
namespace Go.Proofs.YtnjkifnlimfhnaaDoor
open Go.RowKit
set_option linter.unusedVariables false

/-- the package's sentinel lies in its cell -/
def ErrOk (w : World) : Prop := ∃ a : Addr, w.cell? ⟨0, 0, none⟩ = some (.iface 119 (.pointer (some a)))
theorem ErrOk.below {w w' : World} (h : ErrOk w) (hb : Below w.heap.size w w') : ErrOk w' := by
  obtain ⟨a, ha⟩ := h
  have hlt : (0 : Nat) < w.heap.size := by
    rcases Nat.lt_or_ge (0 : Nat) w.heap.size with h' | h'
    · exact h'
    · simp only [World.cell?] at ha
      rw [Array.getElem?_eq_none h'] at ha
      cases ha
  exact ⟨a, (hb.cell (p := ⟨0, 0, none⟩) hlt).trans ha⟩
set_option maxRecDepth 100000 in
set_option maxHeartbeats 1000000 in
theorem errIs_nil (a : Addr) (w : World) : Calls Tryd.prog 38 #[.nilIface, .iface 119 (.pointer (some a))] w fun e w' => e = .returned (.bool false) ∧ w' = w := by
  go_enter Tryd.func38, Tryd.ntmps38
  go_wp2_with fail
  rw [run_eql_iface_nil_left _ 119 _ Tryd.underlying80]
  go_wp2_with fail
  go_ret
  exact ⟨rfl, rfl⟩
set_option maxRecDepth 100000 in
set_option maxHeartbeats 1000000 in
theorem pathOk_good (v : Value) (p : List Int) (w : World) (hv : IntsAt w v p) (hg : GoodP p) (hE : ErrOk w) : Calls Tryd.prog 17 #[v] w fun e w' => e = .returned (.bool true) ∧ Below w.heap.size w w' := by
  have HR := Lib.hid (readTrail_good v p w hv hg)
  obtain ⟨a, cap, rfl, hc, hm⟩ := hv.form
  have HE := Lib.hid hE
  clear hv hg hE
  go_enter Tryd.func17, Tryd.ntmps17
  go_wp2_with fail
  refine HR.out.mono ?_
  rintro e w1 ⟨S, rfl, hS, hb1⟩
  obtain ⟨ad, had⟩ := HE.out.below hb1
  have hglt : (0 : Nat) < w1.heap.size := by
    rcases Nat.lt_or_ge (0 : Nat) w1.heap.size with h' | h'
    · exact h'
    · simp only [World.cell?] at had
      rw [Array.getElem?_eq_none h'] at had
      cases had
  have B1 := Lib.hid hb1
  have HI := Lib.hid (errIs_nil ad)
  clear hb1 hS
  go_wp2_with fail
  refine (HI.out _).mono ?_
  rintro e w2 ⟨rfl, rfl⟩
  have B2 : Hid (Below w.heap.size w (w1.alloc (.cells #[.int .u64 (S : Int), .slice a p.length cap] 78))) := Lib.hid (Below.alloc B1.out B1.out.size _)
  go_wp2_with fail
  go_ret
  exact ⟨rfl, B2.out⟩
theorem IntsAt.dropAt {w : World} {b off n cap k : Nat} {l : List Int} (h : IntsAt w (.slice (some ⟨b, off, none⟩) n cap) l) (hk : k ≤ n) : IntsAt w (.slice (some ⟨b, off + k, none⟩) (n - k) (cap - k)) (l.drop k) := by
  obtain ⟨a', c', e, hc, hm, h⟩ := h
  simp only [Value.slice.injEq] at e
  obtain ⟨rfl, rfl, rfl⟩ := e
  have hl : (l.drop k).length = l.length - k := by rw [List.length_drop]
  unfold IntsAt
  rw [hl]
  refine ⟨_, cap - k, rfl, by omega, by omega, ?_⟩
  rcases h with h | ⟨b', off', e, hb, hcell⟩
  · left; omega
  · simp only [Option.some.injEq, Addr.mk.injEq] at e
    obtain ⟨rfl, rfl, _⟩ := e
    right
    refine ⟨b, off + k, rfl, hb, fun i hi => ?_⟩
    have e : (l.drop k).getD i 0 = l.getD (k + i) 0 := by simp
    have := hcell (k + i) (by omega)
    rw [← Nat.add_assoc] at this
    show _ = some (Value.int IntKind.i64 _)
    rw [e]; exact this
theorem IntsAt.dropIf {w : World} {b off n cap k : Nat} {l : List Int} (h : IntsAt w (.slice (some ⟨b, off, none⟩) n cap) l) (hk : k ≤ n) : IntsAt w (.slice (if cap = k then some ⟨b, off, none⟩ else some ⟨b, off + k, none⟩) (n - k) (cap - k)) (l.drop k) := by
  by_cases hck : cap = k
  · rw [if_pos hck]
    obtain ⟨a', c', e, hc, hm, _⟩ := h
    simp only [Value.slice.injEq] at e
    obtain ⟨rfl, rfl, rfl⟩ := e
    have hl : (l.drop k).length = l.length - k := by rw [List.length_drop]
    unfold IntsAt
    rw [hl]
    exact ⟨_, cap - k, rfl, by omega, by omega, .inl (by omega)⟩
  · rw [if_neg hck]; exact h.dropAt hk
end Go.Proofs.YtnjkifnlimfhnaaDoor
