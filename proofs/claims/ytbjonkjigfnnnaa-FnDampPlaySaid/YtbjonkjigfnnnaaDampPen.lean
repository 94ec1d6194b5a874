/- The program's penalty, behind a lock: made, halved, told. -/
import Derived.Test.YtbjonkjigfnnnaaDampPlain
import Derived.Test.YtbjonkjigfnnnaaKit
import Derived.Test.YtbjonkjigfnnnaaLocks
import Derived.Conc.MuLone
import Derived.Deep.LoopGhost
import Derived.RegionTactic
import Derived.BigRegion
namespace Go.Proofs.Ytbjonkjigfnnnaa
open Go.RowKit Go.MuLone
set_option linter.unusedVariables false

/-- In block k lies a penalty; its lock's state is s. -/
structure PenAt (w : World) (k : Nat) (s q T : Int) (o : Bool) : Prop where
  c0 : w.cell? ⟨k, 0, none⟩ = some (.int .i64 T)
  c1 : w.cell? ⟨k, 1, none⟩ = some (.int .i32 s)
  c3 : w.cell? ⟨k, 3, none⟩ = some (.int .i64 q)
  c4 : w.cell? ⟨k, 4, none⟩ = some (.bool o)
  f0 : w.frozen? ⟨k, 0, none⟩ = false
  f1 : w.frozen? ⟨k, 1, none⟩ = false
  f3 : w.frozen? ⟨k, 3, none⟩ = false
  f4 : w.frozen? ⟨k, 4, none⟩ = false

theorem setS {w : World} {a : Addr} {u v : Value} (h : w.cell? a = some u) : (w.setCell a v).cell? a = some v := World.cell?_setCell_same _ _ _ h
theorem setO {w : World} {a b : Addr} {u v : Value} (hab : a ≠ b) (h : w.cell? b = some u) : (w.setCell a v).cell? b = some u := by
  rw [World.cell?_setCell_other _ _ _ _ hab]; exact h

theorem PenAt.setT {w : World} {k : Nat} {s q T : Int} {o : Bool} (h : PenAt w k s q T o) (T' : Int) : PenAt (w.setCell ⟨k, 0, none⟩ (.int .i64 T')) k s q T' o :=
  ⟨setS h.c0, setO (by simp) h.c1, setO (by simp) h.c3, setO (by simp) h.c4, by simp [h.f0], by simp [h.f1], by simp [h.f3], by simp [h.f4]⟩
theorem PenAt.setS {w : World} {k : Nat} {s q T : Int} {o : Bool} (h : PenAt w k s q T o) (s' : Int) : PenAt (w.setCell ⟨k, 1, none⟩ (.int .i32 s')) k s' q T o :=
  ⟨setO (by simp) h.c0, Ytbjonkjigfnnnaa.setS h.c1, setO (by simp) h.c3, setO (by simp) h.c4, by simp [h.f0], by simp [h.f1], by simp [h.f3], by simp [h.f4]⟩
theorem PenAt.setQ {w : World} {k : Nat} {s q T : Int} {o : Bool} (h : PenAt w k s q T o) (q' : Int) : PenAt (w.setCell ⟨k, 3, none⟩ (.int .i64 q')) k s q' T o :=
  ⟨setO (by simp) h.c0, setO (by simp) h.c1, Ytbjonkjigfnnnaa.setS h.c3, setO (by simp) h.c4, by simp [h.f0], by simp [h.f1], by simp [h.f3], by simp [h.f4]⟩
theorem PenAt.setO {w : World} {k : Nat} {s q T : Int} {o : Bool} (h : PenAt w k s q T o) (o' : Bool) : PenAt (w.setCell ⟨k, 4, none⟩ (.bool o')) k s q T o' :=
  ⟨Ytbjonkjigfnnnaa.setO (by simp) h.c0, Ytbjonkjigfnnnaa.setO (by simp) h.c1, Ytbjonkjigfnnnaa.setO (by simp) h.c3, Ytbjonkjigfnnnaa.setS h.c4, by simp [h.f0], by simp [h.f1], by simp [h.f3], by simp [h.f4]⟩

set_option maxHeartbeats 400000 in
theorem penaltyOf_any (p t : Int) (o : Bool) (w : World) :
    Calls Try.prog 42 #[.agg #[.int .i64 p, .int .i64 t, .bool o]] w fun e w' => e = .returned (.pointer (some ⟨w.heap.size + 1, 0, none⟩)) ∧ PenAt w' (w.heap.size + 1) 0 p t o ∧ Below w.heap.size w w' ∧ w'.heap.size = w.heap.size + 2 := by
  go_enter Try.func42, Try.ntmps42
  go_wp2
  go_ret
  refine ⟨rfl, ⟨?_, ?_, ?_, ?_, ?_, ?_, ?_, ?_⟩, by repeat (first | exact Below.refl _ _ | assumption | refine Below.drew ?_ | refine belowDrewN ?_ _ | refine Below.alloc ?_ (by first | exact Nat.le_refl _ | omega | (simp; done) | (simp; omega)) _ | refine Below.setCell ?_ (by first | exact Nat.le_refl _ | omega | (simp; done) | (simp; omega)) _), by simp⟩ <;> simp [go_sem]

def HalvePost (k : Nat) (q' T' : Int) (o' : Bool) (w : World) (e : Ending) (w' : World) : Prop :=
  e = .returned (.tuple #[]) ∧ PenAt w' k 0 q' T' o' ∧ Only k w w' ∧ w'.heap.size = w.heap.size

set_option maxHeartbeats 1000000 in
theorem halve_any (k : Nat) (q n : Nat) (T now : Int) (o : Bool) (w : World) (h : PenAt w k 0 q T o) (hq : q ≤ 9999) (hT : 0 ≤ T) (hnow : now ≤ 99) (hn0 : T + 8 * n ≤ now) (hn1 : now < T + 8 * n + 8) :
    Calls Try.prog 43 #[.pointer (some ⟨k, 0, none⟩), .int .i64 now] w (HalvePost k (q / 2 ^ n : Nat) (T + 8 * n) (o && decide (80 ≤ q / 2 ^ n)) w) := by
  have c1 := h.c1
  have f1 := h.f1
  have H := Lib.hid h
  clear h
  go_enter_defers Try.func43, Try.ntmps43
  go_wp2_with (go_at_call 48; refine (lock_free muLib ⟨k, 1, none⟩ _ c1 f1).mono ?_; rintro e w' ⟨rfl, rfl⟩)
  clear c1 f1
  go_loopg [] n (fun g wr => ∃ (q' : Nat) (T' : Int), PenAt wr k 1 q' T' o ∧ q' ≤ 9999 ∧ 0 ≤ T' ∧ q' / 2 ^ g = q / 2 ^ n ∧ T' + 8 * g = T + 8 * n ∧ Only k w wr ∧ wr.heap.size = w.heap.size)
  case atStart => exact ⟨q, T, H.out.setS 1, hq, hT, rfl, rfl, (Only.refl _ _).setCell (p := ⟨k, 1, none⟩) rfl _, by simp⟩
  case round =>
    obtain ⟨q', T', hp, hq', hT', he, hTe, hO, hs⟩ := hrel
    have c0 := hp.c0
    have c1 := hp.c1
    have c3 := hp.c3
    have c4 := hp.c4
    have f0 := hp.f0
    have f1 := hp.f1
    have f3 := hp.f3
    have f4 := hp.f4
    have H2 := Lib.hid (And.intro he (And.intro hTe hs))
    have H3 := Lib.hid hp
    have hTe1 : T' + 8 * gk ≤ T + 8 * n := by omega
    have hTe2 : T + 8 * n ≤ T' + 8 * gk := by omega
    clear he hTe hs hp
    by_cases hg : gk = 0
    · subst hg
      have h8 : 80 ≤ q' → (80 : Int) ≤ (q' : Int) := fun h => by omega
      cases o
      · clear h8
        go_wp2_with fail
        refine leaves_cons (f := 49) (args := #[.pointer (some ⟨k, 1, none⟩)]) (by simp) (by simp [go_sem]) ?_
        refine (unlock_deferred muLib ⟨k, 1, none⟩ .returning _ (H3.out.setO _).c1 (H3.out.setO _).f1).mono ?_
        rintro e u' w'' ⟨rfl, rfl, rfl⟩
        obtain ⟨e1, e2, e3⟩ := H2.out
        refine ⟨_, results_none rfl _ _ _, rfl, ?_, (hO.setCell (p := ⟨k, 4, none⟩) rfl _).setCell (p := ⟨k, 1, none⟩) rfl _, by simp [e3]⟩
        have := (H3.out.setO false).setS 0
        simp at e1 e2
        rw [← e1, ← e2]
        simpa using this
      · by_cases hq8 : 80 ≤ q'
        · have hd : decide ((80 : Int) ≤ (q' : Int)) = true := by simp; omega
          go_wp2_with fail
          refine leaves_cons (f := 49) (args := #[.pointer (some ⟨k, 1, none⟩)]) (by simp) (by simp [go_sem]) ?_
          refine (unlock_deferred muLib ⟨k, 1, none⟩ .returning _ (H3.out.setO _).c1 (H3.out.setO _).f1).mono ?_
          rintro e u' w'' ⟨rfl, rfl, rfl⟩
          obtain ⟨e1, e2, e3⟩ := H2.out
          refine ⟨_, results_none rfl _ _ _, rfl, ?_, (hO.setCell (p := ⟨k, 4, none⟩) rfl _).setCell (p := ⟨k, 1, none⟩) rfl _, by simp [e3]⟩
          have := (H3.out.setO true).setS 0
          simp at e1 e2
          rw [← e1, ← e2]
          simpa [hq8] using this
        · have hd : decide ((80 : Int) ≤ (q' : Int)) = false := by simp; omega
          go_wp2_with fail
          refine leaves_cons (f := 49) (args := #[.pointer (some ⟨k, 1, none⟩)]) (by simp) (by simp [go_sem]) ?_
          refine (unlock_deferred muLib ⟨k, 1, none⟩ .returning _ (H3.out.setO _).c1 (H3.out.setO _).f1).mono ?_
          rintro e u' w'' ⟨rfl, rfl, rfl⟩
          obtain ⟨e1, e2, e3⟩ := H2.out
          refine ⟨_, results_none rfl _ _ _, rfl, ?_, (hO.setCell (p := ⟨k, 4, none⟩) rfl _).setCell (p := ⟨k, 1, none⟩) rfl _, by simp [e3]⟩
          have := (H3.out.setO false).setS 0
          simp at e1 e2
          rw [← e1, ← e2]
          simpa [hq8] using this
    · obtain ⟨g, rfl⟩ : ∃ g, gk = g + 1 := ⟨gk - 1, by omega⟩
      go_wp2_with fail
      go_roundg g
      case measure => omega
      case rel =>
        obtain ⟨e1, e2, e3⟩ := H2.out
        have := (H3.out.setT (T' + 8)).setQ (q' / 2)
        refine ⟨q' / 2, T' + 8, ?_, by omega, by omega, ?_, by omega, (hO.setCell (p := ⟨k, 0, none⟩) rfl _).setCell (p := ⟨k, 3, none⟩) rfl _, by simp [e3]⟩
        · simpa using this
        · rw [← e1, Nat.div_div_eq_div_mul, Nat.pow_succ, Nat.mul_comm]
end Go.Proofs.Ytbjonkjigfnnnaa
