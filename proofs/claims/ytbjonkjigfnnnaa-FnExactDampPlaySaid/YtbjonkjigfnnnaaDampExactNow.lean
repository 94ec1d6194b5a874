/- The walk of FnExactDampNow. -/
import Derived.Test.YtbjonkjigfnnnaaDampNowSpec
namespace Go.Proofs.Ytbjonkjigfnnnaa
open Go.RowKit Go.MuLone
set_option linter.unusedVariables false

set_option maxHeartbeats 400000 in
theorem eqDamp_any (p t : Int) (o : Bool) (w : World) :
    Calls Try.prog 27 #[.agg #[.int .i64 p, .int .i64 t, .bool o], .agg #[.int .i64 p, .int .i64 t, .bool o]] w fun e w' => e = .returned (.bool true) ∧ Below w.heap.size w w' := by
  go_enter Try.func27, Try.ntmps27
  go_wp2
  go_ret
  exact ⟨rfl, by repeat (first | exact Below.refl _ _ | assumption | refine Below.drew ?_ | refine Below.alloc ?_ (by first | exact Nat.le_refl _ | omega | (simp; done) | (simp; omega)) _ | refine Below.setCell ?_ (by first | exact Nat.le_refl _ | omega | (simp; done) | (simp; omega)) _)⟩

set_option maxHeartbeats 1000000 in
theorem exactNow_walk (p t : Int) (o : Bool) (now : Int) (w : World) (_wp : (Lit.int .i64 p).wf = true) (_wt : (Lit.int .i64 t).wf = true) (_wn : (Lit.int .i64 now).wf = true) :
    Calls Try.prog 6 #[.agg #[.int .i64 p, .int .i64 t, .bool o], .int .i64 now] w fun e w' => e = .returned (.bool true) ∧ Below w.heap.size w w' := by
  have hs := fun w => specNow_any p t o now w
  have hi := fun w => implNow_any p t o now w
  generalize nowP p t o now = P at hs hi
  generalize nowT p t o now = T at hs hi
  generalize nowO p t o now = O at hs hi
  generalize okNow p t o now = ok at hs hi
  have HS := Lib.hid hs
  have HI := Lib.hid hi
  clear hs hi
  go_enter Try.func6, Try.ntmps6
  go_wp2_with (go_at_call 20; refine (toDamp_any _ _ _ _).mono ?_; rintro e w1 ⟨rfl, hb1⟩; have hB1 : Below w.heap.size w w1 := (by refine Below.trans ?_ (hb1.mono (by first | exact Nat.le_refl _ | omega | (simp; done) | (simp; omega))); repeat (first | exact Below.refl _ _ | assumption | refine Below.drew ?_ | refine Below.alloc ?_ (by first | exact Nat.le_refl _ | omega | (simp; done) | (simp; omega)) _ | refine Below.setCell ?_ (by first | exact Nat.le_refl _ | omega | (simp; done) | (simp; omega)) _)); obtain ⟨hc1, hf1⟩ := bcell hb1; have hz1 : w.heap.size < w1.heap.size := (by have := hb1.size; (try simp at this); omega))
  refine (HS.out _).mono ?_
  rintro e ws ⟨rfl, hb1⟩
  have hB1 : Below w.heap.size w ws := (by refine Below.trans ?_ (hb1.mono (by first | exact Nat.le_refl _ | omega | (simp; done) | (simp; omega))); repeat (first | exact Below.refl _ _ | assumption | refine Below.drew ?_ | refine Below.alloc ?_ (by first | exact Nat.le_refl _ | omega | (simp; done) | (simp; omega)) _ | refine Below.setCell ?_ (by first | exact Nat.le_refl _ | omega | (simp; done) | (simp; omega)) _)); obtain ⟨hc1, hf1⟩ := bcell hb1; have hz1 : w.heap.size < ws.heap.size := (by have := hb1.size; (try simp at this); omega)
  go_wp2_with (go_at_call 20; refine (toDamp_any _ _ _ _).mono ?_; rintro e w1 ⟨rfl, hb1⟩; have hB1 : Below w.heap.size w w1 := (by refine Below.trans ?_ (hb1.mono (by first | exact Nat.le_refl _ | omega | (simp; done) | (simp; omega))); repeat (first | exact Below.refl _ _ | assumption | refine Below.drew ?_ | refine Below.alloc ?_ (by first | exact Nat.le_refl _ | omega | (simp; done) | (simp; omega)) _ | refine Below.setCell ?_ (by first | exact Nat.le_refl _ | omega | (simp; done) | (simp; omega)) _)); obtain ⟨hc1, hf1⟩ := bcell hb1; have hz1 : ws.heap.size < w1.heap.size := (by have := hb1.size; (try simp at this); omega))
  refine (HI.out _).mono ?_
  rintro e wi ⟨rfl, hb1⟩
  have hB1 : Below w.heap.size w wi := (by refine Below.trans ?_ (hb1.mono (by first | exact Nat.le_refl _ | omega | (simp; done) | (simp; omega))); repeat (first | exact Below.refl _ _ | assumption | refine Below.drew ?_ | refine Below.alloc ?_ (by first | exact Nat.le_refl _ | omega | (simp; done) | (simp; omega)) _ | refine Below.setCell ?_ (by first | exact Nat.le_refl _ | omega | (simp; done) | (simp; omega)) _)); obtain ⟨hc1, hf1⟩ := bcell hb1; have hz1 : ws.heap.size < wi.heap.size := (by have := hb1.size; (try simp at this); omega)
  go_wp2_with (go_at_call 27; refine (eqDamp_any _ _ _ _).mono ?_; rintro e w1 ⟨rfl, hb1⟩; have hB1 : Below w.heap.size w w1 := (by refine Below.trans ?_ (hb1.mono (by first | exact Nat.le_refl _ | omega | (simp; done) | (simp; omega))); repeat (first | exact Below.refl _ _ | assumption | refine Below.drew ?_ | refine Below.alloc ?_ (by first | exact Nat.le_refl _ | omega | (simp; done) | (simp; omega)) _ | refine Below.setCell ?_ (by first | exact Nat.le_refl _ | omega | (simp; done) | (simp; omega)) _)); obtain ⟨hc1, hf1⟩ := bcell hb1; have hz1 : wi.heap.size < w1.heap.size := (by have := hb1.size; (try simp at this); omega))
  go_ret
  exact ⟨rfl, by repeat (first | exact Below.refl _ _ | assumption | refine Below.drew ?_ | refine Below.alloc ?_ (by first | exact Nat.le_refl _ | omega | (simp; done) | (simp; omega)) _ | refine Below.setCell ?_ (by first | exact Nat.le_refl _ | omega | (simp; done) | (simp; omega)) _)⟩
end Go.Proofs.Ytbjonkjigfnnnaa
