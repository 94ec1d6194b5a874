/- The walk of FnDampForm: what is held back pains. -/
import Derived.Test.YtbjonkjigfnnnaaDampDraw
namespace Go.Proofs.Ytbjonkjigfnnnaa
open Go.RowKit
set_option linter.unusedVariables false

set_option maxHeartbeats 1000000 in
theorem form_walk (a : Option Addr) (len cap : Nat) (zs : List Int) (w : World) (h : IsRow .u8 w a len cap zs) :
    Calls Try.prog 4 #[.slice a len cap] w fun e w' => e = .returned (.bool true) ∧ Below w.heap.size w w' := by
  obtain ⟨hm, hc⟩ := h.bounds
  have hc' := hc
  unfold maxLen at hc'
  go_enter Try.func4, Try.ntmps4
  have H := Lib.hid h
  clear h
  by_cases hl : 1048576 < len
  · go_wp2
    go_ret
    exact ⟨rfl, Below.refl _ _⟩
  · go_wp2_with (first
      | (go_at_call 22; refine (drawOk_any _ _ _ zs _ H.out hm hc).mono ?_; rintro e wd ⟨p, t, o, rfl, p0, p1, t0, t1, hB1⟩; have hzd := hB1.size)
      | (go_at_call 21; refine (implOk_any _ _ _ _).mono ?_; rintro e w1 ⟨rfl, hb1⟩; have hB1 : Below w.heap.size w w1 := (by refine Below.trans ?_ (hb1.mono (by first | exact Nat.le_refl _ | omega | (simp; done) | (simp; omega))); repeat (first | exact Below.refl _ _ | assumption | refine Below.drew ?_ | refine Below.alloc ?_ (by first | exact Nat.le_refl _ | omega | (simp; done) | (simp; omega)) _ | refine Below.setCell ?_ (by first | exact Nat.le_refl _ | omega | (simp; done) | (simp; omega)) _)); obtain ⟨hc1, hf1⟩ := bcell hb1; have hz1 : wd.heap.size < w1.heap.size := (by have := hb1.size; (try simp at this); omega))
      | (go_at_call 19; refine (specOk_any _ _ _ _).mono ?_; rintro e w1 ⟨rfl, hb1⟩; have hB1 : Below w.heap.size w w1 := (by refine Below.trans ?_ (hb1.mono (by first | exact Nat.le_refl _ | omega | (simp; done) | (simp; omega))); repeat (first | exact Below.refl _ _ | assumption | refine Below.drew ?_ | refine Below.alloc ?_ (by first | exact Nat.le_refl _ | omega | (simp; done) | (simp; omega)) _ | refine Below.setCell ?_ (by first | exact Nat.le_refl _ | omega | (simp; done) | (simp; omega)) _)); obtain ⟨hc1, hf1⟩ := bcell hb1; have hz1 : wd.heap.size < w1.heap.size := (by have := hb1.size; (try simp at this); omega)))
    all_goals
      go_ret
      refine ⟨ret_bool ?_, by repeat (first | exact Below.refl _ _ | assumption | refine Below.drew ?_ | refine Below.alloc ?_ (by first | exact Nat.le_refl _ | omega | (simp; done) | (simp; omega)) _ | refine Below.setCell ?_ (by first | exact Nat.le_refl _ | omega | (simp; done) | (simp; omega)) _)⟩
      simp [okB, *] <;> omega
end Go.Proofs.Ytbjonkjigfnnnaa
