/- The walks of FnDampBound and FnDampOrder. -/
import Derived.Test.YtbjonkjigfnnnaaDampDraws
import Derived.Test.YtbjonkjigfnnnaaDampFree
import Derived.Deep.RegionHeld3
namespace Go.Proofs.Ytbjonkjigfnnnaa
open Go.RowKit
set_option linter.unusedVariables false

theorem free_in {p t : Int} {o : Bool} (h : okB p t o = true) : t ≤ freeOf p t o ∧ freeOf p t o ≤ t + 56 := by
  obtain ⟨p0, p1, t0, t1, _, _⟩ := okB_in h
  cases o
  · rw [freeOf_off h]; omega
  · rw [freeOf_on h]
    have := hv_seven (q := p.toNat) (by omega)
    omega

set_option maxHeartbeats 1000000 in
theorem bound_walk (a : Option Addr) (len cap : Nat) (zs : List Int) (w : World) (h : IsRow .u8 w a len cap zs) :
    Calls Try.prog 7 #[.slice a len cap] w fun e w' => e = .returned (.bool true) ∧ Below w.heap.size w w' := by
  have H := Lib.hid h
  clear h
  by_cases hl : 1048576 < len
  · go_enter Try.func7, Try.ntmps7
    go_wp2
    go_ret
    exact ⟨rfl, Below.refl _ _⟩
  · go_enter Try.func7, Try.ntmps7
    go_wp2_with fail
    refine (drawFree_any _ _ _ zs _ H.out).mono ?_
    rintro e wd ⟨p, t, o, rfl, p0, p1, t0, t1, hB1⟩
    have hzd := hB1.size
    have hI := fun w => implFree_any p t o w
    have hS := fun w => specFree_any p t o w
    have hb := fun h => free_in (p := p) (t := t) (o := o) h
    generalize freeOf p t o = F at hI hS hb
    have HI := Lib.hid hI
    have HS := Lib.hid hS
    clear hI hS
    cases hok : okB p t o
    · clear hb
      go_wp2_with (first
        | (go_at_call 24; refine (HI.out _).mono ?_; rintro e w1 ⟨rfl, hb1⟩; have hB1 : Below w.heap.size w w1 := (by refine Below.trans ?_ (hb1.mono (by first | exact Nat.le_refl _ | omega | (simp; done) | (simp; omega))); repeat (first | exact Below.refl _ _ | assumption | refine Below.drew ?_ | refine belowDrewN ?_ _ | refine Below.alloc ?_ (by first | exact Nat.le_refl _ | omega | (simp; done) | (simp; omega)) _ | refine Below.setCell ?_ (by first | exact Nat.le_refl _ | omega | (simp; done) | (simp; omega)) _)); obtain ⟨hc1, hf1⟩ := bcell hb1; have hz1 : wd.heap.size < w1.heap.size := (by have := hb1.size; (try simp at this); omega))
        | (go_at_call 23; refine (HS.out _).mono ?_; rintro e w1 ⟨rfl, hb1⟩; have hB1 : Below w.heap.size w w1 := (by refine Below.trans ?_ (hb1.mono (by first | exact Nat.le_refl _ | omega | (simp; done) | (simp; omega))); repeat (first | exact Below.refl _ _ | assumption | refine Below.drew ?_ | refine belowDrewN ?_ _ | refine Below.alloc ?_ (by first | exact Nat.le_refl _ | omega | (simp; done) | (simp; omega)) _ | refine Below.setCell ?_ (by first | exact Nat.le_refl _ | omega | (simp; done) | (simp; omega)) _)); obtain ⟨hc1, hf1⟩ := bcell hb1; have hz1 : wd.heap.size < w1.heap.size := (by have := hb1.size; (try simp at this); omega))
        | (go_at_call 19; refine (specOk_any _ _ _ _).mono ?_; rintro e w1 ⟨rfl, hb1⟩; have hB1 : Below w.heap.size w w1 := (by refine Below.trans ?_ (hb1.mono (by first | exact Nat.le_refl _ | omega | (simp; done) | (simp; omega))); repeat (first | exact Below.refl _ _ | assumption | refine Below.drew ?_ | refine belowDrewN ?_ _ | refine Below.alloc ?_ (by first | exact Nat.le_refl _ | omega | (simp; done) | (simp; omega)) _ | refine Below.setCell ?_ (by first | exact Nat.le_refl _ | omega | (simp; done) | (simp; omega)) _)); obtain ⟨hc1, hf1⟩ := bcell hb1; have hz1 : wd.heap.size < w1.heap.size := (by have := hb1.size; (try simp at this); omega)))
      go_ret
      exact ⟨rfl, by repeat (first | exact Below.refl _ _ | assumption | refine Below.drew ?_ | refine belowDrewN ?_ _ | refine Below.alloc ?_ (by first | exact Nat.le_refl _ | omega | (simp; done) | (simp; omega)) _ | refine Below.setCell ?_ (by first | exact Nat.le_refl _ | omega | (simp; done) | (simp; omega)) _)⟩
    · obtain ⟨b0, b1⟩ := hb hok
      clear hb
      obtain ⟨_, _, u0, u1, _, _⟩ := okB_in hok
      go_wp2_with (first
        | (go_at_call 24; refine (HI.out _).mono ?_; rintro e w1 ⟨rfl, hb1⟩; have hB1 : Below w.heap.size w w1 := (by refine Below.trans ?_ (hb1.mono (by first | exact Nat.le_refl _ | omega | (simp; done) | (simp; omega))); repeat (first | exact Below.refl _ _ | assumption | refine Below.drew ?_ | refine belowDrewN ?_ _ | refine Below.alloc ?_ (by first | exact Nat.le_refl _ | omega | (simp; done) | (simp; omega)) _ | refine Below.setCell ?_ (by first | exact Nat.le_refl _ | omega | (simp; done) | (simp; omega)) _)); obtain ⟨hc1, hf1⟩ := bcell hb1; have hz1 : wd.heap.size < w1.heap.size := (by have := hb1.size; (try simp at this); omega))
        | (go_at_call 23; refine (HS.out _).mono ?_; rintro e w1 ⟨rfl, hb1⟩; have hB1 : Below w.heap.size w w1 := (by refine Below.trans ?_ (hb1.mono (by first | exact Nat.le_refl _ | omega | (simp; done) | (simp; omega))); repeat (first | exact Below.refl _ _ | assumption | refine Below.drew ?_ | refine belowDrewN ?_ _ | refine Below.alloc ?_ (by first | exact Nat.le_refl _ | omega | (simp; done) | (simp; omega)) _ | refine Below.setCell ?_ (by first | exact Nat.le_refl _ | omega | (simp; done) | (simp; omega)) _)); obtain ⟨hc1, hf1⟩ := bcell hb1; have hz1 : wd.heap.size < w1.heap.size := (by have := hb1.size; (try simp at this); omega))
        | (go_at_call 19; refine (specOk_any _ _ _ _).mono ?_; rintro e w1 ⟨rfl, hb1⟩; have hB1 : Below w.heap.size w w1 := (by refine Below.trans ?_ (hb1.mono (by first | exact Nat.le_refl _ | omega | (simp; done) | (simp; omega))); repeat (first | exact Below.refl _ _ | assumption | refine Below.drew ?_ | refine belowDrewN ?_ _ | refine Below.alloc ?_ (by first | exact Nat.le_refl _ | omega | (simp; done) | (simp; omega)) _ | refine Below.setCell ?_ (by first | exact Nat.le_refl _ | omega | (simp; done) | (simp; omega)) _)); obtain ⟨hc1, hf1⟩ := bcell hb1; have hz1 : wd.heap.size < w1.heap.size := (by have := hb1.size; (try simp at this); omega)))
      all_goals
        go_ret
        refine ⟨ret_bool ?_, by repeat (first | exact Below.refl _ _ | assumption | refine Below.drew ?_ | refine belowDrewN ?_ _ | refine Below.alloc ?_ (by first | exact Nat.le_refl _ | omega | (simp; done) | (simp; omega)) _ | refine Below.setCell ?_ (by first | exact Nat.le_refl _ | omega | (simp; done) | (simp; omega)) _)⟩
        simp <;> omega
end Go.Proofs.Ytbjonkjigfnnnaa
