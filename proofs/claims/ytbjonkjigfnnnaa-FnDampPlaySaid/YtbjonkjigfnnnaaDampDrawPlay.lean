/- Times that are drawn, for flaps that come one behind the other. -/
import Derived.Test.YtbjonkjigfnnnaaDampDraws
import Derived.Deep.Onto
namespace Go.Proofs.Ytbjonkjigfnnnaa
open Go.RowKit
set_option linter.unusedVariables false

/-- Some times have been drawn, in a slice of the callee's own. -/
def DrawnPlay (w : World) (e : Ending) (w' : World) : Prop :=
  ∃ (v : Value) (l : List Int), e = .returned v ∧ w'.ownsRow w.heap.size 3 1 v l.length (l.map (Value.int .i64)) ∧ l.length ≤ 7 ∧ Below w.heap.size w w'

set_option maxHeartbeats 1000000 in
theorem drawPlay_any (a : Option Addr) (len cap : Nat) (zs : List Int) (w : World) (h : IsRow .u8 w a len cap zs) :
    Calls Try.prog 37 #[.slice a len cap] w (DrawnPlay w) := by
  obtain ⟨hm, hc⟩ := h.bounds
  have H := Lib.hid h
  clear h
  obtain ⟨i0, hi, hz0, hz1, hz2⟩ := info_parts info_int
  go_enter Try.func37, Try.ntmps37
  go_wp2_with fail
  refine (l6Open_any _ _ _ zs _ H.out hm hc).mono ?_
  rintro e w1 ⟨len', rfl, rfl, hr⟩
  have R := Lib.hid hr
  clear hr
  have hS0 := World.size_alloc w (.cells #[.slice a len' cap, .int .i64 0] 57)
  go_wp2_with fail
  refine (times_any w.heap.size a len' cap zs 0 _ R.out (by omega)).mono ?_
  rintro e w2 ⟨v, l, p', rfl, hown, hl6, hr2, hp2, hO2⟩
  simp only [World.size_alloc] at hown
  have hrow : ∀ b, v.ownBlock = some b → w.heap.size + 1 ≤ b := fun b hb => (hown.lt b hb).1
  have hs2 := hO2.size
  simp only [World.size_alloc] at hs2
  have hB2 : Below w.heap.size w w2 := (by refine Below.trans ?_ (hO2.below (by omega) (by first | exact Nat.le_refl _ | omega | (simp; done) | (simp; omega))); repeat (first | exact Below.refl _ _ | assumption | refine Below.drew ?_ | refine belowDrewN ?_ _ | refine Below.alloc ?_ (by first | exact Nat.le_refl _ | omega | (simp; done) | (simp; omega)) _ | refine Below.setCell ?_ (by first | exact Nat.le_refl _ | omega | (simp; done) | (simp; omega)) _))
  have R2 := Lib.hid hr2
  clear hr2 R
  go_wp2_with fail
  refine (pick_any 16 w.heap.size a len' cap zs p' w2 (by omega) R2.out (by omega)).mono ?_
  rintro e w3 ⟨x, rfl, x0, x1, hr3, hO3, hs3⟩
  have own3 := hown.kept hO3.grown (by cases hv : v.ownBlock with | none => exact .inl rfl | some b => exact .inr (by intro e; have := hrow b hv; simp at e; omega))
  have hB3 : Below w.heap.size w w3 := (by refine Below.trans ?_ (hO3.below (by omega) (by first | exact Nat.le_refl _ | omega | (simp; done) | (simp; omega))); repeat (first | exact Below.refl _ _ | assumption | refine Below.drew ?_ | refine belowDrewN ?_ _ | refine Below.alloc ?_ (by first | exact Nat.le_refl _ | omega | (simp; done) | (simp; omega)) _ | refine Below.setCell ?_ (by first | exact Nat.le_refl _ | omega | (simp; done) | (simp; omega)) _))
  have R3 := Lib.hid hr3
  clear hr3 R2 hown
  by_cases hx : x = 0
  · have hx' : (x == 0) = true := by simp [hx]
    clear hx
    go_wp2_with fail
    refine (pick_any 20 w.heap.size a len' cap zs _ w3 (by omega) R3.out (by omega)).mono ?_
    rintro e w4 ⟨t, rfl, t0, t1, hr4, hO4, hs4⟩
    have own4 := own3.kept hO4.grown (by cases hv : v.ownBlock with | none => exact .inl rfl | some b => exact .inr (by intro e; have := hrow b hv; simp at e; omega))
    have hB4 : Below w.heap.size w w4 := (by refine Below.trans ?_ (hO4.below (by omega) (by first | exact Nat.le_refl _ | omega | (simp; done) | (simp; omega))); repeat (first | exact Below.refl _ _ | assumption | refine Below.drew ?_ | refine belowDrewN ?_ _ | refine Below.alloc ?_ (by first | exact Nat.le_refl _ | omega | (simp; done) | (simp; omega)) _ | refine Below.setCell ?_ (by first | exact Nat.le_refl _ | omega | (simp; done) | (simp; omega)) _))
    have hz4 : w.heap.size + 1 ≤ w4.heap.size := by omega
    clear hr4 own3 hs3 hs4
    go_wp2_with (at_builtin; go_loud (refine wpList_append_own _ rfl (.tmp 12) (.tmp 15) 39 rfl (w.heap.size + 1) 3 i0 (.int .i64 0) 1 8 Try.underlying39 hi hz0 hz1 hz2 rfl (by decide) _ _ _ rfl (own4.alloc _) ⟨w4.heap.size, 0, none⟩ 1 1 [.int .i64 t] rfl rfl (cell_one_new _ _ _) (by intro u hu; simp at hu; subst hu; rfl) (by unfold maxLen; omega) (by omega) (by simp; omega) ?_); intro v' w5 hown5 hgrow5 _)
    have hw5 : Below w.heap.size w4 w5 := Below.grown ((Below.refl _ _).alloc (by omega) _) hgrow5 (by simp; omega) (fun b hb => by have := hrow b hb; omega)
    go_ret
    exact ⟨v', l ++ [t], rfl, by simpa using hown5.mono (by omega), by simp; omega, hB4.trans hw5⟩
  · have hx' : (x == 0) = false := by simp [hx]
    clear hx
    go_wp2_with fail
    go_ret
    exact ⟨v, l, rfl, own3.mono (by omega), by omega, hB3⟩
end Go.Proofs.Ytbjonkjigfnnnaa
