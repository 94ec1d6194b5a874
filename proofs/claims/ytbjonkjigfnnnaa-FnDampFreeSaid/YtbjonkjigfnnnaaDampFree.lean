/- Contracts of DampFree, the program's and the reference's: both are 'freeOf'. -/
import Derived.Test.YtbjonkjigfnnnaaDampPlain
import Derived.Deep.LoopGhost
namespace Go.Proofs.Ytbjonkjigfnnnaa
open Go.RowKit
set_option linter.unusedVariables false

set_option maxHeartbeats 1000000 in
theorem implFree_any (p t : Int) (o : Bool) (w : World) :
    Calls Try.prog 24 #[.agg #[.int .i64 p, .int .i64 t, .bool o]] w fun e w' => e = .returned (.int .i64 (freeOf p t o)) ∧ Below w.heap.size w w' := by
  cases hok : okB p t o
  · have F := Lib.hid (freeOf_bad hok)
    go_enter Try.func24, Try.ntmps24
    go_wp2_with (go_at_call 21; refine (implOk_any _ _ _ _).mono ?_; rintro e w1 ⟨rfl, hb1⟩; have hB1 : Below w.heap.size w w1 := (by refine Below.trans ?_ (hb1.mono (by first | exact Nat.le_refl _ | omega | (simp; done) | (simp; omega))); repeat (first | exact Below.refl _ _ | assumption | refine Below.drew ?_ | refine Below.alloc ?_ (by first | exact Nat.le_refl _ | omega | (simp; done) | (simp; omega)) _ | refine Below.setCell ?_ (by first | exact Nat.le_refl _ | omega | (simp; done) | (simp; omega)) _)); obtain ⟨hc1, hf1⟩ := bcell hb1; have hz1 : w.heap.size < w1.heap.size := (by have := hb1.size; (try simp at this); omega))
    go_ret
    exact ⟨ret_int F.out.symm, by repeat (first | exact Below.refl _ _ | assumption | refine Below.drew ?_ | refine Below.alloc ?_ (by first | exact Nat.le_refl _ | omega | (simp; done) | (simp; omega)) _ | refine Below.setCell ?_ (by first | exact Nat.le_refl _ | omega | (simp; done) | (simp; omega)) _)⟩
  · obtain ⟨p0, p1, t0, t1, hon, hoff⟩ := okB_in hok
    cases o
    · have F := Lib.hid (freeOf_off hok)
      clear hon hoff
      go_enter Try.func24, Try.ntmps24
      go_wp2_with (go_at_call 21; refine (implOk_any _ _ _ _).mono ?_; rintro e w1 ⟨rfl, hb1⟩; have hB1 : Below w.heap.size w w1 := (by refine Below.trans ?_ (hb1.mono (by first | exact Nat.le_refl _ | omega | (simp; done) | (simp; omega))); repeat (first | exact Below.refl _ _ | assumption | refine Below.drew ?_ | refine Below.alloc ?_ (by first | exact Nat.le_refl _ | omega | (simp; done) | (simp; omega)) _ | refine Below.setCell ?_ (by first | exact Nat.le_refl _ | omega | (simp; done) | (simp; omega)) _)); obtain ⟨hc1, hf1⟩ := bcell hb1; have hz1 : w.heap.size < w1.heap.size := (by have := hb1.size; (try simp at this); omega))
      go_ret
      exact ⟨ret_int F.out.symm, by repeat (first | exact Below.refl _ _ | assumption | refine Below.drew ?_ | refine Below.alloc ?_ (by first | exact Nat.le_refl _ | omega | (simp; done) | (simp; omega)) _ | refine Below.setCell ?_ (by first | exact Nat.le_refl _ | omega | (simp; done) | (simp; omega)) _)⟩
    · obtain ⟨q, rfl⟩ : ∃ q : Nat, p = (q : Int) := ⟨p.toNat, by omega⟩
      have F := Lib.hid (freeOf_on hok)
      have hq := hon rfl
      have hvp := hv_seven (q := q) (by omega)
      clear hon hoff
      go_enter Try.func24, Try.ntmps24
      go_wp2_with (go_at_call 21; refine (implOk_any _ _ _ _).mono ?_; rintro e w1 ⟨rfl, hb1⟩; have hB1 : Below w.heap.size w w1 := (by refine Below.trans ?_ (hb1.mono (by first | exact Nat.le_refl _ | omega | (simp; done) | (simp; omega))); repeat (first | exact Below.refl _ _ | assumption | refine Below.drew ?_ | refine Below.alloc ?_ (by first | exact Nat.le_refl _ | omega | (simp; done) | (simp; omega)) _ | refine Below.setCell ?_ (by first | exact Nat.le_refl _ | omega | (simp; done) | (simp; omega)) _)); obtain ⟨hc1, hf1⟩ := bcell hb1; have hz1 : w.heap.size < w1.heap.size := (by have := hb1.size; (try simp at this); omega))
      go_loopg [3, 4] q (fun k at' pain wr => ∃ T : Int, at' = .int .i64 T ∧ pain = .int .i64 (k : Int) ∧ k ≤ 9999 ∧ 0 ≤ T ∧ T + 8 * (hv k : Int) = t + 8 * (hv q : Int) ∧ wr = w1)
      case atStart => exact ⟨t, rfl, rfl, by omega, t0, rfl, rfl⟩
      case round =>
        obtain ⟨T, rfl, rfl, hk, hT0, hT, rfl⟩ := hrel
        have HT := Lib.hid hT
        have hTb : T ≤ 200 := by omega
        clear hT
        by_cases hc : gk < 80
        · go_wp2
          go_ret
          have h1 := HT.out
          rw [hv_lt hc] at h1
          exact ⟨ret_int (by have := F.out; simp at this; omega), by repeat (first | exact Below.refl _ _ | assumption | refine Below.drew ?_ | refine Below.alloc ?_ (by first | exact Nat.le_refl _ | omega | (simp; done) | (simp; omega)) _ | refine Below.setCell ?_ (by first | exact Nat.le_refl _ | omega | (simp; done) | (simp; omega)) _)⟩
        · have h2 := Lib.hid (hv_ge (q := gk) (by omega))
          go_wp2
          go_roundg (gk / 2)
          case measure => omega
          case rel => exact ⟨T + 8, rfl, by go_num, by omega, by omega, by have := h2.out; have := HT.out; omega, rfl⟩

set_option maxHeartbeats 1000000 in
theorem specFree_any (p t : Int) (o : Bool) (w : World) :
    Calls Try.prog 23 #[.agg #[.int .i64 p, .int .i64 t, .bool o]] w fun e w' => e = .returned (.int .i64 (freeOf p t o)) ∧ Below w.heap.size w w' := by
  cases hok : okB p t o
  · have F := Lib.hid (freeOf_bad hok)
    go_enter Try.func23, Try.ntmps23
    go_wp2_with (go_at_call 19; refine (specOk_any _ _ _ _).mono ?_; rintro e w1 ⟨rfl, hb1⟩; have hB1 : Below w.heap.size w w1 := (by refine Below.trans ?_ (hb1.mono (by first | exact Nat.le_refl _ | omega | (simp; done) | (simp; omega))); repeat (first | exact Below.refl _ _ | assumption | refine Below.drew ?_ | refine Below.alloc ?_ (by first | exact Nat.le_refl _ | omega | (simp; done) | (simp; omega)) _ | refine Below.setCell ?_ (by first | exact Nat.le_refl _ | omega | (simp; done) | (simp; omega)) _)); obtain ⟨hc1, hf1⟩ := bcell hb1; have hz1 : w.heap.size < w1.heap.size := (by have := hb1.size; (try simp at this); omega))
    go_ret
    exact ⟨ret_int F.out.symm, by repeat (first | exact Below.refl _ _ | assumption | refine Below.drew ?_ | refine Below.alloc ?_ (by first | exact Nat.le_refl _ | omega | (simp; done) | (simp; omega)) _ | refine Below.setCell ?_ (by first | exact Nat.le_refl _ | omega | (simp; done) | (simp; omega)) _)⟩
  · obtain ⟨p0, p1, t0, t1, hon, hoff⟩ := okB_in hok
    obtain ⟨q, rfl⟩ : ∃ q : Nat, p = (q : Int) := ⟨p.toNat, by omega⟩
    have F : freeOf (q : Int) t o = t + 8 * ((if o = true then hv q else 0 : Nat) : Int) := by
      cases o
      · rw [freeOf_off hok]; simp
      · rw [freeOf_on hok]; simp
    have HF := Lib.hid F
    clear F
    have hq : Hid (o = true → 80 ≤ q) := fun h => by have := hon h; omega
    have hvp := hv_seven (q := q) (by omega)
    clear hon hoff
    go_enter Try.func23, Try.ntmps23
    go_wp2_with (go_at_call 19; refine (specOk_any _ _ _ _).mono ?_; rintro e w1 ⟨rfl, hb1⟩; have hB1 : Below w.heap.size w w1 := (by refine Below.trans ?_ (hb1.mono (by first | exact Nat.le_refl _ | omega | (simp; done) | (simp; omega))); repeat (first | exact Below.refl _ _ | assumption | refine Below.drew ?_ | refine Below.alloc ?_ (by first | exact Nat.le_refl _ | omega | (simp; done) | (simp; omega)) _ | refine Below.setCell ?_ (by first | exact Nat.le_refl _ | omega | (simp; done) | (simp; omega)) _)); obtain ⟨hc1, hf1⟩ := bcell hb1; have hz1 : w.heap.size < w1.heap.size := (by have := hb1.size; (try simp at this); omega))
    have hb := Lib.hid hB1
    have i0 : w1.cell? ⟨w.heap.size, 0, none⟩ = some (.int .i64 (q : Int)) := by simp [*, go_sem]
    have i2 : w1.cell? ⟨w.heap.size, 2, none⟩ = some (.bool o) := by simp [*, go_sem]
    have f0 : w1.frozen? ⟨w.heap.size, 0, none⟩ = false := by simp [*, go_sem]
    have f2 : w1.frozen? ⟨w.heap.size, 2, none⟩ = false := by simp [*, go_sem]
    clear hc1 hf1 hb1 hB1 hz1
    go_loopg [3] q (fun k at' wr => ∃ T : Int, ∃ b : Bool, at' = .int .i64 T ∧ k ≤ 9999 ∧ 0 ≤ T ∧ T + 8 * ((if b = true then hv k else 0 : Nat) : Int) = t + 8 * ((if o = true then hv q else 0 : Nat) : Int) ∧ (b = true → 80 ≤ k) ∧
      wr.cell? ⟨w.heap.size, 0, none⟩ = some (.int .i64 (k : Int)) ∧ wr.cell? ⟨w.heap.size, 2, none⟩ = some (.bool b) ∧ wr.frozen? ⟨w.heap.size, 0, none⟩ = false ∧ wr.frozen? ⟨w.heap.size, 2, none⟩ = false ∧ Below w.heap.size w wr)
    case atStart => exact ⟨t, o, rfl, by omega, t0, rfl, hq.out, i0, i2, f0, f2, hb.out⟩
    case round =>
      obtain ⟨T, b, rfl, hk, hT0, hT, hb80, c0, c2, g0, g2, hbel⟩ := hrel
      have HT := Lib.hid hT
      have hTb : T ≤ 200 := by split at hT <;> split at hT <;> omega
      clear hT
      cases b
      · clear hb80
        go_wp2
        go_ret
        have h1 := HT.out
        exact ⟨ret_int (by have := HF.out; simp at h1; omega), hbel⟩
      · have hk80 := hb80 rfl
        clear hb80
        have h2 := Lib.hid (hv_ge (q := gk) hk80)
        go_wp2
        go_roundg (gk / 2)
        case measure => omega
        case rel =>
          have e : ((gk : Int) / 2) = ((gk / 2 : Nat) : Int) := by simp
          refine ⟨T + 8, decide (80 ≤ gk / 2), rfl, by omega, by omega, ?_, by simp, ?_, ?_, by simp [g0], by simp [g2], (hbel.setCell (Nat.le_refl _) _).setCell (Nat.le_refl _) _⟩
          · have e2 := h2.out
            have e3 := HT.out
            by_cases h8 : 80 ≤ gk / 2
            · simp [h8] at e3 ⊢; omega
            · simp [h8] at e3 ⊢; rw [hv_lt (q := gk / 2) (by omega)] at e2; omega
          · rw [World.cell?_setCell_other _ _ _ _ (by simp), ← e]; exact World.cell?_setCell_same _ _ _ c0
          · rw [World.cell?_setCell_same _ _ _ (by rw [World.cell?_setCell_other _ _ _ _ (by simp)]; exact c2)]
            congr 2
            rw [decide_eq_decide]; omega
end Go.Proofs.Ytbjonkjigfnnnaa
