/- The walk of FnDampOrder. -/
import Derived.Test.YtbjonkjigfnnnaaDampBound
import Derived.Deep.DeepCutAuto
namespace Go.Proofs.Ytbjonkjigfnnnaa
open Go.RowKit
set_option linter.unusedVariables false

theorem free_order {A B t : Int} (h1 : 80 ≤ A) (h2 : A ≤ B) (h3 : B ≤ 9999) (t0 : 0 ≤ t) (t1 : t ≤ 99) : freeOf A t true ≤ freeOf B t true ∧ t < freeOf A t true := by
  have ha : okB A t true = true := by unfold okB; simp; omega
  have hb : okB B t true = true := by unfold okB; simp; omega
  rw [freeOf_on ha, freeOf_on hb]
  have := hv_mono A.toNat B.toNat (by omega)
  have := hv_pos (q := A.toNat) (by omega)
  omega

set_option maxHeartbeats 2000000 in
theorem order_walk (a : Option Addr) (len cap : Nat) (zs : List Int) (a2 : Option Addr) (len2 cap2 : Nat) (zs2 : List Int) (w : World) (h : IsRow .u8 w a len cap zs) (_h2 : IsRow .u8 w a2 len2 cap2 zs2) :
    Calls Try.prog 8 #[.slice a len cap, .slice a2 len2 cap2] w fun e w' => e = .returned (.bool true) ∧ Below w.heap.size w w' := by
  have H := Lib.hid h
  clear h _h2
  by_cases hl : 1048576 < len
  · go_enter Try.func8, Try.ntmps8
    go_wp2
    go_ret
    exact ⟨rfl, Below.refl _ _⟩
  · by_cases hl2 : 1048576 < len2
    · go_enter Try.func8, Try.ntmps8
      go_wp2
      go_ret
      exact ⟨rfl, Below.refl _ _⟩
    · go_enter Try.func8, Try.ntmps8
      go_wp2_with fail
      refine (drawFree_any _ _ _ zs _ H.out).mono ?_
      rintro e wd ⟨p, t, o, rfl, p0, p1, t0, t1, hB1⟩
      have hzd := hB1.size
      have hI := fun w => implFree_any p t o w
      have hS := fun w => specFree_any p t o w
      generalize freeOf p t o = F at hI hS
      have HI := Lib.hid hI
      have HS := Lib.hid hS
      clear hI hS
      cases hok : okB p t o
      · go_wp2_with (first
          | (go_at_call 24; refine (HI.out _).mono ?_; rintro e w1 ⟨rfl, hb1⟩; have hB1 : Below w.heap.size w w1 := (by refine Below.trans ?_ (hb1.mono (by first | exact Nat.le_refl _ | omega | (simp; done) | (simp; omega))); repeat (first | exact Below.refl _ _ | assumption | refine Below.drew ?_ | refine belowDrewN ?_ _ | refine Below.alloc ?_ (by first | exact Nat.le_refl _ | omega | (simp; done) | (simp; omega)) _ | refine Below.setCell ?_ (by first | exact Nat.le_refl _ | omega | (simp; done) | (simp; omega)) _)); obtain ⟨hc1, hf1⟩ := bcell hb1; have hz1 : wd.heap.size < w1.heap.size := (by have := hb1.size; (try simp at this); omega))
          | (go_at_call 23; refine (HS.out _).mono ?_; rintro e w1 ⟨rfl, hb1⟩; have hB1 : Below w.heap.size w w1 := (by refine Below.trans ?_ (hb1.mono (by first | exact Nat.le_refl _ | omega | (simp; done) | (simp; omega))); repeat (first | exact Below.refl _ _ | assumption | refine Below.drew ?_ | refine belowDrewN ?_ _ | refine Below.alloc ?_ (by first | exact Nat.le_refl _ | omega | (simp; done) | (simp; omega)) _ | refine Below.setCell ?_ (by first | exact Nat.le_refl _ | omega | (simp; done) | (simp; omega)) _)); obtain ⟨hc1, hf1⟩ := bcell hb1; have hz1 : wd.heap.size < w1.heap.size := (by have := hb1.size; (try simp at this); omega))
          | (go_at_call 19; refine (specOk_any _ _ _ _).mono ?_; rintro e w1 ⟨rfl, hb1⟩; have hB1 : Below w.heap.size w w1 := (by refine Below.trans ?_ (hb1.mono (by first | exact Nat.le_refl _ | omega | (simp; done) | (simp; omega))); repeat (first | exact Below.refl _ _ | assumption | refine Below.drew ?_ | refine belowDrewN ?_ _ | refine Below.alloc ?_ (by first | exact Nat.le_refl _ | omega | (simp; done) | (simp; omega)) _ | refine Below.setCell ?_ (by first | exact Nat.le_refl _ | omega | (simp; done) | (simp; omega)) _)); obtain ⟨hc1, hf1⟩ := bcell hb1; have hz1 : wd.heap.size < w1.heap.size := (by have := hb1.size; (try simp at this); omega)))
        go_ret
        exact ⟨rfl, by repeat (first | exact Below.refl _ _ | assumption | refine Below.drew ?_ | refine belowDrewN ?_ _ | refine Below.alloc ?_ (by first | exact Nat.le_refl _ | omega | (simp; done) | (simp; omega)) _ | refine Below.setCell ?_ (by first | exact Nat.le_refl _ | omega | (simp; done) | (simp; omega)) _)⟩
      · obtain ⟨_, _, u0, u1, _, _⟩ := okB_in hok
        have hx0 : 0 ≤ (len2 : Int) * 7 % 900 := by omega
        have hx1 : (len2 : Int) * 7 % 900 < 900 := by omega
        have hy0 : 0 ≤ (len2 : Int) * 31 % 3000 := by omega
        have hy1 : (len2 : Int) * 31 % 3000 < 3000 := by omega
        obtain ⟨o1, o2⟩ := free_order (A := 80 + (len2 : Int) * 7 % 900) (B := 80 + (len2 : Int) * 7 % 900 + (len2 : Int) * 31 % 3000) (t := t) (by omega) (by omega) (by omega) u0 u1
        have ja := fun w => implFree_any (80 + (len2 : Int) * 7 % 900) t true w
        have jb := fun w => implFree_any (80 + (len2 : Int) * 7 % 900 + (len2 : Int) * 31 % 3000) t true w
        generalize freeOf (80 + (len2 : Int) * 7 % 900) t true = Fa at ja o1 o2
        generalize freeOf (80 + (len2 : Int) * 7 % 900 + (len2 : Int) * 31 % 3000) t true = Fb at jb o1
        have JA := Lib.hid ja
        have JB := Lib.hid jb
        clear ja jb
        have hle : 80 + (len2 : Int) * 7 % 900 + (len2 : Int) * 31 % 3000 ≤ 9999 := by omega
        go_upto_region 9 with (first
          | (go_at_call 24; refine (HI.out _).mono ?_; rintro e w1 ⟨rfl, hb1⟩; have hB1 : Below w.heap.size w w1 := (by refine Below.trans ?_ (hb1.mono (by first | exact Nat.le_refl _ | omega | (simp; done) | (simp; omega))); repeat (first | exact Below.refl _ _ | assumption | refine Below.drew ?_ | refine belowDrewN ?_ _ | refine Below.alloc ?_ (by first | exact Nat.le_refl _ | omega | (simp; done) | (simp; omega)) _ | refine Below.setCell ?_ (by first | exact Nat.le_refl _ | omega | (simp; done) | (simp; omega)) _)); obtain ⟨hc1, hf1⟩ := bcell hb1; have hz1 : wd.heap.size < w1.heap.size := (by have := hb1.size; (try simp at this); omega))
          | (go_at_call 23; refine (HS.out _).mono ?_; rintro e w1 ⟨rfl, hb1⟩; have hB1 : Below w.heap.size w w1 := (by refine Below.trans ?_ (hb1.mono (by first | exact Nat.le_refl _ | omega | (simp; done) | (simp; omega))); repeat (first | exact Below.refl _ _ | assumption | refine Below.drew ?_ | refine belowDrewN ?_ _ | refine Below.alloc ?_ (by first | exact Nat.le_refl _ | omega | (simp; done) | (simp; omega)) _ | refine Below.setCell ?_ (by first | exact Nat.le_refl _ | omega | (simp; done) | (simp; omega)) _)); obtain ⟨hc1, hf1⟩ := bcell hb1; have hz1 : wd.heap.size < w1.heap.size := (by have := hb1.size; (try simp at this); omega))
          | (go_at_call 19; refine (specOk_any _ _ _ _).mono ?_; rintro e w1 ⟨rfl, hb1⟩; have hB1 : Below w.heap.size w w1 := (by refine Below.trans ?_ (hb1.mono (by first | exact Nat.le_refl _ | omega | (simp; done) | (simp; omega))); repeat (first | exact Below.refl _ _ | assumption | refine Below.drew ?_ | refine belowDrewN ?_ _ | refine Below.alloc ?_ (by first | exact Nat.le_refl _ | omega | (simp; done) | (simp; omega)) _ | refine Below.setCell ?_ (by first | exact Nat.le_refl _ | omega | (simp; done) | (simp; omega)) _)); obtain ⟨hc1, hf1⟩ := bcell hb1; have hz1 : wd.heap.size < w1.heap.size := (by have := hb1.size; (try simp at this); omega)))
        have hq1 : w1.heap.size < ((w1.alloc (.cells #[.int .i64 (80 + (len2 : Int) * 7 % 900), .int .i64 t, .bool true] 25)).alloc (.cells #[.int .i64 (80 + (len2 : Int) * 7 % 900 + (len2 : Int) * 31 % 3000), .int .i64 t, .bool true] 25)).heap.size := by simp; omega
        have hq2 : wd.heap.size < w1.heap.size + 1 + 1 := by omega
        have hne1 : ¬ wd.heap.size = w1.heap.size := by omega
        have hne2 : ¬ wd.heap.size = w1.heap.size + 1 := by omega
        go_region_held3 (fun w' => (w'.cell? ⟨w1.heap.size, 0, none⟩ = some (.int .i64 (80 + (len2 : Int) * 7 % 900)) ∧ w'.cell? ⟨w1.heap.size, 1, none⟩ = some (.int .i64 t) ∧ w'.cell? ⟨w1.heap.size, 2, none⟩ = some (.bool true)) ∧
          (w'.cell? ⟨w1.heap.size + 1, 0, none⟩ = some (.int .i64 (80 + (len2 : Int) * 7 % 900 + (len2 : Int) * 31 % 3000)) ∧ w'.cell? ⟨w1.heap.size + 1, 1, none⟩ = some (.int .i64 t) ∧ w'.cell? ⟨w1.heap.size + 1, 2, none⟩ = some (.bool true)) ∧
          w'.cell? ⟨wd.heap.size, 1, none⟩ = some (.int .i64 t)) ((simp [go_sem, *]))
          (first | (go_at_call 24; (first | (with_reducible refine (JA.out _).mono ?_) | (with_reducible refine (JB.out _).mono ?_)); rintro e w2 ⟨rfl, hb2⟩; have hB2 : Below w.heap.size w w2 := (by refine Below.trans ?_ (hb2.mono (by first | exact Nat.le_refl _ | omega | (simp; done) | (simp; omega))); repeat (first | exact Below.refl _ _ | assumption | refine Below.drew ?_ | refine belowDrewN ?_ _ | refine Below.alloc ?_ (by first | exact Nat.le_refl _ | omega | (simp; done) | (simp; omega)) _ | refine Below.setCell ?_ (by first | exact Nat.le_refl _ | omega | (simp; done) | (simp; omega)) _)); obtain ⟨hc2, hf2⟩ := bcell hb2; have hs2 := hb2.size; (try simp at hs2); have ha2 : wd.heap.size < w2.heap.size := (by omega); have hb2' : w1.heap.size < w2.heap.size := (by omega); have hc2' : w1.heap.size + 1 < w2.heap.size := (by omega)))
        all_goals
          go_wp2_with fail
          go_ret
          refine ⟨ret_bool ?_, by repeat (first | exact Below.refl _ _ | assumption | refine Below.drew ?_ | refine belowDrewN ?_ _ | refine Below.alloc ?_ (by first | exact Nat.le_refl _ | omega | (simp; done) | (simp; omega)) _ | refine Below.setCell ?_ (by first | exact Nat.le_refl _ | omega | (simp; done) | (simp; omega)) _)⟩
          simp <;> omega
end Go.Proofs.Ytbjonkjigfnnnaa
