/- Ranges: isAddr, many, RangeOk of the program. Ranges: the order of two; the reference's l6In, l1Size, RangeOk, l1Cmp. Ranges: the reference's RangeOk, l1Cmp, l1Has. -/
import Derived.Test.YtlpibfafpljedaaGreatDoorNest
import Derived.Deep.RegionHeld3
import Derived.Deep.RegionWith
import Derived.Deep.QuietTactic
import Derived.BigQuiet
import Derived.Deep.LoopGhost
namespace Go.Proofs.YtlpibfafpljedaaGreatDoor
open Go.RowKit
set_option linter.unusedVariables false

def addrF (x : Int) : Bool := decide (0 ≤ x) && decide (x ≤ 255)
/-- how many addresses begin with so many bits that are given -/
def sizeF (b : Int) : Int := 2 ^ (8 - b).toNat
def rangeOkF (f b : Int) : Bool := decide (0 ≤ b) && decide (b ≤ 8) && addrF f && decide (f % sizeF b = 0)

theorem isAddr_any (x : Int) (w : World) : Calls Tryz.prog 29 #[.int .i64 x] w fun e w' => e = .returned (.bool (addrF x)) ∧ Drew w w' := by
  obtain ⟨c, hc⟩ : ∃ c, addrF x = c := ⟨_, rfl⟩
  rw [hc]
  unfold addrF at hc
  by_cases h1 : 0 ≤ x
  · by_cases h2 : x ≤ 255
    · have : c = true := by rw [← hc]; simp [h1, h2]
      subst this
      clear hc
      go_enter Tryz.func29, Tryz.ntmps29
      go_wp2_with fail
      go_ret
      exact ⟨rfl, Drew.refl _⟩
    · have : c = false := by rw [← hc]; simp [h2]
      subst this
      clear hc
      go_enter Tryz.func29, Tryz.ntmps29
      go_wp2_with fail
      go_ret
      exact ⟨rfl, Drew.refl _⟩
  · have : c = false := by rw [← hc]; simp [h1]
    subst this
    clear hc
    have h1' : ¬ 0 ≤ x := h1
    go_enter Tryz.func29, Tryz.ntmps29
    go_wp2_with fail
    go_ret
    exact ⟨rfl, Drew.refl _⟩

theorem many_any (f b : Int) (h0 : 0 ≤ b) (h8 : b ≤ 8) (w : World) : Calls Tryz.prog 44 #[.agg #[.int .i64 f, .int .i64 b]] w fun e w' => e = .returned (.int .i64 (sizeF b)) ∧ Below w.heap.size w w' := by
  have hb : b = 0 ∨ b = 1 ∨ b = 2 ∨ b = 3 ∨ b = 4 ∨ b = 5 ∨ b = 6 ∨ b = 7 ∨ b = 8 := by omega
  rcases hb with rfl | rfl | rfl | rfl | rfl | rfl | rfl | rfl | rfl
  all_goals
    go_enter Tryz.func44, Tryz.ntmps44
    go_wp2_with fail
    go_ret
    exact ⟨by first | rfl | decide, by repeat (first | exact Below.refl _ _ | assumption | refine Below.drew ?_ | refine belowDrewN ?_ _ | refine Below.alloc ?_ (by first | exact Nat.le_refl _ | omega | (simp; done) | (simp; omega)) _ | refine Below.setCell ?_ (by first | exact Nat.le_refl _ | omega | (simp; done) | (simp; omega)) _)⟩
theorem sizeF_pos (b : Int) : 0 < sizeF b := by unfold sizeF; exact Int.pow_pos (by omega)
theorem sizeF_le (b : Int) (h0 : 0 ≤ b) : sizeF b ≤ 256 := by
  unfold sizeF
  have h : (8 - b).toNat ≤ 8 := by omega
  obtain ⟨k, hk⟩ : ∃ k, (8 - b).toNat = k := ⟨_, rfl⟩
  rw [hk] at h ⊢
  match k, h with
  | 0, _ => decide
  | 1, _ => decide
  | 2, _ => decide
  | 3, _ => decide
  | 4, _ => decide
  | 5, _ => decide
  | 6, _ => decide
  | 7, _ => decide
  | 8, _ => decide
set_option maxHeartbeats 2000000 in
theorem rangeOk_any (f b : Int) (w : World) : Calls Tryz.prog 23 #[.agg #[.int .i64 f, .int .i64 b]] w fun e w' => e = .returned (.bool (rangeOkF f b)) ∧ Below w.heap.size w w' := by
  obtain ⟨c, hc⟩ : ∃ c, rangeOkF f b = c := ⟨_, rfl⟩
  rw [hc]
  obtain ⟨d, hd⟩ : ∃ d, addrF f = d := ⟨_, rfl⟩
  have had : ∀ W, Calls Tryz.prog 29 #[.int .i64 f] W fun e w' => e = .returned (.bool d) ∧ Drew W w' := fun W => by rw [← hd]; exact isAddr_any f W
  unfold rangeOkF at hc
  rw [hd] at hc
  have HAD := Lib.hid had
  have HD := Lib.hid hd
  clear had hd
  by_cases h0 : 0 ≤ b
  · by_cases h8 : b ≤ 8
    · cases d
      · have : c = false := by rw [← hc]; simp
        subst this
        clear hc
        go_enter Tryz.func23, Tryz.ntmps23
        go_wp2_with fail
        go_quiet ((go_at_call 29; (first | refine quietA (HAD.out _) | refine quietB (HAD.out _))))
        go_wp2_with fail
        go_ret
        exact ⟨rfl, by repeat (first | exact Below.refl _ _ | assumption | refine Below.drew ?_ | refine belowDrewN ?_ _ | refine Below.alloc ?_ (by first | exact Nat.le_refl _ | omega | (simp; done) | (simp; omega)) _ | refine Below.setCell ?_ (by first | exact Nat.le_refl _ | omega | (simp; done) | (simp; omega)) _)⟩
      · have hm := fun W => many_any f b h0 h8 W
        have hp := sizeF_pos b
        have hl := sizeF_le b h0
        obtain ⟨S, hS⟩ : ∃ S, sizeF b = S := ⟨_, rfl⟩
        rw [hS] at hm hp hl hc
        have ha : 0 ≤ f ∧ f ≤ 255 := by have := HD.out; unfold addrF at this; simp at this; exact this
        have hc2 : c = (f % S == 0) := by rw [← hc]; simp [h0, h8]; rfl
        have HM := Lib.hid hm
        have HC := Lib.hid hc2
        have hne : S ≠ 0 := by omega
        have htm : f.tmod S = f % S := Int.tmod_eq_emod_of_nonneg ha.1
        obtain ⟨a1, a2⟩ := ha
        clear hc hm hS hc2
        go_enter Tryz.func23, Tryz.ntmps23
        go_wp2_with fail
        go_region_held3 (fun w' => w'.cell? ⟨w.heap.size, 0, none⟩ = some (.int .i64 f) ∧ w'.cell? ⟨w.heap.size, 1, none⟩ = some (.int .i64 b)) ((simp [go_sem, *])) (first | (go_at_call 29; refine (HAD.out _).mono ?_; rintro e w1 ⟨rfl, q, rfl⟩) | (go_at_call 44; refine (HM.out _).mono ?_; rintro e w2 ⟨rfl, hb2⟩; have hc2 := (hb2.cell (p := ⟨w.heap.size, 0, none⟩) (by simp)); have hc3 := (hb2.cell (p := ⟨w.heap.size, 1, none⟩) (by simp)); have hB : Below w.heap.size w w2 := (by refine Below.trans ?_ (hb2.mono (by first | exact Nat.le_refl _ | omega | (simp; done) | (simp; omega))); repeat (first | exact Below.refl _ _ | assumption | refine Below.drew ?_ | refine belowDrewN ?_ _ | refine Below.alloc ?_ (by first | exact Nat.le_refl _ | omega | (simp; done) | (simp; omega)) _ | refine Below.setCell ?_ (by first | exact Nat.le_refl _ | omega | (simp; done) | (simp; omega)) _)); clear hb2))
        all_goals
          go_wp2_with fail
          go_ret
          exact ⟨by rw [HC.out]; rfl, hB⟩
    · have : c = false := by rw [← hc]; simp [h8]
      subst this
      clear hc
      have h8' : decide (b ≤ 8) = false := decide_eq_false h8
      go_enter Tryz.func23, Tryz.ntmps23
      go_wp2_with fail
      go_quiet (fail)
      go_wp2_with fail
      go_ret
      exact ⟨rfl, by repeat (first | exact Below.refl _ _ | assumption | refine Below.drew ?_ | refine belowDrewN ?_ _ | refine Below.alloc ?_ (by first | exact Nat.le_refl _ | omega | (simp; done) | (simp; omega)) _ | refine Below.setCell ?_ (by first | exact Nat.le_refl _ | omega | (simp; done) | (simp; omega)) _)⟩
  · have : c = false := by rw [← hc]; simp [h0]
    subst this
    clear hc
    have h0' : decide (0 ≤ b) = false := decide_eq_false h0
    go_enter Tryz.func23, Tryz.ntmps23
    go_wp2_with fail
    go_quiet (fail)
    go_wp2_with fail
    go_ret
    exact ⟨rfl, by repeat (first | exact Below.refl _ _ | assumption | refine Below.drew ?_ | refine belowDrewN ?_ _ | refine Below.alloc ?_ (by first | exact Nat.le_refl _ | omega | (simp; done) | (simp; omega)) _ | refine Below.setCell ?_ (by first | exact Nat.le_refl _ | omega | (simp; done) | (simp; omega)) _)⟩
end Go.Proofs.YtlpibfafpljedaaGreatDoor

namespace Go.Proofs.YtlpibfafpljedaaGreatDoor
open Go.RowKit
set_option linter.unusedVariables false

theorem ret_b {a b : Bool} (h : a = b) : Ending.returned (.bool a) = Ending.returned (.bool b) := by rw [h]
set_option maxHeartbeats 400000 in
theorem in_any (n lo hi : Int) (w : World) :
    Calls Tryz.prog 38 #[.int .i64 n, .int .i64 lo, .int .i64 hi] w fun e w' => e = .returned (.bool (decide (lo ≤ n) && decide (n ≤ hi))) ∧ w' = w := by
  go_enter Tryz.func38, Tryz.ntmps38
  go_wp2
  all_goals
    go_ret
    refine ⟨ret_b ?_, rfl⟩
    simp [*] <;> omega
theorem half_size (k : Nat) (hk : k < 8) : (2 : Int) ^ (8 - k) / 2 = 2 ^ (8 - (k + 1)) := by
  match k, hk with
  | 0, _ => decide
  | 1, _ => decide
  | 2, _ => decide
  | 3, _ => decide
  | 4, _ => decide
  | 5, _ => decide
  | 6, _ => decide
  | 7, _ => decide
theorem pow_bd (k : Nat) (hk : k ≤ 8) : 1 ≤ (2 : Int) ^ (8 - k) ∧ (2 : Int) ^ (8 - k) ≤ 256 := by
  match k, hk with
  | 0, _ => decide
  | 1, _ => decide
  | 2, _ => decide
  | 3, _ => decide
  | 4, _ => decide
  | 5, _ => decide
  | 6, _ => decide
  | 7, _ => decide
  | 8, _ => decide
set_option maxHeartbeats 1000000 in
theorem l1Size_any (b : Int) (h0 : 0 ≤ b) (h8 : b ≤ 8) (w : World) : Calls Tryz.prog 60 #[.int .i64 b] w fun e w' => e = .returned (.int .i64 (sizeF b)) ∧ w' = w := by
  obtain ⟨n, rfl⟩ : ∃ n : Nat, b = (n : Int) := ⟨b.toNat, by omega⟩
  have hn : n ≤ 8 := by omega
  have hs : sizeF (n : Int) = 2 ^ (8 - n) := by unfold sizeF; rw [show (8 - (n : Int)).toNat = 8 - n by omega]
  rw [hs]
  go_enter Tryz.func60, Tryz.ntmps60
  go_wp2_with fail
  go_loopg [3, 4] n (fun g s i wr => ∃ (k : Nat) (x : Int), i = .int .i64 (k : Int) ∧ k + g = n ∧ s = .int .i64 x ∧ Hid (x = 2 ^ (8 - k)) ∧ 1 ≤ x ∧ x ≤ 256 ∧ wr = w)
  case atStart => exact ⟨0, 256, rfl, by omega, rfl, Lib.hid (by decide), by omega, by omega, rfl⟩
  case round =>
    obtain ⟨k, x, rfl, hk, rfl, hx, hx1, hx2, rfl⟩ := hrel
    by_cases hg : gk = 0
    · subst hg
      obtain rfl : k = n := by omega
      go_wp2_with fail
      go_ret
      exact ⟨by rw [hx.out]; rfl, rfl⟩
    · have hkn : k < n := by omega
      have hkI : (k : Int) < (n : Int) := by omega
      have hgk : 1 ≤ gk := by omega
      have hh := half_size k (by omega)
      have hb := pow_bd (k + 1) (by omega)
      have ht : x.tdiv 2 = x / 2 := Int.tdiv_eq_ediv_of_nonneg (by omega)
      have hx' : x / 2 = 2 ^ (8 - (k + 1)) := by rw [hx.out]; exact hh
      have HX := Lib.hid hx'
      have HK := Lib.hid hk
      obtain ⟨y, hy⟩ : ∃ y, x / 2 = y := ⟨_, rfl⟩
      have hyb : 1 ≤ y ∧ y ≤ 256 := by rw [← hy, hx']; exact hb
      have HY := Lib.hid hy
      clear hh hb hx' hk hg
      obtain ⟨y1, y2⟩ := hyb
      go_wp2_with fail
      go_roundg (gk - 1)
      case measure => omega
      case rel => exact ⟨k + 1, y, by go_num, by have := HK.out; omega, rfl, Lib.hid (by rw [← HY.out]; exact HX.out), y1, y2, rfl⟩

def cmpI (x y : Int) : Int := if x < y then -1 else if y < x then 1 else 0
/-- by first addresses, then the larger one -/
def rcmpF (f b f2 b2 : Int) : Int := if cmpI f f2 ≠ 0 then cmpI f f2 else cmpI b b2
theorem isNaN_any (x : Int) (w : World) : Calls Tryz.prog 63 #[.int .i64 x] w fun e w' => e = .returned (.bool false) ∧ w' = w := by
  have hx : (x != x) = false := by simp
  go_enter Tryz.func63, Tryz.ntmps63
  go_wp2_with fail
  go_ret
  exact ⟨rfl, rfl⟩
theorem compare_any (x y : Int) (w : World) : Calls Tryz.prog 46 #[.int .i64 x, .int .i64 y] w fun e w' => e = .returned (.int .i64 (cmpI x y)) ∧ w' = w := by
  obtain ⟨c, hc⟩ : ∃ c, cmpI x y = c := ⟨_, rfl⟩
  rw [hc]
  unfold cmpI at hc
  have HX := Lib.hid fun W => isNaN_any x W
  have HY := Lib.hid fun W => isNaN_any y W
  by_cases h1 : x < y
  · rw [if_pos h1] at hc
    subst hc
    go_enter Tryz.func46, Tryz.ntmps46
    go_wp2_with (first | (go_at_call_of 63 (Value.int IntKind.i64 x); refine (HX.out _).mono ?_; rintro e w' ⟨rfl, rfl⟩) | (go_at_call_of 63 (Value.int IntKind.i64 y); refine (HY.out _).mono ?_; rintro e w' ⟨rfl, rfl⟩))
    go_ret
    exact ⟨rfl, rfl⟩
  · rw [if_neg h1] at hc
    by_cases h2 : y < x
    · rw [if_pos h2] at hc
      subst hc
      go_enter Tryz.func46, Tryz.ntmps46
      go_wp2_with (first | (go_at_call_of 63 (Value.int IntKind.i64 x); refine (HX.out _).mono ?_; rintro e w' ⟨rfl, rfl⟩) | (go_at_call_of 63 (Value.int IntKind.i64 y); refine (HY.out _).mono ?_; rintro e w' ⟨rfl, rfl⟩))
      go_ret
      exact ⟨rfl, rfl⟩
    · rw [if_neg h2] at hc
      subst hc
      go_enter Tryz.func46, Tryz.ntmps46
      go_wp2_with (first | (go_at_call_of 63 (Value.int IntKind.i64 x); refine (HX.out _).mono ?_; rintro e w' ⟨rfl, rfl⟩) | (go_at_call_of 63 (Value.int IntKind.i64 y); refine (HY.out _).mono ?_; rintro e w' ⟨rfl, rfl⟩))
      go_ret
      exact ⟨rfl, rfl⟩
/-- the first that is not 0, of two -/
theorem or_any (v : Value) (x y : Int) (w : World) (h : IntsAt w v [x, y]) : Calls Tryz.prog 45 #[v] w fun e w' => e = .returned (.int .i64 (if x ≠ 0 then x else y)) ∧ w' = w := by
  obtain ⟨a, cap, rfl, hc, hm⟩ := h.form
  obtain ⟨b, off, rfl, hb, hx0⟩ := h.get 0 (by simp)
  obtain ⟨b', off', e, _, hx1⟩ := h.get 1 (by simp)
  simp only [Option.some.injEq, Addr.mk.injEq] at e
  obtain ⟨rfl, rfl, _⟩ := e
  have hx0' : w.cell? ⟨b, off, none⟩ = some (.int .i64 x) := by simpa using hx0
  have hx1' : w.cell? ⟨b, off + 1, none⟩ = some (.int .i64 y) := by simpa using hx1
  clear h hx0 hx1
  obtain ⟨c, hc0⟩ : ∃ c, (if x ≠ 0 then x else y) = c := ⟨_, rfl⟩
  rw [hc0]
  go_enter Tryz.func45, Tryz.ntmps45
  go_wp2_with fail
  go_loopg [8] 2 (fun g i wr => ∃ k : Nat, i = .int .i64 (k : Int) ∧ k + g = 2 ∧ (0 < k → x = 0) ∧ (1 < k → y = 0) ∧ wr = w)
  case atStart => exact ⟨0, rfl, by omega, by omega, by omega, rfl⟩
  case round =>
    obtain ⟨k, rfl, hk, h0, h1, rfl⟩ := hrel
    have hk3 : k = 0 ∨ k = 1 ∨ k = 2 := by omega
    rcases hk3 with rfl | rfl | rfl
    · by_cases hx : x = 0
      · subst hx
        go_wp2_with fail
        go_roundg (gk - 1)
        case measure => omega
        case rel => exact ⟨1, by go_num, by omega, by simp, by omega, rfl⟩
      · have hxb : (x != 0) = true := by simp [hx]
        rw [if_pos hx] at hc0
        subst hc0
        clear hx
        go_wp2_with fail
        go_ret
        exact ⟨rfl, rfl⟩
    · have hx := h0 (by omega)
      subst hx
      rw [if_neg (by simp)] at hc0
      subst hc0
      by_cases hy : y = 0
      · subst hy
        go_wp2_with fail
        go_roundg (gk - 1)
        case measure => omega
        case rel => exact ⟨2, by go_num, by omega, by simp, by simp, rfl⟩
      · have hyb : (y != 0) = true := by simp [hy]
        clear hy
        go_wp2_with fail
        go_ret
        exact ⟨rfl, rfl⟩
    · have hx := h0 (by omega)
      have hy := h1 (by omega)
      subst hx
      subst hy
      rw [if_neg (by simp)] at hc0
      subst hc0
      go_wp2_with fail
      go_ret
      exact ⟨rfl, rfl⟩
theorem rcmpF_or (f b f2 b2 : Int) : (if cmpI f f2 ≠ 0 then cmpI f f2 else cmpI b b2) = rcmpF f b f2 b2 := rfl
/-- two numbers in a slice of their own -/
theorem ints_two (w : World) (x y : Int) : IntsAt (w.alloc (.cells #[.int .i64 x, .int .i64 y] 3)) (.slice (some ⟨w.heap.size, 0, none⟩) 2 2) [x, y] := by
  refine ⟨_, _, rfl, Nat.le_refl _, by unfold maxLen; omega, .inr ⟨w.heap.size, 0, rfl, by simp, fun i hi => ?_⟩⟩
  rw [Nat.zero_add, cell_of_row _ _ _ #[.int .i64 x, .int .i64 y] 3 (0, 0) (heap_alloc_new w _)]
  match i, hi with
  | 0, _ => rfl
  | 1, _ => rfl
set_option maxHeartbeats 4000000 in
theorem rangeCmp_any (f b f2 b2 : Int) (h1 : rangeOkF f b = true) (h2 : rangeOkF f2 b2 = true) (w : World) :
    Calls Tryz.prog 25 #[.agg #[.int .i64 f, .int .i64 b], .agg #[.int .i64 f2, .int .i64 b2]] w fun e w' => e = .returned (.int .i64 (rcmpF f b f2 b2)) ∧ Below w.heap.size w w' := by
  have hk1 := fun W => rangeOk_any f b W
  have hk2 := fun W => rangeOk_any f2 b2 W
  rw [h1] at hk1
  rw [h2] at hk2
  obtain ⟨c1, hc1⟩ : ∃ c, cmpI f f2 = c := ⟨_, rfl⟩
  obtain ⟨c2, hc2⟩ : ∃ c, cmpI b b2 = c := ⟨_, rfl⟩
  have hp1 := fun W => compare_any f f2 W
  have hp2 := fun W => compare_any b b2 W
  rw [hc1] at hp1
  rw [hc2] at hp2
  obtain ⟨R, hR⟩ : ∃ R, rcmpF f b f2 b2 = R := ⟨_, rfl⟩
  have hor : ∀ (W W' : World), Drew (W.alloc (.cells #[.int .i64 c1, .int .i64 c2] 3)) W' → Calls Tryz.prog 45 #[.slice (some ⟨W.heap.size, 0, none⟩) 2 2] W' fun e w' => e = .returned (.int .i64 R) ∧ w' = W' := fun W W' hW => by
    have := or_any _ c1 c2 W' ((ints_two W c1 c2).drew hW)
    rw [← hc1, ← hc2, rcmpF_or, hR] at this
    exact this
  rw [hR]
  have HK1 := Lib.hid hk1
  have HK2 := Lib.hid hk2
  have HP1 := Lib.hid hp1
  have HP2 := Lib.hid hp2
  have HOR := Lib.hid hor
  clear h1 h2 hk1 hk2 hc1 hc2 hp1 hp2 hor hR
  go_enter Tryz.func25, Tryz.ntmps25
  go_wp2_with fail
  refine (HK1.out _).mono ?_
  rintro e w1 ⟨rfl, hb1⟩
  have B1 : Below w.heap.size w w1 := by refine Below.trans ?_ (hb1.mono (by first | exact Nat.le_refl _ | omega | (simp; done) | (simp; omega))); repeat (first | exact Below.refl _ _ | assumption | refine Below.drew ?_ | refine belowDrewN ?_ _ | refine Below.alloc ?_ (by first | exact Nat.le_refl _ | omega | (simp; done) | (simp; omega)) _ | refine Below.setCell ?_ (by first | exact Nat.le_refl _ | omega | (simp; done) | (simp; omega)) _)
  have k0 := (hb1.cell (p := ⟨w.heap.size, 0, none⟩) (by simp; omega))
  have k1 := (hb1.cell (p := ⟨w.heap.size, 1, none⟩) (by simp; omega))
  have k2 := (hb1.cell (p := ⟨w.heap.size + 1, 0, none⟩) (by simp))
  have k3 := (hb1.cell (p := ⟨w.heap.size + 1, 1, none⟩) (by simp))
  have z1 := hb1.size
  simp [go_sem] at k0 k1 k2 k3 z1
  clear hb1
  go_wp2_with fail
  refine (HK2.out _).mono ?_
  rintro e w2 ⟨rfl, hb2⟩
  have B2 := B1.trans (hb2.mono B1.size)
  have m0 := (hb2.cell (p := ⟨w.heap.size, 0, none⟩) (by simp; omega)).trans k0
  have m1 := (hb2.cell (p := ⟨w.heap.size, 1, none⟩) (by simp; omega)).trans k1
  have m2 := (hb2.cell (p := ⟨w.heap.size + 1, 0, none⟩) (by simp; omega)).trans k2
  have m3 := (hb2.cell (p := ⟨w.heap.size + 1, 1, none⟩) (by simp; omega)).trans k3
  have hs2 : w.heap.size + 1 < w2.heap.size := by have := hb2.size; omega
  have hs3 : w.heap.size < w2.heap.size := by omega
  clear hb2 k0 k1 k2 k3 z1 B1
  go_wp2_with fail
  go_region_held3 (fun w' => w'.cell? ⟨w.heap.size, 0, none⟩ = some (.int .i64 f) ∧ w'.cell? ⟨w.heap.size, 1, none⟩ = some (.int .i64 b) ∧ w'.cell? ⟨w.heap.size + 1, 0, none⟩ = some (.int .i64 f2) ∧ w'.cell? ⟨w.heap.size + 1, 1, none⟩ = some (.int .i64 b2)) ((simp [go_sem, *] <;> omega)) (first | (go_at_call_of 46 (Value.int IntKind.i64 f); refine (HP1.out _).mono ?_; rintro e w3 ⟨rfl, rfl⟩) | (go_at_call_of 46 (Value.int IntKind.i64 b); refine (HP2.out _).mono ?_; rintro e w3 ⟨rfl, rfl⟩) | (go_at_call 45; refine (HOR.out w2 _ (by first | exact Drew.refl _ | exact ⟨1, rfl⟩)).mono ?_; rintro e w4 ⟨rfl, rfl⟩))
  all_goals
    go_wp2_with fail
    go_ret
    exact ⟨rfl, by repeat (first | exact Below.refl _ _ | assumption | refine Below.drew ?_ | refine belowDrewN ?_ _ | refine Below.alloc ?_ (by first | exact Nat.le_refl _ | omega | (simp; done) | (simp; omega)) _ | refine Below.setCell ?_ (by first | exact Nat.le_refl _ | omega | (simp; done) | (simp; omega)) _)⟩
end Go.Proofs.YtlpibfafpljedaaGreatDoor

namespace Go.Proofs.YtlpibfafpljedaaGreatDoor
open Go.RowKit
set_option linter.unusedVariables false

theorem emod_beq (f S : Int) : (f % S == 0) = decide (f % S = 0) := rfl
set_option maxHeartbeats 2000000 in
theorem specRangeOk_any (f b : Int) (w : World) : Calls Tryz.prog 35 #[.agg #[.int .i64 f, .int .i64 b]] w fun e w' => e = .returned (.bool (rangeOkF f b)) ∧ Below w.heap.size w w' := by
  obtain ⟨c, hc⟩ : ∃ c, rangeOkF f b = c := ⟨_, rfl⟩
  rw [hc]
  obtain ⟨d1, hd1⟩ : ∃ d, (decide (0 ≤ b) && decide (b ≤ 8)) = d := ⟨_, rfl⟩
  obtain ⟨d2, hd2⟩ : ∃ d, (decide (0 ≤ f) && decide (f ≤ 255)) = d := ⟨_, rfl⟩
  have hi1 : ∀ W, Calls Tryz.prog 38 #[.int .i64 b, .int .i64 0, .int .i64 8] W fun e w' => e = .returned (.bool d1) ∧ Drew W w' := fun W => by
    rw [← hd1]; exact (in_any b 0 8 W).mono fun e w' ⟨h1, h2⟩ => ⟨h1, by rw [h2]; exact Drew.refl _⟩
  have hi2 : ∀ W, Calls Tryz.prog 38 #[.int .i64 f, .int .i64 0, .int .i64 255] W fun e w' => e = .returned (.bool d2) ∧ Drew W w' := fun W => by
    rw [← hd2]; exact (in_any f 0 255 W).mono fun e w' ⟨h1, h2⟩ => ⟨h1, by rw [h2]; exact Drew.refl _⟩
  unfold rangeOkF addrF at hc
  rw [hd1, hd2] at hc
  have HI1 := Lib.hid hi1
  have HI2 := Lib.hid hi2
  clear hi1 hi2
  cases d1
  · have : c = false := by rw [← hc]; simp
    subst this
    clear hc hd1 hd2
    go_enter Tryz.func35, Tryz.ntmps35
    go_wp2_with fail
    go_quiet ((go_at_call_of 38 (Value.int IntKind.i64 b); (first | refine quietA (HI1.out _) | refine quietB (HI1.out _))))
    go_wp2_with fail
    go_ret
    exact ⟨rfl, by repeat (first | exact Below.refl _ _ | assumption | refine Below.drew ?_ | refine belowDrewN ?_ _ | refine Below.alloc ?_ (by first | exact Nat.le_refl _ | omega | (simp; done) | (simp; omega)) _ | refine Below.setCell ?_ (by first | exact Nat.le_refl _ | omega | (simp; done) | (simp; omega)) _)⟩
  · cases d2
    · have : c = false := by rw [← hc]; simp
      subst this
      clear hc hd1 hd2
      go_enter Tryz.func35, Tryz.ntmps35
      go_wp2_with fail
      go_quiet ((first | (go_at_call_of 38 (Value.int IntKind.i64 b); (first | refine quietA (HI1.out _) | refine quietB (HI1.out _))) | (go_at_call_of 38 (Value.int IntKind.i64 f); (first | refine quietA (HI2.out _) | refine quietB (HI2.out _)))))
      go_wp2_with fail
      go_ret
      exact ⟨rfl, by repeat (first | exact Below.refl _ _ | assumption | refine Below.drew ?_ | refine belowDrewN ?_ _ | refine Below.alloc ?_ (by first | exact Nat.le_refl _ | omega | (simp; done) | (simp; omega)) _ | refine Below.setCell ?_ (by first | exact Nat.le_refl _ | omega | (simp; done) | (simp; omega)) _)⟩
    · have hb : 0 ≤ b ∧ b ≤ 8 := by simp at hd1; exact hd1
      have ha : 0 ≤ f ∧ f ≤ 255 := by simp at hd2; exact hd2
      have hp := sizeF_pos b
      have hl := sizeF_le b hb.1
      have hsz : ∀ W, Calls Tryz.prog 60 #[.int .i64 b] W fun e w' => e = .returned (.int .i64 (sizeF b)) ∧ Drew W w' := fun W => (l1Size_any b hb.1 hb.2 W).mono fun e w' ⟨h1, h2⟩ => ⟨h1, by rw [h2]; exact Drew.refl _⟩
      obtain ⟨S, hS⟩ : ∃ S, sizeF b = S := ⟨_, rfl⟩
      rw [hS] at hsz hp hl hc
      have hc2 : c = (f % S == 0) := by rw [← hc]; simp; rfl
      have HS := Lib.hid hsz
      have HC := Lib.hid hc2
      have hne : S ≠ 0 := by omega
      have htm : f.tmod S = f % S := Int.tmod_eq_emod_of_nonneg ha.1
      obtain ⟨a1, a2⟩ := ha
      clear hc hd1 hd2 hsz hS hc2 hb
      go_enter Tryz.func35, Tryz.ntmps35
      go_wp2_with fail
      go_quiet ((first | (go_at_call_of 38 (Value.int IntKind.i64 b); (first | refine quietA (HI1.out _) | refine quietB (HI1.out _))) | (go_at_call_of 38 (Value.int IntKind.i64 f); (first | refine quietA (HI2.out _) | refine quietB (HI2.out _))) | (go_at_call 60; (first | refine quietA (HS.out _) | refine quietB (HS.out _)))))
      go_wp2_with fail
      go_ret
      exact ⟨by rw [HC.out]; rfl, by repeat (first | exact Below.refl _ _ | assumption | refine Below.drew ?_ | refine belowDrewN ?_ _ | refine Below.alloc ?_ (by first | exact Nat.le_refl _ | omega | (simp; done) | (simp; omega)) _ | refine Below.setCell ?_ (by first | exact Nat.le_refl _ | omega | (simp; done) | (simp; omega)) _)⟩

theorem l1Cmp_any (f b f2 b2 : Int) (w : World) :
    Calls Tryz.prog 39 #[.agg #[.int .i64 f, .int .i64 b], .agg #[.int .i64 f2, .int .i64 b2]] w fun e w' => e = .returned (.int .i64 (rcmpF f b f2 b2)) ∧ Below w.heap.size w w' := by
  obtain ⟨c, hc⟩ : ∃ c, rcmpF f b f2 b2 = c := ⟨_, rfl⟩
  rw [hc]
  unfold rcmpF cmpI at hc
  by_cases h1 : f < f2
  · have : c = -1 := by rw [← hc]; simp [h1]
    subst this
    clear hc
    go_enter Tryz.func39, Tryz.ntmps39
    go_wp2_with fail
    go_ret
    exact ⟨rfl, by repeat (first | exact Below.refl _ _ | assumption | refine Below.drew ?_ | refine belowDrewN ?_ _ | refine Below.alloc ?_ (by first | exact Nat.le_refl _ | omega | (simp; done) | (simp; omega)) _ | refine Below.setCell ?_ (by first | exact Nat.le_refl _ | omega | (simp; done) | (simp; omega)) _)⟩
  · by_cases h2 : f2 < f
    · have : c = 1 := by rw [← hc]; simp [h1, h2]
      subst this
      clear hc
      go_enter Tryz.func39, Tryz.ntmps39
      go_wp2_with fail
      go_ret
      exact ⟨rfl, by repeat (first | exact Below.refl _ _ | assumption | refine Below.drew ?_ | refine belowDrewN ?_ _ | refine Below.alloc ?_ (by first | exact Nat.le_refl _ | omega | (simp; done) | (simp; omega)) _ | refine Below.setCell ?_ (by first | exact Nat.le_refl _ | omega | (simp; done) | (simp; omega)) _)⟩
    · by_cases h3 : b < b2
      · have : c = -1 := by rw [← hc]; simp [h1, h2, h3]
        subst this
        clear hc
        go_enter Tryz.func39, Tryz.ntmps39
        go_wp2_with fail
        go_ret
        exact ⟨rfl, by repeat (first | exact Below.refl _ _ | assumption | refine Below.drew ?_ | refine belowDrewN ?_ _ | refine Below.alloc ?_ (by first | exact Nat.le_refl _ | omega | (simp; done) | (simp; omega)) _ | refine Below.setCell ?_ (by first | exact Nat.le_refl _ | omega | (simp; done) | (simp; omega)) _)⟩
      · by_cases h4 : b2 < b
        · have : c = 1 := by rw [← hc]; simp [h1, h2, h3, h4]
          subst this
          clear hc
          go_enter Tryz.func39, Tryz.ntmps39
          go_wp2_with fail
          go_ret
          exact ⟨rfl, by repeat (first | exact Below.refl _ _ | assumption | refine Below.drew ?_ | refine belowDrewN ?_ _ | refine Below.alloc ?_ (by first | exact Nat.le_refl _ | omega | (simp; done) | (simp; omega)) _ | refine Below.setCell ?_ (by first | exact Nat.le_refl _ | omega | (simp; done) | (simp; omega)) _)⟩
        · have : c = 0 := by rw [← hc]; simp [h1, h2, h3, h4]
          subst this
          clear hc
          go_enter Tryz.func39, Tryz.ntmps39
          go_wp2_with fail
          go_ret
          exact ⟨rfl, by repeat (first | exact Below.refl _ _ | assumption | refine Below.drew ?_ | refine belowDrewN ?_ _ | refine Below.alloc ?_ (by first | exact Nat.le_refl _ | omega | (simp; done) | (simp; omega)) _ | refine Below.setCell ?_ (by first | exact Nat.le_refl _ | omega | (simp; done) | (simp; omega)) _)⟩

/-- whether an address is in a range -/
def hasF (f b x : Int) : Bool := decide (x / sizeF b = f / sizeF b)
end Go.Proofs.YtlpibfafpljedaaGreatDoor
