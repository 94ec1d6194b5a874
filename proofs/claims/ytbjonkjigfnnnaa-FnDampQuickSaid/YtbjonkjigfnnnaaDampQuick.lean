/- The walk of FnDampQuick. -/
import Derived.Test.YtbjonkjigfnnnaaDampDrawPlay
import Derived.Test.YtbjonkjigfnnnaaDampPlayFacts
import Derived.Test.YtbjonkjigfnnnaaInts
namespace Go.Proofs.Ytbjonkjigfnnnaa
open Go.RowKit
set_option linter.unusedVariables false

theorem two_owned (n : Nat) (h : n < 90) (w : World) (g : Nat) (hg : g = w.heap.size) :
    Calls Try.prog 34 #[.slice (some ⟨g, 0, none⟩) 2 2] (w.alloc (.cells #[.int .i64 (n : Int), .int .i64 (n : Int)] 3)) (NowPost 200 (8 * ((n / 8 : Nat) : Int)) false true (w.alloc (.cells #[.int .i64 (n : Int), .int .i64 (n : Int)] 3))) := by
  subst hg
  have := implPlay_owned (l := [(n : Int), n]) _ (World.ownsRow_lit (base := 0) (e := 3) (size := 1) w #[.int .i64 (n : Int), .int .i64 (n : Int)] 2 (Nat.zero_le _) (by simp [maxLen]) rfl)
  rwa [quick_two n h] at this
theorem three_owned (n : Nat) (h : n < 90) (w : World) (g : Nat) (hg : g = w.heap.size) :
    Calls Try.prog 34 #[.slice (some ⟨g, 0, none⟩) 3 3] (w.alloc (.cells #[.int .i64 (n : Int), .int .i64 (n : Int), .int .i64 (n : Int)] 3)) (NowPost 300 (8 * ((n / 8 : Nat) : Int)) true true (w.alloc (.cells #[.int .i64 (n : Int), .int .i64 (n : Int), .int .i64 (n : Int)] 3))) := by
  subst hg
  have := implPlay_owned (l := [(n : Int), n, n]) _ (World.ownsRow_lit (base := 0) (e := 3) (size := 1) w #[.int .i64 (n : Int), .int .i64 (n : Int), .int .i64 (n : Int)] 3 (Nat.zero_le _) (by simp [maxLen]) rfl)
  rwa [quick_three n h] at this

set_option maxHeartbeats 4000000 in
theorem quick_walk (a : Option Addr) (len cap : Nat) (zs : List Int) (a2 : Option Addr) (len2 cap2 : Nat) (zs2 : List Int) (w : World) (h : IsRow .u8 w a len cap zs) (h2 : IsRow .u8 w a2 len2 cap2 zs2) :
    Calls Try.prog 16 #[.slice a len cap, .slice a2 len2 cap2] w fun e w' => e = .returned (.bool true) ∧ Below w.heap.size w w' := by
  have H := Lib.hid h
  clear h h2
  by_cases hl : 1048576 < len
  · go_enter Try.func16, Try.ntmps16
    go_wp2
    go_ret
    exact ⟨rfl, Below.refl _ _⟩
  · by_cases hl2 : 1048576 < len2
    · go_enter Try.func16, Try.ntmps16
      go_wp2
      go_ret
      exact ⟨rfl, Below.refl _ _⟩
    · obtain ⟨n, hn⟩ : ∃ n, len2 % 90 = n := ⟨_, rfl⟩
      have hn90 : n < 90 := by omega
      have hmod : Int.tmod (len2 : Int) 90 = (n : Int) := by rw [Int.tmod_eq_emod_of_nonneg (by omega)]; omega
      have H2 := Lib.hid (two_owned n hn90)
      have H3 := Lib.hid (three_owned n hn90)
      generalize 8 * ((n / 8 : Nat) : Int) = T0 at H2 H3
      clear hn
      go_enter Try.func16, Try.ntmps16
      go_wp2_with fail
      refine (drawPlay_any _ _ _ zs _ H.out).mono ?_
      rintro e wd ⟨v, l, rfl, own, hl7, hB1⟩
      have hzd := hB1.size
      have hs := fun (B : Nat) (w : World) (hown : w.ownsRow B 3 1 v l.length (l.map (Value.int .i64))) => specPlay_owned w hown
      have hi := fun (B : Nat) (w : World) (hown : w.ownsRow B 3 1 v l.length (l.map (Value.int .i64))) => implPlay_owned w hown
      generalize playD l = D at hs hi
      obtain ⟨⟨P, T, O⟩, ok⟩ := D
      have HS := Lib.hid hs
      have HI := Lib.hid hi
      clear hs hi
      go_wp2_with fail
      refine (HS.out _ _ own).mono ?_
      rintro e ws ⟨rfl, hb1⟩
      have own1 := (owns_below own hb1).alloc (.cells #[.int .i64 P, .int .i64 T, .bool O] 25)
      have hB1 : Below w.heap.size w ws := (by refine Below.trans ?_ (hb1.mono (by first | exact Nat.le_refl _ | omega | (simp; done) | (simp; omega))); repeat (first | exact Below.refl _ _ | assumption | refine Below.drew ?_ | refine belowDrewN ?_ _ | refine Below.alloc ?_ (by first | exact Nat.le_refl _ | omega | (simp; done) | (simp; omega)) _ | refine Below.setCell ?_ (by first | exact Nat.le_refl _ | omega | (simp; done) | (simp; omega)) _)); have hzws := hB1.size
      simp only at *
      have XS := Box3.new ws (.int .i64 P) (.int .i64 T) (.bool O) 25
      go_wp2_with fail
      refine (HI.out _ _ own1).mono ?_
      rintro e wi ⟨rfl, hb1⟩
      have hB1 : Below w.heap.size w wi := (by refine Below.trans ?_ (hb1.mono (by first | exact Nat.le_refl _ | omega | (simp; done) | (simp; omega))); repeat (first | exact Below.refl _ _ | assumption | refine Below.drew ?_ | refine belowDrewN ?_ _ | refine Below.alloc ?_ (by first | exact Nat.le_refl _ | omega | (simp; done) | (simp; omega)) _ | refine Below.setCell ?_ (by first | exact Nat.le_refl _ | omega | (simp; done) | (simp; omega)) _)); have hzwi := hB1.size; have XS := Box3.below (by first | exact XS | exact XS.alloc _) hb1 (by first | exact XS.size | (have := XS.size; simp; omega)); have XS_0 := XS.c0; have XS_1 := XS.c1; have XS_2 := XS.c2; have XS_s := XS.size
      have XI := Box3.new wi (.int .i64 P) (.int .i64 T) (.bool O) 25
      clear own own1
      go_wp2_with fail
      refine (H2.out _ _ (by first | rfl | (simp; done) | (simp; omega))).mono ?_
      rintro e wx ⟨rfl, hb1⟩
      have hXS := XS
      have hB1 : Below w.heap.size w wx := (by refine Below.trans ?_ (hb1.mono (by first | exact Nat.le_refl _ | omega | (simp; done) | (simp; omega))); repeat (first | exact Below.refl _ _ | assumption | refine Below.drew ?_ | refine belowDrewN ?_ _ | refine Below.alloc ?_ (by first | exact Nat.le_refl _ | omega | (simp; done) | (simp; omega)) _ | refine Below.setCell ?_ (by first | exact Nat.le_refl _ | omega | (simp; done) | (simp; omega)) _)); have hzwx := hB1.size
      have X2 := Box3.new wx (.int .i64 200) (.int .i64 T0) (.bool false) 25
      go_wp2_with fail
      refine (H3.out _ _ (by first | rfl | (simp; done) | (simp; omega))).mono ?_
      rintro e wy ⟨rfl, hb1⟩
      have hB1 : Below w.heap.size w wy := (by refine Below.trans ?_ (hb1.mono (by first | exact Nat.le_refl _ | omega | (simp; done) | (simp; omega))); repeat (first | exact Below.refl _ _ | assumption | refine Below.drew ?_ | refine belowDrewN ?_ _ | refine Below.alloc ?_ (by first | exact Nat.le_refl _ | omega | (simp; done) | (simp; omega)) _ | refine Below.setCell ?_ (by first | exact Nat.le_refl _ | omega | (simp; done) | (simp; omega)) _)); have hzwy := hB1.size; have X2 := Box3.below (by first | exact X2 | exact X2.alloc _) hb1 (by first | exact X2.size | (have := X2.size; simp; omega)); have X2_0 := X2.c0; have X2_1 := X2.c1; have X2_2 := X2.c2; have X2_s := X2.size
      have X3 := Box3.new wy (.int .i64 300) (.int .i64 T0) (.bool true) 25
      go_wp2_with fail
      go_ret
      exact ⟨rfl, by repeat (first | exact Below.refl _ _ | assumption | refine Below.drew ?_ | refine belowDrewN ?_ _ | refine Below.alloc ?_ (by first | exact Nat.le_refl _ | omega | (simp; done) | (simp; omega)) _ | refine Below.setCell ?_ (by first | exact Nat.le_refl _ | omega | (simp; done) | (simp; omega)) _)⟩
end Go.Proofs.Ytbjonkjigfnnnaa
