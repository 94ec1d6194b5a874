/- The walk of FnExactDampPlay. -/
import Derived.Test.YtbjonkjigfnnnaaInts
import Derived.Test.YtbjonkjigfnnnaaDampPlaySpec
import Derived.Test.YtbjonkjigfnnnaaDampExactNow
namespace Go.Proofs.Ytbjonkjigfnnnaa
open Go.RowKit
set_option linter.unusedVariables false

set_option maxHeartbeats 2000000 in
theorem exactPlay_walk (a : Option Addr) (len cap : Nat) (zs : List Int) (w : World) (h : IsRow .i64 w a len cap zs) :
    Calls Try.prog 12 #[.slice a len cap] w fun e w' => e = .returned (.bool true) ∧ Below w.heap.size w w' := by
  by_cases hl : 1048576 < len
  · clear h
    go_enter Try.func12, Try.ntmps12
    go_wp2
    go_ret
    exact ⟨rfl, Below.refl _ _⟩
  · have hlen : (zs.take len).length = len := by
      rcases h with ⟨_, rfl, _, _⟩ | ⟨x, _, h1, h2, h3, _⟩
      · simp
      · simp; omega
    have HT : Hid (∀ w', Below w.heap.size w w' → Calls Try.prog 33 #[.slice a len cap] w' (CopyPost (zs.take len) w')) := fun w' hb => toIntS_any a len cap zs w' (by omega) (h.below hb)
    clear h
    generalize zs.take len = l at hlen HT
    have hl6 : l.length ≤ 1048576 := by omega
    have HL := Lib.hid hlen
    clear hlen
    have hs := fun (v : Value) (B : Nat) (w : World) (hown : w.ownsRow B 3 1 v l.length (l.map (Value.int .i64))) => specPlay_owned w hown
    have hi := fun (v : Value) (B : Nat) (w : World) (hown : w.ownsRow B 3 1 v l.length (l.map (Value.int .i64))) => implPlay_owned w hown
    generalize playD l = D at hs hi
    obtain ⟨⟨P, T, O⟩, ok⟩ := D
    have HS := Lib.hid hs
    have HI := Lib.hid hi
    clear hs hi
    go_enter Try.func12, Try.ntmps12
    go_wp2_with fail
    refine (HT.out _ (Below.refl _ _)).mono ?_
    rintro e wa ⟨rfl, ownA, hb1⟩
    have hB1 : Below w.heap.size w wa := (by refine Below.trans ?_ (hb1.mono (by first | exact Nat.le_refl _ | omega | (simp; done) | (simp; omega))); repeat (first | exact Below.refl _ _ | assumption | refine Below.drew ?_ | refine belowDrewN ?_ _ | refine Below.alloc ?_ (by first | exact Nat.le_refl _ | omega | (simp; done) | (simp; omega)) _ | refine Below.setCell ?_ (by first | exact Nat.le_refl _ | omega | (simp; done) | (simp; omega)) _)); have hzwa := hB1.size
    go_wp2_with fail
    refine (HS.out _ _ _ ownA).mono ?_
    rintro e wb ⟨rfl, hb1⟩
    have hB1 : Below w.heap.size w wb := (by refine Below.trans ?_ (hb1.mono (by first | exact Nat.le_refl _ | omega | (simp; done) | (simp; omega))); repeat (first | exact Below.refl _ _ | assumption | refine Below.drew ?_ | refine belowDrewN ?_ _ | refine Below.alloc ?_ (by first | exact Nat.le_refl _ | omega | (simp; done) | (simp; omega)) _ | refine Below.setCell ?_ (by first | exact Nat.le_refl _ | omega | (simp; done) | (simp; omega)) _)); have hzwb := hB1.size
    simp only at *
    have XS := Box3.new wb (.int .i64 P) (.int .i64 T) (.bool O) 25
    have hB2 : Below w.heap.size w (wb.alloc (.cells #[.int .i64 P, .int .i64 T, .bool O] 25)) := by repeat (first | exact Below.refl _ _ | assumption | refine Below.drew ?_ | refine belowDrewN ?_ _ | refine Below.alloc ?_ (by first | exact Nat.le_refl _ | omega | (simp; done) | (simp; omega)) _ | refine Below.setCell ?_ (by first | exact Nat.le_refl _ | omega | (simp; done) | (simp; omega)) _)
    go_wp2_with fail
    refine (HT.out _ hB2).mono ?_
    rintro e wc ⟨rfl, ownC, hb1⟩
    have hB1 : Below w.heap.size w wc := (by refine Below.trans ?_ (hb1.mono (by first | exact Nat.le_refl _ | omega | (simp; done) | (simp; omega))); repeat (first | exact Below.refl _ _ | assumption | refine Below.drew ?_ | refine belowDrewN ?_ _ | refine Below.alloc ?_ (by first | exact Nat.le_refl _ | omega | (simp; done) | (simp; omega)) _ | refine Below.setCell ?_ (by first | exact Nat.le_refl _ | omega | (simp; done) | (simp; omega)) _)); have hzwc := hB1.size; have XS := Box3.below (by first | exact XS | exact XS.alloc _) hb1 (by first | exact XS.size | (have := XS.size; simp; omega)); have XS_0 := XS.c0; have XS_1 := XS.c1; have XS_2 := XS.c2; have XS_s := XS.size
    simp only [World.size_alloc] at ownC
    go_wp2_with fail
    refine (HI.out _ _ _ ownC).mono ?_
    rintro e wd ⟨rfl, hb1⟩
    have ownD := owns_below ownC hb1
    have hB1 : Below w.heap.size w wd := (by refine Below.trans ?_ (hb1.mono (by first | exact Nat.le_refl _ | omega | (simp; done) | (simp; omega))); repeat (first | exact Below.refl _ _ | assumption | refine Below.drew ?_ | refine belowDrewN ?_ _ | refine Below.alloc ?_ (by first | exact Nat.le_refl _ | omega | (simp; done) | (simp; omega)) _ | refine Below.setCell ?_ (by first | exact Nat.le_refl _ | omega | (simp; done) | (simp; omega)) _)); have hzwd := hB1.size; have XS := Box3.below (by first | exact XS | exact XS.alloc _) hb1 (by first | exact XS.size | (have := XS.size; simp; omega)); have XS_0 := XS.c0; have XS_1 := XS.c1; have XS_2 := XS.c2; have XS_s := XS.size
    have XI := Box3.new wd (.int .i64 P) (.int .i64 T) (.bool O) 25
    have ownD2 := ownD.alloc (.cells #[.int .i64 P, .int .i64 T, .bool O] 25)
    go_wp2_with fail
    refine (eqDamp_any _ _ _ _).mono ?_
    rintro e we ⟨rfl, hb1⟩
    have ownE := owns_below ownD2 hb1
    have hB1 : Below w.heap.size w we := (by refine Below.trans ?_ (hb1.mono (by first | exact Nat.le_refl _ | omega | (simp; done) | (simp; omega))); repeat (first | exact Below.refl _ _ | assumption | refine Below.drew ?_ | refine belowDrewN ?_ _ | refine Below.alloc ?_ (by first | exact Nat.le_refl _ | omega | (simp; done) | (simp; omega)) _ | refine Below.setCell ?_ (by first | exact Nat.le_refl _ | omega | (simp; done) | (simp; omega)) _)); have hzwe := hB1.size; have XS := Box3.below (by first | exact XS | exact XS.alloc _) hb1 (by first | exact XS.size | (have := XS.size; simp; omega)); have XS_0 := XS.c0; have XS_1 := XS.c1; have XS_2 := XS.c2; have XS_s := XS.size; have XI := Box3.below (by first | exact XI | exact XI.alloc _) hb1 (by first | exact XI.size | (have := XI.size; simp; omega)); have XI_0 := XI.c0; have XI_1 := XI.c1; have XI_2 := XI.c2; have XI_s := XI.size
    go_wp2_with fail
    refine (HT.out _ hB1).mono ?_
    rintro e wf ⟨rfl, ownF, hb1⟩
    have ownE2 := owns_below ownE hb1
    have hB1 : Below w.heap.size w wf := (by refine Below.trans ?_ (hb1.mono (by first | exact Nat.le_refl _ | omega | (simp; done) | (simp; omega))); repeat (first | exact Below.refl _ _ | assumption | refine Below.drew ?_ | refine belowDrewN ?_ _ | refine Below.alloc ?_ (by first | exact Nat.le_refl _ | omega | (simp; done) | (simp; omega)) _ | refine Below.setCell ?_ (by first | exact Nat.le_refl _ | omega | (simp; done) | (simp; omega)) _)); have hzwf := hB1.size; have XS := Box3.below (by first | exact XS | exact XS.alloc _) hb1 (by first | exact XS.size | (have := XS.size; simp; omega)); have XS_0 := XS.c0; have XS_1 := XS.c1; have XS_2 := XS.c2; have XS_s := XS.size; have XI := Box3.below (by first | exact XI | exact XI.alloc _) hb1 (by first | exact XI.size | (have := XI.size; simp; omega)); have XI_0 := XI.c0; have XI_1 := XI.c1; have XI_2 := XI.c2; have XI_s := XI.size
    go_wp2_with fail
    refine (eqIntS_same _ _ 0 0 _ _ l _ hl6 (owns_cells ownE2) (owns_cells ownF)).mono ?_
    rintro e wg ⟨rfl, hb1⟩
    have hB1 : Below w.heap.size w wg := (by refine Below.trans ?_ (hb1.mono (by first | exact Nat.le_refl _ | omega | (simp; done) | (simp; omega))); repeat (first | exact Below.refl _ _ | assumption | refine Below.drew ?_ | refine belowDrewN ?_ _ | refine Below.alloc ?_ (by first | exact Nat.le_refl _ | omega | (simp; done) | (simp; omega)) _ | refine Below.setCell ?_ (by first | exact Nat.le_refl _ | omega | (simp; done) | (simp; omega)) _)); have hzwg := hB1.size; have XS := Box3.below (by first | exact XS | exact XS.alloc _) hb1 (by first | exact XS.size | (have := XS.size; simp; omega)); have XS_0 := XS.c0; have XS_1 := XS.c1; have XS_2 := XS.c2; have XS_s := XS.size; have XI := Box3.below (by first | exact XI | exact XI.alloc _) hb1 (by first | exact XI.size | (have := XI.size; simp; omega)); have XI_0 := XI.c0; have XI_1 := XI.c1; have XI_2 := XI.c2; have XI_s := XI.size
    go_wp2_with fail
    go_ret
    exact ⟨rfl, by repeat (first | exact Below.refl _ _ | assumption | refine Below.drew ?_ | refine belowDrewN ?_ _ | refine Below.alloc ?_ (by first | exact Nat.le_refl _ | omega | (simp; done) | (simp; omega)) _ | refine Below.setCell ?_ (by first | exact Nat.le_refl _ | omega | (simp; done) | (simp; omega)) _)⟩
end Go.Proofs.Ytbjonkjigfnnnaa
