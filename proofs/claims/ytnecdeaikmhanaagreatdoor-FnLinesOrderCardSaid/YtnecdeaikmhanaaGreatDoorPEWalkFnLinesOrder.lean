/- The walk of a law. -/
import Derived.Test.YtnecdeaikmhanaaGreatDoorPE0
import Derived.Test.YtnecdeaikmhanaaGreatDoorPE1
import Derived.Test.YtnecdeaikmhanaaGreatDoorPE2
import Derived.Test.YtnecdeaikmhanaaGreatDoorPE3
import Derived.Test.YtnecdeaikmhanaaGreatDoorPE4
import Derived.Test.YtnecdeaikmhanaaGreatDoorPE5
import Derived.Test.YtnecdeaikmhanaaGreatDoorPE6
import Derived.Test.YtnecdeaikmhanaaGreatDoorPE7
import Derived.Test.YtnecdeaikmhanaaGreatDoorPE8
import Derived.Test.YtnecdeaikmhanaaGreatDoorPE9
import Derived.Test.YtnecdeaikmhanaaGreatDoorPE10
import Derived.Test.YtnecdeaikmhanaaGreatDoorPE11
import Derived.Test.YtnecdeaikmhanaaGreatDoorPE12
import Derived.Test.YtnecdeaikmhanaaGreatDoorPE13
import Derived.Test.YtnecdeaikmhanaaGreatDoorPE14
import Derived.Test.YtnecdeaikmhanaaGreatDoorPE15
import Derived.Test.YtnecdeaikmhanaaGreatDoorPE16
import Derived.Test.YtnecdeaikmhanaaGreatDoorPE17
import Derived.Test.YtnecdeaikmhanaaGreatDoorPE18
import Derived.Test.YtnecdeaikmhanaaGreatDoorPE19
import Derived.Test.YtnecdeaikmhanaaGreatDoorPE20
namespace Go.Proofs.YtnecdeaikmhanaaGreatDoor
open Go.RowKit
set_option linter.unusedVariables false
set_option maxRecDepth 100000
theorem run_is (a : Bs) (W : World) (EW : EnvOk W) : Calls Tryz.prog 13 #[.string ⟨a.toArray⟩] W fun e w' => e = .returned (.string ⟨(linesF a).toArray⟩) ∧ Below W.heap.size W w' := implLinesRun_any a W EW
set_option maxHeartbeats 16000000 in
theorem fnLinesOrder_walk (a : Option Addr) (len cap : Nat) (zs : List Int) (w : World) (h : IsRow .u8 w a len cap zs) (E : EnvOk w) :
    Calls Tryz.prog 10 #[.slice a len cap] w fun e w' => e = .returned (.bool true) ∧ Below w.heap.size w w' := by
  obtain ⟨hm, hc⟩ := h.bounds
  unfold maxLen at hc
  have H := Lib.hid h
  have HE := Lib.hid E
  clear h E
  go_enter Tryz.func10, Tryz.ntmps10
  by_cases hbig : 1048576 < len
  · go_wp2_with fail
    go_ret
    exact ⟨rfl, Below.refl _ _⟩
  · go_wp2_with fail
    refine (drawLinesRun_any _ _ _ zs _ H.out).mono ?_
    rintro e w1 ⟨l, rfl, hwh, hln, hb1⟩
    have E1 := Lib.hid (HE.out.next hb1)
    have HB1 := Lib.hid hb1
    have HWH := Lib.hid hwh
    have HLN := Lib.hid hln
    have himp := implLinesRun_any l w1 E1.out
    have hspc := fun W => specLinesRun_any l W
    obtain ⟨n, hn⟩ : ∃ n, l.length = n := ⟨_, rfl⟩
    have hTs : (⟨l.toArray⟩ : ByteArray).size = n := by rw [st_size, hn]
    obtain ⟨T, hT⟩ : ∃ T : ByteArray, (⟨l.toArray⟩ : ByteArray) = T := ⟨_, rfl⟩
    obtain ⟨R, hR⟩ : ∃ R : ByteArray, (⟨(linesF l).toArray⟩ : ByteArray) = R := ⟨_, rfl⟩
    unfold stV at himp hspc ⊢
    rw [hT, hR] at himp hspc
    rw [hT] at hTs ⊢
    have HIM := Lib.hid himp
    have HSP := Lib.hid hspc
    have HT := Lib.hid hT
    have HR := Lib.hid hR
    have HN := Lib.hid hn
    have n9 : n ≤ 900 := by omega
    clear hwh hln hb1 himp hspc hT hR hn
    go_wp2_with fail
    refine HIM.out.mono ?_
    rintro e w2 ⟨rfl, hb2⟩
    have E2 := Lib.hid (E1.out.next hb2)
    have HB2 : Hid (Below w.heap.size w w2) := Lib.hid (HB1.out.trans (hb2.mono HB1.out.size))
    clear hb2 HIM E1 HB1
    go_wp2_with fail
    refine (HSP.out _).mono ?_
    rintro e w3 ⟨rfl, hb3⟩
    have E3 := Lib.hid (E2.out.next hb3)
    have HB3 : Hid (Below w.heap.size w w3) := Lib.hid (HB2.out.trans (hb3.mono HB2.out.size))
    clear hb3 E2 HB2
    by_cases h5 : 440 < n
    · have hd : (440 : Int) < (n : Int) := by omega
      go_wp2_with fail
      refine (HSP.out _).mono ?_
      rintro e w4 ⟨rfl, hb4⟩
      have B4 := Lib.hid hb4
      clear hb4
      go_wp2_with fail
      go_ret
      exact ⟨rfl, HB3.out.trans (B4.out.mono HB3.out.size)⟩
    · have hd : ¬ (440 : Int) < (n : Int) := by omega
      have hl4 : l.length ≤ 440 := by rw [HN.out]; omega
      have hord := lines_order HWH.out hl4
      have c1 := fun W (hW : Below w3.heap.size w3 W) => run_is (l ++ tA ++ tB) W (E3.out.next hW)
      have c2 := fun W (hW : Below w3.heap.size w3 W) => run_is (l ++ tA ++ tB ++ tE) W (E3.out.next hW)
      have c3 := fun W (hW : Below w3.heap.size w3 W) => run_is (l ++ tB ++ tA ++ tE) W (E3.out.next hW)
      have e1 := add_is l tA (by simp [tA]; omega)
      have e2 := add_is (l ++ tA) tB (by simp [tA, tB]; omega)
      have e3 := add_is (l ++ tA ++ tB) tE (by simp [tA, tB, tE]; omega)
      have e4 := add_is l tB (by simp [tB]; omega)
      have e5 := add_is (l ++ tB) tA (by simp [tA, tB]; omega)
      have e6 := add_is (l ++ tB ++ tA) tE (by simp [tA, tB, tE]; omega)
      obtain ⟨z1, hz1⟩ : ∃ z, (linesF (l ++ tA ++ tB)).length = z := ⟨_, rfl⟩
      obtain ⟨z0, hz0⟩ : ∃ z, (linesF l).length = z := ⟨_, rfl⟩
      have hRs : R.size = z0 := by rw [← HR.out, st_size, hz0]
      have hQs : (⟨(linesF (l ++ tA ++ tB)).toArray⟩ : ByteArray).size = z1 := by rw [st_size, hz1]
      rw [hz1, hz0] at hord
      obtain ⟨S1, hS1⟩ : ∃ S : ByteArray, ⟨(l ++ tA).toArray⟩ = S := ⟨_, rfl⟩
      obtain ⟨S2, hS2⟩ : ∃ S : ByteArray, ⟨(l ++ tA ++ tB).toArray⟩ = S := ⟨_, rfl⟩
      obtain ⟨S3, hS3⟩ : ∃ S : ByteArray, ⟨(l ++ tA ++ tB ++ tE).toArray⟩ = S := ⟨_, rfl⟩
      obtain ⟨S4, hS4⟩ : ∃ S : ByteArray, ⟨(l ++ tB).toArray⟩ = S := ⟨_, rfl⟩
      obtain ⟨S5, hS5⟩ : ∃ S : ByteArray, ⟨(l ++ tB ++ tA).toArray⟩ = S := ⟨_, rfl⟩
      obtain ⟨S6, hS6⟩ : ∃ S : ByteArray, ⟨(l ++ tB ++ tA ++ tE).toArray⟩ = S := ⟨_, rfl⟩
      obtain ⟨Q1, hQ1⟩ : ∃ S : ByteArray, ⟨(linesF (l ++ tA ++ tB)).toArray⟩ = S := ⟨_, rfl⟩
      rw [HT.out, hS1] at e1
      rw [hS1, hS2] at e2
      rw [hS2, hS3] at e3
      rw [HT.out, hS4] at e4
      rw [hS4, hS5] at e5
      rw [hS5, hS6] at e6
      rw [hS2, hQ1] at c1
      rw [hS3] at c2
      rw [hS6] at c3
      rw [hQ1] at hQs
      rw [show (⟨tA.toArray⟩ : ByteArray) = ⟨#[104, 111, 109, 101, 32, 49, 54, 47, 53, 32, 49, 10]⟩ from rfl] at e1 e5
      rw [show (⟨tB.toArray⟩ : ByteArray) = ⟨#[104, 111, 109, 101, 32, 51, 50, 47, 53, 32, 50, 10]⟩ from rfl] at e2 e4
      rw [show (⟨tE.toArray⟩ : ByteArray) = ⟨#[115, 101, 110, 100, 32, 49, 32, 49, 55, 10, 115, 101, 110, 100, 32, 49, 32, 51, 51, 10]⟩ from rfl] at e3 e6
      have C1 := Lib.hid c1
      have C2 := Lib.hid c2
      have C3 := Lib.hid c3
      have HOR := Lib.hid hord
      clear c1 c2 c3 hS1 hS2 hS3 hS4 hS5 hS6 hQ1 hord hl4 hz1 hz0
      by_cases hzz : z1 = z0
      · subst hzz
        have HO := Lib.hid (HOR.out rfl)
        have C2' := C2.out
        rw [HO.out] at C2'
        obtain ⟨Q, hQ⟩ : ∃ S : ByteArray, ⟨(linesF (l ++ tB ++ tA ++ tE)).toArray⟩ = S := ⟨_, rfl⟩
        have C3' := C3.out
        rw [hQ] at C2' C3'
        have D2 := Lib.hid C2'
        have D3 := Lib.hid C3'
        clear C2' C3' hQ
        go_wp2_with fail
        refine (C1.out _ (Below.refl _ _)).mono ?_
        rintro e x1 ⟨rfl, hb⟩
        have B1 := Lib.hid hb
        clear hb
        go_wp2_with fail
        refine (D2.out _ B1.out).mono ?_
        rintro e x2 ⟨rfl, hb⟩
        have B2 : Hid (Below w3.heap.size w3 x2) := Lib.hid (B1.out.trans (hb.mono B1.out.size))
        clear hb
        go_wp2_with fail
        refine (D3.out _ B2.out).mono ?_
        rintro e x3 ⟨rfl, hb⟩
        have B3 : Hid (Below w3.heap.size w3 x3) := Lib.hid (B2.out.trans (hb.mono B2.out.size))
        clear hb
        go_wp2_with fail
        go_ret
        exact ⟨rfl, HB3.out.trans (B3.out.mono HB3.out.size)⟩
      · have hne : ((z1 : Int) == (z0 : Int)) = false := by rw [beq_eq_false_iff_ne]; omega
        have hne2 : ¬ (z1 : Int) = (z0 : Int) := by omega
        go_wp2_with fail
        refine (C1.out _ (Below.refl _ _)).mono ?_
        rintro e x1 ⟨rfl, hb⟩
        have B1 := Lib.hid hb
        clear hb
        go_wp2_with fail
        go_ret
        exact ⟨rfl, HB3.out.trans (B1.out.mono HB3.out.size)⟩
end Go.Proofs.YtnecdeaikmhanaaGreatDoor
