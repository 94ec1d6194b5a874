/- The walk of a law. -/
import Derived.Test.YtnecdeaikmhanaaGreatDoorPE0
import Derived.Test.YtnecdeaikmhanaaGreatDoorPE1
import Derived.Test.YtnecdeaikmhanaaGreatDoorPE2
import Derived.Test.YtnecdeaikmhanaaGreatDoorPE3
import Derived.Test.YtnecdeaikmhanaaGreatDoorPE4
import Derived.Test.YtnecdeaikmhanaaGreatDoorPE5
import Derived.Test.YtnecdeaikmhanaaGreatDoorPE6
import Derived.Test.YtnecdeaikmhanaaGreatDoorPE7
import Derived.Test.YtnecdeaikmhanaaGreatDoorPE8
import Derived.Test.YtnecdeaikmhanaaGreatDoorPE9
import Derived.Test.YtnecdeaikmhanaaGreatDoorPE10
import Derived.Test.YtnecdeaikmhanaaGreatDoorPE11
import Derived.Test.YtnecdeaikmhanaaGreatDoorPE12
import Derived.Test.YtnecdeaikmhanaaGreatDoorPE13
import Derived.Test.YtnecdeaikmhanaaGreatDoorPE14
import Derived.Test.YtnecdeaikmhanaaGreatDoorPE15
import Derived.Test.YtnecdeaikmhanaaGreatDoorPE16
import Derived.Test.YtnecdeaikmhanaaGreatDoorPE17
import Derived.Test.YtnecdeaikmhanaaGreatDoorPE18
import Derived.Test.YtnecdeaikmhanaaGreatDoorPE19
import Derived.Test.YtnecdeaikmhanaaGreatDoorPE20
namespace Go.Proofs.YtnecdeaikmhanaaGreatDoor
open Go.RowKit
set_option linter.unusedVariables false
set_option maxRecDepth 100000
theorem lines_len (l : Bs) (h : l.length ≤ 500) : (linesF l).length ≤ 100400 := by
  unfold linesF
  rw [if_neg (by omega)]
  have h1 := run_len (cutC 10 l).dropLast
  have h2 := cut_count 10 l
  have h3 := (decF_len (runF (cutC 10 l).dropLast).1.homes.length).2
  rw [List.length_dropLast] at h1
  simp only [List.length_append, List.length_singleton]
  omega
theorem byte_at {R : ByteArray} {o : Bs} {i : Nat} {b : UInt8} (hR : R = ⟨o.toArray⟩) (h : o[i]? = some b) (hi : i < R.size) : R[i]'hi = b := by
  subst hR
  have hi' : i < o.length := by rw [st_size] at hi; exact hi
  rw [List.getElem?_eq_getElem hi', Option.some.injEq] at h
  exact h
set_option maxHeartbeats 16000000 in
theorem fnLinesRun_walk (a : Option Addr) (len cap : Nat) (zs : List Int) (w : World) (h : IsRow .u8 w a len cap zs) (E : EnvOk w) :
    Calls Tryz.prog 3 #[.slice a len cap] w fun e w' => e = .returned (.bool true) ∧ Below w.heap.size w w' := by
  obtain ⟨hm, hc⟩ := h.bounds
  unfold maxLen at hc
  have H := Lib.hid h
  have HE := Lib.hid E
  clear h E
  go_enter Tryz.func3, Tryz.ntmps3
  by_cases hbig : 1048576 < len
  · go_wp2_with fail
    go_ret
    exact ⟨rfl, Below.refl _ _⟩
  · go_wp2_with fail
    refine (drawLinesRun_any _ _ _ zs _ H.out).mono ?_
    rintro e w1 ⟨l, rfl, hwh, hln, hb1⟩
    have E1 := Lib.hid (HE.out.next hb1)
    have HB1 := Lib.hid hb1
    have HWH := Lib.hid hwh
    have HLN := Lib.hid hln
    have himp := implLinesRun_any l w1 E1.out
    have hspc := fun W => specLinesRun_any l W
    obtain ⟨n, hn⟩ : ∃ n, l.length = n := ⟨_, rfl⟩
    have hTs : (⟨l.toArray⟩ : ByteArray).size = n := by rw [st_size, hn]
    obtain ⟨T, hT⟩ : ∃ T : ByteArray, (⟨l.toArray⟩ : ByteArray) = T := ⟨_, rfl⟩
    obtain ⟨R, hR⟩ : ∃ R : ByteArray, (⟨(linesF l).toArray⟩ : ByteArray) = R := ⟨_, rfl⟩
    unfold stV at himp hspc ⊢
    rw [hT, hR] at himp hspc
    rw [hT] at hTs ⊢
    have HIM := Lib.hid himp
    have HSP := Lib.hid hspc
    have HT := Lib.hid hT
    have HR := Lib.hid hR
    have HN := Lib.hid hn
    have n9 : n ≤ 900 := by omega
    clear hwh hln hb1 himp hspc hT hR hn
    go_wp2_with fail
    refine HIM.out.mono ?_
    rintro e w2 ⟨rfl, hb2⟩
    have E2 := Lib.hid (E1.out.next hb2)
    have HB2 : Hid (Below w.heap.size w w2) := Lib.hid (HB1.out.trans (hb2.mono HB1.out.size))
    clear hb2 HIM E1 HB1
    go_wp2_with fail
    refine (HSP.out _).mono ?_
    rintro e w3 ⟨rfl, hb3⟩
    have E3 := Lib.hid (E2.out.next hb3)
    have HB3 : Hid (Below w.heap.size w w3) := Lib.hid (HB2.out.trans (hb3.mono HB2.out.size))
    clear hb3 E2 HB2
    by_cases h5 : 500 < n
    · have hres : R = ⟨#[116, 111, 111, 32, 108, 111, 110, 103, 10]⟩ := by rw [← HR.out, lines_long (by rw [HN.out]; exact h5)]; rfl
      have hd : (500 : Int) < (n : Int) := by omega
      subst hres
      go_wp2_with fail
      go_ret
      exact ⟨rfl, HB3.out⟩
    · have hd : ¬ (500 : Int) < (n : Int) := by omega
      obtain ⟨o, d, ho, d1, d2⟩ := lines_end (l := l) (by rw [HN.out]; omega)
      obtain ⟨m, hm⟩ : ∃ m, o.length = m := ⟨_, rfl⟩
      have hsz : R.size = m + 2 := by rw [← HR.out, st_size, ho, List.length_append, hm]; rfl
      have hi1 : ∀ h, R[m + 1]'h = 10 := fun h => byte_at (o := o ++ [d, 10]) (by rw [← HR.out, ho]) (by rw [← hm, List.getElem?_append_right (by omega)]; simp) h
      have hi2 : ∀ h, R[m]'h = d := fun h => byte_at (o := o ++ [d, 10]) (by rw [← HR.out, ho]) (by rw [← hm, List.getElem?_append_right (by omega)]; simp) h
      have hml : m ≤ 1000000 := by
        have := lines_len l (by rw [HN.out]; omega)
        rw [ho, List.length_append] at this
        omega
      have hD1 : (48 : Int) ≤ (d.toNat : Int) := by omega
      have hD2 : (d.toNat : Int) ≤ 52 := by omega
      have ew1 : IntKind.i64.wrap ((m : Int) + 2 - 1) = ((m + 1 : Nat) : Int) := by rw [show (m : Int) + 2 - 1 = ((m + 1 : Nat) : Int) by omega]; exact IntWalk.i64_in _ (by omega)
      have ew2 : IntKind.i64.wrap ((m : Int) + 2 - 2) = (m : Int) := by rw [show (m : Int) + 2 - 2 = (m : Int) by omega]; exact IntWalk.i64_in _ (by omega)
      have hg : (2 : Int) ≤ (m : Int) + 2 := by omega
      clear ho hm d1 d2
      go_wp2_with fail
      go_ret
      exact ⟨rfl, HB3.out⟩
end Go.Proofs.YtnecdeaikmhanaaGreatDoor
