/- The walk of a law. -/
import Derived.Test.YtnecdeaikmhanaaGreatDoorPE0
import Derived.Test.YtnecdeaikmhanaaGreatDoorPE1
import Derived.Test.YtnecdeaikmhanaaGreatDoorPE2
import Derived.Test.YtnecdeaikmhanaaGreatDoorPE3
import Derived.Test.YtnecdeaikmhanaaGreatDoorPE4
import Derived.Test.YtnecdeaikmhanaaGreatDoorPE5
import Derived.Test.YtnecdeaikmhanaaGreatDoorPE6
import Derived.Test.YtnecdeaikmhanaaGreatDoorPE7
import Derived.Test.YtnecdeaikmhanaaGreatDoorPE8
import Derived.Test.YtnecdeaikmhanaaGreatDoorPE9
import Derived.Test.YtnecdeaikmhanaaGreatDoorPE10
import Derived.Test.YtnecdeaikmhanaaGreatDoorPE11
import Derived.Test.YtnecdeaikmhanaaGreatDoorPE12
import Derived.Test.YtnecdeaikmhanaaGreatDoorPE13
import Derived.Test.YtnecdeaikmhanaaGreatDoorPE14
import Derived.Test.YtnecdeaikmhanaaGreatDoorPE15
import Derived.Test.YtnecdeaikmhanaaGreatDoorPE16
import Derived.Test.YtnecdeaikmhanaaGreatDoorPE17
import Derived.Test.YtnecdeaikmhanaaGreatDoorPE18
import Derived.Test.YtnecdeaikmhanaaGreatDoorPE19
import Derived.Test.YtnecdeaikmhanaaGreatDoorPE20
namespace Go.Proofs.YtnecdeaikmhanaaGreatDoor
open Go.RowKit
set_option linter.unusedVariables false
set_option maxRecDepth 100000
theorem free_1 : linesF [115, 101, 108, 108, 115, 32, 49, 32, 50, 10, 115, 101, 108, 108, 115, 32, 50, 32, 51, 10, 102, 114, 101, 101, 10] = [51, 45, 50, 45, 49, 45, 52, 10, 48, 10] := by decide +kernel
theorem free_2 : linesF [115, 101, 108, 108, 115, 32, 49, 32, 50, 10, 115, 101, 108, 108, 115, 32, 50, 32, 51, 10, 115, 101, 108, 108, 115, 32, 51, 32, 49, 10, 102, 114, 101, 101, 10, 112, 97, 114, 116, 115, 32, 49, 32, 50, 10, 102, 114, 101, 101, 10] = [110, 111, 10, 49, 45, 51, 45, 50, 45, 52, 10, 48, 10] := by decide +kernel
theorem free_3 : linesF [102, 114, 101, 101, 10] = [49, 45, 50, 45, 51, 45, 52, 10, 48, 10] := by decide +kernel
theorem run_lit (a r : Bs) (h : linesF a = r) (W : World) (EW : EnvOk W) : Calls Tryz.prog 13 #[.string ⟨a.toArray⟩] W fun e w' => e = .returned (.string ⟨r.toArray⟩) ∧ Below W.heap.size W w' := by
  subst h; exact implLinesRun_any a W EW
set_option maxHeartbeats 16000000 in
theorem fnLinesFree_walk (a : Option Addr) (len cap : Nat) (zs : List Int) (w : World) (h : IsRow .u8 w a len cap zs) (E : EnvOk w) :
    Calls Tryz.prog 7 #[.slice a len cap] w fun e w' => e = .returned (.bool true) ∧ Below w.heap.size w w' := by
  obtain ⟨hm, hc⟩ := h.bounds
  unfold maxLen at hc
  have H := Lib.hid h
  have HE := Lib.hid E
  clear h E
  go_enter Tryz.func7, Tryz.ntmps7
  by_cases hbig : 1048576 < len
  · go_wp2_with fail
    go_ret
    exact ⟨rfl, Below.refl _ _⟩
  · go_wp2_with fail
    refine (drawLinesRun_any _ _ _ zs _ H.out).mono ?_
    rintro e w1 ⟨l, rfl, hwh, hln, hb1⟩
    have E1 := Lib.hid (HE.out.next hb1)
    have HB1 := Lib.hid hb1
    have HWH := Lib.hid hwh
    have HLN := Lib.hid hln
    have himp := implLinesRun_any l w1 E1.out
    have hspc := fun W => specLinesRun_any l W
    obtain ⟨n, hn⟩ : ∃ n, l.length = n := ⟨_, rfl⟩
    have hTs : (⟨l.toArray⟩ : ByteArray).size = n := by rw [st_size, hn]
    obtain ⟨T, hT⟩ : ∃ T : ByteArray, (⟨l.toArray⟩ : ByteArray) = T := ⟨_, rfl⟩
    obtain ⟨R, hR⟩ : ∃ R : ByteArray, (⟨(linesF l).toArray⟩ : ByteArray) = R := ⟨_, rfl⟩
    unfold stV at himp hspc ⊢
    rw [hT, hR] at himp hspc
    rw [hT] at hTs ⊢
    have HIM := Lib.hid himp
    have HSP := Lib.hid hspc
    have HT := Lib.hid hT
    have HR := Lib.hid hR
    have HN := Lib.hid hn
    have n9 : n ≤ 900 := by omega
    clear hwh hln hb1 himp hspc hT hR hn
    go_wp2_with fail
    refine HIM.out.mono ?_
    rintro e w2 ⟨rfl, hb2⟩
    have E2 := Lib.hid (E1.out.next hb2)
    have HB2 : Hid (Below w.heap.size w w2) := Lib.hid (HB1.out.trans (hb2.mono HB1.out.size))
    clear hb2 HIM E1 HB1
    go_wp2_with fail
    refine (HSP.out _).mono ?_
    rintro e w3 ⟨rfl, hb3⟩
    have E3 := Lib.hid (E2.out.next hb3)
    have HB3 : Hid (Below w.heap.size w w3) := Lib.hid (HB2.out.trans (hb3.mono HB2.out.size))
    clear hb3 E2 HB2
    have c1 := fun W (hW : Below w3.heap.size w3 W) => run_lit _ _ free_1 W (E3.out.next hW)
    change ∀ W, Below w3.heap.size w3 W → Calls Tryz.prog 13 #[.string ⟨#[115, 101, 108, 108, 115, 32, 49, 32, 50, 10, 115, 101, 108, 108, 115, 32, 50, 32, 51, 10, 102, 114, 101, 101, 10]⟩] W (fun e w' => e = .returned (.string ⟨#[51, 45, 50, 45, 49, 45, 52, 10, 48, 10]⟩) ∧ Below W.heap.size W w') at c1
    have e1 := add_is [115, 101, 108, 108, 115, 32, 49, 32, 50, 10, 115, 101, 108, 108, 115, 32, 50, 32, 51, 10] [102, 114, 101, 101, 10] (by decide)
    change ∀ W, (Op.stringOp .add ⟨#[115, 101, 108, 108, 115, 32, 49, 32, 50, 10, 115, 101, 108, 108, 115, 32, 50, 32, 51, 10]⟩ ⟨#[102, 114, 101, 101, 10]⟩).run Tryz.prog W = .ok (.string ⟨#[115, 101, 108, 108, 115, 32, 49, 32, 50, 10, 115, 101, 108, 108, 115, 32, 50, 32, 51, 10, 102, 114, 101, 101, 10]⟩) W at e1
    obtain ⟨S1, hS1⟩ : ∃ S1 : ByteArray, ⟨#[115, 101, 108, 108, 115, 32, 49, 32, 50, 10, 115, 101, 108, 108, 115, 32, 50, 32, 51, 10, 102, 114, 101, 101, 10]⟩ = S1 := ⟨_, rfl⟩
    rw [hS1] at e1 c1
    clear hS1
    have C1 := Lib.hid c1
    clear c1
    have c2 := fun W (hW : Below w3.heap.size w3 W) => run_lit _ _ free_2 W (E3.out.next hW)
    change ∀ W, Below w3.heap.size w3 W → Calls Tryz.prog 13 #[.string ⟨#[115, 101, 108, 108, 115, 32, 49, 32, 50, 10, 115, 101, 108, 108, 115, 32, 50, 32, 51, 10, 115, 101, 108, 108, 115, 32, 51, 32, 49, 10, 102, 114, 101, 101, 10, 112, 97, 114, 116, 115, 32, 49, 32, 50, 10, 102, 114, 101, 101, 10]⟩] W (fun e w' => e = .returned (.string ⟨#[110, 111, 10, 49, 45, 51, 45, 50, 45, 52, 10, 48, 10]⟩) ∧ Below W.heap.size W w') at c2
    have e2 := add_is [115, 101, 108, 108, 115, 32, 49, 32, 50, 10, 115, 101, 108, 108, 115, 32, 50, 32, 51, 10] [115, 101, 108, 108, 115, 32, 51, 32, 49, 10, 102, 114, 101, 101, 10, 112, 97, 114, 116, 115, 32, 49, 32, 50, 10, 102, 114, 101, 101, 10] (by decide)
    change ∀ W, (Op.stringOp .add ⟨#[115, 101, 108, 108, 115, 32, 49, 32, 50, 10, 115, 101, 108, 108, 115, 32, 50, 32, 51, 10]⟩ ⟨#[115, 101, 108, 108, 115, 32, 51, 32, 49, 10, 102, 114, 101, 101, 10, 112, 97, 114, 116, 115, 32, 49, 32, 50, 10, 102, 114, 101, 101, 10]⟩).run Tryz.prog W = .ok (.string ⟨#[115, 101, 108, 108, 115, 32, 49, 32, 50, 10, 115, 101, 108, 108, 115, 32, 50, 32, 51, 10, 115, 101, 108, 108, 115, 32, 51, 32, 49, 10, 102, 114, 101, 101, 10, 112, 97, 114, 116, 115, 32, 49, 32, 50, 10, 102, 114, 101, 101, 10]⟩) W at e2
    obtain ⟨S2, hS2⟩ : ∃ S2 : ByteArray, ⟨#[115, 101, 108, 108, 115, 32, 49, 32, 50, 10, 115, 101, 108, 108, 115, 32, 50, 32, 51, 10, 115, 101, 108, 108, 115, 32, 51, 32, 49, 10, 102, 114, 101, 101, 10, 112, 97, 114, 116, 115, 32, 49, 32, 50, 10, 102, 114, 101, 101, 10]⟩ = S2 := ⟨_, rfl⟩
    rw [hS2] at e2 c2
    clear hS2
    have C2 := Lib.hid c2
    clear c2
    have c3 := fun W (hW : Below w3.heap.size w3 W) => run_lit _ _ free_3 W (E3.out.next hW)
    change ∀ W, Below w3.heap.size w3 W → Calls Tryz.prog 13 #[.string ⟨#[102, 114, 101, 101, 10]⟩] W (fun e w' => e = .returned (.string ⟨#[49, 45, 50, 45, 51, 45, 52, 10, 48, 10]⟩) ∧ Below W.heap.size W w') at c3
    have C3 := Lib.hid c3
    clear c3
    go_wp2_with fail
    refine (C1.out _ (Below.refl _ _)).mono ?_
    rintro e x1 ⟨rfl, hb⟩
    have B1 : Hid (Below w3.heap.size w3 x1) := Lib.hid (hb)
    clear hb
    go_wp2_with fail
    refine (C2.out _ B1.out).mono ?_
    rintro e x2 ⟨rfl, hb⟩
    have B2 : Hid (Below w3.heap.size w3 x2) := Lib.hid (B1.out.trans (hb.mono B1.out.size))
    clear hb
    go_wp2_with fail
    refine (C3.out _ B2.out).mono ?_
    rintro e x3 ⟨rfl, hb⟩
    have B3 : Hid (Below w3.heap.size w3 x3) := Lib.hid (B2.out.trans (hb.mono B2.out.size))
    clear hb
    go_wp2_with fail
    go_ret
    exact ⟨rfl, HB3.out.trans (B3.out.mono HB3.out.size)⟩
end Go.Proofs.YtnecdeaikmhanaaGreatDoor
