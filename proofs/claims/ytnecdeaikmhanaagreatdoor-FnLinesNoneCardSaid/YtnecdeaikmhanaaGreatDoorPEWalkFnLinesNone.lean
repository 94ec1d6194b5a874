/- The walk of a law. -/
import Derived.Test.YtnecdeaikmhanaaGreatDoorPE0
import Derived.Test.YtnecdeaikmhanaaGreatDoorPE1
import Derived.Test.YtnecdeaikmhanaaGreatDoorPE2
import Derived.Test.YtnecdeaikmhanaaGreatDoorPE3
import Derived.Test.YtnecdeaikmhanaaGreatDoorPE4
import Derived.Test.YtnecdeaikmhanaaGreatDoorPE5
import Derived.Test.YtnecdeaikmhanaaGreatDoorPE6
import Derived.Test.YtnecdeaikmhanaaGreatDoorPE7
import Derived.Test.YtnecdeaikmhanaaGreatDoorPE8
import Derived.Test.YtnecdeaikmhanaaGreatDoorPE9
import Derived.Test.YtnecdeaikmhanaaGreatDoorPE10
import Derived.Test.YtnecdeaikmhanaaGreatDoorPE11
import Derived.Test.YtnecdeaikmhanaaGreatDoorPE12
import Derived.Test.YtnecdeaikmhanaaGreatDoorPE13
import Derived.Test.YtnecdeaikmhanaaGreatDoorPE14
import Derived.Test.YtnecdeaikmhanaaGreatDoorPE15
import Derived.Test.YtnecdeaikmhanaaGreatDoorPE16
import Derived.Test.YtnecdeaikmhanaaGreatDoorPE17
import Derived.Test.YtnecdeaikmhanaaGreatDoorPE18
import Derived.Test.YtnecdeaikmhanaaGreatDoorPE19
import Derived.Test.YtnecdeaikmhanaaGreatDoorPE20
namespace Go.Proofs.YtnecdeaikmhanaaGreatDoor
open Go.RowKit
set_option linter.unusedVariables false
set_option maxRecDepth 100000
theorem none_1 : linesF [119, 104, 97, 116, 10, 10, 115, 101, 108, 108, 115, 32, 49, 32, 49, 10, 104, 111, 109, 101, 32, 49, 47, 49, 32, 50, 10] = [119, 104, 97, 116, 10, 119, 104, 97, 116, 10, 119, 104, 97, 116, 10, 119, 104, 97, 116, 10, 48, 10] := by decide +kernel
theorem none_2 : linesF [119, 97, 121, 115, 32, 53, 10, 115, 101, 110, 100, 32, 49, 10, 104, 111, 109, 101, 32, 48, 47, 48, 32, 53, 10, 104, 111, 109, 101, 32, 48, 47, 48, 32, 49, 10, 104, 111, 109, 101, 32, 48, 47, 48, 32, 50, 10] = [119, 104, 97, 116, 10, 119, 104, 97, 116, 10, 119, 104, 97, 116, 10, 119, 104, 97, 116, 10, 49, 10] := by decide +kernel
theorem none_3 : linesF [] = [48, 10] := by decide +kernel
theorem run_lit (a r : Bs) (h : linesF a = r) (W : World) (EW : EnvOk W) : Calls Tryz.prog 13 #[.string ⟨a.toArray⟩] W fun e w' => e = .returned (.string ⟨r.toArray⟩) ∧ Below W.heap.size W w' := by
  subst h; exact implLinesRun_any a W EW
set_option maxHeartbeats 16000000 in
theorem fnLinesNone_walk (a : Option Addr) (len cap : Nat) (zs : List Int) (w : World) (h : IsRow .u8 w a len cap zs) (E : EnvOk w) :
    Calls Tryz.prog 9 #[.slice a len cap] w fun e w' => e = .returned (.bool true) ∧ Below w.heap.size w w' := by
  obtain ⟨hm, hc⟩ := h.bounds
  unfold maxLen at hc
  have H := Lib.hid h
  have HE := Lib.hid E
  clear h E
  go_enter Tryz.func9, Tryz.ntmps9
  by_cases hbig : 1048576 < len
  · go_wp2_with fail
    go_ret
    exact ⟨rfl, Below.refl _ _⟩
  · go_wp2_with fail
    refine (drawLinesRun_any _ _ _ zs _ H.out).mono ?_
    rintro e w1 ⟨l, rfl, hwh, hln, hb1⟩
    have E1 := Lib.hid (HE.out.next hb1)
    have HB1 := Lib.hid hb1
    have HWH := Lib.hid hwh
    have HLN := Lib.hid hln
    have himp := implLinesRun_any l w1 E1.out
    have hspc := fun W => specLinesRun_any l W
    obtain ⟨n, hn⟩ : ∃ n, l.length = n := ⟨_, rfl⟩
    have hTs : (⟨l.toArray⟩ : ByteArray).size = n := by rw [st_size, hn]
    obtain ⟨T, hT⟩ : ∃ T : ByteArray, (⟨l.toArray⟩ : ByteArray) = T := ⟨_, rfl⟩
    obtain ⟨R, hR⟩ : ∃ R : ByteArray, (⟨(linesF l).toArray⟩ : ByteArray) = R := ⟨_, rfl⟩
    unfold stV at himp hspc ⊢
    rw [hT, hR] at himp hspc
    rw [hT] at hTs ⊢
    have HIM := Lib.hid himp
    have HSP := Lib.hid hspc
    have HT := Lib.hid hT
    have HR := Lib.hid hR
    have HN := Lib.hid hn
    have n9 : n ≤ 900 := by omega
    clear hwh hln hb1 himp hspc hT hR hn
    go_wp2_with fail
    refine HIM.out.mono ?_
    rintro e w2 ⟨rfl, hb2⟩
    have E2 := Lib.hid (E1.out.next hb2)
    have HB2 : Hid (Below w.heap.size w w2) := Lib.hid (HB1.out.trans (hb2.mono HB1.out.size))
    clear hb2 HIM E1 HB1
    go_wp2_with fail
    refine (HSP.out _).mono ?_
    rintro e w3 ⟨rfl, hb3⟩
    have E3 := Lib.hid (E2.out.next hb3)
    have HB3 : Hid (Below w.heap.size w w3) := Lib.hid (HB2.out.trans (hb3.mono HB2.out.size))
    clear hb3 E2 HB2
    go_wp2_with fail
    go_loopg [5] (501 - n) (fun gk s5 wr => wr = w3 ∧ ∃ t : Bs, s5 = stV t ∧ t.length ≤ 915 ∧ gk = 501 - t.length)
    case atStart => exact ⟨rfl, l, by rw [← HT.out], by have := HN.out; omega, by rw [HN.out]⟩
    case round =>
      obtain ⟨rfl, t, rfl, ht, hg⟩ := hrel
      obtain ⟨m, hm⟩ : ∃ m, t.length = m := ⟨_, rfl⟩
      have hsz : (⟨t.toArray⟩ : ByteArray).size = m := by rw [st_size, hm]
      by_cases hl5 : m ≤ 500
      · have hd : (m : Int) ≤ 500 := by omega
        have e1 := add_is t [110, 111, 116, 104, 105, 110, 103, 32, 97, 116, 32, 97, 108, 108, 10] (by simp; omega)
        rw [show (⟨([110, 111, 116, 104, 105, 110, 103, 32, 97, 116, 32, 97, 108, 108, 10] : Bs).toArray⟩ : ByteArray) = ⟨#[110, 111, 116, 104, 105, 110, 103, 32, 97, 116, 32, 97, 108, 108, 10]⟩ from rfl] at e1
        unfold stV
        go_wp2_with fail
        go_roundg (501 - (t ++ [110, 111, 116, 104, 105, 110, 103, 32, 97, 116, 32, 97, 108, 108, 10]).length)
        case measure => rw [List.length_append]; simp; omega
        case rel => exact ⟨rfl, _, rfl, by rw [List.length_append]; simp; omega, rfl⟩
      · have hd : ¬ (m : Int) ≤ 500 := by omega
        have c1 := fun W (hW : Below wr.heap.size wr W) => run_lit _ _ none_1 W (E3.out.next hW)
        have c2 := fun W (hW : Below wr.heap.size wr W) => run_lit _ _ none_2 W (E3.out.next hW)
        have c3 := fun W (hW : Below wr.heap.size wr W) => run_lit t sLong (lines_long (by omega)) W (E3.out.next hW)
        have c4 := fun W (hW : Below wr.heap.size wr W) => run_lit _ _ none_3 W (E3.out.next hW)
        change ∀ W, Below wr.heap.size wr W → Calls Tryz.prog 13 #[.string ⟨#[119, 104, 97, 116, 10, 10, 115, 101, 108, 108, 115, 32, 49, 32, 49, 10, 104, 111, 109, 101, 32, 49, 47, 49, 32, 50, 10]⟩] W (fun e w' => e = .returned (.string ⟨#[119, 104, 97, 116, 10, 119, 104, 97, 116, 10, 119, 104, 97, 116, 10, 119, 104, 97, 116, 10, 48, 10]⟩) ∧ Below W.heap.size W w') at c1
        change ∀ W, Below wr.heap.size wr W → Calls Tryz.prog 13 #[.string ⟨#[119, 97, 121, 115, 32, 53, 10, 115, 101, 110, 100, 32, 49, 10, 104, 111, 109, 101, 32, 48, 47, 48, 32, 53, 10, 104, 111, 109, 101, 32, 48, 47, 48, 32, 49, 10, 104, 111, 109, 101, 32, 48, 47, 48, 32, 50, 10]⟩] W (fun e w' => e = .returned (.string ⟨#[119, 104, 97, 116, 10, 119, 104, 97, 116, 10, 119, 104, 97, 116, 10, 119, 104, 97, 116, 10, 49, 10]⟩) ∧ Below W.heap.size W w') at c2
        change ∀ W, Below wr.heap.size wr W → Calls Tryz.prog 13 #[.string ⟨t.toArray⟩] W (fun e w' => e = .returned (.string ⟨#[116, 111, 111, 32, 108, 111, 110, 103, 10]⟩) ∧ Below W.heap.size W w') at c3
        change ∀ W, Below wr.heap.size wr W → Calls Tryz.prog 13 #[.string ⟨#[]⟩] W (fun e w' => e = .returned (.string ⟨#[48, 10]⟩) ∧ Below W.heap.size W w') at c4
        have d1 := add_is [119, 104, 97, 116, 10] [119, 104, 97, 116, 10] (by decide)
        change ∀ W, (Op.stringOp .add ⟨#[119, 104, 97, 116, 10]⟩ ⟨#[119, 104, 97, 116, 10]⟩).run Tryz.prog W = .ok (.string ⟨#[119, 104, 97, 116, 10, 119, 104, 97, 116, 10]⟩) W at d1
        have d2 := add_is [119, 104, 97, 116, 10, 119, 104, 97, 116, 10] [119, 104, 97, 116, 10] (by decide)
        change ∀ W, (Op.stringOp .add ⟨#[119, 104, 97, 116, 10, 119, 104, 97, 116, 10]⟩ ⟨#[119, 104, 97, 116, 10]⟩).run Tryz.prog W = .ok (.string ⟨#[119, 104, 97, 116, 10, 119, 104, 97, 116, 10, 119, 104, 97, 116, 10]⟩) W at d2
        have d3 := add_is [119, 104, 97, 116, 10, 119, 104, 97, 116, 10, 119, 104, 97, 116, 10] [119, 104, 97, 116, 10] (by decide)
        change ∀ W, (Op.stringOp .add ⟨#[119, 104, 97, 116, 10, 119, 104, 97, 116, 10, 119, 104, 97, 116, 10]⟩ ⟨#[119, 104, 97, 116, 10]⟩).run Tryz.prog W = .ok (.string ⟨#[119, 104, 97, 116, 10, 119, 104, 97, 116, 10, 119, 104, 97, 116, 10, 119, 104, 97, 116, 10]⟩) W at d3
        have d4 := add_is [119, 104, 97, 116, 10, 119, 104, 97, 116, 10, 119, 104, 97, 116, 10, 119, 104, 97, 116, 10] [48, 10] (by decide)
        change ∀ W, (Op.stringOp .add ⟨#[119, 104, 97, 116, 10, 119, 104, 97, 116, 10, 119, 104, 97, 116, 10, 119, 104, 97, 116, 10]⟩ ⟨#[48, 10]⟩).run Tryz.prog W = .ok (.string ⟨#[119, 104, 97, 116, 10, 119, 104, 97, 116, 10, 119, 104, 97, 116, 10, 119, 104, 97, 116, 10, 48, 10]⟩) W at d4
        have d5 := add_is [119, 104, 97, 116, 10, 119, 104, 97, 116, 10, 119, 104, 97, 116, 10, 119, 104, 97, 116, 10] [49, 10] (by decide)
        change ∀ W, (Op.stringOp .add ⟨#[119, 104, 97, 116, 10, 119, 104, 97, 116, 10, 119, 104, 97, 116, 10, 119, 104, 97, 116, 10]⟩ ⟨#[49, 10]⟩).run Tryz.prog W = .ok (.string ⟨#[119, 104, 97, 116, 10, 119, 104, 97, 116, 10, 119, 104, 97, 116, 10, 119, 104, 97, 116, 10, 49, 10]⟩) W at d5
        have C1 := Lib.hid c1
        have C2 := Lib.hid c2
        have C3 := Lib.hid c3
        have C4 := Lib.hid c4
        clear c1 c2 c3 c4
        unfold stV
        go_wp2_with fail
        refine (C1.out _ (Below.refl _ _)).mono ?_
        rintro e x1 ⟨rfl, hb⟩
        have B1 := Lib.hid hb
        clear hb
        go_wp2_with fail
        refine (C2.out _ B1.out).mono ?_
        rintro e x2 ⟨rfl, hb⟩
        have B2 : Hid (Below wr.heap.size wr x2) := Lib.hid (B1.out.trans (hb.mono B1.out.size))
        clear hb
        go_wp2_with fail
        refine (C3.out _ B2.out).mono ?_
        rintro e x3 ⟨rfl, hb⟩
        have B3 : Hid (Below wr.heap.size wr x3) := Lib.hid (B2.out.trans (hb.mono B2.out.size))
        clear hb
        go_wp2_with fail
        refine (C4.out _ B3.out).mono ?_
        rintro e x4 ⟨rfl, hb⟩
        have B4 : Hid (Below wr.heap.size wr x4) := Lib.hid (B3.out.trans (hb.mono B3.out.size))
        clear hb
        go_wp2_with fail
        go_ret
        exact ⟨rfl, HB3.out.trans (B4.out.mono HB3.out.size)⟩
end Go.Proofs.YtnecdeaikmhanaaGreatDoor
