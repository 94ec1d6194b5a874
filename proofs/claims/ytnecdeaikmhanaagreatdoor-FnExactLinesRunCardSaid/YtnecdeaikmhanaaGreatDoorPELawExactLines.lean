/- The walk of a law. -/
import Derived.Test.YtnecdeaikmhanaaGreatDoorPE0
import Derived.Test.YtnecdeaikmhanaaGreatDoorPE1
import Derived.Test.YtnecdeaikmhanaaGreatDoorPE2
import Derived.Test.YtnecdeaikmhanaaGreatDoorPE3
import Derived.Test.YtnecdeaikmhanaaGreatDoorPE4
import Derived.Test.YtnecdeaikmhanaaGreatDoorPE5
import Derived.Test.YtnecdeaikmhanaaGreatDoorPE6
import Derived.Test.YtnecdeaikmhanaaGreatDoorPE7
import Derived.Test.YtnecdeaikmhanaaGreatDoorPE8
import Derived.Test.YtnecdeaikmhanaaGreatDoorPE9
import Derived.Test.YtnecdeaikmhanaaGreatDoorPE10
import Derived.Test.YtnecdeaikmhanaaGreatDoorPE11
import Derived.Test.YtnecdeaikmhanaaGreatDoorPE12
import Derived.Test.YtnecdeaikmhanaaGreatDoorPE13
import Derived.Test.YtnecdeaikmhanaaGreatDoorPE14
import Derived.Test.YtnecdeaikmhanaaGreatDoorPE15
import Derived.Test.YtnecdeaikmhanaaGreatDoorPE16
import Derived.Test.YtnecdeaikmhanaaGreatDoorPE17
import Derived.Test.YtnecdeaikmhanaaGreatDoorPE18
import Derived.Test.YtnecdeaikmhanaaGreatDoorPE19
import Derived.Test.YtnecdeaikmhanaaGreatDoorPE20
namespace Go.Proofs.YtnecdeaikmhanaaGreatDoor
open Go.RowKit
set_option linter.unusedVariables false
set_option maxRecDepth 100000
set_option maxHeartbeats 2000000 in
theorem exactLines_walk (a : ByteArray) (w : World) (hs : a.size ≤ maxLen) (E : EnvOk w) :
    Calls Tryz.prog 6 #[.string a] w fun e w' => e = .returned (.bool true) ∧ Below w.heap.size w w' := by
  obtain ⟨l, hl⟩ : ∃ l : Bs, a = ⟨l.toArray⟩ := ⟨a.data.toList, by simp⟩
  unfold maxLen at hs
  by_cases hbig : 1048576 < a.size
  · clear hl E
    go_enter Tryz.func6, Tryz.ntmps6
    go_wp2_with fail
    go_ret
    exact ⟨rfl, Below.refl _ _⟩
  · have hsp := specLinesRun_any l w
    have him := fun W EW => implLinesRun_any l W EW
    obtain ⟨T, hT⟩ : ∃ T : ByteArray, (⟨(linesF l).toArray⟩ : ByteArray) = T := ⟨_, rfl⟩
    unfold stV at hsp him
    rw [hT, ← hl] at hsp him
    have HSP := Lib.hid hsp
    have HIM := Lib.hid him
    have HE := Lib.hid E
    clear hl hT hsp him E
    go_enter Tryz.func6, Tryz.ntmps6
    go_wp2_with fail
    refine HSP.out.mono ?_
    rintro e w1 ⟨rfl, hb1⟩
    have HB1 := Lib.hid hb1
    have E1 := Lib.hid (HE.out.next hb1)
    clear hb1
    go_wp2_with fail
    refine (HIM.out _ E1.out).mono ?_
    rintro e w2 ⟨rfl, hb2⟩
    have HB2 : Hid (Below w.heap.size w w2) := Lib.hid (HB1.out.trans (hb2.mono HB1.out.size))
    clear hb2
    go_wp2_with fail
    go_ret
    exact ⟨rfl, HB2.out⟩
end Go.Proofs.YtnecdeaikmhanaaGreatDoor
