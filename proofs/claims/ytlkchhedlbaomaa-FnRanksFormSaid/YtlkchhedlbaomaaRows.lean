/-
  No cell of these rows narrows 'for every input' (looked for: loops, veiled, ifaces, maps, wideKeys, modest, calm, conditions, laid).
  DERIVED. THE GIVEN ROWS OF THIS SEAT. 16 by the template 'for every input the law returns true; each argument reads behind the call as it read before'; 0 by the template 'total and deterministic' (their statements: YtlkchhedlbaomaaTotals.lean).
  GIVEN WITH THE SEED: the statements are not yours to turn. If you find one false, say at which input.
  Laid BY PROGRAM, IN A SANDBOX (cutbox-rows.mjs): the forced cells as the released guide's own fill.sh prints them over the translation 5b0bfa7741c8ea30… (all of the seat's roots in one cut). By AI agents, Wed Nov 11 2026. No macro, syntax, notation, axiom, sorry.
-/
import Derived.Test.YtlkchhedlbaomaaChecked
import GoSem.Claim
import GoSem.ClaimJoined
import GoSem.ClaimMapViews
import Derived.JoinedTies
import Derived.KernelRfl
namespace Go.Proofs.Ytlkchhedlbaomaa
/- THE CELL 'sum', in the pinned program and in every row, IS THE sha256 OF THE DUMP (.gsa) THAT YtlkchhedlbaomaaProg.lean LOADS. Nothing in Lean hashes anything: it is a label: what it is worth is what the hold of that sum in a sandbox is worth. -/
noncomputable def Try.pinned : Pinned := { name := "ytlkchhedlbaomaa", sum := "5b0bfa7741c8ea30b119afa11150605e286d5efb73f5449a8c4538be1ba91818", checked := Try.checked }
namespace Rows
def none {H : Type} : Left H := { results := [], args := [] }

/-- 'laws.FnRanksForm': WHATEVER THE INPUT: true; the input reads as it did. -/
def fnRanksFormSpec : ChangeSpec := { name := "fnRanksForm", fn := fun _ => fun
  | [d] => { results := [.lit (.bool true)], args := [d] }
  | _ => none }
def fnRanksFormRow : OpenClaim := { program := "ytlkchhedlbaomaa", sum := "5b0bfa7741c8ea30b119afa11150605e286d5efb73f5449a8c4538be1ba91818", func := "loop.example/wayboard/laws.FnRanksForm", spec := "fnRanksForm", unfollowed := true, recurses := true, apart := false }
def FnRanksFormSaid : Prop := fnRanksFormRow.holds Try.pinned (OpenSpec.ofChange fnRanksFormSpec)

/-- ITS FALSE NEIGHBOUR: 'it returns false'. Refute it at one input. -/
def fnRanksFormWrong : ChangeSpec := { name := "fnRanksForm", fn := fun _ => fun
  | [d] => { results := [.lit (.bool false)], args := [d] }
  | _ => none }
def FnRanksFormWrongFalsely : Prop := fnRanksFormRow.holds Try.pinned (OpenSpec.ofChange fnRanksFormWrong)

/-- 'laws.FnExactRanksOk': WHATEVER THE INPUT: true; the input reads as it did. -/
def fnExactRanksOkSpec : ChangeSpec := { name := "fnExactRanksOk", fn := fun _ => fun
  | [d] => { results := [.lit (.bool true)], args := [d] }
  | _ => none }
def fnExactRanksOkRow : OpenClaim := { program := "ytlkchhedlbaomaa", sum := "5b0bfa7741c8ea30b119afa11150605e286d5efb73f5449a8c4538be1ba91818", func := "loop.example/wayboard/laws.FnExactRanksOk", spec := "fnExactRanksOk", unfollowed := true, recurses := true, apart := false }
def FnExactRanksOkSaid : Prop := fnExactRanksOkRow.holds Try.pinned (OpenSpec.ofChange fnExactRanksOkSpec)

/-- ITS FALSE NEIGHBOUR: 'it returns false'. Refute it at one input. -/
def fnExactRanksOkWrong : ChangeSpec := { name := "fnExactRanksOk", fn := fun _ => fun
  | [d] => { results := [.lit (.bool false)], args := [d] }
  | _ => none }
def FnExactRanksOkWrongFalsely : Prop := fnExactRanksOkRow.holds Try.pinned (OpenSpec.ofChange fnExactRanksOkWrong)

/-- 'laws.FnRanksCut': WHATEVER THE INPUT: true; the input reads as it did. -/
def fnRanksCutSpec : ChangeSpec := { name := "fnRanksCut", fn := fun _ => fun
  | [d1, d2] => { results := [.lit (.bool true)], args := [d1, d2] }
  | _ => none }
def fnRanksCutRow : OpenClaim := { program := "ytlkchhedlbaomaa", sum := "5b0bfa7741c8ea30b119afa11150605e286d5efb73f5449a8c4538be1ba91818", func := "loop.example/wayboard/laws.FnRanksCut", spec := "fnRanksCut", unfollowed := true, recurses := true, apart := false }
def FnRanksCutSaid : Prop := fnRanksCutRow.holds Try.pinned (OpenSpec.ofChange fnRanksCutSpec)

/-- ITS FALSE NEIGHBOUR: 'it returns false'. Refute it at one input. -/
def fnRanksCutWrong : ChangeSpec := { name := "fnRanksCut", fn := fun _ => fun
  | [d1, d2] => { results := [.lit (.bool false)], args := [d1, d2] }
  | _ => none }
def FnRanksCutWrongFalsely : Prop := fnRanksCutRow.holds Try.pinned (OpenSpec.ofChange fnRanksCutWrong)

/-- 'laws.FnRanksStay': WHATEVER THE INPUT: true; the input reads as it did. -/
def fnRanksStaySpec : ChangeSpec := { name := "fnRanksStay", fn := fun _ => fun
  | [d1, d2] => { results := [.lit (.bool true)], args := [d1, d2] }
  | _ => none }
def fnRanksStayRow : OpenClaim := { program := "ytlkchhedlbaomaa", sum := "5b0bfa7741c8ea30b119afa11150605e286d5efb73f5449a8c4538be1ba91818", func := "loop.example/wayboard/laws.FnRanksStay", spec := "fnRanksStay", unfollowed := true, recurses := true, apart := false }
def FnRanksStaySaid : Prop := fnRanksStayRow.holds Try.pinned (OpenSpec.ofChange fnRanksStaySpec)

/-- ITS FALSE NEIGHBOUR: 'it returns false'. Refute it at one input. -/
def fnRanksStayWrong : ChangeSpec := { name := "fnRanksStay", fn := fun _ => fun
  | [d1, d2] => { results := [.lit (.bool false)], args := [d1, d2] }
  | _ => none }
def FnRanksStayWrongFalsely : Prop := fnRanksStayRow.holds Try.pinned (OpenSpec.ofChange fnRanksStayWrong)

/-- 'laws.FnRanksTree': WHATEVER THE INPUT: true; the input reads as it did. -/
def fnRanksTreeSpec : ChangeSpec := { name := "fnRanksTree", fn := fun _ => fun
  | [d] => { results := [.lit (.bool true)], args := [d] }
  | _ => none }
def fnRanksTreeRow : OpenClaim := { program := "ytlkchhedlbaomaa", sum := "5b0bfa7741c8ea30b119afa11150605e286d5efb73f5449a8c4538be1ba91818", func := "loop.example/wayboard/laws.FnRanksTree", spec := "fnRanksTree", unfollowed := true, recurses := true, apart := false }
def FnRanksTreeSaid : Prop := fnRanksTreeRow.holds Try.pinned (OpenSpec.ofChange fnRanksTreeSpec)

/-- ITS FALSE NEIGHBOUR: 'it returns false'. Refute it at one input. -/
def fnRanksTreeWrong : ChangeSpec := { name := "fnRanksTree", fn := fun _ => fun
  | [d] => { results := [.lit (.bool false)], args := [d] }
  | _ => none }
def FnRanksTreeWrongFalsely : Prop := fnRanksTreeRow.holds Try.pinned (OpenSpec.ofChange fnRanksTreeWrong)

/-- 'laws.FnRanksPick': WHATEVER THE INPUT: true; the input reads as it did. -/
def fnRanksPickSpec : ChangeSpec := { name := "fnRanksPick", fn := fun _ => fun
  | [d] => { results := [.lit (.bool true)], args := [d] }
  | _ => none }
def fnRanksPickRow : OpenClaim := { program := "ytlkchhedlbaomaa", sum := "5b0bfa7741c8ea30b119afa11150605e286d5efb73f5449a8c4538be1ba91818", func := "loop.example/wayboard/laws.FnRanksPick", spec := "fnRanksPick", unfollowed := true, recurses := true, apart := false }
def FnRanksPickSaid : Prop := fnRanksPickRow.holds Try.pinned (OpenSpec.ofChange fnRanksPickSpec)

/-- ITS FALSE NEIGHBOUR: 'it returns false'. Refute it at one input. -/
def fnRanksPickWrong : ChangeSpec := { name := "fnRanksPick", fn := fun _ => fun
  | [d] => { results := [.lit (.bool false)], args := [d] }
  | _ => none }
def FnRanksPickWrongFalsely : Prop := fnRanksPickRow.holds Try.pinned (OpenSpec.ofChange fnRanksPickWrong)

/-- 'laws.FnExactRanksStill': WHATEVER THE INPUT: true; the input reads as it did. -/
def fnExactRanksStillSpec : ChangeSpec := { name := "fnExactRanksStill", fn := fun _ => fun
  | [d1, d2] => { results := [.lit (.bool true)], args := [d1, d2] }
  | _ => none }
def fnExactRanksStillRow : OpenClaim := { program := "ytlkchhedlbaomaa", sum := "5b0bfa7741c8ea30b119afa11150605e286d5efb73f5449a8c4538be1ba91818", func := "loop.example/wayboard/laws.FnExactRanksStill", spec := "fnExactRanksStill", unfollowed := true, recurses := true, apart := false }
def FnExactRanksStillSaid : Prop := fnExactRanksStillRow.holds Try.pinned (OpenSpec.ofChange fnExactRanksStillSpec)

/-- ITS FALSE NEIGHBOUR: 'it returns false'. Refute it at one input. -/
def fnExactRanksStillWrong : ChangeSpec := { name := "fnExactRanksStill", fn := fun _ => fun
  | [d1, d2] => { results := [.lit (.bool false)], args := [d1, d2] }
  | _ => none }
def FnExactRanksStillWrongFalsely : Prop := fnExactRanksStillRow.holds Try.pinned (OpenSpec.ofChange fnExactRanksStillWrong)

/-- 'laws.FnRanksLike': WHATEVER THE INPUT: true; the input reads as it did. -/
def fnRanksLikeSpec : ChangeSpec := { name := "fnRanksLike", fn := fun _ => fun
  | [d] => { results := [.lit (.bool true)], args := [d] }
  | _ => none }
def fnRanksLikeRow : OpenClaim := { program := "ytlkchhedlbaomaa", sum := "5b0bfa7741c8ea30b119afa11150605e286d5efb73f5449a8c4538be1ba91818", func := "loop.example/wayboard/laws.FnRanksLike", spec := "fnRanksLike", unfollowed := true, recurses := true, apart := false }
def FnRanksLikeSaid : Prop := fnRanksLikeRow.holds Try.pinned (OpenSpec.ofChange fnRanksLikeSpec)

/-- ITS FALSE NEIGHBOUR: 'it returns false'. Refute it at one input. -/
def fnRanksLikeWrong : ChangeSpec := { name := "fnRanksLike", fn := fun _ => fun
  | [d] => { results := [.lit (.bool false)], args := [d] }
  | _ => none }
def FnRanksLikeWrongFalsely : Prop := fnRanksLikeRow.holds Try.pinned (OpenSpec.ofChange fnRanksLikeWrong)

/-- 'laws.FnRanksMany': WHATEVER THE INPUT: true; the input reads as it did. -/
def fnRanksManySpec : ChangeSpec := { name := "fnRanksMany", fn := fun _ => fun
  | [d] => { results := [.lit (.bool true)], args := [d] }
  | _ => none }
def fnRanksManyRow : OpenClaim := { program := "ytlkchhedlbaomaa", sum := "5b0bfa7741c8ea30b119afa11150605e286d5efb73f5449a8c4538be1ba91818", func := "loop.example/wayboard/laws.FnRanksMany", spec := "fnRanksMany", unfollowed := true, recurses := true, apart := false }
def FnRanksManySaid : Prop := fnRanksManyRow.holds Try.pinned (OpenSpec.ofChange fnRanksManySpec)

/-- ITS FALSE NEIGHBOUR: 'it returns false'. Refute it at one input. -/
def fnRanksManyWrong : ChangeSpec := { name := "fnRanksMany", fn := fun _ => fun
  | [d] => { results := [.lit (.bool false)], args := [d] }
  | _ => none }
def FnRanksManyWrongFalsely : Prop := fnRanksManyRow.holds Try.pinned (OpenSpec.ofChange fnRanksManyWrong)

/-- 'laws.FnRanksStill': WHATEVER THE INPUT: true; the input reads as it did. -/
def fnRanksStillSpec : ChangeSpec := { name := "fnRanksStill", fn := fun _ => fun
  | [d] => { results := [.lit (.bool true)], args := [d] }
  | _ => none }
def fnRanksStillRow : OpenClaim := { program := "ytlkchhedlbaomaa", sum := "5b0bfa7741c8ea30b119afa11150605e286d5efb73f5449a8c4538be1ba91818", func := "loop.example/wayboard/laws.FnRanksStill", spec := "fnRanksStill", unfollowed := true, recurses := true, apart := false }
def FnRanksStillSaid : Prop := fnRanksStillRow.holds Try.pinned (OpenSpec.ofChange fnRanksStillSpec)

/-- ITS FALSE NEIGHBOUR: 'it returns false'. Refute it at one input. -/
def fnRanksStillWrong : ChangeSpec := { name := "fnRanksStill", fn := fun _ => fun
  | [d] => { results := [.lit (.bool false)], args := [d] }
  | _ => none }
def FnRanksStillWrongFalsely : Prop := fnRanksStillRow.holds Try.pinned (OpenSpec.ofChange fnRanksStillWrong)

/-- 'laws.FnExactRanksPlay': WHATEVER THE INPUT: true; the input reads as it did. -/
def fnExactRanksPlaySpec : ChangeSpec := { name := "fnExactRanksPlay", fn := fun _ => fun
  | [d1, d2] => { results := [.lit (.bool true)], args := [d1, d2] }
  | _ => none }
def fnExactRanksPlayRow : OpenClaim := { program := "ytlkchhedlbaomaa", sum := "5b0bfa7741c8ea30b119afa11150605e286d5efb73f5449a8c4538be1ba91818", func := "loop.example/wayboard/laws.FnExactRanksPlay", spec := "fnExactRanksPlay", unfollowed := true, recurses := true, apart := false }
def FnExactRanksPlaySaid : Prop := fnExactRanksPlayRow.holds Try.pinned (OpenSpec.ofChange fnExactRanksPlaySpec)

/-- ITS FALSE NEIGHBOUR: 'it returns false'. Refute it at one input. -/
def fnExactRanksPlayWrong : ChangeSpec := { name := "fnExactRanksPlay", fn := fun _ => fun
  | [d1, d2] => { results := [.lit (.bool false)], args := [d1, d2] }
  | _ => none }
def FnExactRanksPlayWrongFalsely : Prop := fnExactRanksPlayRow.holds Try.pinned (OpenSpec.ofChange fnExactRanksPlayWrong)

/-- 'laws.FnRanksHome': WHATEVER THE INPUT: true; the input reads as it did. -/
def fnRanksHomeSpec : ChangeSpec := { name := "fnRanksHome", fn := fun _ => fun
  | [d] => { results := [.lit (.bool true)], args := [d] }
  | _ => none }
def fnRanksHomeRow : OpenClaim := { program := "ytlkchhedlbaomaa", sum := "5b0bfa7741c8ea30b119afa11150605e286d5efb73f5449a8c4538be1ba91818", func := "loop.example/wayboard/laws.FnRanksHome", spec := "fnRanksHome", unfollowed := true, recurses := true, apart := false }
def FnRanksHomeSaid : Prop := fnRanksHomeRow.holds Try.pinned (OpenSpec.ofChange fnRanksHomeSpec)

/-- ITS FALSE NEIGHBOUR: 'it returns false'. Refute it at one input. -/
def fnRanksHomeWrong : ChangeSpec := { name := "fnRanksHome", fn := fun _ => fun
  | [d] => { results := [.lit (.bool false)], args := [d] }
  | _ => none }
def FnRanksHomeWrongFalsely : Prop := fnRanksHomeRow.holds Try.pinned (OpenSpec.ofChange fnRanksHomeWrong)

/-- 'laws.FnRanksNone': WHATEVER THE INPUT: true; the input reads as it did. -/
def fnRanksNoneSpec : ChangeSpec := { name := "fnRanksNone", fn := fun _ => fun
  | [d] => { results := [.lit (.bool true)], args := [d] }
  | _ => none }
def fnRanksNoneRow : OpenClaim := { program := "ytlkchhedlbaomaa", sum := "5b0bfa7741c8ea30b119afa11150605e286d5efb73f5449a8c4538be1ba91818", func := "loop.example/wayboard/laws.FnRanksNone", spec := "fnRanksNone", unfollowed := true, recurses := true, apart := false }
def FnRanksNoneSaid : Prop := fnRanksNoneRow.holds Try.pinned (OpenSpec.ofChange fnRanksNoneSpec)

/-- ITS FALSE NEIGHBOUR: 'it returns false'. Refute it at one input. -/
def fnRanksNoneWrong : ChangeSpec := { name := "fnRanksNone", fn := fun _ => fun
  | [d] => { results := [.lit (.bool false)], args := [d] }
  | _ => none }
def FnRanksNoneWrongFalsely : Prop := fnRanksNoneRow.holds Try.pinned (OpenSpec.ofChange fnRanksNoneWrong)

/-- 'laws.FnBadRing': WHATEVER THE INPUT: true; the input reads as it did. -/
def fnBadRingSpec : ChangeSpec := { name := "fnBadRing", fn := fun _ => fun
  | [d1, d2] => { results := [.lit (.bool true)], args := [d1, d2] }
  | _ => none }
def fnBadRingRow : OpenClaim := { program := "ytlkchhedlbaomaa", sum := "5b0bfa7741c8ea30b119afa11150605e286d5efb73f5449a8c4538be1ba91818", func := "loop.example/wayboard/laws.FnBadRing", spec := "fnBadRing", unfollowed := true, recurses := true, apart := false }
def FnBadRingSaid : Prop := fnBadRingRow.holds Try.pinned (OpenSpec.ofChange fnBadRingSpec)

/-- ITS FALSE NEIGHBOUR: 'it returns false'. Refute it at one input. -/
def fnBadRingWrong : ChangeSpec := { name := "fnBadRing", fn := fun _ => fun
  | [d1, d2] => { results := [.lit (.bool false)], args := [d1, d2] }
  | _ => none }
def FnBadRingWrongFalsely : Prop := fnBadRingRow.holds Try.pinned (OpenSpec.ofChange fnBadRingWrong)

/-- 'laws.FnExactRanksPick': WHATEVER THE INPUT: true; the input reads as it did. -/
def fnExactRanksPickSpec : ChangeSpec := { name := "fnExactRanksPick", fn := fun _ => fun
  | [d1, d2, d3] => { results := [.lit (.bool true)], args := [d1, d2, d3] }
  | _ => none }
def fnExactRanksPickRow : OpenClaim := { program := "ytlkchhedlbaomaa", sum := "5b0bfa7741c8ea30b119afa11150605e286d5efb73f5449a8c4538be1ba91818", func := "loop.example/wayboard/laws.FnExactRanksPick", spec := "fnExactRanksPick", unfollowed := true, recurses := true, apart := false }
def FnExactRanksPickSaid : Prop := fnExactRanksPickRow.holds Try.pinned (OpenSpec.ofChange fnExactRanksPickSpec)

/-- ITS FALSE NEIGHBOUR: 'it returns false'. Refute it at one input. -/
def fnExactRanksPickWrong : ChangeSpec := { name := "fnExactRanksPick", fn := fun _ => fun
  | [d1, d2, d3] => { results := [.lit (.bool false)], args := [d1, d2, d3] }
  | _ => none }
def FnExactRanksPickWrongFalsely : Prop := fnExactRanksPickRow.holds Try.pinned (OpenSpec.ofChange fnExactRanksPickWrong)

/-- 'laws.FnExactRanksMany': WHATEVER THE INPUT: true; the input reads as it did. -/
def fnExactRanksManySpec : ChangeSpec := { name := "fnExactRanksMany", fn := fun _ => fun
  | [d] => { results := [.lit (.bool true)], args := [d] }
  | _ => none }
def fnExactRanksManyRow : OpenClaim := { program := "ytlkchhedlbaomaa", sum := "5b0bfa7741c8ea30b119afa11150605e286d5efb73f5449a8c4538be1ba91818", func := "loop.example/wayboard/laws.FnExactRanksMany", spec := "fnExactRanksMany", unfollowed := true, recurses := true, apart := false }
def FnExactRanksManySaid : Prop := fnExactRanksManyRow.holds Try.pinned (OpenSpec.ofChange fnExactRanksManySpec)

/-- ITS FALSE NEIGHBOUR: 'it returns false'. Refute it at one input. -/
def fnExactRanksManyWrong : ChangeSpec := { name := "fnExactRanksMany", fn := fun _ => fun
  | [d] => { results := [.lit (.bool false)], args := [d] }
  | _ => none }
def FnExactRanksManyWrongFalsely : Prop := fnExactRanksManyRow.holds Try.pinned (OpenSpec.ofChange fnExactRanksManyWrong)

/- THE SECOND FORM. 'bulk': how many values and letters a reading holds, each counted each time it is reached (what is shared counts as often as it is met; a slice's spare places count too). A statement '..UptoSaid' is the law's where the arguments, and the package variables that the reading takes, are together of bulk at most 1048576: NARROWER than '..Said'. Prove '..Said' where nothing that the law and all that it calls make is longer than what came in: it says more and counts as full. Else prove '..UptoSaid'. A law counts once. -/
mutual
def uptoBulk {H : Type} : DataW H → Nat
  | .lit (.string bytes) => bytes.length + 1
  | .lit _ => 1
  | .nil => 1
  | .ptr d => uptoBulk d + 1
  | .slice elems spare => uptoBulkAll elems + uptoBulkAll spare + 1
  | .agg parts => uptoBulkAll parts + 1
  | .iface _ d => uptoBulk d + 1
  | .map entries => uptoBulkEntries entries + 1
  | .held _ => 1
def uptoBulkAll {H : Type} : List (DataW H) → Nat
  | [] => 0
  | d :: r => uptoBulk d + uptoBulkAll r
def uptoBulkEntries {H : Type} : List (Lit × DataW H) → Nat
  | [] => 0
  | x :: r => uptoBulkEntry x + uptoBulkEntries r
def uptoBulkEntry {H : Type} : Lit × DataW H → Nat
  | (.string bytes, d) => bytes.length + uptoBulk d + 1
  | (_, d) => uptoBulk d + 1
 end
def uptoSmall : (H : Type) → List (DataW H) → Bool := fun _ ds => decide (uptoBulkAll ds ≤ 1048576)
def OpenSpec.upto (s : _root_.Go.ChangeSpec) : _root_.Go.OpenSpec := { _root_.Go.OpenSpec.ofChange s with cond := some uptoSmall }

/-- 'laws.FnRanksForm', WHERE WHAT IT READS IS OF BULK AT MOST 1048576: true; the input reads as it did. -/
def fnRanksFormUptoRow : OpenClaim := { program := "ytlkchhedlbaomaa", sum := "5b0bfa7741c8ea30b119afa11150605e286d5efb73f5449a8c4538be1ba91818", func := "loop.example/wayboard/laws.FnRanksForm", spec := "fnRanksForm", unfollowed := true, recurses := true, apart := false, narrowed := true }
def FnRanksFormUptoSaid : Prop := fnRanksFormUptoRow.holds Try.pinned (OpenSpec.upto fnRanksFormSpec)

/-- 'laws.FnExactRanksOk', WHERE WHAT IT READS IS OF BULK AT MOST 1048576: true; the input reads as it did. -/
def fnExactRanksOkUptoRow : OpenClaim := { program := "ytlkchhedlbaomaa", sum := "5b0bfa7741c8ea30b119afa11150605e286d5efb73f5449a8c4538be1ba91818", func := "loop.example/wayboard/laws.FnExactRanksOk", spec := "fnExactRanksOk", unfollowed := true, recurses := true, apart := false, narrowed := true }
def FnExactRanksOkUptoSaid : Prop := fnExactRanksOkUptoRow.holds Try.pinned (OpenSpec.upto fnExactRanksOkSpec)

/-- 'laws.FnRanksCut', WHERE WHAT IT READS IS OF BULK AT MOST 1048576: true; the input reads as it did. -/
def fnRanksCutUptoRow : OpenClaim := { program := "ytlkchhedlbaomaa", sum := "5b0bfa7741c8ea30b119afa11150605e286d5efb73f5449a8c4538be1ba91818", func := "loop.example/wayboard/laws.FnRanksCut", spec := "fnRanksCut", unfollowed := true, recurses := true, apart := false, narrowed := true }
def FnRanksCutUptoSaid : Prop := fnRanksCutUptoRow.holds Try.pinned (OpenSpec.upto fnRanksCutSpec)

/-- 'laws.FnRanksStay', WHERE WHAT IT READS IS OF BULK AT MOST 1048576: true; the input reads as it did. -/
def fnRanksStayUptoRow : OpenClaim := { program := "ytlkchhedlbaomaa", sum := "5b0bfa7741c8ea30b119afa11150605e286d5efb73f5449a8c4538be1ba91818", func := "loop.example/wayboard/laws.FnRanksStay", spec := "fnRanksStay", unfollowed := true, recurses := true, apart := false, narrowed := true }
def FnRanksStayUptoSaid : Prop := fnRanksStayUptoRow.holds Try.pinned (OpenSpec.upto fnRanksStaySpec)

/-- 'laws.FnRanksTree', WHERE WHAT IT READS IS OF BULK AT MOST 1048576: true; the input reads as it did. -/
def fnRanksTreeUptoRow : OpenClaim := { program := "ytlkchhedlbaomaa", sum := "5b0bfa7741c8ea30b119afa11150605e286d5efb73f5449a8c4538be1ba91818", func := "loop.example/wayboard/laws.FnRanksTree", spec := "fnRanksTree", unfollowed := true, recurses := true, apart := false, narrowed := true }
def FnRanksTreeUptoSaid : Prop := fnRanksTreeUptoRow.holds Try.pinned (OpenSpec.upto fnRanksTreeSpec)

/-- 'laws.FnRanksPick', WHERE WHAT IT READS IS OF BULK AT MOST 1048576: true; the input reads as it did. -/
def fnRanksPickUptoRow : OpenClaim := { program := "ytlkchhedlbaomaa", sum := "5b0bfa7741c8ea30b119afa11150605e286d5efb73f5449a8c4538be1ba91818", func := "loop.example/wayboard/laws.FnRanksPick", spec := "fnRanksPick", unfollowed := true, recurses := true, apart := false, narrowed := true }
def FnRanksPickUptoSaid : Prop := fnRanksPickUptoRow.holds Try.pinned (OpenSpec.upto fnRanksPickSpec)

/-- 'laws.FnExactRanksStill', WHERE WHAT IT READS IS OF BULK AT MOST 1048576: true; the input reads as it did. -/
def fnExactRanksStillUptoRow : OpenClaim := { program := "ytlkchhedlbaomaa", sum := "5b0bfa7741c8ea30b119afa11150605e286d5efb73f5449a8c4538be1ba91818", func := "loop.example/wayboard/laws.FnExactRanksStill", spec := "fnExactRanksStill", unfollowed := true, recurses := true, apart := false, narrowed := true }
def FnExactRanksStillUptoSaid : Prop := fnExactRanksStillUptoRow.holds Try.pinned (OpenSpec.upto fnExactRanksStillSpec)

/-- 'laws.FnRanksLike', WHERE WHAT IT READS IS OF BULK AT MOST 1048576: true; the input reads as it did. -/
def fnRanksLikeUptoRow : OpenClaim := { program := "ytlkchhedlbaomaa", sum := "5b0bfa7741c8ea30b119afa11150605e286d5efb73f5449a8c4538be1ba91818", func := "loop.example/wayboard/laws.FnRanksLike", spec := "fnRanksLike", unfollowed := true, recurses := true, apart := false, narrowed := true }
def FnRanksLikeUptoSaid : Prop := fnRanksLikeUptoRow.holds Try.pinned (OpenSpec.upto fnRanksLikeSpec)

/-- 'laws.FnRanksMany', WHERE WHAT IT READS IS OF BULK AT MOST 1048576: true; the input reads as it did. -/
def fnRanksManyUptoRow : OpenClaim := { program := "ytlkchhedlbaomaa", sum := "5b0bfa7741c8ea30b119afa11150605e286d5efb73f5449a8c4538be1ba91818", func := "loop.example/wayboard/laws.FnRanksMany", spec := "fnRanksMany", unfollowed := true, recurses := true, apart := false, narrowed := true }
def FnRanksManyUptoSaid : Prop := fnRanksManyUptoRow.holds Try.pinned (OpenSpec.upto fnRanksManySpec)

/-- 'laws.FnRanksStill', WHERE WHAT IT READS IS OF BULK AT MOST 1048576: true; the input reads as it did. -/
def fnRanksStillUptoRow : OpenClaim := { program := "ytlkchhedlbaomaa", sum := "5b0bfa7741c8ea30b119afa11150605e286d5efb73f5449a8c4538be1ba91818", func := "loop.example/wayboard/laws.FnRanksStill", spec := "fnRanksStill", unfollowed := true, recurses := true, apart := false, narrowed := true }
def FnRanksStillUptoSaid : Prop := fnRanksStillUptoRow.holds Try.pinned (OpenSpec.upto fnRanksStillSpec)

/-- 'laws.FnExactRanksPlay', WHERE WHAT IT READS IS OF BULK AT MOST 1048576: true; the input reads as it did. -/
def fnExactRanksPlayUptoRow : OpenClaim := { program := "ytlkchhedlbaomaa", sum := "5b0bfa7741c8ea30b119afa11150605e286d5efb73f5449a8c4538be1ba91818", func := "loop.example/wayboard/laws.FnExactRanksPlay", spec := "fnExactRanksPlay", unfollowed := true, recurses := true, apart := false, narrowed := true }
def FnExactRanksPlayUptoSaid : Prop := fnExactRanksPlayUptoRow.holds Try.pinned (OpenSpec.upto fnExactRanksPlaySpec)

/-- 'laws.FnRanksHome', WHERE WHAT IT READS IS OF BULK AT MOST 1048576: true; the input reads as it did. -/
def fnRanksHomeUptoRow : OpenClaim := { program := "ytlkchhedlbaomaa", sum := "5b0bfa7741c8ea30b119afa11150605e286d5efb73f5449a8c4538be1ba91818", func := "loop.example/wayboard/laws.FnRanksHome", spec := "fnRanksHome", unfollowed := true, recurses := true, apart := false, narrowed := true }
def FnRanksHomeUptoSaid : Prop := fnRanksHomeUptoRow.holds Try.pinned (OpenSpec.upto fnRanksHomeSpec)

/-- 'laws.FnRanksNone', WHERE WHAT IT READS IS OF BULK AT MOST 1048576: true; the input reads as it did. -/
def fnRanksNoneUptoRow : OpenClaim := { program := "ytlkchhedlbaomaa", sum := "5b0bfa7741c8ea30b119afa11150605e286d5efb73f5449a8c4538be1ba91818", func := "loop.example/wayboard/laws.FnRanksNone", spec := "fnRanksNone", unfollowed := true, recurses := true, apart := false, narrowed := true }
def FnRanksNoneUptoSaid : Prop := fnRanksNoneUptoRow.holds Try.pinned (OpenSpec.upto fnRanksNoneSpec)

/-- 'laws.FnBadRing', WHERE WHAT IT READS IS OF BULK AT MOST 1048576: true; the input reads as it did. -/
def fnBadRingUptoRow : OpenClaim := { program := "ytlkchhedlbaomaa", sum := "5b0bfa7741c8ea30b119afa11150605e286d5efb73f5449a8c4538be1ba91818", func := "loop.example/wayboard/laws.FnBadRing", spec := "fnBadRing", unfollowed := true, recurses := true, apart := false, narrowed := true }
def FnBadRingUptoSaid : Prop := fnBadRingUptoRow.holds Try.pinned (OpenSpec.upto fnBadRingSpec)

/-- 'laws.FnExactRanksPick', WHERE WHAT IT READS IS OF BULK AT MOST 1048576: true; the input reads as it did. -/
def fnExactRanksPickUptoRow : OpenClaim := { program := "ytlkchhedlbaomaa", sum := "5b0bfa7741c8ea30b119afa11150605e286d5efb73f5449a8c4538be1ba91818", func := "loop.example/wayboard/laws.FnExactRanksPick", spec := "fnExactRanksPick", unfollowed := true, recurses := true, apart := false, narrowed := true }
def FnExactRanksPickUptoSaid : Prop := fnExactRanksPickUptoRow.holds Try.pinned (OpenSpec.upto fnExactRanksPickSpec)

/-- 'laws.FnExactRanksMany', WHERE WHAT IT READS IS OF BULK AT MOST 1048576: true; the input reads as it did. -/
def fnExactRanksManyUptoRow : OpenClaim := { program := "ytlkchhedlbaomaa", sum := "5b0bfa7741c8ea30b119afa11150605e286d5efb73f5449a8c4538be1ba91818", func := "loop.example/wayboard/laws.FnExactRanksMany", spec := "fnExactRanksMany", unfollowed := true, recurses := true, apart := false, narrowed := true }
def FnExactRanksManyUptoSaid : Prop := fnExactRanksManyUptoRow.holds Try.pinned (OpenSpec.upto fnExactRanksManySpec)

end Rows
end Go.Proofs.Ytlkchhedlbaomaa
