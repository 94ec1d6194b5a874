/-
  No cell of these rows narrows 'for every input' (looked for: loops, veiled, ifaces, maps, wideKeys, modest, calm, conditions, laid).
  DERIVED. THE GIVEN ROWS OF THIS SEAT. 6 by the template 'for every input the law returns true; each argument reads behind the call as it read before'; 0 by the template 'total and deterministic' (their statements: YtgpdkplpneklgaaTotals.lean).
  GIVEN WITH THE SEED: the statements are not yours to turn. If you find one false, say at which input.
  Laid BY PROGRAM, IN A SANDBOX (cutbox-rows.mjs): the forced cells as the released guide's own fill.sh prints them over the translation f2f0fcc40817a649… (all of the seat's roots in one cut). By AI agents, Wed Nov 11 2026. No macro, syntax, notation, axiom, sorry.
-/
import Derived.Test.YtgpdkplpneklgaaChecked
import GoSem.Claim
import GoSem.ClaimJoined
import GoSem.ClaimMapViews
import Derived.JoinedTies
import Derived.KernelRfl
namespace Go.Proofs.Ytgpdkplpneklgaa
/- THE CELL 'sum', in the pinned program and in every row, IS THE sha256 OF THE DUMP (.gsa) THAT YtgpdkplpneklgaaProg.lean LOADS. Nothing in Lean hashes anything: it is a label: what it is worth is what the hold of that sum in a sandbox is worth. -/
noncomputable def Try.pinned : Pinned := { name := "ytgpdkplpneklgaa", sum := "f2f0fcc40817a6498624d0e1212aaece3fdf6e12a9d1fee62fe878d7ad7ab228", checked := Try.checked }
namespace Rows
def none {H : Type} : Left H := { results := [], args := [] }

/-- 'laws.FnHomesForm': WHATEVER THE INPUT: true; the input reads as it did. -/
def fnHomesFormSpec : ChangeSpec := { name := "fnHomesForm", fn := fun _ => fun
  | [d1, d2] => { results := [.lit (.bool true)], args := [d1, d2] }
  | _ => none }
def fnHomesFormRow : OpenClaim := { program := "ytgpdkplpneklgaa", sum := "f2f0fcc40817a6498624d0e1212aaece3fdf6e12a9d1fee62fe878d7ad7ab228", func := "loop.example/wayboard/laws.FnHomesForm", spec := "fnHomesForm", plainKeys := false, apart := false }
def FnHomesFormSaid : Prop := fnHomesFormRow.holds Try.pinned (OpenSpec.ofChange fnHomesFormSpec)

/-- ITS FALSE NEIGHBOUR: 'it returns false'. Refute it at one input. -/
def fnHomesFormWrong : ChangeSpec := { name := "fnHomesForm", fn := fun _ => fun
  | [d1, d2] => { results := [.lit (.bool false)], args := [d1, d2] }
  | _ => none }
def FnHomesFormWrongFalsely : Prop := fnHomesFormRow.holds Try.pinned (OpenSpec.ofChange fnHomesFormWrong)

/-- 'laws.FnExactHomesOk': WHATEVER THE INPUT: true; the input reads as it did. -/
def fnExactHomesOkSpec : ChangeSpec := { name := "fnExactHomesOk", fn := fun _ => fun
  | [d1, d2] => { results := [.lit (.bool true)], args := [d1, d2] }
  | _ => none }
def fnExactHomesOkRow : OpenClaim := { program := "ytgpdkplpneklgaa", sum := "f2f0fcc40817a6498624d0e1212aaece3fdf6e12a9d1fee62fe878d7ad7ab228", func := "loop.example/wayboard/laws.FnExactHomesOk", spec := "fnExactHomesOk", plainKeys := false, apart := false }
def FnExactHomesOkSaid : Prop := fnExactHomesOkRow.holds Try.pinned (OpenSpec.ofChange fnExactHomesOkSpec)

/-- ITS FALSE NEIGHBOUR: 'it returns false'. Refute it at one input. -/
def fnExactHomesOkWrong : ChangeSpec := { name := "fnExactHomesOk", fn := fun _ => fun
  | [d1, d2] => { results := [.lit (.bool false)], args := [d1, d2] }
  | _ => none }
def FnExactHomesOkWrongFalsely : Prop := fnExactHomesOkRow.holds Try.pinned (OpenSpec.ofChange fnExactHomesOkWrong)

/-- 'laws.FnExactSendNext': WHATEVER THE INPUT: true; the input reads as it did. -/
def fnExactSendNextSpec : ChangeSpec := { name := "fnExactSendNext", fn := fun _ => fun
  | [d1, d2, d3] => { results := [.lit (.bool true)], args := [d1, d2, d3] }
  | _ => none }
def fnExactSendNextRow : OpenClaim := { program := "ytgpdkplpneklgaa", sum := "f2f0fcc40817a6498624d0e1212aaece3fdf6e12a9d1fee62fe878d7ad7ab228", func := "loop.example/wayboard/laws.FnExactSendNext", spec := "fnExactSendNext", unfollowed := true, recurses := true, plainKeys := false, apart := false }
def FnExactSendNextSaid : Prop := fnExactSendNextRow.holds Try.pinned (OpenSpec.ofChange fnExactSendNextSpec)

/-- ITS FALSE NEIGHBOUR: 'it returns false'. Refute it at one input. -/
def fnExactSendNextWrong : ChangeSpec := { name := "fnExactSendNext", fn := fun _ => fun
  | [d1, d2, d3] => { results := [.lit (.bool false)], args := [d1, d2, d3] }
  | _ => none }
def FnExactSendNextWrongFalsely : Prop := fnExactSendNextRow.holds Try.pinned (OpenSpec.ofChange fnExactSendNextWrong)

/-- 'laws.FnExactSendWay': WHATEVER THE INPUT: true; the input reads as it did. -/
def fnExactSendWaySpec : ChangeSpec := { name := "fnExactSendWay", fn := fun _ => fun
  | [d1, d2, d3] => { results := [.lit (.bool true)], args := [d1, d2, d3] }
  | _ => none }
def fnExactSendWayRow : OpenClaim := { program := "ytgpdkplpneklgaa", sum := "f2f0fcc40817a6498624d0e1212aaece3fdf6e12a9d1fee62fe878d7ad7ab228", func := "loop.example/wayboard/laws.FnExactSendWay", spec := "fnExactSendWay", unfollowed := true, recurses := true, plainKeys := false, apart := false }
def FnExactSendWaySaid : Prop := fnExactSendWayRow.holds Try.pinned (OpenSpec.ofChange fnExactSendWaySpec)

/-- ITS FALSE NEIGHBOUR: 'it returns false'. Refute it at one input. -/
def fnExactSendWayWrong : ChangeSpec := { name := "fnExactSendWay", fn := fun _ => fun
  | [d1, d2, d3] => { results := [.lit (.bool false)], args := [d1, d2, d3] }
  | _ => none }
def FnExactSendWayWrongFalsely : Prop := fnExactSendWayRow.holds Try.pinned (OpenSpec.ofChange fnExactSendWayWrong)

/-- 'laws.FnSendNext': WHATEVER THE INPUT: true; the input reads as it did. -/
def fnSendNextSpec : ChangeSpec := { name := "fnSendNext", fn := fun _ => fun
  | [d] => { results := [.lit (.bool true)], args := [d] }
  | _ => none }
def fnSendNextRow : OpenClaim := { program := "ytgpdkplpneklgaa", sum := "f2f0fcc40817a6498624d0e1212aaece3fdf6e12a9d1fee62fe878d7ad7ab228", func := "loop.example/wayboard/laws.FnSendNext", spec := "fnSendNext", unfollowed := true, recurses := true, plainKeys := false, apart := false }
def FnSendNextSaid : Prop := fnSendNextRow.holds Try.pinned (OpenSpec.ofChange fnSendNextSpec)

/-- ITS FALSE NEIGHBOUR: 'it returns false'. Refute it at one input. -/
def fnSendNextWrong : ChangeSpec := { name := "fnSendNext", fn := fun _ => fun
  | [d] => { results := [.lit (.bool false)], args := [d] }
  | _ => none }
def FnSendNextWrongFalsely : Prop := fnSendNextRow.holds Try.pinned (OpenSpec.ofChange fnSendNextWrong)

/-- 'laws.FnSendWay': WHATEVER THE INPUT: true; the input reads as it did. -/
def fnSendWaySpec : ChangeSpec := { name := "fnSendWay", fn := fun _ => fun
  | [d] => { results := [.lit (.bool true)], args := [d] }
  | _ => none }
def fnSendWayRow : OpenClaim := { program := "ytgpdkplpneklgaa", sum := "f2f0fcc40817a6498624d0e1212aaece3fdf6e12a9d1fee62fe878d7ad7ab228", func := "loop.example/wayboard/laws.FnSendWay", spec := "fnSendWay", unfollowed := true, recurses := true, plainKeys := false, apart := false }
def FnSendWaySaid : Prop := fnSendWayRow.holds Try.pinned (OpenSpec.ofChange fnSendWaySpec)

/-- ITS FALSE NEIGHBOUR: 'it returns false'. Refute it at one input. -/
def fnSendWayWrong : ChangeSpec := { name := "fnSendWay", fn := fun _ => fun
  | [d] => { results := [.lit (.bool false)], args := [d] }
  | _ => none }
def FnSendWayWrongFalsely : Prop := fnSendWayRow.holds Try.pinned (OpenSpec.ofChange fnSendWayWrong)

/- THE SECOND FORM. 'bulk': how many values and letters a reading holds, each counted each time it is reached (what is shared counts as often as it is met; a slice's spare places count too). A statement '..UptoSaid' is the law's where the arguments, and the package variables that the reading takes, are together of bulk at most 1048576: NARROWER than '..Said'. Prove '..Said' where nothing that the law and all that it calls make is longer than what came in: it says more and counts as full. Else prove '..UptoSaid'. A law counts once. -/
mutual
def uptoBulk {H : Type} : DataW H → Nat
  | .lit (.string bytes) => bytes.length + 1
  | .lit _ => 1
  | .nil => 1
  | .ptr d => uptoBulk d + 1
  | .slice elems spare => uptoBulkAll elems + uptoBulkAll spare + 1
  | .agg parts => uptoBulkAll parts + 1
  | .iface _ d => uptoBulk d + 1
  | .map entries => uptoBulkEntries entries + 1
  | .held _ => 1
def uptoBulkAll {H : Type} : List (DataW H) → Nat
  | [] => 0
  | d :: r => uptoBulk d + uptoBulkAll r
def uptoBulkEntries {H : Type} : List (Lit × DataW H) → Nat
  | [] => 0
  | x :: r => uptoBulkEntry x + uptoBulkEntries r
def uptoBulkEntry {H : Type} : Lit × DataW H → Nat
  | (.string bytes, d) => bytes.length + uptoBulk d + 1
  | (_, d) => uptoBulk d + 1
 end
def uptoSmall : (H : Type) → List (DataW H) → Bool := fun _ ds => decide (uptoBulkAll ds ≤ 1048576)
def OpenSpec.upto (s : _root_.Go.ChangeSpec) : _root_.Go.OpenSpec := { _root_.Go.OpenSpec.ofChange s with cond := some uptoSmall }

/-- 'laws.FnHomesForm', WHERE WHAT IT READS IS OF BULK AT MOST 1048576: true; the input reads as it did. -/
def fnHomesFormUptoRow : OpenClaim := { program := "ytgpdkplpneklgaa", sum := "f2f0fcc40817a6498624d0e1212aaece3fdf6e12a9d1fee62fe878d7ad7ab228", func := "loop.example/wayboard/laws.FnHomesForm", spec := "fnHomesForm", plainKeys := false, apart := false, narrowed := true }
def FnHomesFormUptoSaid : Prop := fnHomesFormUptoRow.holds Try.pinned (OpenSpec.upto fnHomesFormSpec)

/-- 'laws.FnExactHomesOk', WHERE WHAT IT READS IS OF BULK AT MOST 1048576: true; the input reads as it did. -/
def fnExactHomesOkUptoRow : OpenClaim := { program := "ytgpdkplpneklgaa", sum := "f2f0fcc40817a6498624d0e1212aaece3fdf6e12a9d1fee62fe878d7ad7ab228", func := "loop.example/wayboard/laws.FnExactHomesOk", spec := "fnExactHomesOk", plainKeys := false, apart := false, narrowed := true }
def FnExactHomesOkUptoSaid : Prop := fnExactHomesOkUptoRow.holds Try.pinned (OpenSpec.upto fnExactHomesOkSpec)

/-- 'laws.FnExactSendNext', WHERE WHAT IT READS IS OF BULK AT MOST 1048576: true; the input reads as it did. -/
def fnExactSendNextUptoRow : OpenClaim := { program := "ytgpdkplpneklgaa", sum := "f2f0fcc40817a6498624d0e1212aaece3fdf6e12a9d1fee62fe878d7ad7ab228", func := "loop.example/wayboard/laws.FnExactSendNext", spec := "fnExactSendNext", unfollowed := true, recurses := true, plainKeys := false, apart := false, narrowed := true }
def FnExactSendNextUptoSaid : Prop := fnExactSendNextUptoRow.holds Try.pinned (OpenSpec.upto fnExactSendNextSpec)

/-- 'laws.FnExactSendWay', WHERE WHAT IT READS IS OF BULK AT MOST 1048576: true; the input reads as it did. -/
def fnExactSendWayUptoRow : OpenClaim := { program := "ytgpdkplpneklgaa", sum := "f2f0fcc40817a6498624d0e1212aaece3fdf6e12a9d1fee62fe878d7ad7ab228", func := "loop.example/wayboard/laws.FnExactSendWay", spec := "fnExactSendWay", unfollowed := true, recurses := true, plainKeys := false, apart := false, narrowed := true }
def FnExactSendWayUptoSaid : Prop := fnExactSendWayUptoRow.holds Try.pinned (OpenSpec.upto fnExactSendWaySpec)

/-- 'laws.FnSendNext', WHERE WHAT IT READS IS OF BULK AT MOST 1048576: true; the input reads as it did. -/
def fnSendNextUptoRow : OpenClaim := { program := "ytgpdkplpneklgaa", sum := "f2f0fcc40817a6498624d0e1212aaece3fdf6e12a9d1fee62fe878d7ad7ab228", func := "loop.example/wayboard/laws.FnSendNext", spec := "fnSendNext", unfollowed := true, recurses := true, plainKeys := false, apart := false, narrowed := true }
def FnSendNextUptoSaid : Prop := fnSendNextUptoRow.holds Try.pinned (OpenSpec.upto fnSendNextSpec)

/-- 'laws.FnSendWay', WHERE WHAT IT READS IS OF BULK AT MOST 1048576: true; the input reads as it did. -/
def fnSendWayUptoRow : OpenClaim := { program := "ytgpdkplpneklgaa", sum := "f2f0fcc40817a6498624d0e1212aaece3fdf6e12a9d1fee62fe878d7ad7ab228", func := "loop.example/wayboard/laws.FnSendWay", spec := "fnSendWay", unfollowed := true, recurses := true, plainKeys := false, apart := false, narrowed := true }
def FnSendWayUptoSaid : Prop := fnSendWayUptoRow.holds Try.pinned (OpenSpec.upto fnSendWaySpec)

end Rows
end Go.Proofs.Ytgpdkplpneklgaa
