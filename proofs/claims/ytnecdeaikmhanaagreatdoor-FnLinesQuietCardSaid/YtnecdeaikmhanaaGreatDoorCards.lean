/-
  DERIVED. GIVEN WITH THE SEED: THE CARDS: each row of YtnecdeaikmhanaaGreatDoorRows.lean that lists a variable, with what it lists TIED to the program's text (the seventh form; the later family's looks); each row that meets fmt, with fmt's text TOLD by the authors' own Lean function (tested against real Go, not proved from fmt's source: count such statements apart). THE CARD IS WHAT COUNTS. Prove the row's statement (the work); the ties are given (YtnecdeaikmhanaaGreatDoorTie.lean); close each card by the builder's one call (the guide's Derived/Test/ToyasCard.lean, 'card_holds'). Laid BY PROGRAM, IN A SANDBOX (cutbox-door.mjs). By AI agents, Wed Nov 11 2026. No macro, syntax, notation, axiom, sorry.
-/
import Derived.Test.YtnecdeaikmhanaaGreatDoorRows
import GoSem.ClaimSeven
namespace Go.Proofs.YtnecdeaikmhanaaGreatDoor
namespace Rows

/-- THE TIED CARD OF 'laws.FnLinesRun'. -/
def fnLinesRunCard : Claim7 := { stood := { row := fnLinesRunRow, standIns := [], harness := (true, "938ec15aa5442015f3af1926d867d028ba9025a5a0335936387bfe8d270aace5"), looks := true }, kinds := [], alts := [], laidByText := true, laidKinds := [.data, .data, .data, .data, .sentinel, .sentinel, .sentinel, .pinned], laidTests := true, laidLooks := .later }
def FnLinesRunCardSaid : Prop := Claim7.holds Tryz.pinned (.plain (OpenSpec.ofChange fnLinesRunSpec)) fnLinesRunCard

/-- THE TIED CARD OF 'laws.FnLinesSend'. -/
def fnLinesSendCard : Claim7 := { stood := { row := fnLinesSendRow, standIns := [], harness := (true, "938ec15aa5442015f3af1926d867d028ba9025a5a0335936387bfe8d270aace5"), looks := true }, kinds := [], alts := [], laidByText := true, laidKinds := [.data, .data, .data, .data, .sentinel, .sentinel, .sentinel, .pinned], laidTests := true, laidLooks := .later }
def FnLinesSendCardSaid : Prop := Claim7.holds Tryz.pinned (.plain (OpenSpec.ofChange fnLinesSendSpec)) fnLinesSendCard

/-- THE TIED CARD OF 'laws.FnLinesWays'. -/
def fnLinesWaysCard : Claim7 := { stood := { row := fnLinesWaysRow, standIns := [], harness := (true, "938ec15aa5442015f3af1926d867d028ba9025a5a0335936387bfe8d270aace5"), looks := true }, kinds := [], alts := [], laidByText := true, laidKinds := [.data, .data, .data, .data, .sentinel, .sentinel, .sentinel, .pinned], laidTests := true, laidLooks := .later }
def FnLinesWaysCardSaid : Prop := Claim7.holds Tryz.pinned (.plain (OpenSpec.ofChange fnLinesWaysSpec)) fnLinesWaysCard

/-- THE TIED CARD OF 'laws.FnExactLinesRun'. -/
def fnExactLinesRunCard : Claim7 := { stood := { row := fnExactLinesRunRow, standIns := [], harness := (true, "938ec15aa5442015f3af1926d867d028ba9025a5a0335936387bfe8d270aace5"), looks := true }, kinds := [], alts := [], laidByText := true, laidKinds := [.data, .data, .data, .data, .sentinel, .sentinel, .sentinel, .pinned], laidTests := true, laidLooks := .later }
def FnExactLinesRunCardSaid : Prop := Claim7.holds Tryz.pinned (.plain (OpenSpec.ofChange fnExactLinesRunSpec)) fnExactLinesRunCard

/-- THE TIED CARD OF 'laws.FnLinesFree'. -/
def fnLinesFreeCard : Claim7 := { stood := { row := fnLinesFreeRow, standIns := [], harness := (true, "938ec15aa5442015f3af1926d867d028ba9025a5a0335936387bfe8d270aace5"), looks := true }, kinds := [], alts := [], laidByText := true, laidKinds := [.data, .data, .data, .data, .sentinel, .sentinel, .sentinel, .pinned], laidTests := true, laidLooks := .later }
def FnLinesFreeCardSaid : Prop := Claim7.holds Tryz.pinned (.plain (OpenSpec.ofChange fnLinesFreeSpec)) fnLinesFreeCard

/-- THE TIED CARD OF 'laws.FnLinesLast'. -/
def fnLinesLastCard : Claim7 := { stood := { row := fnLinesLastRow, standIns := [], harness := (true, "938ec15aa5442015f3af1926d867d028ba9025a5a0335936387bfe8d270aace5"), looks := true }, kinds := [], alts := [], laidByText := true, laidKinds := [.data, .data, .data, .data, .sentinel, .sentinel, .sentinel, .pinned], laidTests := true, laidLooks := .later }
def FnLinesLastCardSaid : Prop := Claim7.holds Tryz.pinned (.plain (OpenSpec.ofChange fnLinesLastSpec)) fnLinesLastCard

/-- THE TIED CARD OF 'laws.FnLinesNone'. -/
def fnLinesNoneCard : Claim7 := { stood := { row := fnLinesNoneRow, standIns := [], harness := (true, "938ec15aa5442015f3af1926d867d028ba9025a5a0335936387bfe8d270aace5"), looks := true }, kinds := [], alts := [], laidByText := true, laidKinds := [.data, .data, .data, .data, .sentinel, .sentinel, .sentinel, .pinned], laidTests := true, laidLooks := .later }
def FnLinesNoneCardSaid : Prop := Claim7.holds Tryz.pinned (.plain (OpenSpec.ofChange fnLinesNoneSpec)) fnLinesNoneCard

/-- THE TIED CARD OF 'laws.FnLinesOrder'. -/
def fnLinesOrderCard : Claim7 := { stood := { row := fnLinesOrderRow, standIns := [], harness := (true, "938ec15aa5442015f3af1926d867d028ba9025a5a0335936387bfe8d270aace5"), looks := true }, kinds := [], alts := [], laidByText := true, laidKinds := [.data, .data, .data, .data, .sentinel, .sentinel, .sentinel, .pinned], laidTests := true, laidLooks := .later }
def FnLinesOrderCardSaid : Prop := Claim7.holds Tryz.pinned (.plain (OpenSpec.ofChange fnLinesOrderSpec)) fnLinesOrderCard

/-- THE TIED CARD OF 'laws.FnLinesQuiet'. -/
def fnLinesQuietCard : Claim7 := { stood := { row := fnLinesQuietRow, standIns := [], harness := (true, "938ec15aa5442015f3af1926d867d028ba9025a5a0335936387bfe8d270aace5"), looks := true }, kinds := [], alts := [], laidByText := true, laidKinds := [.data, .data, .data, .data, .sentinel, .sentinel, .sentinel, .pinned], laidTests := true, laidLooks := .later }
def FnLinesQuietCardSaid : Prop := Claim7.holds Tryz.pinned (.plain (OpenSpec.ofChange fnLinesQuietSpec)) fnLinesQuietCard

/-- THE SECOND FORM's CARD OF 'laws.FnLinesRun'. -/
def fnLinesRunUptoCard : Claim7 := { stood := { row := fnLinesRunUptoRow, standIns := [], harness := (true, "938ec15aa5442015f3af1926d867d028ba9025a5a0335936387bfe8d270aace5"), looks := true }, kinds := [], alts := [], laidByText := true, laidKinds := [.data, .data, .data, .data, .sentinel, .sentinel, .sentinel, .pinned], laidTests := true, laidLooks := .later }
def FnLinesRunUptoCardSaid : Prop := Claim7.holds Tryz.pinned (.plain (OpenSpec.upto fnLinesRunSpec)) fnLinesRunUptoCard

/-- THE SECOND FORM's CARD OF 'laws.FnLinesSend'. -/
def fnLinesSendUptoCard : Claim7 := { stood := { row := fnLinesSendUptoRow, standIns := [], harness := (true, "938ec15aa5442015f3af1926d867d028ba9025a5a0335936387bfe8d270aace5"), looks := true }, kinds := [], alts := [], laidByText := true, laidKinds := [.data, .data, .data, .data, .sentinel, .sentinel, .sentinel, .pinned], laidTests := true, laidLooks := .later }
def FnLinesSendUptoCardSaid : Prop := Claim7.holds Tryz.pinned (.plain (OpenSpec.upto fnLinesSendSpec)) fnLinesSendUptoCard

/-- THE SECOND FORM's CARD OF 'laws.FnLinesWays'. -/
def fnLinesWaysUptoCard : Claim7 := { stood := { row := fnLinesWaysUptoRow, standIns := [], harness := (true, "938ec15aa5442015f3af1926d867d028ba9025a5a0335936387bfe8d270aace5"), looks := true }, kinds := [], alts := [], laidByText := true, laidKinds := [.data, .data, .data, .data, .sentinel, .sentinel, .sentinel, .pinned], laidTests := true, laidLooks := .later }
def FnLinesWaysUptoCardSaid : Prop := Claim7.holds Tryz.pinned (.plain (OpenSpec.upto fnLinesWaysSpec)) fnLinesWaysUptoCard

/-- THE SECOND FORM's CARD OF 'laws.FnExactLinesRun'. -/
def fnExactLinesRunUptoCard : Claim7 := { stood := { row := fnExactLinesRunUptoRow, standIns := [], harness := (true, "938ec15aa5442015f3af1926d867d028ba9025a5a0335936387bfe8d270aace5"), looks := true }, kinds := [], alts := [], laidByText := true, laidKinds := [.data, .data, .data, .data, .sentinel, .sentinel, .sentinel, .pinned], laidTests := true, laidLooks := .later }
def FnExactLinesRunUptoCardSaid : Prop := Claim7.holds Tryz.pinned (.plain (OpenSpec.upto fnExactLinesRunSpec)) fnExactLinesRunUptoCard

/-- THE SECOND FORM's CARD OF 'laws.FnLinesFree'. -/
def fnLinesFreeUptoCard : Claim7 := { stood := { row := fnLinesFreeUptoRow, standIns := [], harness := (true, "938ec15aa5442015f3af1926d867d028ba9025a5a0335936387bfe8d270aace5"), looks := true }, kinds := [], alts := [], laidByText := true, laidKinds := [.data, .data, .data, .data, .sentinel, .sentinel, .sentinel, .pinned], laidTests := true, laidLooks := .later }
def FnLinesFreeUptoCardSaid : Prop := Claim7.holds Tryz.pinned (.plain (OpenSpec.upto fnLinesFreeSpec)) fnLinesFreeUptoCard

/-- THE SECOND FORM's CARD OF 'laws.FnLinesLast'. -/
def fnLinesLastUptoCard : Claim7 := { stood := { row := fnLinesLastUptoRow, standIns := [], harness := (true, "938ec15aa5442015f3af1926d867d028ba9025a5a0335936387bfe8d270aace5"), looks := true }, kinds := [], alts := [], laidByText := true, laidKinds := [.data, .data, .data, .data, .sentinel, .sentinel, .sentinel, .pinned], laidTests := true, laidLooks := .later }
def FnLinesLastUptoCardSaid : Prop := Claim7.holds Tryz.pinned (.plain (OpenSpec.upto fnLinesLastSpec)) fnLinesLastUptoCard

/-- THE SECOND FORM's CARD OF 'laws.FnLinesNone'. -/
def fnLinesNoneUptoCard : Claim7 := { stood := { row := fnLinesNoneUptoRow, standIns := [], harness := (true, "938ec15aa5442015f3af1926d867d028ba9025a5a0335936387bfe8d270aace5"), looks := true }, kinds := [], alts := [], laidByText := true, laidKinds := [.data, .data, .data, .data, .sentinel, .sentinel, .sentinel, .pinned], laidTests := true, laidLooks := .later }
def FnLinesNoneUptoCardSaid : Prop := Claim7.holds Tryz.pinned (.plain (OpenSpec.upto fnLinesNoneSpec)) fnLinesNoneUptoCard

/-- THE SECOND FORM's CARD OF 'laws.FnLinesOrder'. -/
def fnLinesOrderUptoCard : Claim7 := { stood := { row := fnLinesOrderUptoRow, standIns := [], harness := (true, "938ec15aa5442015f3af1926d867d028ba9025a5a0335936387bfe8d270aace5"), looks := true }, kinds := [], alts := [], laidByText := true, laidKinds := [.data, .data, .data, .data, .sentinel, .sentinel, .sentinel, .pinned], laidTests := true, laidLooks := .later }
def FnLinesOrderUptoCardSaid : Prop := Claim7.holds Tryz.pinned (.plain (OpenSpec.upto fnLinesOrderSpec)) fnLinesOrderUptoCard

/-- THE SECOND FORM's CARD OF 'laws.FnLinesQuiet'. -/
def fnLinesQuietUptoCard : Claim7 := { stood := { row := fnLinesQuietUptoRow, standIns := [], harness := (true, "938ec15aa5442015f3af1926d867d028ba9025a5a0335936387bfe8d270aace5"), looks := true }, kinds := [], alts := [], laidByText := true, laidKinds := [.data, .data, .data, .data, .sentinel, .sentinel, .sentinel, .pinned], laidTests := true, laidLooks := .later }
def FnLinesQuietUptoCardSaid : Prop := Claim7.holds Tryz.pinned (.plain (OpenSpec.upto fnLinesQuietSpec)) fnLinesQuietUptoCard
end Rows
end Go.Proofs.YtnecdeaikmhanaaGreatDoor
