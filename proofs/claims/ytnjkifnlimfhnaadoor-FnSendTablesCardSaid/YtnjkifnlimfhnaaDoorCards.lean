/-
  DERIVED. GIVEN WITH THE SEED: THE CARDS: each row of YtnjkifnlimfhnaaDoorRows.lean that lists a variable, with what it lists TIED to the program's text (the seventh form; the later family's looks); each row that meets fmt, with fmt's text TOLD by the authors' own Lean function (tested against real Go, not proved from fmt's source: count such statements apart). THE CARD IS WHAT COUNTS. Prove the row's statement (the work); the ties are given (YtnjkifnlimfhnaaDoorTie.lean); close each card by the builder's one call (the guide's Derived/Test/ToyasCard.lean, 'card_holds'). Laid BY PROGRAM, IN A SANDBOX (cutbox-door.mjs). By AI agents, Wed Nov 11 2026. No macro, syntax, notation, axiom, sorry.
-/
import Derived.Test.YtnjkifnlimfhnaaDoorRows
import GoSem.ClaimSeven
namespace Go.Proofs.YtnjkifnlimfhnaaDoor
namespace Rows

/-- THE TIED CARD OF 'laws.FnTablesHome'. -/
def fnTablesHomeCard : Claim7 := { stood := { row := fnTablesHomeRow, standIns := [], harness := (true, "67624de736323ced6947e88bb78f559c653c7e7e1fca4007c5e87e8a081fd616"), looks := true }, kinds := [], alts := [], laidByText := true, laidKinds := [.data, .data, .data, .sentinel], laidTests := true, laidLooks := .later }
def FnTablesHomeCardSaid : Prop := Claim7.holds Tryd.pinned (.plain (OpenSpec.ofChange fnTablesHomeSpec)) fnTablesHomeCard

/-- THE TIED CARD OF 'laws.FnSendTables'. -/
def fnSendTablesCard : Claim7 := { stood := { row := fnSendTablesRow, standIns := [], harness := (true, "67624de736323ced6947e88bb78f559c653c7e7e1fca4007c5e87e8a081fd616"), looks := true }, kinds := [], alts := [], laidByText := true, laidKinds := [.data, .data, .data, .sentinel], laidTests := true, laidLooks := .later }
def FnSendTablesCardSaid : Prop := Claim7.holds Tryd.pinned (.plain (OpenSpec.ofChange fnSendTablesSpec)) fnSendTablesCard

/-- THE TIED CARD OF 'laws.FnSendRest'. -/
def fnSendRestCard : Claim7 := { stood := { row := fnSendRestRow, standIns := [], harness := (true, "67624de736323ced6947e88bb78f559c653c7e7e1fca4007c5e87e8a081fd616"), looks := true }, kinds := [], alts := [], laidByText := true, laidKinds := [.data, .data, .data, .sentinel], laidTests := true, laidLooks := .later }
def FnSendRestCardSaid : Prop := Claim7.holds Tryd.pinned (.plain (OpenSpec.ofChange fnSendRestSpec)) fnSendRestCard

/-- THE SECOND FORM's CARD OF 'laws.FnTablesHome'. -/
def fnTablesHomeUptoCard : Claim7 := { stood := { row := fnTablesHomeUptoRow, standIns := [], harness := (true, "67624de736323ced6947e88bb78f559c653c7e7e1fca4007c5e87e8a081fd616"), looks := true }, kinds := [], alts := [], laidByText := true, laidKinds := [.data, .data, .data, .sentinel], laidTests := true, laidLooks := .later }
def FnTablesHomeUptoCardSaid : Prop := Claim7.holds Tryd.pinned (.plain (OpenSpec.upto fnTablesHomeSpec)) fnTablesHomeUptoCard

/-- THE SECOND FORM's CARD OF 'laws.FnSendTables'. -/
def fnSendTablesUptoCard : Claim7 := { stood := { row := fnSendTablesUptoRow, standIns := [], harness := (true, "67624de736323ced6947e88bb78f559c653c7e7e1fca4007c5e87e8a081fd616"), looks := true }, kinds := [], alts := [], laidByText := true, laidKinds := [.data, .data, .data, .sentinel], laidTests := true, laidLooks := .later }
def FnSendTablesUptoCardSaid : Prop := Claim7.holds Tryd.pinned (.plain (OpenSpec.upto fnSendTablesSpec)) fnSendTablesUptoCard

/-- THE SECOND FORM's CARD OF 'laws.FnSendRest'. -/
def fnSendRestUptoCard : Claim7 := { stood := { row := fnSendRestUptoRow, standIns := [], harness := (true, "67624de736323ced6947e88bb78f559c653c7e7e1fca4007c5e87e8a081fd616"), looks := true }, kinds := [], alts := [], laidByText := true, laidKinds := [.data, .data, .data, .sentinel], laidTests := true, laidLooks := .later }
def FnSendRestUptoCardSaid : Prop := Claim7.holds Tryd.pinned (.plain (OpenSpec.upto fnSendRestSpec)) fnSendRestUptoCard
end Rows
end Go.Proofs.YtnjkifnlimfhnaaDoor
