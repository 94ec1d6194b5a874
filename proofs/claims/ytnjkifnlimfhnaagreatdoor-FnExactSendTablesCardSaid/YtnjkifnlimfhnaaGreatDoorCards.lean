/-
  DERIVED. GIVEN WITH THE SEED: THE CARDS: each row of YtnjkifnlimfhnaaGreatDoorRows.lean that lists a variable, with what it lists TIED to the program's text (the seventh form; the later family's looks); each row that meets fmt, with fmt's text TOLD by the authors' own Lean function (tested against real Go, not proved from fmt's source: count such statements apart). THE CARD IS WHAT COUNTS. Prove the row's statement (the work); the ties are given (YtnjkifnlimfhnaaGreatDoorTie.lean); close each card by the builder's one call (the guide's Derived/Test/ToyasCard.lean, 'card_holds'). Laid BY PROGRAM, IN A SANDBOX (cutbox-door.mjs). By AI agents, Wed Nov 11 2026. No macro, syntax, notation, axiom, sorry.
-/
import Derived.Test.YtnjkifnlimfhnaaGreatDoorRows
import GoSem.ClaimSeven
namespace Go.Proofs.YtnjkifnlimfhnaaGreatDoor
namespace Rows

/-- THE TIED CARD OF 'laws.FnTablesLess'. -/
def fnTablesLessCard : Claim7 := { stood := { row := fnTablesLessRow, standIns := [], harness := (true, "79df868bff5607e585805161f7cb5ea192f1981eeeac24d1a0fc6ffb5783ec9c"), looks := true }, kinds := [], alts := [], laidByText := true, laidKinds := [.data, .data, .data, .sentinel], laidTests := true, laidLooks := .later }
def FnTablesLessCardSaid : Prop := Claim7.holds Tryz.pinned (.plain (OpenSpec.ofChange fnTablesLessSpec)) fnTablesLessCard

/-- THE TIED CARD OF 'laws.FnSendOwn'. -/
def fnSendOwnCard : Claim7 := { stood := { row := fnSendOwnRow, standIns := [], harness := (true, "79df868bff5607e585805161f7cb5ea192f1981eeeac24d1a0fc6ffb5783ec9c"), looks := true }, kinds := [], alts := [], laidByText := true, laidKinds := [.data, .data, .data, .sentinel], laidTests := true, laidLooks := .later }
def FnSendOwnCardSaid : Prop := Claim7.holds Tryz.pinned (.plain (OpenSpec.ofChange fnSendOwnSpec)) fnSendOwnCard

/-- THE TIED CARD OF 'laws.FnSendMany'. -/
def fnSendManyCard : Claim7 := { stood := { row := fnSendManyRow, standIns := [], harness := (true, "79df868bff5607e585805161f7cb5ea192f1981eeeac24d1a0fc6ffb5783ec9c"), looks := true }, kinds := [], alts := [], laidByText := true, laidKinds := [.data, .data, .data, .sentinel], laidTests := true, laidLooks := .later }
def FnSendManyCardSaid : Prop := Claim7.holds Tryz.pinned (.plain (OpenSpec.ofChange fnSendManySpec)) fnSendManyCard

/-- THE TIED CARD OF 'laws.FnExactSendTables'. -/
def fnExactSendTablesCard : Claim7 := { stood := { row := fnExactSendTablesRow, standIns := [], harness := (true, "79df868bff5607e585805161f7cb5ea192f1981eeeac24d1a0fc6ffb5783ec9c"), looks := true }, kinds := [], alts := [], laidByText := true, laidKinds := [.data, .data, .data, .sentinel], laidTests := true, laidLooks := .later }
def FnExactSendTablesCardSaid : Prop := Claim7.holds Tryz.pinned (.plain (OpenSpec.ofChange fnExactSendTablesSpec)) fnExactSendTablesCard

/-- THE TIED CARD OF 'laws.FnSendHome'. -/
def fnSendHomeCard : Claim7 := { stood := { row := fnSendHomeRow, standIns := [], harness := (true, "79df868bff5607e585805161f7cb5ea192f1981eeeac24d1a0fc6ffb5783ec9c"), looks := true }, kinds := [], alts := [], laidByText := true, laidKinds := [.data, .data, .data, .sentinel], laidTests := true, laidLooks := .later }
def FnSendHomeCardSaid : Prop := Claim7.holds Tryz.pinned (.plain (OpenSpec.ofChange fnSendHomeSpec)) fnSendHomeCard

/-- THE SECOND FORM's CARD OF 'laws.FnTablesLess'. -/
def fnTablesLessUptoCard : Claim7 := { stood := { row := fnTablesLessUptoRow, standIns := [], harness := (true, "79df868bff5607e585805161f7cb5ea192f1981eeeac24d1a0fc6ffb5783ec9c"), looks := true }, kinds := [], alts := [], laidByText := true, laidKinds := [.data, .data, .data, .sentinel], laidTests := true, laidLooks := .later }
def FnTablesLessUptoCardSaid : Prop := Claim7.holds Tryz.pinned (.plain (OpenSpec.upto fnTablesLessSpec)) fnTablesLessUptoCard

/-- THE SECOND FORM's CARD OF 'laws.FnSendOwn'. -/
def fnSendOwnUptoCard : Claim7 := { stood := { row := fnSendOwnUptoRow, standIns := [], harness := (true, "79df868bff5607e585805161f7cb5ea192f1981eeeac24d1a0fc6ffb5783ec9c"), looks := true }, kinds := [], alts := [], laidByText := true, laidKinds := [.data, .data, .data, .sentinel], laidTests := true, laidLooks := .later }
def FnSendOwnUptoCardSaid : Prop := Claim7.holds Tryz.pinned (.plain (OpenSpec.upto fnSendOwnSpec)) fnSendOwnUptoCard

/-- THE SECOND FORM's CARD OF 'laws.FnSendMany'. -/
def fnSendManyUptoCard : Claim7 := { stood := { row := fnSendManyUptoRow, standIns := [], harness := (true, "79df868bff5607e585805161f7cb5ea192f1981eeeac24d1a0fc6ffb5783ec9c"), looks := true }, kinds := [], alts := [], laidByText := true, laidKinds := [.data, .data, .data, .sentinel], laidTests := true, laidLooks := .later }
def FnSendManyUptoCardSaid : Prop := Claim7.holds Tryz.pinned (.plain (OpenSpec.upto fnSendManySpec)) fnSendManyUptoCard

/-- THE SECOND FORM's CARD OF 'laws.FnExactSendTables'. -/
def fnExactSendTablesUptoCard : Claim7 := { stood := { row := fnExactSendTablesUptoRow, standIns := [], harness := (true, "79df868bff5607e585805161f7cb5ea192f1981eeeac24d1a0fc6ffb5783ec9c"), looks := true }, kinds := [], alts := [], laidByText := true, laidKinds := [.data, .data, .data, .sentinel], laidTests := true, laidLooks := .later }
def FnExactSendTablesUptoCardSaid : Prop := Claim7.holds Tryz.pinned (.plain (OpenSpec.upto fnExactSendTablesSpec)) fnExactSendTablesUptoCard

/-- THE SECOND FORM's CARD OF 'laws.FnSendHome'. -/
def fnSendHomeUptoCard : Claim7 := { stood := { row := fnSendHomeUptoRow, standIns := [], harness := (true, "79df868bff5607e585805161f7cb5ea192f1981eeeac24d1a0fc6ffb5783ec9c"), looks := true }, kinds := [], alts := [], laidByText := true, laidKinds := [.data, .data, .data, .sentinel], laidTests := true, laidLooks := .later }
def FnSendHomeUptoCardSaid : Prop := Claim7.holds Tryz.pinned (.plain (OpenSpec.upto fnSendHomeSpec)) fnSendHomeUptoCard
end Rows
end Go.Proofs.YtnjkifnlimfhnaaGreatDoor
