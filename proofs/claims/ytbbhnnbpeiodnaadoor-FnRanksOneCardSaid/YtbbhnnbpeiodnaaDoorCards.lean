/-
  DERIVED. GIVEN WITH THE SEED: THE CARDS: each row of YtbbhnnbpeiodnaaDoorRows.lean that lists a variable, with what it lists TIED to the program's text (the seventh form; the later family's looks); each row that meets fmt, with fmt's text TOLD by the authors' own Lean function (tested against real Go, not proved from fmt's source: count such statements apart). THE CARD IS WHAT COUNTS. Prove the row's statement (the work); the ties are given (YtbbhnnbpeiodnaaDoorTie.lean); close each card by the builder's one call (the guide's Derived/Test/ToyasCard.lean, 'card_holds'). Laid BY PROGRAM, IN A SANDBOX (cutbox-door.mjs). By AI agents, Wed Nov 11 2026. No macro, syntax, notation, axiom, sorry.
-/
import Derived.Test.YtbbhnnbpeiodnaaDoorRows
import GoSem.ClaimSeven
namespace Go.Proofs.YtbbhnnbpeiodnaaDoor
namespace Rows

/-- THE TIED CARD OF 'laws.FnRanksOne'. -/
def fnRanksOneCard : Claim7 := { stood := { row := fnRanksOneRow, standIns := [], harness := (true, "799e739e98eb21984c8abae2b94c0d986e711c2ff48e2548c28a0ac8fa2544e2"), looks := true }, kinds := [], alts := [], laidByText := true, laidKinds := [.data, .data, .data, .sentinel], laidTests := true, laidLooks := .later }
def FnRanksOneCardSaid : Prop := Claim7.holds Tryd.pinned (.plain (OpenSpec.ofChange fnRanksOneSpec)) fnRanksOneCard

/-- THE SECOND FORM's CARD OF 'laws.FnRanksOne'. -/
def fnRanksOneUptoCard : Claim7 := { stood := { row := fnRanksOneUptoRow, standIns := [], harness := (true, "799e739e98eb21984c8abae2b94c0d986e711c2ff48e2548c28a0ac8fa2544e2"), looks := true }, kinds := [], alts := [], laidByText := true, laidKinds := [.data, .data, .data, .sentinel], laidTests := true, laidLooks := .later }
def FnRanksOneUptoCardSaid : Prop := Claim7.holds Tryd.pinned (.plain (OpenSpec.upto fnRanksOneSpec)) fnRanksOneUptoCard
end Rows
end Go.Proofs.YtbbhnnbpeiodnaaDoor
