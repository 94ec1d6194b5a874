/-
  DERIVED. GIVEN WITH THE SEED: THE CARDS: each row of YtlpibfafpljedaaGreatDoorRows.lean that lists a variable, with what it lists TIED to the program's text (the seventh form; the later family's looks); each row that meets fmt, with fmt's text TOLD by the authors' own Lean function (tested against real Go, not proved from fmt's source: count such statements apart). THE CARD IS WHAT COUNTS. Prove the row's statement (the work); the ties are given (YtlpibfafpljedaaGreatDoorTie.lean); close each card by the builder's one call (the guide's Derived/Test/ToyasCard.lean, 'card_holds'). Laid BY PROGRAM, IN A SANDBOX (cutbox-door.mjs). By AI agents, Wed Nov 11 2026. No macro, syntax, notation, axiom, sorry.
-/
import Derived.Test.YtlpibfafpljedaaGreatDoorRows
import GoSem.ClaimSeven
namespace Go.Proofs.YtlpibfafpljedaaGreatDoor
namespace Rows

/-- THE TIED CARD OF 'laws.FnSendHome'. -/
def fnSendHomeCard : Claim7 := { stood := { row := fnSendHomeRow, standIns := [], harness := (true, "97d11972ebdbd556e81f99027e7e9aefe835f62b25637342cf5ea17124f2266b"), looks := true }, kinds := [], alts := [], laidByText := true, laidKinds := [.data, .data, .data, .sentinel], laidTests := true, laidLooks := .later }
def FnSendHomeCardSaid : Prop := Claim7.holds Tryz.pinned (.plain (OpenSpec.ofChange fnSendHomeSpec)) fnSendHomeCard

/-- THE SECOND FORM's CARD OF 'laws.FnSendHome'. -/
def fnSendHomeUptoCard : Claim7 := { stood := { row := fnSendHomeUptoRow, standIns := [], harness := (true, "97d11972ebdbd556e81f99027e7e9aefe835f62b25637342cf5ea17124f2266b"), looks := true }, kinds := [], alts := [], laidByText := true, laidKinds := [.data, .data, .data, .sentinel], laidTests := true, laidLooks := .later }
def FnSendHomeUptoCardSaid : Prop := Claim7.holds Tryz.pinned (.plain (OpenSpec.upto fnSendHomeSpec)) fnSendHomeUptoCard
end Rows
end Go.Proofs.YtlpibfafpljedaaGreatDoor
