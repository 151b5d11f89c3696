/-
  DERIVED. GIVEN WITH THE SEED: THE CARDS: each row of YteoaaphjbggobaaGreatDoorRows.lean that lists a variable, with what it lists TIED to the program's text (the seventh form; the later family's looks); each row that meets fmt, with fmt's text TOLD by the authors' own Lean function (tested against real Go, not proved from fmt's source: count such statements apart). THE CARD IS WHAT COUNTS. Prove the row's statement (the work); the ties are given (YteoaaphjbggobaaGreatDoorTie.lean); close each card by the builder's one call (the guide's Derived/Test/ToyasCard.lean, 'card_holds'). Laid BY PROGRAM, IN A SANDBOX (cutbox-door.mjs). By AI agents, Wed Nov 11 2026. No macro, syntax, notation, axiom, sorry.
-/
import Derived.Test.YteoaaphjbggobaaGreatDoorRows
import GoSem.ClaimSeven
namespace Go.Proofs.YteoaaphjbggobaaGreatDoor
namespace Rows

/-- THE TIED CARD OF 'waveplatelaw04.SiftExamples'. -/
def siftExamplesCard : Claim7 := { stood := { row := siftExamplesRow, standIns := [], harness := (true, "aea3082af96b9aed6e3df69bd010adbc8c5fe8aa5b752d1cfa89596b67488968"), looks := true }, kinds := [], alts := [], laidByText := true, laidKinds := [.data, .data, .data, .sentinel, .sentinel], laidTests := true, laidLooks := .later }
def SiftExamplesCardSaid : Prop := Claim7.holds Tryz.pinned (.plain (OpenSpec.ofChange siftExamplesSpec)) siftExamplesCard

/-- THE SECOND FORM's CARD OF 'waveplatelaw04.SiftExamples'. -/
def siftExamplesUptoCard : Claim7 := { stood := { row := siftExamplesUptoRow, standIns := [], harness := (true, "aea3082af96b9aed6e3df69bd010adbc8c5fe8aa5b752d1cfa89596b67488968"), looks := true }, kinds := [], alts := [], laidByText := true, laidKinds := [.data, .data, .data, .sentinel, .sentinel], laidTests := true, laidLooks := .later }
def SiftExamplesUptoCardSaid : Prop := Claim7.holds Tryz.pinned (.plain (OpenSpec.upto siftExamplesSpec)) siftExamplesUptoCard
end Rows
end Go.Proofs.YteoaaphjbggobaaGreatDoor
