/-
  DERIVED. GIVEN WITH THE SEED: THE CARDS: each row of YtmlppnapodamaaaDoorRows.lean that lists a variable, with what it lists TIED to the program's text (the seventh form; the later family's looks); each row that meets fmt, with fmt's text TOLD by the authors' own Lean function (tested against real Go, not proved from fmt's source: count such statements apart). THE CARD IS WHAT COUNTS. Prove the row's statement (the work); the ties are given (YtmlppnapodamaaaDoorTie.lean); close each card by the builder's one call (the guide's Derived/Test/ToyasCard.lean, 'card_holds'). Laid BY PROGRAM, IN A SANDBOX (cutbox-door.mjs). By AI agents, Wed Nov 11 2026. No macro, syntax, notation, axiom, sorry.
-/
import Derived.Test.YtmlppnapodamaaaDoorRows
import GoSem.ClaimSeven
namespace Go.Proofs.YtmlppnapodamaaaDoor
namespace Rows

/-- THE TIED CARD OF 'waveplatelaw04.SiftTexts'. -/
def siftTextsCard : Claim7 := { stood := { row := siftTextsRow, standIns := [], harness := (true, "a57370eec436f3747d250fa600847212fbc90fb51ed52a30555679065a9c4949"), looks := true }, kinds := [], alts := [], laidByText := true, laidKinds := [.data, .data, .data, .sentinel, .sentinel], laidTests := true, laidLooks := .later }
def SiftTextsCardSaid : Prop := Claim7.holds Tryd.pinned (.plain (OpenSpec.ofChange siftTextsSpec)) siftTextsCard

/-- THE SECOND FORM's CARD OF 'waveplatelaw04.SiftTexts'. -/
def siftTextsUptoCard : Claim7 := { stood := { row := siftTextsUptoRow, standIns := [], harness := (true, "a57370eec436f3747d250fa600847212fbc90fb51ed52a30555679065a9c4949"), looks := true }, kinds := [], alts := [], laidByText := true, laidKinds := [.data, .data, .data, .sentinel, .sentinel], laidTests := true, laidLooks := .later }
def SiftTextsUptoCardSaid : Prop := Claim7.holds Tryd.pinned (.plain (OpenSpec.upto siftTextsSpec)) siftTextsUptoCard
end Rows
end Go.Proofs.YtmlppnapodamaaaDoor
