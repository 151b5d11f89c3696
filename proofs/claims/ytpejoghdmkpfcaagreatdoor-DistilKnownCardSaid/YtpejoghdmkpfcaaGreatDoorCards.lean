/-
  DERIVED. GIVEN WITH THE SEED: THE CARDS: each row of YtpejoghdmkpfcaaGreatDoorRows.lean that lists a variable, with what it lists TIED to the program's text (the seventh form; the later family's looks); each row that meets fmt, with fmt's text TOLD by the authors' own Lean function (tested against real Go, not proved from fmt's source: count such statements apart). THE CARD IS WHAT COUNTS. Prove the row's statement (the work); the ties are given (YtpejoghdmkpfcaaGreatDoorTie.lean); close each card by the builder's one call (the guide's Derived/Test/ToyasCard.lean, 'card_holds'). Laid BY PROGRAM, IN A SANDBOX (cutbox-door.mjs). By AI agents, Wed Nov 11 2026. No macro, syntax, notation, axiom, sorry.
-/
import Derived.Test.YtpejoghdmkpfcaaGreatDoorRows
import GoSem.ClaimSeven
namespace Go.Proofs.YtpejoghdmkpfcaaGreatDoor
namespace Rows

/-- THE TIED CARD OF 'waveplatelaw06.DistilForges'. -/
def distilForgesCard : Claim7 := { stood := { row := distilForgesRow, standIns := [], harness := (true, "824b70dd3721decc62a700bb24cec111d4a496a2b30cdb63760b279a53410c19"), looks := true }, kinds := [], alts := [], laidByText := true, laidKinds := [.data, .data, .data], laidTests := true, laidLooks := .later }
def DistilForgesCardSaid : Prop := Claim7.holds Tryz.pinned (.plain (OpenSpec.ofChange distilForgesSpec)) distilForgesCard

/-- THE TIED CARD OF 'waveplatelaw06.DistilPools'. -/
def distilPoolsCard : Claim7 := { stood := { row := distilPoolsRow, standIns := [], harness := (true, "824b70dd3721decc62a700bb24cec111d4a496a2b30cdb63760b279a53410c19"), looks := true }, kinds := [], alts := [], laidByText := true, laidKinds := [.data, .data, .data], laidTests := true, laidLooks := .later }
def DistilPoolsCardSaid : Prop := Claim7.holds Tryz.pinned (.plain (OpenSpec.ofChange distilPoolsSpec)) distilPoolsCard

/-- THE TIED CARD OF 'waveplatelaw06.DistilKnown'. -/
def distilKnownCard : Claim7 := { stood := { row := distilKnownRow, standIns := [], harness := (true, "824b70dd3721decc62a700bb24cec111d4a496a2b30cdb63760b279a53410c19"), looks := true }, kinds := [], alts := [], laidByText := true, laidKinds := [.data, .data, .data, .sentinel, .sentinel], laidTests := true, laidLooks := .later }
def DistilKnownCardSaid : Prop := Claim7.holds Tryz.pinned (.plain (OpenSpec.ofChange distilKnownSpec)) distilKnownCard

/-- THE SECOND FORM's CARD OF 'waveplatelaw06.DistilForges'. -/
def distilForgesUptoCard : Claim7 := { stood := { row := distilForgesUptoRow, standIns := [], harness := (true, "824b70dd3721decc62a700bb24cec111d4a496a2b30cdb63760b279a53410c19"), looks := true }, kinds := [], alts := [], laidByText := true, laidKinds := [.data, .data, .data], laidTests := true, laidLooks := .later }
def DistilForgesUptoCardSaid : Prop := Claim7.holds Tryz.pinned (.plain (OpenSpec.upto distilForgesSpec)) distilForgesUptoCard

/-- THE SECOND FORM's CARD OF 'waveplatelaw06.DistilPools'. -/
def distilPoolsUptoCard : Claim7 := { stood := { row := distilPoolsUptoRow, standIns := [], harness := (true, "824b70dd3721decc62a700bb24cec111d4a496a2b30cdb63760b279a53410c19"), looks := true }, kinds := [], alts := [], laidByText := true, laidKinds := [.data, .data, .data], laidTests := true, laidLooks := .later }
def DistilPoolsUptoCardSaid : Prop := Claim7.holds Tryz.pinned (.plain (OpenSpec.upto distilPoolsSpec)) distilPoolsUptoCard

/-- THE SECOND FORM's CARD OF 'waveplatelaw06.DistilKnown'. -/
def distilKnownUptoCard : Claim7 := { stood := { row := distilKnownUptoRow, standIns := [], harness := (true, "824b70dd3721decc62a700bb24cec111d4a496a2b30cdb63760b279a53410c19"), looks := true }, kinds := [], alts := [], laidByText := true, laidKinds := [.data, .data, .data, .sentinel, .sentinel], laidTests := true, laidLooks := .later }
def DistilKnownUptoCardSaid : Prop := Claim7.holds Tryz.pinned (.plain (OpenSpec.upto distilKnownSpec)) distilKnownUptoCard
end Rows
end Go.Proofs.YtpejoghdmkpfcaaGreatDoor
