/-
  DERIVED. GIVEN WITH THE SEED: THE CARDS: each row of YtliekcfcdfakjaaDoorRows.lean that lists a variable, with what it lists TIED to the program's text (the seventh form; the later family's looks); each row that meets fmt, with fmt's text TOLD by the authors' own Lean function (tested against real Go, not proved from fmt's source: count such statements apart). THE CARD IS WHAT COUNTS. Prove the row's statement (the work); the ties are given (YtliekcfcdfakjaaDoorTie.lean); close each card by the builder's one call (the guide's Derived/Test/ToyasCard.lean, 'card_holds'). Laid BY PROGRAM, IN A SANDBOX (cutbox-door.mjs). By AI agents, Wed Nov 11 2026. No macro, syntax, notation, axiom, sorry.
-/
import Derived.Test.YtliekcfcdfakjaaDoorRows
import GoSem.ClaimSeven
namespace Go.Proofs.YtliekcfcdfakjaaDoor
namespace Rows

/-- THE TIED CARD OF 'waveplatelaw06.DistilLengths'. -/
def distilLengthsCard : Claim7 := { stood := { row := distilLengthsRow, standIns := [], harness := (true, "bf61ac2ec941d76741a2e26033fdc109637a9dd9e498fbb7a8f9e03c252e6c5e"), looks := true }, kinds := [], alts := [], laidByText := true, laidKinds := [.data, .data, .data], laidTests := true, laidLooks := .later }
def DistilLengthsCardSaid : Prop := Claim7.holds Tryd.pinned (.plain (OpenSpec.ofChange distilLengthsSpec)) distilLengthsCard

/-- THE TIED CARD OF 'waveplatelaw06.DistilLedgers'. -/
def distilLedgersCard : Claim7 := { stood := { row := distilLedgersRow, standIns := [], harness := (true, "bf61ac2ec941d76741a2e26033fdc109637a9dd9e498fbb7a8f9e03c252e6c5e"), looks := true }, kinds := [], alts := [], laidByText := true, laidKinds := [.data, .data, .data], laidTests := true, laidLooks := .later }
def DistilLedgersCardSaid : Prop := Claim7.holds Tryd.pinned (.plain (OpenSpec.ofChange distilLedgersSpec)) distilLedgersCard

/-- THE TIED CARD OF 'waveplatelaw06.DistilMixes'. -/
def distilMixesCard : Claim7 := { stood := { row := distilMixesRow, standIns := [], harness := (true, "bf61ac2ec941d76741a2e26033fdc109637a9dd9e498fbb7a8f9e03c252e6c5e"), looks := true }, kinds := [], alts := [], laidByText := true, laidKinds := [.data, .data, .data], laidTests := true, laidLooks := .later }
def DistilMixesCardSaid : Prop := Claim7.holds Tryd.pinned (.plain (OpenSpec.ofChange distilMixesSpec)) distilMixesCard

/-- THE TIED CARD OF 'waveplatelaw06.DistilPermits'. -/
def distilPermitsCard : Claim7 := { stood := { row := distilPermitsRow, standIns := [], harness := (true, "bf61ac2ec941d76741a2e26033fdc109637a9dd9e498fbb7a8f9e03c252e6c5e"), looks := true }, kinds := [], alts := [], laidByText := true, laidKinds := [.data, .data, .data], laidTests := true, laidLooks := .later }
def DistilPermitsCardSaid : Prop := Claim7.holds Tryd.pinned (.plain (OpenSpec.ofChange distilPermitsSpec)) distilPermitsCard

/-- THE TIED CARD OF 'waveplatelaw06.DistilDigests'. -/
def distilDigestsCard : Claim7 := { stood := { row := distilDigestsRow, standIns := [], harness := (true, "bf61ac2ec941d76741a2e26033fdc109637a9dd9e498fbb7a8f9e03c252e6c5e"), looks := true }, kinds := [], alts := [], laidByText := true, laidKinds := [.data, .data, .data], laidTests := true, laidLooks := .later }
def DistilDigestsCardSaid : Prop := Claim7.holds Tryd.pinned (.plain (OpenSpec.ofChange distilDigestsSpec)) distilDigestsCard

/-- THE TIED CARD OF 'waveplatelaw06.DistilShortens'. -/
def distilShortensCard : Claim7 := { stood := { row := distilShortensRow, standIns := [], harness := (true, "bf61ac2ec941d76741a2e26033fdc109637a9dd9e498fbb7a8f9e03c252e6c5e"), looks := true }, kinds := [], alts := [], laidByText := true, laidKinds := [.data, .data, .data], laidTests := true, laidLooks := .later }
def DistilShortensCardSaid : Prop := Claim7.holds Tryd.pinned (.plain (OpenSpec.ofChange distilShortensSpec)) distilShortensCard

/-- THE TIED CARD OF 'waveplatelaw06.DistilCollides'. -/
def distilCollidesCard : Claim7 := { stood := { row := distilCollidesRow, standIns := [], harness := (true, "bf61ac2ec941d76741a2e26033fdc109637a9dd9e498fbb7a8f9e03c252e6c5e"), looks := true }, kinds := [], alts := [], laidByText := true, laidKinds := [.data, .data, .data], laidTests := true, laidLooks := .later }
def DistilCollidesCardSaid : Prop := Claim7.holds Tryd.pinned (.plain (OpenSpec.ofChange distilCollidesSpec)) distilCollidesCard

/-- THE TIED CARD OF 'waveplatelaw06.DistilTags'. -/
def distilTagsCard : Claim7 := { stood := { row := distilTagsRow, standIns := [], harness := (true, "bf61ac2ec941d76741a2e26033fdc109637a9dd9e498fbb7a8f9e03c252e6c5e"), looks := true }, kinds := [], alts := [], laidByText := true, laidKinds := [.data, .data, .data], laidTests := true, laidLooks := .later }
def DistilTagsCardSaid : Prop := Claim7.holds Tryd.pinned (.plain (OpenSpec.ofChange distilTagsSpec)) distilTagsCard

/-- THE TIED CARD OF 'waveplatelaw06.DistilReads'. -/
def distilReadsCard : Claim7 := { stood := { row := distilReadsRow, standIns := [], harness := (true, "bf61ac2ec941d76741a2e26033fdc109637a9dd9e498fbb7a8f9e03c252e6c5e"), looks := true }, kinds := [], alts := [], laidByText := true, laidKinds := [.data, .data, .data, .sentinel, .sentinel], laidTests := true, laidLooks := .later }
def DistilReadsCardSaid : Prop := Claim7.holds Tryd.pinned (.plain (OpenSpec.ofChange distilReadsSpec)) distilReadsCard

/-- THE TIED CARD OF 'waveplatelaw06.DistilTexts'. -/
def distilTextsCard : Claim7 := { stood := { row := distilTextsRow, standIns := [], harness := (true, "bf61ac2ec941d76741a2e26033fdc109637a9dd9e498fbb7a8f9e03c252e6c5e"), looks := true }, kinds := [], alts := [], laidByText := true, laidKinds := [.data, .data, .data, .sentinel, .sentinel], laidTests := true, laidLooks := .later }
def DistilTextsCardSaid : Prop := Claim7.holds Tryd.pinned (.plain (OpenSpec.ofChange distilTextsSpec)) distilTextsCard

/-- THE SECOND FORM's CARD OF 'waveplatelaw06.DistilLengths'. -/
def distilLengthsUptoCard : Claim7 := { stood := { row := distilLengthsUptoRow, standIns := [], harness := (true, "bf61ac2ec941d76741a2e26033fdc109637a9dd9e498fbb7a8f9e03c252e6c5e"), looks := true }, kinds := [], alts := [], laidByText := true, laidKinds := [.data, .data, .data], laidTests := true, laidLooks := .later }
def DistilLengthsUptoCardSaid : Prop := Claim7.holds Tryd.pinned (.plain (OpenSpec.upto distilLengthsSpec)) distilLengthsUptoCard

/-- THE SECOND FORM's CARD OF 'waveplatelaw06.DistilLedgers'. -/
def distilLedgersUptoCard : Claim7 := { stood := { row := distilLedgersUptoRow, standIns := [], harness := (true, "bf61ac2ec941d76741a2e26033fdc109637a9dd9e498fbb7a8f9e03c252e6c5e"), looks := true }, kinds := [], alts := [], laidByText := true, laidKinds := [.data, .data, .data], laidTests := true, laidLooks := .later }
def DistilLedgersUptoCardSaid : Prop := Claim7.holds Tryd.pinned (.plain (OpenSpec.upto distilLedgersSpec)) distilLedgersUptoCard

/-- THE SECOND FORM's CARD OF 'waveplatelaw06.DistilMixes'. -/
def distilMixesUptoCard : Claim7 := { stood := { row := distilMixesUptoRow, standIns := [], harness := (true, "bf61ac2ec941d76741a2e26033fdc109637a9dd9e498fbb7a8f9e03c252e6c5e"), looks := true }, kinds := [], alts := [], laidByText := true, laidKinds := [.data, .data, .data], laidTests := true, laidLooks := .later }
def DistilMixesUptoCardSaid : Prop := Claim7.holds Tryd.pinned (.plain (OpenSpec.upto distilMixesSpec)) distilMixesUptoCard

/-- THE SECOND FORM's CARD OF 'waveplatelaw06.DistilPermits'. -/
def distilPermitsUptoCard : Claim7 := { stood := { row := distilPermitsUptoRow, standIns := [], harness := (true, "bf61ac2ec941d76741a2e26033fdc109637a9dd9e498fbb7a8f9e03c252e6c5e"), looks := true }, kinds := [], alts := [], laidByText := true, laidKinds := [.data, .data, .data], laidTests := true, laidLooks := .later }
def DistilPermitsUptoCardSaid : Prop := Claim7.holds Tryd.pinned (.plain (OpenSpec.upto distilPermitsSpec)) distilPermitsUptoCard

/-- THE SECOND FORM's CARD OF 'waveplatelaw06.DistilDigests'. -/
def distilDigestsUptoCard : Claim7 := { stood := { row := distilDigestsUptoRow, standIns := [], harness := (true, "bf61ac2ec941d76741a2e26033fdc109637a9dd9e498fbb7a8f9e03c252e6c5e"), looks := true }, kinds := [], alts := [], laidByText := true, laidKinds := [.data, .data, .data], laidTests := true, laidLooks := .later }
def DistilDigestsUptoCardSaid : Prop := Claim7.holds Tryd.pinned (.plain (OpenSpec.upto distilDigestsSpec)) distilDigestsUptoCard

/-- THE SECOND FORM's CARD OF 'waveplatelaw06.DistilShortens'. -/
def distilShortensUptoCard : Claim7 := { stood := { row := distilShortensUptoRow, standIns := [], harness := (true, "bf61ac2ec941d76741a2e26033fdc109637a9dd9e498fbb7a8f9e03c252e6c5e"), looks := true }, kinds := [], alts := [], laidByText := true, laidKinds := [.data, .data, .data], laidTests := true, laidLooks := .later }
def DistilShortensUptoCardSaid : Prop := Claim7.holds Tryd.pinned (.plain (OpenSpec.upto distilShortensSpec)) distilShortensUptoCard

/-- THE SECOND FORM's CARD OF 'waveplatelaw06.DistilCollides'. -/
def distilCollidesUptoCard : Claim7 := { stood := { row := distilCollidesUptoRow, standIns := [], harness := (true, "bf61ac2ec941d76741a2e26033fdc109637a9dd9e498fbb7a8f9e03c252e6c5e"), looks := true }, kinds := [], alts := [], laidByText := true, laidKinds := [.data, .data, .data], laidTests := true, laidLooks := .later }
def DistilCollidesUptoCardSaid : Prop := Claim7.holds Tryd.pinned (.plain (OpenSpec.upto distilCollidesSpec)) distilCollidesUptoCard

/-- THE SECOND FORM's CARD OF 'waveplatelaw06.DistilTags'. -/
def distilTagsUptoCard : Claim7 := { stood := { row := distilTagsUptoRow, standIns := [], harness := (true, "bf61ac2ec941d76741a2e26033fdc109637a9dd9e498fbb7a8f9e03c252e6c5e"), looks := true }, kinds := [], alts := [], laidByText := true, laidKinds := [.data, .data, .data], laidTests := true, laidLooks := .later }
def DistilTagsUptoCardSaid : Prop := Claim7.holds Tryd.pinned (.plain (OpenSpec.upto distilTagsSpec)) distilTagsUptoCard

/-- THE SECOND FORM's CARD OF 'waveplatelaw06.DistilReads'. -/
def distilReadsUptoCard : Claim7 := { stood := { row := distilReadsUptoRow, standIns := [], harness := (true, "bf61ac2ec941d76741a2e26033fdc109637a9dd9e498fbb7a8f9e03c252e6c5e"), looks := true }, kinds := [], alts := [], laidByText := true, laidKinds := [.data, .data, .data, .sentinel, .sentinel], laidTests := true, laidLooks := .later }
def DistilReadsUptoCardSaid : Prop := Claim7.holds Tryd.pinned (.plain (OpenSpec.upto distilReadsSpec)) distilReadsUptoCard

/-- THE SECOND FORM's CARD OF 'waveplatelaw06.DistilTexts'. -/
def distilTextsUptoCard : Claim7 := { stood := { row := distilTextsUptoRow, standIns := [], harness := (true, "bf61ac2ec941d76741a2e26033fdc109637a9dd9e498fbb7a8f9e03c252e6c5e"), looks := true }, kinds := [], alts := [], laidByText := true, laidKinds := [.data, .data, .data, .sentinel, .sentinel], laidTests := true, laidLooks := .later }
def DistilTextsUptoCardSaid : Prop := Claim7.holds Tryd.pinned (.plain (OpenSpec.upto distilTextsSpec)) distilTextsUptoCard
end Rows
end Go.Proofs.YtliekcfcdfakjaaDoor
