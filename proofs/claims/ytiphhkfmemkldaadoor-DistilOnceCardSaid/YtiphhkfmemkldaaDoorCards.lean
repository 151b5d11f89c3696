/-
  DERIVED. GIVEN WITH THE SEED: THE CARDS: each row of YtiphhkfmemkldaaDoorRows.lean that lists a variable, with what it lists TIED to the program's text (the seventh form; the later family's looks); each row that meets fmt, with fmt's text TOLD by the authors' own Lean function (tested against real Go, not proved from fmt's source: count such statements apart). THE CARD IS WHAT COUNTS. Prove the row's statement (the work); the ties are given (YtiphhkfmemkldaaDoorTie.lean); close each card by the builder's one call (the guide's Derived/Test/ToyasCard.lean, 'card_holds'). Laid BY PROGRAM, IN A SANDBOX (cutbox-door.mjs). By AI agents, Wed Nov 11 2026. No macro, syntax, notation, axiom, sorry.
-/
import Derived.Test.YtiphhkfmemkldaaDoorRows
import GoSem.ClaimSeven
namespace Go.Proofs.YtiphhkfmemkldaaDoor
namespace Rows

/-- THE TIED CARD OF 'waveplatelaw06.DistilMixes'. -/
def distilMixesCard : Claim7 := { stood := { row := distilMixesRow, standIns := [], harness := (true, "6b0c0937ecc0e9f29b3ac99dabbd5fd9ca41e8d7e9f9a2d1414ecaefc91bad4a"), looks := true }, kinds := [], alts := [], laidByText := true, laidKinds := [.data, .data, .data], laidTests := true, laidLooks := .later }
def DistilMixesCardSaid : Prop := Claim7.holds Tryd.pinned (.plain (OpenSpec.ofChange distilMixesSpec)) distilMixesCard

/-- THE TIED CARD OF 'waveplatelaw06.DistilOnce'. -/
def distilOnceCard : Claim7 := { stood := { row := distilOnceRow, standIns := [], harness := (true, "6b0c0937ecc0e9f29b3ac99dabbd5fd9ca41e8d7e9f9a2d1414ecaefc91bad4a"), looks := true }, kinds := [], alts := [], laidByText := true, laidKinds := [.data, .data, .data], laidTests := true, laidLooks := .later }
def DistilOnceCardSaid : Prop := Claim7.holds Tryd.pinned (.plain (OpenSpec.ofChange distilOnceSpec)) distilOnceCard

/-- THE TIED CARD OF 'waveplatelaw06.DistilReads'. -/
def distilReadsCard : Claim7 := { stood := { row := distilReadsRow, standIns := [], harness := (true, "6b0c0937ecc0e9f29b3ac99dabbd5fd9ca41e8d7e9f9a2d1414ecaefc91bad4a"), looks := true }, kinds := [], alts := [], laidByText := true, laidKinds := [.data, .data, .data, .sentinel, .sentinel], laidTests := true, laidLooks := .later }
def DistilReadsCardSaid : Prop := Claim7.holds Tryd.pinned (.plain (OpenSpec.ofChange distilReadsSpec)) distilReadsCard

/-- THE TIED CARD OF 'waveplatelaw06.DistilTexts'. -/
def distilTextsCard : Claim7 := { stood := { row := distilTextsRow, standIns := [], harness := (true, "6b0c0937ecc0e9f29b3ac99dabbd5fd9ca41e8d7e9f9a2d1414ecaefc91bad4a"), looks := true }, kinds := [], alts := [], laidByText := true, laidKinds := [.data, .data, .data, .sentinel, .sentinel], laidTests := true, laidLooks := .later }
def DistilTextsCardSaid : Prop := Claim7.holds Tryd.pinned (.plain (OpenSpec.ofChange distilTextsSpec)) distilTextsCard

/-- THE TIED CARD OF 'waveplatelaw06.DistilNil'. -/
def distilNilCard : Claim7 := { stood := { row := distilNilRow, standIns := [], harness := (true, "6b0c0937ecc0e9f29b3ac99dabbd5fd9ca41e8d7e9f9a2d1414ecaefc91bad4a"), looks := true }, kinds := [], alts := [], laidByText := true, laidKinds := [.data, .data, .data], laidTests := true, laidLooks := .later }
def DistilNilCardSaid : Prop := Claim7.holds Tryd.pinned (.plain (OpenSpec.ofChange distilNilSpec)) distilNilCard

/-- THE SECOND FORM's CARD OF 'waveplatelaw06.DistilMixes'. -/
def distilMixesUptoCard : Claim7 := { stood := { row := distilMixesUptoRow, standIns := [], harness := (true, "6b0c0937ecc0e9f29b3ac99dabbd5fd9ca41e8d7e9f9a2d1414ecaefc91bad4a"), looks := true }, kinds := [], alts := [], laidByText := true, laidKinds := [.data, .data, .data], laidTests := true, laidLooks := .later }
def DistilMixesUptoCardSaid : Prop := Claim7.holds Tryd.pinned (.plain (OpenSpec.upto distilMixesSpec)) distilMixesUptoCard

/-- THE SECOND FORM's CARD OF 'waveplatelaw06.DistilOnce'. -/
def distilOnceUptoCard : Claim7 := { stood := { row := distilOnceUptoRow, standIns := [], harness := (true, "6b0c0937ecc0e9f29b3ac99dabbd5fd9ca41e8d7e9f9a2d1414ecaefc91bad4a"), looks := true }, kinds := [], alts := [], laidByText := true, laidKinds := [.data, .data, .data], laidTests := true, laidLooks := .later }
def DistilOnceUptoCardSaid : Prop := Claim7.holds Tryd.pinned (.plain (OpenSpec.upto distilOnceSpec)) distilOnceUptoCard

/-- THE SECOND FORM's CARD OF 'waveplatelaw06.DistilReads'. -/
def distilReadsUptoCard : Claim7 := { stood := { row := distilReadsUptoRow, standIns := [], harness := (true, "6b0c0937ecc0e9f29b3ac99dabbd5fd9ca41e8d7e9f9a2d1414ecaefc91bad4a"), looks := true }, kinds := [], alts := [], laidByText := true, laidKinds := [.data, .data, .data, .sentinel, .sentinel], laidTests := true, laidLooks := .later }
def DistilReadsUptoCardSaid : Prop := Claim7.holds Tryd.pinned (.plain (OpenSpec.upto distilReadsSpec)) distilReadsUptoCard

/-- THE SECOND FORM's CARD OF 'waveplatelaw06.DistilTexts'. -/
def distilTextsUptoCard : Claim7 := { stood := { row := distilTextsUptoRow, standIns := [], harness := (true, "6b0c0937ecc0e9f29b3ac99dabbd5fd9ca41e8d7e9f9a2d1414ecaefc91bad4a"), looks := true }, kinds := [], alts := [], laidByText := true, laidKinds := [.data, .data, .data, .sentinel, .sentinel], laidTests := true, laidLooks := .later }
def DistilTextsUptoCardSaid : Prop := Claim7.holds Tryd.pinned (.plain (OpenSpec.upto distilTextsSpec)) distilTextsUptoCard

/-- THE SECOND FORM's CARD OF 'waveplatelaw06.DistilNil'. -/
def distilNilUptoCard : Claim7 := { stood := { row := distilNilUptoRow, standIns := [], harness := (true, "6b0c0937ecc0e9f29b3ac99dabbd5fd9ca41e8d7e9f9a2d1414ecaefc91bad4a"), looks := true }, kinds := [], alts := [], laidByText := true, laidKinds := [.data, .data, .data], laidTests := true, laidLooks := .later }
def DistilNilUptoCardSaid : Prop := Claim7.holds Tryd.pinned (.plain (OpenSpec.upto distilNilSpec)) distilNilUptoCard
end Rows
end Go.Proofs.YtiphhkfmemkldaaDoor
