/-
  DERIVED. GIVEN WITH THE SEED: THE CARDS: each row of YtidlgdpjcognpaaDoorRows.lean that lists a variable, with what it lists TIED to the program's text (the seventh form; the later family's looks); each row that meets fmt, with fmt's text TOLD by the authors' own Lean function (tested against real Go, not proved from fmt's source: count such statements apart). THE CARD IS WHAT COUNTS. Prove the row's statement (the work); the ties are given (YtidlgdpjcognpaaDoorTie.lean); close each card by the builder's one call (the guide's Derived/Test/ToyasCard.lean, 'card_holds'). Laid BY PROGRAM, IN A SANDBOX (cutbox-door.mjs). By AI agents, Wed Nov 11 2026. No macro, syntax, notation, axiom, sorry.
-/
import Derived.Test.YtidlgdpjcognpaaDoorRows
import GoSem.ClaimSeven
namespace Go.Proofs.YtidlgdpjcognpaaDoor
namespace Rows

/-- THE TIED CARD OF 'hogsheadlaw6.SumTells'. -/
def sumTellsCard : Claim7 := { stood := { row := sumTellsRow, standIns := [], harness := (true, "58e61914723ed28fbc4553842378adc6ae4b8b1b5b3630c1c18b7821661672a8"), looks := false }, kinds := [], alts := [], laidByText := true, laidKinds := [.data, .data, .data], laidTests := true, laidLooks := .later }
def SumTellsCardSaid : Prop := Claim7.holds Tryd.pinned (.plain (OpenSpec.ofChange sumTellsSpec)) sumTellsCard

/-- THE TIED CARD OF 'hogsheadlaw6.SumParts'. -/
def sumPartsCard : Claim7 := { stood := { row := sumPartsRow, standIns := [], harness := (true, "58e61914723ed28fbc4553842378adc6ae4b8b1b5b3630c1c18b7821661672a8"), looks := false }, kinds := [], alts := [], laidByText := true, laidKinds := [.data, .data, .data], laidTests := true, laidLooks := .later }
def SumPartsCardSaid : Prop := Claim7.holds Tryd.pinned (.plain (OpenSpec.ofChange sumPartsSpec)) sumPartsCard

/-- THE TIED CARD OF 'hogsheadlaw6.SumTurned'. -/
def sumTurnedCard : Claim7 := { stood := { row := sumTurnedRow, standIns := [], harness := (true, "58e61914723ed28fbc4553842378adc6ae4b8b1b5b3630c1c18b7821661672a8"), looks := false }, kinds := [], alts := [], laidByText := true, laidKinds := [.data, .data, .data], laidTests := true, laidLooks := .later }
def SumTurnedCardSaid : Prop := Claim7.holds Tryd.pinned (.plain (OpenSpec.ofChange sumTurnedSpec)) sumTurnedCard

/-- THE TIED CARD OF 'hogsheadlaw12.HeadOctals'. -/
def headOctalsCard : Claim7 := { stood := { row := headOctalsRow, standIns := [], harness := (true, "58e61914723ed28fbc4553842378adc6ae4b8b1b5b3630c1c18b7821661672a8"), looks := false }, kinds := [], alts := [], laidByText := true, laidKinds := [.data, .data, .data], laidTests := true, laidLooks := .later }
def HeadOctalsCardSaid : Prop := Claim7.holds Tryd.pinned (.plain (OpenSpec.ofChange headOctalsSpec)) headOctalsCard

/-- THE TIED CARD OF 'hogsheadlaw12.HeadLays'. -/
def headLaysCard : Claim7 := { stood := { row := headLaysRow, standIns := [], harness := (true, "58e61914723ed28fbc4553842378adc6ae4b8b1b5b3630c1c18b7821661672a8"), looks := false }, kinds := [], alts := [], laidByText := true, laidKinds := [.data, .data, .data], laidTests := true, laidLooks := .later }
def HeadLaysCardSaid : Prop := Claim7.holds Tryd.pinned (.plain (OpenSpec.ofChange headLaysSpec)) headLaysCard

/-- THE TIED CARD OF 'hogsheadlaw12.HeadReads'. -/
def headReadsCard : Claim7 := { stood := { row := headReadsRow, standIns := [], harness := (true, "58e61914723ed28fbc4553842378adc6ae4b8b1b5b3630c1c18b7821661672a8"), looks := false }, kinds := [], alts := [], laidByText := true, laidKinds := [.data, .data, .data], laidTests := true, laidLooks := .later }
def HeadReadsCardSaid : Prop := Claim7.holds Tryd.pinned (.plain (OpenSpec.ofChange headReadsSpec)) headReadsCard

/-- THE TIED CARD OF 'hogsheadlaw12.HeadBack'. -/
def headBackCard : Claim7 := { stood := { row := headBackRow, standIns := [], harness := (true, "58e61914723ed28fbc4553842378adc6ae4b8b1b5b3630c1c18b7821661672a8"), looks := false }, kinds := [], alts := [], laidByText := true, laidKinds := [.data, .data, .data], laidTests := true, laidLooks := .later }
def HeadBackCardSaid : Prop := Claim7.holds Tryd.pinned (.plain (OpenSpec.ofChange headBackSpec)) headBackCard

/-- THE TIED CARD OF 'hogsheadlaw12.HeadSizes'. -/
def headSizesCard : Claim7 := { stood := { row := headSizesRow, standIns := [], harness := (true, "58e61914723ed28fbc4553842378adc6ae4b8b1b5b3630c1c18b7821661672a8"), looks := false }, kinds := [], alts := [], laidByText := true, laidKinds := [.data, .data, .data], laidTests := true, laidLooks := .later }
def HeadSizesCardSaid : Prop := Claim7.holds Tryd.pinned (.plain (OpenSpec.ofChange headSizesSpec)) headSizesCard

/-- THE SECOND FORM's CARD OF 'hogsheadlaw6.SumTells'. -/
def sumTellsUptoCard : Claim7 := { stood := { row := sumTellsUptoRow, standIns := [], harness := (true, "58e61914723ed28fbc4553842378adc6ae4b8b1b5b3630c1c18b7821661672a8"), looks := false }, kinds := [], alts := [], laidByText := true, laidKinds := [.data, .data, .data], laidTests := true, laidLooks := .later }
def SumTellsUptoCardSaid : Prop := Claim7.holds Tryd.pinned (.plain (OpenSpec.upto sumTellsSpec)) sumTellsUptoCard

/-- THE SECOND FORM's CARD OF 'hogsheadlaw6.SumParts'. -/
def sumPartsUptoCard : Claim7 := { stood := { row := sumPartsUptoRow, standIns := [], harness := (true, "58e61914723ed28fbc4553842378adc6ae4b8b1b5b3630c1c18b7821661672a8"), looks := false }, kinds := [], alts := [], laidByText := true, laidKinds := [.data, .data, .data], laidTests := true, laidLooks := .later }
def SumPartsUptoCardSaid : Prop := Claim7.holds Tryd.pinned (.plain (OpenSpec.upto sumPartsSpec)) sumPartsUptoCard

/-- THE SECOND FORM's CARD OF 'hogsheadlaw6.SumTurned'. -/
def sumTurnedUptoCard : Claim7 := { stood := { row := sumTurnedUptoRow, standIns := [], harness := (true, "58e61914723ed28fbc4553842378adc6ae4b8b1b5b3630c1c18b7821661672a8"), looks := false }, kinds := [], alts := [], laidByText := true, laidKinds := [.data, .data, .data], laidTests := true, laidLooks := .later }
def SumTurnedUptoCardSaid : Prop := Claim7.holds Tryd.pinned (.plain (OpenSpec.upto sumTurnedSpec)) sumTurnedUptoCard

/-- THE SECOND FORM's CARD OF 'hogsheadlaw12.HeadOctals'. -/
def headOctalsUptoCard : Claim7 := { stood := { row := headOctalsUptoRow, standIns := [], harness := (true, "58e61914723ed28fbc4553842378adc6ae4b8b1b5b3630c1c18b7821661672a8"), looks := false }, kinds := [], alts := [], laidByText := true, laidKinds := [.data, .data, .data], laidTests := true, laidLooks := .later }
def HeadOctalsUptoCardSaid : Prop := Claim7.holds Tryd.pinned (.plain (OpenSpec.upto headOctalsSpec)) headOctalsUptoCard

/-- THE SECOND FORM's CARD OF 'hogsheadlaw12.HeadLays'. -/
def headLaysUptoCard : Claim7 := { stood := { row := headLaysUptoRow, standIns := [], harness := (true, "58e61914723ed28fbc4553842378adc6ae4b8b1b5b3630c1c18b7821661672a8"), looks := false }, kinds := [], alts := [], laidByText := true, laidKinds := [.data, .data, .data], laidTests := true, laidLooks := .later }
def HeadLaysUptoCardSaid : Prop := Claim7.holds Tryd.pinned (.plain (OpenSpec.upto headLaysSpec)) headLaysUptoCard

/-- THE SECOND FORM's CARD OF 'hogsheadlaw12.HeadReads'. -/
def headReadsUptoCard : Claim7 := { stood := { row := headReadsUptoRow, standIns := [], harness := (true, "58e61914723ed28fbc4553842378adc6ae4b8b1b5b3630c1c18b7821661672a8"), looks := false }, kinds := [], alts := [], laidByText := true, laidKinds := [.data, .data, .data], laidTests := true, laidLooks := .later }
def HeadReadsUptoCardSaid : Prop := Claim7.holds Tryd.pinned (.plain (OpenSpec.upto headReadsSpec)) headReadsUptoCard

/-- THE SECOND FORM's CARD OF 'hogsheadlaw12.HeadBack'. -/
def headBackUptoCard : Claim7 := { stood := { row := headBackUptoRow, standIns := [], harness := (true, "58e61914723ed28fbc4553842378adc6ae4b8b1b5b3630c1c18b7821661672a8"), looks := false }, kinds := [], alts := [], laidByText := true, laidKinds := [.data, .data, .data], laidTests := true, laidLooks := .later }
def HeadBackUptoCardSaid : Prop := Claim7.holds Tryd.pinned (.plain (OpenSpec.upto headBackSpec)) headBackUptoCard

/-- THE SECOND FORM's CARD OF 'hogsheadlaw12.HeadSizes'. -/
def headSizesUptoCard : Claim7 := { stood := { row := headSizesUptoRow, standIns := [], harness := (true, "58e61914723ed28fbc4553842378adc6ae4b8b1b5b3630c1c18b7821661672a8"), looks := false }, kinds := [], alts := [], laidByText := true, laidKinds := [.data, .data, .data], laidTests := true, laidLooks := .later }
def HeadSizesUptoCardSaid : Prop := Claim7.holds Tryd.pinned (.plain (OpenSpec.upto headSizesSpec)) headSizesUptoCard
end Rows
end Go.Proofs.YtidlgdpjcognpaaDoor
