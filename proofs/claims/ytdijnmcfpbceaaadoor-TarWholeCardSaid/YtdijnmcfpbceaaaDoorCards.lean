/-
  DERIVED. GIVEN WITH THE SEED: THE CARDS: each row of YtdijnmcfpbceaaaDoorRows.lean that lists a variable, with what it lists TIED to the program's text (the seventh form; the later family's looks); each row that meets fmt, with fmt's text TOLD by the authors' own Lean function (tested against real Go, not proved from fmt's source: count such statements apart). THE CARD IS WHAT COUNTS. Prove the row's statement (the work); the ties are given (YtdijnmcfpbceaaaDoorTie.lean); close each card by the builder's one call (the guide's Derived/Test/ToyasCard.lean, 'card_holds'). Laid BY PROGRAM, IN A SANDBOX (cutbox-door.mjs). By AI agents, Wed Nov 11 2026. No macro, syntax, notation, axiom, sorry.
-/
import Derived.Test.YtdijnmcfpbceaaaDoorRows
import GoSem.ClaimSeven
namespace Go.Proofs.YtdijnmcfpbceaaaDoor
namespace Rows

/-- THE TIED CARD OF 'hogsheadlaw13.TarRecords'. -/
def tarRecordsCard : Claim7 := { stood := { row := tarRecordsRow, standIns := [], harness := (true, "b0dc0226210e793b1808ba6e33afe4c86d4b8e3cb8536b5b6da33fec781fde00"), looks := true }, kinds := [], alts := [], laidByText := true, laidKinds := [.data, .data, .data, .data, .pinned], laidTests := true, laidLooks := .later }
def TarRecordsCardSaid : Prop := Claim7.holds Tryd.pinned (.plain (OpenSpec.ofChange tarRecordsSpec)) tarRecordsCard

/-- THE TIED CARD OF 'hogsheadlaw13.TarSizes'. -/
def tarSizesCard : Claim7 := { stood := { row := tarSizesRow, standIns := [], harness := (true, "b0dc0226210e793b1808ba6e33afe4c86d4b8e3cb8536b5b6da33fec781fde00"), looks := true }, kinds := [], alts := [], laidByText := true, laidKinds := [.data, .data, .data, .data, .pinned], laidTests := true, laidLooks := .later }
def TarSizesCardSaid : Prop := Claim7.holds Tryd.pinned (.plain (OpenSpec.ofChange tarSizesSpec)) tarSizesCard

/-- THE TIED CARD OF 'hogsheadlaw16.JSONReads'. -/
def jSONReadsCard : Claim7 := { stood := { row := jSONReadsRow, standIns := [], harness := (true, "b0dc0226210e793b1808ba6e33afe4c86d4b8e3cb8536b5b6da33fec781fde00"), looks := true }, kinds := [], alts := [], laidByText := true, laidKinds := [.data, .data, .data, .sentinel, .sentinel], laidTests := true, laidLooks := .later }
def JSONReadsCardSaid : Prop := Claim7.holds Tryd.pinned (.plain (OpenSpec.ofChange jSONReadsSpec)) jSONReadsCard

/-- THE TIED CARD OF 'hogsheadlaw16.JSONBack'. -/
def jSONBackCard : Claim7 := { stood := { row := jSONBackRow, standIns := [], harness := (true, "b0dc0226210e793b1808ba6e33afe4c86d4b8e3cb8536b5b6da33fec781fde00"), looks := true }, kinds := [], alts := [], laidByText := true, laidKinds := [.data, .data, .data, .sentinel, .sentinel], laidTests := true, laidLooks := .later }
def JSONBackCardSaid : Prop := Claim7.holds Tryd.pinned (.plain (OpenSpec.ofChange jSONBackSpec)) jSONBackCard

/-- THE TIED CARD OF 'hogsheadlaw16.JSONNumbers'. -/
def jSONNumbersCard : Claim7 := { stood := { row := jSONNumbersRow, standIns := [], harness := (true, "b0dc0226210e793b1808ba6e33afe4c86d4b8e3cb8536b5b6da33fec781fde00"), looks := true }, kinds := [], alts := [], laidByText := true, laidKinds := [.data, .data, .data, .sentinel, .sentinel], laidTests := true, laidLooks := .later }
def JSONNumbersCardSaid : Prop := Claim7.holds Tryd.pinned (.plain (OpenSpec.ofChange jSONNumbersSpec)) jSONNumbersCard

/-- THE TIED CARD OF 'hogsheadlaw13.TarWhole'. -/
def tarWholeCard : Claim7 := { stood := { row := tarWholeRow, standIns := [], harness := (true, "b0dc0226210e793b1808ba6e33afe4c86d4b8e3cb8536b5b6da33fec781fde00"), looks := true }, kinds := [], alts := [], laidByText := true, laidKinds := [.data, .data, .data, .data, .pinned], laidTests := true, laidLooks := .later }
def TarWholeCardSaid : Prop := Claim7.holds Tryd.pinned (.plain (OpenSpec.ofChange tarWholeSpec)) tarWholeCard

/-- THE TIED CARD OF 'hogsheadlaw16.JSONKeys'. -/
def jSONKeysCard : Claim7 := { stood := { row := jSONKeysRow, standIns := [], harness := (true, "b0dc0226210e793b1808ba6e33afe4c86d4b8e3cb8536b5b6da33fec781fde00"), looks := true }, kinds := [], alts := [], laidByText := true, laidKinds := [.data, .data, .data, .sentinel, .sentinel], laidTests := true, laidLooks := .later }
def JSONKeysCardSaid : Prop := Claim7.holds Tryd.pinned (.plain (OpenSpec.ofChange jSONKeysSpec)) jSONKeysCard

/-- THE TIED CARD OF 'hogsheadlaw16.JSONDeep'. -/
def jSONDeepCard : Claim7 := { stood := { row := jSONDeepRow, standIns := [], harness := (true, "b0dc0226210e793b1808ba6e33afe4c86d4b8e3cb8536b5b6da33fec781fde00"), looks := true }, kinds := [], alts := [], laidByText := true, laidKinds := [.data, .data, .data, .sentinel, .sentinel], laidTests := true, laidLooks := .later }
def JSONDeepCardSaid : Prop := Claim7.holds Tryd.pinned (.plain (OpenSpec.ofChange jSONDeepSpec)) jSONDeepCard

/-- THE SECOND FORM's CARD OF 'hogsheadlaw13.TarRecords'. -/
def tarRecordsUptoCard : Claim7 := { stood := { row := tarRecordsUptoRow, standIns := [], harness := (true, "b0dc0226210e793b1808ba6e33afe4c86d4b8e3cb8536b5b6da33fec781fde00"), looks := true }, kinds := [], alts := [], laidByText := true, laidKinds := [.data, .data, .data, .data, .pinned], laidTests := true, laidLooks := .later }
def TarRecordsUptoCardSaid : Prop := Claim7.holds Tryd.pinned (.plain (OpenSpec.upto tarRecordsSpec)) tarRecordsUptoCard

/-- THE SECOND FORM's CARD OF 'hogsheadlaw13.TarSizes'. -/
def tarSizesUptoCard : Claim7 := { stood := { row := tarSizesUptoRow, standIns := [], harness := (true, "b0dc0226210e793b1808ba6e33afe4c86d4b8e3cb8536b5b6da33fec781fde00"), looks := true }, kinds := [], alts := [], laidByText := true, laidKinds := [.data, .data, .data, .data, .pinned], laidTests := true, laidLooks := .later }
def TarSizesUptoCardSaid : Prop := Claim7.holds Tryd.pinned (.plain (OpenSpec.upto tarSizesSpec)) tarSizesUptoCard

/-- THE SECOND FORM's CARD OF 'hogsheadlaw16.JSONReads'. -/
def jSONReadsUptoCard : Claim7 := { stood := { row := jSONReadsUptoRow, standIns := [], harness := (true, "b0dc0226210e793b1808ba6e33afe4c86d4b8e3cb8536b5b6da33fec781fde00"), looks := true }, kinds := [], alts := [], laidByText := true, laidKinds := [.data, .data, .data, .sentinel, .sentinel], laidTests := true, laidLooks := .later }
def JSONReadsUptoCardSaid : Prop := Claim7.holds Tryd.pinned (.plain (OpenSpec.upto jSONReadsSpec)) jSONReadsUptoCard

/-- THE SECOND FORM's CARD OF 'hogsheadlaw16.JSONBack'. -/
def jSONBackUptoCard : Claim7 := { stood := { row := jSONBackUptoRow, standIns := [], harness := (true, "b0dc0226210e793b1808ba6e33afe4c86d4b8e3cb8536b5b6da33fec781fde00"), looks := true }, kinds := [], alts := [], laidByText := true, laidKinds := [.data, .data, .data, .sentinel, .sentinel], laidTests := true, laidLooks := .later }
def JSONBackUptoCardSaid : Prop := Claim7.holds Tryd.pinned (.plain (OpenSpec.upto jSONBackSpec)) jSONBackUptoCard

/-- THE SECOND FORM's CARD OF 'hogsheadlaw16.JSONNumbers'. -/
def jSONNumbersUptoCard : Claim7 := { stood := { row := jSONNumbersUptoRow, standIns := [], harness := (true, "b0dc0226210e793b1808ba6e33afe4c86d4b8e3cb8536b5b6da33fec781fde00"), looks := true }, kinds := [], alts := [], laidByText := true, laidKinds := [.data, .data, .data, .sentinel, .sentinel], laidTests := true, laidLooks := .later }
def JSONNumbersUptoCardSaid : Prop := Claim7.holds Tryd.pinned (.plain (OpenSpec.upto jSONNumbersSpec)) jSONNumbersUptoCard

/-- THE SECOND FORM's CARD OF 'hogsheadlaw13.TarWhole'. -/
def tarWholeUptoCard : Claim7 := { stood := { row := tarWholeUptoRow, standIns := [], harness := (true, "b0dc0226210e793b1808ba6e33afe4c86d4b8e3cb8536b5b6da33fec781fde00"), looks := true }, kinds := [], alts := [], laidByText := true, laidKinds := [.data, .data, .data, .data, .pinned], laidTests := true, laidLooks := .later }
def TarWholeUptoCardSaid : Prop := Claim7.holds Tryd.pinned (.plain (OpenSpec.upto tarWholeSpec)) tarWholeUptoCard

/-- THE SECOND FORM's CARD OF 'hogsheadlaw16.JSONKeys'. -/
def jSONKeysUptoCard : Claim7 := { stood := { row := jSONKeysUptoRow, standIns := [], harness := (true, "b0dc0226210e793b1808ba6e33afe4c86d4b8e3cb8536b5b6da33fec781fde00"), looks := true }, kinds := [], alts := [], laidByText := true, laidKinds := [.data, .data, .data, .sentinel, .sentinel], laidTests := true, laidLooks := .later }
def JSONKeysUptoCardSaid : Prop := Claim7.holds Tryd.pinned (.plain (OpenSpec.upto jSONKeysSpec)) jSONKeysUptoCard

/-- THE SECOND FORM's CARD OF 'hogsheadlaw16.JSONDeep'. -/
def jSONDeepUptoCard : Claim7 := { stood := { row := jSONDeepUptoRow, standIns := [], harness := (true, "b0dc0226210e793b1808ba6e33afe4c86d4b8e3cb8536b5b6da33fec781fde00"), looks := true }, kinds := [], alts := [], laidByText := true, laidKinds := [.data, .data, .data, .sentinel, .sentinel], laidTests := true, laidLooks := .later }
def JSONDeepUptoCardSaid : Prop := Claim7.holds Tryd.pinned (.plain (OpenSpec.upto jSONDeepSpec)) jSONDeepUptoCard
end Rows
end Go.Proofs.YtdijnmcfpbceaaaDoor
