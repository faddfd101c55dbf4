/-
  DERIVED. GIVEN WITH THE SEED: THE CARDS: each row of YtbnoihpooeombaaDoorRows.lean that lists a variable, with what it lists TIED to the program's text (the seventh form; the later family's looks); each row that meets fmt, with fmt's text TOLD by the authors' own Lean function (tested against real Go, not proved from fmt's source: count such statements apart). THE CARD IS WHAT COUNTS. Prove the row's statement (the work); the ties are given (YtbnoihpooeombaaDoorTie.lean); close each card by the builder's one call (the guide's Derived/Test/ToyasCard.lean, 'card_holds'). Laid BY PROGRAM, IN A SANDBOX (cutbox-door.mjs). By AI agents, Wed Nov 11 2026. No macro, syntax, notation, axiom, sorry.
-/
import Derived.Test.YtbnoihpooeombaaDoorRows
import GoSem.ClaimSeven
namespace Go.Proofs.YtbnoihpooeombaaDoor
namespace Rows

/-- THE TIED CARD OF 'hogsheadlaw15.ValueLays'. -/
def valueLaysCard : Claim7 := { stood := { row := valueLaysRow, standIns := [], harness := (true, "6bcae10dd4414d6839fe7ef7eb14945318aa983da9056c08ab342c907e9b283a"), looks := false }, kinds := [], alts := [], laidByText := true, laidKinds := [.data, .data, .data], laidTests := true, laidLooks := .later }
def ValueLaysCardSaid : Prop := Claim7.holds Tryd.pinned (.plain (OpenSpec.ofChange valueLaysSpec)) valueLaysCard

/-- THE TIED CARD OF 'hogsheadlaw15.ValueOf'. -/
def valueOfCard : Claim7 := { stood := { row := valueOfRow, standIns := [], harness := (true, "6bcae10dd4414d6839fe7ef7eb14945318aa983da9056c08ab342c907e9b283a"), looks := false }, kinds := [], alts := [], laidByText := true, laidKinds := [.data, .data, .data], laidTests := true, laidLooks := .later }
def ValueOfCardSaid : Prop := Claim7.holds Tryd.pinned (.plain (OpenSpec.ofChange valueOfSpec)) valueOfCard

/-- THE TIED CARD OF 'hogsheadlaw15.ValueKeys'. -/
def valueKeysCard : Claim7 := { stood := { row := valueKeysRow, standIns := [], harness := (true, "6bcae10dd4414d6839fe7ef7eb14945318aa983da9056c08ab342c907e9b283a"), looks := false }, kinds := [], alts := [], laidByText := true, laidKinds := [.data, .data, .data], laidTests := true, laidLooks := .later }
def ValueKeysCardSaid : Prop := Claim7.holds Tryd.pinned (.plain (OpenSpec.ofChange valueKeysSpec)) valueKeysCard

/-- THE TIED CARD OF 'hogsheadlaw15.ValueQuotes'. -/
def valueQuotesCard : Claim7 := { stood := { row := valueQuotesRow, standIns := [], harness := (true, "6bcae10dd4414d6839fe7ef7eb14945318aa983da9056c08ab342c907e9b283a"), looks := false }, kinds := [], alts := [], laidByText := true, laidKinds := [.data, .data, .data], laidTests := true, laidLooks := .later }
def ValueQuotesCardSaid : Prop := Claim7.holds Tryd.pinned (.plain (OpenSpec.ofChange valueQuotesSpec)) valueQuotesCard

/-- THE TIED CARD OF 'hogsheadlaw15.ValueDeep'. -/
def valueDeepCard : Claim7 := { stood := { row := valueDeepRow, standIns := [], harness := (true, "6bcae10dd4414d6839fe7ef7eb14945318aa983da9056c08ab342c907e9b283a"), looks := false }, kinds := [], alts := [], laidByText := true, laidKinds := [.data, .data, .data], laidTests := true, laidLooks := .later }
def ValueDeepCardSaid : Prop := Claim7.holds Tryd.pinned (.plain (OpenSpec.ofChange valueDeepSpec)) valueDeepCard

/-- THE TIED CARD OF 'hogsheadlaw15.ValueGets'. -/
def valueGetsCard : Claim7 := { stood := { row := valueGetsRow, standIns := [], harness := (true, "6bcae10dd4414d6839fe7ef7eb14945318aa983da9056c08ab342c907e9b283a"), looks := false }, kinds := [], alts := [], laidByText := true, laidKinds := [.data, .data, .data], laidTests := true, laidLooks := .later }
def ValueGetsCardSaid : Prop := Claim7.holds Tryd.pinned (.plain (OpenSpec.ofChange valueGetsSpec)) valueGetsCard

/-- THE TIED CARD OF 'hogsheadlaw15.ValueParts'. -/
def valuePartsCard : Claim7 := { stood := { row := valuePartsRow, standIns := [], harness := (true, "6bcae10dd4414d6839fe7ef7eb14945318aa983da9056c08ab342c907e9b283a"), looks := false }, kinds := [], alts := [], laidByText := true, laidKinds := [.data, .data, .data], laidTests := true, laidLooks := .later }
def ValuePartsCardSaid : Prop := Claim7.holds Tryd.pinned (.plain (OpenSpec.ofChange valuePartsSpec)) valuePartsCard

/-- THE TIED CARD OF 'hogsheadlaw23.BlobsScript'. -/
def blobsScriptCard : Claim7 := { stood := { row := blobsScriptRow, standIns := [], harness := (true, "6bcae10dd4414d6839fe7ef7eb14945318aa983da9056c08ab342c907e9b283a"), looks := false }, kinds := [], alts := [], laidByText := true, laidKinds := [.data, .data, .data], laidTests := true, laidLooks := .later }
def BlobsScriptCardSaid : Prop := Claim7.holds Tryd.pinned (.plain (OpenSpec.ofChange blobsScriptSpec)) blobsScriptCard

/-- THE TIED CARD OF 'hogsheadlaw23.BlobsLoads'. -/
def blobsLoadsCard : Claim7 := { stood := { row := blobsLoadsRow, standIns := [], harness := (true, "6bcae10dd4414d6839fe7ef7eb14945318aa983da9056c08ab342c907e9b283a"), looks := false }, kinds := [], alts := [], laidByText := true, laidKinds := [.data, .data, .data], laidTests := true, laidLooks := .later }
def BlobsLoadsCardSaid : Prop := Claim7.holds Tryd.pinned (.plain (OpenSpec.ofChange blobsLoadsSpec)) blobsLoadsCard

/-- THE TIED CARD OF 'hogsheadlaw23.BlobsNone'. -/
def blobsNoneCard : Claim7 := { stood := { row := blobsNoneRow, standIns := [], harness := (true, "6bcae10dd4414d6839fe7ef7eb14945318aa983da9056c08ab342c907e9b283a"), looks := false }, kinds := [], alts := [], laidByText := true, laidKinds := [.data, .data, .data], laidTests := true, laidLooks := .later }
def BlobsNoneCardSaid : Prop := Claim7.holds Tryd.pinned (.plain (OpenSpec.ofChange blobsNoneSpec)) blobsNoneCard

/-- THE TIED CARD OF 'hogsheadlaw23.BlobsOrder'. -/
def blobsOrderCard : Claim7 := { stood := { row := blobsOrderRow, standIns := [], harness := (true, "6bcae10dd4414d6839fe7ef7eb14945318aa983da9056c08ab342c907e9b283a"), looks := false }, kinds := [], alts := [], laidByText := true, laidKinds := [.data, .data, .data], laidTests := true, laidLooks := .later }
def BlobsOrderCardSaid : Prop := Claim7.holds Tryd.pinned (.plain (OpenSpec.ofChange blobsOrderSpec)) blobsOrderCard

/-- THE SECOND FORM's CARD OF 'hogsheadlaw15.ValueLays'. -/
def valueLaysUptoCard : Claim7 := { stood := { row := valueLaysUptoRow, standIns := [], harness := (true, "6bcae10dd4414d6839fe7ef7eb14945318aa983da9056c08ab342c907e9b283a"), looks := false }, kinds := [], alts := [], laidByText := true, laidKinds := [.data, .data, .data], laidTests := true, laidLooks := .later }
def ValueLaysUptoCardSaid : Prop := Claim7.holds Tryd.pinned (.plain (OpenSpec.upto valueLaysSpec)) valueLaysUptoCard

/-- THE SECOND FORM's CARD OF 'hogsheadlaw15.ValueOf'. -/
def valueOfUptoCard : Claim7 := { stood := { row := valueOfUptoRow, standIns := [], harness := (true, "6bcae10dd4414d6839fe7ef7eb14945318aa983da9056c08ab342c907e9b283a"), looks := false }, kinds := [], alts := [], laidByText := true, laidKinds := [.data, .data, .data], laidTests := true, laidLooks := .later }
def ValueOfUptoCardSaid : Prop := Claim7.holds Tryd.pinned (.plain (OpenSpec.upto valueOfSpec)) valueOfUptoCard

/-- THE SECOND FORM's CARD OF 'hogsheadlaw15.ValueKeys'. -/
def valueKeysUptoCard : Claim7 := { stood := { row := valueKeysUptoRow, standIns := [], harness := (true, "6bcae10dd4414d6839fe7ef7eb14945318aa983da9056c08ab342c907e9b283a"), looks := false }, kinds := [], alts := [], laidByText := true, laidKinds := [.data, .data, .data], laidTests := true, laidLooks := .later }
def ValueKeysUptoCardSaid : Prop := Claim7.holds Tryd.pinned (.plain (OpenSpec.upto valueKeysSpec)) valueKeysUptoCard

/-- THE SECOND FORM's CARD OF 'hogsheadlaw15.ValueQuotes'. -/
def valueQuotesUptoCard : Claim7 := { stood := { row := valueQuotesUptoRow, standIns := [], harness := (true, "6bcae10dd4414d6839fe7ef7eb14945318aa983da9056c08ab342c907e9b283a"), looks := false }, kinds := [], alts := [], laidByText := true, laidKinds := [.data, .data, .data], laidTests := true, laidLooks := .later }
def ValueQuotesUptoCardSaid : Prop := Claim7.holds Tryd.pinned (.plain (OpenSpec.upto valueQuotesSpec)) valueQuotesUptoCard

/-- THE SECOND FORM's CARD OF 'hogsheadlaw15.ValueDeep'. -/
def valueDeepUptoCard : Claim7 := { stood := { row := valueDeepUptoRow, standIns := [], harness := (true, "6bcae10dd4414d6839fe7ef7eb14945318aa983da9056c08ab342c907e9b283a"), looks := false }, kinds := [], alts := [], laidByText := true, laidKinds := [.data, .data, .data], laidTests := true, laidLooks := .later }
def ValueDeepUptoCardSaid : Prop := Claim7.holds Tryd.pinned (.plain (OpenSpec.upto valueDeepSpec)) valueDeepUptoCard

/-- THE SECOND FORM's CARD OF 'hogsheadlaw15.ValueGets'. -/
def valueGetsUptoCard : Claim7 := { stood := { row := valueGetsUptoRow, standIns := [], harness := (true, "6bcae10dd4414d6839fe7ef7eb14945318aa983da9056c08ab342c907e9b283a"), looks := false }, kinds := [], alts := [], laidByText := true, laidKinds := [.data, .data, .data], laidTests := true, laidLooks := .later }
def ValueGetsUptoCardSaid : Prop := Claim7.holds Tryd.pinned (.plain (OpenSpec.upto valueGetsSpec)) valueGetsUptoCard

/-- THE SECOND FORM's CARD OF 'hogsheadlaw15.ValueParts'. -/
def valuePartsUptoCard : Claim7 := { stood := { row := valuePartsUptoRow, standIns := [], harness := (true, "6bcae10dd4414d6839fe7ef7eb14945318aa983da9056c08ab342c907e9b283a"), looks := false }, kinds := [], alts := [], laidByText := true, laidKinds := [.data, .data, .data], laidTests := true, laidLooks := .later }
def ValuePartsUptoCardSaid : Prop := Claim7.holds Tryd.pinned (.plain (OpenSpec.upto valuePartsSpec)) valuePartsUptoCard

/-- THE SECOND FORM's CARD OF 'hogsheadlaw23.BlobsScript'. -/
def blobsScriptUptoCard : Claim7 := { stood := { row := blobsScriptUptoRow, standIns := [], harness := (true, "6bcae10dd4414d6839fe7ef7eb14945318aa983da9056c08ab342c907e9b283a"), looks := false }, kinds := [], alts := [], laidByText := true, laidKinds := [.data, .data, .data], laidTests := true, laidLooks := .later }
def BlobsScriptUptoCardSaid : Prop := Claim7.holds Tryd.pinned (.plain (OpenSpec.upto blobsScriptSpec)) blobsScriptUptoCard

/-- THE SECOND FORM's CARD OF 'hogsheadlaw23.BlobsLoads'. -/
def blobsLoadsUptoCard : Claim7 := { stood := { row := blobsLoadsUptoRow, standIns := [], harness := (true, "6bcae10dd4414d6839fe7ef7eb14945318aa983da9056c08ab342c907e9b283a"), looks := false }, kinds := [], alts := [], laidByText := true, laidKinds := [.data, .data, .data], laidTests := true, laidLooks := .later }
def BlobsLoadsUptoCardSaid : Prop := Claim7.holds Tryd.pinned (.plain (OpenSpec.upto blobsLoadsSpec)) blobsLoadsUptoCard

/-- THE SECOND FORM's CARD OF 'hogsheadlaw23.BlobsNone'. -/
def blobsNoneUptoCard : Claim7 := { stood := { row := blobsNoneUptoRow, standIns := [], harness := (true, "6bcae10dd4414d6839fe7ef7eb14945318aa983da9056c08ab342c907e9b283a"), looks := false }, kinds := [], alts := [], laidByText := true, laidKinds := [.data, .data, .data], laidTests := true, laidLooks := .later }
def BlobsNoneUptoCardSaid : Prop := Claim7.holds Tryd.pinned (.plain (OpenSpec.upto blobsNoneSpec)) blobsNoneUptoCard

/-- THE SECOND FORM's CARD OF 'hogsheadlaw23.BlobsOrder'. -/
def blobsOrderUptoCard : Claim7 := { stood := { row := blobsOrderUptoRow, standIns := [], harness := (true, "6bcae10dd4414d6839fe7ef7eb14945318aa983da9056c08ab342c907e9b283a"), looks := false }, kinds := [], alts := [], laidByText := true, laidKinds := [.data, .data, .data], laidTests := true, laidLooks := .later }
def BlobsOrderUptoCardSaid : Prop := Claim7.holds Tryd.pinned (.plain (OpenSpec.upto blobsOrderSpec)) blobsOrderUptoCard
end Rows
end Go.Proofs.YtbnoihpooeombaaDoor
