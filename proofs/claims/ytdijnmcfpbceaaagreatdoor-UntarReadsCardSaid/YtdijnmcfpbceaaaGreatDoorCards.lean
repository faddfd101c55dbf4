/-
  DERIVED. GIVEN WITH THE SEED: THE CARDS: each row of YtdijnmcfpbceaaaGreatDoorRows.lean that lists a variable, with what it lists TIED to the program's text (the seventh form; the later family's looks); each row that meets fmt, with fmt's text TOLD by the authors' own Lean function (tested against real Go, not proved from fmt's source: count such statements apart). THE CARD IS WHAT COUNTS. Prove the row's statement (the work); the ties are given (YtdijnmcfpbceaaaGreatDoorTie.lean); close each card by the builder's one call (the guide's Derived/Test/ToyasCard.lean, 'card_holds'). Laid BY PROGRAM, IN A SANDBOX (cutbox-door.mjs). By AI agents, Wed Nov 11 2026. No macro, syntax, notation, axiom, sorry.
-/
import Derived.Test.YtdijnmcfpbceaaaGreatDoorRows
import GoSem.ClaimSeven
namespace Go.Proofs.YtdijnmcfpbceaaaGreatDoor
namespace Rows

/-- THE TIED CARD OF 'hogsheadlaw13.TarLays'. -/
def tarLaysCard : Claim7 := { stood := { row := tarLaysRow, standIns := [], harness := (true, "67212848c7b679bf257f76674d8d750e48859ba3fef1529d380dc1c6b3bb5de7"), looks := true }, kinds := [], alts := [], laidByText := true, laidKinds := [.data, .data, .data, .data, .pinned], laidTests := true, laidLooks := .later }
def TarLaysCardSaid : Prop := Claim7.holds Tryz.pinned (.plain (OpenSpec.ofChange tarLaysSpec)) tarLaysCard

/-- THE TIED CARD OF 'hogsheadlaw14.UntarReads'. -/
def untarReadsCard : Claim7 := { stood := { row := untarReadsRow, standIns := [], harness := (true, "67212848c7b679bf257f76674d8d750e48859ba3fef1529d380dc1c6b3bb5de7"), looks := true }, kinds := [], alts := [], laidByText := true, laidKinds := [.data, .data, .data, .data, .sentinel, .sentinel, .pinned], laidTests := true, laidLooks := .later }
def UntarReadsCardSaid : Prop := Claim7.holds Tryz.pinned (.plain (OpenSpec.ofChange untarReadsSpec)) untarReadsCard

/-- THE TIED CARD OF 'hogsheadlaw14.UntarBack'. -/
def untarBackCard : Claim7 := { stood := { row := untarBackRow, standIns := [], harness := (true, "67212848c7b679bf257f76674d8d750e48859ba3fef1529d380dc1c6b3bb5de7"), looks := true }, kinds := [], alts := [], laidByText := true, laidKinds := [.data, .data, .data, .data, .sentinel, .sentinel, .pinned], laidTests := true, laidLooks := .later }
def UntarBackCardSaid : Prop := Claim7.holds Tryz.pinned (.plain (OpenSpec.ofChange untarBackSpec)) untarBackCard

/-- THE TIED CARD OF 'hogsheadlaw14.UntarTurned'. -/
def untarTurnedCard : Claim7 := { stood := { row := untarTurnedRow, standIns := [], harness := (true, "67212848c7b679bf257f76674d8d750e48859ba3fef1529d380dc1c6b3bb5de7"), looks := true }, kinds := [], alts := [], laidByText := true, laidKinds := [.data, .data, .data, .data, .sentinel, .sentinel, .pinned], laidTests := true, laidLooks := .later }
def UntarTurnedCardSaid : Prop := Claim7.holds Tryz.pinned (.plain (OpenSpec.ofChange untarTurnedSpec)) untarTurnedCard

/-- THE SECOND FORM's CARD OF 'hogsheadlaw13.TarLays'. -/
def tarLaysUptoCard : Claim7 := { stood := { row := tarLaysUptoRow, standIns := [], harness := (true, "67212848c7b679bf257f76674d8d750e48859ba3fef1529d380dc1c6b3bb5de7"), looks := true }, kinds := [], alts := [], laidByText := true, laidKinds := [.data, .data, .data, .data, .pinned], laidTests := true, laidLooks := .later }
def TarLaysUptoCardSaid : Prop := Claim7.holds Tryz.pinned (.plain (OpenSpec.upto tarLaysSpec)) tarLaysUptoCard

/-- THE SECOND FORM's CARD OF 'hogsheadlaw14.UntarReads'. -/
def untarReadsUptoCard : Claim7 := { stood := { row := untarReadsUptoRow, standIns := [], harness := (true, "67212848c7b679bf257f76674d8d750e48859ba3fef1529d380dc1c6b3bb5de7"), looks := true }, kinds := [], alts := [], laidByText := true, laidKinds := [.data, .data, .data, .data, .sentinel, .sentinel, .pinned], laidTests := true, laidLooks := .later }
def UntarReadsUptoCardSaid : Prop := Claim7.holds Tryz.pinned (.plain (OpenSpec.upto untarReadsSpec)) untarReadsUptoCard

/-- THE SECOND FORM's CARD OF 'hogsheadlaw14.UntarBack'. -/
def untarBackUptoCard : Claim7 := { stood := { row := untarBackUptoRow, standIns := [], harness := (true, "67212848c7b679bf257f76674d8d750e48859ba3fef1529d380dc1c6b3bb5de7"), looks := true }, kinds := [], alts := [], laidByText := true, laidKinds := [.data, .data, .data, .data, .sentinel, .sentinel, .pinned], laidTests := true, laidLooks := .later }
def UntarBackUptoCardSaid : Prop := Claim7.holds Tryz.pinned (.plain (OpenSpec.upto untarBackSpec)) untarBackUptoCard

/-- THE SECOND FORM's CARD OF 'hogsheadlaw14.UntarTurned'. -/
def untarTurnedUptoCard : Claim7 := { stood := { row := untarTurnedUptoRow, standIns := [], harness := (true, "67212848c7b679bf257f76674d8d750e48859ba3fef1529d380dc1c6b3bb5de7"), looks := true }, kinds := [], alts := [], laidByText := true, laidKinds := [.data, .data, .data, .data, .sentinel, .sentinel, .pinned], laidTests := true, laidLooks := .later }
def UntarTurnedUptoCardSaid : Prop := Claim7.holds Tryz.pinned (.plain (OpenSpec.upto untarTurnedSpec)) untarTurnedUptoCard
end Rows
end Go.Proofs.YtdijnmcfpbceaaaGreatDoor
