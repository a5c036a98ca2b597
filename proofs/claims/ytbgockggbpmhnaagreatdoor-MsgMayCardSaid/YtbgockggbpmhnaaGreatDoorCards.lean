/-
  DERIVED. GIVEN WITH THE SEED: THE CARDS: each row of YtbgockggbpmhnaaGreatDoorRows.lean that lists a variable, with what it lists TIED to the program's text (the seventh form; the later family's looks); each row that meets fmt, with fmt's text TOLD by the authors' own Lean function (tested against real Go, not proved from fmt's source: count such statements apart). THE CARD IS WHAT COUNTS. Prove the row's statement (the work); the ties are given (YtbgockggbpmhnaaGreatDoorTie.lean); close each card by the builder's one call (the guide's Derived/Test/ToyasCard.lean, 'card_holds'). Laid BY PROGRAM, IN A SANDBOX (cutbox-door.mjs). By AI agents, Wed Nov 11 2026. No macro, syntax, notation, axiom, sorry.
-/
import Derived.Test.YtbgockggbpmhnaaGreatDoorRows
import GoSem.ClaimSeven
namespace Go.Proofs.YtbgockggbpmhnaaGreatDoor
namespace Rows

/-- THE TIED CARD OF 'tollbarlaw11.MsgBytes'. -/
def msgBytesCard : Claim7 := { stood := { row := msgBytesRow, standIns := [], harness := (true, "121d43d048238dd7d9b496948097c34687664c3d66537c965008269af9c7248f"), looks := true }, kinds := [], alts := [], laidByText := true, laidKinds := [.data, .data, .data, .handle, .sentinel, .sentinel], laidTests := true, laidLooks := .later }
def MsgBytesCardSaid : Prop := Claim7.holds Tryz.pinned (.plain (OpenSpec.ofChange msgBytesSpec)) msgBytesCard

/-- THE TIED CARD OF 'tollbarlaw11.MsgFrames'. -/
def msgFramesCard : Claim7 := { stood := { row := msgFramesRow, standIns := [], harness := (true, "121d43d048238dd7d9b496948097c34687664c3d66537c965008269af9c7248f"), looks := true }, kinds := [], alts := [], laidByText := true, laidKinds := [.data, .data, .data, .handle, .sentinel, .sentinel], laidTests := true, laidLooks := .later }
def MsgFramesCardSaid : Prop := Claim7.holds Tryz.pinned (.plain (OpenSpec.ofChange msgFramesSpec)) msgFramesCard

/-- THE TIED CARD OF 'tollbarlaw11.MsgSpoilt'. -/
def msgSpoiltCard : Claim7 := { stood := { row := msgSpoiltRow, standIns := [], harness := (true, "121d43d048238dd7d9b496948097c34687664c3d66537c965008269af9c7248f"), looks := true }, kinds := [], alts := [], laidByText := true, laidKinds := [.data, .data, .data, .handle, .sentinel, .sentinel], laidTests := true, laidLooks := .later }
def MsgSpoiltCardSaid : Prop := Claim7.holds Tryz.pinned (.plain (OpenSpec.ofChange msgSpoiltSpec)) msgSpoiltCard

/-- THE TIED CARD OF 'tollbarlaw11.MsgMay'. -/
def msgMayCard : Claim7 := { stood := { row := msgMayRow, standIns := [], harness := (true, "121d43d048238dd7d9b496948097c34687664c3d66537c965008269af9c7248f"), looks := true }, kinds := [], alts := [], laidByText := true, laidKinds := [.data, .data, .data, .handle, .sentinel, .sentinel], laidTests := true, laidLooks := .later }
def MsgMayCardSaid : Prop := Claim7.holds Tryz.pinned (.plain (OpenSpec.ofChange msgMaySpec)) msgMayCard

/-- THE TIED CARD OF 'tollbarlaw11.MsgReads'. -/
def msgReadsCard : Claim7 := { stood := { row := msgReadsRow, standIns := [], harness := (true, "121d43d048238dd7d9b496948097c34687664c3d66537c965008269af9c7248f"), looks := true }, kinds := [], alts := [], laidByText := true, laidKinds := [.data, .data, .data, .handle, .sentinel, .sentinel], laidTests := true, laidLooks := .later }
def MsgReadsCardSaid : Prop := Claim7.holds Tryz.pinned (.plain (OpenSpec.ofChange msgReadsSpec)) msgReadsCard

/-- THE TIED CARD OF 'tollbarlaw11.MsgSeals'. -/
def msgSealsCard : Claim7 := { stood := { row := msgSealsRow, standIns := [], harness := (true, "121d43d048238dd7d9b496948097c34687664c3d66537c965008269af9c7248f"), looks := true }, kinds := [], alts := [], laidByText := true, laidKinds := [.data, .data, .data, .handle, .sentinel, .sentinel], laidTests := true, laidLooks := .later }
def MsgSealsCardSaid : Prop := Claim7.holds Tryz.pinned (.plain (OpenSpec.ofChange msgSealsSpec)) msgSealsCard

/-- THE SECOND FORM's CARD OF 'tollbarlaw11.MsgBytes'. -/
def msgBytesUptoCard : Claim7 := { stood := { row := msgBytesUptoRow, standIns := [], harness := (true, "121d43d048238dd7d9b496948097c34687664c3d66537c965008269af9c7248f"), looks := true }, kinds := [], alts := [], laidByText := true, laidKinds := [.data, .data, .data, .handle, .sentinel, .sentinel], laidTests := true, laidLooks := .later }
def MsgBytesUptoCardSaid : Prop := Claim7.holds Tryz.pinned (.plain (OpenSpec.upto msgBytesSpec)) msgBytesUptoCard

/-- THE SECOND FORM's CARD OF 'tollbarlaw11.MsgFrames'. -/
def msgFramesUptoCard : Claim7 := { stood := { row := msgFramesUptoRow, standIns := [], harness := (true, "121d43d048238dd7d9b496948097c34687664c3d66537c965008269af9c7248f"), looks := true }, kinds := [], alts := [], laidByText := true, laidKinds := [.data, .data, .data, .handle, .sentinel, .sentinel], laidTests := true, laidLooks := .later }
def MsgFramesUptoCardSaid : Prop := Claim7.holds Tryz.pinned (.plain (OpenSpec.upto msgFramesSpec)) msgFramesUptoCard

/-- THE SECOND FORM's CARD OF 'tollbarlaw11.MsgSpoilt'. -/
def msgSpoiltUptoCard : Claim7 := { stood := { row := msgSpoiltUptoRow, standIns := [], harness := (true, "121d43d048238dd7d9b496948097c34687664c3d66537c965008269af9c7248f"), looks := true }, kinds := [], alts := [], laidByText := true, laidKinds := [.data, .data, .data, .handle, .sentinel, .sentinel], laidTests := true, laidLooks := .later }
def MsgSpoiltUptoCardSaid : Prop := Claim7.holds Tryz.pinned (.plain (OpenSpec.upto msgSpoiltSpec)) msgSpoiltUptoCard

/-- THE SECOND FORM's CARD OF 'tollbarlaw11.MsgMay'. -/
def msgMayUptoCard : Claim7 := { stood := { row := msgMayUptoRow, standIns := [], harness := (true, "121d43d048238dd7d9b496948097c34687664c3d66537c965008269af9c7248f"), looks := true }, kinds := [], alts := [], laidByText := true, laidKinds := [.data, .data, .data, .handle, .sentinel, .sentinel], laidTests := true, laidLooks := .later }
def MsgMayUptoCardSaid : Prop := Claim7.holds Tryz.pinned (.plain (OpenSpec.upto msgMaySpec)) msgMayUptoCard

/-- THE SECOND FORM's CARD OF 'tollbarlaw11.MsgReads'. -/
def msgReadsUptoCard : Claim7 := { stood := { row := msgReadsUptoRow, standIns := [], harness := (true, "121d43d048238dd7d9b496948097c34687664c3d66537c965008269af9c7248f"), looks := true }, kinds := [], alts := [], laidByText := true, laidKinds := [.data, .data, .data, .handle, .sentinel, .sentinel], laidTests := true, laidLooks := .later }
def MsgReadsUptoCardSaid : Prop := Claim7.holds Tryz.pinned (.plain (OpenSpec.upto msgReadsSpec)) msgReadsUptoCard

/-- THE SECOND FORM's CARD OF 'tollbarlaw11.MsgSeals'. -/
def msgSealsUptoCard : Claim7 := { stood := { row := msgSealsUptoRow, standIns := [], harness := (true, "121d43d048238dd7d9b496948097c34687664c3d66537c965008269af9c7248f"), looks := true }, kinds := [], alts := [], laidByText := true, laidKinds := [.data, .data, .data, .handle, .sentinel, .sentinel], laidTests := true, laidLooks := .later }
def MsgSealsUptoCardSaid : Prop := Claim7.holds Tryz.pinned (.plain (OpenSpec.upto msgSealsSpec)) msgSealsUptoCard
end Rows
end Go.Proofs.YtbgockggbpmhnaaGreatDoor
