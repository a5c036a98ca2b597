/-
  DERIVED. GIVEN WITH THE SEED: THE CARDS: each row of YtkanjdijmdjbaaaGreatDoorRows.lean that lists a variable, with what it lists TIED to the program's text (the seventh form; the later family's looks); each row that meets fmt, with fmt's text TOLD by the authors' own Lean function (tested against real Go, not proved from fmt's source: count such statements apart). THE CARD IS WHAT COUNTS. Prove the row's statement (the work); the ties are given (YtkanjdijmdjbaaaGreatDoorTie.lean); close each card by the builder's one call (the guide's Derived/Test/ToyasCard.lean, 'card_holds'). Laid BY PROGRAM, IN A SANDBOX (cutbox-door.mjs). By AI agents, Wed Nov 11 2026. No macro, syntax, notation, axiom, sorry.
-/
import Derived.Test.YtkanjdijmdjbaaaGreatDoorRows
import GoSem.ClaimSeven
namespace Go.Proofs.YtkanjdijmdjbaaaGreatDoor
namespace Rows

/-- THE TIED CARD OF 'tollbarlaw08.SessionBytes'. -/
def sessionBytesCard : Claim7 := { stood := { row := sessionBytesRow, standIns := [], harness := (true, "f4c719ecd04e4dfbfdfcc5479273fa3fbcdad2e3589333ba245dd0d81235354f"), looks := true }, kinds := [], alts := [], laidByText := true, laidKinds := [.data, .data, .data, .handle, .sentinel, .sentinel], laidTests := true, laidLooks := .later }
def SessionBytesCardSaid : Prop := Claim7.holds Tryz.pinned (.plain (OpenSpec.ofChange sessionBytesSpec)) sessionBytesCard

/-- THE SECOND FORM's CARD OF 'tollbarlaw08.SessionBytes'. -/
def sessionBytesUptoCard : Claim7 := { stood := { row := sessionBytesUptoRow, standIns := [], harness := (true, "f4c719ecd04e4dfbfdfcc5479273fa3fbcdad2e3589333ba245dd0d81235354f"), looks := true }, kinds := [], alts := [], laidByText := true, laidKinds := [.data, .data, .data, .handle, .sentinel, .sentinel], laidTests := true, laidLooks := .later }
def SessionBytesUptoCardSaid : Prop := Claim7.holds Tryz.pinned (.plain (OpenSpec.upto sessionBytesSpec)) sessionBytesUptoCard
end Rows
end Go.Proofs.YtkanjdijmdjbaaaGreatDoor
