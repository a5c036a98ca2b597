/-
  DERIVED. GIVEN WITH THE SEED: THE CARDS: each row of YtflghelhdalhiaaGreatDoorRows.lean that lists a variable, with what it lists TIED to the program's text (the seventh form; the later family's looks); each row that meets fmt, with fmt's text TOLD by the authors' own Lean function (tested against real Go, not proved from fmt's source: count such statements apart). THE CARD IS WHAT COUNTS. Prove the row's statement (the work); the ties are given (YtflghelhdalhiaaGreatDoorTie.lean); close each card by the builder's one call (the guide's Derived/Test/ToyasCard.lean, 'card_holds'). Laid BY PROGRAM, IN A SANDBOX (cutbox-door.mjs). By AI agents, Wed Nov 11 2026. No macro, syntax, notation, axiom, sorry.
-/
import Derived.Test.YtflghelhdalhiaaGreatDoorRows
import GoSem.ClaimSeven
namespace Go.Proofs.YtflghelhdalhiaaGreatDoor
namespace Rows

/-- THE TIED CARD OF 'tollbarlaw06.QuotaBytes'. -/
def quotaBytesCard : Claim7 := { stood := { row := quotaBytesRow, standIns := [], harness := (true, "017b0a1c1614d480ae460955884b7dfea84fb0ebae9af9f69b374dcf51bdd7eb"), looks := true }, kinds := [], alts := [], laidByText := true, laidKinds := [.data, .data, .data, .handle, .sentinel, .sentinel], laidTests := true, laidLooks := .later }
def QuotaBytesCardSaid : Prop := Claim7.holds Tryz.pinned (.plain (OpenSpec.ofChange quotaBytesSpec)) quotaBytesCard

/-- THE SECOND FORM's CARD OF 'tollbarlaw06.QuotaBytes'. -/
def quotaBytesUptoCard : Claim7 := { stood := { row := quotaBytesUptoRow, standIns := [], harness := (true, "017b0a1c1614d480ae460955884b7dfea84fb0ebae9af9f69b374dcf51bdd7eb"), looks := true }, kinds := [], alts := [], laidByText := true, laidKinds := [.data, .data, .data, .handle, .sentinel, .sentinel], laidTests := true, laidLooks := .later }
def QuotaBytesUptoCardSaid : Prop := Claim7.holds Tryz.pinned (.plain (OpenSpec.upto quotaBytesSpec)) quotaBytesUptoCard
end Rows
end Go.Proofs.YtflghelhdalhiaaGreatDoor
