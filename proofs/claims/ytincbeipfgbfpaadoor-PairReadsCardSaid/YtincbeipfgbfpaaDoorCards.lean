/-
  DERIVED. GIVEN WITH THE SEED: THE CARDS: each row of YtincbeipfgbfpaaDoorRows.lean that lists a variable, with what it lists TIED to the program's text (the seventh form; the later family's looks); each row that meets fmt, with fmt's text TOLD by the authors' own Lean function (tested against real Go, not proved from fmt's source: count such statements apart). THE CARD IS WHAT COUNTS. Prove the row's statement (the work); the ties are given (YtincbeipfgbfpaaDoorTie.lean); close each card by the builder's one call (the guide's Derived/Test/ToyasCard.lean, 'card_holds'). Laid BY PROGRAM, IN A SANDBOX (cutbox-door.mjs). By AI agents, Wed Nov 11 2026. No macro, syntax, notation, axiom, sorry.
-/
import Derived.Test.YtincbeipfgbfpaaDoorRows
import GoSem.ClaimSeven
namespace Go.Proofs.YtincbeipfgbfpaaDoor
namespace Rows

/-- THE TIED CARD OF 'tollbarlaw01.PackInts'. -/
def packIntsCard : Claim7 := { stood := { row := packIntsRow, standIns := [], harness := (true, "8c8963781d6ea8fbb614ad7363556acd3eb329f5cb891bbded0bc4e2621da55c"), looks := true }, kinds := [], alts := [], laidByText := true, laidKinds := [.data, .data, .data, .handle, .sentinel, .sentinel], laidTests := true, laidLooks := .later }
def PackIntsCardSaid : Prop := Claim7.holds Tryd.pinned (.plain (OpenSpec.ofChange packIntsSpec)) packIntsCard

/-- THE TIED CARD OF 'tollbarlaw01.PackNumbers'. -/
def packNumbersCard : Claim7 := { stood := { row := packNumbersRow, standIns := [], harness := (true, "8c8963781d6ea8fbb614ad7363556acd3eb329f5cb891bbded0bc4e2621da55c"), looks := true }, kinds := [], alts := [], laidByText := true, laidKinds := [.data, .data, .data, .handle, .sentinel, .sentinel], laidTests := true, laidLooks := .later }
def PackNumbersCardSaid : Prop := Claim7.holds Tryd.pinned (.plain (OpenSpec.ofChange packNumbersSpec)) packNumbersCard

/-- THE TIED CARD OF 'tollbarlaw05.PairReads'. -/
def pairReadsCard : Claim7 := { stood := { row := pairReadsRow, standIns := [], harness := (true, "8c8963781d6ea8fbb614ad7363556acd3eb329f5cb891bbded0bc4e2621da55c"), looks := true }, kinds := [], alts := [], laidByText := true, laidKinds := [.data, .data, .data, .handle, .sentinel, .sentinel], laidTests := true, laidLooks := .later }
def PairReadsCardSaid : Prop := Claim7.holds Tryd.pinned (.plain (OpenSpec.ofChange pairReadsSpec)) pairReadsCard

/-- THE TIED CARD OF 'tollbarlaw01.PackCut'. -/
def packCutCard : Claim7 := { stood := { row := packCutRow, standIns := [], harness := (true, "8c8963781d6ea8fbb614ad7363556acd3eb329f5cb891bbded0bc4e2621da55c"), looks := true }, kinds := [], alts := [], laidByText := true, laidKinds := [.data, .data, .data, .handle, .sentinel, .sentinel], laidTests := true, laidLooks := .later }
def PackCutCardSaid : Prop := Claim7.holds Tryd.pinned (.plain (OpenSpec.ofChange packCutSpec)) packCutCard

/-- THE TIED CARD OF 'tollbarlaw01.PackBack'. -/
def packBackCard : Claim7 := { stood := { row := packBackRow, standIns := [], harness := (true, "8c8963781d6ea8fbb614ad7363556acd3eb329f5cb891bbded0bc4e2621da55c"), looks := true }, kinds := [], alts := [], laidByText := true, laidKinds := [.data, .data, .data, .handle, .sentinel, .sentinel], laidTests := true, laidLooks := .later }
def PackBackCardSaid : Prop := Claim7.holds Tryd.pinned (.plain (OpenSpec.ofChange packBackSpec)) packBackCard

/-- THE TIED CARD OF 'tollbarlaw01.PackWrong'. -/
def packWrongCard : Claim7 := { stood := { row := packWrongRow, standIns := [], harness := (true, "8c8963781d6ea8fbb614ad7363556acd3eb329f5cb891bbded0bc4e2621da55c"), looks := true }, kinds := [], alts := [], laidByText := true, laidKinds := [.data, .data, .data, .handle, .sentinel, .sentinel], laidTests := true, laidLooks := .later }
def PackWrongCardSaid : Prop := Claim7.holds Tryd.pinned (.plain (OpenSpec.ofChange packWrongSpec)) packWrongCard

/-- THE SECOND FORM's CARD OF 'tollbarlaw01.PackInts'. -/
def packIntsUptoCard : Claim7 := { stood := { row := packIntsUptoRow, standIns := [], harness := (true, "8c8963781d6ea8fbb614ad7363556acd3eb329f5cb891bbded0bc4e2621da55c"), looks := true }, kinds := [], alts := [], laidByText := true, laidKinds := [.data, .data, .data, .handle, .sentinel, .sentinel], laidTests := true, laidLooks := .later }
def PackIntsUptoCardSaid : Prop := Claim7.holds Tryd.pinned (.plain (OpenSpec.upto packIntsSpec)) packIntsUptoCard

/-- THE SECOND FORM's CARD OF 'tollbarlaw01.PackNumbers'. -/
def packNumbersUptoCard : Claim7 := { stood := { row := packNumbersUptoRow, standIns := [], harness := (true, "8c8963781d6ea8fbb614ad7363556acd3eb329f5cb891bbded0bc4e2621da55c"), looks := true }, kinds := [], alts := [], laidByText := true, laidKinds := [.data, .data, .data, .handle, .sentinel, .sentinel], laidTests := true, laidLooks := .later }
def PackNumbersUptoCardSaid : Prop := Claim7.holds Tryd.pinned (.plain (OpenSpec.upto packNumbersSpec)) packNumbersUptoCard

/-- THE SECOND FORM's CARD OF 'tollbarlaw05.PairReads'. -/
def pairReadsUptoCard : Claim7 := { stood := { row := pairReadsUptoRow, standIns := [], harness := (true, "8c8963781d6ea8fbb614ad7363556acd3eb329f5cb891bbded0bc4e2621da55c"), looks := true }, kinds := [], alts := [], laidByText := true, laidKinds := [.data, .data, .data, .handle, .sentinel, .sentinel], laidTests := true, laidLooks := .later }
def PairReadsUptoCardSaid : Prop := Claim7.holds Tryd.pinned (.plain (OpenSpec.upto pairReadsSpec)) pairReadsUptoCard

/-- THE SECOND FORM's CARD OF 'tollbarlaw01.PackCut'. -/
def packCutUptoCard : Claim7 := { stood := { row := packCutUptoRow, standIns := [], harness := (true, "8c8963781d6ea8fbb614ad7363556acd3eb329f5cb891bbded0bc4e2621da55c"), looks := true }, kinds := [], alts := [], laidByText := true, laidKinds := [.data, .data, .data, .handle, .sentinel, .sentinel], laidTests := true, laidLooks := .later }
def PackCutUptoCardSaid : Prop := Claim7.holds Tryd.pinned (.plain (OpenSpec.upto packCutSpec)) packCutUptoCard

/-- THE SECOND FORM's CARD OF 'tollbarlaw01.PackBack'. -/
def packBackUptoCard : Claim7 := { stood := { row := packBackUptoRow, standIns := [], harness := (true, "8c8963781d6ea8fbb614ad7363556acd3eb329f5cb891bbded0bc4e2621da55c"), looks := true }, kinds := [], alts := [], laidByText := true, laidKinds := [.data, .data, .data, .handle, .sentinel, .sentinel], laidTests := true, laidLooks := .later }
def PackBackUptoCardSaid : Prop := Claim7.holds Tryd.pinned (.plain (OpenSpec.upto packBackSpec)) packBackUptoCard

/-- THE SECOND FORM's CARD OF 'tollbarlaw01.PackWrong'. -/
def packWrongUptoCard : Claim7 := { stood := { row := packWrongUptoRow, standIns := [], harness := (true, "8c8963781d6ea8fbb614ad7363556acd3eb329f5cb891bbded0bc4e2621da55c"), looks := true }, kinds := [], alts := [], laidByText := true, laidKinds := [.data, .data, .data, .handle, .sentinel, .sentinel], laidTests := true, laidLooks := .later }
def PackWrongUptoCardSaid : Prop := Claim7.holds Tryd.pinned (.plain (OpenSpec.upto packWrongSpec)) packWrongUptoCard
end Rows
end Go.Proofs.YtincbeipfgbfpaaDoor
