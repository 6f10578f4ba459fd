/-
  DERIVED. GIVEN WITH THE SEED: THE CARDS: each row of YtbbiiodadoeflaaGreatDoorRows.lean that lists a variable, with what it lists TIED to the program's text (the seventh form; the later family's looks); each row that meets fmt, with fmt's text TOLD by the authors' own Lean function (tested against real Go, not proved from fmt's source: count such statements apart). THE CARD IS WHAT COUNTS. Prove the row's statement (the work); the ties are given (YtbbiiodadoeflaaGreatDoorTie.lean); close each card by the builder's one call (the guide's Derived/Test/ToyasCard.lean, 'card_holds'). Laid BY PROGRAM, IN A SANDBOX (cutbox-door.mjs). By AI agents, Wed Nov 11 2026. No macro, syntax, notation, axiom, sorry.
-/
import Derived.Test.YtbbiiodadoeflaaGreatDoorRows
import GoSem.ClaimSeven
namespace Go.Proofs.YtbbiiodadoeflaaGreatDoor
namespace Rows

/-- THE TIED CARD OF 'concordlaw10.WalOpens'. -/
def walOpensCard : Claim7 := { stood := { row := walOpensRow, standIns := [], harness := (true, "7426b55b266dcd97cdd8e871a906b50728d2407d66a5ad354474dfbe6e397517"), looks := true }, kinds := [], alts := [], laidByText := true, laidKinds := [.data, .data, .data, .sentinel, .sentinel], laidTests := true, laidLooks := .later }
def WalOpensCardSaid : Prop := Claim7.holds Tryz.pinned (.plain (OpenSpec.ofChange walOpensSpec)) walOpensCard

/-- THE TIED CARD OF 'concordlaw10.WalSegments'. -/
def walSegmentsCard : Claim7 := { stood := { row := walSegmentsRow, standIns := [], harness := (true, "7426b55b266dcd97cdd8e871a906b50728d2407d66a5ad354474dfbe6e397517"), looks := true }, kinds := [], alts := [], laidByText := true, laidKinds := [.data, .data, .data, .sentinel, .sentinel], laidTests := true, laidLooks := .later }
def WalSegmentsCardSaid : Prop := Claim7.holds Tryz.pinned (.plain (OpenSpec.ofChange walSegmentsSpec)) walSegmentsCard

/-- THE TIED CARD OF 'concordlaw10.WalPlays'. -/
def walPlaysCard : Claim7 := { stood := { row := walPlaysRow, standIns := [], harness := (true, "7426b55b266dcd97cdd8e871a906b50728d2407d66a5ad354474dfbe6e397517"), looks := true }, kinds := [], alts := [], laidByText := true, laidKinds := [.data, .data, .data, .sentinel, .sentinel], laidTests := true, laidLooks := .later }
def WalPlaysCardSaid : Prop := Claim7.holds Tryz.pinned (.plain (OpenSpec.ofChange walPlaysSpec)) walPlaysCard

/-- THE SECOND FORM's CARD OF 'concordlaw10.WalOpens'. -/
def walOpensUptoCard : Claim7 := { stood := { row := walOpensUptoRow, standIns := [], harness := (true, "7426b55b266dcd97cdd8e871a906b50728d2407d66a5ad354474dfbe6e397517"), looks := true }, kinds := [], alts := [], laidByText := true, laidKinds := [.data, .data, .data, .sentinel, .sentinel], laidTests := true, laidLooks := .later }
def WalOpensUptoCardSaid : Prop := Claim7.holds Tryz.pinned (.plain (OpenSpec.upto walOpensSpec)) walOpensUptoCard

/-- THE SECOND FORM's CARD OF 'concordlaw10.WalSegments'. -/
def walSegmentsUptoCard : Claim7 := { stood := { row := walSegmentsUptoRow, standIns := [], harness := (true, "7426b55b266dcd97cdd8e871a906b50728d2407d66a5ad354474dfbe6e397517"), looks := true }, kinds := [], alts := [], laidByText := true, laidKinds := [.data, .data, .data, .sentinel, .sentinel], laidTests := true, laidLooks := .later }
def WalSegmentsUptoCardSaid : Prop := Claim7.holds Tryz.pinned (.plain (OpenSpec.upto walSegmentsSpec)) walSegmentsUptoCard

/-- THE SECOND FORM's CARD OF 'concordlaw10.WalPlays'. -/
def walPlaysUptoCard : Claim7 := { stood := { row := walPlaysUptoRow, standIns := [], harness := (true, "7426b55b266dcd97cdd8e871a906b50728d2407d66a5ad354474dfbe6e397517"), looks := true }, kinds := [], alts := [], laidByText := true, laidKinds := [.data, .data, .data, .sentinel, .sentinel], laidTests := true, laidLooks := .later }
def WalPlaysUptoCardSaid : Prop := Claim7.holds Tryz.pinned (.plain (OpenSpec.upto walPlaysSpec)) walPlaysUptoCard
end Rows
end Go.Proofs.YtbbiiodadoeflaaGreatDoor
