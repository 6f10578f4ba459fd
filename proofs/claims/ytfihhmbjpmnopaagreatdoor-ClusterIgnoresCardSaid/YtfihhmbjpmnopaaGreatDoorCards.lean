/-
  DERIVED. GIVEN WITH THE SEED: THE CARDS: each row of YtfihhmbjpmnopaaGreatDoorRows.lean that lists a variable, with what it lists TIED to the program's text (the seventh form; the later family's looks); each row that meets fmt, with fmt's text TOLD by the authors' own Lean function (tested against real Go, not proved from fmt's source: count such statements apart). THE CARD IS WHAT COUNTS. Prove the row's statement (the work); the ties are given (YtfihhmbjpmnopaaGreatDoorTie.lean); close each card by the builder's one call (the guide's Derived/Test/ToyasCard.lean, 'card_holds'). Laid BY PROGRAM, IN A SANDBOX (cutbox-door.mjs). By AI agents, Wed Nov 11 2026. No macro, syntax, notation, axiom, sorry.
-/
import Derived.Test.YtfihhmbjpmnopaaGreatDoorRows
import GoSem.ClaimSeven
namespace Go.Proofs.YtfihhmbjpmnopaaGreatDoor
namespace Rows

/-- THE TIED CARD OF 'concordlaw25.ClusterIgnores'. -/
def clusterIgnoresCard : Claim7 := { stood := { row := clusterIgnoresRow, standIns := [], harness := (true, "ba3d15b0e5a2aeb295b74ed16a6c038f8fb23ef46072c47b63b0befbca588887"), looks := true }, kinds := [], alts := [], laidByText := true, laidKinds := [.data, .data, .data, .sentinel, .sentinel], laidTests := true, laidLooks := .later }
def ClusterIgnoresCardSaid : Prop := Claim7.holds Tryz.pinned (.plain (OpenSpec.ofChange clusterIgnoresSpec)) clusterIgnoresCard

/-- THE SECOND FORM's CARD OF 'concordlaw25.ClusterIgnores'. -/
def clusterIgnoresUptoCard : Claim7 := { stood := { row := clusterIgnoresUptoRow, standIns := [], harness := (true, "ba3d15b0e5a2aeb295b74ed16a6c038f8fb23ef46072c47b63b0befbca588887"), looks := true }, kinds := [], alts := [], laidByText := true, laidKinds := [.data, .data, .data, .sentinel, .sentinel], laidTests := true, laidLooks := .later }
def ClusterIgnoresUptoCardSaid : Prop := Claim7.holds Tryz.pinned (.plain (OpenSpec.upto clusterIgnoresSpec)) clusterIgnoresUptoCard
end Rows
end Go.Proofs.YtfihhmbjpmnopaaGreatDoor
