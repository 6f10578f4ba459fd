/-
  DERIVED. GIVEN WITH THE SEED: THE CARDS: each row of YtkdlojagpocnoaaGreatDoorRows.lean that lists a variable, with what it lists TIED to the program's text (the seventh form; the later family's looks); each row that meets fmt, with fmt's text TOLD by the authors' own Lean function (tested against real Go, not proved from fmt's source: count such statements apart). THE CARD IS WHAT COUNTS. Prove the row's statement (the work); the ties are given (YtkdlojagpocnoaaGreatDoorTie.lean); close each card by the builder's one call (the guide's Derived/Test/ToyasCard.lean, 'card_holds'). Laid BY PROGRAM, IN A SANDBOX (cutbox-door.mjs). By AI agents, Wed Nov 11 2026. No macro, syntax, notation, axiom, sorry.
-/
import Derived.Test.YtkdlojagpocnoaaGreatDoorRows
import GoSem.ClaimSeven
namespace Go.Proofs.YtkdlojagpocnoaaGreatDoor
namespace Rows

/-- THE TIED CARD OF 'concordlaw23.NodeRuns'. -/
def nodeRunsCard : Claim7 := { stood := { row := nodeRunsRow, standIns := [], harness := (true, "bce18386bb5b5e3c79ed8e4b790f752860ac3fc533b53c675e50ec8f872f69a4"), looks := true }, kinds := [], alts := [], laidByText := true, laidKinds := [.data, .data, .data, .sentinel, .sentinel], laidTests := true, laidLooks := .later }
def NodeRunsCardSaid : Prop := Claim7.holds Tryz.pinned (.plain (OpenSpec.ofChange nodeRunsSpec)) nodeRunsCard

/-- THE TIED CARD OF 'concordlaw25.ClusterRuns'. -/
def clusterRunsCard : Claim7 := { stood := { row := clusterRunsRow, standIns := [], harness := (true, "bce18386bb5b5e3c79ed8e4b790f752860ac3fc533b53c675e50ec8f872f69a4"), looks := true }, kinds := [], alts := [], laidByText := true, laidKinds := [.data, .data, .data, .sentinel, .sentinel], laidTests := true, laidLooks := .later }
def ClusterRunsCardSaid : Prop := Claim7.holds Tryz.pinned (.plain (OpenSpec.ofChange clusterRunsSpec)) clusterRunsCard

/-- THE TIED CARD OF 'concordlaw27.CalmRuns'. -/
def calmRunsCard : Claim7 := { stood := { row := calmRunsRow, standIns := [], harness := (true, "bce18386bb5b5e3c79ed8e4b790f752860ac3fc533b53c675e50ec8f872f69a4"), looks := true }, kinds := [], alts := [], laidByText := true, laidKinds := [.data, .data, .data, .sentinel, .sentinel], laidTests := true, laidLooks := .later }
def CalmRunsCardSaid : Prop := Claim7.holds Tryz.pinned (.plain (OpenSpec.ofChange calmRunsSpec)) calmRunsCard

/-- THE TIED CARD OF 'concordlaw28.AuditRuns'. -/
def auditRunsCard : Claim7 := { stood := { row := auditRunsRow, standIns := [], harness := (true, "bce18386bb5b5e3c79ed8e4b790f752860ac3fc533b53c675e50ec8f872f69a4"), looks := true }, kinds := [], alts := [], laidByText := true, laidKinds := [.data, .data, .data, .sentinel, .sentinel], laidTests := true, laidLooks := .later }
def AuditRunsCardSaid : Prop := Claim7.holds Tryz.pinned (.plain (OpenSpec.ofChange auditRunsSpec)) auditRunsCard

/-- THE TIED CARD OF 'concordlaw28.AuditSums'. -/
def auditSumsCard : Claim7 := { stood := { row := auditSumsRow, standIns := [], harness := (true, "bce18386bb5b5e3c79ed8e4b790f752860ac3fc533b53c675e50ec8f872f69a4"), looks := true }, kinds := [], alts := [], laidByText := true, laidKinds := [.data, .data, .data, .sentinel, .sentinel], laidTests := true, laidLooks := .later }
def AuditSumsCardSaid : Prop := Claim7.holds Tryz.pinned (.plain (OpenSpec.ofChange auditSumsSpec)) auditSumsCard

/-- THE TIED CARD OF 'concordlaw29.ShellRuns'. -/
def shellRunsCard : Claim7 := { stood := { row := shellRunsRow, standIns := [], harness := (true, "bce18386bb5b5e3c79ed8e4b790f752860ac3fc533b53c675e50ec8f872f69a4"), looks := true }, kinds := [], alts := [], laidByText := true, laidKinds := [.data, .data, .data, .data, .sentinel, .sentinel, .pinned], laidTests := true, laidLooks := .later }
def ShellRunsCardSaid : Prop := Claim7.holds Tryz.pinned (.plain (OpenSpec.ofChange shellRunsSpec)) shellRunsCard

/-- THE SECOND FORM's CARD OF 'concordlaw23.NodeRuns'. -/
def nodeRunsUptoCard : Claim7 := { stood := { row := nodeRunsUptoRow, standIns := [], harness := (true, "bce18386bb5b5e3c79ed8e4b790f752860ac3fc533b53c675e50ec8f872f69a4"), looks := true }, kinds := [], alts := [], laidByText := true, laidKinds := [.data, .data, .data, .sentinel, .sentinel], laidTests := true, laidLooks := .later }
def NodeRunsUptoCardSaid : Prop := Claim7.holds Tryz.pinned (.plain (OpenSpec.upto nodeRunsSpec)) nodeRunsUptoCard

/-- THE SECOND FORM's CARD OF 'concordlaw25.ClusterRuns'. -/
def clusterRunsUptoCard : Claim7 := { stood := { row := clusterRunsUptoRow, standIns := [], harness := (true, "bce18386bb5b5e3c79ed8e4b790f752860ac3fc533b53c675e50ec8f872f69a4"), looks := true }, kinds := [], alts := [], laidByText := true, laidKinds := [.data, .data, .data, .sentinel, .sentinel], laidTests := true, laidLooks := .later }
def ClusterRunsUptoCardSaid : Prop := Claim7.holds Tryz.pinned (.plain (OpenSpec.upto clusterRunsSpec)) clusterRunsUptoCard

/-- THE SECOND FORM's CARD OF 'concordlaw27.CalmRuns'. -/
def calmRunsUptoCard : Claim7 := { stood := { row := calmRunsUptoRow, standIns := [], harness := (true, "bce18386bb5b5e3c79ed8e4b790f752860ac3fc533b53c675e50ec8f872f69a4"), looks := true }, kinds := [], alts := [], laidByText := true, laidKinds := [.data, .data, .data, .sentinel, .sentinel], laidTests := true, laidLooks := .later }
def CalmRunsUptoCardSaid : Prop := Claim7.holds Tryz.pinned (.plain (OpenSpec.upto calmRunsSpec)) calmRunsUptoCard

/-- THE SECOND FORM's CARD OF 'concordlaw28.AuditRuns'. -/
def auditRunsUptoCard : Claim7 := { stood := { row := auditRunsUptoRow, standIns := [], harness := (true, "bce18386bb5b5e3c79ed8e4b790f752860ac3fc533b53c675e50ec8f872f69a4"), looks := true }, kinds := [], alts := [], laidByText := true, laidKinds := [.data, .data, .data, .sentinel, .sentinel], laidTests := true, laidLooks := .later }
def AuditRunsUptoCardSaid : Prop := Claim7.holds Tryz.pinned (.plain (OpenSpec.upto auditRunsSpec)) auditRunsUptoCard

/-- THE SECOND FORM's CARD OF 'concordlaw28.AuditSums'. -/
def auditSumsUptoCard : Claim7 := { stood := { row := auditSumsUptoRow, standIns := [], harness := (true, "bce18386bb5b5e3c79ed8e4b790f752860ac3fc533b53c675e50ec8f872f69a4"), looks := true }, kinds := [], alts := [], laidByText := true, laidKinds := [.data, .data, .data, .sentinel, .sentinel], laidTests := true, laidLooks := .later }
def AuditSumsUptoCardSaid : Prop := Claim7.holds Tryz.pinned (.plain (OpenSpec.upto auditSumsSpec)) auditSumsUptoCard

/-- THE SECOND FORM's CARD OF 'concordlaw29.ShellRuns'. -/
def shellRunsUptoCard : Claim7 := { stood := { row := shellRunsUptoRow, standIns := [], harness := (true, "bce18386bb5b5e3c79ed8e4b790f752860ac3fc533b53c675e50ec8f872f69a4"), looks := true }, kinds := [], alts := [], laidByText := true, laidKinds := [.data, .data, .data, .data, .sentinel, .sentinel, .pinned], laidTests := true, laidLooks := .later }
def ShellRunsUptoCardSaid : Prop := Claim7.holds Tryz.pinned (.plain (OpenSpec.upto shellRunsSpec)) shellRunsUptoCard
end Rows
end Go.Proofs.YtkdlojagpocnoaaGreatDoor
