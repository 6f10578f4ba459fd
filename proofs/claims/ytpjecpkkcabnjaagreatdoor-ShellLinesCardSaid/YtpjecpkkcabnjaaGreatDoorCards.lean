/-
  DERIVED. GIVEN WITH THE SEED: THE CARDS: each row of YtpjecpkkcabnjaaGreatDoorRows.lean that lists a variable, with what it lists TIED to the program's text (the seventh form; the later family's looks); each row that meets fmt, with fmt's text TOLD by the authors' own Lean function (tested against real Go, not proved from fmt's source: count such statements apart). THE CARD IS WHAT COUNTS. Prove the row's statement (the work); the ties are given (YtpjecpkkcabnjaaGreatDoorTie.lean); close each card by the builder's one call (the guide's Derived/Test/ToyasCard.lean, 'card_holds'). Laid BY PROGRAM, IN A SANDBOX (cutbox-door.mjs). By AI agents, Wed Nov 11 2026. No macro, syntax, notation, axiom, sorry.
-/
import Derived.Test.YtpjecpkkcabnjaaGreatDoorRows
import GoSem.ClaimSeven
namespace Go.Proofs.YtpjecpkkcabnjaaGreatDoor
namespace Rows

/-- THE TIED CARD OF 'concordlaw29.ShellLines'. -/
def shellLinesCard : Claim7 := { stood := { row := shellLinesRow, standIns := [], harness := (true, "9f3cbab7b39d665a58292312ae1aa9d85e70fa3c8101ae181c13d87eda11b0e9"), looks := true }, kinds := [], alts := [], laidByText := true, laidKinds := [.data, .data, .data, .data, .sentinel, .sentinel, .pinned], laidTests := true, laidLooks := .later }
def ShellLinesCardSaid : Prop := Claim7.holds Tryz.pinned (.plain (OpenSpec.ofChange shellLinesSpec)) shellLinesCard

/-- THE SECOND FORM's CARD OF 'concordlaw29.ShellLines'. -/
def shellLinesUptoCard : Claim7 := { stood := { row := shellLinesUptoRow, standIns := [], harness := (true, "9f3cbab7b39d665a58292312ae1aa9d85e70fa3c8101ae181c13d87eda11b0e9"), looks := true }, kinds := [], alts := [], laidByText := true, laidKinds := [.data, .data, .data, .data, .sentinel, .sentinel, .pinned], laidTests := true, laidLooks := .later }
def ShellLinesUptoCardSaid : Prop := Claim7.holds Tryz.pinned (.plain (OpenSpec.upto shellLinesSpec)) shellLinesUptoCard
end Rows
end Go.Proofs.YtpjecpkkcabnjaaGreatDoor
