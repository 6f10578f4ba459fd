/-
  No cell of these rows narrows 'for every input' (looked for: loops, veiled, ifaces, maps, wideKeys, modest, calm, conditions, laid).
  DERIVED. THE GIVEN ROWS OF THIS SEAT. 6 by the template 'for every input the law returns true; each argument reads behind the call as it read before'; 0 by the template 'total and deterministic' (their statements: YtadkdbnikmkgfaaTotals.lean).
  GIVEN WITH THE SEED: the statements are not yours to turn. If you find one false, say at which input.
  Laid BY PROGRAM, IN A SANDBOX (cutbox-rows.mjs): the forced cells as the released guide's own fill.sh prints them over the translation 51931c2e818036e2… (all of the seat's roots in one cut). By AI agents, Wed Nov 11 2026. No macro, syntax, notation, axiom, sorry.
-/
import Derived.Test.YtadkdbnikmkgfaaChecked
import GoSem.Claim
import GoSem.ClaimJoined
import GoSem.ClaimMapViews
import Derived.JoinedTies
import Derived.KernelRfl
namespace Go.Proofs.Ytadkdbnikmkgfaa
/- THE CELL 'sum', in the pinned program and in every row, IS THE sha256 OF THE DUMP (.gsa) THAT YtadkdbnikmkgfaaProg.lean LOADS. Nothing in Lean hashes anything: it is a label: what it is worth is what the hold of that sum in a sandbox is worth. -/
noncomputable def Try.pinned : Pinned := { name := "ytadkdbnikmkgfaa", sum := "51931c2e818036e2eb8f4bf3233f415153af890757970b56a1852ec1616684c0", checked := Try.checked }
namespace Rows
def none {H : Type} : Left H := { results := [], args := [] }

/-- 'concordlaw16.LogRuns': WHATEVER THE INPUT: true; the input reads as it did. -/
def logRunsSpec : ChangeSpec := { name := "logRuns", fn := fun _ => fun
  | [] => { results := [.lit (.bool true)], args := [] }
  | _ => none }
def logRunsRow : OpenClaim := { program := "ytadkdbnikmkgfaa", sum := "51931c2e818036e2eb8f4bf3233f415153af890757970b56a1852ec1616684c0", func := "concord/concordlaw16.LogRuns", spec := "logRuns", unfollowed := true, recurses := true, plainKeys := false, apart := false }
def LogRunsSaid : Prop := logRunsRow.holds Try.pinned (OpenSpec.ofChange logRunsSpec)

/-- ITS FALSE NEIGHBOUR: 'it returns false'. Refute it at one input. -/
def logRunsWrong : ChangeSpec := { name := "logRuns", fn := fun _ => fun
  | [] => { results := [.lit (.bool false)], args := [] }
  | _ => none }
def LogRunsWrongFalsely : Prop := logRunsRow.holds Try.pinned (OpenSpec.ofChange logRunsWrong)

/-- 'concordlaw16.LogTops': WHATEVER THE INPUT: true; the input reads as it did. -/
def logTopsSpec : ChangeSpec := { name := "logTops", fn := fun _ => fun
  | [d1, d2] => { results := [.lit (.bool true)], args := [d1, d2] }
  | _ => none }
def logTopsRow : OpenClaim := { program := "ytadkdbnikmkgfaa", sum := "51931c2e818036e2eb8f4bf3233f415153af890757970b56a1852ec1616684c0", func := "concord/concordlaw16.LogTops", spec := "logTops", unfollowed := true, recurses := true, plainKeys := false, apart := false }
def LogTopsSaid : Prop := logTopsRow.holds Try.pinned (OpenSpec.ofChange logTopsSpec)

/-- ITS FALSE NEIGHBOUR: 'it returns false'. Refute it at one input. -/
def logTopsWrong : ChangeSpec := { name := "logTops", fn := fun _ => fun
  | [d1, d2] => { results := [.lit (.bool false)], args := [d1, d2] }
  | _ => none }
def LogTopsWrongFalsely : Prop := logTopsRow.holds Try.pinned (OpenSpec.ofChange logTopsWrong)

/-- 'concordlaw16.LogHolds': WHATEVER THE INPUT: true; the input reads as it did. -/
def logHoldsSpec : ChangeSpec := { name := "logHolds", fn := fun _ => fun
  | [d] => { results := [.lit (.bool true)], args := [d] }
  | _ => none }
def logHoldsRow : OpenClaim := { program := "ytadkdbnikmkgfaa", sum := "51931c2e818036e2eb8f4bf3233f415153af890757970b56a1852ec1616684c0", func := "concord/concordlaw16.LogHolds", spec := "logHolds", unfollowed := true, recurses := true, plainKeys := false, apart := false }
def LogHoldsSaid : Prop := logHoldsRow.holds Try.pinned (OpenSpec.ofChange logHoldsSpec)

/-- ITS FALSE NEIGHBOUR: 'it returns false'. Refute it at one input. -/
def logHoldsWrong : ChangeSpec := { name := "logHolds", fn := fun _ => fun
  | [d] => { results := [.lit (.bool false)], args := [d] }
  | _ => none }
def LogHoldsWrongFalsely : Prop := logHoldsRow.holds Try.pinned (OpenSpec.ofChange logHoldsWrong)

/-- 'concordlaw16.LogPlays': WHATEVER THE INPUT: true; the input reads as it did. -/
def logPlaysSpec : ChangeSpec := { name := "logPlays", fn := fun _ => fun
  | [d1, d2] => { results := [.lit (.bool true)], args := [d1, d2] }
  | _ => none }
def logPlaysRow : OpenClaim := { program := "ytadkdbnikmkgfaa", sum := "51931c2e818036e2eb8f4bf3233f415153af890757970b56a1852ec1616684c0", func := "concord/concordlaw16.LogPlays", spec := "logPlays", unfollowed := true, recurses := true, plainKeys := false, apart := false }
def LogPlaysSaid : Prop := logPlaysRow.holds Try.pinned (OpenSpec.ofChange logPlaysSpec)

/-- ITS FALSE NEIGHBOUR: 'it returns false'. Refute it at one input. -/
def logPlaysWrong : ChangeSpec := { name := "logPlays", fn := fun _ => fun
  | [d1, d2] => { results := [.lit (.bool false)], args := [d1, d2] }
  | _ => none }
def LogPlaysWrongFalsely : Prop := logPlaysRow.holds Try.pinned (OpenSpec.ofChange logPlaysWrong)

/-- 'concordlaw16.LogBytes': WHATEVER THE INPUT: true; the input reads as it did. -/
def logBytesSpec : ChangeSpec := { name := "logBytes", fn := fun _ => fun
  | [d1, d2, d3] => { results := [.lit (.bool true)], args := [d1, d2, d3] }
  | _ => none }
def logBytesRow : OpenClaim := { program := "ytadkdbnikmkgfaa", sum := "51931c2e818036e2eb8f4bf3233f415153af890757970b56a1852ec1616684c0", func := "concord/concordlaw16.LogBytes", spec := "logBytes", unfollowed := true, recurses := true, plainKeys := false, apart := false }
def LogBytesSaid : Prop := logBytesRow.holds Try.pinned (OpenSpec.ofChange logBytesSpec)

/-- ITS FALSE NEIGHBOUR: 'it returns false'. Refute it at one input. -/
def logBytesWrong : ChangeSpec := { name := "logBytes", fn := fun _ => fun
  | [d1, d2, d3] => { results := [.lit (.bool false)], args := [d1, d2, d3] }
  | _ => none }
def LogBytesWrongFalsely : Prop := logBytesRow.holds Try.pinned (OpenSpec.ofChange logBytesWrong)

/-- 'concordlaw16.LogReplays': WHATEVER THE INPUT: true; the input reads as it did. -/
def logReplaysSpec : ChangeSpec := { name := "logReplays", fn := fun _ => fun
  | [d1, d2] => { results := [.lit (.bool true)], args := [d1, d2] }
  | _ => none }
def logReplaysRow : OpenClaim := { program := "ytadkdbnikmkgfaa", sum := "51931c2e818036e2eb8f4bf3233f415153af890757970b56a1852ec1616684c0", func := "concord/concordlaw16.LogReplays", spec := "logReplays", unfollowed := true, recurses := true, plainKeys := false, apart := false }
def LogReplaysSaid : Prop := logReplaysRow.holds Try.pinned (OpenSpec.ofChange logReplaysSpec)

/-- ITS FALSE NEIGHBOUR: 'it returns false'. Refute it at one input. -/
def logReplaysWrong : ChangeSpec := { name := "logReplays", fn := fun _ => fun
  | [d1, d2] => { results := [.lit (.bool false)], args := [d1, d2] }
  | _ => none }
def LogReplaysWrongFalsely : Prop := logReplaysRow.holds Try.pinned (OpenSpec.ofChange logReplaysWrong)

/- THE SECOND FORM. 'bulk': how many values and letters a reading holds, each counted each time it is reached (what is shared counts as often as it is met; a slice's spare places count too). A statement '..UptoSaid' is the law's where the arguments, and the package variables that the reading takes, are together of bulk at most 1048576: NARROWER than '..Said'. Prove '..Said' where nothing that the law and all that it calls make is longer than what came in: it says more and counts as full. Else prove '..UptoSaid'. A law counts once. -/
mutual
def uptoBulk {H : Type} : DataW H → Nat
  | .lit (.string bytes) => bytes.length + 1
  | .lit _ => 1
  | .nil => 1
  | .ptr d => uptoBulk d + 1
  | .slice elems spare => uptoBulkAll elems + uptoBulkAll spare + 1
  | .agg parts => uptoBulkAll parts + 1
  | .iface _ d => uptoBulk d + 1
  | .map entries => uptoBulkEntries entries + 1
  | .held _ => 1
def uptoBulkAll {H : Type} : List (DataW H) → Nat
  | [] => 0
  | d :: r => uptoBulk d + uptoBulkAll r
def uptoBulkEntries {H : Type} : List (Lit × DataW H) → Nat
  | [] => 0
  | x :: r => uptoBulkEntry x + uptoBulkEntries r
def uptoBulkEntry {H : Type} : Lit × DataW H → Nat
  | (.string bytes, d) => bytes.length + uptoBulk d + 1
  | (_, d) => uptoBulk d + 1
 end
def uptoSmall : (H : Type) → List (DataW H) → Bool := fun _ ds => decide (uptoBulkAll ds ≤ 1048576)
def OpenSpec.upto (s : _root_.Go.ChangeSpec) : _root_.Go.OpenSpec := { _root_.Go.OpenSpec.ofChange s with cond := some uptoSmall }

/-- 'concordlaw16.LogRuns', WHERE WHAT IT READS IS OF BULK AT MOST 1048576: true; the input reads as it did. -/
def logRunsUptoRow : OpenClaim := { program := "ytadkdbnikmkgfaa", sum := "51931c2e818036e2eb8f4bf3233f415153af890757970b56a1852ec1616684c0", func := "concord/concordlaw16.LogRuns", spec := "logRuns", unfollowed := true, recurses := true, plainKeys := false, apart := false, narrowed := true }
def LogRunsUptoSaid : Prop := logRunsUptoRow.holds Try.pinned (OpenSpec.upto logRunsSpec)

/-- 'concordlaw16.LogTops', WHERE WHAT IT READS IS OF BULK AT MOST 1048576: true; the input reads as it did. -/
def logTopsUptoRow : OpenClaim := { program := "ytadkdbnikmkgfaa", sum := "51931c2e818036e2eb8f4bf3233f415153af890757970b56a1852ec1616684c0", func := "concord/concordlaw16.LogTops", spec := "logTops", unfollowed := true, recurses := true, plainKeys := false, apart := false, narrowed := true }
def LogTopsUptoSaid : Prop := logTopsUptoRow.holds Try.pinned (OpenSpec.upto logTopsSpec)

/-- 'concordlaw16.LogHolds', WHERE WHAT IT READS IS OF BULK AT MOST 1048576: true; the input reads as it did. -/
def logHoldsUptoRow : OpenClaim := { program := "ytadkdbnikmkgfaa", sum := "51931c2e818036e2eb8f4bf3233f415153af890757970b56a1852ec1616684c0", func := "concord/concordlaw16.LogHolds", spec := "logHolds", unfollowed := true, recurses := true, plainKeys := false, apart := false, narrowed := true }
def LogHoldsUptoSaid : Prop := logHoldsUptoRow.holds Try.pinned (OpenSpec.upto logHoldsSpec)

/-- 'concordlaw16.LogPlays', WHERE WHAT IT READS IS OF BULK AT MOST 1048576: true; the input reads as it did. -/
def logPlaysUptoRow : OpenClaim := { program := "ytadkdbnikmkgfaa", sum := "51931c2e818036e2eb8f4bf3233f415153af890757970b56a1852ec1616684c0", func := "concord/concordlaw16.LogPlays", spec := "logPlays", unfollowed := true, recurses := true, plainKeys := false, apart := false, narrowed := true }
def LogPlaysUptoSaid : Prop := logPlaysUptoRow.holds Try.pinned (OpenSpec.upto logPlaysSpec)

/-- 'concordlaw16.LogBytes', WHERE WHAT IT READS IS OF BULK AT MOST 1048576: true; the input reads as it did. -/
def logBytesUptoRow : OpenClaim := { program := "ytadkdbnikmkgfaa", sum := "51931c2e818036e2eb8f4bf3233f415153af890757970b56a1852ec1616684c0", func := "concord/concordlaw16.LogBytes", spec := "logBytes", unfollowed := true, recurses := true, plainKeys := false, apart := false, narrowed := true }
def LogBytesUptoSaid : Prop := logBytesUptoRow.holds Try.pinned (OpenSpec.upto logBytesSpec)

/-- 'concordlaw16.LogReplays', WHERE WHAT IT READS IS OF BULK AT MOST 1048576: true; the input reads as it did. -/
def logReplaysUptoRow : OpenClaim := { program := "ytadkdbnikmkgfaa", sum := "51931c2e818036e2eb8f4bf3233f415153af890757970b56a1852ec1616684c0", func := "concord/concordlaw16.LogReplays", spec := "logReplays", unfollowed := true, recurses := true, plainKeys := false, apart := false, narrowed := true }
def LogReplaysUptoSaid : Prop := logReplaysUptoRow.holds Try.pinned (OpenSpec.upto logReplaysSpec)

end Rows
end Go.Proofs.Ytadkdbnikmkgfaa
