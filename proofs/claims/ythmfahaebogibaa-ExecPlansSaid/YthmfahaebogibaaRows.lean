/-
  No cell of these rows narrows 'for every input' (looked for: loops, veiled, ifaces, maps, wideKeys, modest, calm, conditions, laid).
  DERIVED. THE GIVEN ROWS OF THIS SEAT. 6 by the template 'for every input the law returns true; each argument reads behind the call as it read before'; 0 by the template 'total and deterministic' (their statements: YthmfahaebogibaaTotals.lean).
  GIVEN WITH THE SEED: the statements are not yours to turn. If you find one false, say at which input.
  Laid BY PROGRAM, IN A SANDBOX (cutbox-rows.mjs): the forced cells as the released guide's own fill.sh prints them over the translation 7f4b257bf4fbd060… (all of the seat's roots in one cut). By AI agents, Wed Nov 11 2026. No macro, syntax, notation, axiom, sorry.
-/
import Derived.Test.YthmfahaebogibaaChecked
import GoSem.Claim
import GoSem.ClaimJoined
import GoSem.ClaimMapViews
import Derived.JoinedTies
import Derived.KernelRfl
namespace Go.Proofs.Ythmfahaebogibaa
/- THE CELL 'sum', in the pinned program and in every row, IS THE sha256 OF THE DUMP (.gsa) THAT YthmfahaebogibaaProg.lean LOADS. Nothing in Lean hashes anything: it is a label: what it is worth is what the hold of that sum in a sandbox is worth. -/
noncomputable def Try.pinned : Pinned := { name := "ythmfahaebogibaa", sum := "7f4b257bf4fbd06010f60648316080888ae79ecc059fc18c61309a1b50b5fd26", checked := Try.checked }
namespace Rows
def none {H : Type} : Left H := { results := [], args := [] }

/-- 'concordlaw20.ExecRuns': WHATEVER THE INPUT: true; the input reads as it did. -/
def execRunsSpec : ChangeSpec := { name := "execRuns", fn := fun _ => fun
  | [] => { results := [.lit (.bool true)], args := [] }
  | _ => none }
def execRunsRow : OpenClaim := { program := "ythmfahaebogibaa", sum := "7f4b257bf4fbd06010f60648316080888ae79ecc059fc18c61309a1b50b5fd26", func := "concord/concordlaw20.ExecRuns", spec := "execRuns", unfollowed := true, recurses := true, plainKeys := false, apart := false }
def ExecRunsSaid : Prop := execRunsRow.holds Try.pinned (OpenSpec.ofChange execRunsSpec)

/-- ITS FALSE NEIGHBOUR: 'it returns false'. Refute it at one input. -/
def execRunsWrong : ChangeSpec := { name := "execRuns", fn := fun _ => fun
  | [] => { results := [.lit (.bool false)], args := [] }
  | _ => none }
def ExecRunsWrongFalsely : Prop := execRunsRow.holds Try.pinned (OpenSpec.ofChange execRunsWrong)

/-- 'concordlaw20.ExecPlans': WHATEVER THE INPUT: true; the input reads as it did. -/
def execPlansSpec : ChangeSpec := { name := "execPlans", fn := fun _ => fun
  | [d1, d2] => { results := [.lit (.bool true)], args := [d1, d2] }
  | _ => none }
def execPlansRow : OpenClaim := { program := "ythmfahaebogibaa", sum := "7f4b257bf4fbd06010f60648316080888ae79ecc059fc18c61309a1b50b5fd26", func := "concord/concordlaw20.ExecPlans", spec := "execPlans", unfollowed := true, recurses := true, plainKeys := false, apart := false }
def ExecPlansSaid : Prop := execPlansRow.holds Try.pinned (OpenSpec.ofChange execPlansSpec)

/-- ITS FALSE NEIGHBOUR: 'it returns false'. Refute it at one input. -/
def execPlansWrong : ChangeSpec := { name := "execPlans", fn := fun _ => fun
  | [d1, d2] => { results := [.lit (.bool false)], args := [d1, d2] }
  | _ => none }
def ExecPlansWrongFalsely : Prop := execPlansRow.holds Try.pinned (OpenSpec.ofChange execPlansWrong)

/-- 'concordlaw20.ExecSame': WHATEVER THE INPUT: true; the input reads as it did. -/
def execSameSpec : ChangeSpec := { name := "execSame", fn := fun _ => fun
  | [d1, d2] => { results := [.lit (.bool true)], args := [d1, d2] }
  | _ => none }
def execSameRow : OpenClaim := { program := "ythmfahaebogibaa", sum := "7f4b257bf4fbd06010f60648316080888ae79ecc059fc18c61309a1b50b5fd26", func := "concord/concordlaw20.ExecSame", spec := "execSame", unfollowed := true, recurses := true, plainKeys := false, apart := false }
def ExecSameSaid : Prop := execSameRow.holds Try.pinned (OpenSpec.ofChange execSameSpec)

/-- ITS FALSE NEIGHBOUR: 'it returns false'. Refute it at one input. -/
def execSameWrong : ChangeSpec := { name := "execSame", fn := fun _ => fun
  | [d1, d2] => { results := [.lit (.bool false)], args := [d1, d2] }
  | _ => none }
def ExecSameWrongFalsely : Prop := execSameRow.holds Try.pinned (OpenSpec.ofChange execSameWrong)

/-- 'concordlaw20.ExecChain': WHATEVER THE INPUT: true; the input reads as it did. -/
def execChainSpec : ChangeSpec := { name := "execChain", fn := fun _ => fun
  | [d1, d2] => { results := [.lit (.bool true)], args := [d1, d2] }
  | _ => none }
def execChainRow : OpenClaim := { program := "ythmfahaebogibaa", sum := "7f4b257bf4fbd06010f60648316080888ae79ecc059fc18c61309a1b50b5fd26", func := "concord/concordlaw20.ExecChain", spec := "execChain", unfollowed := true, recurses := true, plainKeys := false, apart := false }
def ExecChainSaid : Prop := execChainRow.holds Try.pinned (OpenSpec.ofChange execChainSpec)

/-- ITS FALSE NEIGHBOUR: 'it returns false'. Refute it at one input. -/
def execChainWrong : ChangeSpec := { name := "execChain", fn := fun _ => fun
  | [d1, d2] => { results := [.lit (.bool false)], args := [d1, d2] }
  | _ => none }
def ExecChainWrongFalsely : Prop := execChainRow.holds Try.pinned (OpenSpec.ofChange execChainWrong)

/-- 'concordlaw20.ExecTwice': WHATEVER THE INPUT: true; the input reads as it did. -/
def execTwiceSpec : ChangeSpec := { name := "execTwice", fn := fun _ => fun
  | [d1, d2] => { results := [.lit (.bool true)], args := [d1, d2] }
  | _ => none }
def execTwiceRow : OpenClaim := { program := "ythmfahaebogibaa", sum := "7f4b257bf4fbd06010f60648316080888ae79ecc059fc18c61309a1b50b5fd26", func := "concord/concordlaw20.ExecTwice", spec := "execTwice", unfollowed := true, recurses := true, plainKeys := false, apart := false }
def ExecTwiceSaid : Prop := execTwiceRow.holds Try.pinned (OpenSpec.ofChange execTwiceSpec)

/-- ITS FALSE NEIGHBOUR: 'it returns false'. Refute it at one input. -/
def execTwiceWrong : ChangeSpec := { name := "execTwice", fn := fun _ => fun
  | [d1, d2] => { results := [.lit (.bool false)], args := [d1, d2] }
  | _ => none }
def ExecTwiceWrongFalsely : Prop := execTwiceRow.holds Try.pinned (OpenSpec.ofChange execTwiceWrong)

/-- 'concordlaw20.ExecWhole': WHATEVER THE INPUT: true; the input reads as it did. -/
def execWholeSpec : ChangeSpec := { name := "execWhole", fn := fun _ => fun
  | [d] => { results := [.lit (.bool true)], args := [d] }
  | _ => none }
def execWholeRow : OpenClaim := { program := "ythmfahaebogibaa", sum := "7f4b257bf4fbd06010f60648316080888ae79ecc059fc18c61309a1b50b5fd26", func := "concord/concordlaw20.ExecWhole", spec := "execWhole", unfollowed := true, recurses := true, plainKeys := false, apart := false }
def ExecWholeSaid : Prop := execWholeRow.holds Try.pinned (OpenSpec.ofChange execWholeSpec)

/-- ITS FALSE NEIGHBOUR: 'it returns false'. Refute it at one input. -/
def execWholeWrong : ChangeSpec := { name := "execWhole", fn := fun _ => fun
  | [d] => { results := [.lit (.bool false)], args := [d] }
  | _ => none }
def ExecWholeWrongFalsely : Prop := execWholeRow.holds Try.pinned (OpenSpec.ofChange execWholeWrong)

/- THE SECOND FORM. 'bulk': how many values and letters a reading holds, each counted each time it is reached (what is shared counts as often as it is met; a slice's spare places count too). A statement '..UptoSaid' is the law's where the arguments, and the package variables that the reading takes, are together of bulk at most 1048576: NARROWER than '..Said'. Prove '..Said' where nothing that the law and all that it calls make is longer than what came in: it says more and counts as full. Else prove '..UptoSaid'. A law counts once. -/
mutual
def uptoBulk {H : Type} : DataW H → Nat
  | .lit (.string bytes) => bytes.length + 1
  | .lit _ => 1
  | .nil => 1
  | .ptr d => uptoBulk d + 1
  | .slice elems spare => uptoBulkAll elems + uptoBulkAll spare + 1
  | .agg parts => uptoBulkAll parts + 1
  | .iface _ d => uptoBulk d + 1
  | .map entries => uptoBulkEntries entries + 1
  | .held _ => 1
def uptoBulkAll {H : Type} : List (DataW H) → Nat
  | [] => 0
  | d :: r => uptoBulk d + uptoBulkAll r
def uptoBulkEntries {H : Type} : List (Lit × DataW H) → Nat
  | [] => 0
  | x :: r => uptoBulkEntry x + uptoBulkEntries r
def uptoBulkEntry {H : Type} : Lit × DataW H → Nat
  | (.string bytes, d) => bytes.length + uptoBulk d + 1
  | (_, d) => uptoBulk d + 1
 end
def uptoSmall : (H : Type) → List (DataW H) → Bool := fun _ ds => decide (uptoBulkAll ds ≤ 1048576)
def OpenSpec.upto (s : _root_.Go.ChangeSpec) : _root_.Go.OpenSpec := { _root_.Go.OpenSpec.ofChange s with cond := some uptoSmall }

/-- 'concordlaw20.ExecRuns', WHERE WHAT IT READS IS OF BULK AT MOST 1048576: true; the input reads as it did. -/
def execRunsUptoRow : OpenClaim := { program := "ythmfahaebogibaa", sum := "7f4b257bf4fbd06010f60648316080888ae79ecc059fc18c61309a1b50b5fd26", func := "concord/concordlaw20.ExecRuns", spec := "execRuns", unfollowed := true, recurses := true, plainKeys := false, apart := false, narrowed := true }
def ExecRunsUptoSaid : Prop := execRunsUptoRow.holds Try.pinned (OpenSpec.upto execRunsSpec)

/-- 'concordlaw20.ExecPlans', WHERE WHAT IT READS IS OF BULK AT MOST 1048576: true; the input reads as it did. -/
def execPlansUptoRow : OpenClaim := { program := "ythmfahaebogibaa", sum := "7f4b257bf4fbd06010f60648316080888ae79ecc059fc18c61309a1b50b5fd26", func := "concord/concordlaw20.ExecPlans", spec := "execPlans", unfollowed := true, recurses := true, plainKeys := false, apart := false, narrowed := true }
def ExecPlansUptoSaid : Prop := execPlansUptoRow.holds Try.pinned (OpenSpec.upto execPlansSpec)

/-- 'concordlaw20.ExecSame', WHERE WHAT IT READS IS OF BULK AT MOST 1048576: true; the input reads as it did. -/
def execSameUptoRow : OpenClaim := { program := "ythmfahaebogibaa", sum := "7f4b257bf4fbd06010f60648316080888ae79ecc059fc18c61309a1b50b5fd26", func := "concord/concordlaw20.ExecSame", spec := "execSame", unfollowed := true, recurses := true, plainKeys := false, apart := false, narrowed := true }
def ExecSameUptoSaid : Prop := execSameUptoRow.holds Try.pinned (OpenSpec.upto execSameSpec)

/-- 'concordlaw20.ExecChain', WHERE WHAT IT READS IS OF BULK AT MOST 1048576: true; the input reads as it did. -/
def execChainUptoRow : OpenClaim := { program := "ythmfahaebogibaa", sum := "7f4b257bf4fbd06010f60648316080888ae79ecc059fc18c61309a1b50b5fd26", func := "concord/concordlaw20.ExecChain", spec := "execChain", unfollowed := true, recurses := true, plainKeys := false, apart := false, narrowed := true }
def ExecChainUptoSaid : Prop := execChainUptoRow.holds Try.pinned (OpenSpec.upto execChainSpec)

/-- 'concordlaw20.ExecTwice', WHERE WHAT IT READS IS OF BULK AT MOST 1048576: true; the input reads as it did. -/
def execTwiceUptoRow : OpenClaim := { program := "ythmfahaebogibaa", sum := "7f4b257bf4fbd06010f60648316080888ae79ecc059fc18c61309a1b50b5fd26", func := "concord/concordlaw20.ExecTwice", spec := "execTwice", unfollowed := true, recurses := true, plainKeys := false, apart := false, narrowed := true }
def ExecTwiceUptoSaid : Prop := execTwiceUptoRow.holds Try.pinned (OpenSpec.upto execTwiceSpec)

/-- 'concordlaw20.ExecWhole', WHERE WHAT IT READS IS OF BULK AT MOST 1048576: true; the input reads as it did. -/
def execWholeUptoRow : OpenClaim := { program := "ythmfahaebogibaa", sum := "7f4b257bf4fbd06010f60648316080888ae79ecc059fc18c61309a1b50b5fd26", func := "concord/concordlaw20.ExecWhole", spec := "execWhole", unfollowed := true, recurses := true, plainKeys := false, apart := false, narrowed := true }
def ExecWholeUptoSaid : Prop := execWholeUptoRow.holds Try.pinned (OpenSpec.upto execWholeSpec)

end Rows
end Go.Proofs.Ythmfahaebogibaa
