/-
  No cell of these rows narrows 'for every input' (looked for: loops, veiled, ifaces, maps, wideKeys, modest, calm, conditions, laid).
  DERIVED. THE GIVEN ROWS OF THIS SEAT. 5 by the template 'for every input the law returns true; each argument reads behind the call as it read before'; 0 by the template 'total and deterministic' (their statements: YtncllenandjphaaTotals.lean).
  GIVEN WITH THE SEED: the statements are not yours to turn. If you find one false, say at which input.
  Laid BY PROGRAM, IN A SANDBOX (cutbox-rows.mjs): the forced cells as the released guide's own fill.sh prints them over the translation 7450d6d5f62e6332… (all of the seat's roots in one cut). By AI agents, Wed Nov 11 2026. No macro, syntax, notation, axiom, sorry.
-/
import Derived.Test.YtncllenandjphaaChecked
import GoSem.Claim
import GoSem.ClaimJoined
import GoSem.ClaimMapViews
import Derived.JoinedTies
import Derived.KernelRfl
namespace Go.Proofs.Ytncllenandjphaa
/- THE CELL 'sum', in the pinned program and in every row, IS THE sha256 OF THE DUMP (.gsa) THAT YtncllenandjphaaProg.lean LOADS. Nothing in Lean hashes anything: it is a label: what it is worth is what the hold of that sum in a sandbox is worth. -/
noncomputable def Try.pinned : Pinned := { name := "ytncllenandjphaa", sum := "7450d6d5f62e6332d03ed7c2797a626124b946d4587605ea71b217d049621bd5", checked := Try.checked }
namespace Rows
def none {H : Type} : Left H := { results := [], args := [] }

/-- 'concordlaw6.InstRuns': WHATEVER THE INPUT: true; the input reads as it did. -/
def instRunsSpec : ChangeSpec := { name := "instRuns", fn := fun _ => fun
  | [] => { results := [.lit (.bool true)], args := [] }
  | _ => none }
def instRunsRow : OpenClaim := { program := "ytncllenandjphaa", sum := "7450d6d5f62e6332d03ed7c2797a626124b946d4587605ea71b217d049621bd5", func := "concord/concordlaw6.InstRuns", spec := "instRuns", unfollowed := true, recurses := true, plainKeys := false, apart := false }
def InstRunsSaid : Prop := instRunsRow.holds Try.pinned (OpenSpec.ofChange instRunsSpec)

/-- ITS FALSE NEIGHBOUR: 'it returns false'. Refute it at one input. -/
def instRunsWrong : ChangeSpec := { name := "instRuns", fn := fun _ => fun
  | [] => { results := [.lit (.bool false)], args := [] }
  | _ => none }
def InstRunsWrongFalsely : Prop := instRunsRow.holds Try.pinned (OpenSpec.ofChange instRunsWrong)

/-- 'concordlaw6.InstPlays': WHATEVER THE INPUT: true; the input reads as it did. -/
def instPlaysSpec : ChangeSpec := { name := "instPlays", fn := fun _ => fun
  | [d1, d2] => { results := [.lit (.bool true)], args := [d1, d2] }
  | _ => none }
def instPlaysRow : OpenClaim := { program := "ytncllenandjphaa", sum := "7450d6d5f62e6332d03ed7c2797a626124b946d4587605ea71b217d049621bd5", func := "concord/concordlaw6.InstPlays", spec := "instPlays", unfollowed := true, recurses := true, plainKeys := false, apart := false }
def InstPlaysSaid : Prop := instPlaysRow.holds Try.pinned (OpenSpec.ofChange instPlaysSpec)

/-- ITS FALSE NEIGHBOUR: 'it returns false'. Refute it at one input. -/
def instPlaysWrong : ChangeSpec := { name := "instPlays", fn := fun _ => fun
  | [d1, d2] => { results := [.lit (.bool false)], args := [d1, d2] }
  | _ => none }
def InstPlaysWrongFalsely : Prop := instPlaysRow.holds Try.pinned (OpenSpec.ofChange instPlaysWrong)

/-- 'concordlaw6.InstOrder': WHATEVER THE INPUT: true; the input reads as it did. -/
def instOrderSpec : ChangeSpec := { name := "instOrder", fn := fun _ => fun
  | [d1, d2, d3, d4, d5, d6, d7] => { results := [.lit (.bool true)], args := [d1, d2, d3, d4, d5, d6, d7] }
  | _ => none }
def instOrderRow : OpenClaim := { program := "ytncllenandjphaa", sum := "7450d6d5f62e6332d03ed7c2797a626124b946d4587605ea71b217d049621bd5", func := "concord/concordlaw6.InstOrder", spec := "instOrder", unfollowed := true, recurses := true, plainKeys := false, apart := false }
def InstOrderSaid : Prop := instOrderRow.holds Try.pinned (OpenSpec.ofChange instOrderSpec)

/-- ITS FALSE NEIGHBOUR: 'it returns false'. Refute it at one input. -/
def instOrderWrong : ChangeSpec := { name := "instOrder", fn := fun _ => fun
  | [d1, d2, d3, d4, d5, d6, d7] => { results := [.lit (.bool false)], args := [d1, d2, d3, d4, d5, d6, d7] }
  | _ => none }
def InstOrderWrongFalsely : Prop := instOrderRow.holds Try.pinned (OpenSpec.ofChange instOrderWrong)

/-- 'concordlaw6.InstNext': WHATEVER THE INPUT: true; the input reads as it did. -/
def instNextSpec : ChangeSpec := { name := "instNext", fn := fun _ => fun
  | [d1, d2, d3, d4] => { results := [.lit (.bool true)], args := [d1, d2, d3, d4] }
  | _ => none }
def instNextRow : OpenClaim := { program := "ytncllenandjphaa", sum := "7450d6d5f62e6332d03ed7c2797a626124b946d4587605ea71b217d049621bd5", func := "concord/concordlaw6.InstNext", spec := "instNext", unfollowed := true, recurses := true, plainKeys := false, apart := false }
def InstNextSaid : Prop := instNextRow.holds Try.pinned (OpenSpec.ofChange instNextSpec)

/-- ITS FALSE NEIGHBOUR: 'it returns false'. Refute it at one input. -/
def instNextWrong : ChangeSpec := { name := "instNext", fn := fun _ => fun
  | [d1, d2, d3, d4] => { results := [.lit (.bool false)], args := [d1, d2, d3, d4] }
  | _ => none }
def InstNextWrongFalsely : Prop := instNextRow.holds Try.pinned (OpenSpec.ofChange instNextWrong)

/-- 'concordlaw6.InstTells': WHATEVER THE INPUT: true; the input reads as it did. -/
def instTellsSpec : ChangeSpec := { name := "instTells", fn := fun _ => fun
  | [d1, d2, d3, d4, d5] => { results := [.lit (.bool true)], args := [d1, d2, d3, d4, d5] }
  | _ => none }
def instTellsRow : OpenClaim := { program := "ytncllenandjphaa", sum := "7450d6d5f62e6332d03ed7c2797a626124b946d4587605ea71b217d049621bd5", func := "concord/concordlaw6.InstTells", spec := "instTells", unfollowed := true, recurses := true, plainKeys := false, apart := false }
def InstTellsSaid : Prop := instTellsRow.holds Try.pinned (OpenSpec.ofChange instTellsSpec)

/-- ITS FALSE NEIGHBOUR: 'it returns false'. Refute it at one input. -/
def instTellsWrong : ChangeSpec := { name := "instTells", fn := fun _ => fun
  | [d1, d2, d3, d4, d5] => { results := [.lit (.bool false)], args := [d1, d2, d3, d4, d5] }
  | _ => none }
def InstTellsWrongFalsely : Prop := instTellsRow.holds Try.pinned (OpenSpec.ofChange instTellsWrong)

/- THE SECOND FORM. 'bulk': how many values and letters a reading holds, each counted each time it is reached (what is shared counts as often as it is met; a slice's spare places count too). A statement '..UptoSaid' is the law's where the arguments, and the package variables that the reading takes, are together of bulk at most 1048576: NARROWER than '..Said'. Prove '..Said' where nothing that the law and all that it calls make is longer than what came in: it says more and counts as full. Else prove '..UptoSaid'. A law counts once. -/
mutual
def uptoBulk {H : Type} : DataW H → Nat
  | .lit (.string bytes) => bytes.length + 1
  | .lit _ => 1
  | .nil => 1
  | .ptr d => uptoBulk d + 1
  | .slice elems spare => uptoBulkAll elems + uptoBulkAll spare + 1
  | .agg parts => uptoBulkAll parts + 1
  | .iface _ d => uptoBulk d + 1
  | .map entries => uptoBulkEntries entries + 1
  | .held _ => 1
def uptoBulkAll {H : Type} : List (DataW H) → Nat
  | [] => 0
  | d :: r => uptoBulk d + uptoBulkAll r
def uptoBulkEntries {H : Type} : List (Lit × DataW H) → Nat
  | [] => 0
  | x :: r => uptoBulkEntry x + uptoBulkEntries r
def uptoBulkEntry {H : Type} : Lit × DataW H → Nat
  | (.string bytes, d) => bytes.length + uptoBulk d + 1
  | (_, d) => uptoBulk d + 1
 end
def uptoSmall : (H : Type) → List (DataW H) → Bool := fun _ ds => decide (uptoBulkAll ds ≤ 1048576)
def OpenSpec.upto (s : _root_.Go.ChangeSpec) : _root_.Go.OpenSpec := { _root_.Go.OpenSpec.ofChange s with cond := some uptoSmall }

/-- 'concordlaw6.InstRuns', WHERE WHAT IT READS IS OF BULK AT MOST 1048576: true; the input reads as it did. -/
def instRunsUptoRow : OpenClaim := { program := "ytncllenandjphaa", sum := "7450d6d5f62e6332d03ed7c2797a626124b946d4587605ea71b217d049621bd5", func := "concord/concordlaw6.InstRuns", spec := "instRuns", unfollowed := true, recurses := true, plainKeys := false, apart := false, narrowed := true }
def InstRunsUptoSaid : Prop := instRunsUptoRow.holds Try.pinned (OpenSpec.upto instRunsSpec)

/-- 'concordlaw6.InstPlays', WHERE WHAT IT READS IS OF BULK AT MOST 1048576: true; the input reads as it did. -/
def instPlaysUptoRow : OpenClaim := { program := "ytncllenandjphaa", sum := "7450d6d5f62e6332d03ed7c2797a626124b946d4587605ea71b217d049621bd5", func := "concord/concordlaw6.InstPlays", spec := "instPlays", unfollowed := true, recurses := true, plainKeys := false, apart := false, narrowed := true }
def InstPlaysUptoSaid : Prop := instPlaysUptoRow.holds Try.pinned (OpenSpec.upto instPlaysSpec)

/-- 'concordlaw6.InstOrder', WHERE WHAT IT READS IS OF BULK AT MOST 1048576: true; the input reads as it did. -/
def instOrderUptoRow : OpenClaim := { program := "ytncllenandjphaa", sum := "7450d6d5f62e6332d03ed7c2797a626124b946d4587605ea71b217d049621bd5", func := "concord/concordlaw6.InstOrder", spec := "instOrder", unfollowed := true, recurses := true, plainKeys := false, apart := false, narrowed := true }
def InstOrderUptoSaid : Prop := instOrderUptoRow.holds Try.pinned (OpenSpec.upto instOrderSpec)

/-- 'concordlaw6.InstNext', WHERE WHAT IT READS IS OF BULK AT MOST 1048576: true; the input reads as it did. -/
def instNextUptoRow : OpenClaim := { program := "ytncllenandjphaa", sum := "7450d6d5f62e6332d03ed7c2797a626124b946d4587605ea71b217d049621bd5", func := "concord/concordlaw6.InstNext", spec := "instNext", unfollowed := true, recurses := true, plainKeys := false, apart := false, narrowed := true }
def InstNextUptoSaid : Prop := instNextUptoRow.holds Try.pinned (OpenSpec.upto instNextSpec)

/-- 'concordlaw6.InstTells', WHERE WHAT IT READS IS OF BULK AT MOST 1048576: true; the input reads as it did. -/
def instTellsUptoRow : OpenClaim := { program := "ytncllenandjphaa", sum := "7450d6d5f62e6332d03ed7c2797a626124b946d4587605ea71b217d049621bd5", func := "concord/concordlaw6.InstTells", spec := "instTells", unfollowed := true, recurses := true, plainKeys := false, apart := false, narrowed := true }
def InstTellsUptoSaid : Prop := instTellsUptoRow.holds Try.pinned (OpenSpec.upto instTellsSpec)

end Rows
end Go.Proofs.Ytncllenandjphaa
