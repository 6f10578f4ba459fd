/-
  No cell of these rows narrows 'for every input' (looked for: loops, veiled, ifaces, maps, wideKeys, modest, calm, conditions, laid).
  DERIVED. THE GIVEN ROWS OF THIS SEAT. 6 by the template 'for every input the law returns true; each argument reads behind the call as it read before'; 0 by the template 'total and deterministic' (their statements: YtimedjfpihdffaaGreatTotals.lean).
  GIVEN WITH THE SEED: the statements are not yours to turn. If you find one false, say at which input.
  Laid BY PROGRAM, IN A SANDBOX (cutbox-rows.mjs): the forced cells as the released guide's own fill.sh prints them over the translation 3e446804dc08badd… (all of the seat's roots in one cut). By AI agents, Wed Nov 11 2026. No macro, syntax, notation, axiom, sorry.
-/
import Derived.Test.YtimedjfpihdffaaGreatChecked
import GoSem.Claim
import GoSem.ClaimJoined
import GoSem.ClaimMapViews
import Derived.JoinedTies
import Derived.KernelRfl
namespace Go.Proofs.YtimedjfpihdffaaGreat
/- THE CELL 'sum', in the pinned program and in every row, IS THE sha256 OF THE DUMP (.gsa) THAT YtimedjfpihdffaaGreatProg.lean LOADS. Nothing in Lean hashes anything: it is a label: what it is worth is what the hold of that sum in a sandbox is worth. -/
noncomputable def Tryz.pinned : Pinned := { name := "ytimedjfpihdffaagreat", sum := "3e446804dc08badd6c2497b4d5c709918fd5f9179f2d65a498d69d8dd497b475", checked := Tryz.checked }
namespace Rows
def none {H : Type} : Left H := { results := [], args := [] }

/-- 'concordlaw18.CoreRuns': WHATEVER THE INPUT: true; the input reads as it did. -/
def coreRunsSpec : ChangeSpec := { name := "coreRuns", fn := fun _ => fun
  | [] => { results := [.lit (.bool true)], args := [] }
  | _ => none }
def coreRunsRow : OpenClaim := { program := "ytimedjfpihdffaagreat", sum := "3e446804dc08badd6c2497b4d5c709918fd5f9179f2d65a498d69d8dd497b475", func := "concord/concordlaw18.CoreRuns", spec := "coreRuns", inPlace := ["slices.overlaps[*concord/core.lead]", "slices.overlaps[*concord/core.wish]"], unfollowed := true, recurses := true, plainKeys := false, apart := false }
def CoreRunsSaid : Prop := coreRunsRow.holds Tryz.pinned (OpenSpec.ofChange coreRunsSpec)

/-- ITS FALSE NEIGHBOUR: 'it returns false'. Refute it at one input. -/
def coreRunsWrong : ChangeSpec := { name := "coreRuns", fn := fun _ => fun
  | [] => { results := [.lit (.bool false)], args := [] }
  | _ => none }
def CoreRunsWrongFalsely : Prop := coreRunsRow.holds Tryz.pinned (OpenSpec.ofChange coreRunsWrong)

/-- 'concordlaw18.CoreFast': WHATEVER THE INPUT: true; the input reads as it did. -/
def coreFastSpec : ChangeSpec := { name := "coreFast", fn := fun _ => fun
  | [d1, d2, d3] => { results := [.lit (.bool true)], args := [d1, d2, d3] }
  | _ => none }
def coreFastRow : OpenClaim := { program := "ytimedjfpihdffaagreat", sum := "3e446804dc08badd6c2497b4d5c709918fd5f9179f2d65a498d69d8dd497b475", func := "concord/concordlaw18.CoreFast", spec := "coreFast", inPlace := ["slices.overlaps[*concord/core.lead]", "slices.overlaps[*concord/core.wish]"], unfollowed := true, recurses := true, plainKeys := false, apart := false }
def CoreFastSaid : Prop := coreFastRow.holds Tryz.pinned (OpenSpec.ofChange coreFastSpec)

/-- ITS FALSE NEIGHBOUR: 'it returns false'. Refute it at one input. -/
def coreFastWrong : ChangeSpec := { name := "coreFast", fn := fun _ => fun
  | [d1, d2, d3] => { results := [.lit (.bool false)], args := [d1, d2, d3] }
  | _ => none }
def CoreFastWrongFalsely : Prop := coreFastRow.holds Tryz.pinned (OpenSpec.ofChange coreFastWrong)

/-- 'concordlaw18.CoreAgrees': WHATEVER THE INPUT: true; the input reads as it did. -/
def coreAgreesSpec : ChangeSpec := { name := "coreAgrees", fn := fun _ => fun
  | [d1, d2] => { results := [.lit (.bool true)], args := [d1, d2] }
  | _ => none }
def coreAgreesRow : OpenClaim := { program := "ytimedjfpihdffaagreat", sum := "3e446804dc08badd6c2497b4d5c709918fd5f9179f2d65a498d69d8dd497b475", func := "concord/concordlaw18.CoreAgrees", spec := "coreAgrees", inPlace := ["slices.overlaps[*concord/core.lead]", "slices.overlaps[*concord/core.wish]"], unfollowed := true, recurses := true, plainKeys := false, apart := false }
def CoreAgreesSaid : Prop := coreAgreesRow.holds Tryz.pinned (OpenSpec.ofChange coreAgreesSpec)

/-- ITS FALSE NEIGHBOUR: 'it returns false'. Refute it at one input. -/
def coreAgreesWrong : ChangeSpec := { name := "coreAgrees", fn := fun _ => fun
  | [d1, d2] => { results := [.lit (.bool false)], args := [d1, d2] }
  | _ => none }
def CoreAgreesWrongFalsely : Prop := coreAgreesRow.holds Tryz.pinned (OpenSpec.ofChange coreAgreesWrong)

/-- 'concordlaw18.CoreKept': WHATEVER THE INPUT: true; the input reads as it did. -/
def coreKeptSpec : ChangeSpec := { name := "coreKept", fn := fun _ => fun
  | [d1, d2, d3] => { results := [.lit (.bool true)], args := [d1, d2, d3] }
  | _ => none }
def coreKeptRow : OpenClaim := { program := "ytimedjfpihdffaagreat", sum := "3e446804dc08badd6c2497b4d5c709918fd5f9179f2d65a498d69d8dd497b475", func := "concord/concordlaw18.CoreKept", spec := "coreKept", inPlace := ["slices.overlaps[*concord/core.lead]", "slices.overlaps[*concord/core.wish]"], unfollowed := true, recurses := true, plainKeys := false, apart := false }
def CoreKeptSaid : Prop := coreKeptRow.holds Tryz.pinned (OpenSpec.ofChange coreKeptSpec)

/-- ITS FALSE NEIGHBOUR: 'it returns false'. Refute it at one input. -/
def coreKeptWrong : ChangeSpec := { name := "coreKept", fn := fun _ => fun
  | [d1, d2, d3] => { results := [.lit (.bool false)], args := [d1, d2, d3] }
  | _ => none }
def CoreKeptWrongFalsely : Prop := coreKeptRow.holds Tryz.pinned (OpenSpec.ofChange coreKeptWrong)

/-- 'concordlaw18.CoreTwo': WHATEVER THE INPUT: true; the input reads as it did. -/
def coreTwoSpec : ChangeSpec := { name := "coreTwo", fn := fun _ => fun
  | [d1, d2, d3] => { results := [.lit (.bool true)], args := [d1, d2, d3] }
  | _ => none }
def coreTwoRow : OpenClaim := { program := "ytimedjfpihdffaagreat", sum := "3e446804dc08badd6c2497b4d5c709918fd5f9179f2d65a498d69d8dd497b475", func := "concord/concordlaw18.CoreTwo", spec := "coreTwo", inPlace := ["slices.overlaps[*concord/core.lead]", "slices.overlaps[*concord/core.wish]"], unfollowed := true, recurses := true, plainKeys := false, apart := false }
def CoreTwoSaid : Prop := coreTwoRow.holds Tryz.pinned (OpenSpec.ofChange coreTwoSpec)

/-- ITS FALSE NEIGHBOUR: 'it returns false'. Refute it at one input. -/
def coreTwoWrong : ChangeSpec := { name := "coreTwo", fn := fun _ => fun
  | [d1, d2, d3] => { results := [.lit (.bool false)], args := [d1, d2, d3] }
  | _ => none }
def CoreTwoWrongFalsely : Prop := coreTwoRow.holds Tryz.pinned (OpenSpec.ofChange coreTwoWrong)

/-- 'concordlaw18.CoreCalm': WHATEVER THE INPUT: true; the input reads as it did. -/
def coreCalmSpec : ChangeSpec := { name := "coreCalm", fn := fun _ => fun
  | [d1, d2, d3] => { results := [.lit (.bool true)], args := [d1, d2, d3] }
  | _ => none }
def coreCalmRow : OpenClaim := { program := "ytimedjfpihdffaagreat", sum := "3e446804dc08badd6c2497b4d5c709918fd5f9179f2d65a498d69d8dd497b475", func := "concord/concordlaw18.CoreCalm", spec := "coreCalm", inPlace := ["slices.overlaps[*concord/core.lead]", "slices.overlaps[*concord/core.wish]"], unfollowed := true, recurses := true, plainKeys := false, apart := false }
def CoreCalmSaid : Prop := coreCalmRow.holds Tryz.pinned (OpenSpec.ofChange coreCalmSpec)

/-- ITS FALSE NEIGHBOUR: 'it returns false'. Refute it at one input. -/
def coreCalmWrong : ChangeSpec := { name := "coreCalm", fn := fun _ => fun
  | [d1, d2, d3] => { results := [.lit (.bool false)], args := [d1, d2, d3] }
  | _ => none }
def CoreCalmWrongFalsely : Prop := coreCalmRow.holds Tryz.pinned (OpenSpec.ofChange coreCalmWrong)

/- THE SECOND FORM. 'bulk': how many values and letters a reading holds, each counted each time it is reached (what is shared counts as often as it is met; a slice's spare places count too). A statement '..UptoSaid' is the law's where the arguments, and the package variables that the reading takes, are together of bulk at most 1048576: NARROWER than '..Said'. Prove '..Said' where nothing that the law and all that it calls make is longer than what came in: it says more and counts as full. Else prove '..UptoSaid'. A law counts once. -/
mutual
def uptoBulk {H : Type} : DataW H → Nat
  | .lit (.string bytes) => bytes.length + 1
  | .lit _ => 1
  | .nil => 1
  | .ptr d => uptoBulk d + 1
  | .slice elems spare => uptoBulkAll elems + uptoBulkAll spare + 1
  | .agg parts => uptoBulkAll parts + 1
  | .iface _ d => uptoBulk d + 1
  | .map entries => uptoBulkEntries entries + 1
  | .held _ => 1
def uptoBulkAll {H : Type} : List (DataW H) → Nat
  | [] => 0
  | d :: r => uptoBulk d + uptoBulkAll r
def uptoBulkEntries {H : Type} : List (Lit × DataW H) → Nat
  | [] => 0
  | x :: r => uptoBulkEntry x + uptoBulkEntries r
def uptoBulkEntry {H : Type} : Lit × DataW H → Nat
  | (.string bytes, d) => bytes.length + uptoBulk d + 1
  | (_, d) => uptoBulk d + 1
 end
def uptoSmall : (H : Type) → List (DataW H) → Bool := fun _ ds => decide (uptoBulkAll ds ≤ 1048576)
def OpenSpec.upto (s : _root_.Go.ChangeSpec) : _root_.Go.OpenSpec := { _root_.Go.OpenSpec.ofChange s with cond := some uptoSmall }

/-- 'concordlaw18.CoreRuns', WHERE WHAT IT READS IS OF BULK AT MOST 1048576: true; the input reads as it did. -/
def coreRunsUptoRow : OpenClaim := { program := "ytimedjfpihdffaagreat", sum := "3e446804dc08badd6c2497b4d5c709918fd5f9179f2d65a498d69d8dd497b475", func := "concord/concordlaw18.CoreRuns", spec := "coreRuns", inPlace := ["slices.overlaps[*concord/core.lead]", "slices.overlaps[*concord/core.wish]"], unfollowed := true, recurses := true, plainKeys := false, apart := false, narrowed := true }
def CoreRunsUptoSaid : Prop := coreRunsUptoRow.holds Tryz.pinned (OpenSpec.upto coreRunsSpec)

/-- 'concordlaw18.CoreFast', WHERE WHAT IT READS IS OF BULK AT MOST 1048576: true; the input reads as it did. -/
def coreFastUptoRow : OpenClaim := { program := "ytimedjfpihdffaagreat", sum := "3e446804dc08badd6c2497b4d5c709918fd5f9179f2d65a498d69d8dd497b475", func := "concord/concordlaw18.CoreFast", spec := "coreFast", inPlace := ["slices.overlaps[*concord/core.lead]", "slices.overlaps[*concord/core.wish]"], unfollowed := true, recurses := true, plainKeys := false, apart := false, narrowed := true }
def CoreFastUptoSaid : Prop := coreFastUptoRow.holds Tryz.pinned (OpenSpec.upto coreFastSpec)

/-- 'concordlaw18.CoreAgrees', WHERE WHAT IT READS IS OF BULK AT MOST 1048576: true; the input reads as it did. -/
def coreAgreesUptoRow : OpenClaim := { program := "ytimedjfpihdffaagreat", sum := "3e446804dc08badd6c2497b4d5c709918fd5f9179f2d65a498d69d8dd497b475", func := "concord/concordlaw18.CoreAgrees", spec := "coreAgrees", inPlace := ["slices.overlaps[*concord/core.lead]", "slices.overlaps[*concord/core.wish]"], unfollowed := true, recurses := true, plainKeys := false, apart := false, narrowed := true }
def CoreAgreesUptoSaid : Prop := coreAgreesUptoRow.holds Tryz.pinned (OpenSpec.upto coreAgreesSpec)

/-- 'concordlaw18.CoreKept', WHERE WHAT IT READS IS OF BULK AT MOST 1048576: true; the input reads as it did. -/
def coreKeptUptoRow : OpenClaim := { program := "ytimedjfpihdffaagreat", sum := "3e446804dc08badd6c2497b4d5c709918fd5f9179f2d65a498d69d8dd497b475", func := "concord/concordlaw18.CoreKept", spec := "coreKept", inPlace := ["slices.overlaps[*concord/core.lead]", "slices.overlaps[*concord/core.wish]"], unfollowed := true, recurses := true, plainKeys := false, apart := false, narrowed := true }
def CoreKeptUptoSaid : Prop := coreKeptUptoRow.holds Tryz.pinned (OpenSpec.upto coreKeptSpec)

/-- 'concordlaw18.CoreTwo', WHERE WHAT IT READS IS OF BULK AT MOST 1048576: true; the input reads as it did. -/
def coreTwoUptoRow : OpenClaim := { program := "ytimedjfpihdffaagreat", sum := "3e446804dc08badd6c2497b4d5c709918fd5f9179f2d65a498d69d8dd497b475", func := "concord/concordlaw18.CoreTwo", spec := "coreTwo", inPlace := ["slices.overlaps[*concord/core.lead]", "slices.overlaps[*concord/core.wish]"], unfollowed := true, recurses := true, plainKeys := false, apart := false, narrowed := true }
def CoreTwoUptoSaid : Prop := coreTwoUptoRow.holds Tryz.pinned (OpenSpec.upto coreTwoSpec)

/-- 'concordlaw18.CoreCalm', WHERE WHAT IT READS IS OF BULK AT MOST 1048576: true; the input reads as it did. -/
def coreCalmUptoRow : OpenClaim := { program := "ytimedjfpihdffaagreat", sum := "3e446804dc08badd6c2497b4d5c709918fd5f9179f2d65a498d69d8dd497b475", func := "concord/concordlaw18.CoreCalm", spec := "coreCalm", inPlace := ["slices.overlaps[*concord/core.lead]", "slices.overlaps[*concord/core.wish]"], unfollowed := true, recurses := true, plainKeys := false, apart := false, narrowed := true }
def CoreCalmUptoSaid : Prop := coreCalmUptoRow.holds Tryz.pinned (OpenSpec.upto coreCalmSpec)

end Rows
end Go.Proofs.YtimedjfpihdffaaGreat
