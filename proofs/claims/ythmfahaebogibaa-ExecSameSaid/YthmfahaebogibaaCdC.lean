import Derived.Test.YthmfahaebogibaaCd
set_option linter.unusedVariables false
set_option linter.unusedSimpArgs false
namespace Go.Fw
open Go.Proofs
/-! concord/concordref1.Less -/
abbrev ref1_Less_r0 : NC := .reg
    (.x 0 (.box 23) [(.slot 0)] none []
    (.x 1 (.box 23) [(.slot 1)] none []
    (.out [(2, (.res 0)), (3, (.res 1))])))
    [0, 1]
abbrev ref1_Less_r1 : NC := .reg
    (.q 0 (.fld 0) [(.slot 2)] none
    (.q 1 .ld [(.res 0)] none
    (.q 2 (.fld 0) [(.slot 3)] none
    (.q 3 .ld [(.res 2)] none
    (.q 4 (.icm .lss) [(.res 1), (.res 3)] none
    (.q 6 (.fld 0) [(.slot 2)] (some ((.res 4), false))
    (.q 7 .ld [(.res 6)] (some ((.res 4), false))
    (.q 8 (.fld 0) [(.slot 3)] (some ((.res 4), false))
    (.q 9 .ld [(.res 8)] (some ((.res 4), false))
    (.q 10 (.icm .eql) [(.res 7), (.res 9)] (some ((.res 4), false))
    (.q 11 .mv [(.res 10)] (some ((.res 4), false))
    (.q 12 (.fld 1) [(.slot 2)] (some ((.res 11), true))
    (.q 13 .ld [(.res 12)] (some ((.res 11), true))
    (.q 14 (.fld 1) [(.slot 3)] (some ((.res 11), true))
    (.q 15 .ld [(.res 14)] (some ((.res 11), true))
    (.q 16 (.icm .lss) [(.res 13), (.res 15)] (some ((.res 11), true))
    (.q 17 .pick [(.res 11), (.res 16), (.const (.bool false))] (some ((.res 4), false))
    (.q 18 .pick [(.res 4), (.const (.bool true)), (.res 17)] none
    (.out [(4, (.res 18))])))))))))))))))))))
    [2, 3]
abbrev ref1_Less_c : NC :=
  (.seq ref1_Less_r0
  (.seq ref1_Less_r1
  .ret))
abbrev ref1_Less_F : FN := ⟨ref1_Less_c, [.slot 4]⟩
theorem ref1_Less_ok : compF Try.prog Try.f40 = some ref1_Less_F := by kernel_rfl
theorem ref1_Less_go {args : List Value} {m : Mem} {R : Value → Mem → Prop} (hn : args.length ≤ Try.f40.ntmps) (h : wpN Try.prog ref1_Less_c (retP ref1_Less_F.rvs R) (zipP 0 args) m) : MC Try.prog 40 args m R := MC_start Try.func40 ref1_Less_ok mixed_ok hn h
end Go.Fw
