import Derived.Test.YtkdlojagpocnoaaGreatDoorProg
import Derived.Test.YtkdlojagpocnoaaGreatDoorFxA
namespace Go.Fw
open Go.Proofs
/-! concord/concordlaw28.AuditSums -/
abbrev asums_r0 : NC := .reg
    (.x 0 (.box 80) [(.slot 0)] none []
    (.out [(1, (.res 0))]))
    [0]
abbrev asums_r1 : NC := .reg
    (.q 0 (.lda 5) [(.slot 1)] none
    (.q 2 (.fld 2) [(.slot 1)] none
    (.q 3 .ld [(.res 2)] none
    (.q 4 (.icm .eql) [(.res 3), (.const (.int .i64 0))] none
    (.x 1 (.call 26) [(.res 0)] none [(3, .ld, [(.res 2)], none)]
    (.q 6 (.fld 3) [(.slot 1)] (some ((.res 4), true))
    (.q 7 .ld [(.res 6)] (some ((.res 4), true))
    (.q 8 (.icm .eql) [(.res 7), (.const (.int .i64 0))] (some ((.res 4), true))
    (.q 9 .pick [(.res 4), (.res 8), (.const (.bool false))] none
    (.q 11 (.fld 4) [(.slot 1)] (some ((.res 9), true))
    (.q 12 .ld [(.res 11)] (some ((.res 9), true))
    (.q 13 (.icm .eql) [(.res 12), (.const (.int .i64 0))] (some ((.res 9), true))
    (.q 14 .pick [(.res 9), (.res 13), (.const (.bool false))] none
    (.q 15 (.beq false) [(.res 1), (.res 14)] none
    (.x 17 (.call 6) [] (some ((.res 15), true)) []
    (.q 18 .pick [(.res 15), (.res 17), (.const (.bool false))] none
    (.out [(2, (.res 18))])))))))))))))))))
    [1]
abbrev asums_c : NC :=
  (.seq asums_r0
  (.seq asums_r1
  .ret))
abbrev asums_F : FN := ⟨asums_c, [.slot 2]⟩
theorem asums_ok : compF Tryz.prog Tryz.f7 = some asums_F := by kernel_rfl
/-! concord/audit.Fine -/
abbrev fine_r0 : NC := .reg
    (.x 0 (.box 80) [(.slot 0)] none []
    (.out [(1, (.res 0))]))
    [0]
abbrev fine_r1 : NC := .reg
    (.q 0 (.fld 2) [(.slot 1)] none
    (.q 1 .ld [(.res 0)] none
    (.q 2 (.icm .eql) [(.res 1), (.const (.int .i64 0))] none
    (.q 4 (.fld 3) [(.slot 1)] (some ((.res 2), true))
    (.q 5 .ld [(.res 4)] (some ((.res 2), true))
    (.q 6 (.icm .eql) [(.res 5), (.const (.int .i64 0))] (some ((.res 2), true))
    (.q 7 .pick [(.res 2), (.res 6), (.const (.bool false))] none
    (.q 9 (.fld 4) [(.slot 1)] (some ((.res 7), true))
    (.q 10 .ld [(.res 9)] (some ((.res 7), true))
    (.q 11 (.icm .eql) [(.res 10), (.const (.int .i64 0))] (some ((.res 7), true))
    (.q 12 .pick [(.res 7), (.res 11), (.const (.bool false))] none
    (.out [(2, (.res 12))]))))))))))))
    [1]
abbrev fine_c : NC :=
  (.seq fine_r0
  (.seq fine_r1
  .ret))
abbrev fine_F : FN := ⟨fine_c, [.slot 2]⟩
theorem fine_ok : compF Tryz.prog Tryz.f26 = some fine_F := by kernel_rfl
end Go.Fw
