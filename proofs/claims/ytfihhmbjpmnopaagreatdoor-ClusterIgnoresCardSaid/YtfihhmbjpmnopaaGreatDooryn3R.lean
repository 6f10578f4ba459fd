import Derived.Test.YtfihhmbjpmnopaaGreatDooryn3P0
import Derived.Test.YtfihhmbjpmnopaaGreatDoorFxA
set_option linter.unusedVariables false
set_option linter.unusedSimpArgs false
/-! yn3: a call, piece by piece. -/
set_option maxRecDepth 100000
namespace Go.Ev
open Go.Fw Go.Proofs
theorem yn3_pc : Pc Tryz.prog e4.code yn3s0 .r yn3s1 := by
  have hcf : CfOk Tryz.prog yn3cf := evF_ok (tab_ok rows_ok) mixed 10000 40
  generalize hP : Tryz.prog = P at hcf ⊢
  exact Pc.flat (PcL.all (Pc.of hcf yn3q0))
theorem yn3_ctr : Ctr Tryz.prog 4 [.int .i64 3] .lf 0 (.tup [.ptr 0 0, .int .i64 0]) yn3s1.cm 1264 := Ctr.of (tab_ok rows_ok) mixed (show tab rows 4 = some e4 by kernel_rfl) (by kernel_rfl) yn3_pc (by kernel_rfl)
end Go.Ev
