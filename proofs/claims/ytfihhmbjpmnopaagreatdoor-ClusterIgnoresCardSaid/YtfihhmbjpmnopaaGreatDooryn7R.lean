import Derived.Test.YtfihhmbjpmnopaaGreatDooryn7P0
import Derived.Test.YtfihhmbjpmnopaaGreatDooryn7P1
import Derived.Test.YtfihhmbjpmnopaaGreatDooryn7P2
import Derived.Test.YtfihhmbjpmnopaaGreatDooryn7P3
import Derived.Test.YtfihhmbjpmnopaaGreatDooryn7P4
import Derived.Test.YtfihhmbjpmnopaaGreatDoorFxA
set_option linter.unusedVariables false
set_option linter.unusedSimpArgs false
/-! yn7: a call, piece by piece. -/
set_option maxRecDepth 100000
namespace Go.Ev
open Go.Fw Go.Proofs
theorem yn7_pc : Pc Tryz.prog e4.code yn7s0 .r yn7s6 := by
  have hcf : CfOk Tryz.prog yn7cf := evF_ok (tab_ok rows_ok) mixed 10000 40
  generalize hP : Tryz.prog = P at hcf ⊢
  exact Pc.flat (PcL.take 3 (Pc.of hcf yn7q0) (show PcL P yn7l1 yn7s1 .r yn7s6 from (PcL.loop (x0 := (.e 0)) hcf (show yn7l1 = .block (idOf yn7l1) (.loop (ksOf yn7l1) (bodyOf yn7l1)) :: yn7l2 by kernel_rfl) (show okT yn7s1 (ksOf yn7l1) yn7s2 = true by kernel_rfl) (PL.more 3 yn7q1 (PL.more 3 yn7q2 (PL.last 2 yn7q3))) rfl (PcL.all (Pc.of hcf yn7q4)))))
theorem yn7_ctr : Ctr Tryz.prog 4 [.int .i64 7] .lf 0 (.tup [.ptr 0 0, .int .i64 0]) yn7s6.cm 3088 := Ctr.of (tab_ok rows_ok) mixed (show tab rows 4 = some e4 by kernel_rfl) (by kernel_rfl) yn7_pc (by kernel_rfl)
end Go.Ev
