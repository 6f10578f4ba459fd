import Derived.Test.YtfihhmbjpmnopaaGreatDooryn5P0
import Derived.Test.YtfihhmbjpmnopaaGreatDooryn5P1
import Derived.Test.YtfihhmbjpmnopaaGreatDooryn5P2
import Derived.Test.YtfihhmbjpmnopaaGreatDooryn5P3
import Derived.Test.YtfihhmbjpmnopaaGreatDoorFxA
set_option linter.unusedVariables false
set_option linter.unusedSimpArgs false
/-! yn5: a call, piece by piece. -/
set_option maxRecDepth 100000
namespace Go.Ev
open Go.Fw Go.Proofs
theorem yn5_pc : Pc Tryz.prog e4.code yn5s0 .r yn5s5 := by
  have hcf : CfOk Tryz.prog yn5cf := evF_ok (tab_ok rows_ok) mixed 10000 40
  generalize hP : Tryz.prog = P at hcf ⊢
  exact Pc.flat (PcL.take 3 (Pc.of hcf yn5q0) (show PcL P yn5l1 yn5s1 .r yn5s5 from (PcL.loop (x0 := (.e 0)) hcf (show yn5l1 = .block (idOf yn5l1) (.loop (ksOf yn5l1) (bodyOf yn5l1)) :: yn5l2 by kernel_rfl) (show okT yn5s1 (ksOf yn5l1) yn5s2 = true by kernel_rfl) (PL.more 3 yn5q1 (PL.last 3 yn5q2)) rfl (PcL.all (Pc.of hcf yn5q3)))))
theorem yn5_ctr : Ctr Tryz.prog 4 [.int .i64 5] .lf 0 (.tup [.ptr 0 0, .int .i64 0]) yn5s5.cm 2148 := Ctr.of (tab_ok rows_ok) mixed (show tab rows 4 = some e4 by kernel_rfl) (by kernel_rfl) yn5_pc (by kernel_rfl)
end Go.Ev
