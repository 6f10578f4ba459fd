import Derived.Test.YtfihhmbjpmnopaaGreatDooryn5S
set_option linter.unusedVariables false
set_option linter.unusedSimpArgs false
set_option maxRecDepth 100000
namespace Go.Ev
open Go.Fw Go.Proofs
theorem yn5q3 : okC yn5cf 10000 (nest yn5l2) yn5s4 .r yn5s5 = true := by kernel_rfl
end Go.Ev
