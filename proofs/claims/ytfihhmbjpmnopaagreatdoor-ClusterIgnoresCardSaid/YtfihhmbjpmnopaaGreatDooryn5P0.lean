import Derived.Test.YtfihhmbjpmnopaaGreatDooryn5S
set_option linter.unusedVariables false
set_option linter.unusedSimpArgs false
set_option maxRecDepth 100000
namespace Go.Ev
open Go.Fw Go.Proofs
theorem yn5q0 : okC yn5cf 10000 (nest (yn5l0.take 3)) yn5s0 .n yn5s1 = true := by kernel_rfl
end Go.Ev
