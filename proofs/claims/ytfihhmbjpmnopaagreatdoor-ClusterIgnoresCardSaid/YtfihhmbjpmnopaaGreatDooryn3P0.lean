import Derived.Test.YtfihhmbjpmnopaaGreatDooryn3S
set_option linter.unusedVariables false
set_option linter.unusedSimpArgs false
set_option maxRecDepth 100000
namespace Go.Ev
open Go.Fw Go.Proofs
theorem yn3q0 : okC yn3cf 10000 (nest yn3l0) yn3s0 .r yn3s1 = true := by kernel_rfl
end Go.Ev
