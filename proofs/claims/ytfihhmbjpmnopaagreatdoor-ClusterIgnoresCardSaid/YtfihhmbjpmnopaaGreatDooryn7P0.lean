import Derived.Test.YtfihhmbjpmnopaaGreatDooryn7S
set_option linter.unusedVariables false
set_option linter.unusedSimpArgs false
set_option maxRecDepth 100000
namespace Go.Ev
open Go.Fw Go.Proofs
theorem yn7q0 : okC yn7cf 10000 (nest (yn7l0.take 3)) yn7s0 .n yn7s1 = true := by kernel_rfl
end Go.Ev
