import Derived.Test.YtfihhmbjpmnopaaGreatDooryn7S
set_option linter.unusedVariables false
set_option linter.unusedSimpArgs false
set_option maxRecDepth 100000
namespace Go.Ev
open Go.Fw Go.Proofs
theorem yn7q1 : okI yn7cf 10000 (bodyOf yn7l1) (ksOf yn7l1) 3 yn7s2 0 yn7s3 = true := by kernel_rfl
end Go.Ev
