import Derived.Test.YtfihhmbjpmnopaaGreatDooryn5S
set_option linter.unusedVariables false
set_option linter.unusedSimpArgs false
set_option maxRecDepth 100000
namespace Go.Ev
open Go.Fw Go.Proofs
theorem yn5q1 : okI yn5cf 10000 (bodyOf yn5l1) (ksOf yn5l1) 3 yn5s2 0 yn5s3 = true := by kernel_rfl
end Go.Ev
