import Derived.Test.YtfihhmbjpmnopaaGreatDoorycS
set_option linter.unusedVariables false
set_option linter.unusedSimpArgs false
set_option maxRecDepth 100000
namespace Go.Ev
open Go.Fw Go.Proofs
theorem ycq2 : okI yccf 10000 (bodyOf ycl1) (ksOf ycl1) 2 ycs3 0 ycs4 = true := by kernel_rfl
end Go.Ev
