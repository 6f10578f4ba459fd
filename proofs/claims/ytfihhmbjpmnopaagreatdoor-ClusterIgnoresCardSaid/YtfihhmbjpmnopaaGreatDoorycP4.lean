import Derived.Test.YtfihhmbjpmnopaaGreatDoorycS
set_option linter.unusedVariables false
set_option linter.unusedSimpArgs false
set_option maxRecDepth 100000
namespace Go.Ev
open Go.Fw Go.Proofs
theorem ycq4 : okC yccf 10000 (nest ycl2) ycs5 .r ycs6 = true := by kernel_rfl
end Go.Ev
