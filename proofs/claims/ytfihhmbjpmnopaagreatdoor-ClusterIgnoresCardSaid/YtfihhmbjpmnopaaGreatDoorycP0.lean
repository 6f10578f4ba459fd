import Derived.Test.YtfihhmbjpmnopaaGreatDoorycS
set_option linter.unusedVariables false
set_option linter.unusedSimpArgs false
set_option maxRecDepth 100000
namespace Go.Ev
open Go.Fw Go.Proofs
theorem ycq0 : okC yccf 10000 (nest (ycl0.take 7)) ycs0 .n ycs1 = true := by kernel_rfl
end Go.Ev
