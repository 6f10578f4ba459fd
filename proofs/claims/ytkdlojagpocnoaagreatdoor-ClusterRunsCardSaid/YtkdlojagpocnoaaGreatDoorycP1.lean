import Derived.Test.YtkdlojagpocnoaaGreatDoorycS
set_option linter.unusedVariables false
set_option maxRecDepth 100000
namespace Go.Ev
open Go.Fw Go.Proofs
theorem ycq1 : okC yccf 10000 (nest (ycl1.take 2)) ycs1 .n ycs2 = true := by kernel_rfl
end Go.Ev
