import Derived.Test.YtkdlojagpocnoaaGreatDoorycS
set_option linter.unusedVariables false
set_option maxRecDepth 100000
namespace Go.Ev
open Go.Fw Go.Proofs
theorem ycq6 : okC yccf 10000 (nest ycl3) ycs7 .r ycs8 = true := by kernel_rfl
end Go.Ev
