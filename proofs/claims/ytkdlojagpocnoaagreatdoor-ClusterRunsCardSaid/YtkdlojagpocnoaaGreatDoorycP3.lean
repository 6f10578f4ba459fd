import Derived.Test.YtkdlojagpocnoaaGreatDoorycS
set_option linter.unusedVariables false
set_option maxRecDepth 100000
namespace Go.Ev
open Go.Fw Go.Proofs
theorem ycq3 : okI yccf 10000 (bodyOf ycl2) (ksOf ycl2) 2 ycs4 0 ycs5 = true := by kernel_rfl
end Go.Ev
