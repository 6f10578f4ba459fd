import Derived.Test.YtkdlojagpocnoaaGreatDoorycS
set_option linter.unusedVariables false
set_option maxRecDepth 100000
namespace Go.Ev
open Go.Fw Go.Proofs
theorem ycq0 : okC yccf 10000 (nest (ycl0.take 5)) ycs0 .n ycs1 = true := by kernel_rfl
end Go.Ev
