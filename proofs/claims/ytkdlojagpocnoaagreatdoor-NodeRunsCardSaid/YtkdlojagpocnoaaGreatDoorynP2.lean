import Derived.Test.YtkdlojagpocnoaaGreatDoorynS
set_option linter.unusedVariables false
set_option maxRecDepth 100000
namespace Go.Ev
open Go.Fw Go.Proofs
theorem ynq2 : okI yncf 10000 (bodyOf ynl2) (ksOf ynl2) 1 yns3 0 yns4 = true := by kernel_rfl
end Go.Ev
