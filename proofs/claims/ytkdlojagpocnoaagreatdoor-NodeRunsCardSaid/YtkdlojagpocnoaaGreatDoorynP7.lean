import Derived.Test.YtkdlojagpocnoaaGreatDoorynS
set_option linter.unusedVariables false
set_option maxRecDepth 100000
namespace Go.Ev
open Go.Fw Go.Proofs
theorem ynq7 : okC yncf 10000 (nest ynl5) yns8 .r yns9 = true := by kernel_rfl
end Go.Ev
