import Derived.Test.YtkdlojagpocnoaaGreatDoorynS
set_option linter.unusedVariables false
set_option maxRecDepth 100000
namespace Go.Ev
open Go.Fw Go.Proofs
theorem ynq1 : okC yncf 10000 (nest (ynl1.take 4)) yns1 .n yns2 = true := by kernel_rfl
end Go.Ev
