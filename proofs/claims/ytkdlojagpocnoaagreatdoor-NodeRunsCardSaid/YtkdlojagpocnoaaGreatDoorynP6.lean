import Derived.Test.YtkdlojagpocnoaaGreatDoorynS
set_option linter.unusedVariables false
set_option maxRecDepth 100000
namespace Go.Ev
open Go.Fw Go.Proofs
theorem ynq6 : okC yncf 10000 (nest (ynl4.take 1)) yns7 .n yns8 = true := by kernel_rfl
end Go.Ev
