import Derived.Test.YtkdlojagpocnoaaGreatDoorynS
set_option linter.unusedVariables false
set_option maxRecDepth 100000
namespace Go.Ev
open Go.Fw Go.Proofs
theorem ynq5 : okC yncf 10000 (nest (ynl3.take 1)) yns6 .n yns7 = true := by kernel_rfl
end Go.Ev
