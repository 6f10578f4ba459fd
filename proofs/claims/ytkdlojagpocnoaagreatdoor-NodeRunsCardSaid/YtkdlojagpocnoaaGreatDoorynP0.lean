import Derived.Test.YtkdlojagpocnoaaGreatDoorynS
set_option linter.unusedVariables false
set_option maxRecDepth 100000
namespace Go.Ev
open Go.Fw Go.Proofs
theorem ynq0 : okC yncf 10000 (nest (ynl0.take 5)) yns0 .n yns1 = true := by kernel_rfl
end Go.Ev
