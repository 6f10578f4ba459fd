import Derived.Test.YtkdlojagpocnoaaGreatDoorykS
set_option linter.unusedVariables false
set_option maxRecDepth 100000
namespace Go.Ev
open Go.Fw Go.Proofs
theorem ykq0 : okC ykcf 10000 (nest (ykl0.take 5)) yks0 .n yks1 = true := by kernel_rfl
theorem ykq1 : okC ykcf 10000 (nest (ykl2.take 2)) yks2 .n yks3 = true := by kernel_rfl
theorem ykq2 : okC ykcf 10000 (nest (ykl4.take 3)) yks5 .n yks6 = true := by kernel_rfl
end Go.Ev
