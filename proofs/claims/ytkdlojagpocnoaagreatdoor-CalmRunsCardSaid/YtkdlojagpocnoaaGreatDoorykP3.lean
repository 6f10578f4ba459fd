import Derived.Test.YtkdlojagpocnoaaGreatDoorykS
set_option linter.unusedVariables false
set_option maxRecDepth 100000
namespace Go.Ev
open Go.Fw Go.Proofs
theorem ykq9 : okC ykcf 10000 (nest ykl9) yks15 .n yks16 = true := by kernel_rfl
theorem ykq10 : okC ykcf 10000 (nest (ykl10.take 3)) yks17 .n yks18 = true := by kernel_rfl
theorem ykq11 : okI ykcf 10000 (bodyOf ykl11) (ksOf ykl11) 2 yks19 0 yks20 = true := by kernel_rfl
end Go.Ev
