import Derived.Test.YtkdlojagpocnoaaGreatDoorykS
set_option linter.unusedVariables false
set_option maxRecDepth 100000
namespace Go.Ev
open Go.Fw Go.Proofs
theorem ykq33 : okC ykcf 10000 (nest ykl24) yks49 .n yks50 = true := by kernel_rfl
theorem ykq34 : okC ykcf 10000 (nest (ykl25.take 3)) yks51 .n yks52 = true := by kernel_rfl
theorem ykq35 : okI ykcf 10000 (bodyOf ykl26) (ksOf ykl26) 9 yks53 0 yks54 = true := by kernel_rfl
end Go.Ev
