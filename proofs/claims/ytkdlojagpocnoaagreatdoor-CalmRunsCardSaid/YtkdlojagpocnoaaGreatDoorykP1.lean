import Derived.Test.YtkdlojagpocnoaaGreatDoorykS
set_option linter.unusedVariables false
set_option maxRecDepth 100000
namespace Go.Ev
open Go.Fw Go.Proofs
theorem ykq3 : okI ykcf 10000 (bodyOf ykl5) (ksOf ykl5) 3 yks7 0 yks8 = true := by kernel_rfl
theorem ykq4 : okI ykcf 10000 (bodyOf ykl5) (ksOf ykl5) 2 yks8 (xtN (.e 2)) yks9 = true := by kernel_rfl
theorem ykq5 : okC ykcf 10000 (nest ykl6) yks9 .n yks10 = true := by kernel_rfl
end Go.Ev
