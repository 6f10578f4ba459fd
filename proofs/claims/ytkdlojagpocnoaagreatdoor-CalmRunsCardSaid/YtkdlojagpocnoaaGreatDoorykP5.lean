import Derived.Test.YtkdlojagpocnoaaGreatDoorykS
set_option linter.unusedVariables false
set_option maxRecDepth 100000
namespace Go.Ev
open Go.Fw Go.Proofs
theorem ykq15 : okI ykcf 10000 (bodyOf ykl11) (ksOf ykl11) 2 yks23 0 yks24 = true := by kernel_rfl
theorem ykq16 : okI ykcf 10000 (bodyOf ykl11) (ksOf ykl11) 3 yks24 (xtN (.e 2)) yks25 = true := by kernel_rfl
theorem ykq17 : okC ykcf 10000 (nest ykl12) yks25 .n yks26 = true := by kernel_rfl
end Go.Ev
