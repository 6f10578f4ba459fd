import Derived.Test.YtkdlojagpocnoaaGreatDoorykS
set_option linter.unusedVariables false
set_option maxRecDepth 100000
namespace Go.Ev
open Go.Fw Go.Proofs
theorem ykq18 : okC ykcf 10000 (nest (ykl13.take 3)) yks27 .n yks28 = true := by kernel_rfl
theorem ykq19 : okI ykcf 10000 (bodyOf ykl14) (ksOf ykl14) 9 yks29 0 yks30 = true := by kernel_rfl
theorem ykq20 : okI ykcf 10000 (bodyOf ykl14) (ksOf ykl14) 4 yks30 (xtN (.e 2)) yks31 = true := by kernel_rfl
end Go.Ev
