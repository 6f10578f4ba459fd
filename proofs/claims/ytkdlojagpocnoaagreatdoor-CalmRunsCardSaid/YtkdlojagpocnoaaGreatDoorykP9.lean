import Derived.Test.YtkdlojagpocnoaaGreatDoorykS
set_option linter.unusedVariables false
set_option maxRecDepth 100000
namespace Go.Ev
open Go.Fw Go.Proofs
theorem ykq27 : okI ykcf 10000 (bodyOf ykl20) (ksOf ykl20) 9 yks41 0 yks42 = true := by kernel_rfl
theorem ykq28 : okI ykcf 10000 (bodyOf ykl20) (ksOf ykl20) 4 yks42 (xtN (.e 2)) yks43 = true := by kernel_rfl
theorem ykq29 : okC ykcf 10000 (nest ykl21) yks43 .n yks44 = true := by kernel_rfl
end Go.Ev
