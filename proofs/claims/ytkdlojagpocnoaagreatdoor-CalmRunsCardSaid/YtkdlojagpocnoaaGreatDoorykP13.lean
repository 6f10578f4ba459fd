import Derived.Test.YtkdlojagpocnoaaGreatDoorykS
set_option linter.unusedVariables false
set_option maxRecDepth 100000
namespace Go.Ev
open Go.Fw Go.Proofs
theorem ykq39 : okI ykcf 10000 (bodyOf ykl29) (ksOf ykl29) 9 yks59 0 yks60 = true := by kernel_rfl
theorem ykq40 : okI ykcf 10000 (bodyOf ykl29) (ksOf ykl29) 4 yks60 (xtN (.e 2)) yks61 = true := by kernel_rfl
theorem ykq41 : okC ykcf 10000 (nest ykl30) yks61 .n yks62 = true := by kernel_rfl
end Go.Ev
