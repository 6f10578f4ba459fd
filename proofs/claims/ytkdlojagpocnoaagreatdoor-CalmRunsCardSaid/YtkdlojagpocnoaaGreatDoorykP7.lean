import Derived.Test.YtkdlojagpocnoaaGreatDoorykS
set_option linter.unusedVariables false
set_option maxRecDepth 100000
namespace Go.Ev
open Go.Fw Go.Proofs
theorem ykq21 : okC ykcf 10000 (nest ykl15) yks31 .n yks32 = true := by kernel_rfl
theorem ykq22 : okC ykcf 10000 (nest (ykl16.take 3)) yks33 .n yks34 = true := by kernel_rfl
theorem ykq23 : okI ykcf 10000 (bodyOf ykl17) (ksOf ykl17) 9 yks35 0 yks36 = true := by kernel_rfl
end Go.Ev
