import Derived.Test.YtkdlojagpocnoaaGreatDoorykS
set_option linter.unusedVariables false
set_option maxRecDepth 100000
namespace Go.Ev
open Go.Fw Go.Proofs
theorem ykq6 : okC ykcf 10000 (nest (ykl7.take 3)) yks11 .n yks12 = true := by kernel_rfl
theorem ykq7 : okI ykcf 10000 (bodyOf ykl8) (ksOf ykl8) 9 yks13 0 yks14 = true := by kernel_rfl
theorem ykq8 : okI ykcf 10000 (bodyOf ykl8) (ksOf ykl8) 4 yks14 (xtN (.e 2)) yks15 = true := by kernel_rfl
end Go.Ev
