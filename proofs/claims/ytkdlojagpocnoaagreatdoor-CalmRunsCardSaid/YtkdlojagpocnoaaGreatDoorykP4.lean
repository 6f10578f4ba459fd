import Derived.Test.YtkdlojagpocnoaaGreatDoorykS
set_option linter.unusedVariables false
set_option maxRecDepth 100000
namespace Go.Ev
open Go.Fw Go.Proofs
theorem ykq12 : okI ykcf 10000 (bodyOf ykl11) (ksOf ykl11) 3 yks20 0 yks21 = true := by kernel_rfl
theorem ykq13 : okI ykcf 10000 (bodyOf ykl11) (ksOf ykl11) 3 yks21 0 yks22 = true := by kernel_rfl
theorem ykq14 : okI ykcf 10000 (bodyOf ykl11) (ksOf ykl11) 2 yks22 0 yks23 = true := by kernel_rfl
end Go.Ev
