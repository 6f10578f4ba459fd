import Derived.Test.YtkdlojagpocnoaaGreatDoorykS
set_option linter.unusedVariables false
set_option maxRecDepth 100000
namespace Go.Ev
open Go.Fw Go.Proofs
theorem ykq30 : okC ykcf 10000 (nest (ykl22.take 3)) yks45 .n yks46 = true := by kernel_rfl
theorem ykq31 : okI ykcf 10000 (bodyOf ykl23) (ksOf ykl23) 9 yks47 0 yks48 = true := by kernel_rfl
theorem ykq32 : okI ykcf 10000 (bodyOf ykl23) (ksOf ykl23) 4 yks48 (xtN (.e 2)) yks49 = true := by kernel_rfl
end Go.Ev
