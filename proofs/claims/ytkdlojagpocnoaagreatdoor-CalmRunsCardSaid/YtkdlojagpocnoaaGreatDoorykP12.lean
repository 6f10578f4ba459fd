import Derived.Test.YtkdlojagpocnoaaGreatDoorykS
set_option linter.unusedVariables false
set_option maxRecDepth 100000
namespace Go.Ev
open Go.Fw Go.Proofs
theorem ykq36 : okI ykcf 10000 (bodyOf ykl26) (ksOf ykl26) 4 yks54 (xtN (.e 2)) yks55 = true := by kernel_rfl
theorem ykq37 : okC ykcf 10000 (nest ykl27) yks55 .n yks56 = true := by kernel_rfl
theorem ykq38 : okC ykcf 10000 (nest (ykl28.take 3)) yks57 .n yks58 = true := by kernel_rfl
end Go.Ev
