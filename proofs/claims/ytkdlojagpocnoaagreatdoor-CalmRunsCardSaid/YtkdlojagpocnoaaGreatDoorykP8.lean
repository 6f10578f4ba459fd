import Derived.Test.YtkdlojagpocnoaaGreatDoorykS
set_option linter.unusedVariables false
set_option maxRecDepth 100000
namespace Go.Ev
open Go.Fw Go.Proofs
theorem ykq24 : okI ykcf 10000 (bodyOf ykl17) (ksOf ykl17) 4 yks36 (xtN (.e 2)) yks37 = true := by kernel_rfl
theorem ykq25 : okC ykcf 10000 (nest ykl18) yks37 .n yks38 = true := by kernel_rfl
theorem ykq26 : okC ykcf 10000 (nest (ykl19.take 3)) yks39 .n yks40 = true := by kernel_rfl
end Go.Ev
