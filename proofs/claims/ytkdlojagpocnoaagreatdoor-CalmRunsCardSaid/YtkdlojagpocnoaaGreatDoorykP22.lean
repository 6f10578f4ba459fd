import Derived.Test.YtkdlojagpocnoaaGreatDoorykS
set_option linter.unusedVariables false
set_option maxRecDepth 100000
namespace Go.Ev
open Go.Fw Go.Proofs
theorem ykq66 : okC ykcf 10000 (nest ykl31) yks86 .n yks87 = true := by kernel_rfl
theorem ykq67 : okC (memo2 23 [.ptr 1 0, i6 60] yks2 (.tup []) yks87.cm 88397 ykcf) 10000 (nest (ykl1.take 1)) yks1 .n yks88 = true := by kernel_rfl
theorem ykq68 : okC ykcf 10000 (nest ykl32) yks88 .r yks89 = true := by kernel_rfl
end Go.Ev
