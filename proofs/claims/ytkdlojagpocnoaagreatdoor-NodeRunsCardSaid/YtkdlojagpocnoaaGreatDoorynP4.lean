import Derived.Test.YtkdlojagpocnoaaGreatDoorynS
set_option linter.unusedVariables false
set_option maxRecDepth 100000
namespace Go.Ev
open Go.Fw Go.Proofs
theorem ynq4 : okI yncf 10000 (bodyOf ynl2) (ksOf ynl2) 9 yns5 (xtN (.e 2)) yns6 = true := by kernel_rfl
end Go.Ev
