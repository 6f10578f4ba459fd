import Derived.Test.YtkdlojagpocnoaaGreatDooryaS
set_option linter.unusedVariables false
set_option maxRecDepth 100000
namespace Go.Ev
open Go.Fw Go.Proofs
theorem yaq2 : okI yacf 10000 (bodyOf yal2) (ksOf yal2) 2 yas3 0 yas4 = true := by kernel_rfl
end Go.Ev
