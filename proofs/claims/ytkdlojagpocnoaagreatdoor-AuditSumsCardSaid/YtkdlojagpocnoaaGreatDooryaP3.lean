import Derived.Test.YtkdlojagpocnoaaGreatDooryaS
set_option linter.unusedVariables false
set_option maxRecDepth 100000
namespace Go.Ev
open Go.Fw Go.Proofs
theorem yaq3 : okI yacf 10000 (bodyOf yal2) (ksOf yal2) 2 yas4 0 yas5 = true := by kernel_rfl
end Go.Ev
