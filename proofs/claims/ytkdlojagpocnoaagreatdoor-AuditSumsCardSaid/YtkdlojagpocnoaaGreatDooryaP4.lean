import Derived.Test.YtkdlojagpocnoaaGreatDooryaS
set_option linter.unusedVariables false
set_option maxRecDepth 100000
namespace Go.Ev
open Go.Fw Go.Proofs
theorem yaq4 : okI yacf 10000 (bodyOf yal2) (ksOf yal2) 3 yas5 (xtN (.e 0)) yas6 = true := by kernel_rfl
end Go.Ev
