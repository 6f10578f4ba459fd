import Derived.Test.YtkdlojagpocnoaaGreatDooryaS
set_option linter.unusedVariables false
set_option maxRecDepth 100000
namespace Go.Ev
open Go.Fw Go.Proofs
theorem yaq5 : okC yacf 10000 (nest yal3) yas6 .r yas7 = true := by kernel_rfl
end Go.Ev
