import Derived.Test.YtkdlojagpocnoaaGreatDooryaS
set_option linter.unusedVariables false
set_option maxRecDepth 100000
namespace Go.Ev
open Go.Fw Go.Proofs
theorem yaq1 : okC yacf 10000 (nest (yal1.take 2)) yas1 .n yas2 = true := by kernel_rfl
end Go.Ev
