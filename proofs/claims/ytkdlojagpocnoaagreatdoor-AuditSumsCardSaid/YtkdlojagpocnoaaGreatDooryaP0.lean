import Derived.Test.YtkdlojagpocnoaaGreatDooryaS
set_option linter.unusedVariables false
set_option maxRecDepth 100000
namespace Go.Ev
open Go.Fw Go.Proofs
theorem yaq0 : okC yacf 10000 (nest (yal0.take 5)) yas0 .n yas1 = true := by kernel_rfl
end Go.Ev
