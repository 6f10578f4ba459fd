import Derived.Test.YtmgcaknehhppbaaDoorX10T
import Derived.Test.YtmgcaknehhppbaaDoorFxA
/-! Chapter 10's run, by the evaluator. -/
namespace Go.Ev
open Go.Fw Go.Proofs
theorem run10 : okRun (tab rows) 10000 40 start = true := by kernel_rfl
theorem law_Runs (m : Mem) : MC Tryd.prog start [] m fun v m' => v = .bool true ∧ Fr m m' [] := (run_ok (tab_ok rows_ok) mixed run10 m).mono fun _ _ h => ⟨h.1, fun b hb _ => h.2 b hb⟩
end Go.Ev
