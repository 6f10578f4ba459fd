import Derived.Test.YtnaphfnckjjmiaaGreatX18T
import Derived.Test.YtnaphfnckjjmiaaGreatFxA
/-! Chapter 18's run, by the evaluator. -/
namespace Go.Ev
open Go.Fw Go.Proofs
theorem run18 : okRun (tab rows) 10000 40 start = true := by kernel_rfl
theorem law_Runs (m : Mem) : MC Tryz.prog start [] m fun v m' => v = .bool true ∧ Fr m m' [] := (run_ok (tab_ok rows_ok) mixed run18 m).mono fun _ _ h => ⟨h.1, fun b hb _ => h.2 b hb⟩
end Go.Ev
