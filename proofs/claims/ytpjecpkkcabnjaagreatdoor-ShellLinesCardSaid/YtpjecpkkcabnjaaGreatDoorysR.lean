import Derived.Test.YtpjecpkkcabnjaaGreatDoorysP0
import Derived.Test.YtpjecpkkcabnjaaGreatDoorysP1
import Derived.Test.YtpjecpkkcabnjaaGreatDoorFxA
set_option linter.unusedVariables false
set_option linter.unusedSimpArgs false
/-! ys: a run, piece by piece. -/
set_option maxRecDepth 100000
namespace Go.Ev
open Go.Fw Go.Proofs
theorem ys_pc : Pc Tryz.prog e12.code yss0 .r yss2 := by
  have hcf : CfOk Tryz.prog yscf := evF_ok (tab_ok rows_ok) mixed 10000 40
  generalize hP : Tryz.prog = P at hcf ⊢
  exact Pc.flat (PcL.take 5 (Pc.of hcf ysq0) (show PcL P ysl1 yss1 .r yss2 from (PcL.all (Pc.of hcf ysq1))))
theorem ys_ctr : Ctr Tryz.prog 12 [] .lf 0 (.bool true) .lf 2809 := Ctr.of (tab_ok rows_ok) mixed (show tab rows 12 = some e12 by kernel_rfl) (by kernel_rfl) ys_pc (by kernel_rfl)
theorem ys_Runs (m : Mem) (hG : Glb e0 CM.lf.get m) : MC Tryz.prog 12 [] m fun v m' => v = .bool true ∧ Fr m m' [] := (ys_ctr.run m hG).mono fun _ _ h => ⟨h.1, fun b hb _ => h.2 b hb⟩
end Go.Ev
