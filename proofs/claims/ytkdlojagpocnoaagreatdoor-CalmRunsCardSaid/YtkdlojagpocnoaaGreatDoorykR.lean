import Derived.Test.YtkdlojagpocnoaaGreatDoorykP0
import Derived.Test.YtkdlojagpocnoaaGreatDoorykP1
import Derived.Test.YtkdlojagpocnoaaGreatDoorykP2
import Derived.Test.YtkdlojagpocnoaaGreatDoorykP3
import Derived.Test.YtkdlojagpocnoaaGreatDoorykP4
import Derived.Test.YtkdlojagpocnoaaGreatDoorykP5
import Derived.Test.YtkdlojagpocnoaaGreatDoorykP6
import Derived.Test.YtkdlojagpocnoaaGreatDoorykP7
import Derived.Test.YtkdlojagpocnoaaGreatDoorykP8
import Derived.Test.YtkdlojagpocnoaaGreatDoorykP9
import Derived.Test.YtkdlojagpocnoaaGreatDoorykP10
import Derived.Test.YtkdlojagpocnoaaGreatDoorykP11
import Derived.Test.YtkdlojagpocnoaaGreatDoorykP12
import Derived.Test.YtkdlojagpocnoaaGreatDoorykP13
import Derived.Test.YtkdlojagpocnoaaGreatDoorykP14
import Derived.Test.YtkdlojagpocnoaaGreatDoorykP15
import Derived.Test.YtkdlojagpocnoaaGreatDoorykP16
import Derived.Test.YtkdlojagpocnoaaGreatDoorykP17
import Derived.Test.YtkdlojagpocnoaaGreatDoorykP18
import Derived.Test.YtkdlojagpocnoaaGreatDoorykP19
import Derived.Test.YtkdlojagpocnoaaGreatDoorykP20
import Derived.Test.YtkdlojagpocnoaaGreatDoorykP21
import Derived.Test.YtkdlojagpocnoaaGreatDoorykP22
import Derived.Test.YtkdlojagpocnoaaGreatDoorFxA
/-! yk: a run, piece by piece. -/
set_option linter.unusedVariables false
set_option maxRecDepth 100000
namespace Go.Ev
open Go.Fw Go.Proofs
theorem ykpc0 : Pc Tryz.prog e68.code yks5 .n yks10 := by
  have hcf : CfOk Tryz.prog ykcf := evF_ok (tab_ok rows_ok) mixed 10000 40
  generalize hP : Tryz.prog = P at hcf ⊢
  exact Pc.flat (PcL.take 3 (Pc.of hcf ykq2) (show PcL P ykl5 yks6 .n yks10 from (PcL.loop (x0 := (.e 2)) hcf (show ykl5 = .block (idOf ykl5) (.loop (ksOf ykl5) (bodyOf ykl5)) :: ykl6 by kernel_rfl) (show okT yks6 (ksOf ykl5) yks7 = true by kernel_rfl) (PL.more 3 ykq3 (PL.last 2 ykq4)) rfl (PcL.all (Pc.of hcf ykq5)))))
theorem ykc0 : Ctr Tryz.prog 68 [.ptr 1 0] ykm49 2849 (.tup []) yks10.cm 5730 := Ctr.of (tab_ok rows_ok) mixed (show tab rows 68 = some e68 by kernel_rfl) (by kernel_rfl) ykpc0 (by kernel_rfl)
theorem ykpc1 : Pc Tryz.prog e68.code yks11 .n yks16 := by
  have hcf : CfOk Tryz.prog ykcf := evF_ok (tab_ok rows_ok) mixed 10000 40
  generalize hP : Tryz.prog = P at hcf ⊢
  exact Pc.flat (PcL.take 3 (Pc.of hcf ykq6) (show PcL P ykl8 yks12 .n yks16 from (PcL.loop (x0 := (.e 2)) hcf (show ykl8 = .block (idOf ykl8) (.loop (ksOf ykl8) (bodyOf ykl8)) :: ykl9 by kernel_rfl) (show okT yks12 (ksOf ykl8) yks13 = true by kernel_rfl) (PL.more 9 ykq7 (PL.last 4 ykq8)) rfl (PcL.all (Pc.of hcf ykq9)))))
theorem ykc1 : Ctr Tryz.prog 68 [.ptr 1 0] ykm103 11879 (.tup []) yks16.cm 15769 := Ctr.of (tab_ok rows_ok) mixed (show tab rows 68 = some e68 by kernel_rfl) (by kernel_rfl) ykpc1 (by kernel_rfl)
theorem ykpc2 : Pc Tryz.prog e68.code yks17 .n yks26 := by
  have hcf : CfOk Tryz.prog ykcf := evF_ok (tab_ok rows_ok) mixed 10000 40
  generalize hP : Tryz.prog = P at hcf ⊢
  exact Pc.flat (PcL.take 3 (Pc.of hcf ykq10) (show PcL P ykl11 yks18 .n yks26 from (PcL.loop (x0 := (.e 2)) hcf (show ykl11 = .block (idOf ykl11) (.loop (ksOf ykl11) (bodyOf ykl11)) :: ykl12 by kernel_rfl) (show okT yks18 (ksOf ykl11) yks19 = true by kernel_rfl) (PL.more 2 ykq11 (PL.more 3 ykq12 (PL.more 3 ykq13 (PL.more 2 ykq14 (PL.more 2 ykq15 (PL.last 3 ykq16)))))) rfl (PcL.all (Pc.of hcf ykq17)))))
theorem ykc2 : Ctr Tryz.prog 68 [.ptr 1 0] ykm146 18839 (.tup []) yks26.cm 30498 := Ctr.of (tab_ok rows_ok) mixed (show tab rows 68 = some e68 by kernel_rfl) (by kernel_rfl) ykpc2 (by kernel_rfl)
theorem ykpc3 : Pc Tryz.prog e68.code yks27 .n yks32 := by
  have hcf : CfOk Tryz.prog ykcf := evF_ok (tab_ok rows_ok) mixed 10000 40
  generalize hP : Tryz.prog = P at hcf ⊢
  exact Pc.flat (PcL.take 3 (Pc.of hcf ykq18) (show PcL P ykl14 yks28 .n yks32 from (PcL.loop (x0 := (.e 2)) hcf (show ykl14 = .block (idOf ykl14) (.loop (ksOf ykl14) (bodyOf ykl14)) :: ykl15 by kernel_rfl) (show okT yks28 (ksOf ykl14) yks29 = true by kernel_rfl) (PL.more 9 ykq19 (PL.last 4 ykq20)) rfl (PcL.all (Pc.of hcf ykq21)))))
theorem ykc3 : Ctr Tryz.prog 68 [.ptr 1 0] ykm301 33121 (.tup []) yks32.cm 36830 := Ctr.of (tab_ok rows_ok) mixed (show tab rows 68 = some e68 by kernel_rfl) (by kernel_rfl) ykpc3 (by kernel_rfl)
theorem ykpc4 : Pc Tryz.prog e68.code yks33 .n yks38 := by
  have hcf : CfOk Tryz.prog ykcf := evF_ok (tab_ok rows_ok) mixed 10000 40
  generalize hP : Tryz.prog = P at hcf ⊢
  exact Pc.flat (PcL.take 3 (Pc.of hcf ykq22) (show PcL P ykl17 yks34 .n yks38 from (PcL.loop (x0 := (.e 2)) hcf (show ykl17 = .block (idOf ykl17) (.loop (ksOf ykl17) (bodyOf ykl17)) :: ykl18 by kernel_rfl) (show okT yks34 (ksOf ykl17) yks35 = true by kernel_rfl) (PL.more 9 ykq23 (PL.last 4 ykq24)) rfl (PcL.all (Pc.of hcf ykq25)))))
theorem ykc4 : Ctr Tryz.prog 68 [.ptr 1 0] ykm336 42941 (.tup []) yks38.cm 46649 := Ctr.of (tab_ok rows_ok) mixed (show tab rows 68 = some e68 by kernel_rfl) (by kernel_rfl) ykpc4 (by kernel_rfl)
theorem ykpc5 : Pc Tryz.prog e68.code yks39 .n yks44 := by
  have hcf : CfOk Tryz.prog ykcf := evF_ok (tab_ok rows_ok) mixed 10000 40
  generalize hP : Tryz.prog = P at hcf ⊢
  exact Pc.flat (PcL.take 3 (Pc.of hcf ykq26) (show PcL P ykl20 yks40 .n yks44 from (PcL.loop (x0 := (.e 2)) hcf (show ykl20 = .block (idOf ykl20) (.loop (ksOf ykl20) (bodyOf ykl20)) :: ykl21 by kernel_rfl) (show okT yks40 (ksOf ykl20) yks41 = true by kernel_rfl) (PL.more 9 ykq27 (PL.last 4 ykq28)) rfl (PcL.all (Pc.of hcf ykq29)))))
theorem ykc5 : Ctr Tryz.prog 68 [.ptr 1 0] ykm360 52537 (.tup []) yks44.cm 56245 := Ctr.of (tab_ok rows_ok) mixed (show tab rows 68 = some e68 by kernel_rfl) (by kernel_rfl) ykpc5 (by kernel_rfl)
theorem ykpc6 : Pc Tryz.prog e68.code yks45 .n yks50 := by
  have hcf : CfOk Tryz.prog ykcf := evF_ok (tab_ok rows_ok) mixed 10000 40
  generalize hP : Tryz.prog = P at hcf ⊢
  exact Pc.flat (PcL.take 3 (Pc.of hcf ykq30) (show PcL P ykl23 yks46 .n yks50 from (PcL.loop (x0 := (.e 2)) hcf (show ykl23 = .block (idOf ykl23) (.loop (ksOf ykl23) (bodyOf ykl23)) :: ykl24 by kernel_rfl) (show okT yks46 (ksOf ykl23) yks47 = true by kernel_rfl) (PL.more 9 ykq31 (PL.last 4 ykq32)) rfl (PcL.all (Pc.of hcf ykq33)))))
theorem ykc6 : Ctr Tryz.prog 68 [.ptr 1 0] ykm384 62133 (.tup []) yks50.cm 65841 := Ctr.of (tab_ok rows_ok) mixed (show tab rows 68 = some e68 by kernel_rfl) (by kernel_rfl) ykpc6 (by kernel_rfl)
theorem ykpc7 : Pc Tryz.prog e68.code yks51 .n yks56 := by
  have hcf : CfOk Tryz.prog ykcf := evF_ok (tab_ok rows_ok) mixed 10000 40
  generalize hP : Tryz.prog = P at hcf ⊢
  exact Pc.flat (PcL.take 3 (Pc.of hcf ykq34) (show PcL P ykl26 yks52 .n yks56 from (PcL.loop (x0 := (.e 2)) hcf (show ykl26 = .block (idOf ykl26) (.loop (ksOf ykl26) (bodyOf ykl26)) :: ykl27 by kernel_rfl) (show okT yks52 (ksOf ykl26) yks53 = true by kernel_rfl) (PL.more 9 ykq35 (PL.last 4 ykq36)) rfl (PcL.all (Pc.of hcf ykq37)))))
theorem ykc7 : Ctr Tryz.prog 68 [.ptr 1 0] ykm408 71729 (.tup []) yks56.cm 75437 := Ctr.of (tab_ok rows_ok) mixed (show tab rows 68 = some e68 by kernel_rfl) (by kernel_rfl) ykpc7 (by kernel_rfl)
theorem ykpc8 : Pc Tryz.prog e68.code yks57 .n yks62 := by
  have hcf : CfOk Tryz.prog ykcf := evF_ok (tab_ok rows_ok) mixed 10000 40
  generalize hP : Tryz.prog = P at hcf ⊢
  exact Pc.flat (PcL.take 3 (Pc.of hcf ykq38) (show PcL P ykl29 yks58 .n yks62 from (PcL.loop (x0 := (.e 2)) hcf (show ykl29 = .block (idOf ykl29) (.loop (ksOf ykl29) (bodyOf ykl29)) :: ykl30 by kernel_rfl) (show okT yks58 (ksOf ykl29) yks59 = true by kernel_rfl) (PL.more 9 ykq39 (PL.last 4 ykq40)) rfl (PcL.all (Pc.of hcf ykq41)))))
theorem ykc8 : Ctr Tryz.prog 68 [.ptr 1 0] ykm432 81325 (.tup []) yks62.cm 85033 := Ctr.of (tab_ok rows_ok) mixed (show tab rows 68 = some e68 by kernel_rfl) (by kernel_rfl) ykpc8 (by kernel_rfl)
theorem ykpc9 : Pc Tryz.prog e23.code yks2 .n yks87 := by
  have hcf : CfOk Tryz.prog ykcf := evF_ok (tab_ok rows_ok) mixed 10000 40
  have hykc0 := ykc0
  have hykc1 := ykc1
  have hykc2 := ykc2
  have hykc3 := ykc3
  have hykc4 := ykc4
  have hykc5 := ykc5
  have hykc6 := ykc6
  have hykc7 := ykc7
  have hykc8 := ykc8
  generalize hP : Tryz.prog = P at hcf hykc0 hykc1 hykc2 hykc3 hykc4 hykc5 hykc6 hykc7 hykc8 ⊢
  exact Pc.flat (PcL.take 2 (Pc.of hcf ykq1) (show PcL P ykl3 yks3 .n yks87 from (PcL.loop (x0 := (.e 0)) (memo2_ok (memo2_ok (memo2_ok (memo2_ok (memo2_ok (memo2_ok (memo2_ok (memo2_ok (memo2_ok hcf hykc8) hykc7) hykc6) hykc5) hykc4) hykc3) hykc2) hykc1) hykc0) (show ykl3 = .block (idOf ykl3) (.loop (ksOf ykl3) (bodyOf ykl3)) :: ykl31 by kernel_rfl) (show okT yks3 (ksOf ykl3) yks4 = true by kernel_rfl) (PL.more 1 ykq42 (PL.more 3 ykq43 (PL.more 3 ykq44 (PL.more 1 ykq45 (PL.more 3 ykq46 (PL.more 1 ykq47 (PL.more 3 ykq48 (PL.more 1 ykq49 (PL.more 4 ykq50 (PL.more 3 ykq51 (PL.more 1 ykq52 (PL.more 4 ykq53 (PL.more 3 ykq54 (PL.more 1 ykq55 (PL.more 4 ykq56 (PL.more 3 ykq57 (PL.more 1 ykq58 (PL.more 4 ykq59 (PL.more 3 ykq60 (PL.more 1 ykq61 (PL.more 4 ykq62 (PL.more 3 ykq63 (PL.more 1 ykq64 (PL.last 5 ykq65)))))))))))))))))))))))) rfl (PcL.all (Pc.of hcf ykq66)))))
theorem ykc9 : Ctr Tryz.prog 23 [.ptr 1 0, i6 60] ykm31 2047 (.tup []) yks87.cm 88397 := Ctr.of (tab_ok rows_ok) mixed (show tab rows 23 = some e23 by kernel_rfl) (by kernel_rfl) ykpc9 (by kernel_rfl)
theorem ykpc10 : Pc Tryz.prog e5.code yks0 .r yks89 := by
  have hcf : CfOk Tryz.prog ykcf := evF_ok (tab_ok rows_ok) mixed 10000 40
  have hykc9 := ykc9
  generalize hP : Tryz.prog = P at hcf hykc9 ⊢
  exact Pc.flat (PcL.take 5 (Pc.of hcf ykq0) (show PcL P ykl1 yks1 .r yks89 from (PcL.take 1 (Pc.of (memo2_ok hcf hykc9) ykq67) (show PcL P ykl32 yks88 .r yks89 from (PcL.all (Pc.of hcf ykq68))))))
theorem ykc10 : Ctr Tryz.prog 5 [] .lf 0 (.bool true) .lf 88430 := Ctr.of (tab_ok rows_ok) mixed (show tab rows 5 = some e5 by kernel_rfl) (by kernel_rfl) ykpc10 (by kernel_rfl)
theorem yk_Runs (m : Mem) : MC Tryz.prog 5 [] m fun v m' => v = .bool true ∧ Fr m m' [] := (ykc10.run m).mono fun _ _ h => ⟨h.1, fun b hb _ => h.2 b hb⟩
end Go.Ev
