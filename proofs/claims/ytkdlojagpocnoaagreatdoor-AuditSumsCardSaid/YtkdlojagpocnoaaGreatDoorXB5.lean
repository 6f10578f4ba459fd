import Derived.Test.YtkdlojagpocnoaaGreatDoorEvB
import Derived.Test.YtkdlojagpocnoaaGreatDoorProg
set_option linter.unusedVariables false
namespace Go.Ev
open Go.Fw Go.Proofs
/-! slices.insertionSortCmpFunc[int] -/
def e387r0 : EE := .q 1 .add [.s 1, .c (.int .i64 1)] none <|
 .out [(0, .s 0), (1, .s 1), (2, .s 2), (3, .s 3), (8, .r 1)]
def e387r1 : EE := .q 2 .lss [.s 8, .s 2] none <|
 .out [(0, .s 0), (1, .s 1), (2, .s 2), (3, .s 3), (8, .s 8), (14, .r 2)]
def e387r2 : EE := .out [(0, .s 0), (1, .s 1), (2, .s 2), (3, .s 3), (8, .s 8), (9, .s 8)]
def e387r3 : EE := .q 2 .gtr [.s 9, .s 1] none <|
 .q 4 .mv [.s 3] (some (.r 2, true)) <|
 .q 5 .mv [.s 0] (some (.r 2, true)) <|
 .q 6 .mv [.s 9] (some (.r 2, true)) <|
 .q 7 (.ixs 1) [.r 5, .r 6] (some (.r 2, true)) <|
 .q 8 .ld [.r 7] (some (.r 2, true)) <|
 .q 9 .mv [.s 0] (some (.r 2, true)) <|
 .q 10 .mv [.s 9] (some (.r 2, true)) <|
 .q 11 .sub [.r 10, .c (.int .i64 1)] (some (.r 2, true)) <|
 .q 12 (.ixs 1) [.r 9, .r 11] (some (.r 2, true)) <|
 .q 13 .ld [.r 12] (some (.r 2, true)) <|
 .x 14 .callv [.r 4, .r 8, .r 13] (some (.r 2, true)) [] <|
 .q 15 .lss [.r 14, .c z] (some (.r 2, true)) <|
 .q 16 .pick [.r 2, .r 15, .c (.bool false)] none <|
 .out [(0, .s 0), (1, .s 1), (2, .s 2), (3, .s 3), (8, .s 8), (9, .s 9), (34, .r 16)]
def e387r4 : EE := .q 4 .sub [.s 9, .c (.int .i64 1)] none <|
 .q 7 .sub [.s 9, .c (.int .i64 1)] none <|
 .q 8 (.ixs 1) [.s 0, .r 7] none <|
 .q 9 .ld [.r 8] none <|
 .q 12 (.ixs 1) [.s 0, .s 9] none <|
 .q 13 .ld [.r 12] none <|
 .q 14 (.ixs 1) [.s 0, .s 9] none <|
 .x 15 (.st 1) [.r 14, .r 9] none [] <|
 .q 16 (.ixs 1) [.s 0, .r 4] none <|
 .x 17 (.st 1) [.r 16, .r 13] none [] <|
 .out [(0, .s 0), (1, .s 1), (2, .s 2), (3, .s 3), (8, .s 8), (9, .s 9)]
def e387r5 : EE := .q 1 .sub [.s 9, .c (.int .i64 1)] none <|
 .out [(0, .s 0), (1, .s 1), (2, .s 2), (3, .s 3), (8, .s 8), (9, .r 1)]
def e387l6 : EC := (.seq (.seq (.reg e387r3 [0, 1, 2, 3, 8, 9] 0) (.cond (.s 34) .skip (.exit 2))) (.seq (.block 3 (.reg e387r4 [0, 1, 2, 3, 8, 9] 0)) (.reg e387r5 [0, 1, 2, 3, 8, 9] 0)))
def e387r7 : EE := .q 1 .add [.s 8, .c (.int .i64 1)] none <|
 .out [(0, .s 0), (1, .s 1), (2, .s 2), (3, .s 3), (8, .r 1)]
def e387l8 : EC := (.seq (.seq (.reg e387r1 [0, 1, 2, 3, 8] 0) (.cond (.s 14) .skip (.exit 0))) (.seq (.block 1 (.seq (.reg e387r2 [0, 1, 2, 3, 8] 0) (.block 2 (.loop [0, 1, 2, 3, 8, 9] e387l6)))) (.reg e387r7 [0, 1, 2, 3, 8] 0)))
def e387 : EFn := ⟨(.seq (.reg e387r0 [0, 1, 2, 3] 0) (.block 0 (.loop [0, 1, 2, 3, 8] e387l8))), [], 53, 0⟩
theorem g387 : Good Tryz.prog 387 e387 := ⟨Tryz.f387, Tryz.func387, by kernel_rfl, by kernel_rfl, by kernel_rfl, by kernel_rfl⟩
end Go.Ev
