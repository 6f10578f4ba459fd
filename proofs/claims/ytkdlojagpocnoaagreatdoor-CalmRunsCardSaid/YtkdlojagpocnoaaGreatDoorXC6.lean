import Derived.Test.YtkdlojagpocnoaaGreatDoorEvB
import Derived.Test.YtkdlojagpocnoaaGreatDoorProg
set_option linter.unusedVariables false
namespace Go.Ev
open Go.Fw Go.Proofs
/-! (*concord/exec.plan).edges -/
def e347r0 : EE := .out [(0, .s 0), (1, .s 1)]
def e347r1 : EE := .q 1 .len [.s 1] none <|
 .x 2 (.mks 68 24 [.nsl]) [.r 1, .r 1] none [] <|
 .out [(0, .s 0), (1, .s 1), (5, .r 2)]
def e347r2 : EE := .q 1 .len [.s 1] none <|
 .out [(0, .s 0), (1, .s 1), (5, .s 5), (14, .s 1), (15, .r 1), (16, .c z)]
def e347r3 : EE := .q 0 .lss [.s 16, .s 15] none <|
 .out [(0, .s 0), (1, .s 1), (5, .s 5), (14, .s 14), (15, .s 15), (16, .s 16), (17, .r 0)]
def e347r4 : EE := .q 1 (.ixs 2) [.s 14, .s 16] none <|
 .q 2 (.lda 2) [.r 1] none <|
 .x 3 (.alc [z, z] 40) [] none [] <|
 .x 5 (.st 2) [.r 3, .r 2] none [] <|
 .out [(0, .s 0), (1, .s 1), (5, .s 5), (6, .s 16), (7, .r 3), (14, .s 14), (15, .s 15), (16, .s 16)]
def e347r5 : EE := .q 1 .nl [.s 0] none <|
 .q 2 (.fld 7) [.r 1] none <|
 .q 3 .ld [.r 2] none <|
 .q 4 (.lda 2) [.s 7] none <|
 .q 5 (.lkp true [(.i .i64), (.i .i64)] (.agg [z, z, z, z, z, z, z, z, zs, zs, zs, zs, z, z, z, z, z, z, z, z, (.bool false)]) false) [.r 3, .r 4] none <|
 .q 6 (.prta 12 8) [.r 5] none <|
 .q 7 (.prta 1 7) [.r 6] none <|
 .x 8 (.alc [z, z, z, z, z, z, z] 44) [] none [⟨3, .ld, [.r 2], none⟩, ⟨4, (.lda 2), [.s 7], none⟩, ⟨5, (.lkp true [(.i .i64), (.i .i64)] (.agg [z, z, z, z, z, z, z, z, zs, zs, zs, zs, z, z, z, z, z, z, z, z, (.bool false)]) false), [.r 3, .r 4], none⟩] <|
 .x 9 (.st 7) [.r 8, .r 7] none [] <|
 .out [(0, .s 0), (1, .s 1), (5, .s 5), (6, .s 6), (7, .s 7), (8, .r 8), (14, .s 14), (15, .s 15), (16, .s 16)]
def e347r6 : EE := .q 1 .len [.s 1] none <|
 .out [(0, .s 0), (1, .s 1), (5, .s 5), (6, .s 6), (7, .s 7), (8, .s 8), (14, .s 14), (15, .s 15), (16, .s 16), (29, .s 1), (30, .r 1), (31, .c z)]
def e347r7 : EE := .q 0 .lss [.s 31, .s 30] none <|
 .out [(0, .s 0), (1, .s 1), (5, .s 5), (6, .s 6), (7, .s 7), (8, .s 8), (14, .s 14), (15, .s 15), (16, .s 16), (29, .s 29), (30, .s 30), (31, .s 31), (32, .r 0)]
def e347r8 : EE := .q 1 (.ixs 2) [.s 29, .s 31] none <|
 .q 2 (.lda 2) [.r 1] none <|
 .x 3 (.alc [z, z] 40) [] none [] <|
 .x 5 (.st 2) [.r 3, .r 2] none [] <|
 .out [(0, .s 0), (1, .s 1), (5, .s 5), (6, .s 6), (7, .s 7), (8, .s 8), (9, .s 31), (10, .r 3), (14, .s 14), (15, .s 15), (16, .s 16), (29, .s 29), (30, .s 30), (31, .s 31)]
def e347r9 : EE := .q 2 .neq [.s 6, .s 9] none <|
 .q 4 (.lda 7) [.s 8] (some (.r 2, true)) <|
 .q 5 (.lda 2) [.s 10] (some (.r 2, true)) <|
 .x 6 (.call 73) [.r 4, .r 5] (some (.r 2, true)) [] <|
 .q 7 .mv [.r 6] (some (.r 2, true)) <|
 .q 8 (.fld 0) [.s 10] (some (.r 7, false)) <|
 .q 9 .ld [.r 8] (some (.r 7, false)) <|
 .q 10 (.fld 0) [.s 7] (some (.r 7, false)) <|
 .q 11 .ld [.r 10] (some (.r 7, false)) <|
 .q 12 .eql [.r 9, .r 11] (some (.r 7, false)) <|
 .q 13 .mv [.r 12] (some (.r 7, false)) <|
 .q 14 (.fld 1) [.s 10] (some (.r 13, true)) <|
 .q 15 .ld [.r 14] (some (.r 13, true)) <|
 .q 16 (.fld 1) [.s 7] (some (.r 13, true)) <|
 .q 17 .ld [.r 16] (some (.r 13, true)) <|
 .q 18 .lss [.r 15, .r 17] (some (.r 13, true)) <|
 .q 19 .pick [.r 13, .r 18, .c (.bool false)] (some (.r 7, false)) <|
 .q 20 .pick [.r 7, .c (.bool true), .r 19] (some (.r 2, true)) <|
 .q 21 .pick [.r 2, .r 20, .c (.bool false)] none <|
 .out [(0, .s 0), (1, .s 1), (5, .s 5), (6, .s 6), (7, .s 7), (8, .s 8), (9, .s 9), (14, .s 14), (15, .s 15), (16, .s 16), (29, .s 29), (30, .s 30), (31, .s 31), (57, .r 21)]
def e347r10 : EE := .q 4 (.ixs 1) [.s 5, .s 6] none <|
 .q 5 .ld [.r 4] none <|
 .x 7 (.bsl 3 1 [z] [(0, 1)]) [.s 9] none [] <|
 .x 8 (.app 3 1 8 [z]) [.r 5, .r 7] none [] <|
 .q 9 (.ixs 1) [.s 5, .s 6] none <|
 .x 10 (.st 1) [.r 9, .r 8] none [] <|
 .out [(0, .s 0), (1, .s 1), (5, .s 5), (6, .s 6), (7, .s 7), (8, .s 8), (14, .s 14), (15, .s 15), (16, .s 16), (29, .s 29), (30, .s 30), (31, .s 31)]
def e347r11 : EE := .q 0 .add [.s 31, .c (.int .i64 1)] none <|
 .out [(0, .s 0), (1, .s 1), (5, .s 5), (6, .s 6), (7, .s 7), (8, .s 8), (14, .s 14), (15, .s 15), (16, .s 16), (29, .s 29), (30, .s 30), (31, .r 0)]
def e347l12 : EC := (.seq (.reg e347r7 [0, 1, 5, 6, 7, 8, 14, 15, 16, 29, 30, 31] 0) (.seq (.cond (.s 32) .skip (.exit 2)) (.seq (.block 3 (.seq (.reg e347r8 [0, 1, 5, 6, 7, 8, 14, 15, 16, 29, 30, 31] 0) (.seq (.reg e347r9 [0, 1, 5, 6, 7, 8, 9, 10, 14, 15, 16, 29, 30, 31] 0) (.cond (.s 57) (.reg e347r10 [0, 1, 5, 6, 7, 8, 9, 14, 15, 16, 29, 30, 31] 0) .skip)))) (.reg e347r11 [0, 1, 5, 6, 7, 8, 14, 15, 16, 29, 30, 31] 0))))
def e347r13 : EE := .q 0 .add [.s 16, .c (.int .i64 1)] none <|
 .out [(0, .s 0), (1, .s 1), (5, .s 5), (14, .s 14), (15, .s 15), (16, .r 0)]
def e347l14 : EC := (.seq (.reg e347r3 [0, 1, 5, 14, 15, 16] 0) (.seq (.cond (.s 17) .skip (.exit 0)) (.seq (.block 1 (.seq (.reg e347r4 [0, 1, 5, 14, 15, 16] 0) (.seq (.reg e347r5 [0, 1, 5, 6, 7, 14, 15, 16] 0) (.seq (.reg e347r6 [0, 1, 5, 6, 7, 8, 14, 15, 16] 0) (.block 2 (.loop [0, 1, 5, 6, 7, 8, 14, 15, 16, 29, 30, 31] e347l12)))))) (.reg e347r13 [0, 1, 5, 14, 15, 16] 0))))
def e347r15 : EE := .out [(4, .s 5)]
def e347 : EFn := ⟨(.seq (.reg e347r0 [0, 1] 0) (.seq (.reg e347r1 [0, 1] 0) (.seq (.seq (.reg e347r2 [0, 1, 5] 0) (.block 0 (.loop [0, 1, 5, 14, 15, 16] e347l14))) (.seq (.reg e347r15 [5] 0) .ret)))), [.slot 4], 71, 0⟩
theorem g347 : Good Tryz.prog 347 e347 := ⟨Tryz.f347, Tryz.func347, by kernel_rfl, by kernel_rfl, by kernel_rfl, by kernel_rfl⟩
/-! slices.SortStableFunc[[]int,int] -/
def e348r0 : EE := .q 2 .len [.s 0] none <|
 .x 4 (.call 373) [.s 0, .r 2, .s 1] none [] <|
 .out []
def e348 : EFn := ⟨(.reg e348r0 [0, 1] 0), [], 9, 0⟩
theorem g348 : Good Tryz.prog 348 e348 := ⟨Tryz.f348, Tryz.func348, by kernel_rfl, by kernel_rfl, by kernel_rfl, by kernel_rfl⟩
/-! slices.insertionSortCmpFunc[concord/api.Inst] -/
def e351r0 : EE := .q 1 .add [.s 1, .c (.int .i64 1)] none <|
 .out [(0, .s 0), (1, .s 1), (2, .s 2), (3, .s 3), (8, .r 1)]
def e351r1 : EE := .q 2 .lss [.s 8, .s 2] none <|
 .out [(0, .s 0), (1, .s 1), (2, .s 2), (3, .s 3), (8, .s 8), (14, .r 2)]
def e351r2 : EE := .out [(0, .s 0), (1, .s 1), (2, .s 2), (3, .s 3), (8, .s 8), (9, .s 8)]
def e351r3 : EE := .q 2 .gtr [.s 9, .s 1] none <|
 .q 4 .mv [.s 3] (some (.r 2, true)) <|
 .q 5 .mv [.s 0] (some (.r 2, true)) <|
 .q 6 .mv [.s 9] (some (.r 2, true)) <|
 .q 7 (.ixs 2) [.r 5, .r 6] (some (.r 2, true)) <|
 .q 8 (.lda 2) [.r 7] (some (.r 2, true)) <|
 .q 9 .mv [.s 0] (some (.r 2, true)) <|
 .q 10 .mv [.s 9] (some (.r 2, true)) <|
 .q 11 .sub [.r 10, .c (.int .i64 1)] (some (.r 2, true)) <|
 .q 12 (.ixs 2) [.r 9, .r 11] (some (.r 2, true)) <|
 .q 13 (.lda 2) [.r 12] (some (.r 2, true)) <|
 .x 14 .callv [.r 4, .r 8, .r 13] (some (.r 2, true)) [] <|
 .q 15 .lss [.r 14, .c z] (some (.r 2, true)) <|
 .q 16 .pick [.r 2, .r 15, .c (.bool false)] none <|
 .out [(0, .s 0), (1, .s 1), (2, .s 2), (3, .s 3), (8, .s 8), (9, .s 9), (34, .r 16)]
def e351r4 : EE := .q 4 .sub [.s 9, .c (.int .i64 1)] none <|
 .q 7 .sub [.s 9, .c (.int .i64 1)] none <|
 .q 8 (.ixs 2) [.s 0, .r 7] none <|
 .q 9 (.lda 2) [.r 8] none <|
 .q 12 (.ixs 2) [.s 0, .s 9] none <|
 .q 13 (.lda 2) [.r 12] none <|
 .q 14 (.ixs 2) [.s 0, .s 9] none <|
 .x 15 (.st 2) [.r 14, .r 9] none [] <|
 .q 16 (.ixs 2) [.s 0, .r 4] none <|
 .x 17 (.st 2) [.r 16, .r 13] none [] <|
 .out [(0, .s 0), (1, .s 1), (2, .s 2), (3, .s 3), (8, .s 8), (9, .s 9)]
def e351r5 : EE := .q 1 .sub [.s 9, .c (.int .i64 1)] none <|
 .out [(0, .s 0), (1, .s 1), (2, .s 2), (3, .s 3), (8, .s 8), (9, .r 1)]
def e351l6 : EC := (.seq (.seq (.reg e351r3 [0, 1, 2, 3, 8, 9] 0) (.cond (.s 34) .skip (.exit 2))) (.seq (.block 3 (.reg e351r4 [0, 1, 2, 3, 8, 9] 0)) (.reg e351r5 [0, 1, 2, 3, 8, 9] 0)))
def e351r7 : EE := .q 1 .add [.s 8, .c (.int .i64 1)] none <|
 .out [(0, .s 0), (1, .s 1), (2, .s 2), (3, .s 3), (8, .r 1)]
def e351l8 : EC := (.seq (.seq (.reg e351r1 [0, 1, 2, 3, 8] 0) (.cond (.s 14) .skip (.exit 0))) (.seq (.block 1 (.seq (.reg e351r2 [0, 1, 2, 3, 8] 0) (.block 2 (.loop [0, 1, 2, 3, 8, 9] e351l6)))) (.reg e351r7 [0, 1, 2, 3, 8] 0)))
def e351 : EFn := ⟨(.seq (.reg e351r0 [0, 1, 2, 3] 0) (.block 0 (.loop [0, 1, 2, 3, 8] e351l8))), [], 53, 0⟩
theorem g351 : Good Tryz.prog 351 e351 := ⟨Tryz.f351, Tryz.func351, by kernel_rfl, by kernel_rfl, by kernel_rfl, by kernel_rfl⟩
/-! (*concord/graph.walk).from -/
def e371r0 : EE := .x 2 (.call 385) [.s 0, .s 1] none [] <|
 .x 3 (.bsl 491 1 [z, z] [(0, 2)]) [.r 2] none [] <|
 .out [(0, .s 0), (4, .r 3)]
def e371r1 : EE := .q 1 .len [.s 4] none <|
 .q 2 .gtr [.r 1, .c z] none <|
 .out [(0, .s 0), (4, .s 4), (15, .r 2)]
def e371r2 : EE := .q 2 .len [.s 4] none <|
 .q 3 .sub [.r 2, .c (.int .i64 1)] none <|
 .q 4 (.ixs 2) [.s 4, .r 3] none <|
 .out [(0, .s 0), (4, .s 4), (5, .r 4)]
def e371r3 : EE := .q 1 .nl [.s 5] none <|
 .q 2 (.fld 1) [.r 1] none <|
 .q 3 .ld [.r 2] none <|
 .q 5 .nl [.s 0] none <|
 .q 6 (.fld 0) [.r 5] none <|
 .q 7 .ld [.r 6] none <|
 .q 9 .nl [.s 5] none <|
 .q 10 (.fld 0) [.r 9] none <|
 .q 11 .ld [.r 10] none <|
 .q 12 (.ixs 1) [.r 7, .r 11] none <|
 .q 13 .ld [.r 12] none <|
 .q 14 .len [.r 13] none <|
 .q 15 .eql [.r 3, .r 14] none <|
 .out [(0, .s 0), (4, .s 4), (5, .s 5), (36, .r 15)]
def e371r4 : EE := .q 1 .nl [.s 5] none <|
 .q 2 (.fld 0) [.r 1] none <|
 .q 3 .ld [.r 2] none <|
 .out [(0, .s 0), (4, .s 4), (6, .r 3)]
def e371r5 : EE := .x 2 (.call 386) [.s 0, .s 6] none [] <|
 .out [(0, .s 0), (4, .s 4), (6, .s 6)]
def e371r6 : EE := .q 2 .len [.s 4] none <|
 .q 3 .sub [.r 2, .c (.int .i64 1)] none <|
 .q 4 (.slc 2 false true) [.s 4, .r 3] none <|
 .out [(0, .s 0), (4, .r 4), (6, .s 6)]
def e371r7 : EE := .q 1 .len [.s 4] none <|
 .q 2 .gtr [.r 1, .c z] none <|
 .out [(0, .s 0), (4, .s 4), (6, .s 6), (51, .r 2)]
def e371r8 : EE := .q 2 .len [.s 4] none <|
 .q 3 .sub [.r 2, .c (.int .i64 1)] none <|
 .q 4 (.ixs 2) [.s 4, .r 3] none <|
 .q 5 (.fld 0) [.r 4] none <|
 .q 6 .ld [.r 5] none <|
 .out [(0, .s 0), (4, .s 4), (6, .s 6), (7, .r 6)]
def e371r9 : EE := .q 1 .nl [.s 0] none <|
 .q 2 (.fld 2) [.r 1] none <|
 .q 3 .ld [.r 2] none <|
 .q 6 .nl [.s 0] none <|
 .q 7 (.fld 2) [.r 6] none <|
 .q 8 .ld [.r 7] none <|
 .q 10 (.ixs 1) [.r 8, .s 7] none <|
 .q 11 .ld [.r 10] none <|
 .q 13 .nl [.s 0] none <|
 .q 14 (.fld 2) [.r 13] none <|
 .q 15 .ld [.r 14] none <|
 .q 17 (.ixs 1) [.r 15, .s 6] none <|
 .q 18 .ld [.r 17] none <|
 .q 19 .mn [.r 11, .r 18] none <|
 .q 20 (.ixs 1) [.r 3, .s 7] none <|
 .x 21 (.st 1) [.r 20, .r 19] none [] <|
 .out [(0, .s 0), (4, .s 4)]
def e371r10 : EE := .q 1 .nl [.s 0] none <|
 .q 2 (.fld 0) [.r 1] none <|
 .q 3 .ld [.r 2] none <|
 .q 5 .nl [.s 5] none <|
 .q 6 (.fld 0) [.r 5] none <|
 .q 7 .ld [.r 6] none <|
 .q 8 (.ixs 1) [.r 3, .r 7] none <|
 .q 9 .ld [.r 8] none <|
 .q 11 .nl [.s 5] none <|
 .q 12 (.fld 1) [.r 11] none <|
 .q 13 .ld [.r 12] none <|
 .q 14 (.ixs 1) [.r 9, .r 13] none <|
 .q 15 .ld [.r 14] none <|
 .out [(0, .s 0), (4, .s 4), (5, .s 5), (8, .r 15)]
def e371r11 : EE := .q 1 .nl [.s 5] none <|
 .q 2 (.fld 1) [.r 1] none <|
 .q 3 .ld [.r 2] none <|
 .q 4 .add [.r 3, .c (.int .i64 1)] none <|
 .q 5 .nl [.s 5] none <|
 .q 6 (.fld 1) [.r 5] none <|
 .x 7 (.st 1) [.r 6, .r 4] none [] <|
 .out [(0, .s 0), (4, .s 4), (5, .s 5), (8, .s 8)]
def e371r12 : EE := .q 1 .lss [.s 8, .c z] none <|
 .q 3 .mv [.s 8] (some (.r 1, false)) <|
 .q 4 .mv [.s 0] (some (.r 1, false)) <|
 .q 5 .nl [.r 4] (some (.r 1, false)) <|
 .q 6 (.fld 0) [.r 5] (some (.r 1, false)) <|
 .q 7 .ld [.r 6] (some (.r 1, false)) <|
 .q 8 .len [.r 7] (some (.r 1, false)) <|
 .q 9 .geq [.r 3, .r 8] (some (.r 1, false)) <|
 .q 10 .pick [.r 1, .c (.bool true), .r 9] none <|
 .out [(0, .s 0), (4, .s 4), (5, .s 5), (8, .s 8), (103, .r 10)]
def e371r13 : EE := .q 1 .nl [.s 0] none <|
 .q 2 (.fld 1) [.r 1] none <|
 .q 3 .ld [.r 2] none <|
 .q 5 (.ixs 1) [.r 3, .s 8] none <|
 .q 6 .ld [.r 5] none <|
 .q 7 .eql [.r 6, .c z] none <|
 .out [(0, .s 0), (4, .s 4), (5, .s 5), (8, .s 8), (115, .r 7)]
def e371r14 : EE := .x 3 (.call 385) [.s 0, .s 8] none [] <|
 .x 4 (.bsl 491 1 [z, z] [(0, 2)]) [.r 3] none [] <|
 .x 5 (.app 491 2 16 [z, z]) [.s 4, .r 4] none [] <|
 .out [(0, .s 0), (4, .r 5)]
def e371r15 : EE := .q 1 .nl [.s 0] none <|
 .q 2 (.fld 3) [.r 1] none <|
 .q 3 .ld [.r 2] none <|
 .q 5 (.ixs 1) [.r 3, .s 8] none <|
 .q 6 .ld [.r 5] none <|
 .out [(0, .s 0), (4, .s 4), (5, .s 5), (8, .s 8), (130, .r 6)]
def e371r16 : EE := .q 1 .nl [.s 0] none <|
 .q 2 (.fld 2) [.r 1] none <|
 .q 3 .ld [.r 2] none <|
 .q 5 .nl [.s 5] none <|
 .q 6 (.fld 0) [.r 5] none <|
 .q 7 .ld [.r 6] none <|
 .q 9 .nl [.s 0] none <|
 .q 10 (.fld 2) [.r 9] none <|
 .q 11 .ld [.r 10] none <|
 .q 13 .nl [.s 5] none <|
 .q 14 (.fld 0) [.r 13] none <|
 .q 15 .ld [.r 14] none <|
 .q 16 (.ixs 1) [.r 11, .r 15] none <|
 .q 17 .ld [.r 16] none <|
 .q 19 .nl [.s 0] none <|
 .q 20 (.fld 1) [.r 19] none <|
 .q 21 .ld [.r 20] none <|
 .q 23 (.ixs 1) [.r 21, .s 8] none <|
 .q 24 .ld [.r 23] none <|
 .q 25 .mn [.r 17, .r 24] none <|
 .q 26 (.ixs 1) [.r 3, .r 7] none <|
 .x 27 (.st 1) [.r 26, .r 25] none [] <|
 .out [(0, .s 0), (4, .s 4)]
def e371l17 : EC := (.seq (.seq (.reg e371r1 [0, 4] 0) (.cond (.s 15) .skip (.exit 0))) (.block 1 (.seq (.reg e371r2 [0, 4] 0) (.seq (.seq (.reg e371r3 [0, 4, 5] 0) (.cond (.s 36) (.seq (.reg e371r4 [0, 4, 5] 0) (.seq (.reg e371r5 [0, 4, 6] 0) (.seq (.reg e371r6 [0, 4, 6] 0) (.seq (.seq (.reg e371r7 [0, 4, 6] 0) (.cond (.s 51) (.seq (.reg e371r8 [0, 4, 6] 0) (.reg e371r9 [0, 4, 6, 7] 0)) .skip)) (.exit 1))))) .skip)) (.seq (.reg e371r10 [0, 4, 5] 0) (.seq (.reg e371r11 [0, 4, 5, 8] 0) (.block 2 (.seq (.reg e371r12 [0, 4, 5, 8] 0) (.cond (.s 103) .skip (.seq (.reg e371r13 [0, 4, 5, 8] 0) (.cond (.s 115) (.reg e371r14 [0, 4, 8] 0) (.seq (.reg e371r15 [0, 4, 5, 8] 0) (.cond (.s 130) (.reg e371r16 [0, 4, 5, 8] 0) .skip)))))))))))))
def e371 : EFn := ⟨(.seq (.reg e371r0 [0, 1] 0) (.block 0 (.loop [0, 4] e371l17))), [], 165, 0⟩
theorem g371 : Good Tryz.prog 371 e371 := ⟨Tryz.f371, Tryz.func371, by kernel_rfl, by kernel_rfl, by kernel_rfl, by kernel_rfl⟩
/-! concord/graph.order -/
def e372r0 : EE := .out [(0, .s 0), (1, .s 1), (2, .s 2)]
def e372r1 : EE := .q 1 .len [.s 2] none <|
 .x 2 (.mks 3 8 [z]) [.r 1, .r 1] none [] <|
 .out [(0, .s 0), (1, .s 1), (2, .s 2), (7, .r 2)]
def e372r2 : EE := .q 1 .len [.s 2] none <|
 .x 2 (.mks 68 24 [.nsl]) [.r 1, .r 1] none [] <|
 .out [(0, .s 0), (1, .s 1), (2, .s 2), (7, .s 7), (8, .r 2)]
def e372r3 : EE := .q 1 .len [.s 0] none <|
 .out [(0, .s 0), (1, .s 1), (2, .s 2), (7, .s 7), (8, .s 8), (25, .s 0), (26, .r 1), (27, .c z)]
def e372r4 : EE := .q 0 .lss [.s 27, .s 26] none <|
 .out [(0, .s 0), (1, .s 1), (2, .s 2), (7, .s 7), (8, .s 8), (25, .s 25), (26, .s 26), (27, .s 27), (28, .r 0)]
def e372r5 : EE := .q 1 (.ixs 1) [.s 25, .s 27] none <|
 .q 2 .ld [.r 1] none <|
 .out [(0, .s 0), (1, .s 1), (2, .s 2), (7, .s 7), (8, .s 8), (9, .s 27), (10, .r 2), (25, .s 25), (26, .s 26), (27, .s 27)]
def e372r6 : EE := .q 1 .len [.s 10] none <|
 .out [(0, .s 0), (1, .s 1), (2, .s 2), (7, .s 7), (8, .s 8), (9, .s 9), (25, .s 25), (26, .s 26), (27, .s 27), (32, .s 10), (33, .r 1), (34, .c z)]
def e372r7 : EE := .q 0 .lss [.s 34, .s 33] none <|
 .out [(0, .s 0), (1, .s 1), (2, .s 2), (7, .s 7), (8, .s 8), (9, .s 9), (25, .s 25), (26, .s 26), (27, .s 27), (32, .s 32), (33, .s 33), (34, .s 34), (35, .r 0)]
def e372r8 : EE := .q 0 (.ixs 1) [.s 32, .s 34] none <|
 .q 1 .ld [.r 0] none <|
 .out [(0, .s 0), (1, .s 1), (2, .s 2), (7, .s 7), (8, .s 8), (9, .s 9), (12, .r 1), (25, .s 25), (26, .s 26), (27, .s 27), (32, .s 32), (33, .s 33), (34, .s 34)]
def e372r9 : EE := .q 1 .geq [.s 12, .c z] none <|
 .q 3 .mv [.s 12] (some (.r 1, true)) <|
 .q 4 .mv [.s 0] (some (.r 1, true)) <|
 .q 5 .len [.r 4] (some (.r 1, true)) <|
 .q 6 .lss [.r 3, .r 5] (some (.r 1, true)) <|
 .q 7 .pick [.r 1, .r 6, .c (.bool false)] none <|
 .q 9 .mv [.s 1] (some (.r 7, true)) <|
 .q 10 .mv [.s 12] (some (.r 7, true)) <|
 .q 11 (.ixs 1) [.r 9, .r 10] (some (.r 7, true)) <|
 .q 12 .ld [.r 11] (some (.r 7, true)) <|
 .q 13 .mv [.s 1] (some (.r 7, true)) <|
 .q 14 .mv [.s 9] (some (.r 7, true)) <|
 .q 15 (.ixs 1) [.r 13, .r 14] (some (.r 7, true)) <|
 .q 16 .ld [.r 15] (some (.r 7, true)) <|
 .q 17 .neq [.r 12, .r 16] (some (.r 7, true)) <|
 .q 18 .pick [.r 7, .r 17, .c (.bool false)] none <|
 .out [(0, .s 0), (1, .s 1), (2, .s 2), (7, .s 7), (8, .s 8), (9, .s 9), (12, .s 12), (25, .s 25), (26, .s 26), (27, .s 27), (32, .s 32), (33, .s 33), (34, .s 34), (56, .r 18)]
def e372r10 : EE := .q 3 (.ixs 1) [.s 1, .s 9] none <|
 .q 4 .ld [.r 3] none <|
 .q 5 (.ixs 1) [.s 7, .r 4] none <|
 .q 6 .ld [.r 5] none <|
 .q 7 .add [.r 6, .c (.int .i64 1)] none <|
 .q 8 (.ixs 1) [.s 7, .r 4] none <|
 .x 9 (.st 1) [.r 8, .r 7] none [] <|
 .out [(0, .s 0), (1, .s 1), (2, .s 2), (7, .s 7), (8, .s 8), (9, .s 9), (12, .s 12), (25, .s 25), (26, .s 26), (27, .s 27), (32, .s 32), (33, .s 33), (34, .s 34)]
def e372r11 : EE := .q 3 (.ixs 1) [.s 1, .s 12] none <|
 .q 4 .ld [.r 3] none <|
 .q 8 (.ixs 1) [.s 1, .s 12] none <|
 .q 9 .ld [.r 8] none <|
 .q 10 (.ixs 1) [.s 8, .r 9] none <|
 .q 11 .ld [.r 10] none <|
 .q 14 (.ixs 1) [.s 1, .s 9] none <|
 .q 15 .ld [.r 14] none <|
 .x 16 (.bsl 3 1 [z] [(0, 1)]) [.r 15] none [⟨4, .ld, [.r 3], none⟩, ⟨9, .ld, [.r 8], none⟩, ⟨11, .ld, [.r 10], none⟩] <|
 .x 17 (.app 3 1 8 [z]) [.r 11, .r 16] none [⟨4, .ld, [.r 3], none⟩] <|
 .q 18 (.ixs 1) [.s 8, .r 4] none <|
 .x 19 (.st 1) [.r 18, .r 17] none [] <|
 .out [(0, .s 0), (1, .s 1), (2, .s 2), (7, .s 7), (8, .s 8), (9, .s 9), (25, .s 25), (26, .s 26), (27, .s 27), (32, .s 32), (33, .s 33), (34, .s 34)]
def e372r12 : EE := .q 0 .add [.s 34, .c (.int .i64 1)] none <|
 .out [(0, .s 0), (1, .s 1), (2, .s 2), (7, .s 7), (8, .s 8), (9, .s 9), (25, .s 25), (26, .s 26), (27, .s 27), (32, .s 32), (33, .s 33), (34, .r 0)]
def e372l13 : EC := (.seq (.reg e372r7 [0, 1, 2, 7, 8, 9, 25, 26, 27, 32, 33, 34] 0) (.seq (.cond (.s 35) .skip (.exit 2)) (.seq (.block 3 (.seq (.reg e372r8 [0, 1, 2, 7, 8, 9, 25, 26, 27, 32, 33, 34] 0) (.seq (.reg e372r9 [0, 1, 2, 7, 8, 9, 12, 25, 26, 27, 32, 33, 34] 0) (.cond (.s 56) (.seq (.reg e372r10 [0, 1, 2, 7, 8, 9, 12, 25, 26, 27, 32, 33, 34] 0) (.reg e372r11 [0, 1, 2, 7, 8, 9, 12, 25, 26, 27, 32, 33, 34] 0)) .skip)))) (.reg e372r12 [0, 1, 2, 7, 8, 9, 25, 26, 27, 32, 33, 34] 0))))
def e372r14 : EE := .q 0 .add [.s 27, .c (.int .i64 1)] none <|
 .out [(0, .s 0), (1, .s 1), (2, .s 2), (7, .s 7), (8, .s 8), (25, .s 25), (26, .s 26), (27, .r 0)]
def e372l15 : EC := (.seq (.reg e372r4 [0, 1, 2, 7, 8, 25, 26, 27] 0) (.seq (.cond (.s 28) .skip (.exit 0)) (.seq (.block 1 (.seq (.reg e372r5 [0, 1, 2, 7, 8, 25, 26, 27] 0) (.seq (.reg e372r6 [0, 1, 2, 7, 8, 9, 10, 25, 26, 27] 0) (.block 2 (.loop [0, 1, 2, 7, 8, 9, 25, 26, 27, 32, 33, 34] e372l13))))) (.reg e372r14 [0, 1, 2, 7, 8, 25, 26, 27] 0))))
def e372r16 : EE := .q 1 .len [.s 2] none <|
 .x 2 (.mks 3 8 [z]) [.r 1, .r 1] none [] <|
 .out [(2, .s 2), (7, .s 7), (8, .s 8), (13, .r 2)]
def e372r17 : EE := .out [(2, .s 2), (7, .s 7), (8, .s 8), (13, .s 13), (14, .c .nsl)]
def e372r18 : EE := .q 1 .len [.s 14] none <|
 .q 3 .len [.s 2] none <|
 .q 4 .lss [.r 1, .r 3] none <|
 .out [(2, .s 2), (7, .s 7), (8, .s 8), (13, .s 13), (14, .s 14), (94, .r 4)]
def e372r19 : EE := .out [(2, .s 2), (7, .s 7), (8, .s 8), (13, .s 13), (14, .s 14), (15, .c (.int .i64 (-1)))]
def e372r20 : EE := .q 1 .len [.s 2] none <|
 .out [(2, .s 2), (7, .s 7), (8, .s 8), (13, .s 13), (14, .s 14), (15, .s 15), (96, .r 1), (97, .c z)]
def e372r21 : EE := .q 0 .lss [.s 97, .s 96] none <|
 .out [(2, .s 2), (7, .s 7), (8, .s 8), (13, .s 13), (14, .s 14), (15, .s 15), (96, .s 96), (97, .s 97), (98, .r 0)]
def e372r22 : EE := .out [(2, .s 2), (7, .s 7), (8, .s 8), (13, .s 13), (14, .s 14), (15, .s 15), (16, .s 97), (96, .s 96), (97, .s 97)]
def e372r23 : EE := .q 2 (.ixs 1) [.s 13, .s 16] none <|
 .q 3 .ld [.r 2] none <|
 .q 4 .eql [.r 3, .c z] none <|
 .q 6 .mv [.s 7] (some (.r 4, true)) <|
 .q 7 .mv [.s 16] (some (.r 4, true)) <|
 .q 8 (.ixs 1) [.r 6, .r 7] (some (.r 4, true)) <|
 .q 9 .ld [.r 8] (some (.r 4, true)) <|
 .q 10 .eql [.r 9, .c z] (some (.r 4, true)) <|
 .q 11 .pick [.r 4, .r 10, .c (.bool false)] none <|
 .q 13 .mv [.s 15] (some (.r 11, true)) <|
 .q 14 .lss [.r 13, .c z] (some (.r 11, true)) <|
 .q 15 .mv [.r 14] (some (.r 11, true)) <|
 .q 16 .mv [.s 2] (some (.r 15, false)) <|
 .q 17 .mv [.s 16] (some (.r 15, false)) <|
 .q 18 (.ixs 1) [.r 16, .r 17] (some (.r 15, false)) <|
 .q 19 .ld [.r 18] (some (.r 15, false)) <|
 .q 20 (.ixs 1) [.r 19, .c z] (some (.r 15, false)) <|
 .q 21 .ld [.r 20] (some (.r 15, false)) <|
 .q 22 .mv [.s 2] (some (.r 15, false)) <|
 .q 23 .mv [.s 15] (some (.r 15, false)) <|
 .q 24 (.ixs 1) [.r 22, .r 23] (some (.r 15, false)) <|
 .q 25 .ld [.r 24] (some (.r 15, false)) <|
 .q 26 (.ixs 1) [.r 25, .c z] (some (.r 15, false)) <|
 .q 27 .ld [.r 26] (some (.r 15, false)) <|
 .q 28 .lss [.r 21, .r 27] (some (.r 15, false)) <|
 .q 29 .pick [.r 15, .c (.bool true), .r 28] (some (.r 11, true)) <|
 .q 30 .pick [.r 11, .r 29, .c (.bool false)] none <|
 .out [(2, .s 2), (7, .s 7), (8, .s 8), (13, .s 13), (14, .s 14), (15, .s 15), (16, .s 16), (96, .s 96), (97, .s 97), (130, .r 30)]
def e372r24 : EE := .out [(2, .s 2), (7, .s 7), (8, .s 8), (13, .s 13), (14, .s 14), (15, .s 16), (96, .s 96), (97, .s 97)]
def e372r25 : EE := .q 0 .add [.s 97, .c (.int .i64 1)] none <|
 .out [(2, .s 2), (7, .s 7), (8, .s 8), (13, .s 13), (14, .s 14), (15, .s 15), (96, .s 96), (97, .r 0)]
def e372l26 : EC := (.seq (.reg e372r21 [2, 7, 8, 13, 14, 15, 96, 97] 0) (.seq (.cond (.s 98) .skip (.exit 6)) (.seq (.block 7 (.seq (.reg e372r22 [2, 7, 8, 13, 14, 15, 96, 97] 0) (.seq (.reg e372r23 [2, 7, 8, 13, 14, 15, 16, 96, 97] 0) (.cond (.s 130) (.reg e372r24 [2, 7, 8, 13, 14, 16, 96, 97] 0) .skip)))) (.reg e372r25 [2, 7, 8, 13, 14, 15, 96, 97] 0))))
def e372r27 : EE := .q 2 (.ixs 1) [.s 13, .s 15] none <|
 .x 3 (.st 1) [.r 2, .c (.int .i64 1)] none [] <|
 .out [(2, .s 2), (7, .s 7), (8, .s 8), (13, .s 13), (14, .s 14), (15, .s 15)]
def e372r28 : EE := .q 3 (.ixs 1) [.s 2, .s 15] none <|
 .q 4 .ld [.r 3] none <|
 .x 5 (.bsl 68 1 [.nsl] [(0, 1)]) [.r 4] none [] <|
 .x 6 (.app 68 1 24 [.nsl]) [.s 14, .r 5] none [] <|
 .out [(2, .s 2), (7, .s 7), (8, .s 8), (13, .s 13), (14, .r 6), (15, .s 15)]
def e372r29 : EE := .q 2 (.ixs 1) [.s 8, .s 15] none <|
 .q 3 .ld [.r 2] none <|
 .q 4 .len [.r 3] none <|
 .out [(2, .s 2), (7, .s 7), (8, .s 8), (13, .s 13), (14, .s 14), (146, .r 3), (147, .r 4), (148, .c z)]
def e372r30 : EE := .q 0 .lss [.s 148, .s 147] none <|
 .out [(2, .s 2), (7, .s 7), (8, .s 8), (13, .s 13), (14, .s 14), (146, .s 146), (147, .s 147), (148, .s 148), (149, .r 0)]
def e372r31 : EE := .q 0 (.ixs 1) [.s 146, .s 148] none <|
 .q 1 .ld [.r 0] none <|
 .out [(2, .s 2), (7, .s 7), (8, .s 8), (13, .s 13), (14, .s 14), (18, .r 1), (146, .s 146), (147, .s 147), (148, .s 148)]
def e372r32 : EE := .q 2 (.ixs 1) [.s 7, .s 18] none <|
 .q 3 .ld [.r 2] none <|
 .q 4 .sub [.r 3, .c (.int .i64 1)] none <|
 .q 5 (.ixs 1) [.s 7, .s 18] none <|
 .x 6 (.st 1) [.r 5, .r 4] none [] <|
 .out [(2, .s 2), (7, .s 7), (8, .s 8), (13, .s 13), (14, .s 14), (146, .s 146), (147, .s 147), (148, .s 148)]
def e372r33 : EE := .q 0 .add [.s 148, .c (.int .i64 1)] none <|
 .out [(2, .s 2), (7, .s 7), (8, .s 8), (13, .s 13), (14, .s 14), (146, .s 146), (147, .s 147), (148, .r 0)]
def e372l34 : EC := (.seq (.reg e372r30 [2, 7, 8, 13, 14, 146, 147, 148] 0) (.seq (.cond (.s 149) .skip (.exit 8)) (.seq (.block 9 (.seq (.reg e372r31 [2, 7, 8, 13, 14, 146, 147, 148] 0) (.reg e372r32 [2, 7, 8, 13, 14, 18, 146, 147, 148] 0))) (.reg e372r33 [2, 7, 8, 13, 14, 146, 147, 148] 0))))
def e372l35 : EC := (.seq (.seq (.reg e372r18 [2, 7, 8, 13, 14] 0) (.cond (.s 94) .skip (.exit 4))) (.block 5 (.seq (.reg e372r19 [2, 7, 8, 13, 14] 0) (.seq (.seq (.reg e372r20 [2, 7, 8, 13, 14, 15] 0) (.block 6 (.loop [2, 7, 8, 13, 14, 15, 96, 97] e372l26))) (.seq (.reg e372r27 [2, 7, 8, 13, 14, 15] 0) (.seq (.reg e372r28 [2, 7, 8, 13, 14, 15] 0) (.seq (.reg e372r29 [2, 7, 8, 13, 14, 15] 0) (.block 8 (.loop [2, 7, 8, 13, 14, 146, 147, 148] e372l34)))))))))
def e372r36 : EE := .out [(6, .s 14)]
def e372 : EFn := ⟨(.seq (.reg e372r0 [0, 1, 2] 0) (.seq (.reg e372r1 [0, 1, 2] 0) (.seq (.reg e372r2 [0, 1, 2, 7] 0) (.seq (.seq (.reg e372r3 [0, 1, 2, 7, 8] 0) (.block 0 (.loop [0, 1, 2, 7, 8, 25, 26, 27] e372l15))) (.seq (.reg e372r16 [2, 7, 8] 0) (.seq (.reg e372r17 [2, 7, 8, 13] 0) (.seq (.block 4 (.loop [2, 7, 8, 13, 14] e372l35)) (.seq (.reg e372r36 [14] 0) .ret)))))))), [.slot 6], 160, 0⟩
theorem g372 : Good Tryz.prog 372 e372 := ⟨Tryz.f372, Tryz.func372, by kernel_rfl, by kernel_rfl, by kernel_rfl, by kernel_rfl⟩
/-! slices.stableCmpFunc[int] -/
def e373r0 : EE := .out [(0, .s 0), (1, .s 1), (2, .s 2), (6, .c (.int .i64 20))]
def e373r1 : EE := .out [(0, .s 0), (1, .s 1), (2, .s 2), (6, .s 6), (7, .c z), (8, .s 6)]
def e373r2 : EE := .q 2 .leq [.s 8, .s 1] none <|
 .out [(0, .s 0), (1, .s 1), (2, .s 2), (6, .s 6), (7, .s 7), (8, .s 8), (13, .r 2)]
def e373r3 : EE := .x 4 (.call 387) [.s 0, .s 7, .s 8, .s 2] none [] <|
 .out [(0, .s 0), (1, .s 1), (2, .s 2), (6, .s 6), (8, .s 8)]
def e373r4 : EE := .out [(0, .s 0), (1, .s 1), (2, .s 2), (6, .s 6), (7, .s 8), (8, .s 8)]
def e373r5 : EE := .q 2 .add [.s 8, .s 6] none <|
 .out [(0, .s 0), (1, .s 1), (2, .s 2), (6, .s 6), (7, .s 7), (8, .r 2)]
def e373l6 : EC := (.seq (.seq (.reg e373r2 [0, 1, 2, 6, 7, 8] 0) (.cond (.s 13) .skip (.exit 0))) (.block 1 (.seq (.reg e373r3 [0, 1, 2, 6, 7, 8] 0) (.seq (.reg e373r4 [0, 1, 2, 6, 8] 0) (.reg e373r5 [0, 1, 2, 6, 7, 8] 0)))))
def e373r7 : EE := .x 4 (.call 387) [.s 0, .s 7, .s 1, .s 2] none [] <|
 .out [(0, .s 0), (1, .s 1), (2, .s 2), (6, .s 6)]
def e373r8 : EE := .q 2 .lss [.s 6, .s 1] none <|
 .out [(0, .s 0), (1, .s 1), (2, .s 2), (6, .s 6), (30, .r 2)]
def e373r9 : EE := .q 1 .mul [.c (.int .i64 2), .s 6] none <|
 .out [(0, .s 0), (1, .s 1), (2, .s 2), (6, .s 6), (7, .c z), (8, .r 1)]
def e373r10 : EE := .q 2 .leq [.s 8, .s 1] none <|
 .out [(0, .s 0), (1, .s 1), (2, .s 2), (6, .s 6), (7, .s 7), (8, .s 8), (35, .r 2)]
def e373r11 : EE := .q 4 .add [.s 7, .s 6] none <|
 .x 7 (.call 388) [.s 0, .s 7, .r 4, .s 8, .s 2] none [] <|
 .out [(0, .s 0), (1, .s 1), (2, .s 2), (6, .s 6), (8, .s 8)]
def e373r12 : EE := .out [(0, .s 0), (1, .s 1), (2, .s 2), (6, .s 6), (7, .s 8), (8, .s 8)]
def e373r13 : EE := .q 2 .mul [.c (.int .i64 2), .s 6] none <|
 .q 3 .add [.s 8, .r 2] none <|
 .out [(0, .s 0), (1, .s 1), (2, .s 2), (6, .s 6), (7, .s 7), (8, .r 3)]
def e373l14 : EC := (.seq (.seq (.reg e373r10 [0, 1, 2, 6, 7, 8] 0) (.cond (.s 35) .skip (.exit 4))) (.block 5 (.seq (.reg e373r11 [0, 1, 2, 6, 7, 8] 0) (.seq (.reg e373r12 [0, 1, 2, 6, 8] 0) (.reg e373r13 [0, 1, 2, 6, 7, 8] 0)))))
def e373r15 : EE := .q 2 .add [.s 7, .s 6] none <|
 .out [(0, .s 0), (1, .s 1), (2, .s 2), (6, .s 6), (7, .s 7), (9, .r 2)]
def e373r16 : EE := .q 2 .lss [.s 9, .s 1] none <|
 .out [(0, .s 0), (1, .s 1), (2, .s 2), (6, .s 6), (7, .s 7), (9, .s 9), (54, .r 2)]
def e373r17 : EE := .x 5 (.call 388) [.s 0, .s 7, .s 9, .s 1, .s 2] none [] <|
 .out [(0, .s 0), (1, .s 1), (2, .s 2), (6, .s 6)]
def e373r18 : EE := .q 1 .mul [.s 6, .c (.int .i64 2)] none <|
 .out [(0, .s 0), (1, .s 1), (2, .s 2), (6, .r 1)]
def e373l19 : EC := (.seq (.seq (.reg e373r8 [0, 1, 2, 6] 0) (.cond (.s 30) .skip (.exit 2))) (.block 3 (.seq (.reg e373r9 [0, 1, 2, 6] 0) (.seq (.block 4 (.loop [0, 1, 2, 6, 7, 8] e373l14)) (.seq (.seq (.reg e373r15 [0, 1, 2, 6, 7] 0) (.seq (.reg e373r16 [0, 1, 2, 6, 7, 9] 0) (.cond (.s 54) (.reg e373r17 [0, 1, 2, 6, 7, 9] 0) .skip))) (.reg e373r18 [0, 1, 2, 6] 0))))))
def e373 : EFn := ⟨(.seq (.reg e373r0 [0, 1, 2] 0) (.seq (.reg e373r1 [0, 1, 2, 6] 0) (.seq (.block 0 (.loop [0, 1, 2, 6, 7, 8] e373l6)) (.seq (.reg e373r7 [0, 1, 2, 6, 7] 0) (.block 2 (.loop [0, 1, 2, 6] e373l19)))))), [], 63, 0⟩
theorem g373 : Good Tryz.prog 373 e373 := ⟨Tryz.f373, Tryz.func373, by kernel_rfl, by kernel_rfl, by kernel_rfl, by kernel_rfl⟩
/-! (*concord/graph.walk).come -/
def e385r0 : EE := .x 0 (.alc [z, z] 491) [] none [] <|
 .out [(0, .s 0), (1, .s 1), (4, .r 0)]
def e385r1 : EE := .q 1 .nl [.s 0] none <|
 .q 2 (.fld 7) [.r 1] none <|
 .q 3 .ld [.r 2] none <|
 .q 4 .add [.r 3, .c (.int .i64 1)] none <|
 .q 5 .nl [.s 0] none <|
 .q 6 (.fld 7) [.r 5] none <|
 .x 7 (.st 1) [.r 6, .r 4] none [] <|
 .out [(0, .s 0), (1, .s 1), (4, .s 4)]
def e385r2 : EE := .q 1 .nl [.s 0] none <|
 .q 2 (.fld 1) [.r 1] none <|
 .q 3 .ld [.r 2] none <|
 .q 6 .nl [.s 0] none <|
 .q 7 (.fld 2) [.r 6] none <|
 .q 8 .ld [.r 7] none <|
 .q 11 .nl [.s 0] none <|
 .q 12 (.fld 3) [.r 11] none <|
 .q 13 .ld [.r 12] none <|
 .q 16 .nl [.s 0] none <|
 .q 17 (.fld 7) [.r 16] none <|
 .q 18 .ld [.r 17] none <|
 .q 20 .nl [.s 0] none <|
 .q 21 (.fld 7) [.r 20] none <|
 .q 22 .ld [.r 21] none <|
 .q 23 (.ixs 1) [.r 3, .s 1] none <|
 .x 24 (.st 1) [.r 23, .r 18] none [] <|
 .q 25 (.ixs 1) [.r 8, .s 1] none <|
 .x 26 (.st 1) [.r 25, .r 22] none [] <|
 .q 27 (.ixs 1) [.r 13, .s 1] none <|
 .x 28 (.st 1) [.r 27, .c (.bool true)] none [] <|
 .out [(0, .s 0), (1, .s 1), (4, .s 4)]
def e385r3 : EE := .q 2 .nl [.s 0] none <|
 .q 3 (.fld 4) [.r 2] none <|
 .q 4 .ld [.r 3] none <|
 .x 6 (.bsl 3 1 [z] [(0, 1)]) [.s 1] none [] <|
 .x 7 (.app 3 1 8 [z]) [.r 4, .r 6] none [] <|
 .q 8 .nl [.s 0] none <|
 .q 9 (.fld 4) [.r 8] none <|
 .x 10 (.st 1) [.r 9, .r 7] none [] <|
 .out [(1, .s 1), (4, .s 4)]
def e385r4 : EE := .q 1 (.bld [z, z] [(0, 1), (1, 1)]) [.s 1, .c z] none <|
 .x 2 (.st 2) [.s 4, .r 1] none [] <|
 .out [(4, .s 4)]
def e385 : EFn := ⟨(.seq (.reg e385r0 [0, 1] 0) (.seq (.reg e385r1 [0, 1, 4] 0) (.seq (.reg e385r2 [0, 1, 4] 0) (.seq (.reg e385r3 [0, 1, 4] 0) (.seq (.reg e385r4 [1, 4] 0) .ret))))), [.cells 4 2], 50, 0⟩
theorem g385 : Good Tryz.prog 385 e385 := ⟨Tryz.f385, Tryz.func385, by kernel_rfl, by kernel_rfl, by kernel_rfl, by kernel_rfl⟩
/-! (*concord/graph.walk).leave -/
def e386r0 : EE := .q 1 .nl [.s 0] none <|
 .q 2 (.fld 2) [.r 1] none <|
 .q 3 .ld [.r 2] none <|
 .q 5 (.ixs 1) [.r 3, .s 1] none <|
 .q 6 .ld [.r 5] none <|
 .q 8 .nl [.s 0] none <|
 .q 9 (.fld 1) [.r 8] none <|
 .q 10 .ld [.r 9] none <|
 .q 12 (.ixs 1) [.r 10, .s 1] none <|
 .q 13 .ld [.r 12] none <|
 .q 14 .neq [.r 6, .r 13] none <|
 .out [(0, .s 0), (1, .s 1), (19, .r 14)]
def e386r1 : EE := .q 1 .nl [.s 0] none <|
 .q 2 (.fld 4) [.r 1] none <|
 .q 3 .ld [.r 2] none <|
 .q 5 .nl [.s 0] none <|
 .q 6 (.fld 4) [.r 5] none <|
 .q 7 .ld [.r 6] none <|
 .q 8 .len [.r 7] none <|
 .q 9 .sub [.r 8, .c (.int .i64 1)] none <|
 .q 10 (.ixs 1) [.r 3, .r 9] none <|
 .q 11 .ld [.r 10] none <|
 .out [(0, .s 0), (1, .s 1), (4, .r 11)]
def e386r2 : EE := .q 2 .nl [.s 0] none <|
 .q 3 (.fld 4) [.r 2] none <|
 .q 4 .ld [.r 3] none <|
 .q 6 .nl [.s 0] none <|
 .q 7 (.fld 4) [.r 6] none <|
 .q 8 .ld [.r 7] none <|
 .q 9 .len [.r 8] none <|
 .q 10 .sub [.r 9, .c (.int .i64 1)] none <|
 .q 11 (.slc 1 false true) [.r 4, .r 10] none <|
 .q 12 .nl [.s 0] none <|
 .q 13 (.fld 4) [.r 12] none <|
 .x 14 (.st 1) [.r 13, .r 11] none [] <|
 .out [(0, .s 0), (1, .s 1), (4, .s 4)]
def e386r3 : EE := .q 1 .nl [.s 0] none <|
 .q 2 (.fld 3) [.r 1] none <|
 .q 3 .ld [.r 2] none <|
 .q 6 .nl [.s 0] none <|
 .q 7 (.fld 5) [.r 6] none <|
 .q 8 .ld [.r 7] none <|
 .q 11 .nl [.s 0] none <|
 .q 12 (.fld 6) [.r 11] none <|
 .q 13 .ld [.r 12] none <|
 .q 14 (.ixs 1) [.r 3, .s 4] none <|
 .x 15 (.st 1) [.r 14, .c (.bool false)] none [] <|
 .q 16 (.ixs 1) [.r 8, .s 4] none <|
 .x 17 (.st 1) [.r 16, .r 13] none [] <|
 .out [(0, .s 0), (1, .s 1), (4, .s 4)]
def e386r4 : EE := .q 2 .eql [.s 4, .s 1] none <|
 .out [(0, .s 0), (1, .s 1), (64, .r 2)]
def e386l5 : EC := (.block 1 (.seq (.reg e386r1 [0, 1] 0) (.seq (.reg e386r2 [0, 1, 4] 0) (.seq (.reg e386r3 [0, 1, 4] 0) (.seq (.reg e386r4 [0, 1, 4] 0) (.cond (.s 64) (.exit 0) .skip))))))
def e386r6 : EE := .q 1 .nl [.s 0] none <|
 .q 2 (.fld 6) [.r 1] none <|
 .q 3 .ld [.r 2] none <|
 .q 4 .add [.r 3, .c (.int .i64 1)] none <|
 .q 5 .nl [.s 0] none <|
 .q 6 (.fld 6) [.r 5] none <|
 .x 7 (.st 1) [.r 6, .r 4] none [] <|
 .out []
def e386 : EFn := ⟨(.seq (.seq (.reg e386r0 [0, 1] 0) (.cond (.s 19) .ret .skip)) (.seq (.block 0 (.loop [0, 1] e386l5)) (.reg e386r6 [0] 0))), [], 72, 0⟩
theorem g386 : Good Tryz.prog 386 e386 := ⟨Tryz.f386, Tryz.func386, by kernel_rfl, by kernel_rfl, by kernel_rfl, by kernel_rfl⟩
/-! slices.insertionSortCmpFunc[int] -/
def e387r0 : EE := .q 1 .add [.s 1, .c (.int .i64 1)] none <|
 .out [(0, .s 0), (1, .s 1), (2, .s 2), (3, .s 3), (8, .r 1)]
def e387r1 : EE := .q 2 .lss [.s 8, .s 2] none <|
 .out [(0, .s 0), (1, .s 1), (2, .s 2), (3, .s 3), (8, .s 8), (14, .r 2)]
def e387r2 : EE := .out [(0, .s 0), (1, .s 1), (2, .s 2), (3, .s 3), (8, .s 8), (9, .s 8)]
def e387r3 : EE := .q 2 .gtr [.s 9, .s 1] none <|
 .q 4 .mv [.s 3] (some (.r 2, true)) <|
 .q 5 .mv [.s 0] (some (.r 2, true)) <|
 .q 6 .mv [.s 9] (some (.r 2, true)) <|
 .q 7 (.ixs 1) [.r 5, .r 6] (some (.r 2, true)) <|
 .q 8 .ld [.r 7] (some (.r 2, true)) <|
 .q 9 .mv [.s 0] (some (.r 2, true)) <|
 .q 10 .mv [.s 9] (some (.r 2, true)) <|
 .q 11 .sub [.r 10, .c (.int .i64 1)] (some (.r 2, true)) <|
 .q 12 (.ixs 1) [.r 9, .r 11] (some (.r 2, true)) <|
 .q 13 .ld [.r 12] (some (.r 2, true)) <|
 .x 14 .callv [.r 4, .r 8, .r 13] (some (.r 2, true)) [] <|
 .q 15 .lss [.r 14, .c z] (some (.r 2, true)) <|
 .q 16 .pick [.r 2, .r 15, .c (.bool false)] none <|
 .out [(0, .s 0), (1, .s 1), (2, .s 2), (3, .s 3), (8, .s 8), (9, .s 9), (34, .r 16)]
def e387r4 : EE := .q 4 .sub [.s 9, .c (.int .i64 1)] none <|
 .q 7 .sub [.s 9, .c (.int .i64 1)] none <|
 .q 8 (.ixs 1) [.s 0, .r 7] none <|
 .q 9 .ld [.r 8] none <|
 .q 12 (.ixs 1) [.s 0, .s 9] none <|
 .q 13 .ld [.r 12] none <|
 .q 14 (.ixs 1) [.s 0, .s 9] none <|
 .x 15 (.st 1) [.r 14, .r 9] none [] <|
 .q 16 (.ixs 1) [.s 0, .r 4] none <|
 .x 17 (.st 1) [.r 16, .r 13] none [] <|
 .out [(0, .s 0), (1, .s 1), (2, .s 2), (3, .s 3), (8, .s 8), (9, .s 9)]
def e387r5 : EE := .q 1 .sub [.s 9, .c (.int .i64 1)] none <|
 .out [(0, .s 0), (1, .s 1), (2, .s 2), (3, .s 3), (8, .s 8), (9, .r 1)]
def e387l6 : EC := (.seq (.seq (.reg e387r3 [0, 1, 2, 3, 8, 9] 0) (.cond (.s 34) .skip (.exit 2))) (.seq (.block 3 (.reg e387r4 [0, 1, 2, 3, 8, 9] 0)) (.reg e387r5 [0, 1, 2, 3, 8, 9] 0)))
def e387r7 : EE := .q 1 .add [.s 8, .c (.int .i64 1)] none <|
 .out [(0, .s 0), (1, .s 1), (2, .s 2), (3, .s 3), (8, .r 1)]
def e387l8 : EC := (.seq (.seq (.reg e387r1 [0, 1, 2, 3, 8] 0) (.cond (.s 14) .skip (.exit 0))) (.seq (.block 1 (.seq (.reg e387r2 [0, 1, 2, 3, 8] 0) (.block 2 (.loop [0, 1, 2, 3, 8, 9] e387l6)))) (.reg e387r7 [0, 1, 2, 3, 8] 0)))
def e387 : EFn := ⟨(.seq (.reg e387r0 [0, 1, 2, 3] 0) (.block 0 (.loop [0, 1, 2, 3, 8] e387l8))), [], 53, 0⟩
theorem g387 : Good Tryz.prog 387 e387 := ⟨Tryz.f387, Tryz.func387, by kernel_rfl, by kernel_rfl, by kernel_rfl, by kernel_rfl⟩
end Go.Ev
