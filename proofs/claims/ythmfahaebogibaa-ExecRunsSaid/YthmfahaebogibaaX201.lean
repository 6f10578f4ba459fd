import Derived.Test.YthmfahaebogibaaEvB
import Derived.Test.YthmfahaebogibaaProg
set_option linter.unusedVariables false
namespace Go.Ev
open Go.Fw Go.Proofs
/-! slices.stableCmpFunc[int] -/
def e55r0 : EE := .out [(0, .s 0), (1, .s 1), (2, .s 2), (6, .c (.int .i64 20))]
def e55r1 : EE := .out [(0, .s 0), (1, .s 1), (2, .s 2), (6, .s 6), (7, .c z), (8, .s 6)]
def e55r2 : EE := .q 2 .leq [.s 8, .s 1] none <|
 .out [(0, .s 0), (1, .s 1), (2, .s 2), (6, .s 6), (7, .s 7), (8, .s 8), (13, .r 2)]
def e55r3 : EE := .x 4 (.call 69) [.s 0, .s 7, .s 8, .s 2] none [] <|
 .out [(0, .s 0), (1, .s 1), (2, .s 2), (6, .s 6), (8, .s 8)]
def e55r4 : EE := .out [(0, .s 0), (1, .s 1), (2, .s 2), (6, .s 6), (7, .s 8), (8, .s 8)]
def e55r5 : EE := .q 2 .add [.s 8, .s 6] none <|
 .out [(0, .s 0), (1, .s 1), (2, .s 2), (6, .s 6), (7, .s 7), (8, .r 2)]
def e55l6 : EC := (.seq (.seq (.reg e55r2 [0, 1, 2, 6, 7, 8] 0) (.cond (.s 13) .skip (.exit 0))) (.block 1 (.seq (.reg e55r3 [0, 1, 2, 6, 7, 8] 0) (.seq (.reg e55r4 [0, 1, 2, 6, 8] 0) (.reg e55r5 [0, 1, 2, 6, 7, 8] 0)))))
def e55r7 : EE := .x 4 (.call 69) [.s 0, .s 7, .s 1, .s 2] none [] <|
 .out [(0, .s 0), (1, .s 1), (2, .s 2), (6, .s 6)]
def e55r8 : EE := .q 2 .lss [.s 6, .s 1] none <|
 .out [(0, .s 0), (1, .s 1), (2, .s 2), (6, .s 6), (30, .r 2)]
def e55r9 : EE := .q 1 .mul [.c (.int .i64 2), .s 6] none <|
 .out [(0, .s 0), (1, .s 1), (2, .s 2), (6, .s 6), (7, .c z), (8, .r 1)]
def e55r10 : EE := .q 2 .leq [.s 8, .s 1] none <|
 .out [(0, .s 0), (1, .s 1), (2, .s 2), (6, .s 6), (7, .s 7), (8, .s 8), (35, .r 2)]
def e55r11 : EE := .q 4 .add [.s 7, .s 6] none <|
 .x 7 (.call 70) [.s 0, .s 7, .r 4, .s 8, .s 2] none [] <|
 .out [(0, .s 0), (1, .s 1), (2, .s 2), (6, .s 6), (8, .s 8)]
def e55r12 : EE := .out [(0, .s 0), (1, .s 1), (2, .s 2), (6, .s 6), (7, .s 8), (8, .s 8)]
def e55r13 : EE := .q 2 .mul [.c (.int .i64 2), .s 6] none <|
 .q 3 .add [.s 8, .r 2] none <|
 .out [(0, .s 0), (1, .s 1), (2, .s 2), (6, .s 6), (7, .s 7), (8, .r 3)]
def e55l14 : EC := (.seq (.seq (.reg e55r10 [0, 1, 2, 6, 7, 8] 0) (.cond (.s 35) .skip (.exit 4))) (.block 5 (.seq (.reg e55r11 [0, 1, 2, 6, 7, 8] 0) (.seq (.reg e55r12 [0, 1, 2, 6, 8] 0) (.reg e55r13 [0, 1, 2, 6, 7, 8] 0)))))
def e55r15 : EE := .q 2 .add [.s 7, .s 6] none <|
 .out [(0, .s 0), (1, .s 1), (2, .s 2), (6, .s 6), (7, .s 7), (9, .r 2)]
def e55r16 : EE := .q 2 .lss [.s 9, .s 1] none <|
 .out [(0, .s 0), (1, .s 1), (2, .s 2), (6, .s 6), (7, .s 7), (9, .s 9), (54, .r 2)]
def e55r17 : EE := .x 5 (.call 70) [.s 0, .s 7, .s 9, .s 1, .s 2] none [] <|
 .out [(0, .s 0), (1, .s 1), (2, .s 2), (6, .s 6)]
def e55r18 : EE := .q 1 .mul [.s 6, .c (.int .i64 2)] none <|
 .out [(0, .s 0), (1, .s 1), (2, .s 2), (6, .r 1)]
def e55l19 : EC := (.seq (.seq (.reg e55r8 [0, 1, 2, 6] 0) (.cond (.s 30) .skip (.exit 2))) (.block 3 (.seq (.reg e55r9 [0, 1, 2, 6] 0) (.seq (.block 4 (.loop [0, 1, 2, 6, 7, 8] e55l14)) (.seq (.seq (.reg e55r15 [0, 1, 2, 6, 7] 0) (.seq (.reg e55r16 [0, 1, 2, 6, 7, 9] 0) (.cond (.s 54) (.reg e55r17 [0, 1, 2, 6, 7, 9] 0) .skip))) (.reg e55r18 [0, 1, 2, 6] 0))))))
def e55 : EFn := ⟨(.seq (.reg e55r0 [0, 1, 2] 0) (.seq (.reg e55r1 [0, 1, 2, 6] 0) (.seq (.block 0 (.loop [0, 1, 2, 6, 7, 8] e55l6)) (.seq (.reg e55r7 [0, 1, 2, 6, 7] 0) (.block 2 (.loop [0, 1, 2, 6] e55l19)))))), [], 63, 0⟩
theorem g55 : Good Try.prog 55 e55 := ⟨Try.f55, Try.func55, by kernel_rfl, by kernel_rfl, by kernel_rfl, by kernel_rfl⟩
/-! cmp.isNaN[int] -/
def e56r0 : EE := .out [(0, .s 0)]
def e56r1 : EE := .q 2 .neq [.s 0, .s 0] none <|
 .out [(2, .r 2)]
def e56 : EFn := ⟨(.seq (.reg e56r0 [0] 0) (.seq (.reg e56r1 [0] 0) .ret)), [.slot 2], 6, 0⟩
theorem g56 : Good Try.prog 56 e56 := ⟨Try.f56, Try.func56, by kernel_rfl, by kernel_rfl, by kernel_rfl, by kernel_rfl⟩
/-! slices.insertionSortCmpFunc[concord/api.Inst] -/
def e57r0 : EE := .q 1 .add [.s 1, .c (.int .i64 1)] none <|
 .out [(0, .s 0), (1, .s 1), (2, .s 2), (3, .s 3), (8, .r 1)]
def e57r1 : EE := .q 2 .lss [.s 8, .s 2] none <|
 .out [(0, .s 0), (1, .s 1), (2, .s 2), (3, .s 3), (8, .s 8), (14, .r 2)]
def e57r2 : EE := .out [(0, .s 0), (1, .s 1), (2, .s 2), (3, .s 3), (8, .s 8), (9, .s 8)]
def e57r3 : EE := .q 2 .gtr [.s 9, .s 1] none <|
 .q 4 .mv [.s 3] (some (.r 2, true)) <|
 .q 5 .mv [.s 0] (some (.r 2, true)) <|
 .q 6 .mv [.s 9] (some (.r 2, true)) <|
 .q 7 (.ixs 2) [.r 5, .r 6] (some (.r 2, true)) <|
 .q 8 (.lda 2) [.r 7] (some (.r 2, true)) <|
 .q 9 .mv [.s 0] (some (.r 2, true)) <|
 .q 10 .mv [.s 9] (some (.r 2, true)) <|
 .q 11 .sub [.r 10, .c (.int .i64 1)] (some (.r 2, true)) <|
 .q 12 (.ixs 2) [.r 9, .r 11] (some (.r 2, true)) <|
 .q 13 (.lda 2) [.r 12] (some (.r 2, true)) <|
 .x 14 .callv [.r 4, .r 8, .r 13] (some (.r 2, true)) [] <|
 .q 15 .lss [.r 14, .c z] (some (.r 2, true)) <|
 .q 16 .pick [.r 2, .r 15, .c (.bool false)] none <|
 .out [(0, .s 0), (1, .s 1), (2, .s 2), (3, .s 3), (8, .s 8), (9, .s 9), (34, .r 16)]
def e57r4 : EE := .q 4 .sub [.s 9, .c (.int .i64 1)] none <|
 .q 7 .sub [.s 9, .c (.int .i64 1)] none <|
 .q 8 (.ixs 2) [.s 0, .r 7] none <|
 .q 9 (.lda 2) [.r 8] none <|
 .q 12 (.ixs 2) [.s 0, .s 9] none <|
 .q 13 (.lda 2) [.r 12] none <|
 .q 14 (.ixs 2) [.s 0, .s 9] none <|
 .x 15 (.st 2) [.r 14, .r 9] none [] <|
 .q 16 (.ixs 2) [.s 0, .r 4] none <|
 .x 17 (.st 2) [.r 16, .r 13] none [] <|
 .out [(0, .s 0), (1, .s 1), (2, .s 2), (3, .s 3), (8, .s 8), (9, .s 9)]
def e57r5 : EE := .q 1 .sub [.s 9, .c (.int .i64 1)] none <|
 .out [(0, .s 0), (1, .s 1), (2, .s 2), (3, .s 3), (8, .s 8), (9, .r 1)]
def e57l6 : EC := (.seq (.seq (.reg e57r3 [0, 1, 2, 3, 8, 9] 0) (.cond (.s 34) .skip (.exit 2))) (.seq (.block 3 (.reg e57r4 [0, 1, 2, 3, 8, 9] 0)) (.reg e57r5 [0, 1, 2, 3, 8, 9] 0)))
def e57r7 : EE := .q 1 .add [.s 8, .c (.int .i64 1)] none <|
 .out [(0, .s 0), (1, .s 1), (2, .s 2), (3, .s 3), (8, .r 1)]
def e57l8 : EC := (.seq (.seq (.reg e57r1 [0, 1, 2, 3, 8] 0) (.cond (.s 14) .skip (.exit 0))) (.seq (.block 1 (.seq (.reg e57r2 [0, 1, 2, 3, 8] 0) (.block 2 (.loop [0, 1, 2, 3, 8, 9] e57l6)))) (.reg e57r7 [0, 1, 2, 3, 8] 0)))
def e57 : EFn := ⟨(.seq (.reg e57r0 [0, 1, 2, 3] 0) (.block 0 (.loop [0, 1, 2, 3, 8] e57l8))), [], 53, 0⟩
theorem g57 : Good Try.prog 57 e57 := ⟨Try.f57, Try.func57, by kernel_rfl, by kernel_rfl, by kernel_rfl, by kernel_rfl⟩
/-! slices.heapSortCmpFunc[concord/api.Inst] -/
def e58r0 : EE := .out [(0, .s 0), (1, .s 1), (2, .s 2), (3, .s 3), (8, .s 1)]
def e58r1 : EE := .out [(0, .s 0), (1, .s 1), (2, .s 2), (3, .s 3), (8, .s 8), (9, .c z)]
def e58r2 : EE := .q 2 .sub [.s 2, .s 1] none <|
 .out [(0, .s 0), (3, .s 3), (8, .s 8), (9, .s 9), (10, .r 2)]
def e58r3 : EE := .q 1 .sub [.s 10, .c (.int .i64 1)] none <|
 .q 2 .quo [.r 1, .c (.int .i64 2)] none <|
 .out [(0, .s 0), (3, .s 3), (8, .s 8), (9, .s 9), (10, .s 10), (11, .r 2)]
def e58r4 : EE := .q 1 .geq [.s 11, .c z] none <|
 .out [(0, .s 0), (3, .s 3), (8, .s 8), (9, .s 9), (10, .s 10), (11, .s 11), (21, .r 1)]
def e58r5 : EE := .x 5 (.call 71) [.s 0, .s 11, .s 10, .s 8, .s 3] none [] <|
 .out [(0, .s 0), (3, .s 3), (8, .s 8), (9, .s 9), (10, .s 10), (11, .s 11)]
def e58r6 : EE := .q 1 .sub [.s 11, .c (.int .i64 1)] none <|
 .out [(0, .s 0), (3, .s 3), (8, .s 8), (9, .s 9), (10, .s 10), (11, .r 1)]
def e58l7 : EC := (.seq (.seq (.reg e58r4 [0, 3, 8, 9, 10, 11] 0) (.cond (.s 21) .skip (.exit 0))) (.seq (.block 1 (.reg e58r5 [0, 3, 8, 9, 10, 11] 0)) (.reg e58r6 [0, 3, 8, 9, 10, 11] 0)))
def e58r8 : EE := .q 1 .sub [.s 10, .c (.int .i64 1)] none <|
 .out [(0, .s 0), (3, .s 3), (8, .s 8), (9, .s 9), (12, .r 1)]
def e58r9 : EE := .q 1 .geq [.s 12, .c z] none <|
 .out [(0, .s 0), (3, .s 3), (8, .s 8), (9, .s 9), (12, .s 12), (33, .r 1)]
def e58r10 : EE := .q 5 .add [.s 8, .s 12] none <|
 .q 9 .add [.s 8, .s 12] none <|
 .q 10 (.ixs 2) [.s 0, .r 9] none <|
 .q 11 (.lda 2) [.r 10] none <|
 .q 14 (.ixs 2) [.s 0, .s 8] none <|
 .q 15 (.lda 2) [.r 14] none <|
 .q 16 (.ixs 2) [.s 0, .s 8] none <|
 .x 17 (.st 2) [.r 16, .r 11] none [] <|
 .q 18 (.ixs 2) [.s 0, .r 5] none <|
 .x 19 (.st 2) [.r 18, .r 15] none [] <|
 .out [(0, .s 0), (3, .s 3), (8, .s 8), (9, .s 9), (12, .s 12)]
def e58r11 : EE := .x 5 (.call 71) [.s 0, .s 9, .s 12, .s 8, .s 3] none [] <|
 .out [(0, .s 0), (3, .s 3), (8, .s 8), (9, .s 9), (12, .s 12)]
def e58r12 : EE := .q 1 .sub [.s 12, .c (.int .i64 1)] none <|
 .out [(0, .s 0), (3, .s 3), (8, .s 8), (9, .s 9), (12, .r 1)]
def e58l13 : EC := (.seq (.seq (.reg e58r9 [0, 3, 8, 9, 12] 0) (.cond (.s 33) .skip (.exit 2))) (.seq (.block 3 (.seq (.reg e58r10 [0, 3, 8, 9, 12] 0) (.reg e58r11 [0, 3, 8, 9, 12] 0))) (.reg e58r12 [0, 3, 8, 9, 12] 0)))
def e58 : EFn := ⟨(.seq (.reg e58r0 [0, 1, 2, 3] 0) (.seq (.reg e58r1 [0, 1, 2, 3, 8] 0) (.seq (.reg e58r2 [0, 1, 2, 3, 8, 9] 0) (.seq (.seq (.reg e58r3 [0, 3, 8, 9, 10] 0) (.block 0 (.loop [0, 3, 8, 9, 10, 11] e58l7))) (.seq (.reg e58r8 [0, 3, 8, 9, 10] 0) (.block 2 (.loop [0, 3, 8, 9, 12] e58l13))))))), [], 60, 0⟩
theorem g58 : Good Try.prog 58 e58 := ⟨Try.f58, Try.func58, by kernel_rfl, by kernel_rfl, by kernel_rfl, by kernel_rfl⟩
/-! slices.breakPatternsCmpFunc[concord/api.Inst] -/
def e59r0 : EE := .q 2 .sub [.s 2, .s 1] none <|
 .out [(0, .s 0), (1, .s 1), (8, .r 2)]
def e59r1 : EE := .q 1 .geq [.s 8, .c (.int .i64 8)] none <|
 .out [(0, .s 0), (1, .s 1), (8, .s 8), (17, .r 1)]
def e59r2 : EE := .q 1 (.conv .u64) [.s 8] none <|
 .x 2 (.alc [(.int .u64 0)] 131) [] none [] <|
 .x 3 (.st 1) [.r 2, .r 1] none [] <|
 .out [(0, .s 0), (1, .s 1), (8, .s 8), (9, .r 2)]
def e59r3 : EE := .x 1 (.call 72) [.s 8] none [] <|
 .out [(0, .s 0), (1, .s 1), (8, .s 8), (9, .s 9), (10, .r 1)]
def e59r4 : EE := .q 2 .quo [.s 8, .c (.int .i64 4)] none <|
 .q 3 .mul [.r 2, .c (.int .i64 2)] none <|
 .q 4 .add [.s 1, .r 3] none <|
 .q 5 .sub [.r 4, .c (.int .i64 1)] none <|
 .out [(0, .s 0), (1, .s 1), (8, .s 8), (9, .s 9), (10, .s 10), (11, .r 5)]
def e59r5 : EE := .q 3 .quo [.s 8, .c (.int .i64 4)] none <|
 .q 4 .mul [.r 3, .c (.int .i64 2)] none <|
 .q 5 .add [.s 1, .r 4] none <|
 .q 6 .add [.r 5, .c (.int .i64 1)] none <|
 .q 7 .leq [.s 11, .r 6] none <|
 .out [(0, .s 0), (1, .s 1), (8, .s 8), (9, .s 9), (10, .s 10), (11, .s 11), (35, .r 7)]
def e59r6 : EE := .x 0 (.call 73) [.s 9] none [] <|
 .q 2 .sub [.s 10, .c (.int .u64 1)] none <|
 .q 3 .and [.r 0, .r 2] none <|
 .q 4 (.conv .i64) [.r 3] none <|
 .out [(0, .s 0), (1, .s 1), (8, .s 8), (9, .s 9), (10, .s 10), (11, .s 11), (12, .r 4)]
def e59r7 : EE := .q 2 .geq [.s 12, .s 8] none <|
 .out [(0, .s 0), (1, .s 1), (8, .s 8), (9, .s 9), (10, .s 10), (11, .s 11), (12, .s 12), (45, .r 2)]
def e59r8 : EE := .q 2 .sub [.s 12, .s 8] none <|
 .out [(0, .s 0), (1, .s 1), (8, .s 8), (9, .s 9), (10, .s 10), (11, .s 11), (12, .r 2)]
def e59r9 : EE := .q 5 .add [.s 1, .s 12] none <|
 .q 9 .add [.s 1, .s 12] none <|
 .q 10 (.ixs 2) [.s 0, .r 9] none <|
 .q 11 (.lda 2) [.r 10] none <|
 .q 14 (.ixs 2) [.s 0, .s 11] none <|
 .q 15 (.lda 2) [.r 14] none <|
 .q 16 (.ixs 2) [.s 0, .s 11] none <|
 .x 17 (.st 2) [.r 16, .r 11] none [] <|
 .q 18 (.ixs 2) [.s 0, .r 5] none <|
 .x 19 (.st 2) [.r 18, .r 15] none [] <|
 .out [(0, .s 0), (1, .s 1), (8, .s 8), (9, .s 9), (10, .s 10), (11, .s 11)]
def e59r10 : EE := .q 1 .add [.s 11, .c (.int .i64 1)] none <|
 .out [(0, .s 0), (1, .s 1), (8, .s 8), (9, .s 9), (10, .s 10), (11, .r 1)]
def e59l11 : EC := (.seq (.seq (.reg e59r5 [0, 1, 8, 9, 10, 11] 0) (.cond (.s 35) .skip (.exit 0))) (.seq (.block 1 (.seq (.reg e59r6 [0, 1, 8, 9, 10, 11] 0) (.seq (.seq (.reg e59r7 [0, 1, 8, 9, 10, 11, 12] 0) (.cond (.s 45) (.reg e59r8 [0, 1, 8, 9, 10, 11, 12] 0) .skip)) (.reg e59r9 [0, 1, 8, 9, 10, 11, 12] 0)))) (.reg e59r10 [0, 1, 8, 9, 10, 11] 0)))
def e59 : EFn := ⟨(.seq (.reg e59r0 [0, 1, 2] 0) (.seq (.reg e59r1 [0, 1, 8] 0) (.cond (.s 17) (.seq (.reg e59r2 [0, 1, 8] 0) (.seq (.reg e59r3 [0, 1, 8, 9] 0) (.seq (.reg e59r4 [0, 1, 8, 9, 10] 0) (.block 0 (.loop [0, 1, 8, 9, 10, 11] e59l11))))) .skip))), [], 67, 0⟩
theorem g59 : Good Try.prog 59 e59 := ⟨Try.f59, Try.func59, by kernel_rfl, by kernel_rfl, by kernel_rfl, by kernel_rfl⟩
/-! slices.choosePivotCmpFunc[concord/api.Inst] -/
def e60r0 : EE := .out [(0, .s 0), (1, .s 1), (2, .s 2), (3, .s 3)]
def e60r1 : EE := .q 2 .sub [.s 2, .s 1] none <|
 .out [(0, .s 0), (1, .s 1), (3, .s 3), (10, .r 2)]
def e60r2 : EE := .x 0 (.alc [z] 3) [] none [] <|
 .out [(0, .s 0), (1, .s 1), (3, .s 3), (10, .s 10), (11, .r 0)]
def e60r3 : EE := .q 2 .quo [.s 10, .c (.int .i64 4)] none <|
 .q 3 .mul [.r 2, .c (.int .i64 1)] none <|
 .q 4 .add [.s 1, .r 3] none <|
 .out [(0, .s 0), (1, .s 1), (3, .s 3), (10, .s 10), (11, .s 11), (12, .r 4)]
def e60r4 : EE := .q 2 .quo [.s 10, .c (.int .i64 4)] none <|
 .q 3 .mul [.r 2, .c (.int .i64 2)] none <|
 .q 4 .add [.s 1, .r 3] none <|
 .out [(0, .s 0), (1, .s 1), (3, .s 3), (10, .s 10), (11, .s 11), (12, .s 12), (13, .r 4)]
def e60r5 : EE := .q 2 .quo [.s 10, .c (.int .i64 4)] none <|
 .q 3 .mul [.r 2, .c (.int .i64 3)] none <|
 .q 4 .add [.s 1, .r 3] none <|
 .out [(0, .s 0), (3, .s 3), (10, .s 10), (11, .s 11), (12, .s 12), (13, .s 13), (14, .r 4)]
def e60r6 : EE := .q 1 .geq [.s 10, .c (.int .i64 8)] none <|
 .out [(0, .s 0), (3, .s 3), (10, .s 10), (11, .s 11), (12, .s 12), (13, .s 13), (14, .s 14), (34, .r 1)]
def e60r7 : EE := .q 1 .geq [.s 10, .c (.int .i64 50)] none <|
 .out [(0, .s 0), (3, .s 3), (11, .s 11), (12, .s 12), (13, .s 13), (14, .s 14), (36, .r 1)]
def e60r8 : EE := .x 3 (.call 74) [.s 0, .s 12, .s 11, .s 3] none [] <|
 .out [(0, .s 0), (3, .s 3), (11, .s 11), (12, .r 3), (13, .s 13), (14, .s 14)]
def e60r9 : EE := .x 3 (.call 74) [.s 0, .s 13, .s 11, .s 3] none [] <|
 .out [(0, .s 0), (3, .s 3), (11, .s 11), (12, .s 12), (13, .r 3), (14, .s 14)]
def e60r10 : EE := .x 3 (.call 74) [.s 0, .s 14, .s 11, .s 3] none [] <|
 .out [(0, .s 0), (3, .s 3), (11, .s 11), (12, .s 12), (13, .s 13), (14, .r 3)]
def e60r11 : EE := .x 5 (.call 75) [.s 0, .s 12, .s 13, .s 14, .s 11, .s 3] none [] <|
 .out [(11, .s 11), (13, .r 5)]
def e60r12 : EE := .q 0 .ld [.s 11] none <|
 .out [(13, .s 13), (55, .r 0)]
def e60r13 : EE := .q 0 .eql [.s 55, .c z] none <|
 .out [(13, .s 13), (55, .s 55), (57, .r 0)]
def e60r14 : EE := .out [(8, .s 13), (9, .c (.int .i64 1))]
def e60r15 : EE := .q 0 .eql [.s 55, .c (.int .i64 12)] none <|
 .out [(13, .s 13), (60, .r 0)]
def e60r16 : EE := .out [(8, .s 13), (9, .c (.int .i64 2))]
def e60r17 : EE := .out [(8, .s 13), (9, .c z)]
def e60 : EFn := ⟨(.seq (.reg e60r0 [0, 1, 2, 3] 0) (.seq (.reg e60r1 [0, 1, 2, 3] 0) (.seq (.reg e60r2 [0, 1, 3, 10] 0) (.seq (.reg e60r3 [0, 1, 3, 10, 11] 0) (.seq (.reg e60r4 [0, 1, 3, 10, 11, 12] 0) (.seq (.reg e60r5 [0, 1, 3, 10, 11, 12, 13] 0) (.seq (.seq (.reg e60r6 [0, 3, 10, 11, 12, 13, 14] 0) (.cond (.s 34) (.seq (.seq (.reg e60r7 [0, 3, 10, 11, 12, 13, 14] 0) (.cond (.s 36) (.seq (.reg e60r8 [0, 3, 11, 12, 13, 14] 0) (.seq (.reg e60r9 [0, 3, 11, 12, 13, 14] 0) (.reg e60r10 [0, 3, 11, 12, 13, 14] 0))) .skip)) (.reg e60r11 [0, 3, 11, 12, 13, 14] 0)) .skip)) (.seq (.reg e60r12 [11, 13] 0) (.block 0 (.seq (.reg e60r13 [13, 55] 0) (.cond (.s 57) (.seq (.reg e60r14 [13] 0) .ret) (.seq (.reg e60r15 [13, 55] 0) (.cond (.s 60) (.seq (.reg e60r16 [13] 0) .ret) (.seq (.reg e60r17 [13] 0) .ret)))))))))))))), [.slot 8, .slot 9], 63, 0⟩
theorem g60 : Good Try.prog 60 e60 := ⟨Try.f60, Try.func60, by kernel_rfl, by kernel_rfl, by kernel_rfl, by kernel_rfl⟩
/-! slices.reverseRangeCmpFunc[concord/api.Inst] -/
def e61r0 : EE := .out [(0, .s 0), (2, .s 2), (8, .s 1)]
def e61r1 : EE := .q 1 .sub [.s 2, .c (.int .i64 1)] none <|
 .out [(0, .s 0), (8, .s 8), (9, .r 1)]
def e61r2 : EE := .q 2 .lss [.s 8, .s 9] none <|
 .out [(0, .s 0), (8, .s 8), (9, .s 9), (15, .r 2)]
def e61r3 : EE := .q 6 (.ixs 2) [.s 0, .s 9] none <|
 .q 7 (.lda 2) [.r 6] none <|
 .q 10 (.ixs 2) [.s 0, .s 8] none <|
 .q 11 (.lda 2) [.r 10] none <|
 .q 12 (.ixs 2) [.s 0, .s 8] none <|
 .x 13 (.st 2) [.r 12, .r 7] none [] <|
 .q 14 (.ixs 2) [.s 0, .s 9] none <|
 .x 15 (.st 2) [.r 14, .r 11] none [] <|
 .out [(0, .s 0), (8, .s 8), (9, .s 9)]
def e61r4 : EE := .q 1 .add [.s 8, .c (.int .i64 1)] none <|
 .out [(0, .s 0), (8, .r 1), (9, .s 9)]
def e61r5 : EE := .q 1 .sub [.s 9, .c (.int .i64 1)] none <|
 .out [(0, .s 0), (8, .s 8), (9, .r 1)]
def e61l6 : EC := (.seq (.seq (.reg e61r2 [0, 8, 9] 0) (.cond (.s 15) .skip (.exit 0))) (.block 1 (.seq (.reg e61r3 [0, 8, 9] 0) (.seq (.reg e61r4 [0, 8, 9] 0) (.reg e61r5 [0, 8, 9] 0)))))
def e61 : EFn := ⟨(.seq (.reg e61r0 [0, 1, 2] 0) (.seq (.reg e61r1 [0, 2, 8] 0) (.block 0 (.loop [0, 8, 9] e61l6)))), [], 34, 0⟩
theorem g61 : Good Try.prog 61 e61 := ⟨Try.f61, Try.func61, by kernel_rfl, by kernel_rfl, by kernel_rfl, by kernel_rfl⟩
/-! slices.partialInsertionSortCmpFunc[concord/api.Inst] -/
def e62r0 : EE := .out [(0, .s 0), (1, .s 1), (2, .s 2), (3, .s 3)]
def e62r1 : EE := .q 1 .add [.s 1, .c (.int .i64 1)] none <|
 .out [(0, .s 0), (1, .s 1), (2, .s 2), (3, .s 3), (9, .r 1)]
def e62r2 : EE := .out [(0, .s 0), (1, .s 1), (2, .s 2), (3, .s 3), (9, .s 9), (10, .c z)]
def e62r3 : EE := .q 1 .lss [.s 10, .c (.int .i64 5)] none <|
 .out [(0, .s 0), (1, .s 1), (2, .s 2), (3, .s 3), (9, .s 9), (10, .s 10), (16, .r 1)]
def e62r4 : EE := .q 2 .lss [.s 9, .s 2] none <|
 .q 4 .mv [.s 3] (some (.r 2, true)) <|
 .q 5 .mv [.s 0] (some (.r 2, true)) <|
 .q 6 .mv [.s 9] (some (.r 2, true)) <|
 .q 7 (.ixs 2) [.r 5, .r 6] (some (.r 2, true)) <|
 .q 8 (.lda 2) [.r 7] (some (.r 2, true)) <|
 .q 9 .mv [.s 0] (some (.r 2, true)) <|
 .q 10 .mv [.s 9] (some (.r 2, true)) <|
 .q 11 .sub [.r 10, .c (.int .i64 1)] (some (.r 2, true)) <|
 .q 12 (.ixs 2) [.r 9, .r 11] (some (.r 2, true)) <|
 .q 13 (.lda 2) [.r 12] (some (.r 2, true)) <|
 .x 14 .callv [.r 4, .r 8, .r 13] (some (.r 2, true)) [] <|
 .q 15 .lss [.r 14, .c z] (some (.r 2, true)) <|
 .q 16 .not [.r 15] (some (.r 2, true)) <|
 .q 17 .pick [.r 2, .r 16, .c (.bool false)] none <|
 .out [(0, .s 0), (1, .s 1), (2, .s 2), (3, .s 3), (9, .s 9), (10, .s 10), (36, .r 17)]
def e62r5 : EE := .q 1 .add [.s 9, .c (.int .i64 1)] none <|
 .out [(0, .s 0), (1, .s 1), (2, .s 2), (3, .s 3), (9, .r 1), (10, .s 10)]
def e62l6 : EC := (.seq (.seq (.reg e62r4 [0, 1, 2, 3, 9, 10] 0) (.cond (.s 36) .skip (.exit 2))) (.block 3 (.reg e62r5 [0, 1, 2, 3, 9, 10] 0)))
def e62r7 : EE := .q 2 .eql [.s 9, .s 2] none <|
 .out [(0, .s 0), (1, .s 1), (2, .s 2), (3, .s 3), (9, .s 9), (10, .s 10), (41, .r 2)]
def e62r8 : EE := .out [(8, .c (.bool true))]
def e62r9 : EE := .q 2 .sub [.s 2, .s 1] none <|
 .q 3 .lss [.r 2, .c (.int .i64 50)] none <|
 .out [(0, .s 0), (1, .s 1), (2, .s 2), (3, .s 3), (9, .s 9), (10, .s 10), (45, .r 3)]
def e62r10 : EE := .out [(8, .c (.bool false))]
def e62r11 : EE := .q 4 .sub [.s 9, .c (.int .i64 1)] none <|
 .q 7 .sub [.s 9, .c (.int .i64 1)] none <|
 .q 8 (.ixs 2) [.s 0, .r 7] none <|
 .q 9 (.lda 2) [.r 8] none <|
 .q 12 (.ixs 2) [.s 0, .s 9] none <|
 .q 13 (.lda 2) [.r 12] none <|
 .q 14 (.ixs 2) [.s 0, .s 9] none <|
 .x 15 (.st 2) [.r 14, .r 9] none [] <|
 .q 16 (.ixs 2) [.s 0, .r 4] none <|
 .x 17 (.st 2) [.r 16, .r 13] none [] <|
 .out [(0, .s 0), (1, .s 1), (2, .s 2), (3, .s 3), (9, .s 9), (10, .s 10)]
def e62r12 : EE := .q 2 .sub [.s 9, .s 1] none <|
 .q 3 .geq [.r 2, .c (.int .i64 2)] none <|
 .out [(0, .s 0), (1, .s 1), (2, .s 2), (3, .s 3), (9, .s 9), (10, .s 10), (65, .r 3)]
def e62r13 : EE := .q 1 .sub [.s 9, .c (.int .i64 1)] none <|
 .out [(0, .s 0), (1, .s 1), (2, .s 2), (3, .s 3), (9, .s 9), (10, .s 10), (11, .r 1)]
def e62r14 : EE := .q 1 .geq [.s 11, .c (.int .i64 1)] none <|
 .out [(0, .s 0), (1, .s 1), (2, .s 2), (3, .s 3), (9, .s 9), (10, .s 10), (11, .s 11), (69, .r 1)]
def e62r15 : EE := .q 3 (.ixs 2) [.s 0, .s 11] none <|
 .q 4 (.lda 2) [.r 3] none <|
 .q 7 .sub [.s 11, .c (.int .i64 1)] none <|
 .q 8 (.ixs 2) [.s 0, .r 7] none <|
 .q 9 (.lda 2) [.r 8] none <|
 .x 10 .callv [.s 3, .r 4, .r 9] none [] <|
 .q 11 .lss [.r 10, .c z] none <|
 .q 12 .not [.r 11] none <|
 .out [(0, .s 0), (1, .s 1), (2, .s 2), (3, .s 3), (9, .s 9), (10, .s 10), (11, .s 11), (84, .r 12)]
def e62r16 : EE := .q 4 .sub [.s 11, .c (.int .i64 1)] none <|
 .q 7 .sub [.s 11, .c (.int .i64 1)] none <|
 .q 8 (.ixs 2) [.s 0, .r 7] none <|
 .q 9 (.lda 2) [.r 8] none <|
 .q 12 (.ixs 2) [.s 0, .s 11] none <|
 .q 13 (.lda 2) [.r 12] none <|
 .q 14 (.ixs 2) [.s 0, .s 11] none <|
 .x 15 (.st 2) [.r 14, .r 9] none [] <|
 .q 16 (.ixs 2) [.s 0, .r 4] none <|
 .x 17 (.st 2) [.r 16, .r 13] none [] <|
 .out [(0, .s 0), (1, .s 1), (2, .s 2), (3, .s 3), (9, .s 9), (10, .s 10), (11, .s 11)]
def e62r17 : EE := .q 1 .sub [.s 11, .c (.int .i64 1)] none <|
 .out [(0, .s 0), (1, .s 1), (2, .s 2), (3, .s 3), (9, .s 9), (10, .s 10), (11, .r 1)]
def e62l18 : EC := (.seq (.seq (.reg e62r14 [0, 1, 2, 3, 9, 10, 11] 0) (.cond (.s 69) .skip (.exit 4))) (.seq (.block 5 (.seq (.seq (.reg e62r15 [0, 1, 2, 3, 9, 10, 11] 0) (.cond (.s 84) (.exit 4) .skip)) (.reg e62r16 [0, 1, 2, 3, 9, 10, 11] 0))) (.reg e62r17 [0, 1, 2, 3, 9, 10, 11] 0)))
def e62r19 : EE := .q 2 .sub [.s 2, .s 9] none <|
 .q 3 .geq [.r 2, .c (.int .i64 2)] none <|
 .out [(0, .s 0), (1, .s 1), (2, .s 2), (3, .s 3), (9, .s 9), (10, .s 10), (104, .r 3)]
def e62r20 : EE := .q 1 .add [.s 9, .c (.int .i64 1)] none <|
 .out [(0, .s 0), (1, .s 1), (2, .s 2), (3, .s 3), (9, .s 9), (10, .s 10), (12, .r 1)]
def e62r21 : EE := .q 2 .lss [.s 12, .s 2] none <|
 .out [(0, .s 0), (1, .s 1), (2, .s 2), (3, .s 3), (9, .s 9), (10, .s 10), (12, .s 12), (109, .r 2)]
def e62r22 : EE := .q 3 (.ixs 2) [.s 0, .s 12] none <|
 .q 4 (.lda 2) [.r 3] none <|
 .q 7 .sub [.s 12, .c (.int .i64 1)] none <|
 .q 8 (.ixs 2) [.s 0, .r 7] none <|
 .q 9 (.lda 2) [.r 8] none <|
 .x 10 .callv [.s 3, .r 4, .r 9] none [] <|
 .q 11 .lss [.r 10, .c z] none <|
 .q 12 .not [.r 11] none <|
 .out [(0, .s 0), (1, .s 1), (2, .s 2), (3, .s 3), (9, .s 9), (10, .s 10), (12, .s 12), (124, .r 12)]
def e62r23 : EE := .q 4 .sub [.s 12, .c (.int .i64 1)] none <|
 .q 7 .sub [.s 12, .c (.int .i64 1)] none <|
 .q 8 (.ixs 2) [.s 0, .r 7] none <|
 .q 9 (.lda 2) [.r 8] none <|
 .q 12 (.ixs 2) [.s 0, .s 12] none <|
 .q 13 (.lda 2) [.r 12] none <|
 .q 14 (.ixs 2) [.s 0, .s 12] none <|
 .x 15 (.st 2) [.r 14, .r 9] none [] <|
 .q 16 (.ixs 2) [.s 0, .r 4] none <|
 .x 17 (.st 2) [.r 16, .r 13] none [] <|
 .out [(0, .s 0), (1, .s 1), (2, .s 2), (3, .s 3), (9, .s 9), (10, .s 10), (12, .s 12)]
def e62r24 : EE := .q 1 .add [.s 12, .c (.int .i64 1)] none <|
 .out [(0, .s 0), (1, .s 1), (2, .s 2), (3, .s 3), (9, .s 9), (10, .s 10), (12, .r 1)]
def e62l25 : EC := (.seq (.seq (.reg e62r21 [0, 1, 2, 3, 9, 10, 12] 0) (.cond (.s 109) .skip (.exit 6))) (.seq (.block 7 (.seq (.seq (.reg e62r22 [0, 1, 2, 3, 9, 10, 12] 0) (.cond (.s 124) (.exit 6) .skip)) (.reg e62r23 [0, 1, 2, 3, 9, 10, 12] 0))) (.reg e62r24 [0, 1, 2, 3, 9, 10, 12] 0)))
def e62r26 : EE := .q 1 .add [.s 10, .c (.int .i64 1)] none <|
 .out [(0, .s 0), (1, .s 1), (2, .s 2), (3, .s 3), (9, .s 9), (10, .r 1)]
def e62l27 : EC := (.seq (.seq (.reg e62r3 [0, 1, 2, 3, 9, 10] 0) (.cond (.s 16) .skip (.exit 0))) (.seq (.block 1 (.seq (.block 2 (.loop [0, 1, 2, 3, 9, 10] e62l6)) (.seq (.seq (.reg e62r7 [0, 1, 2, 3, 9, 10] 0) (.cond (.s 41) (.seq (.reg e62r8 [] 0) .ret) .skip)) (.seq (.seq (.reg e62r9 [0, 1, 2, 3, 9, 10] 0) (.cond (.s 45) (.seq (.reg e62r10 [] 0) .ret) .skip)) (.seq (.reg e62r11 [0, 1, 2, 3, 9, 10] 0) (.seq (.seq (.reg e62r12 [0, 1, 2, 3, 9, 10] 0) (.cond (.s 65) (.seq (.reg e62r13 [0, 1, 2, 3, 9, 10] 0) (.block 4 (.loop [0, 1, 2, 3, 9, 10, 11] e62l18))) .skip)) (.seq (.reg e62r19 [0, 1, 2, 3, 9, 10] 0) (.cond (.s 104) (.seq (.reg e62r20 [0, 1, 2, 3, 9, 10] 0) (.block 6 (.loop [0, 1, 2, 3, 9, 10, 12] e62l25))) .skip)))))))) (.reg e62r26 [0, 1, 2, 3, 9, 10] 0)))
def e62r28 : EE := .out [(8, .c (.bool false))]
def e62 : EFn := ⟨(.seq (.reg e62r0 [0, 1, 2, 3] 0) (.seq (.reg e62r1 [0, 1, 2, 3] 0) (.seq (.seq (.reg e62r2 [0, 1, 2, 3, 9] 0) (.block 0 (.loop [0, 1, 2, 3, 9, 10] e62l27))) (.seq (.reg e62r28 [] 0) .ret)))), [.slot 8], 141, 0⟩
theorem g62 : Good Try.prog 62 e62 := ⟨Try.f62, Try.func62, by kernel_rfl, by kernel_rfl, by kernel_rfl, by kernel_rfl⟩
/-! slices.partitionEqualCmpFunc[concord/api.Inst] -/
def e63r0 : EE := .out [(0, .s 0), (1, .s 1), (2, .s 2), (3, .s 3), (4, .s 4)]
def e63r1 : EE := .q 6 (.ixs 2) [.s 0, .s 3] none <|
 .q 7 (.lda 2) [.r 6] none <|
 .q 10 (.ixs 2) [.s 0, .s 1] none <|
 .q 11 (.lda 2) [.r 10] none <|
 .q 12 (.ixs 2) [.s 0, .s 1] none <|
 .x 13 (.st 2) [.r 12, .r 7] none [] <|
 .q 14 (.ixs 2) [.s 0, .s 3] none <|
 .x 15 (.st 2) [.r 14, .r 11] none [] <|
 .out [(0, .s 0), (1, .s 1), (2, .s 2), (4, .s 4)]
def e63r2 : EE := .q 1 .add [.s 1, .c (.int .i64 1)] none <|
 .q 3 .sub [.s 2, .c (.int .i64 1)] none <|
 .out [(0, .s 0), (1, .s 1), (4, .s 4), (11, .r 1), (12, .r 3)]
def e63r3 : EE := .q 2 .leq [.s 11, .s 12] none <|
 .q 4 .mv [.s 4] (some (.r 2, true)) <|
 .q 5 .mv [.s 0] (some (.r 2, true)) <|
 .q 6 .mv [.s 1] (some (.r 2, true)) <|
 .q 7 (.ixs 2) [.r 5, .r 6] (some (.r 2, true)) <|
 .q 8 (.lda 2) [.r 7] (some (.r 2, true)) <|
 .q 9 .mv [.s 0] (some (.r 2, true)) <|
 .q 10 .mv [.s 11] (some (.r 2, true)) <|
 .q 11 (.ixs 2) [.r 9, .r 10] (some (.r 2, true)) <|
 .q 12 (.lda 2) [.r 11] (some (.r 2, true)) <|
 .x 13 .callv [.r 4, .r 8, .r 12] (some (.r 2, true)) [] <|
 .q 14 .lss [.r 13, .c z] (some (.r 2, true)) <|
 .q 15 .not [.r 14] (some (.r 2, true)) <|
 .q 16 .pick [.r 2, .r 15, .c (.bool false)] none <|
 .out [(0, .s 0), (1, .s 1), (4, .s 4), (11, .s 11), (12, .s 12), (47, .r 16)]
def e63r4 : EE := .q 1 .add [.s 11, .c (.int .i64 1)] none <|
 .out [(0, .s 0), (1, .s 1), (4, .s 4), (11, .r 1), (12, .s 12)]
def e63l5 : EC := (.seq (.seq (.reg e63r3 [0, 1, 4, 11, 12] 0) (.cond (.s 47) .skip (.exit 2))) (.block 3 (.reg e63r4 [0, 1, 4, 11, 12] 0)))
def e63r6 : EE := .q 2 .leq [.s 11, .s 12] none <|
 .q 4 .mv [.s 4] (some (.r 2, true)) <|
 .q 5 .mv [.s 0] (some (.r 2, true)) <|
 .q 6 .mv [.s 1] (some (.r 2, true)) <|
 .q 7 (.ixs 2) [.r 5, .r 6] (some (.r 2, true)) <|
 .q 8 (.lda 2) [.r 7] (some (.r 2, true)) <|
 .q 9 .mv [.s 0] (some (.r 2, true)) <|
 .q 10 .mv [.s 12] (some (.r 2, true)) <|
 .q 11 (.ixs 2) [.r 9, .r 10] (some (.r 2, true)) <|
 .q 12 (.lda 2) [.r 11] (some (.r 2, true)) <|
 .x 13 .callv [.r 4, .r 8, .r 12] (some (.r 2, true)) [] <|
 .q 14 .lss [.r 13, .c z] (some (.r 2, true)) <|
 .q 15 .pick [.r 2, .r 14, .c (.bool false)] none <|
 .out [(0, .s 0), (1, .s 1), (4, .s 4), (11, .s 11), (12, .s 12), (65, .r 15)]
def e63r7 : EE := .q 1 .sub [.s 12, .c (.int .i64 1)] none <|
 .out [(0, .s 0), (1, .s 1), (4, .s 4), (11, .s 11), (12, .r 1)]
def e63l8 : EC := (.seq (.seq (.reg e63r6 [0, 1, 4, 11, 12] 0) (.cond (.s 65) .skip (.exit 4))) (.block 5 (.reg e63r7 [0, 1, 4, 11, 12] 0)))
def e63r9 : EE := .q 2 .gtr [.s 11, .s 12] none <|
 .out [(0, .s 0), (1, .s 1), (4, .s 4), (11, .s 11), (12, .s 12), (70, .r 2)]
def e63r10 : EE := .q 6 (.ixs 2) [.s 0, .s 12] none <|
 .q 7 (.lda 2) [.r 6] none <|
 .q 10 (.ixs 2) [.s 0, .s 11] none <|
 .q 11 (.lda 2) [.r 10] none <|
 .q 12 (.ixs 2) [.s 0, .s 11] none <|
 .x 13 (.st 2) [.r 12, .r 7] none [] <|
 .q 14 (.ixs 2) [.s 0, .s 12] none <|
 .x 15 (.st 2) [.r 14, .r 11] none [] <|
 .out [(0, .s 0), (1, .s 1), (4, .s 4), (11, .s 11), (12, .s 12)]
def e63r11 : EE := .q 1 .add [.s 11, .c (.int .i64 1)] none <|
 .out [(0, .s 0), (1, .s 1), (4, .s 4), (11, .r 1), (12, .s 12)]
def e63r12 : EE := .q 1 .sub [.s 12, .c (.int .i64 1)] none <|
 .out [(0, .s 0), (1, .s 1), (4, .s 4), (11, .s 11), (12, .r 1)]
def e63l13 : EC := (.block 1 (.seq (.block 2 (.loop [0, 1, 4, 11, 12] e63l5)) (.seq (.block 4 (.loop [0, 1, 4, 11, 12] e63l8)) (.seq (.seq (.reg e63r9 [0, 1, 4, 11, 12] 0) (.cond (.s 70) (.exit 0) .skip)) (.seq (.reg e63r10 [0, 1, 4, 11, 12] 0) (.seq (.reg e63r11 [0, 1, 4, 11, 12] 0) (.reg e63r12 [0, 1, 4, 11, 12] 0)))))))
def e63r14 : EE := .out [(10, .s 11)]
def e63 : EFn := ⟨(.seq (.reg e63r0 [0, 1, 2, 3, 4] 0) (.seq (.reg e63r1 [0, 1, 2, 3, 4] 0) (.seq (.reg e63r2 [0, 1, 2, 4] 0) (.seq (.block 0 (.loop [0, 1, 4, 11, 12] e63l13)) (.seq (.reg e63r14 [11] 0) .ret))))), [.slot 10], 90, 0⟩
theorem g63 : Good Try.prog 63 e63 := ⟨Try.f63, Try.func63, by kernel_rfl, by kernel_rfl, by kernel_rfl, by kernel_rfl⟩
/-! slices.partitionCmpFunc[concord/api.Inst] -/
def e64r0 : EE := .out [(0, .s 0), (1, .s 1), (2, .s 2), (3, .s 3), (4, .s 4)]
def e64r1 : EE := .q 6 (.ixs 2) [.s 0, .s 3] none <|
 .q 7 (.lda 2) [.r 6] none <|
 .q 10 (.ixs 2) [.s 0, .s 1] none <|
 .q 11 (.lda 2) [.r 10] none <|
 .q 12 (.ixs 2) [.s 0, .s 1] none <|
 .x 13 (.st 2) [.r 12, .r 7] none [] <|
 .q 14 (.ixs 2) [.s 0, .s 3] none <|
 .x 15 (.st 2) [.r 14, .r 11] none [] <|
 .out [(0, .s 0), (1, .s 1), (2, .s 2), (4, .s 4)]
def e64r2 : EE := .q 1 .add [.s 1, .c (.int .i64 1)] none <|
 .q 3 .sub [.s 2, .c (.int .i64 1)] none <|
 .out [(0, .s 0), (1, .s 1), (4, .s 4), (12, .r 1), (13, .r 3)]
def e64r3 : EE := .q 2 .leq [.s 12, .s 13] none <|
 .q 4 .mv [.s 4] (some (.r 2, true)) <|
 .q 5 .mv [.s 0] (some (.r 2, true)) <|
 .q 6 .mv [.s 12] (some (.r 2, true)) <|
 .q 7 (.ixs 2) [.r 5, .r 6] (some (.r 2, true)) <|
 .q 8 (.lda 2) [.r 7] (some (.r 2, true)) <|
 .q 9 .mv [.s 0] (some (.r 2, true)) <|
 .q 10 .mv [.s 1] (some (.r 2, true)) <|
 .q 11 (.ixs 2) [.r 9, .r 10] (some (.r 2, true)) <|
 .q 12 (.lda 2) [.r 11] (some (.r 2, true)) <|
 .x 13 .callv [.r 4, .r 8, .r 12] (some (.r 2, true)) [] <|
 .q 14 .lss [.r 13, .c z] (some (.r 2, true)) <|
 .q 15 .pick [.r 2, .r 14, .c (.bool false)] none <|
 .out [(0, .s 0), (1, .s 1), (4, .s 4), (12, .s 12), (13, .s 13), (47, .r 15)]
def e64r4 : EE := .q 1 .add [.s 12, .c (.int .i64 1)] none <|
 .out [(0, .s 0), (1, .s 1), (4, .s 4), (12, .r 1), (13, .s 13)]
def e64l5 : EC := (.seq (.seq (.reg e64r3 [0, 1, 4, 12, 13] 0) (.cond (.s 47) .skip (.exit 0))) (.block 1 (.reg e64r4 [0, 1, 4, 12, 13] 0)))
def e64r6 : EE := .q 2 .leq [.s 12, .s 13] none <|
 .q 4 .mv [.s 4] (some (.r 2, true)) <|
 .q 5 .mv [.s 0] (some (.r 2, true)) <|
 .q 6 .mv [.s 13] (some (.r 2, true)) <|
 .q 7 (.ixs 2) [.r 5, .r 6] (some (.r 2, true)) <|
 .q 8 (.lda 2) [.r 7] (some (.r 2, true)) <|
 .q 9 .mv [.s 0] (some (.r 2, true)) <|
 .q 10 .mv [.s 1] (some (.r 2, true)) <|
 .q 11 (.ixs 2) [.r 9, .r 10] (some (.r 2, true)) <|
 .q 12 (.lda 2) [.r 11] (some (.r 2, true)) <|
 .x 13 .callv [.r 4, .r 8, .r 12] (some (.r 2, true)) [] <|
 .q 14 .lss [.r 13, .c z] (some (.r 2, true)) <|
 .q 15 .not [.r 14] (some (.r 2, true)) <|
 .q 16 .pick [.r 2, .r 15, .c (.bool false)] none <|
 .out [(0, .s 0), (1, .s 1), (4, .s 4), (12, .s 12), (13, .s 13), (66, .r 16)]
def e64r7 : EE := .q 1 .sub [.s 13, .c (.int .i64 1)] none <|
 .out [(0, .s 0), (1, .s 1), (4, .s 4), (12, .s 12), (13, .r 1)]
def e64l8 : EC := (.seq (.seq (.reg e64r6 [0, 1, 4, 12, 13] 0) (.cond (.s 66) .skip (.exit 2))) (.block 3 (.reg e64r7 [0, 1, 4, 12, 13] 0)))
def e64r9 : EE := .q 2 .gtr [.s 12, .s 13] none <|
 .out [(0, .s 0), (1, .s 1), (4, .s 4), (12, .s 12), (13, .s 13), (71, .r 2)]
def e64r10 : EE := .q 6 (.ixs 2) [.s 0, .s 1] none <|
 .q 7 (.lda 2) [.r 6] none <|
 .q 10 (.ixs 2) [.s 0, .s 13] none <|
 .q 11 (.lda 2) [.r 10] none <|
 .q 12 (.ixs 2) [.s 0, .s 13] none <|
 .x 13 (.st 2) [.r 12, .r 7] none [] <|
 .q 14 (.ixs 2) [.s 0, .s 1] none <|
 .x 15 (.st 2) [.r 14, .r 11] none [] <|
 .out [(13, .s 13)]
def e64r11 : EE := .out [(10, .s 13), (11, .c (.bool true))]
def e64r12 : EE := .q 6 (.ixs 2) [.s 0, .s 13] none <|
 .q 7 (.lda 2) [.r 6] none <|
 .q 10 (.ixs 2) [.s 0, .s 12] none <|
 .q 11 (.lda 2) [.r 10] none <|
 .q 12 (.ixs 2) [.s 0, .s 12] none <|
 .x 13 (.st 2) [.r 12, .r 7] none [] <|
 .q 14 (.ixs 2) [.s 0, .s 13] none <|
 .x 15 (.st 2) [.r 14, .r 11] none [] <|
 .out [(0, .s 0), (1, .s 1), (4, .s 4), (12, .s 12), (13, .s 13)]
def e64r13 : EE := .q 1 .add [.s 12, .c (.int .i64 1)] none <|
 .out [(0, .s 0), (1, .s 1), (4, .s 4), (12, .r 1), (13, .s 13)]
def e64r14 : EE := .q 1 .sub [.s 13, .c (.int .i64 1)] none <|
 .out [(0, .s 0), (1, .s 1), (4, .s 4), (12, .s 12), (13, .r 1)]
def e64r15 : EE := .q 2 .leq [.s 12, .s 13] none <|
 .q 4 .mv [.s 4] (some (.r 2, true)) <|
 .q 5 .mv [.s 0] (some (.r 2, true)) <|
 .q 6 .mv [.s 12] (some (.r 2, true)) <|
 .q 7 (.ixs 2) [.r 5, .r 6] (some (.r 2, true)) <|
 .q 8 (.lda 2) [.r 7] (some (.r 2, true)) <|
 .q 9 .mv [.s 0] (some (.r 2, true)) <|
 .q 10 .mv [.s 1] (some (.r 2, true)) <|
 .q 11 (.ixs 2) [.r 9, .r 10] (some (.r 2, true)) <|
 .q 12 (.lda 2) [.r 11] (some (.r 2, true)) <|
 .x 13 .callv [.r 4, .r 8, .r 12] (some (.r 2, true)) [] <|
 .q 14 .lss [.r 13, .c z] (some (.r 2, true)) <|
 .q 15 .pick [.r 2, .r 14, .c (.bool false)] none <|
 .out [(0, .s 0), (1, .s 1), (4, .s 4), (12, .s 12), (13, .s 13), (120, .r 15)]
def e64r16 : EE := .q 1 .add [.s 12, .c (.int .i64 1)] none <|
 .out [(0, .s 0), (1, .s 1), (4, .s 4), (12, .r 1), (13, .s 13)]
def e64l17 : EC := (.seq (.seq (.reg e64r15 [0, 1, 4, 12, 13] 0) (.cond (.s 120) .skip (.exit 6))) (.block 7 (.reg e64r16 [0, 1, 4, 12, 13] 0)))
def e64r18 : EE := .q 2 .leq [.s 12, .s 13] none <|
 .q 4 .mv [.s 4] (some (.r 2, true)) <|
 .q 5 .mv [.s 0] (some (.r 2, true)) <|
 .q 6 .mv [.s 13] (some (.r 2, true)) <|
 .q 7 (.ixs 2) [.r 5, .r 6] (some (.r 2, true)) <|
 .q 8 (.lda 2) [.r 7] (some (.r 2, true)) <|
 .q 9 .mv [.s 0] (some (.r 2, true)) <|
 .q 10 .mv [.s 1] (some (.r 2, true)) <|
 .q 11 (.ixs 2) [.r 9, .r 10] (some (.r 2, true)) <|
 .q 12 (.lda 2) [.r 11] (some (.r 2, true)) <|
 .x 13 .callv [.r 4, .r 8, .r 12] (some (.r 2, true)) [] <|
 .q 14 .lss [.r 13, .c z] (some (.r 2, true)) <|
 .q 15 .not [.r 14] (some (.r 2, true)) <|
 .q 16 .pick [.r 2, .r 15, .c (.bool false)] none <|
 .out [(0, .s 0), (1, .s 1), (4, .s 4), (12, .s 12), (13, .s 13), (139, .r 16)]
def e64r19 : EE := .q 1 .sub [.s 13, .c (.int .i64 1)] none <|
 .out [(0, .s 0), (1, .s 1), (4, .s 4), (12, .s 12), (13, .r 1)]
def e64l20 : EC := (.seq (.seq (.reg e64r18 [0, 1, 4, 12, 13] 0) (.cond (.s 139) .skip (.exit 8))) (.block 9 (.reg e64r19 [0, 1, 4, 12, 13] 0)))
def e64r21 : EE := .q 2 .gtr [.s 12, .s 13] none <|
 .out [(0, .s 0), (1, .s 1), (4, .s 4), (12, .s 12), (13, .s 13), (144, .r 2)]
def e64r22 : EE := .q 6 (.ixs 2) [.s 0, .s 13] none <|
 .q 7 (.lda 2) [.r 6] none <|
 .q 10 (.ixs 2) [.s 0, .s 12] none <|
 .q 11 (.lda 2) [.r 10] none <|
 .q 12 (.ixs 2) [.s 0, .s 12] none <|
 .x 13 (.st 2) [.r 12, .r 7] none [] <|
 .q 14 (.ixs 2) [.s 0, .s 13] none <|
 .x 15 (.st 2) [.r 14, .r 11] none [] <|
 .out [(0, .s 0), (1, .s 1), (4, .s 4), (12, .s 12), (13, .s 13)]
def e64r23 : EE := .q 1 .add [.s 12, .c (.int .i64 1)] none <|
 .out [(0, .s 0), (1, .s 1), (4, .s 4), (12, .r 1), (13, .s 13)]
def e64r24 : EE := .q 1 .sub [.s 13, .c (.int .i64 1)] none <|
 .out [(0, .s 0), (1, .s 1), (4, .s 4), (12, .s 12), (13, .r 1)]
def e64l25 : EC := (.block 5 (.seq (.block 6 (.loop [0, 1, 4, 12, 13] e64l17)) (.seq (.block 8 (.loop [0, 1, 4, 12, 13] e64l20)) (.seq (.seq (.reg e64r21 [0, 1, 4, 12, 13] 0) (.cond (.s 144) (.exit 4) .skip)) (.seq (.reg e64r22 [0, 1, 4, 12, 13] 0) (.seq (.reg e64r23 [0, 1, 4, 12, 13] 0) (.reg e64r24 [0, 1, 4, 12, 13] 0)))))))
def e64r26 : EE := .q 6 (.ixs 2) [.s 0, .s 1] none <|
 .q 7 (.lda 2) [.r 6] none <|
 .q 10 (.ixs 2) [.s 0, .s 13] none <|
 .q 11 (.lda 2) [.r 10] none <|
 .q 12 (.ixs 2) [.s 0, .s 13] none <|
 .x 13 (.st 2) [.r 12, .r 7] none [] <|
 .q 14 (.ixs 2) [.s 0, .s 1] none <|
 .x 15 (.st 2) [.r 14, .r 11] none [] <|
 .out [(13, .s 13)]
def e64r27 : EE := .out [(10, .s 13), (11, .c (.bool false))]
def e64 : EFn := ⟨(.seq (.reg e64r0 [0, 1, 2, 3, 4] 0) (.seq (.reg e64r1 [0, 1, 2, 3, 4] 0) (.seq (.reg e64r2 [0, 1, 2, 4] 0) (.seq (.block 0 (.loop [0, 1, 4, 12, 13] e64l5)) (.seq (.block 2 (.loop [0, 1, 4, 12, 13] e64l8)) (.seq (.seq (.reg e64r9 [0, 1, 4, 12, 13] 0) (.cond (.s 71) (.seq (.reg e64r10 [0, 1, 13] 0) (.seq (.reg e64r11 [13] 0) .ret)) .skip)) (.seq (.reg e64r12 [0, 1, 4, 12, 13] 0) (.seq (.reg e64r13 [0, 1, 4, 12, 13] 0) (.seq (.reg e64r14 [0, 1, 4, 12, 13] 0) (.seq (.block 4 (.loop [0, 1, 4, 12, 13] e64l25)) (.seq (.reg e64r26 [0, 1, 13] 0) (.seq (.reg e64r27 [13] 0) .ret)))))))))))), [.slot 10, .slot 11], 178, 0⟩
theorem g64 : Good Try.prog 64 e64 := ⟨Try.f64, Try.func64, by kernel_rfl, by kernel_rfl, by kernel_rfl, by kernel_rfl⟩
/-! math/bits.Len32 -/
def e65r0 : EE := .out [(0, .s 0), (2, .c z)]
def e65r1 : EE := .q 1 .geq [.s 0, .c (.int .u32 65536)] none <|
 .out [(0, .s 0), (2, .s 2), (4, .r 1)]
def e65r2 : EE := .q 1 .shr [.s 0, .c (.int .u64 16)] none <|
 .out [(0, .r 1)]
def e65r3 : EE := .out [(0, .s 0), (2, .c (.int .i64 16))]
def e65r4 : EE := .q 1 .geq [.s 0, .c (.int .u32 256)] none <|
 .out [(0, .s 0), (2, .s 2), (8, .r 1)]
def e65r5 : EE := .q 1 .shr [.s 0, .c (.int .u64 8)] none <|
 .out [(0, .r 1), (2, .s 2)]
def e65r6 : EE := .q 1 .add [.s 2, .c (.int .i64 8)] none <|
 .out [(0, .s 0), (2, .r 1)]
def e65r7 : EE := .q 2 (.conv .u8) [.s 0] none <|
 .q 3 .idxs [.c (.str [0, 1, 2, 2, 3, 3, 3, 3, 4, 4, 4, 4, 4, 4, 4, 4, 5, 5, 5, 5, 5, 5, 5, 5, 5, 5, 5, 5, 5, 5, 5, 5, 6, 6, 6, 6, 6, 6, 6, 6, 6, 6, 6, 6, 6, 6, 6, 6, 6, 6, 6, 6, 6, 6, 6, 6, 6, 6, 6, 6, 6, 6, 6, 6, 7, 7, 7, 7, 7, 7, 7, 7, 7, 7, 7, 7, 7, 7, 7, 7, 7, 7, 7, 7, 7, 7, 7, 7, 7, 7, 7, 7, 7, 7, 7, 7, 7, 7, 7, 7, 7, 7, 7, 7, 7, 7, 7, 7, 7, 7, 7, 7, 7, 7, 7, 7, 7, 7, 7, 7, 7, 7, 7, 7, 7, 7, 7, 7, 8, 8, 8, 8, 8, 8, 8, 8, 8, 8, 8, 8, 8, 8, 8, 8, 8, 8, 8, 8, 8, 8, 8, 8, 8, 8, 8, 8, 8, 8, 8, 8, 8, 8, 8, 8, 8, 8, 8, 8, 8, 8, 8, 8, 8, 8, 8, 8, 8, 8, 8, 8, 8, 8, 8, 8, 8, 8, 8, 8, 8, 8, 8, 8, 8, 8, 8, 8, 8, 8, 8, 8, 8, 8, 8, 8, 8, 8, 8, 8, 8, 8, 8, 8, 8, 8, 8, 8, 8, 8, 8, 8, 8, 8, 8, 8, 8, 8, 8, 8, 8, 8, 8, 8, 8, 8, 8, 8, 8, 8, 8, 8, 8, 8, 8, 8, 8, 8, 8, 8, 8, 8, 8, 8, 8, 8, 8, 8]), .r 2] none <|
 .q 4 (.conv .i64) [.r 3] none <|
 .q 5 .add [.s 2, .r 4] none <|
 .out [(2, .r 5)]
def e65 : EFn := ⟨(.seq (.reg e65r0 [0] 0) (.seq (.seq (.reg e65r1 [0, 2] 0) (.cond (.s 4) (.seq (.reg e65r2 [0] 0) (.reg e65r3 [0] 0)) .skip)) (.seq (.seq (.reg e65r4 [0, 2] 0) (.cond (.s 8) (.seq (.reg e65r5 [0, 2] 0) (.reg e65r6 [0, 2] 0)) .skip)) (.seq (.reg e65r7 [0, 2] 0) .ret)))), [.slot 2], 19, 0⟩
theorem g65 : Good Try.prog 65 e65 := ⟨Try.f65, Try.func65, by kernel_rfl, by kernel_rfl, by kernel_rfl, by kernel_rfl⟩
/-! math/bits.Len64 -/
def e66r0 : EE := .out [(0, .s 0), (2, .c z)]
def e66r1 : EE := .q 1 .geq [.s 0, .c (.int .u64 4294967296)] none <|
 .out [(0, .s 0), (2, .s 2), (4, .r 1)]
def e66r2 : EE := .q 1 .shr [.s 0, .c (.int .u64 32)] none <|
 .out [(0, .r 1)]
def e66r3 : EE := .out [(0, .s 0), (2, .c (.int .i64 32))]
def e66r4 : EE := .q 1 .geq [.s 0, .c (.int .u64 65536)] none <|
 .out [(0, .s 0), (2, .s 2), (8, .r 1)]
def e66r5 : EE := .q 1 .shr [.s 0, .c (.int .u64 16)] none <|
 .out [(0, .r 1), (2, .s 2)]
def e66r6 : EE := .q 1 .add [.s 2, .c (.int .i64 16)] none <|
 .out [(0, .s 0), (2, .r 1)]
def e66r7 : EE := .q 1 .geq [.s 0, .c (.int .u64 256)] none <|
 .out [(0, .s 0), (2, .s 2), (14, .r 1)]
def e66r8 : EE := .q 1 .shr [.s 0, .c (.int .u64 8)] none <|
 .out [(0, .r 1), (2, .s 2)]
def e66r9 : EE := .q 1 .add [.s 2, .c (.int .i64 8)] none <|
 .out [(0, .s 0), (2, .r 1)]
def e66r10 : EE := .q 2 (.conv .u8) [.s 0] none <|
 .q 3 .idxs [.c (.str [0, 1, 2, 2, 3, 3, 3, 3, 4, 4, 4, 4, 4, 4, 4, 4, 5, 5, 5, 5, 5, 5, 5, 5, 5, 5, 5, 5, 5, 5, 5, 5, 6, 6, 6, 6, 6, 6, 6, 6, 6, 6, 6, 6, 6, 6, 6, 6, 6, 6, 6, 6, 6, 6, 6, 6, 6, 6, 6, 6, 6, 6, 6, 6, 7, 7, 7, 7, 7, 7, 7, 7, 7, 7, 7, 7, 7, 7, 7, 7, 7, 7, 7, 7, 7, 7, 7, 7, 7, 7, 7, 7, 7, 7, 7, 7, 7, 7, 7, 7, 7, 7, 7, 7, 7, 7, 7, 7, 7, 7, 7, 7, 7, 7, 7, 7, 7, 7, 7, 7, 7, 7, 7, 7, 7, 7, 7, 7, 8, 8, 8, 8, 8, 8, 8, 8, 8, 8, 8, 8, 8, 8, 8, 8, 8, 8, 8, 8, 8, 8, 8, 8, 8, 8, 8, 8, 8, 8, 8, 8, 8, 8, 8, 8, 8, 8, 8, 8, 8, 8, 8, 8, 8, 8, 8, 8, 8, 8, 8, 8, 8, 8, 8, 8, 8, 8, 8, 8, 8, 8, 8, 8, 8, 8, 8, 8, 8, 8, 8, 8, 8, 8, 8, 8, 8, 8, 8, 8, 8, 8, 8, 8, 8, 8, 8, 8, 8, 8, 8, 8, 8, 8, 8, 8, 8, 8, 8, 8, 8, 8, 8, 8, 8, 8, 8, 8, 8, 8, 8, 8, 8, 8, 8, 8, 8, 8, 8, 8, 8, 8, 8, 8, 8, 8, 8, 8]), .r 2] none <|
 .q 4 (.conv .i64) [.r 3] none <|
 .q 5 .add [.s 2, .r 4] none <|
 .out [(2, .r 5)]
def e66 : EFn := ⟨(.seq (.reg e66r0 [0] 0) (.seq (.seq (.reg e66r1 [0, 2] 0) (.cond (.s 4) (.seq (.reg e66r2 [0] 0) (.reg e66r3 [0] 0)) .skip)) (.seq (.seq (.reg e66r4 [0, 2] 0) (.cond (.s 8) (.seq (.reg e66r5 [0, 2] 0) (.reg e66r6 [0, 2] 0)) .skip)) (.seq (.seq (.reg e66r7 [0, 2] 0) (.cond (.s 14) (.seq (.reg e66r8 [0, 2] 0) (.reg e66r9 [0, 2] 0)) .skip)) (.seq (.reg e66r10 [0, 2] 0) .ret))))), [.slot 2], 25, 0⟩
theorem g66 : Good Try.prog 66 e66 := ⟨Try.f66, Try.func66, by kernel_rfl, by kernel_rfl, by kernel_rfl, by kernel_rfl⟩
/-! (*concord/graph.walk).come -/
def e67r0 : EE := .x 0 (.alc [z, z] 125) [] none [] <|
 .out [(0, .s 0), (1, .s 1), (4, .r 0)]
def e67r1 : EE := .q 1 .nl [.s 0] none <|
 .q 2 (.fld 7) [.r 1] none <|
 .q 3 .ld [.r 2] none <|
 .q 4 .add [.r 3, .c (.int .i64 1)] none <|
 .q 5 .nl [.s 0] none <|
 .q 6 (.fld 7) [.r 5] none <|
 .x 7 (.st 1) [.r 6, .r 4] none [] <|
 .out [(0, .s 0), (1, .s 1), (4, .s 4)]
def e67r2 : EE := .q 1 .nl [.s 0] none <|
 .q 2 (.fld 1) [.r 1] none <|
 .q 3 .ld [.r 2] none <|
 .q 6 .nl [.s 0] none <|
 .q 7 (.fld 2) [.r 6] none <|
 .q 8 .ld [.r 7] none <|
 .q 11 .nl [.s 0] none <|
 .q 12 (.fld 3) [.r 11] none <|
 .q 13 .ld [.r 12] none <|
 .q 16 .nl [.s 0] none <|
 .q 17 (.fld 7) [.r 16] none <|
 .q 18 .ld [.r 17] none <|
 .q 20 .nl [.s 0] none <|
 .q 21 (.fld 7) [.r 20] none <|
 .q 22 .ld [.r 21] none <|
 .q 23 (.ixs 1) [.r 3, .s 1] none <|
 .x 24 (.st 1) [.r 23, .r 18] none [] <|
 .q 25 (.ixs 1) [.r 8, .s 1] none <|
 .x 26 (.st 1) [.r 25, .r 22] none [] <|
 .q 27 (.ixs 1) [.r 13, .s 1] none <|
 .x 28 (.st 1) [.r 27, .c (.bool true)] none [] <|
 .out [(0, .s 0), (1, .s 1), (4, .s 4)]
def e67r3 : EE := .q 2 .nl [.s 0] none <|
 .q 3 (.fld 4) [.r 2] none <|
 .q 4 .ld [.r 3] none <|
 .x 6 (.bsl 3 1 [z] [(0, 1)]) [.s 1] none [] <|
 .x 7 (.app 3 1 8 [z]) [.r 4, .r 6] none [] <|
 .q 8 .nl [.s 0] none <|
 .q 9 (.fld 4) [.r 8] none <|
 .x 10 (.st 1) [.r 9, .r 7] none [] <|
 .out [(1, .s 1), (4, .s 4)]
def e67r4 : EE := .q 1 (.bld [z, z] [(0, 1), (1, 1)]) [.s 1, .c z] none <|
 .x 2 (.st 2) [.s 4, .r 1] none [] <|
 .out [(4, .s 4)]
def e67 : EFn := ⟨(.seq (.reg e67r0 [0, 1] 0) (.seq (.reg e67r1 [0, 1, 4] 0) (.seq (.reg e67r2 [0, 1, 4] 0) (.seq (.reg e67r3 [0, 1, 4] 0) (.seq (.reg e67r4 [1, 4] 0) .ret))))), [.cells 4 2], 50, 0⟩
theorem g67 : Good Try.prog 67 e67 := ⟨Try.f67, Try.func67, by kernel_rfl, by kernel_rfl, by kernel_rfl, by kernel_rfl⟩
/-! (*concord/graph.walk).leave -/
def e68r0 : EE := .q 1 .nl [.s 0] none <|
 .q 2 (.fld 2) [.r 1] none <|
 .q 3 .ld [.r 2] none <|
 .q 5 (.ixs 1) [.r 3, .s 1] none <|
 .q 6 .ld [.r 5] none <|
 .q 8 .nl [.s 0] none <|
 .q 9 (.fld 1) [.r 8] none <|
 .q 10 .ld [.r 9] none <|
 .q 12 (.ixs 1) [.r 10, .s 1] none <|
 .q 13 .ld [.r 12] none <|
 .q 14 .neq [.r 6, .r 13] none <|
 .out [(0, .s 0), (1, .s 1), (19, .r 14)]
def e68r1 : EE := .q 1 .nl [.s 0] none <|
 .q 2 (.fld 4) [.r 1] none <|
 .q 3 .ld [.r 2] none <|
 .q 5 .nl [.s 0] none <|
 .q 6 (.fld 4) [.r 5] none <|
 .q 7 .ld [.r 6] none <|
 .q 8 .len [.r 7] none <|
 .q 9 .sub [.r 8, .c (.int .i64 1)] none <|
 .q 10 (.ixs 1) [.r 3, .r 9] none <|
 .q 11 .ld [.r 10] none <|
 .out [(0, .s 0), (1, .s 1), (4, .r 11)]
def e68r2 : EE := .q 2 .nl [.s 0] none <|
 .q 3 (.fld 4) [.r 2] none <|
 .q 4 .ld [.r 3] none <|
 .q 6 .nl [.s 0] none <|
 .q 7 (.fld 4) [.r 6] none <|
 .q 8 .ld [.r 7] none <|
 .q 9 .len [.r 8] none <|
 .q 10 .sub [.r 9, .c (.int .i64 1)] none <|
 .q 11 (.slc 1 false true) [.r 4, .r 10] none <|
 .q 12 .nl [.s 0] none <|
 .q 13 (.fld 4) [.r 12] none <|
 .x 14 (.st 1) [.r 13, .r 11] none [] <|
 .out [(0, .s 0), (1, .s 1), (4, .s 4)]
def e68r3 : EE := .q 1 .nl [.s 0] none <|
 .q 2 (.fld 3) [.r 1] none <|
 .q 3 .ld [.r 2] none <|
 .q 6 .nl [.s 0] none <|
 .q 7 (.fld 5) [.r 6] none <|
 .q 8 .ld [.r 7] none <|
 .q 11 .nl [.s 0] none <|
 .q 12 (.fld 6) [.r 11] none <|
 .q 13 .ld [.r 12] none <|
 .q 14 (.ixs 1) [.r 3, .s 4] none <|
 .x 15 (.st 1) [.r 14, .c (.bool false)] none [] <|
 .q 16 (.ixs 1) [.r 8, .s 4] none <|
 .x 17 (.st 1) [.r 16, .r 13] none [] <|
 .out [(0, .s 0), (1, .s 1), (4, .s 4)]
def e68r4 : EE := .q 2 .eql [.s 4, .s 1] none <|
 .out [(0, .s 0), (1, .s 1), (64, .r 2)]
def e68l5 : EC := (.block 1 (.seq (.reg e68r1 [0, 1] 0) (.seq (.reg e68r2 [0, 1, 4] 0) (.seq (.reg e68r3 [0, 1, 4] 0) (.seq (.reg e68r4 [0, 1, 4] 0) (.cond (.s 64) (.exit 0) .skip))))))
def e68r6 : EE := .q 1 .nl [.s 0] none <|
 .q 2 (.fld 6) [.r 1] none <|
 .q 3 .ld [.r 2] none <|
 .q 4 .add [.r 3, .c (.int .i64 1)] none <|
 .q 5 .nl [.s 0] none <|
 .q 6 (.fld 6) [.r 5] none <|
 .x 7 (.st 1) [.r 6, .r 4] none [] <|
 .out []
def e68 : EFn := ⟨(.seq (.seq (.reg e68r0 [0, 1] 0) (.cond (.s 19) .ret .skip)) (.seq (.block 0 (.loop [0, 1] e68l5)) (.reg e68r6 [0] 0))), [], 72, 0⟩
theorem g68 : Good Try.prog 68 e68 := ⟨Try.f68, Try.func68, by kernel_rfl, by kernel_rfl, by kernel_rfl, by kernel_rfl⟩
/-! slices.insertionSortCmpFunc[int] -/
def e69r0 : EE := .q 1 .add [.s 1, .c (.int .i64 1)] none <|
 .out [(0, .s 0), (1, .s 1), (2, .s 2), (3, .s 3), (8, .r 1)]
def e69r1 : EE := .q 2 .lss [.s 8, .s 2] none <|
 .out [(0, .s 0), (1, .s 1), (2, .s 2), (3, .s 3), (8, .s 8), (14, .r 2)]
def e69r2 : EE := .out [(0, .s 0), (1, .s 1), (2, .s 2), (3, .s 3), (8, .s 8), (9, .s 8)]
def e69r3 : EE := .q 2 .gtr [.s 9, .s 1] none <|
 .q 4 .mv [.s 3] (some (.r 2, true)) <|
 .q 5 .mv [.s 0] (some (.r 2, true)) <|
 .q 6 .mv [.s 9] (some (.r 2, true)) <|
 .q 7 (.ixs 1) [.r 5, .r 6] (some (.r 2, true)) <|
 .q 8 .ld [.r 7] (some (.r 2, true)) <|
 .q 9 .mv [.s 0] (some (.r 2, true)) <|
 .q 10 .mv [.s 9] (some (.r 2, true)) <|
 .q 11 .sub [.r 10, .c (.int .i64 1)] (some (.r 2, true)) <|
 .q 12 (.ixs 1) [.r 9, .r 11] (some (.r 2, true)) <|
 .q 13 .ld [.r 12] (some (.r 2, true)) <|
 .x 14 .callv [.r 4, .r 8, .r 13] (some (.r 2, true)) [] <|
 .q 15 .lss [.r 14, .c z] (some (.r 2, true)) <|
 .q 16 .pick [.r 2, .r 15, .c (.bool false)] none <|
 .out [(0, .s 0), (1, .s 1), (2, .s 2), (3, .s 3), (8, .s 8), (9, .s 9), (34, .r 16)]
def e69r4 : EE := .q 4 .sub [.s 9, .c (.int .i64 1)] none <|
 .q 7 .sub [.s 9, .c (.int .i64 1)] none <|
 .q 8 (.ixs 1) [.s 0, .r 7] none <|
 .q 9 .ld [.r 8] none <|
 .q 12 (.ixs 1) [.s 0, .s 9] none <|
 .q 13 .ld [.r 12] none <|
 .q 14 (.ixs 1) [.s 0, .s 9] none <|
 .x 15 (.st 1) [.r 14, .r 9] none [] <|
 .q 16 (.ixs 1) [.s 0, .r 4] none <|
 .x 17 (.st 1) [.r 16, .r 13] none [] <|
 .out [(0, .s 0), (1, .s 1), (2, .s 2), (3, .s 3), (8, .s 8), (9, .s 9)]
def e69r5 : EE := .q 1 .sub [.s 9, .c (.int .i64 1)] none <|
 .out [(0, .s 0), (1, .s 1), (2, .s 2), (3, .s 3), (8, .s 8), (9, .r 1)]
def e69l6 : EC := (.seq (.seq (.reg e69r3 [0, 1, 2, 3, 8, 9] 0) (.cond (.s 34) .skip (.exit 2))) (.seq (.block 3 (.reg e69r4 [0, 1, 2, 3, 8, 9] 0)) (.reg e69r5 [0, 1, 2, 3, 8, 9] 0)))
def e69r7 : EE := .q 1 .add [.s 8, .c (.int .i64 1)] none <|
 .out [(0, .s 0), (1, .s 1), (2, .s 2), (3, .s 3), (8, .r 1)]
def e69l8 : EC := (.seq (.seq (.reg e69r1 [0, 1, 2, 3, 8] 0) (.cond (.s 14) .skip (.exit 0))) (.seq (.block 1 (.seq (.reg e69r2 [0, 1, 2, 3, 8] 0) (.block 2 (.loop [0, 1, 2, 3, 8, 9] e69l6)))) (.reg e69r7 [0, 1, 2, 3, 8] 0)))
def e69 : EFn := ⟨(.seq (.reg e69r0 [0, 1, 2, 3] 0) (.block 0 (.loop [0, 1, 2, 3, 8] e69l8))), [], 53, 0⟩
theorem g69 : Good Try.prog 69 e69 := ⟨Try.f69, Try.func69, by kernel_rfl, by kernel_rfl, by kernel_rfl, by kernel_rfl⟩
/-! slices.symMergeCmpFunc[int] -/
def e70r0 : EE := .q 2 .sub [.s 2, .s 1] none <|
 .q 3 .eql [.r 2, .c (.int .i64 1)] none <|
 .out [(0, .s 0), (1, .s 1), (2, .s 2), (3, .s 3), (4, .s 4), (28, .r 3)]
def e70r1 : EE := .out [(0, .s 0), (1, .s 1), (3, .s 3), (4, .s 4), (10, .s 2)]
def e70r2 : EE := .out [(0, .s 0), (1, .s 1), (4, .s 4), (10, .s 10), (11, .s 3)]
def e70r3 : EE := .q 2 .lss [.s 10, .s 11] none <|
 .out [(0, .s 0), (1, .s 1), (4, .s 4), (10, .s 10), (11, .s 11), (33, .r 2)]
def e70r4 : EE := .q 2 .add [.s 10, .s 11] none <|
 .q 3 (.conv .u64) [.r 2] none <|
 .q 4 .shr [.r 3, .c (.int .u64 1)] none <|
 .q 5 (.conv .i64) [.r 4] none <|
 .out [(0, .s 0), (1, .s 1), (4, .s 4), (10, .s 10), (11, .s 11), (12, .r 5)]
def e70r5 : EE := .q 3 (.ixs 1) [.s 0, .s 12] none <|
 .q 4 .ld [.r 3] none <|
 .q 7 (.ixs 1) [.s 0, .s 1] none <|
 .q 8 .ld [.r 7] none <|
 .x 9 .callv [.s 4, .r 4, .r 8] none [] <|
 .q 10 .lss [.r 9, .c z] none <|
 .out [(0, .s 0), (1, .s 1), (4, .s 4), (10, .s 10), (11, .s 11), (12, .s 12), (50, .r 10)]
def e70r6 : EE := .q 1 .add [.s 12, .c (.int .i64 1)] none <|
 .out [(0, .s 0), (1, .s 1), (4, .s 4), (10, .r 1), (11, .s 11)]
def e70r7 : EE := .out [(0, .s 0), (1, .s 1), (4, .s 4), (10, .s 10), (11, .s 12)]
def e70l8 : EC := (.seq (.seq (.reg e70r3 [0, 1, 4, 10, 11] 0) (.cond (.s 33) .skip (.exit 0))) (.block 1 (.seq (.reg e70r4 [0, 1, 4, 10, 11] 0) (.seq (.reg e70r5 [0, 1, 4, 10, 11, 12] 0) (.cond (.s 50) (.reg e70r6 [0, 1, 4, 11, 12] 0) (.reg e70r7 [0, 1, 4, 10, 12] 0))))))
def e70r9 : EE := .out [(0, .s 0), (10, .s 10), (13, .s 1)]
def e70r10 : EE := .q 2 .sub [.s 10, .c (.int .i64 1)] none <|
 .q 3 .lss [.s 13, .r 2] none <|
 .out [(0, .s 0), (10, .s 10), (13, .s 13), (58, .r 3)]
def e70r11 : EE := .q 4 .add [.s 13, .c (.int .i64 1)] none <|
 .q 7 .add [.s 13, .c (.int .i64 1)] none <|
 .q 8 (.ixs 1) [.s 0, .r 7] none <|
 .q 9 .ld [.r 8] none <|
 .q 12 (.ixs 1) [.s 0, .s 13] none <|
 .q 13 .ld [.r 12] none <|
 .q 14 (.ixs 1) [.s 0, .s 13] none <|
 .x 15 (.st 1) [.r 14, .r 9] none [] <|
 .q 16 (.ixs 1) [.s 0, .r 4] none <|
 .x 17 (.st 1) [.r 16, .r 13] none [] <|
 .out [(0, .s 0), (10, .s 10), (13, .s 13)]
def e70r12 : EE := .q 1 .add [.s 13, .c (.int .i64 1)] none <|
 .out [(0, .s 0), (10, .s 10), (13, .r 1)]
def e70l13 : EC := (.seq (.seq (.reg e70r10 [0, 10, 13] 0) (.cond (.s 58) .skip (.exit 2))) (.seq (.block 3 (.reg e70r11 [0, 10, 13] 0)) (.reg e70r12 [0, 10, 13] 0)))
def e70r14 : EE := .q 2 .sub [.s 3, .s 2] none <|
 .q 3 .eql [.r 2, .c (.int .i64 1)] none <|
 .out [(0, .s 0), (1, .s 1), (2, .s 2), (3, .s 3), (4, .s 4), (80, .r 3)]
def e70r15 : EE := .out [(0, .s 0), (2, .s 2), (4, .s 4), (14, .s 1)]
def e70r16 : EE := .out [(0, .s 0), (2, .s 2), (4, .s 4), (14, .s 14), (15, .s 2)]
def e70r17 : EE := .q 2 .lss [.s 14, .s 15] none <|
 .out [(0, .s 0), (2, .s 2), (4, .s 4), (14, .s 14), (15, .s 15), (85, .r 2)]
def e70r18 : EE := .q 2 .add [.s 14, .s 15] none <|
 .q 3 (.conv .u64) [.r 2] none <|
 .q 4 .shr [.r 3, .c (.int .u64 1)] none <|
 .q 5 (.conv .i64) [.r 4] none <|
 .out [(0, .s 0), (2, .s 2), (4, .s 4), (14, .s 14), (15, .s 15), (16, .r 5)]
def e70r19 : EE := .q 3 (.ixs 1) [.s 0, .s 2] none <|
 .q 4 .ld [.r 3] none <|
 .q 7 (.ixs 1) [.s 0, .s 16] none <|
 .q 8 .ld [.r 7] none <|
 .x 9 .callv [.s 4, .r 4, .r 8] none [] <|
 .q 10 .lss [.r 9, .c z] none <|
 .q 11 .not [.r 10] none <|
 .out [(0, .s 0), (2, .s 2), (4, .s 4), (14, .s 14), (15, .s 15), (16, .s 16), (103, .r 11)]
def e70r20 : EE := .q 1 .add [.s 16, .c (.int .i64 1)] none <|
 .out [(0, .s 0), (2, .s 2), (4, .s 4), (14, .r 1), (15, .s 15)]
def e70r21 : EE := .out [(0, .s 0), (2, .s 2), (4, .s 4), (14, .s 14), (15, .s 16)]
def e70l22 : EC := (.seq (.seq (.reg e70r17 [0, 2, 4, 14, 15] 0) (.cond (.s 85) .skip (.exit 4))) (.block 5 (.seq (.reg e70r18 [0, 2, 4, 14, 15] 0) (.seq (.reg e70r19 [0, 2, 4, 14, 15, 16] 0) (.cond (.s 103) (.reg e70r20 [0, 2, 4, 15, 16] 0) (.reg e70r21 [0, 2, 4, 14, 16] 0))))))
def e70r23 : EE := .out [(0, .s 0), (14, .s 14), (17, .s 2)]
def e70r24 : EE := .q 2 .gtr [.s 17, .s 14] none <|
 .out [(0, .s 0), (14, .s 14), (17, .s 17), (110, .r 2)]
def e70r25 : EE := .q 4 .sub [.s 17, .c (.int .i64 1)] none <|
 .q 7 .sub [.s 17, .c (.int .i64 1)] none <|
 .q 8 (.ixs 1) [.s 0, .r 7] none <|
 .q 9 .ld [.r 8] none <|
 .q 12 (.ixs 1) [.s 0, .s 17] none <|
 .q 13 .ld [.r 12] none <|
 .q 14 (.ixs 1) [.s 0, .s 17] none <|
 .x 15 (.st 1) [.r 14, .r 9] none [] <|
 .q 16 (.ixs 1) [.s 0, .r 4] none <|
 .x 17 (.st 1) [.r 16, .r 13] none [] <|
 .out [(0, .s 0), (14, .s 14), (17, .s 17)]
def e70r26 : EE := .q 1 .sub [.s 17, .c (.int .i64 1)] none <|
 .out [(0, .s 0), (14, .s 14), (17, .r 1)]
def e70l27 : EC := (.seq (.seq (.reg e70r24 [0, 14, 17] 0) (.cond (.s 110) .skip (.exit 6))) (.seq (.block 7 (.reg e70r25 [0, 14, 17] 0)) (.reg e70r26 [0, 14, 17] 0)))
def e70r28 : EE := .q 2 .add [.s 1, .s 3] none <|
 .q 3 (.conv .u64) [.r 2] none <|
 .q 4 .shr [.r 3, .c (.int .u64 1)] none <|
 .q 5 (.conv .i64) [.r 4] none <|
 .out [(0, .s 0), (1, .s 1), (2, .s 2), (3, .s 3), (4, .s 4), (18, .r 5)]
def e70r29 : EE := .q 2 .add [.s 18, .s 2] none <|
 .out [(0, .s 0), (1, .s 1), (2, .s 2), (3, .s 3), (4, .s 4), (18, .s 18), (19, .r 2)]
def e70r30 : EE := .out [(0, .s 0), (1, .s 1), (2, .s 2), (3, .s 3), (4, .s 4), (18, .s 18), (19, .s 19)]
def e70r31 : EE := .q 2 .gtr [.s 2, .s 18] none <|
 .out [(0, .s 0), (1, .s 1), (2, .s 2), (3, .s 3), (4, .s 4), (18, .s 18), (19, .s 19), (140, .r 2)]
def e70r32 : EE := .q 2 .sub [.s 19, .s 3] none <|
 .out [(0, .s 0), (1, .s 1), (2, .s 2), (3, .s 3), (4, .s 4), (18, .s 18), (19, .s 19), (20, .r 2)]
def e70r33 : EE := .out [(0, .s 0), (1, .s 1), (2, .s 2), (3, .s 3), (4, .s 4), (18, .s 18), (19, .s 19), (20, .s 20), (21, .s 18)]
def e70r34 : EE := .out [(0, .s 0), (1, .s 1), (2, .s 2), (3, .s 3), (4, .s 4), (18, .s 18), (19, .s 19), (20, .s 1)]
def e70r35 : EE := .out [(0, .s 0), (1, .s 1), (2, .s 2), (3, .s 3), (4, .s 4), (18, .s 18), (19, .s 19), (20, .s 20), (21, .s 2)]
def e70r36 : EE := .q 1 .sub [.s 19, .c (.int .i64 1)] none <|
 .out [(0, .s 0), (1, .s 1), (2, .s 2), (3, .s 3), (4, .s 4), (18, .s 18), (19, .s 19), (20, .s 20), (21, .s 21), (22, .r 1)]
def e70r37 : EE := .q 2 .lss [.s 20, .s 21] none <|
 .out [(0, .s 0), (1, .s 1), (2, .s 2), (3, .s 3), (4, .s 4), (18, .s 18), (19, .s 19), (20, .s 20), (21, .s 21), (22, .s 22), (151, .r 2)]
def e70r38 : EE := .q 2 .add [.s 20, .s 21] none <|
 .q 3 (.conv .u64) [.r 2] none <|
 .q 4 .shr [.r 3, .c (.int .u64 1)] none <|
 .q 5 (.conv .i64) [.r 4] none <|
 .out [(0, .s 0), (1, .s 1), (2, .s 2), (3, .s 3), (4, .s 4), (18, .s 18), (19, .s 19), (20, .s 20), (21, .s 21), (22, .s 22), (23, .r 5)]
def e70r39 : EE := .q 4 .sub [.s 22, .s 23] none <|
 .q 5 (.ixs 1) [.s 0, .r 4] none <|
 .q 6 .ld [.r 5] none <|
 .q 9 (.ixs 1) [.s 0, .s 23] none <|
 .q 10 .ld [.r 9] none <|
 .x 11 .callv [.s 4, .r 6, .r 10] none [] <|
 .q 12 .lss [.r 11, .c z] none <|
 .q 13 .not [.r 12] none <|
 .out [(0, .s 0), (1, .s 1), (2, .s 2), (3, .s 3), (4, .s 4), (18, .s 18), (19, .s 19), (20, .s 20), (21, .s 21), (22, .s 22), (23, .s 23), (171, .r 13)]
def e70r40 : EE := .q 1 .add [.s 23, .c (.int .i64 1)] none <|
 .out [(0, .s 0), (1, .s 1), (2, .s 2), (3, .s 3), (4, .s 4), (18, .s 18), (19, .s 19), (20, .r 1), (21, .s 21), (22, .s 22)]
def e70r41 : EE := .out [(0, .s 0), (1, .s 1), (2, .s 2), (3, .s 3), (4, .s 4), (18, .s 18), (19, .s 19), (20, .s 20), (21, .s 23), (22, .s 22)]
def e70l42 : EC := (.seq (.seq (.reg e70r37 [0, 1, 2, 3, 4, 18, 19, 20, 21, 22] 0) (.cond (.s 151) .skip (.exit 8))) (.block 9 (.seq (.reg e70r38 [0, 1, 2, 3, 4, 18, 19, 20, 21, 22] 0) (.seq (.reg e70r39 [0, 1, 2, 3, 4, 18, 19, 20, 21, 22, 23] 0) (.cond (.s 171) (.reg e70r40 [0, 1, 2, 3, 4, 18, 19, 21, 22, 23] 0) (.reg e70r41 [0, 1, 2, 3, 4, 18, 19, 20, 22, 23] 0))))))
def e70r43 : EE := .q 2 .sub [.s 19, .s 20] none <|
 .out [(0, .s 0), (1, .s 1), (2, .s 2), (3, .s 3), (4, .s 4), (18, .s 18), (20, .s 20), (24, .r 2)]
def e70r44 : EE := .q 2 .lss [.s 20, .s 2] none <|
 .q 4 .mv [.s 2] (some (.r 2, true)) <|
 .q 5 .mv [.s 24] (some (.r 2, true)) <|
 .q 6 .lss [.r 4, .r 5] (some (.r 2, true)) <|
 .q 7 .pick [.r 2, .r 6, .c (.bool false)] none <|
 .out [(0, .s 0), (1, .s 1), (2, .s 2), (3, .s 3), (4, .s 4), (18, .s 18), (20, .s 20), (24, .s 24), (185, .r 7)]
def e70r45 : EE := .x 5 (.call 76) [.s 0, .s 20, .s 2, .s 24, .s 4] none [] <|
 .out [(0, .s 0), (1, .s 1), (3, .s 3), (4, .s 4), (18, .s 18), (20, .s 20), (24, .s 24)]
def e70r46 : EE := .q 2 .lss [.s 1, .s 20] none <|
 .q 4 .mv [.s 20] (some (.r 2, true)) <|
 .q 5 .mv [.s 18] (some (.r 2, true)) <|
 .q 6 .lss [.r 4, .r 5] (some (.r 2, true)) <|
 .q 7 .pick [.r 2, .r 6, .c (.bool false)] none <|
 .out [(0, .s 0), (1, .s 1), (3, .s 3), (4, .s 4), (18, .s 18), (20, .s 20), (24, .s 24), (199, .r 7)]
def e70r47 : EE := .x 5 (.call 70) [.s 0, .s 1, .s 20, .s 18, .s 4] none [] <|
 .out [(0, .s 0), (3, .s 3), (4, .s 4), (18, .s 18), (24, .s 24)]
def e70r48 : EE := .q 2 .lss [.s 18, .s 24] none <|
 .q 4 .mv [.s 24] (some (.r 2, true)) <|
 .q 5 .mv [.s 3] (some (.r 2, true)) <|
 .q 6 .lss [.r 4, .r 5] (some (.r 2, true)) <|
 .q 7 .pick [.r 2, .r 6, .c (.bool false)] none <|
 .out [(0, .s 0), (3, .s 3), (4, .s 4), (18, .s 18), (24, .s 24), (213, .r 7)]
def e70r49 : EE := .x 5 (.call 70) [.s 0, .s 18, .s 24, .s 3, .s 4] none [] <|
 .out []
def e70 : EFn := ⟨(.seq (.seq (.reg e70r0 [0, 1, 2, 3, 4] 0) (.cond (.s 28) (.seq (.reg e70r1 [0, 1, 2, 3, 4] 0) (.seq (.reg e70r2 [0, 1, 3, 4, 10] 0) (.seq (.block 0 (.loop [0, 1, 4, 10, 11] e70l8)) (.seq (.seq (.reg e70r9 [0, 1, 10] 0) (.block 2 (.loop [0, 10, 13] e70l13))) .ret)))) .skip)) (.seq (.seq (.reg e70r14 [0, 1, 2, 3, 4] 0) (.cond (.s 80) (.seq (.reg e70r15 [0, 1, 2, 4] 0) (.seq (.reg e70r16 [0, 2, 4, 14] 0) (.seq (.block 4 (.loop [0, 2, 4, 14, 15] e70l22)) (.seq (.seq (.reg e70r23 [0, 2, 14] 0) (.block 6 (.loop [0, 14, 17] e70l27))) .ret)))) .skip)) (.seq (.reg e70r28 [0, 1, 2, 3, 4] 0) (.seq (.reg e70r29 [0, 1, 2, 3, 4, 18] 0) (.seq (.reg e70r30 [0, 1, 2, 3, 4, 18, 19] 0) (.seq (.seq (.reg e70r31 [0, 1, 2, 3, 4, 18, 19] 0) (.cond (.s 140) (.seq (.reg e70r32 [0, 1, 2, 3, 4, 18, 19] 0) (.reg e70r33 [0, 1, 2, 3, 4, 18, 19, 20] 0)) (.seq (.reg e70r34 [0, 1, 2, 3, 4, 18, 19] 0) (.reg e70r35 [0, 1, 2, 3, 4, 18, 19, 20] 0)))) (.seq (.reg e70r36 [0, 1, 2, 3, 4, 18, 19, 20, 21] 0) (.seq (.block 8 (.loop [0, 1, 2, 3, 4, 18, 19, 20, 21, 22] e70l42)) (.seq (.reg e70r43 [0, 1, 2, 3, 4, 18, 19, 20] 0) (.seq (.seq (.reg e70r44 [0, 1, 2, 3, 4, 18, 20, 24] 0) (.cond (.s 185) (.reg e70r45 [0, 1, 2, 3, 4, 18, 20, 24] 0) .skip)) (.seq (.seq (.reg e70r46 [0, 1, 3, 4, 18, 20, 24] 0) (.cond (.s 199) (.reg e70r47 [0, 1, 3, 4, 18, 20, 24] 0) .skip)) (.seq (.reg e70r48 [0, 3, 4, 18, 24] 0) (.cond (.s 213) (.reg e70r49 [0, 3, 4, 18, 24] 0) .skip))))))))))))), [], 220, 0⟩
theorem g70 : Good Try.prog 70 e70 := ⟨Try.f70, Try.func70, by kernel_rfl, by kernel_rfl, by kernel_rfl, by kernel_rfl⟩
/-! slices.siftDownCmpFunc[concord/api.Inst] -/
def e71r0 : EE := .out [(0, .s 0), (2, .s 2), (3, .s 3), (4, .s 4), (10, .s 1)]
def e71r1 : EE := .q 1 .mul [.c (.int .i64 2), .s 10] none <|
 .q 2 .add [.r 1, .c (.int .i64 1)] none <|
 .out [(0, .s 0), (2, .s 2), (3, .s 3), (4, .s 4), (10, .s 10), (11, .r 2)]
def e71r2 : EE := .q 2 .geq [.s 11, .s 2] none <|
 .out [(0, .s 0), (2, .s 2), (3, .s 3), (4, .s 4), (10, .s 10), (11, .s 11), (18, .r 2)]
def e71r3 : EE := .q 1 .add [.s 11, .c (.int .i64 1)] none <|
 .q 3 .lss [.r 1, .s 2] none <|
 .q 5 .mv [.s 4] (some (.r 3, true)) <|
 .q 6 .mv [.s 0] (some (.r 3, true)) <|
 .q 7 .mv [.s 3] (some (.r 3, true)) <|
 .q 8 .mv [.s 11] (some (.r 3, true)) <|
 .q 9 .add [.r 7, .r 8] (some (.r 3, true)) <|
 .q 10 (.ixs 2) [.r 6, .r 9] (some (.r 3, true)) <|
 .q 11 (.lda 2) [.r 10] (some (.r 3, true)) <|
 .q 12 .mv [.s 0] (some (.r 3, true)) <|
 .q 13 .mv [.s 3] (some (.r 3, true)) <|
 .q 14 .mv [.s 11] (some (.r 3, true)) <|
 .q 15 .add [.r 13, .r 14] (some (.r 3, true)) <|
 .q 16 .add [.r 15, .c (.int .i64 1)] (some (.r 3, true)) <|
 .q 17 (.ixs 2) [.r 12, .r 16] (some (.r 3, true)) <|
 .q 18 (.lda 2) [.r 17] (some (.r 3, true)) <|
 .x 19 .callv [.r 5, .r 11, .r 18] (some (.r 3, true)) [] <|
 .q 20 .lss [.r 19, .c z] (some (.r 3, true)) <|
 .q 21 .pick [.r 3, .r 20, .c (.bool false)] none <|
 .out [(0, .s 0), (2, .s 2), (3, .s 3), (4, .s 4), (10, .s 10), (11, .s 11), (40, .r 21)]
def e71r4 : EE := .q 1 .add [.s 11, .c (.int .i64 1)] none <|
 .out [(0, .s 0), (2, .s 2), (3, .s 3), (4, .s 4), (10, .s 10), (11, .r 1)]
def e71r5 : EE := .q 4 .add [.s 3, .s 10] none <|
 .q 5 (.ixs 2) [.s 0, .r 4] none <|
 .q 6 (.lda 2) [.r 5] none <|
 .q 10 .add [.s 3, .s 11] none <|
 .q 11 (.ixs 2) [.s 0, .r 10] none <|
 .q 12 (.lda 2) [.r 11] none <|
 .x 13 .callv [.s 4, .r 6, .r 12] none [] <|
 .q 14 .lss [.r 13, .c z] none <|
 .q 15 .not [.r 14] none <|
 .out [(0, .s 0), (2, .s 2), (3, .s 3), (4, .s 4), (10, .s 10), (11, .s 11), (58, .r 15)]
def e71r6 : EE := .q 3 .add [.s 3, .s 10] none <|
 .q 7 .add [.s 3, .s 11] none <|
 .q 11 .add [.s 3, .s 11] none <|
 .q 12 (.ixs 2) [.s 0, .r 11] none <|
 .q 13 (.lda 2) [.r 12] none <|
 .q 17 .add [.s 3, .s 10] none <|
 .q 18 (.ixs 2) [.s 0, .r 17] none <|
 .q 19 (.lda 2) [.r 18] none <|
 .q 20 (.ixs 2) [.s 0, .r 3] none <|
 .x 21 (.st 2) [.r 20, .r 13] none [] <|
 .q 22 (.ixs 2) [.s 0, .r 7] none <|
 .x 23 (.st 2) [.r 22, .r 19] none [] <|
 .out [(0, .s 0), (2, .s 2), (3, .s 3), (4, .s 4), (11, .s 11)]
def e71r7 : EE := .out [(0, .s 0), (2, .s 2), (3, .s 3), (4, .s 4), (10, .s 11)]
def e71l8 : EC := (.block 1 (.seq (.reg e71r1 [0, 2, 3, 4, 10] 0) (.seq (.seq (.reg e71r2 [0, 2, 3, 4, 10, 11] 0) (.cond (.s 18) (.exit 0) .skip)) (.seq (.seq (.reg e71r3 [0, 2, 3, 4, 10, 11] 0) (.cond (.s 40) (.reg e71r4 [0, 2, 3, 4, 10, 11] 0) .skip)) (.seq (.seq (.reg e71r5 [0, 2, 3, 4, 10, 11] 0) (.cond (.s 58) .ret .skip)) (.seq (.reg e71r6 [0, 2, 3, 4, 10, 11] 0) (.reg e71r7 [0, 2, 3, 4, 11] 0)))))))
def e71 : EFn := ⟨(.seq (.reg e71r0 [0, 1, 2, 3, 4] 0) (.block 0 (.loop [0, 2, 3, 4, 10] e71l8))), [], 82, 0⟩
theorem g71 : Good Try.prog 71 e71 := ⟨Try.f71, Try.func71, by kernel_rfl, by kernel_rfl, by kernel_rfl, by kernel_rfl⟩
/-! slices.nextPowerOfTwo -/
def e72r0 : EE := .out [(0, .s 0)]
def e72r1 : EE := .q 1 (.conv .u64) [.s 0] none <|
 .x 2 (.call 51) [.r 1] none [] <|
 .q 3 .shl [.c (.int .u64 1), .r 2] none <|
 .out [(2, .r 3)]
def e72 : EFn := ⟨(.seq (.reg e72r0 [0] 0) (.seq (.reg e72r1 [0] 0) .ret)), [.slot 2], 7, 0⟩
theorem g72 : Good Try.prog 72 e72 := ⟨Try.f72, Try.func72, by kernel_rfl, by kernel_rfl, by kernel_rfl, by kernel_rfl⟩
/-! (*slices.xorshift).Next -/
def e73r0 : EE := .out [(0, .s 0)]
def e73r1 : EE := .q 1 .nl [.s 0] none <|
 .q 2 .ld [.r 1] none <|
 .q 4 .nl [.s 0] none <|
 .q 5 .ld [.r 4] none <|
 .q 6 .shl [.r 5, .c (.int .u64 13)] none <|
 .q 7 .xor [.r 2, .r 6] none <|
 .q 8 .nl [.s 0] none <|
 .x 9 (.st 1) [.r 8, .r 7] none [] <|
 .out [(0, .s 0)]
def e73r2 : EE := .q 1 .nl [.s 0] none <|
 .q 2 .ld [.r 1] none <|
 .q 4 .nl [.s 0] none <|
 .q 5 .ld [.r 4] none <|
 .q 6 .shr [.r 5, .c (.int .u64 7)] none <|
 .q 7 .xor [.r 2, .r 6] none <|
 .q 8 .nl [.s 0] none <|
 .x 9 (.st 1) [.r 8, .r 7] none [] <|
 .out [(0, .s 0)]
def e73r3 : EE := .q 1 .nl [.s 0] none <|
 .q 2 .ld [.r 1] none <|
 .q 4 .nl [.s 0] none <|
 .q 5 .ld [.r 4] none <|
 .q 6 .shl [.r 5, .c (.int .u64 17)] none <|
 .q 7 .xor [.r 2, .r 6] none <|
 .q 8 .nl [.s 0] none <|
 .x 9 (.st 1) [.r 8, .r 7] none [] <|
 .out [(0, .s 0)]
def e73r4 : EE := .q 1 .nl [.s 0] none <|
 .q 2 .ld [.r 1] none <|
 .out [(2, .r 2)]
def e73 : EFn := ⟨(.seq (.reg e73r0 [0] 0) (.seq (.reg e73r1 [0] 0) (.seq (.reg e73r2 [0] 0) (.seq (.reg e73r3 [0] 0) (.seq (.reg e73r4 [0] 0) .ret))))), [.slot 2], 33, 0⟩
theorem g73 : Good Try.prog 73 e73 := ⟨Try.f73, Try.func73, by kernel_rfl, by kernel_rfl, by kernel_rfl, by kernel_rfl⟩
/-! slices.medianAdjacentCmpFunc[concord/api.Inst] -/
def e74r0 : EE := .out [(0, .s 0), (1, .s 1), (2, .s 2), (3, .s 3)]
def e74r1 : EE := .q 2 .sub [.s 1, .c (.int .i64 1)] none <|
 .q 5 .add [.s 1, .c (.int .i64 1)] none <|
 .x 8 (.call 75) [.s 0, .r 2, .s 1, .r 5, .s 2, .s 3] none [] <|
 .out [(8, .r 8)]
def e74 : EFn := ⟨(.seq (.reg e74r0 [0, 1, 2, 3] 0) (.seq (.reg e74r1 [0, 1, 2, 3] 0) .ret)), [.slot 8], 18, 0⟩
theorem g74 : Good Try.prog 74 e74 := ⟨Try.f74, Try.func74, by kernel_rfl, by kernel_rfl, by kernel_rfl, by kernel_rfl⟩
/-! slices.medianCmpFunc[concord/api.Inst] -/
def e75r0 : EE := .out [(0, .s 0), (1, .s 1), (2, .s 2), (3, .s 3), (4, .s 4), (5, .s 5)]
def e75r1 : EE := .x 5 (.call 77) [.s 0, .s 1, .s 2, .s 4, .s 5] none [] <|
 .q 7 (.ext 0) [.r 5] none <|
 .q 8 (.ext 1) [.r 5] none <|
 .out [(0, .s 0), (1, .r 7), (2, .r 8), (3, .s 3), (4, .s 4), (5, .s 5)]
def e75r2 : EE := .x 5 (.call 77) [.s 0, .s 2, .s 3, .s 4, .s 5] none [] <|
 .q 7 (.ext 0) [.r 5] none <|
 .q 8 (.ext 1) [.r 5] none <|
 .out [(0, .s 0), (1, .s 1), (2, .r 7), (4, .s 4), (5, .s 5)]
def e75r3 : EE := .x 5 (.call 77) [.s 0, .s 1, .s 2, .s 4, .s 5] none [] <|
 .q 7 (.ext 0) [.r 5] none <|
 .q 8 (.ext 1) [.r 5] none <|
 .out [(2, .r 8)]
def e75r4 : EE := .out [(12, .s 2)]
def e75 : EFn := ⟨(.seq (.reg e75r0 [0, 1, 2, 3, 4, 5] 0) (.seq (.reg e75r1 [0, 1, 2, 3, 4, 5] 0) (.seq (.reg e75r2 [0, 1, 2, 3, 4, 5] 0) (.seq (.reg e75r3 [0, 1, 2, 4, 5] 0) (.seq (.reg e75r4 [2] 0) .ret))))), [.slot 12], 41, 0⟩
theorem g75 : Good Try.prog 75 e75 := ⟨Try.f75, Try.func75, by kernel_rfl, by kernel_rfl, by kernel_rfl, by kernel_rfl⟩
/-! slices.rotateCmpFunc[int] -/
def e76r0 : EE := .q 2 .sub [.s 2, .s 1] none <|
 .out [(0, .s 0), (2, .s 2), (3, .s 3), (4, .s 4), (10, .r 2)]
def e76r1 : EE := .q 2 .sub [.s 3, .s 2] none <|
 .out [(0, .s 0), (2, .s 2), (4, .s 4), (10, .s 10), (11, .r 2)]
def e76r2 : EE := .q 2 .neq [.s 10, .s 11] none <|
 .out [(0, .s 0), (2, .s 2), (4, .s 4), (10, .s 10), (11, .s 11), (20, .r 2)]
def e76r3 : EE := .q 2 .gtr [.s 10, .s 11] none <|
 .out [(0, .s 0), (2, .s 2), (4, .s 4), (10, .s 10), (11, .s 11), (23, .r 2)]
def e76r4 : EE := .q 3 .sub [.s 2, .s 10] none <|
 .x 7 (.call 78) [.s 0, .r 3, .s 2, .s 11, .s 4] none [] <|
 .out [(0, .s 0), (2, .s 2), (4, .s 4), (10, .s 10), (11, .s 11)]
def e76r5 : EE := .q 2 .sub [.s 10, .s 11] none <|
 .out [(0, .s 0), (2, .s 2), (4, .s 4), (10, .r 2), (11, .s 11)]
def e76r6 : EE := .q 3 .sub [.s 2, .s 10] none <|
 .q 6 .add [.s 2, .s 11] none <|
 .q 8 .sub [.r 6, .s 10] none <|
 .x 11 (.call 78) [.s 0, .r 3, .r 8, .s 10, .s 4] none [] <|
 .out [(0, .s 0), (2, .s 2), (4, .s 4), (10, .s 10), (11, .s 11)]
def e76r7 : EE := .q 2 .sub [.s 11, .s 10] none <|
 .out [(0, .s 0), (2, .s 2), (4, .s 4), (10, .s 10), (11, .r 2)]
def e76l8 : EC := (.seq (.seq (.reg e76r2 [0, 2, 4, 10, 11] 0) (.cond (.s 20) .skip (.exit 0))) (.block 1 (.seq (.reg e76r3 [0, 2, 4, 10, 11] 0) (.cond (.s 23) (.seq (.reg e76r4 [0, 2, 4, 10, 11] 0) (.reg e76r5 [0, 2, 4, 10, 11] 0)) (.seq (.reg e76r6 [0, 2, 4, 10, 11] 0) (.reg e76r7 [0, 2, 4, 10, 11] 0))))))
def e76r9 : EE := .q 3 .sub [.s 2, .s 10] none <|
 .x 7 (.call 78) [.s 0, .r 3, .s 2, .s 10, .s 4] none [] <|
 .out []
def e76 : EFn := ⟨(.seq (.reg e76r0 [0, 1, 2, 3, 4] 0) (.seq (.reg e76r1 [0, 2, 3, 4, 10] 0) (.seq (.block 0 (.loop [0, 2, 4, 10, 11] e76l8)) (.reg e76r9 [0, 2, 4, 10] 0)))), [], 58, 0⟩
theorem g76 : Good Try.prog 76 e76 := ⟨Try.f76, Try.func76, by kernel_rfl, by kernel_rfl, by kernel_rfl, by kernel_rfl⟩
/-! slices.order2CmpFunc[concord/api.Inst] -/
def e77r0 : EE := .out [(0, .s 0), (1, .s 1), (2, .s 2), (3, .s 3), (4, .s 4)]
def e77r1 : EE := .q 3 (.ixs 2) [.s 0, .s 2] none <|
 .q 4 (.lda 2) [.r 3] none <|
 .q 7 (.ixs 2) [.s 0, .s 1] none <|
 .q 8 (.lda 2) [.r 7] none <|
 .x 9 .callv [.s 4, .r 4, .r 8] none [] <|
 .q 10 .lss [.r 9, .c z] none <|
 .out [(1, .s 1), (2, .s 2), (3, .s 3), (22, .r 10)]
def e77r2 : EE := .q 1 .nl [.s 3] none <|
 .q 2 .ld [.r 1] none <|
 .q 3 .add [.r 2, .c (.int .i64 1)] none <|
 .q 4 .nl [.s 3] none <|
 .x 5 (.st 1) [.r 4, .r 3] none [] <|
 .out [(1, .s 1), (2, .s 2)]
def e77r3 : EE := .out [(10, .s 2), (11, .s 1)]
def e77r4 : EE := .out [(10, .s 1), (11, .s 2)]
def e77 : EFn := ⟨(.seq (.reg e77r0 [0, 1, 2, 3, 4] 0) (.seq (.seq (.reg e77r1 [0, 1, 2, 3, 4] 0) (.cond (.s 22) (.seq (.reg e77r2 [1, 2, 3] 0) (.seq (.reg e77r3 [1, 2] 0) .ret)) .skip)) (.seq (.reg e77r4 [1, 2] 0) .ret))), [.slot 10, .slot 11], 32, 0⟩
theorem g77 : Good Try.prog 77 e77 := ⟨Try.f77, Try.func77, by kernel_rfl, by kernel_rfl, by kernel_rfl, by kernel_rfl⟩
/-! slices.swapRangeCmpFunc[int] -/
def e78r0 : EE := .out [(0, .s 0), (1, .s 1), (2, .s 2), (3, .s 3), (10, .c z)]
def e78r1 : EE := .q 2 .lss [.s 10, .s 3] none <|
 .out [(0, .s 0), (1, .s 1), (2, .s 2), (3, .s 3), (10, .s 10), (13, .r 2)]
def e78r2 : EE := .q 3 .add [.s 1, .s 10] none <|
 .q 7 .add [.s 2, .s 10] none <|
 .q 11 .add [.s 2, .s 10] none <|
 .q 12 (.ixs 1) [.s 0, .r 11] none <|
 .q 13 .ld [.r 12] none <|
 .q 17 .add [.s 1, .s 10] none <|
 .q 18 (.ixs 1) [.s 0, .r 17] none <|
 .q 19 .ld [.r 18] none <|
 .q 20 (.ixs 1) [.s 0, .r 3] none <|
 .x 21 (.st 1) [.r 20, .r 13] none [] <|
 .q 22 (.ixs 1) [.s 0, .r 7] none <|
 .x 23 (.st 1) [.r 22, .r 19] none [] <|
 .out [(0, .s 0), (1, .s 1), (2, .s 2), (3, .s 3), (10, .s 10)]
def e78r3 : EE := .q 1 .add [.s 10, .c (.int .i64 1)] none <|
 .out [(0, .s 0), (1, .s 1), (2, .s 2), (3, .s 3), (10, .r 1)]
def e78l4 : EC := (.seq (.seq (.reg e78r1 [0, 1, 2, 3, 10] 0) (.cond (.s 13) .skip (.exit 0))) (.seq (.block 1 (.reg e78r2 [0, 1, 2, 3, 10] 0)) (.reg e78r3 [0, 1, 2, 3, 10] 0)))
def e78 : EFn := ⟨(.seq (.reg e78r0 [0, 1, 2, 3] 0) (.block 0 (.loop [0, 1, 2, 3, 10] e78l4))), [], 38, 0⟩
theorem g78 : Good Try.prog 78 e78 := ⟨Try.f78, Try.func78, by kernel_rfl, by kernel_rfl, by kernel_rfl, by kernel_rfl⟩
end Go.Ev
