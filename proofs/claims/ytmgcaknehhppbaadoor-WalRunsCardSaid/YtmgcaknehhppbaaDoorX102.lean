import Derived.Test.YtmgcaknehhppbaaDoorEvB
import Derived.Test.YtmgcaknehhppbaaDoorProg
set_option linter.unusedVariables false
namespace Go.Ev
open Go.Fw Go.Proofs
/-! internal/strconv.lower -/
def e89r0 : EE := .out [(0, .s 0)]
def e89r1 : EE := .q 1 .or [.s 0, .c (.int .u8 32)] none <|
 .out [(2, .r 1)]
def e89 : EFn := ⟨(.seq (.reg e89r0 [0] 0) (.seq (.reg e89r1 [0] 0) .ret)), [.slot 2], 5, 0⟩
theorem g89 : Good Tryd.prog 89 e89 := ⟨Tryd.f89, Tryd.func89, by kernel_rfl, by kernel_rfl, by kernel_rfl, by kernel_rfl⟩
/-! internal/strconv.underscoreOK -/
def e90r0 : EE := .out [(0, .s 0)]
def e90r1 : EE := .out [(0, .s 0), (3, .c (.int .i32 94))]
def e90r2 : EE := .out [(0, .s 0), (3, .s 3), (4, .c z)]
def e90r3 : EE := .q 1 .lenz [.s 0] none <|
 .q 2 .geq [.r 1, .c (.int .i64 1)] none <|
 .q 4 .mv [.s 0] (some (.r 2, true)) <|
 .q 5 .idxs [.r 4, .c z] (some (.r 2, true)) <|
 .q 6 .eql [.r 5, .c (.int .u8 45)] (some (.r 2, true)) <|
 .q 7 .mv [.r 6] (some (.r 2, true)) <|
 .q 8 .mv [.s 0] (some (.r 7, false)) <|
 .q 9 .idxs [.r 8, .c z] (some (.r 7, false)) <|
 .q 10 .eql [.r 9, .c (.int .u8 43)] (some (.r 7, false)) <|
 .q 11 .pick [.r 7, .c (.bool true), .r 10] (some (.r 2, true)) <|
 .q 12 .pick [.r 2, .r 11, .c (.bool false)] none <|
 .out [(0, .s 0), (3, .s 3), (4, .s 4), (18, .r 12)]
def e90r4 : EE := .q 1 (.slcs true false) [.s 0, .c (.int .i64 1)] none <|
 .out [(0, .r 1), (3, .s 3), (4, .s 4)]
def e90r5 : EE := .out [(0, .s 0), (3, .s 3), (4, .s 4), (5, .c (.bool false))]
def e90r6 : EE := .q 1 .lenz [.s 0] none <|
 .q 2 .geq [.r 1, .c (.int .i64 2)] none <|
 .q 4 .mv [.s 0] (some (.r 2, true)) <|
 .q 5 .idxs [.r 4, .c z] (some (.r 2, true)) <|
 .q 6 .eql [.r 5, .c (.int .u8 48)] (some (.r 2, true)) <|
 .q 7 .pick [.r 2, .r 6, .c (.bool false)] none <|
 .q 9 .mv [.s 0] (some (.r 7, true)) <|
 .q 10 .idxs [.r 9, .c (.int .i64 1)] (some (.r 7, true)) <|
 .x 11 (.call 89) [.r 10] (some (.r 7, true)) [] <|
 .q 12 .eql [.r 11, .c (.int .u8 98)] (some (.r 7, true)) <|
 .q 13 .mv [.r 12] (some (.r 7, true)) <|
 .q 14 .mv [.s 0] (some (.r 13, false)) <|
 .q 15 .idxs [.r 14, .c (.int .i64 1)] (some (.r 13, false)) <|
 .x 16 (.call 89) [.r 15] (some (.r 13, false)) [] <|
 .q 17 .eql [.r 16, .c (.int .u8 111)] (some (.r 13, false)) <|
 .q 18 .pick [.r 13, .c (.bool true), .r 17] (some (.r 7, true)) <|
 .q 19 .mv [.r 18] (some (.r 7, true)) <|
 .q 20 .mv [.s 0] (some (.r 19, false)) <|
 .q 21 .idxs [.r 20, .c (.int .i64 1)] (some (.r 19, false)) <|
 .x 22 (.call 89) [.r 21] (some (.r 19, false)) [] <|
 .q 23 .eql [.r 22, .c (.int .u8 120)] (some (.r 19, false)) <|
 .q 24 .pick [.r 19, .c (.bool true), .r 23] (some (.r 7, true)) <|
 .q 25 .pick [.r 7, .r 24, .c (.bool false)] none <|
 .out [(0, .s 0), (3, .s 3), (4, .s 4), (5, .s 5), (46, .r 25)]
def e90r7 : EE := .out [(0, .s 0), (4, .c (.int .i64 2))]
def e90r8 : EE := .out [(0, .s 0), (3, .c (.int .i32 48)), (4, .s 4)]
def e90r9 : EE := .q 1 .idxs [.s 0, .c (.int .i64 1)] none <|
 .x 2 (.call 89) [.r 1] none [] <|
 .q 3 .eql [.r 2, .c (.int .u8 120)] none <|
 .out [(0, .s 0), (3, .s 3), (4, .s 4), (5, .r 3)]
def e90r10 : EE := .q 2 .lenz [.s 0] none <|
 .q 3 .lss [.s 4, .r 2] none <|
 .out [(0, .s 0), (3, .s 3), (4, .s 4), (5, .s 5), (54, .r 3)]
def e90r11 : EE := .q 2 .idxs [.s 0, .s 4] none <|
 .q 3 .leq [.c (.int .u8 48), .r 2] none <|
 .q 5 .mv [.s 0] (some (.r 3, true)) <|
 .q 6 .mv [.s 4] (some (.r 3, true)) <|
 .q 7 .idxs [.r 5, .r 6] (some (.r 3, true)) <|
 .q 8 .leq [.r 7, .c (.int .u8 57)] (some (.r 3, true)) <|
 .q 9 .pick [.r 3, .r 8, .c (.bool false)] none <|
 .q 11 .mv [.s 5] (some (.r 9, false)) <|
 .q 12 .mv [.r 11] (some (.r 9, false)) <|
 .q 13 .mv [.s 0] (some (.r 12, true)) <|
 .q 14 .mv [.s 4] (some (.r 12, true)) <|
 .q 15 .idxs [.r 13, .r 14] (some (.r 12, true)) <|
 .x 16 (.call 89) [.r 15] (some (.r 12, true)) [] <|
 .q 17 .leq [.c (.int .u8 97), .r 16] (some (.r 12, true)) <|
 .q 18 .pick [.r 12, .r 17, .c (.bool false)] (some (.r 9, false)) <|
 .q 19 .mv [.r 18] (some (.r 9, false)) <|
 .q 20 .mv [.s 0] (some (.r 19, true)) <|
 .q 21 .mv [.s 4] (some (.r 19, true)) <|
 .q 22 .idxs [.r 20, .r 21] (some (.r 19, true)) <|
 .x 23 (.call 89) [.r 22] (some (.r 19, true)) [] <|
 .q 24 .leq [.r 23, .c (.int .u8 102)] (some (.r 19, true)) <|
 .q 25 .pick [.r 19, .r 24, .c (.bool false)] (some (.r 9, false)) <|
 .q 26 .pick [.r 9, .c (.bool true), .r 25] none <|
 .out [(0, .s 0), (3, .s 3), (4, .s 4), (5, .s 5), (83, .r 26)]
def e90r12 : EE := .out [(0, .s 0), (3, .c (.int .i32 48)), (4, .s 4), (5, .s 5)]
def e90r13 : EE := .q 2 .idxs [.s 0, .s 4] none <|
 .q 3 .eql [.r 2, .c (.int .u8 95)] none <|
 .out [(0, .s 0), (3, .s 3), (4, .s 4), (5, .s 5), (87, .r 3)]
def e90r14 : EE := .q 1 .neq [.s 3, .c (.int .i32 48)] none <|
 .out [(0, .s 0), (4, .s 4), (5, .s 5), (89, .r 1)]
def e90r15 : EE := .out [(2, .c (.bool false))]
def e90r16 : EE := .out [(0, .s 0), (3, .c (.int .i32 95)), (4, .s 4), (5, .s 5)]
def e90r17 : EE := .q 1 .eql [.s 3, .c (.int .i32 95)] none <|
 .out [(0, .s 0), (4, .s 4), (5, .s 5), (91, .r 1)]
def e90r18 : EE := .out [(2, .c (.bool false))]
def e90r19 : EE := .out [(0, .s 0), (3, .c (.int .i32 33)), (4, .s 4), (5, .s 5)]
def e90r20 : EE := .q 1 .add [.s 4, .c (.int .i64 1)] none <|
 .out [(0, .s 0), (3, .s 3), (4, .r 1), (5, .s 5)]
def e90l21 : EC := (.seq (.seq (.reg e90r10 [0, 3, 4, 5] 0) (.cond (.s 54) .skip (.exit 0))) (.seq (.block 1 (.seq (.seq (.reg e90r11 [0, 3, 4, 5] 0) (.cond (.s 83) (.seq (.reg e90r12 [0, 4, 5] 0) (.exit 1)) .skip)) (.seq (.seq (.reg e90r13 [0, 3, 4, 5] 0) (.cond (.s 87) (.seq (.seq (.reg e90r14 [0, 3, 4, 5] 0) (.cond (.s 89) (.seq (.reg e90r15 [] 0) .ret) .skip)) (.seq (.reg e90r16 [0, 4, 5] 0) (.exit 1))) .skip)) (.seq (.seq (.reg e90r17 [0, 3, 4, 5] 0) (.cond (.s 91) (.seq (.reg e90r18 [] 0) .ret) .skip)) (.reg e90r19 [0, 4, 5] 0))))) (.reg e90r20 [0, 3, 4, 5] 0)))
def e90r22 : EE := .q 1 .neq [.s 3, .c (.int .i32 95)] none <|
 .out [(2, .r 1)]
def e90 : EFn := ⟨(.seq (.reg e90r0 [0] 0) (.seq (.reg e90r1 [0] 0) (.seq (.reg e90r2 [0, 3] 0) (.seq (.seq (.reg e90r3 [0, 3, 4] 0) (.cond (.s 18) (.reg e90r4 [0, 3, 4] 0) .skip)) (.seq (.reg e90r5 [0, 3, 4] 0) (.seq (.seq (.reg e90r6 [0, 3, 4, 5] 0) (.cond (.s 46) (.seq (.reg e90r7 [0] 0) (.seq (.reg e90r8 [0, 4] 0) (.reg e90r9 [0, 3, 4] 0))) .skip)) (.seq (.block 0 (.loop [0, 3, 4, 5] e90l21)) (.seq (.reg e90r22 [3] 0) .ret)))))))), [.slot 2], 94, 0⟩
theorem g90 : Good Tryd.prog 90 e90 := ⟨Tryd.f90, Tryd.func90, by kernel_rfl, by kernel_rfl, by kernel_rfl, by kernel_rfl⟩
/-! math/bits.TrailingZeros32 -/
def e91r0 : EE := .out [(0, .s 0)]
def e91r1 : EE := .q 1 .eql [.s 0, .c (.int .u32 0)] none <|
 .out [(0, .s 0), (4, .r 1)]
def e91r2 : EE := .out [(2, .c (.int .i64 32))]
def e91r3 : EE := .q 2 .neg [.s 0] none <|
 .q 3 .and [.s 0, .r 2] none <|
 .q 4 .mul [.r 3, .c (.int .u32 125613361)] none <|
 .q 5 .shr [.r 4, .c (.int .u64 27)] none <|
 .q 6 (.ixa 32 1) [.g 4, .r 5] none <|
 .q 7 .ld [.r 6] none <|
 .q 8 (.conv .i64) [.r 7] none <|
 .out [(2, .r 8)]
def e91 : EFn := ⟨(.seq (.reg e91r0 [0] 0) (.seq (.seq (.reg e91r1 [0] 0) (.cond (.s 4) (.seq (.reg e91r2 [] 0) .ret) .skip)) (.seq (.reg e91r3 [0] 0) .ret))), [.slot 2], 14, 0⟩
theorem g91 : Good Tryd.prog 91 e91 := ⟨Tryd.f91, Tryd.func91, by kernel_rfl, by kernel_rfl, by kernel_rfl, by kernel_rfl⟩
/-! math/bits.TrailingZeros64 -/
def e92r0 : EE := .out [(0, .s 0)]
def e92r1 : EE := .q 1 .eql [.s 0, .c (.int .u64 0)] none <|
 .out [(0, .s 0), (4, .r 1)]
def e92r2 : EE := .out [(2, .c (.int .i64 64))]
def e92r3 : EE := .q 2 .neg [.s 0] none <|
 .q 3 .and [.s 0, .r 2] none <|
 .q 4 .mul [.r 3, .c (.int .u64 285870213051353865)] none <|
 .q 5 .shr [.r 4, .c (.int .u64 58)] none <|
 .q 6 (.ixa 64 1) [.g 5, .r 5] none <|
 .q 7 .ld [.r 6] none <|
 .q 8 (.conv .i64) [.r 7] none <|
 .out [(2, .r 8)]
def e92 : EFn := ⟨(.seq (.reg e92r0 [0] 0) (.seq (.seq (.reg e92r1 [0] 0) (.cond (.s 4) (.seq (.reg e92r2 [] 0) .ret) .skip)) (.seq (.reg e92r3 [0] 0) .ret))), [.slot 2], 14, 0⟩
theorem g92 : Good Tryd.prog 92 e92 := ⟨Tryd.f92, Tryd.func92, by kernel_rfl, by kernel_rfl, by kernel_rfl, by kernel_rfl⟩
end Go.Ev
