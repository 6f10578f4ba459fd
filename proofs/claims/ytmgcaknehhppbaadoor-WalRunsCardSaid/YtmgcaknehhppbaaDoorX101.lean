import Derived.Test.YtmgcaknehhppbaaDoorEvB
import Derived.Test.YtmgcaknehhppbaaDoorProg
set_option linter.unusedVariables false
namespace Go.Ev
open Go.Fw Go.Proofs
/-! internal/strconv.Atoi -/
def e54r0 : EE := .out [(0, .s 0)]
def e54r1 : EE := .q 1 .lenz [.s 0] none <|
 .out [(0, .s 0), (4, .r 1)]
def e54r2 : EE := .q 1 .mv [.s 4] (some (.c (.bool false), true)) <|
 .q 2 .lss [.c z, .r 1] (some (.c (.bool false), true)) <|
 .q 3 .mv [.r 2] (some (.c (.bool false), true)) <|
 .q 4 .mv [.s 4] (some (.r 3, true)) <|
 .q 5 .lss [.r 4, .c (.int .i64 10)] (some (.r 3, true)) <|
 .q 6 .pick [.r 3, .r 5, .c (.bool false)] (some (.c (.bool false), true)) <|
 .q 7 .pick [.c (.bool false), .r 6, .c (.bool false)] none <|
 .q 9 .mv [.c (.bool true)] (some (.r 7, false)) <|
 .q 10 .mv [.s 4] (some (.r 9, true)) <|
 .q 11 .lss [.c z, .r 10] (some (.r 9, true)) <|
 .q 12 .mv [.r 11] (some (.r 9, true)) <|
 .q 13 .mv [.s 4] (some (.r 12, true)) <|
 .q 14 .lss [.r 13, .c (.int .i64 19)] (some (.r 12, true)) <|
 .q 15 .pick [.r 12, .r 14, .c (.bool false)] (some (.r 9, true)) <|
 .q 16 .pick [.r 9, .r 15, .c (.bool false)] (some (.r 7, false)) <|
 .q 17 .pick [.r 7, .c (.bool true), .r 16] none <|
 .out [(0, .s 0), (30, .r 17)]
def e54r3 : EE := .out [(0, .s 0), (5, .s 0)]
def e54r4 : EE := .q 1 .idxs [.s 0, .c z] none <|
 .q 2 .eql [.r 1, .c (.int .u8 45)] none <|
 .q 4 .mv [.s 0] (some (.r 2, false)) <|
 .q 5 .idxs [.r 4, .c z] (some (.r 2, false)) <|
 .q 6 .eql [.r 5, .c (.int .u8 43)] (some (.r 2, false)) <|
 .q 7 .pick [.r 2, .c (.bool true), .r 6] none <|
 .out [(0, .s 0), (5, .s 5), (39, .r 7)]
def e54r5 : EE := .q 1 (.slcs true false) [.s 0, .c (.int .i64 1)] none <|
 .out [(0, .r 1), (5, .s 5)]
def e54r6 : EE := .q 1 .lenz [.s 0] none <|
 .q 2 .lss [.r 1, .c (.int .i64 1)] none <|
 .out [(0, .s 0), (5, .s 5), (44, .r 2)]
def e54r7 : EE := .q 0 (.mki 108) [.c (.int .i64 2)] none <|
 .out [(2, .c z), (3, .r 0)]
def e54r8 : EE := .out [(0, .s 0), (5, .s 5), (6, .c z)]
def e54r9 : EE := .x 1 (.s2b 5) [.s 0] none [] <|
 .q 2 .len [.r 1] none <|
 .out [(5, .s 5), (6, .s 6), (47, .r 1), (48, .r 2), (49, .c z)]
def e54r10 : EE := .q 0 .lss [.s 49, .s 48] none <|
 .out [(5, .s 5), (6, .s 6), (47, .s 47), (48, .s 48), (49, .s 49), (50, .r 0)]
def e54r11 : EE := .q 0 (.ixs 1) [.s 47, .s 49] none <|
 .q 1 .ld [.r 0] none <|
 .out [(5, .s 5), (6, .s 6), (8, .r 1), (47, .s 47), (48, .s 48), (49, .s 49)]
def e54r12 : EE := .q 1 .sub [.s 8, .c (.int .u8 48)] none <|
 .out [(5, .s 5), (6, .s 6), (8, .r 1), (47, .s 47), (48, .s 48), (49, .s 49)]
def e54r13 : EE := .q 1 .gtr [.s 8, .c (.int .u8 9)] none <|
 .out [(5, .s 5), (6, .s 6), (8, .s 8), (47, .s 47), (48, .s 48), (49, .s 49), (56, .r 1)]
def e54r14 : EE := .q 0 (.mki 108) [.c (.int .i64 2)] none <|
 .out [(2, .c z), (3, .r 0)]
def e54r15 : EE := .q 1 .mul [.s 6, .c (.int .i64 10)] none <|
 .q 3 (.conv .i64) [.s 8] none <|
 .q 4 .add [.r 1, .r 3] none <|
 .out [(5, .s 5), (6, .r 4), (47, .s 47), (48, .s 48), (49, .s 49)]
def e54r16 : EE := .q 0 .add [.s 49, .c (.int .i64 1)] none <|
 .out [(5, .s 5), (6, .s 6), (47, .s 47), (48, .s 48), (49, .r 0)]
def e54l17 : EC := (.seq (.reg e54r10 [5, 6, 47, 48, 49] 0) (.seq (.cond (.s 50) .skip (.exit 0)) (.seq (.block 1 (.seq (.reg e54r11 [5, 6, 47, 48, 49] 0) (.seq (.reg e54r12 [5, 6, 8, 47, 48, 49] 0) (.seq (.seq (.reg e54r13 [5, 6, 8, 47, 48, 49] 0) (.cond (.s 56) (.seq (.reg e54r14 [] 0) .ret) .skip)) (.reg e54r15 [5, 6, 8, 47, 48, 49] 0))))) (.reg e54r16 [5, 6, 47, 48, 49] 0))))
def e54r18 : EE := .q 1 .idxs [.s 5, .c z] none <|
 .q 2 .eql [.r 1, .c (.int .u8 45)] none <|
 .out [(6, .s 6), (66, .r 2)]
def e54r19 : EE := .q 1 .neg [.s 6] none <|
 .out [(6, .r 1)]
def e54r20 : EE := .out [(2, .s 6), (3, .c .nif)]
def e54r21 : EE := .x 1 (.call 64) [.s 0, .c (.int .i64 10), .c z] none [] <|
 .q 3 (.ext 0) [.r 1] none <|
 .q 4 (.ext 1) [.r 1] none <|
 .out [(9, .r 3), (10, .r 4)]
def e54r22 : EE := .out [(2, .s 9), (3, .s 10)]
def e54 : EFn := ⟨(.seq (.reg e54r0 [0] 0) (.seq (.reg e54r1 [0] 0) (.seq (.seq (.reg e54r2 [0, 4] 0) (.cond (.s 30) (.seq (.reg e54r3 [0] 0) (.seq (.seq (.reg e54r4 [0, 5] 0) (.cond (.s 39) (.seq (.reg e54r5 [0, 5] 0) (.seq (.reg e54r6 [0, 5] 0) (.cond (.s 44) (.seq (.reg e54r7 [] 0) .ret) .skip))) .skip)) (.seq (.reg e54r8 [0, 5] 0) (.seq (.seq (.reg e54r9 [0, 5, 6] 0) (.block 0 (.loop [5, 6, 47, 48, 49] e54l17))) (.seq (.seq (.reg e54r18 [5, 6] 0) (.cond (.s 66) (.reg e54r19 [6] 0) .skip)) (.seq (.reg e54r20 [6] 0) .ret)))))) .skip)) (.seq (.reg e54r21 [0] 0) (.seq (.reg e54r22 [9, 10] 0) .ret))))), [.slot 2, .slot 3], 77, 0⟩
theorem g54 : Good Tryd.prog 54 e54 := ⟨Tryd.f54, Tryd.func54, by kernel_rfl, by kernel_rfl, by kernel_rfl, by kernel_rfl⟩
/-! strconv.toError -/
def e55r0 : EE := .out [(0, .s 0), (1, .s 1), (2, .s 2), (3, .s 3), (4, .s 4)]
def e55r1 : EE := .out [(0, .s 0), (1, .s 1), (2, .s 2), (3, .s 3), (4, .s 4)]
def e55r2 : EE := .q 0 (.mki 108) [.c (.int .i64 2)] none <|
 .x 1 .bad [] none [] <|
 .out [(0, .s 0), (1, .s 1), (2, .s 2), (3, .s 3), (4, .s 4), (12, .r 1)]
def e55r3 : EE := .x 2 (.call 65) [.s 0, .s 1] none [] <|
 .q 3 (.mki 111) [.r 2] none <|
 .out [(10, .r 3)]
def e55r4 : EE := .q 0 (.mki 108) [.c (.int .i64 1)] none <|
 .x 1 .bad [] none [] <|
 .out [(0, .s 0), (1, .s 1), (2, .s 2), (3, .s 3), (4, .s 4), (19, .r 1)]
def e55r5 : EE := .x 2 (.call 66) [.s 0, .s 1] none [] <|
 .q 3 (.mki 111) [.r 2] none <|
 .out [(10, .r 3)]
def e55r6 : EE := .q 0 (.mki 108) [.c (.int .i64 3)] none <|
 .x 1 .bad [] none [] <|
 .out [(0, .s 0), (1, .s 1), (2, .s 2), (3, .s 3), (4, .s 4), (26, .r 1)]
def e55r7 : EE := .x 3 (.call 67) [.s 0, .s 1, .s 2] none [] <|
 .q 4 (.mki 111) [.r 3] none <|
 .out [(10, .r 4)]
def e55r8 : EE := .q 0 (.mki 108) [.c (.int .i64 4)] none <|
 .x 1 .bad [] none [] <|
 .out [(0, .s 0), (1, .s 1), (3, .s 3), (4, .s 4), (34, .r 1)]
def e55r9 : EE := .x 3 (.call 68) [.s 0, .s 1, .s 3] none [] <|
 .q 4 (.mki 111) [.r 3] none <|
 .out [(10, .r 4)]
def e55r10 : EE := .out [(10, .s 4)]
def e55 : EFn := ⟨(.seq (.reg e55r0 [0, 1, 2, 3, 4] 0) (.seq (.seq (.reg e55r1 [0, 1, 2, 3, 4] 0) (.block 0 (.seq (.reg e55r2 [0, 1, 2, 3, 4] 0) (.cond (.s 12) (.seq (.reg e55r3 [0, 1] 0) .ret) (.seq (.reg e55r4 [0, 1, 2, 3, 4] 0) (.cond (.s 19) (.seq (.reg e55r5 [0, 1] 0) .ret) (.seq (.reg e55r6 [0, 1, 2, 3, 4] 0) (.cond (.s 26) (.seq (.reg e55r7 [0, 1, 2] 0) .ret) (.seq (.reg e55r8 [0, 1, 3, 4] 0) (.cond (.s 34) (.seq (.reg e55r9 [0, 1, 3] 0) .ret) .skip)))))))))) (.seq (.reg e55r10 [4] 0) .ret))), [.slot 10], 43, 0⟩
theorem g55 : Good Tryd.prog 55 e55 := ⟨Tryd.f55, Tryd.func55, by kernel_rfl, by kernel_rfl, by kernel_rfl, by kernel_rfl⟩
/-! concord/word.Get -/
def e56r0 : EE := .out [(0, .s 0), (1, .s 1), (2, .s 2)]
def e56r1 : EE := .q 1 .lss [.s 2, .c (.int .i64 1)] none <|
 .q 3 .mv [.s 2] (some (.r 1, false)) <|
 .q 4 .gtr [.r 3, .c (.int .i64 8)] (some (.r 1, false)) <|
 .q 5 .pick [.r 1, .c (.bool true), .r 4] none <|
 .q 7 .mv [.s 1] (some (.r 5, false)) <|
 .q 8 .lss [.r 7, .c z] (some (.r 5, false)) <|
 .q 9 .pick [.r 5, .c (.bool true), .r 8] none <|
 .q 11 .mv [.s 1] (some (.r 9, false)) <|
 .q 12 .mv [.s 0] (some (.r 9, false)) <|
 .q 13 .len [.r 12] (some (.r 9, false)) <|
 .q 14 .gtr [.r 11, .r 13] (some (.r 9, false)) <|
 .q 15 .pick [.r 9, .c (.bool true), .r 14] none <|
 .out [(0, .s 0), (1, .s 1), (2, .s 2), (26, .r 15)]
def e56r2 : EE := .out [(6, .c (.int .u64 0)), (7, .c (.int .i64 1))]
def e56r3 : EE := .q 1 .len [.s 0] none <|
 .q 3 .sub [.r 1, .s 1] none <|
 .q 5 .lss [.r 3, .s 2] none <|
 .out [(0, .s 0), (1, .s 1), (2, .s 2), (32, .r 5)]
def e56r4 : EE := .out [(6, .c (.int .u64 0)), (7, .c (.int .i64 3))]
def e56r5 : EE := .out [(0, .s 0), (1, .s 1), (2, .s 2), (8, .c (.int .u64 0))]
def e56r6 : EE := .q 4 .add [.s 1, .s 2] none <|
 .q 5 (.slc 1 true true) [.s 0, .s 1, .r 4] none <|
 .q 6 .len [.r 5] none <|
 .out [(8, .s 8), (38, .r 5), (39, .r 6), (40, .c z)]
def e56r7 : EE := .q 0 .lss [.s 40, .s 39] none <|
 .out [(8, .s 8), (38, .s 38), (39, .s 39), (40, .s 40), (41, .r 0)]
def e56r8 : EE := .q 1 (.ixs 1) [.s 38, .s 40] none <|
 .q 2 .ld [.r 1] none <|
 .out [(8, .s 8), (9, .s 40), (10, .r 2), (38, .s 38), (39, .s 39), (40, .s 40)]
def e56r9 : EE := .q 2 (.conv .u64) [.s 10] none <|
 .q 4 .mul [.c (.int .i64 8), .s 9] none <|
 .q 5 (.conv .u64) [.r 4] none <|
 .q 6 .shl [.r 2, .r 5] none <|
 .q 7 .or [.s 8, .r 6] none <|
 .out [(8, .r 7), (38, .s 38), (39, .s 39), (40, .s 40)]
def e56r10 : EE := .q 0 .add [.s 40, .c (.int .i64 1)] none <|
 .out [(8, .s 8), (38, .s 38), (39, .s 39), (40, .r 0)]
def e56l11 : EC := (.seq (.reg e56r7 [8, 38, 39, 40] 0) (.seq (.cond (.s 41) .skip (.exit 0)) (.seq (.block 1 (.seq (.reg e56r8 [8, 38, 39, 40] 0) (.reg e56r9 [8, 9, 10, 38, 39, 40] 0))) (.reg e56r10 [8, 38, 39, 40] 0))))
def e56r12 : EE := .out [(6, .s 8), (7, .c z)]
def e56 : EFn := ⟨(.seq (.reg e56r0 [0, 1, 2] 0) (.seq (.seq (.reg e56r1 [0, 1, 2] 0) (.cond (.s 26) (.seq (.reg e56r2 [] 0) .ret) .skip)) (.seq (.seq (.reg e56r3 [0, 1, 2] 0) (.cond (.s 32) (.seq (.reg e56r4 [] 0) .ret) .skip)) (.seq (.reg e56r5 [0, 1, 2] 0) (.seq (.seq (.reg e56r6 [0, 1, 2, 8] 0) (.block 0 (.loop [8, 38, 39, 40] e56l11))) (.seq (.reg e56r12 [8] 0) .ret)))))), [.slot 6, .slot 7], 55, 0⟩
theorem g56 : Good Tryd.prog 56 e56 := ⟨Tryd.f56, Tryd.func56, by kernel_rfl, by kernel_rfl, by kernel_rfl, by kernel_rfl⟩
/-! internal/strconv.FormatInt -/
def e57r0 : EE := .out [(0, .s 0), (1, .s 1)]
def e57r1 : EE := .q 1 .eql [.s 1, .c (.int .i64 10)] none <|
 .out [(0, .s 0), (1, .s 1), (11, .r 1)]
def e57r2 : EE := .q 1 .leq [.c z, .s 0] none <|
 .q 3 .mv [.s 0] (some (.r 1, true)) <|
 .q 4 .lss [.r 3, .c (.int .i64 100)] (some (.r 1, true)) <|
 .q 5 .pick [.r 1, .r 4, .c (.bool false)] none <|
 .out [(0, .s 0), (17, .r 5)]
def e57r3 : EE := .x 1 (.call 69) [.s 0] none [] <|
 .out [(4, .r 1)]
def e57r4 : EE := .x 0 (.alc [(.int .u8 0), (.int .u8 0), (.int .u8 0), (.int .u8 0), (.int .u8 0), (.int .u8 0), (.int .u8 0), (.int .u8 0), (.int .u8 0), (.int .u8 0), (.int .u8 0), (.int .u8 0), (.int .u8 0), (.int .u8 0), (.int .u8 0), (.int .u8 0), (.int .u8 0), (.int .u8 0), (.int .u8 0), (.int .u8 0), (.int .u8 0), (.int .u8 0), (.int .u8 0), (.int .u8 0)] 114) [] none [] <|
 .out [(0, .s 0), (5, .r 0)]
def e57r5 : EE := .q 1 (.conv .u64) [.s 0] none <|
 .out [(0, .s 0), (5, .s 5), (6, .r 1)]
def e57r6 : EE := .q 1 .lss [.s 0, .c z] none <|
 .out [(0, .s 0), (5, .s 5), (6, .s 6), (23, .r 1)]
def e57r7 : EE := .q 1 .neg [.s 6] none <|
 .out [(0, .s 0), (5, .s 5), (6, .r 1)]
def e57r8 : EE := .x 1 (.call 70) [.s 6] none [] <|
 .out [(0, .s 0), (5, .s 5), (6, .s 6), (7, .r 1)]
def e57r9 : EE := .q 1 .add [.c (.int .i64 1), .s 7] none <|
 .x 2 .bad [] none [] <|
 .x 4 (.call 71) [.r 2, .s 6] none [] <|
 .out [(0, .s 0), (5, .s 5), (7, .s 7)]
def e57r10 : EE := .q 1 .lss [.s 0, .c z] none <|
 .out [(5, .s 5), (7, .s 7), (34, .r 1)]
def e57r11 : EE := .q 0 (.ixa 24 1) [.s 5, .c z] none <|
 .x 1 (.st 1) [.r 0, .c (.int .u8 45)] none [] <|
 .out [(7, .s 7)]
def e57r12 : EE := .q 1 .add [.c (.int .i64 1), .s 7] none <|
 .x 2 .bad [] none [] <|
 .q 3 .b2s [.r 2] none <|
 .out [(4, .r 3)]
def e57r13 : EE := .q 1 .add [.c (.int .i64 1), .s 7] none <|
 .x 2 .bad [] none [] <|
 .q 3 .b2s [.r 2] none <|
 .out [(4, .r 3)]
def e57r14 : EE := .q 1 (.conv .u64) [.s 0] none <|
 .q 4 .lss [.s 0, .c z] none <|
 .x 5 (.call 72) [.c .nsl, .r 1, .s 1, .r 4, .c (.bool false)] none [] <|
 .q 7 (.ext 0) [.r 5] none <|
 .q 8 (.ext 1) [.r 5] none <|
 .out [(9, .r 8)]
def e57r15 : EE := .out [(4, .s 9)]
def e57 : EFn := ⟨(.seq (.reg e57r0 [0, 1] 0) (.seq (.seq (.reg e57r1 [0, 1] 0) (.cond (.s 11) (.seq (.seq (.reg e57r2 [0] 0) (.cond (.s 17) (.seq (.reg e57r3 [0] 0) .ret) .skip)) (.seq (.reg e57r4 [0] 0) (.seq (.reg e57r5 [0, 5] 0) (.seq (.seq (.reg e57r6 [0, 5, 6] 0) (.cond (.s 23) (.reg e57r7 [0, 5, 6] 0) .skip)) (.seq (.reg e57r8 [0, 5, 6] 0) (.seq (.reg e57r9 [0, 5, 6, 7] 0) (.seq (.seq (.reg e57r10 [0, 5, 7] 0) (.cond (.s 34) (.seq (.reg e57r11 [5, 7] 0) (.seq (.reg e57r12 [7] 0) .ret)) .skip)) (.seq (.reg e57r13 [7] 0) .ret)))))))) .skip)) (.seq (.reg e57r14 [0, 1] 0) (.seq (.reg e57r15 [9] 0) .ret)))), [.slot 4], 54, 0⟩
theorem g57 : Good Tryd.prog 57 e57 := ⟨Tryd.f57, Tryd.func57, by kernel_rfl, by kernel_rfl, by kernel_rfl, by kernel_rfl⟩
/-! (*concord/disk.Disk).Total -/
def e58r0 : EE := .out [(0, .s 0)]
def e58r1 : EE := .out [(0, .s 0), (3, .c z)]
def e58r2 : EE := .q 1 .nl [.s 0] none <|
 .q 2 (.fld 1) [.r 1] none <|
 .q 3 .ld [.r 2] none <|
 .q 4 .len [.r 3] none <|
 .out [(3, .s 3), (9, .r 3), (10, .r 4), (11, .c z)]
def e58r3 : EE := .q 0 .lss [.s 11, .s 10] none <|
 .out [(3, .s 3), (9, .s 9), (10, .s 10), (11, .s 11), (12, .r 0)]
def e58r4 : EE := .q 0 (.ixs 3) [.s 9, .s 11] none <|
 .q 1 (.lda 3) [.r 0] none <|
 .x 2 (.alc [zs, .nsl, z] 70) [] none [] <|
 .x 3 (.st 3) [.r 2, .r 1] none [] <|
 .out [(3, .s 3), (5, .r 2), (9, .s 9), (10, .s 10), (11, .s 11)]
def e58r5 : EE := .q 1 (.fld 1) [.s 5] none <|
 .q 2 .ld [.r 1] none <|
 .q 3 .len [.r 2] none <|
 .q 4 .add [.s 3, .r 3] none <|
 .out [(3, .r 4), (9, .s 9), (10, .s 10), (11, .s 11)]
def e58r6 : EE := .q 0 .add [.s 11, .c (.int .i64 1)] none <|
 .out [(3, .s 3), (9, .s 9), (10, .s 10), (11, .r 0)]
def e58l7 : EC := (.seq (.reg e58r3 [3, 9, 10, 11] 0) (.seq (.cond (.s 12) .skip (.exit 0)) (.seq (.block 1 (.seq (.reg e58r4 [3, 9, 10, 11] 0) (.reg e58r5 [3, 5, 9, 10, 11] 0))) (.reg e58r6 [3, 9, 10, 11] 0))))
def e58r8 : EE := .out [(2, .s 3)]
def e58 : EFn := ⟨(.seq (.reg e58r0 [0] 0) (.seq (.reg e58r1 [0] 0) (.seq (.seq (.reg e58r2 [0, 3] 0) (.block 0 (.loop [3, 9, 10, 11] e58l7))) (.seq (.reg e58r8 [3] 0) .ret)))), [.slot 2], 22, 0⟩
theorem g58 : Good Tryd.prog 58 e58 := ⟨Tryd.f58, Tryd.func58, by kernel_rfl, by kernel_rfl, by kernel_rfl, by kernel_rfl⟩
/-! slices.rotateRight[concord/disk.file] -/
def e60r0 : EE := .q 2 .len [.s 0] none <|
 .q 4 .sub [.r 2, .s 1] none <|
 .x 5 (.call 73) [.s 0, .r 4] none [] <|
 .out []
def e60 : EFn := ⟨(.reg e60r0 [0, 1] 0), [], 10, 0⟩
theorem g60 : Good Tryd.prog 60 e60 := ⟨Tryd.f60, Tryd.func60, by kernel_rfl, by kernel_rfl, by kernel_rfl, by kernel_rfl⟩
/-! slices.Grow[[]byte,byte] -/
def e61r0 : EE := .out [(0, .s 0), (1, .s 1)]
def e61r1 : EE := .q 1 .lss [.s 1, .c z] none <|
 .out [(0, .s 0), (1, .s 1), (6, .r 1)]
def e61r2 : EE := .q 0 (.mki 9) [.c (.str [99, 97, 110, 110, 111, 116, 32, 98, 101, 32, 110, 101, 103, 97, 116, 105, 118, 101])] none <|
 .x 1 .bad [] none [] <|
 .out [(0, .s 0), (1, .s 1)]
def e61r3 : EE := .q 2 .cap [.s 0] none <|
 .q 4 .len [.s 0] none <|
 .q 5 .sub [.r 2, .r 4] none <|
 .q 6 .sub [.s 1, .r 5] none <|
 .out [(0, .s 0), (1, .r 6)]
def e61r4 : EE := .q 1 .gtr [.s 1, .c z] none <|
 .out [(0, .s 0), (1, .s 1), (16, .r 1)]
def e61r5 : EE := .q 2 .cap [.s 0] none <|
 .q 3 (.slc 1 false true) [.s 0, .r 2] none <|
 .x 5 (.appn 5 1 1 [(.int .u8 0)]) [.r 3, .s 1] none [] <|
 .q 7 .len [.s 0] none <|
 .q 8 (.slc 1 false true) [.r 5, .r 7] none <|
 .out [(0, .r 8)]
def e61r6 : EE := .out [(4, .s 0)]
def e61 : EFn := ⟨(.seq (.reg e61r0 [0, 1] 0) (.seq (.seq (.reg e61r1 [0, 1] 0) (.cond (.s 6) (.reg e61r2 [0, 1] 0) .skip)) (.seq (.seq (.reg e61r3 [0, 1] 0) (.seq (.reg e61r4 [0, 1] 0) (.cond (.s 16) (.reg e61r5 [0, 1] 0) .skip))) (.seq (.reg e61r6 [0] 0) .ret)))), [.slot 4], 27, 0⟩
theorem g61 : Good Tryd.prog 61 e61 := ⟨Tryd.f61, Tryd.func61, by kernel_rfl, by kernel_rfl, by kernel_rfl, by kernel_rfl⟩
/-! internal/stringslite.Index -/
def e62r0 : EE := .out [(0, .s 0), (1, .s 1)]
def e62r1 : EE := .q 1 .lenz [.s 1] none <|
 .out [(0, .s 0), (1, .s 1), (5, .r 1)]
def e62r2 : EE := .q 1 .eql [.s 5, .c z] none <|
 .q 3 .mv [.s 1] (some (.r 1, false)) <|
 .q 4 .mv [.s 0] (some (.r 1, false)) <|
 .q 5 .seql [.r 3, .r 4] (some (.r 1, false)) <|
 .q 6 .pick [.r 1, .c (.bool true), .r 5] none <|
 .out [(0, .s 0), (1, .s 1), (5, .s 5), (16, .r 6)]
def e62r3 : EE := .out [(4, .c z)]
def e62r4 : EE := .q 1 .eql [.s 5, .c (.int .i64 1)] none <|
 .out [(0, .s 0), (1, .s 1), (5, .s 5), (24, .r 1)]
def e62r5 : EE := .q 2 .idxs [.s 1, .c z] none <|
 .x 3 (.call 74) [.s 0, .r 2] none [] <|
 .out [(4, .r 3)]
def e62r6 : EE := .q 2 .lenz [.s 0] none <|
 .q 3 .geq [.s 5, .r 2] none <|
 .out [(0, .s 0), (1, .s 1), (5, .s 5), (31, .r 3)]
def e62r7 : EE := .out [(4, .c (.int .i64 (-1)))]
def e62r8 : EE := .q 1 .ld [.g 0] none <|
 .q 2 .leq [.s 5, .r 1] none <|
 .q 4 .mv [.s 0] (some (.r 2, true)) <|
 .q 5 .lenz [.r 4] (some (.r 2, true)) <|
 .q 6 .leq [.r 5, .c (.int .i64 64)] (some (.r 2, true)) <|
 .q 7 .pick [.r 2, .r 6, .c (.bool false)] none <|
 .out [(0, .s 0), (1, .s 1), (5, .s 5), (36, .r 7)]
def e62r9 : EE := .x 2 .bad [] none [] <|
 .out [(4, .r 2)]
def e62r10 : EE := .q 1 .idxs [.s 1, .c z] none <|
 .out [(0, .s 0), (1, .s 1), (5, .s 5), (6, .r 1)]
def e62r11 : EE := .q 1 .idxs [.s 1, .c (.int .i64 1)] none <|
 .out [(0, .s 0), (1, .s 1), (5, .s 5), (6, .s 6), (7, .r 1)]
def e62r12 : EE := .out [(0, .s 0), (1, .s 1), (5, .s 5), (6, .s 6), (7, .s 7), (8, .c z)]
def e62r13 : EE := .q 1 .lenz [.s 0] none <|
 .q 3 .sub [.r 1, .s 5] none <|
 .q 4 .add [.r 3, .c (.int .i64 1)] none <|
 .out [(0, .s 0), (1, .s 1), (5, .s 5), (6, .s 6), (7, .s 7), (8, .s 8), (9, .r 4)]
def e62r14 : EE := .out [(0, .s 0), (1, .s 1), (5, .s 5), (6, .s 6), (7, .s 7), (8, .s 8), (9, .s 9), (10, .c z)]
def e62r15 : EE := .q 2 .lss [.s 8, .s 9] none <|
 .out [(0, .s 0), (1, .s 1), (5, .s 5), (6, .s 6), (7, .s 7), (8, .s 8), (9, .s 9), (10, .s 10), (59, .r 2)]
def e62r16 : EE := .q 2 .idxs [.s 0, .s 8] none <|
 .q 4 .neq [.r 2, .s 6] none <|
 .out [(0, .s 0), (1, .s 1), (5, .s 5), (6, .s 6), (7, .s 7), (8, .s 8), (9, .s 9), (10, .s 10), (64, .r 4)]
def e62r17 : EE := .q 2 .add [.s 8, .c (.int .i64 1)] none <|
 .q 4 (.slcs true true) [.s 0, .r 2, .s 9] none <|
 .x 6 (.call 74) [.r 4, .s 6] none [] <|
 .out [(0, .s 0), (1, .s 1), (5, .s 5), (6, .s 6), (7, .s 7), (8, .s 8), (9, .s 9), (10, .s 10), (11, .r 6)]
def e62r18 : EE := .q 1 .lss [.s 11, .c z] none <|
 .out [(0, .s 0), (1, .s 1), (5, .s 5), (6, .s 6), (7, .s 7), (8, .s 8), (9, .s 9), (10, .s 10), (11, .s 11), (73, .r 1)]
def e62r19 : EE := .out [(4, .c (.int .i64 (-1)))]
def e62r20 : EE := .q 2 .add [.s 11, .c (.int .i64 1)] none <|
 .q 3 .add [.s 8, .r 2] none <|
 .out [(0, .s 0), (1, .s 1), (5, .s 5), (6, .s 6), (7, .s 7), (8, .r 3), (9, .s 9), (10, .s 10)]
def e62r21 : EE := .q 2 .add [.s 8, .c (.int .i64 1)] none <|
 .q 3 .idxs [.s 0, .r 2] none <|
 .q 5 .eql [.r 3, .s 7] none <|
 .q 7 .mv [.s 0] (some (.r 5, true)) <|
 .q 8 .mv [.s 8] (some (.r 5, true)) <|
 .q 9 .mv [.s 8] (some (.r 5, true)) <|
 .q 10 .mv [.s 5] (some (.r 5, true)) <|
 .q 11 .add [.r 9, .r 10] (some (.r 5, true)) <|
 .q 12 (.slcs true true) [.r 7, .r 8, .r 11] (some (.r 5, true)) <|
 .q 13 .mv [.s 1] (some (.r 5, true)) <|
 .q 14 .seql [.r 12, .r 13] (some (.r 5, true)) <|
 .q 15 .pick [.r 5, .r 14, .c (.bool false)] none <|
 .out [(0, .s 0), (1, .s 1), (5, .s 5), (6, .s 6), (7, .s 7), (8, .s 8), (9, .s 9), (10, .s 10), (93, .r 15)]
def e62r22 : EE := .out [(4, .s 8)]
def e62r23 : EE := .q 1 .add [.s 8, .c (.int .i64 1)] none <|
 .out [(0, .s 0), (1, .s 1), (5, .s 5), (6, .s 6), (7, .s 7), (8, .r 1), (9, .s 9), (10, .s 10)]
def e62r24 : EE := .q 1 .add [.s 10, .c (.int .i64 1)] none <|
 .out [(0, .s 0), (1, .s 1), (5, .s 5), (6, .s 6), (7, .s 7), (8, .s 8), (9, .s 9), (10, .r 1)]
def e62r25 : EE := .q 1 .ld [.g 0] none <|
 .q 2 .leq [.s 5, .r 1] none <|
 .q 4 .mv [.s 10] (some (.r 2, true)) <|
 .q 5 .mv [.s 8] (some (.r 2, true)) <|
 .x 6 (.call 76) [.r 5] (some (.r 2, true)) [] <|
 .q 7 .gtr [.r 4, .r 6] (some (.r 2, true)) <|
 .q 8 .pick [.r 2, .r 7, .c (.bool false)] none <|
 .out [(0, .s 0), (1, .s 1), (5, .s 5), (6, .s 6), (7, .s 7), (8, .s 8), (9, .s 9), (10, .s 10), (107, .r 8)]
def e62r26 : EE := .q 2 (.slcs true false) [.s 0, .s 8] none <|
 .x 4 .bad [] none [] <|
 .out [(8, .s 8), (12, .r 4)]
def e62r27 : EE := .q 1 .geq [.s 12, .c z] none <|
 .out [(8, .s 8), (12, .s 12), (114, .r 1)]
def e62r28 : EE := .q 2 .add [.s 12, .s 8] none <|
 .out [(4, .r 2)]
def e62r29 : EE := .out [(4, .c (.int .i64 (-1)))]
def e62r30 : EE := .q 1 .ld [.g 0] none <|
 .q 2 .gtr [.s 5, .r 1] none <|
 .q 4 .mv [.s 10] (some (.r 2, true)) <|
 .q 5 .mv [.s 8] (some (.r 2, true)) <|
 .q 6 .shr [.r 5, .c (.int .u64 4)] (some (.r 2, true)) <|
 .q 7 .add [.c (.int .i64 4), .r 6] (some (.r 2, true)) <|
 .q 8 .geq [.r 4, .r 7] (some (.r 2, true)) <|
 .q 9 .pick [.r 2, .r 8, .c (.bool false)] none <|
 .q 11 .mv [.s 8] (some (.r 9, true)) <|
 .q 12 .mv [.s 9] (some (.r 9, true)) <|
 .q 13 .lss [.r 11, .r 12] (some (.r 9, true)) <|
 .q 14 .pick [.r 9, .r 13, .c (.bool false)] none <|
 .out [(0, .s 0), (1, .s 1), (5, .s 5), (6, .s 6), (7, .s 7), (8, .s 8), (9, .s 9), (10, .s 10), (132, .r 14)]
def e62r31 : EE := .q 2 (.slcs true false) [.s 0, .s 8] none <|
 .x 4 (.call 77) [.r 2, .s 1] none [] <|
 .out [(8, .s 8), (13, .r 4)]
def e62r32 : EE := .q 1 .lss [.s 13, .c z] none <|
 .out [(8, .s 8), (13, .s 13), (139, .r 1)]
def e62r33 : EE := .out [(4, .c (.int .i64 (-1)))]
def e62r34 : EE := .q 2 .add [.s 8, .s 13] none <|
 .out [(4, .r 2)]
def e62l35 : EC := (.seq (.seq (.reg e62r15 [0, 1, 5, 6, 7, 8, 9, 10] 0) (.cond (.s 59) .skip (.exit 1))) (.block 2 (.seq (.seq (.reg e62r16 [0, 1, 5, 6, 7, 8, 9, 10] 0) (.cond (.s 64) (.seq (.reg e62r17 [0, 1, 5, 6, 7, 8, 9, 10] 0) (.seq (.seq (.reg e62r18 [0, 1, 5, 6, 7, 8, 9, 10, 11] 0) (.cond (.s 73) (.seq (.reg e62r19 [] 0) .ret) .skip)) (.reg e62r20 [0, 1, 5, 6, 7, 8, 9, 10, 11] 0))) .skip)) (.seq (.seq (.reg e62r21 [0, 1, 5, 6, 7, 8, 9, 10] 0) (.cond (.s 93) (.seq (.reg e62r22 [8] 0) .ret) .skip)) (.seq (.reg e62r23 [0, 1, 5, 6, 7, 8, 9, 10] 0) (.seq (.reg e62r24 [0, 1, 5, 6, 7, 8, 9, 10] 0) (.seq (.reg e62r25 [0, 1, 5, 6, 7, 8, 9, 10] 0) (.cond (.s 107) (.seq (.reg e62r26 [0, 8] 0) (.seq (.seq (.reg e62r27 [8, 12] 0) (.cond (.s 114) (.seq (.reg e62r28 [8, 12] 0) .ret) .skip)) (.seq (.reg e62r29 [] 0) .ret))) (.seq (.reg e62r30 [0, 1, 5, 6, 7, 8, 9, 10] 0) (.cond (.s 132) (.seq (.reg e62r31 [0, 1, 8] 0) (.seq (.seq (.reg e62r32 [8, 13] 0) (.cond (.s 139) (.seq (.reg e62r33 [] 0) .ret) .skip)) (.seq (.reg e62r34 [8, 13] 0) .ret))) .skip))))))))))
def e62r36 : EE := .out [(4, .c (.int .i64 (-1)))]
def e62 : EFn := ⟨(.seq (.reg e62r0 [0, 1] 0) (.seq (.reg e62r1 [0, 1] 0) (.seq (.block 0 (.seq (.reg e62r2 [0, 1, 5] 0) (.cond (.s 16) (.seq (.reg e62r3 [] 0) .ret) (.seq (.reg e62r4 [0, 1, 5] 0) (.cond (.s 24) (.seq (.reg e62r5 [0, 1] 0) .ret) (.seq (.reg e62r6 [0, 1, 5] 0) (.cond (.s 31) (.seq (.reg e62r7 [] 0) .ret) (.seq (.reg e62r8 [0, 1, 5] 0) (.cond (.s 36) (.seq (.reg e62r9 [] 0) .ret) .skip))))))))) (.seq (.reg e62r10 [0, 1, 5] 0) (.seq (.reg e62r11 [0, 1, 5, 6] 0) (.seq (.reg e62r12 [0, 1, 5, 6, 7] 0) (.seq (.reg e62r13 [0, 1, 5, 6, 7, 8] 0) (.seq (.reg e62r14 [0, 1, 5, 6, 7, 8, 9] 0) (.seq (.block 1 (.loop [0, 1, 5, 6, 7, 8, 9, 10] e62l35)) (.seq (.reg e62r36 [] 0) .ret)))))))))), [.slot 4], 143, 0⟩
theorem g62 : Good Tryd.prog 62 e62 := ⟨Tryd.f62, Tryd.func62, by kernel_rfl, by kernel_rfl, by kernel_rfl, by kernel_rfl⟩
/-! internal/stringslite.HasPrefix -/
def e63r0 : EE := .out [(0, .s 0), (1, .s 1)]
def e63r1 : EE := .q 1 .lenz [.s 0] none <|
 .q 3 .lenz [.s 1] none <|
 .q 4 .geq [.r 1, .r 3] none <|
 .q 6 .mv [.s 0] (some (.r 4, true)) <|
 .q 7 .mv [.s 1] (some (.r 4, true)) <|
 .q 8 .lenz [.r 7] (some (.r 4, true)) <|
 .q 9 (.slcs false true) [.r 6, .r 8] (some (.r 4, true)) <|
 .q 10 .mv [.s 1] (some (.r 4, true)) <|
 .q 11 .seql [.r 9, .r 10] (some (.r 4, true)) <|
 .q 12 .pick [.r 4, .r 11, .c (.bool false)] none <|
 .out [(4, .r 12)]
def e63 : EFn := ⟨(.seq (.reg e63r0 [0, 1] 0) (.seq (.reg e63r1 [0, 1] 0) .ret)), [.slot 4], 18, 0⟩
theorem g63 : Good Tryd.prog 63 e63 := ⟨Tryd.f63, Tryd.func63, by kernel_rfl, by kernel_rfl, by kernel_rfl, by kernel_rfl⟩
/-! internal/strconv.ParseInt -/
def e64r0 : EE := .out [(0, .s 0), (1, .s 1), (2, .s 2)]
def e64r1 : EE := .q 1 .seql [.s 0, .c zs] none <|
 .out [(0, .s 0), (1, .s 1), (2, .s 2), (13, .r 1)]
def e64r2 : EE := .q 0 (.mki 108) [.c (.int .i64 2)] none <|
 .out [(6, .c z), (7, .r 0)]
def e64r3 : EE := .out [(0, .s 0), (1, .s 1), (2, .s 2), (8, .c (.bool false))]
def e64r4 : EE := .q 1 .idxs [.s 0, .c z] none <|
 .out [(0, .s 0), (1, .s 1), (2, .s 2), (8, .s 8), (16, .r 1)]
def e64r5 : EE := .q 0 .eql [.s 16, .c (.int .u8 43)] none <|
 .out [(0, .s 0), (1, .s 1), (2, .s 2), (8, .s 8), (16, .s 16), (17, .r 0)]
def e64r6 : EE := .q 1 (.slcs true false) [.s 0, .c (.int .i64 1)] none <|
 .out [(0, .r 1), (1, .s 1), (2, .s 2), (8, .s 8)]
def e64r7 : EE := .q 0 .eql [.s 16, .c (.int .u8 45)] none <|
 .out [(0, .s 0), (1, .s 1), (2, .s 2), (8, .s 8), (21, .r 0)]
def e64r8 : EE := .q 1 (.slcs true false) [.s 0, .c (.int .i64 1)] none <|
 .out [(0, .r 1), (1, .s 1), (2, .s 2)]
def e64r9 : EE := .out [(0, .s 0), (1, .s 1), (2, .s 2), (8, .c (.bool true))]
def e64r10 : EE := .out [(0, .s 0), (1, .s 1), (2, .s 2), (8, .s 8)]
def e64r11 : EE := .x 3 (.call 78) [.s 0, .s 1, .s 2] none [] <|
 .q 5 (.ext 0) [.r 3] none <|
 .q 6 (.ext 1) [.r 3] none <|
 .out [(2, .s 2), (7, .r 6), (8, .s 8), (9, .r 5)]
def e64r12 : EE := .q 1 (.eqi true) [.s 7, .c .nif] none <|
 .q 3 .mv [.s 7] (some (.r 1, true)) <|
 .q 4 (.mki 108) [.c (.int .i64 1)] (some (.r 1, true)) <|
 .x 5 .bad [] (some (.r 1, true)) [] <|
 .q 6 .pick [.r 1, .r 5, .c (.bool false)] none <|
 .out [(2, .s 2), (7, .s 7), (8, .s 8), (9, .s 9), (38, .r 6)]
def e64r13 : EE := .out [(6, .c z), (7, .s 7)]
def e64r14 : EE := .q 1 .eql [.s 2, .c z] none <|
 .out [(2, .s 2), (8, .s 8), (9, .s 9), (41, .r 1)]
def e64r15 : EE := .out [(2, .c (.int .i64 64)), (8, .s 8), (9, .s 9)]
def e64r16 : EE := .q 1 .sub [.s 2, .c (.int .i64 1)] none <|
 .q 2 (.conv .u64) [.r 1] none <|
 .q 3 .shl [.c (.int .u64 1), .r 2] none <|
 .out [(8, .s 8), (9, .s 9), (10, .r 3)]
def e64r17 : EE := .q 1 .not [.s 8] none <|
 .q 3 .mv [.s 9] (some (.r 1, true)) <|
 .q 4 .mv [.s 10] (some (.r 1, true)) <|
 .q 5 .geq [.r 3, .r 4] (some (.r 1, true)) <|
 .q 6 .pick [.r 1, .r 5, .c (.bool false)] none <|
 .out [(8, .s 8), (9, .s 9), (10, .s 10), (52, .r 6)]
def e64r18 : EE := .q 1 .sub [.s 10, .c (.int .u64 1)] none <|
 .q 2 (.conv .i64) [.r 1] none <|
 .q 3 (.mki 108) [.c (.int .i64 1)] none <|
 .out [(6, .r 2), (7, .r 3)]
def e64r19 : EE := .q 2 .mv [.s 9] (some (.s 8, true)) <|
 .q 3 .mv [.s 10] (some (.s 8, true)) <|
 .q 4 .gtr [.r 2, .r 3] (some (.s 8, true)) <|
 .q 5 .pick [.s 8, .r 4, .c (.bool false)] none <|
 .out [(8, .s 8), (9, .s 9), (10, .s 10), (62, .r 5)]
def e64r20 : EE := .q 1 (.conv .i64) [.s 10] none <|
 .q 2 .neg [.r 1] none <|
 .q 3 (.mki 108) [.c (.int .i64 1)] none <|
 .out [(6, .r 2), (7, .r 3)]
def e64r21 : EE := .q 1 (.conv .i64) [.s 9] none <|
 .out [(8, .s 8), (11, .r 1)]
def e64r22 : EE := .out [(11, .s 11), (69, .s 8)]
def e64r23 : EE := .q 1 .neg [.s 11] none <|
 .out [(11, .r 1)]
def e64r24 : EE := .out [(6, .s 11), (7, .c .nif)]
def e64 : EFn := ⟨(.seq (.reg e64r0 [0, 1, 2] 0) (.seq (.seq (.reg e64r1 [0, 1, 2] 0) (.cond (.s 13) (.seq (.reg e64r2 [] 0) .ret) .skip)) (.seq (.reg e64r3 [0, 1, 2] 0) (.seq (.seq (.reg e64r4 [0, 1, 2, 8] 0) (.block 0 (.seq (.reg e64r5 [0, 1, 2, 8, 16] 0) (.cond (.s 17) (.reg e64r6 [0, 1, 2, 8] 0) (.seq (.reg e64r7 [0, 1, 2, 8, 16] 0) (.cond (.s 21) (.seq (.reg e64r8 [0, 1, 2] 0) (.reg e64r9 [0, 1, 2] 0)) .skip)))))) (.seq (.reg e64r10 [0, 1, 2, 8] 0) (.seq (.reg e64r11 [0, 1, 2, 8] 0) (.seq (.seq (.reg e64r12 [2, 7, 8, 9] 0) (.cond (.s 38) (.seq (.reg e64r13 [7] 0) .ret) .skip)) (.seq (.seq (.reg e64r14 [2, 8, 9] 0) (.cond (.s 41) (.reg e64r15 [8, 9] 0) .skip)) (.seq (.reg e64r16 [2, 8, 9] 0) (.seq (.seq (.reg e64r17 [8, 9, 10] 0) (.cond (.s 52) (.seq (.reg e64r18 [10] 0) .ret) .skip)) (.seq (.seq (.reg e64r19 [8, 9, 10] 0) (.cond (.s 62) (.seq (.reg e64r20 [10] 0) .ret) .skip)) (.seq (.reg e64r21 [8, 9] 0) (.seq (.seq (.reg e64r22 [8, 11] 0) (.cond (.s 69) (.reg e64r23 [11] 0) .skip)) (.seq (.reg e64r24 [11] 0) .ret)))))))))))))), [.slot 6, .slot 7], 73, 0⟩
theorem g64 : Good Tryd.prog 64 e64 := ⟨Tryd.f64, Tryd.func64, by kernel_rfl, by kernel_rfl, by kernel_rfl, by kernel_rfl⟩
/-! strconv.syntaxError -/
def e65r0 : EE := .out [(0, .s 0), (1, .s 1)]
def e65r1 : EE := .q 3 .ld [.g 1] none <|
 .x 2 (.call 79) [.s 1] none [⟨3, .ld, [.g 1], none⟩] <|
 .q 4 (.bld [zs, zs, .nif] [(0, 1), (1, 1), (2, 1)]) [.s 0, .r 2, .r 3] none <|
 .x 5 (.box 124) [.r 4] none [] <|
 .out [(4, .r 5)]
def e65 : EFn := ⟨(.seq (.reg e65r0 [0, 1] 0) (.seq (.reg e65r1 [0, 1] 0) .ret)), [.slot 4], 11, 0⟩
theorem g65 : Good Tryd.prog 65 e65 := ⟨Tryd.f65, Tryd.func65, by kernel_rfl, by kernel_rfl, by kernel_rfl, by kernel_rfl⟩
/-! strconv.rangeError -/
def e66r0 : EE := .out [(0, .s 0), (1, .s 1)]
def e66r1 : EE := .q 3 .ld [.g 2] none <|
 .x 2 (.call 79) [.s 1] none [⟨3, .ld, [.g 2], none⟩] <|
 .q 4 (.bld [zs, zs, .nif] [(0, 1), (1, 1), (2, 1)]) [.s 0, .r 2, .r 3] none <|
 .x 5 (.box 124) [.r 4] none [] <|
 .out [(4, .r 5)]
def e66 : EFn := ⟨(.seq (.reg e66r0 [0, 1] 0) (.seq (.reg e66r1 [0, 1] 0) .ret)), [.slot 4], 11, 0⟩
theorem g66 : Good Tryd.prog 66 e66 := ⟨Tryd.f66, Tryd.func66, by kernel_rfl, by kernel_rfl, by kernel_rfl, by kernel_rfl⟩
/-! strconv.baseError -/
def e67r0 : EE := .out [(0, .s 0), (1, .s 1), (2, .s 2)]
def e67r1 : EE := .x 2 (.call 79) [.s 1] none [] <|
 .x 4 (.call 30) [.s 2] none [] <|
 .q 5 .sadd [.c (.str [105, 110, 118, 97, 108, 105, 100, 32, 98, 97, 115, 101, 32]), .r 4] none <|
 .x 6 (.call 80) [.r 5] none [] <|
 .q 7 (.bld [zs, zs, .nif] [(0, 1), (1, 1), (2, 1)]) [.s 0, .r 2, .r 6] none <|
 .x 8 (.box 124) [.r 7] none [] <|
 .out [(6, .r 8)]
def e67 : EFn := ⟨(.seq (.reg e67r0 [0, 1, 2] 0) (.seq (.reg e67r1 [0, 1, 2] 0) .ret)), [.slot 6], 16, 0⟩
theorem g67 : Good Tryd.prog 67 e67 := ⟨Tryd.f67, Tryd.func67, by kernel_rfl, by kernel_rfl, by kernel_rfl, by kernel_rfl⟩
/-! strconv.bitSizeError -/
def e68r0 : EE := .out [(0, .s 0), (1, .s 1), (2, .s 2)]
def e68r1 : EE := .x 2 (.call 79) [.s 1] none [] <|
 .x 4 (.call 30) [.s 2] none [] <|
 .q 5 .sadd [.c (.str [105, 110, 118, 97, 108, 105, 100, 32, 98, 105, 116, 32, 115, 105, 122, 101, 32]), .r 4] none <|
 .x 6 (.call 80) [.r 5] none [] <|
 .q 7 (.bld [zs, zs, .nif] [(0, 1), (1, 1), (2, 1)]) [.s 0, .r 2, .r 6] none <|
 .x 8 (.box 124) [.r 7] none [] <|
 .out [(6, .r 8)]
def e68 : EFn := ⟨(.seq (.reg e68r0 [0, 1, 2] 0) (.seq (.reg e68r1 [0, 1, 2] 0) .ret)), [.slot 6], 16, 0⟩
theorem g68 : Good Tryd.prog 68 e68 := ⟨Tryd.f68, Tryd.func68, by kernel_rfl, by kernel_rfl, by kernel_rfl, by kernel_rfl⟩
/-! internal/strconv.small -/
def e69r0 : EE := .out [(0, .s 0)]
def e69r1 : EE := .q 1 .lss [.s 0, .c (.int .i64 10)] none <|
 .out [(0, .s 0), (4, .r 1)]
def e69r2 : EE := .q 2 .add [.s 0, .c (.int .i64 1)] none <|
 .q 3 (.slcs true true) [.c (.str [48, 49, 50, 51, 52, 53, 54, 55, 56, 57, 97, 98, 99, 100, 101, 102, 103, 104, 105, 106, 107, 108, 109, 110, 111, 112, 113, 114, 115, 116, 117, 118, 119, 120, 121, 122]), .s 0, .r 2] none <|
 .out [(2, .r 3)]
def e69r3 : EE := .q 1 .mul [.s 0, .c (.int .i64 2)] none <|
 .q 3 .mul [.s 0, .c (.int .i64 2)] none <|
 .q 4 .add [.r 3, .c (.int .i64 2)] none <|
 .q 5 (.slcs true true) [.c (.str [48, 48, 48, 49, 48, 50, 48, 51, 48, 52, 48, 53, 48, 54, 48, 55, 48, 56, 48, 57, 49, 48, 49, 49, 49, 50, 49, 51, 49, 52, 49, 53, 49, 54, 49, 55, 49, 56, 49, 57, 50, 48, 50, 49, 50, 50, 50, 51, 50, 52, 50, 53, 50, 54, 50, 55, 50, 56, 50, 57, 51, 48, 51, 49, 51, 50, 51, 51, 51, 52, 51, 53, 51, 54, 51, 55, 51, 56, 51, 57, 52, 48, 52, 49, 52, 50, 52, 51, 52, 52, 52, 53, 52, 54, 52, 55, 52, 56, 52, 57, 53, 48, 53, 49, 53, 50, 53, 51, 53, 52, 53, 53, 53, 54, 53, 55, 53, 56, 53, 57, 54, 48, 54, 49, 54, 50, 54, 51, 54, 52, 54, 53, 54, 54, 54, 55, 54, 56, 54, 57, 55, 48, 55, 49, 55, 50, 55, 51, 55, 52, 55, 53, 55, 54, 55, 55, 55, 56, 55, 57, 56, 48, 56, 49, 56, 50, 56, 51, 56, 52, 56, 53, 56, 54, 56, 55, 56, 56, 56, 57, 57, 48, 57, 49, 57, 50, 57, 51, 57, 52, 57, 53, 57, 54, 57, 55, 57, 56, 57, 57]), .r 1, .r 4] none <|
 .out [(2, .r 5)]
def e69 : EFn := ⟨(.seq (.reg e69r0 [0] 0) (.seq (.seq (.reg e69r1 [0] 0) (.cond (.s 4) (.seq (.reg e69r2 [0] 0) .ret) .skip)) (.seq (.reg e69r3 [0] 0) .ret))), [.slot 2], 15, 0⟩
theorem g69 : Good Tryd.prog 69 e69 := ⟨Tryd.f69, Tryd.func69, by kernel_rfl, by kernel_rfl, by kernel_rfl, by kernel_rfl⟩
/-! internal/strconv.numDigits -/
def e70r0 : EE := .out [(0, .s 0)]
def e70r1 : EE := .x 1 (.call 82) [.s 0] none [] <|
 .x 2 (.call 81) [.r 1] none [] <|
 .out [(0, .s 0), (3, .r 2)]
def e70r2 : EE := .q 3 (.ixa 20 1) [.g 3, .s 3] none <|
 .q 4 .ld [.r 3] none <|
 .q 5 .geq [.s 0, .r 4] none <|
 .x 6 (.call 83) [.r 5] none [] <|
 .q 7 .add [.s 3, .r 6] none <|
 .out [(2, .r 7)]
def e70 : EFn := ⟨(.seq (.reg e70r0 [0] 0) (.seq (.reg e70r1 [0] 0) (.seq (.reg e70r2 [0, 3] 0) .ret))), [.slot 2], 15, 0⟩
theorem g70 : Good Tryd.prog 70 e70 := ⟨Tryd.f70, Tryd.func70, by kernel_rfl, by kernel_rfl, by kernel_rfl, by kernel_rfl⟩
/-! internal/strconv.formatBase10 -/
def e71r0 : EE := .q 1 .len [.s 0] none <|
 .out [(0, .s 0), (1, .s 1), (4, .r 1)]
def e71r1 : EE := .q 1 .geq [.s 4, .c (.int .i64 8)] none <|
 .out [(0, .s 0), (1, .s 1), (4, .s 4), (20, .r 1)]
def e71r2 : EE := .q 1 .rem [.s 1, .c (.int .u64 100000000)] none <|
 .q 2 (.conv .u32) [.r 1] none <|
 .out [(0, .s 0), (1, .s 1), (4, .s 4), (5, .r 2)]
def e71r3 : EE := .q 1 .quo [.s 1, .c (.int .u64 100000000)] none <|
 .out [(0, .s 0), (1, .r 1), (4, .s 4), (5, .s 5)]
def e71r4 : EE := .q 1 .quo [.s 5, .c (.int .u32 10000)] none <|
 .q 3 .rem [.s 5, .c (.int .u32 10000)] none <|
 .out [(0, .s 0), (1, .s 1), (4, .s 4), (6, .r 1), (7, .r 3)]
def e71r5 : EE := .q 1 .quo [.s 7, .c (.int .u32 100)] none <|
 .q 2 .mul [.r 1, .c (.int .u32 2)] none <|
 .q 4 .rem [.s 7, .c (.int .u32 100)] none <|
 .q 5 .mul [.r 4, .c (.int .u32 2)] none <|
 .out [(0, .s 0), (1, .s 1), (4, .s 4), (6, .s 6), (8, .r 2), (9, .r 5)]
def e71r6 : EE := .q 1 .quo [.s 6, .c (.int .u32 100)] none <|
 .q 2 .mul [.r 1, .c (.int .u32 2)] none <|
 .q 4 .rem [.s 6, .c (.int .u32 100)] none <|
 .q 5 .mul [.r 4, .c (.int .u32 2)] none <|
 .out [(0, .s 0), (1, .s 1), (4, .s 4), (8, .s 8), (9, .s 9), (10, .r 2), (11, .r 5)]
def e71r7 : EE := .q 2 .sub [.s 4, .c (.int .i64 1)] none <|
 .q 5 .sub [.s 4, .c (.int .i64 2)] none <|
 .q 7 .add [.s 9, .c (.int .u32 1)] none <|
 .q 8 .idxs [.c (.str [48, 48, 48, 49, 48, 50, 48, 51, 48, 52, 48, 53, 48, 54, 48, 55, 48, 56, 48, 57, 49, 48, 49, 49, 49, 50, 49, 51, 49, 52, 49, 53, 49, 54, 49, 55, 49, 56, 49, 57, 50, 48, 50, 49, 50, 50, 50, 51, 50, 52, 50, 53, 50, 54, 50, 55, 50, 56, 50, 57, 51, 48, 51, 49, 51, 50, 51, 51, 51, 52, 51, 53, 51, 54, 51, 55, 51, 56, 51, 57, 52, 48, 52, 49, 52, 50, 52, 51, 52, 52, 52, 53, 52, 54, 52, 55, 52, 56, 52, 57, 53, 48, 53, 49, 53, 50, 53, 51, 53, 52, 53, 53, 53, 54, 53, 55, 53, 56, 53, 57, 54, 48, 54, 49, 54, 50, 54, 51, 54, 52, 54, 53, 54, 54, 54, 55, 54, 56, 54, 57, 55, 48, 55, 49, 55, 50, 55, 51, 55, 52, 55, 53, 55, 54, 55, 55, 55, 56, 55, 57, 56, 48, 56, 49, 56, 50, 56, 51, 56, 52, 56, 53, 56, 54, 56, 55, 56, 56, 56, 57, 57, 48, 57, 49, 57, 50, 57, 51, 57, 52, 57, 53, 57, 54, 57, 55, 57, 56, 57, 57]), .r 7] none <|
 .q 10 .idxs [.c (.str [48, 48, 48, 49, 48, 50, 48, 51, 48, 52, 48, 53, 48, 54, 48, 55, 48, 56, 48, 57, 49, 48, 49, 49, 49, 50, 49, 51, 49, 52, 49, 53, 49, 54, 49, 55, 49, 56, 49, 57, 50, 48, 50, 49, 50, 50, 50, 51, 50, 52, 50, 53, 50, 54, 50, 55, 50, 56, 50, 57, 51, 48, 51, 49, 51, 50, 51, 51, 51, 52, 51, 53, 51, 54, 51, 55, 51, 56, 51, 57, 52, 48, 52, 49, 52, 50, 52, 51, 52, 52, 52, 53, 52, 54, 52, 55, 52, 56, 52, 57, 53, 48, 53, 49, 53, 50, 53, 51, 53, 52, 53, 53, 53, 54, 53, 55, 53, 56, 53, 57, 54, 48, 54, 49, 54, 50, 54, 51, 54, 52, 54, 53, 54, 54, 54, 55, 54, 56, 54, 57, 55, 48, 55, 49, 55, 50, 55, 51, 55, 52, 55, 53, 55, 54, 55, 55, 55, 56, 55, 57, 56, 48, 56, 49, 56, 50, 56, 51, 56, 52, 56, 53, 56, 54, 56, 55, 56, 56, 56, 57, 57, 48, 57, 49, 57, 50, 57, 51, 57, 52, 57, 53, 57, 54, 57, 55, 57, 56, 57, 57]), .s 9] none <|
 .q 11 (.ixs 1) [.s 0, .r 2] none <|
 .x 12 (.st 1) [.r 11, .r 8] none [] <|
 .q 13 (.ixs 1) [.s 0, .r 5] none <|
 .x 14 (.st 1) [.r 13, .r 10] none [] <|
 .out [(0, .s 0), (1, .s 1), (4, .s 4), (8, .s 8), (10, .s 10), (11, .s 11)]
def e71r8 : EE := .q 2 .sub [.s 4, .c (.int .i64 3)] none <|
 .q 5 .sub [.s 4, .c (.int .i64 4)] none <|
 .q 7 .add [.s 8, .c (.int .u32 1)] none <|
 .q 8 .idxs [.c (.str [48, 48, 48, 49, 48, 50, 48, 51, 48, 52, 48, 53, 48, 54, 48, 55, 48, 56, 48, 57, 49, 48, 49, 49, 49, 50, 49, 51, 49, 52, 49, 53, 49, 54, 49, 55, 49, 56, 49, 57, 50, 48, 50, 49, 50, 50, 50, 51, 50, 52, 50, 53, 50, 54, 50, 55, 50, 56, 50, 57, 51, 48, 51, 49, 51, 50, 51, 51, 51, 52, 51, 53, 51, 54, 51, 55, 51, 56, 51, 57, 52, 48, 52, 49, 52, 50, 52, 51, 52, 52, 52, 53, 52, 54, 52, 55, 52, 56, 52, 57, 53, 48, 53, 49, 53, 50, 53, 51, 53, 52, 53, 53, 53, 54, 53, 55, 53, 56, 53, 57, 54, 48, 54, 49, 54, 50, 54, 51, 54, 52, 54, 53, 54, 54, 54, 55, 54, 56, 54, 57, 55, 48, 55, 49, 55, 50, 55, 51, 55, 52, 55, 53, 55, 54, 55, 55, 55, 56, 55, 57, 56, 48, 56, 49, 56, 50, 56, 51, 56, 52, 56, 53, 56, 54, 56, 55, 56, 56, 56, 57, 57, 48, 57, 49, 57, 50, 57, 51, 57, 52, 57, 53, 57, 54, 57, 55, 57, 56, 57, 57]), .r 7] none <|
 .q 10 .idxs [.c (.str [48, 48, 48, 49, 48, 50, 48, 51, 48, 52, 48, 53, 48, 54, 48, 55, 48, 56, 48, 57, 49, 48, 49, 49, 49, 50, 49, 51, 49, 52, 49, 53, 49, 54, 49, 55, 49, 56, 49, 57, 50, 48, 50, 49, 50, 50, 50, 51, 50, 52, 50, 53, 50, 54, 50, 55, 50, 56, 50, 57, 51, 48, 51, 49, 51, 50, 51, 51, 51, 52, 51, 53, 51, 54, 51, 55, 51, 56, 51, 57, 52, 48, 52, 49, 52, 50, 52, 51, 52, 52, 52, 53, 52, 54, 52, 55, 52, 56, 52, 57, 53, 48, 53, 49, 53, 50, 53, 51, 53, 52, 53, 53, 53, 54, 53, 55, 53, 56, 53, 57, 54, 48, 54, 49, 54, 50, 54, 51, 54, 52, 54, 53, 54, 54, 54, 55, 54, 56, 54, 57, 55, 48, 55, 49, 55, 50, 55, 51, 55, 52, 55, 53, 55, 54, 55, 55, 55, 56, 55, 57, 56, 48, 56, 49, 56, 50, 56, 51, 56, 52, 56, 53, 56, 54, 56, 55, 56, 56, 56, 57, 57, 48, 57, 49, 57, 50, 57, 51, 57, 52, 57, 53, 57, 54, 57, 55, 57, 56, 57, 57]), .s 8] none <|
 .q 11 (.ixs 1) [.s 0, .r 2] none <|
 .x 12 (.st 1) [.r 11, .r 8] none [] <|
 .q 13 (.ixs 1) [.s 0, .r 5] none <|
 .x 14 (.st 1) [.r 13, .r 10] none [] <|
 .out [(0, .s 0), (1, .s 1), (4, .s 4), (10, .s 10), (11, .s 11)]
def e71r9 : EE := .q 2 .sub [.s 4, .c (.int .i64 5)] none <|
 .q 5 .sub [.s 4, .c (.int .i64 6)] none <|
 .q 7 .add [.s 11, .c (.int .u32 1)] none <|
 .q 8 .idxs [.c (.str [48, 48, 48, 49, 48, 50, 48, 51, 48, 52, 48, 53, 48, 54, 48, 55, 48, 56, 48, 57, 49, 48, 49, 49, 49, 50, 49, 51, 49, 52, 49, 53, 49, 54, 49, 55, 49, 56, 49, 57, 50, 48, 50, 49, 50, 50, 50, 51, 50, 52, 50, 53, 50, 54, 50, 55, 50, 56, 50, 57, 51, 48, 51, 49, 51, 50, 51, 51, 51, 52, 51, 53, 51, 54, 51, 55, 51, 56, 51, 57, 52, 48, 52, 49, 52, 50, 52, 51, 52, 52, 52, 53, 52, 54, 52, 55, 52, 56, 52, 57, 53, 48, 53, 49, 53, 50, 53, 51, 53, 52, 53, 53, 53, 54, 53, 55, 53, 56, 53, 57, 54, 48, 54, 49, 54, 50, 54, 51, 54, 52, 54, 53, 54, 54, 54, 55, 54, 56, 54, 57, 55, 48, 55, 49, 55, 50, 55, 51, 55, 52, 55, 53, 55, 54, 55, 55, 55, 56, 55, 57, 56, 48, 56, 49, 56, 50, 56, 51, 56, 52, 56, 53, 56, 54, 56, 55, 56, 56, 56, 57, 57, 48, 57, 49, 57, 50, 57, 51, 57, 52, 57, 53, 57, 54, 57, 55, 57, 56, 57, 57]), .r 7] none <|
 .q 10 .idxs [.c (.str [48, 48, 48, 49, 48, 50, 48, 51, 48, 52, 48, 53, 48, 54, 48, 55, 48, 56, 48, 57, 49, 48, 49, 49, 49, 50, 49, 51, 49, 52, 49, 53, 49, 54, 49, 55, 49, 56, 49, 57, 50, 48, 50, 49, 50, 50, 50, 51, 50, 52, 50, 53, 50, 54, 50, 55, 50, 56, 50, 57, 51, 48, 51, 49, 51, 50, 51, 51, 51, 52, 51, 53, 51, 54, 51, 55, 51, 56, 51, 57, 52, 48, 52, 49, 52, 50, 52, 51, 52, 52, 52, 53, 52, 54, 52, 55, 52, 56, 52, 57, 53, 48, 53, 49, 53, 50, 53, 51, 53, 52, 53, 53, 53, 54, 53, 55, 53, 56, 53, 57, 54, 48, 54, 49, 54, 50, 54, 51, 54, 52, 54, 53, 54, 54, 54, 55, 54, 56, 54, 57, 55, 48, 55, 49, 55, 50, 55, 51, 55, 52, 55, 53, 55, 54, 55, 55, 55, 56, 55, 57, 56, 48, 56, 49, 56, 50, 56, 51, 56, 52, 56, 53, 56, 54, 56, 55, 56, 56, 56, 57, 57, 48, 57, 49, 57, 50, 57, 51, 57, 52, 57, 53, 57, 54, 57, 55, 57, 56, 57, 57]), .s 11] none <|
 .q 11 (.ixs 1) [.s 0, .r 2] none <|
 .x 12 (.st 1) [.r 11, .r 8] none [] <|
 .q 13 (.ixs 1) [.s 0, .r 5] none <|
 .x 14 (.st 1) [.r 13, .r 10] none [] <|
 .out [(0, .s 0), (1, .s 1), (4, .s 4), (10, .s 10)]
def e71r10 : EE := .q 2 .sub [.s 4, .c (.int .i64 7)] none <|
 .q 5 .sub [.s 4, .c (.int .i64 8)] none <|
 .q 7 .add [.s 10, .c (.int .u32 1)] none <|
 .q 8 .idxs [.c (.str [48, 48, 48, 49, 48, 50, 48, 51, 48, 52, 48, 53, 48, 54, 48, 55, 48, 56, 48, 57, 49, 48, 49, 49, 49, 50, 49, 51, 49, 52, 49, 53, 49, 54, 49, 55, 49, 56, 49, 57, 50, 48, 50, 49, 50, 50, 50, 51, 50, 52, 50, 53, 50, 54, 50, 55, 50, 56, 50, 57, 51, 48, 51, 49, 51, 50, 51, 51, 51, 52, 51, 53, 51, 54, 51, 55, 51, 56, 51, 57, 52, 48, 52, 49, 52, 50, 52, 51, 52, 52, 52, 53, 52, 54, 52, 55, 52, 56, 52, 57, 53, 48, 53, 49, 53, 50, 53, 51, 53, 52, 53, 53, 53, 54, 53, 55, 53, 56, 53, 57, 54, 48, 54, 49, 54, 50, 54, 51, 54, 52, 54, 53, 54, 54, 54, 55, 54, 56, 54, 57, 55, 48, 55, 49, 55, 50, 55, 51, 55, 52, 55, 53, 55, 54, 55, 55, 55, 56, 55, 57, 56, 48, 56, 49, 56, 50, 56, 51, 56, 52, 56, 53, 56, 54, 56, 55, 56, 56, 56, 57, 57, 48, 57, 49, 57, 50, 57, 51, 57, 52, 57, 53, 57, 54, 57, 55, 57, 56, 57, 57]), .r 7] none <|
 .q 10 .idxs [.c (.str [48, 48, 48, 49, 48, 50, 48, 51, 48, 52, 48, 53, 48, 54, 48, 55, 48, 56, 48, 57, 49, 48, 49, 49, 49, 50, 49, 51, 49, 52, 49, 53, 49, 54, 49, 55, 49, 56, 49, 57, 50, 48, 50, 49, 50, 50, 50, 51, 50, 52, 50, 53, 50, 54, 50, 55, 50, 56, 50, 57, 51, 48, 51, 49, 51, 50, 51, 51, 51, 52, 51, 53, 51, 54, 51, 55, 51, 56, 51, 57, 52, 48, 52, 49, 52, 50, 52, 51, 52, 52, 52, 53, 52, 54, 52, 55, 52, 56, 52, 57, 53, 48, 53, 49, 53, 50, 53, 51, 53, 52, 53, 53, 53, 54, 53, 55, 53, 56, 53, 57, 54, 48, 54, 49, 54, 50, 54, 51, 54, 52, 54, 53, 54, 54, 54, 55, 54, 56, 54, 57, 55, 48, 55, 49, 55, 50, 55, 51, 55, 52, 55, 53, 55, 54, 55, 55, 55, 56, 55, 57, 56, 48, 56, 49, 56, 50, 56, 51, 56, 52, 56, 53, 56, 54, 56, 55, 56, 56, 56, 57, 57, 48, 57, 49, 57, 50, 57, 51, 57, 52, 57, 53, 57, 54, 57, 55, 57, 56, 57, 57]), .s 10] none <|
 .q 11 (.ixs 1) [.s 0, .r 2] none <|
 .x 12 (.st 1) [.r 11, .r 8] none [] <|
 .q 13 (.ixs 1) [.s 0, .r 5] none <|
 .x 14 (.st 1) [.r 13, .r 10] none [] <|
 .out [(0, .s 0), (1, .s 1), (4, .s 4)]
def e71r11 : EE := .q 1 .sub [.s 4, .c (.int .i64 8)] none <|
 .out [(0, .s 0), (1, .s 1), (4, .r 1)]
def e71l12 : EC := (.seq (.seq (.reg e71r1 [0, 1, 4] 0) (.cond (.s 20) .skip (.exit 0))) (.block 1 (.seq (.reg e71r2 [0, 1, 4] 0) (.seq (.reg e71r3 [0, 1, 4, 5] 0) (.seq (.reg e71r4 [0, 1, 4, 5] 0) (.seq (.reg e71r5 [0, 1, 4, 6, 7] 0) (.seq (.reg e71r6 [0, 1, 4, 6, 8, 9] 0) (.seq (.reg e71r7 [0, 1, 4, 8, 9, 10, 11] 0) (.seq (.reg e71r8 [0, 1, 4, 8, 10, 11] 0) (.seq (.reg e71r9 [0, 1, 4, 10, 11] 0) (.seq (.reg e71r10 [0, 1, 4, 10] 0) (.reg e71r11 [0, 1, 4] 0))))))))))))
def e71r13 : EE := .q 1 (.conv .u32) [.s 1] none <|
 .out [(0, .s 0), (4, .s 4), (12, .r 1)]
def e71r14 : EE := .q 1 .geq [.s 4, .c (.int .i64 4)] none <|
 .out [(0, .s 0), (4, .s 4), (12, .s 12), (99, .r 1)]
def e71r15 : EE := .q 1 .rem [.s 12, .c (.int .u32 10000)] none <|
 .out [(0, .s 0), (4, .s 4), (12, .s 12), (13, .r 1)]
def e71r16 : EE := .q 1 .quo [.s 12, .c (.int .u32 10000)] none <|
 .out [(0, .s 0), (4, .s 4), (12, .r 1), (13, .s 13)]
def e71r17 : EE := .q 1 .quo [.s 13, .c (.int .u32 100)] none <|
 .q 2 .mul [.r 1, .c (.int .u32 2)] none <|
 .q 4 .rem [.s 13, .c (.int .u32 100)] none <|
 .q 5 .mul [.r 4, .c (.int .u32 2)] none <|
 .out [(0, .s 0), (4, .s 4), (12, .s 12), (14, .r 2), (15, .r 5)]
def e71r18 : EE := .q 2 .sub [.s 4, .c (.int .i64 1)] none <|
 .q 5 .sub [.s 4, .c (.int .i64 2)] none <|
 .q 7 .add [.s 15, .c (.int .u32 1)] none <|
 .q 8 .idxs [.c (.str [48, 48, 48, 49, 48, 50, 48, 51, 48, 52, 48, 53, 48, 54, 48, 55, 48, 56, 48, 57, 49, 48, 49, 49, 49, 50, 49, 51, 49, 52, 49, 53, 49, 54, 49, 55, 49, 56, 49, 57, 50, 48, 50, 49, 50, 50, 50, 51, 50, 52, 50, 53, 50, 54, 50, 55, 50, 56, 50, 57, 51, 48, 51, 49, 51, 50, 51, 51, 51, 52, 51, 53, 51, 54, 51, 55, 51, 56, 51, 57, 52, 48, 52, 49, 52, 50, 52, 51, 52, 52, 52, 53, 52, 54, 52, 55, 52, 56, 52, 57, 53, 48, 53, 49, 53, 50, 53, 51, 53, 52, 53, 53, 53, 54, 53, 55, 53, 56, 53, 57, 54, 48, 54, 49, 54, 50, 54, 51, 54, 52, 54, 53, 54, 54, 54, 55, 54, 56, 54, 57, 55, 48, 55, 49, 55, 50, 55, 51, 55, 52, 55, 53, 55, 54, 55, 55, 55, 56, 55, 57, 56, 48, 56, 49, 56, 50, 56, 51, 56, 52, 56, 53, 56, 54, 56, 55, 56, 56, 56, 57, 57, 48, 57, 49, 57, 50, 57, 51, 57, 52, 57, 53, 57, 54, 57, 55, 57, 56, 57, 57]), .r 7] none <|
 .q 10 .idxs [.c (.str [48, 48, 48, 49, 48, 50, 48, 51, 48, 52, 48, 53, 48, 54, 48, 55, 48, 56, 48, 57, 49, 48, 49, 49, 49, 50, 49, 51, 49, 52, 49, 53, 49, 54, 49, 55, 49, 56, 49, 57, 50, 48, 50, 49, 50, 50, 50, 51, 50, 52, 50, 53, 50, 54, 50, 55, 50, 56, 50, 57, 51, 48, 51, 49, 51, 50, 51, 51, 51, 52, 51, 53, 51, 54, 51, 55, 51, 56, 51, 57, 52, 48, 52, 49, 52, 50, 52, 51, 52, 52, 52, 53, 52, 54, 52, 55, 52, 56, 52, 57, 53, 48, 53, 49, 53, 50, 53, 51, 53, 52, 53, 53, 53, 54, 53, 55, 53, 56, 53, 57, 54, 48, 54, 49, 54, 50, 54, 51, 54, 52, 54, 53, 54, 54, 54, 55, 54, 56, 54, 57, 55, 48, 55, 49, 55, 50, 55, 51, 55, 52, 55, 53, 55, 54, 55, 55, 55, 56, 55, 57, 56, 48, 56, 49, 56, 50, 56, 51, 56, 52, 56, 53, 56, 54, 56, 55, 56, 56, 56, 57, 57, 48, 57, 49, 57, 50, 57, 51, 57, 52, 57, 53, 57, 54, 57, 55, 57, 56, 57, 57]), .s 15] none <|
 .q 11 (.ixs 1) [.s 0, .r 2] none <|
 .x 12 (.st 1) [.r 11, .r 8] none [] <|
 .q 13 (.ixs 1) [.s 0, .r 5] none <|
 .x 14 (.st 1) [.r 13, .r 10] none [] <|
 .out [(0, .s 0), (4, .s 4), (12, .s 12), (14, .s 14)]
def e71r19 : EE := .q 2 .sub [.s 4, .c (.int .i64 3)] none <|
 .q 5 .sub [.s 4, .c (.int .i64 4)] none <|
 .q 7 .add [.s 14, .c (.int .u32 1)] none <|
 .q 8 .idxs [.c (.str [48, 48, 48, 49, 48, 50, 48, 51, 48, 52, 48, 53, 48, 54, 48, 55, 48, 56, 48, 57, 49, 48, 49, 49, 49, 50, 49, 51, 49, 52, 49, 53, 49, 54, 49, 55, 49, 56, 49, 57, 50, 48, 50, 49, 50, 50, 50, 51, 50, 52, 50, 53, 50, 54, 50, 55, 50, 56, 50, 57, 51, 48, 51, 49, 51, 50, 51, 51, 51, 52, 51, 53, 51, 54, 51, 55, 51, 56, 51, 57, 52, 48, 52, 49, 52, 50, 52, 51, 52, 52, 52, 53, 52, 54, 52, 55, 52, 56, 52, 57, 53, 48, 53, 49, 53, 50, 53, 51, 53, 52, 53, 53, 53, 54, 53, 55, 53, 56, 53, 57, 54, 48, 54, 49, 54, 50, 54, 51, 54, 52, 54, 53, 54, 54, 54, 55, 54, 56, 54, 57, 55, 48, 55, 49, 55, 50, 55, 51, 55, 52, 55, 53, 55, 54, 55, 55, 55, 56, 55, 57, 56, 48, 56, 49, 56, 50, 56, 51, 56, 52, 56, 53, 56, 54, 56, 55, 56, 56, 56, 57, 57, 48, 57, 49, 57, 50, 57, 51, 57, 52, 57, 53, 57, 54, 57, 55, 57, 56, 57, 57]), .r 7] none <|
 .q 10 .idxs [.c (.str [48, 48, 48, 49, 48, 50, 48, 51, 48, 52, 48, 53, 48, 54, 48, 55, 48, 56, 48, 57, 49, 48, 49, 49, 49, 50, 49, 51, 49, 52, 49, 53, 49, 54, 49, 55, 49, 56, 49, 57, 50, 48, 50, 49, 50, 50, 50, 51, 50, 52, 50, 53, 50, 54, 50, 55, 50, 56, 50, 57, 51, 48, 51, 49, 51, 50, 51, 51, 51, 52, 51, 53, 51, 54, 51, 55, 51, 56, 51, 57, 52, 48, 52, 49, 52, 50, 52, 51, 52, 52, 52, 53, 52, 54, 52, 55, 52, 56, 52, 57, 53, 48, 53, 49, 53, 50, 53, 51, 53, 52, 53, 53, 53, 54, 53, 55, 53, 56, 53, 57, 54, 48, 54, 49, 54, 50, 54, 51, 54, 52, 54, 53, 54, 54, 54, 55, 54, 56, 54, 57, 55, 48, 55, 49, 55, 50, 55, 51, 55, 52, 55, 53, 55, 54, 55, 55, 55, 56, 55, 57, 56, 48, 56, 49, 56, 50, 56, 51, 56, 52, 56, 53, 56, 54, 56, 55, 56, 56, 56, 57, 57, 48, 57, 49, 57, 50, 57, 51, 57, 52, 57, 53, 57, 54, 57, 55, 57, 56, 57, 57]), .s 14] none <|
 .q 11 (.ixs 1) [.s 0, .r 2] none <|
 .x 12 (.st 1) [.r 11, .r 8] none [] <|
 .q 13 (.ixs 1) [.s 0, .r 5] none <|
 .x 14 (.st 1) [.r 13, .r 10] none [] <|
 .out [(0, .s 0), (4, .s 4), (12, .s 12)]
def e71r20 : EE := .q 1 .sub [.s 4, .c (.int .i64 4)] none <|
 .out [(0, .s 0), (4, .r 1), (12, .s 12)]
def e71r21 : EE := .q 1 .geq [.s 4, .c (.int .i64 2)] none <|
 .out [(0, .s 0), (4, .s 4), (12, .s 12), (139, .r 1)]
def e71r22 : EE := .q 1 .rem [.s 12, .c (.int .u32 100)] none <|
 .q 2 .mul [.r 1, .c (.int .u32 2)] none <|
 .out [(0, .s 0), (4, .s 4), (12, .s 12), (16, .r 2)]
def e71r23 : EE := .q 1 .quo [.s 12, .c (.int .u32 100)] none <|
 .out [(0, .s 0), (4, .s 4), (12, .r 1), (16, .s 16)]
def e71r24 : EE := .q 2 .sub [.s 4, .c (.int .i64 1)] none <|
 .q 5 .sub [.s 4, .c (.int .i64 2)] none <|
 .q 7 .add [.s 16, .c (.int .u32 1)] none <|
 .q 8 .idxs [.c (.str [48, 48, 48, 49, 48, 50, 48, 51, 48, 52, 48, 53, 48, 54, 48, 55, 48, 56, 48, 57, 49, 48, 49, 49, 49, 50, 49, 51, 49, 52, 49, 53, 49, 54, 49, 55, 49, 56, 49, 57, 50, 48, 50, 49, 50, 50, 50, 51, 50, 52, 50, 53, 50, 54, 50, 55, 50, 56, 50, 57, 51, 48, 51, 49, 51, 50, 51, 51, 51, 52, 51, 53, 51, 54, 51, 55, 51, 56, 51, 57, 52, 48, 52, 49, 52, 50, 52, 51, 52, 52, 52, 53, 52, 54, 52, 55, 52, 56, 52, 57, 53, 48, 53, 49, 53, 50, 53, 51, 53, 52, 53, 53, 53, 54, 53, 55, 53, 56, 53, 57, 54, 48, 54, 49, 54, 50, 54, 51, 54, 52, 54, 53, 54, 54, 54, 55, 54, 56, 54, 57, 55, 48, 55, 49, 55, 50, 55, 51, 55, 52, 55, 53, 55, 54, 55, 55, 55, 56, 55, 57, 56, 48, 56, 49, 56, 50, 56, 51, 56, 52, 56, 53, 56, 54, 56, 55, 56, 56, 56, 57, 57, 48, 57, 49, 57, 50, 57, 51, 57, 52, 57, 53, 57, 54, 57, 55, 57, 56, 57, 57]), .r 7] none <|
 .q 10 .idxs [.c (.str [48, 48, 48, 49, 48, 50, 48, 51, 48, 52, 48, 53, 48, 54, 48, 55, 48, 56, 48, 57, 49, 48, 49, 49, 49, 50, 49, 51, 49, 52, 49, 53, 49, 54, 49, 55, 49, 56, 49, 57, 50, 48, 50, 49, 50, 50, 50, 51, 50, 52, 50, 53, 50, 54, 50, 55, 50, 56, 50, 57, 51, 48, 51, 49, 51, 50, 51, 51, 51, 52, 51, 53, 51, 54, 51, 55, 51, 56, 51, 57, 52, 48, 52, 49, 52, 50, 52, 51, 52, 52, 52, 53, 52, 54, 52, 55, 52, 56, 52, 57, 53, 48, 53, 49, 53, 50, 53, 51, 53, 52, 53, 53, 53, 54, 53, 55, 53, 56, 53, 57, 54, 48, 54, 49, 54, 50, 54, 51, 54, 52, 54, 53, 54, 54, 54, 55, 54, 56, 54, 57, 55, 48, 55, 49, 55, 50, 55, 51, 55, 52, 55, 53, 55, 54, 55, 55, 55, 56, 55, 57, 56, 48, 56, 49, 56, 50, 56, 51, 56, 52, 56, 53, 56, 54, 56, 55, 56, 56, 56, 57, 57, 48, 57, 49, 57, 50, 57, 51, 57, 52, 57, 53, 57, 54, 57, 55, 57, 56, 57, 57]), .s 16] none <|
 .q 11 (.ixs 1) [.s 0, .r 2] none <|
 .x 12 (.st 1) [.r 11, .r 8] none [] <|
 .q 13 (.ixs 1) [.s 0, .r 5] none <|
 .x 14 (.st 1) [.r 13, .r 10] none [] <|
 .out [(0, .s 0), (4, .s 4), (12, .s 12)]
def e71r25 : EE := .q 1 .sub [.s 4, .c (.int .i64 2)] none <|
 .out [(0, .s 0), (4, .r 1), (12, .s 12)]
def e71r26 : EE := .q 1 .gtr [.s 4, .c z] none <|
 .out [(0, .s 0), (12, .s 12), (161, .r 1)]
def e71r27 : EE := .q 2 .add [.c (.int .u32 48), .s 12] none <|
 .q 3 (.conv .u8) [.r 2] none <|
 .q 4 (.ixs 1) [.s 0, .c z] none <|
 .x 5 (.st 1) [.r 4, .r 3] none [] <|
 .out []
def e71 : EFn := ⟨(.seq (.reg e71r0 [0, 1] 0) (.seq (.block 0 (.loop [0, 1, 4] e71l12)) (.seq (.reg e71r13 [0, 1, 4] 0) (.seq (.seq (.reg e71r14 [0, 4, 12] 0) (.cond (.s 99) (.seq (.reg e71r15 [0, 4, 12] 0) (.seq (.reg e71r16 [0, 4, 12, 13] 0) (.seq (.reg e71r17 [0, 4, 12, 13] 0) (.seq (.reg e71r18 [0, 4, 12, 14, 15] 0) (.seq (.reg e71r19 [0, 4, 12, 14] 0) (.reg e71r20 [0, 4, 12] 0)))))) .skip)) (.seq (.seq (.reg e71r21 [0, 4, 12] 0) (.cond (.s 139) (.seq (.reg e71r22 [0, 4, 12] 0) (.seq (.reg e71r23 [0, 4, 12, 16] 0) (.seq (.reg e71r24 [0, 4, 12, 16] 0) (.reg e71r25 [0, 4, 12] 0)))) .skip)) (.seq (.reg e71r26 [0, 4, 12] 0) (.cond (.s 161) (.reg e71r27 [0, 12] 0) .skip))))))), [], 167, 0⟩
theorem g71 : Good Tryd.prog 71 e71 := ⟨Tryd.f71, Tryd.func71, by kernel_rfl, by kernel_rfl, by kernel_rfl, by kernel_rfl⟩
/-! internal/strconv.formatBits -/
def e72r0 : EE := .out [(0, .s 0), (1, .s 1), (2, .s 2), (3, .s 3), (4, .s 4), (10, .c .nsl), (11, .c zs)]
def e72r1 : EE := .q 1 .lss [.s 2, .c (.int .i64 2)] none <|
 .q 3 .mv [.s 2] (some (.r 1, false)) <|
 .q 4 .eql [.r 3, .c (.int .i64 10)] (some (.r 1, false)) <|
 .q 5 .pick [.r 1, .c (.bool true), .r 4] none <|
 .q 7 .mv [.s 2] (some (.r 5, false)) <|
 .q 8 .gtr [.r 7, .c (.int .i64 36)] (some (.r 5, false)) <|
 .q 9 .pick [.r 5, .c (.bool true), .r 8] none <|
 .out [(0, .s 0), (1, .s 1), (2, .s 2), (3, .s 3), (4, .s 4), (10, .s 10), (11, .s 11), (28, .r 9)]
def e72r2 : EE := .q 0 (.mki 9) [.c (.str [115, 116, 114, 99, 111, 110, 118, 58, 32, 105, 108, 108, 101, 103, 97, 108, 32, 65, 112, 112, 101, 110, 100, 73, 110, 116, 47, 70, 111, 114, 109, 97, 116, 73, 110, 116, 32, 98, 97, 115, 101])] none <|
 .x 1 .bad [] none [] <|
 .out [(0, .s 0), (1, .s 1), (2, .s 2), (3, .s 3), (4, .s 4), (10, .s 10), (11, .s 11)]
def e72r3 : EE := .x 0 (.alc [(.int .u8 0), (.int .u8 0), (.int .u8 0), (.int .u8 0), (.int .u8 0), (.int .u8 0), (.int .u8 0), (.int .u8 0), (.int .u8 0), (.int .u8 0), (.int .u8 0), (.int .u8 0), (.int .u8 0), (.int .u8 0), (.int .u8 0), (.int .u8 0), (.int .u8 0), (.int .u8 0), (.int .u8 0), (.int .u8 0), (.int .u8 0), (.int .u8 0), (.int .u8 0), (.int .u8 0), (.int .u8 0), (.int .u8 0), (.int .u8 0), (.int .u8 0), (.int .u8 0), (.int .u8 0), (.int .u8 0), (.int .u8 0), (.int .u8 0), (.int .u8 0), (.int .u8 0), (.int .u8 0), (.int .u8 0), (.int .u8 0), (.int .u8 0), (.int .u8 0), (.int .u8 0), (.int .u8 0), (.int .u8 0), (.int .u8 0), (.int .u8 0), (.int .u8 0), (.int .u8 0), (.int .u8 0), (.int .u8 0), (.int .u8 0), (.int .u8 0), (.int .u8 0), (.int .u8 0), (.int .u8 0), (.int .u8 0), (.int .u8 0), (.int .u8 0), (.int .u8 0), (.int .u8 0), (.int .u8 0), (.int .u8 0), (.int .u8 0), (.int .u8 0), (.int .u8 0), (.int .u8 0)] 128) [] none [] <|
 .out [(0, .s 0), (1, .s 1), (2, .s 2), (3, .s 3), (4, .s 4), (10, .s 10), (11, .s 11), (12, .r 0)]
def e72r4 : EE := .out [(0, .s 0), (1, .s 1), (2, .s 2), (3, .s 3), (4, .s 4), (10, .s 10), (11, .s 11), (12, .s 12), (13, .c (.int .i64 65))]
def e72r5 : EE := .out [(0, .s 0), (1, .s 1), (2, .s 2), (3, .s 3), (4, .s 4), (10, .s 10), (11, .s 11), (12, .s 12), (13, .s 13), (30, .s 3)]
def e72r6 : EE := .q 1 .neg [.s 1] none <|
 .out [(0, .s 0), (1, .r 1), (2, .s 2), (3, .s 3), (4, .s 4), (10, .s 10), (11, .s 11), (12, .s 12), (13, .s 13)]
def e72r7 : EE := .x 1 (.call 84) [.s 2] none [] <|
 .out [(0, .s 0), (1, .s 1), (2, .s 2), (3, .s 3), (4, .s 4), (10, .s 10), (11, .s 11), (12, .s 12), (13, .s 13), (34, .r 1)]
def e72r8 : EE := .q 1 (.conv .u64) [.s 2] none <|
 .x 2 (.call 85) [.r 1] none [] <|
 .q 3 (.conv .u64) [.r 2] none <|
 .out [(0, .s 0), (1, .s 1), (2, .s 2), (3, .s 3), (4, .s 4), (10, .s 10), (11, .s 11), (12, .s 12), (13, .s 13), (14, .r 3)]
def e72r9 : EE := .q 1 (.conv .u64) [.s 2] none <|
 .out [(0, .s 0), (1, .s 1), (2, .s 2), (3, .s 3), (4, .s 4), (10, .s 10), (11, .s 11), (12, .s 12), (13, .s 13), (14, .s 14), (15, .r 1)]
def e72r10 : EE := .q 1 (.conv .u64) [.s 2] none <|
 .q 2 .sub [.r 1, .c (.int .u64 1)] none <|
 .out [(0, .s 0), (1, .s 1), (3, .s 3), (4, .s 4), (10, .s 10), (11, .s 11), (12, .s 12), (13, .s 13), (14, .s 14), (15, .s 15), (16, .r 2)]
def e72r11 : EE := .q 2 .geq [.s 1, .s 15] none <|
 .out [(0, .s 0), (1, .s 1), (3, .s 3), (4, .s 4), (10, .s 10), (11, .s 11), (12, .s 12), (13, .s 13), (14, .s 14), (15, .s 15), (16, .s 16), (46, .r 2)]
def e72r12 : EE := .q 1 .sub [.s 13, .c (.int .i64 1)] none <|
 .out [(0, .s 0), (1, .s 1), (3, .s 3), (4, .s 4), (10, .s 10), (11, .s 11), (12, .s 12), (13, .r 1), (14, .s 14), (15, .s 15), (16, .s 16)]
def e72r13 : EE := .q 3 .and [.s 1, .s 16] none <|
 .q 4 .idxs [.c (.str [48, 49, 50, 51, 52, 53, 54, 55, 56, 57, 97, 98, 99, 100, 101, 102, 103, 104, 105, 106, 107, 108, 109, 110, 111, 112, 113, 114, 115, 116, 117, 118, 119, 120, 121, 122]), .r 3] none <|
 .q 5 (.ixa 65 1) [.s 12, .s 13] none <|
 .x 6 (.st 1) [.r 5, .r 4] none [] <|
 .out [(0, .s 0), (1, .s 1), (3, .s 3), (4, .s 4), (10, .s 10), (11, .s 11), (12, .s 12), (13, .s 13), (14, .s 14), (15, .s 15), (16, .s 16)]
def e72r14 : EE := .q 2 .shr [.s 1, .s 14] none <|
 .out [(0, .s 0), (1, .r 2), (3, .s 3), (4, .s 4), (10, .s 10), (11, .s 11), (12, .s 12), (13, .s 13), (14, .s 14), (15, .s 15), (16, .s 16)]
def e72l15 : EC := (.seq (.seq (.reg e72r11 [0, 1, 3, 4, 10, 11, 12, 13, 14, 15, 16] 0) (.cond (.s 46) .skip (.exit 0))) (.block 1 (.seq (.reg e72r12 [0, 1, 3, 4, 10, 11, 12, 13, 14, 15, 16] 0) (.seq (.reg e72r13 [0, 1, 3, 4, 10, 11, 12, 13, 14, 15, 16] 0) (.reg e72r14 [0, 1, 3, 4, 10, 11, 12, 13, 14, 15, 16] 0)))))
def e72r16 : EE := .q 1 .sub [.s 13, .c (.int .i64 1)] none <|
 .out [(0, .s 0), (1, .s 1), (3, .s 3), (4, .s 4), (10, .s 10), (11, .s 11), (12, .s 12), (13, .r 1)]
def e72r17 : EE := .q 2 .idxs [.c (.str [48, 49, 50, 51, 52, 53, 54, 55, 56, 57, 97, 98, 99, 100, 101, 102, 103, 104, 105, 106, 107, 108, 109, 110, 111, 112, 113, 114, 115, 116, 117, 118, 119, 120, 121, 122]), .s 1] none <|
 .q 3 (.ixa 65 1) [.s 12, .s 13] none <|
 .x 4 (.st 1) [.r 3, .r 2] none [] <|
 .out [(0, .s 0), (3, .s 3), (4, .s 4), (10, .s 10), (11, .s 11), (12, .s 12), (13, .s 13)]
def e72r18 : EE := .q 1 (.conv .u64) [.s 2] none <|
 .out [(0, .s 0), (1, .s 1), (3, .s 3), (4, .s 4), (10, .s 10), (11, .s 11), (12, .s 12), (13, .s 13), (17, .r 1)]
def e72r19 : EE := .q 2 .geq [.s 1, .s 17] none <|
 .out [(0, .s 0), (1, .s 1), (3, .s 3), (4, .s 4), (10, .s 10), (11, .s 11), (12, .s 12), (13, .s 13), (17, .s 17), (68, .r 2)]
def e72r20 : EE := .q 1 .sub [.s 13, .c (.int .i64 1)] none <|
 .out [(0, .s 0), (1, .s 1), (3, .s 3), (4, .s 4), (10, .s 10), (11, .s 11), (12, .s 12), (13, .r 1), (17, .s 17)]
def e72r21 : EE := .q 2 .quo [.s 1, .s 17] none <|
 .out [(0, .s 0), (1, .s 1), (3, .s 3), (4, .s 4), (10, .s 10), (11, .s 11), (12, .s 12), (13, .s 13), (17, .s 17), (18, .r 2)]
def e72r22 : EE := .q 4 .mul [.s 18, .s 17] none <|
 .q 5 .sub [.s 1, .r 4] none <|
 .q 6 .idxs [.c (.str [48, 49, 50, 51, 52, 53, 54, 55, 56, 57, 97, 98, 99, 100, 101, 102, 103, 104, 105, 106, 107, 108, 109, 110, 111, 112, 113, 114, 115, 116, 117, 118, 119, 120, 121, 122]), .r 5] none <|
 .q 7 (.ixa 65 1) [.s 12, .s 13] none <|
 .x 8 (.st 1) [.r 7, .r 6] none [] <|
 .out [(0, .s 0), (3, .s 3), (4, .s 4), (10, .s 10), (11, .s 11), (12, .s 12), (13, .s 13), (17, .s 17), (18, .s 18)]
def e72r23 : EE := .out [(0, .s 0), (1, .s 18), (3, .s 3), (4, .s 4), (10, .s 10), (11, .s 11), (12, .s 12), (13, .s 13), (17, .s 17)]
def e72l24 : EC := (.seq (.seq (.reg e72r19 [0, 1, 3, 4, 10, 11, 12, 13, 17] 0) (.cond (.s 68) .skip (.exit 2))) (.block 3 (.seq (.reg e72r20 [0, 1, 3, 4, 10, 11, 12, 13, 17] 0) (.seq (.reg e72r21 [0, 1, 3, 4, 10, 11, 12, 13, 17] 0) (.seq (.reg e72r22 [0, 1, 3, 4, 10, 11, 12, 13, 17, 18] 0) (.reg e72r23 [0, 3, 4, 10, 11, 12, 13, 17, 18] 0))))))
def e72r25 : EE := .q 1 .sub [.s 13, .c (.int .i64 1)] none <|
 .out [(0, .s 0), (1, .s 1), (3, .s 3), (4, .s 4), (10, .s 10), (11, .s 11), (12, .s 12), (13, .r 1)]
def e72r26 : EE := .q 2 .idxs [.c (.str [48, 49, 50, 51, 52, 53, 54, 55, 56, 57, 97, 98, 99, 100, 101, 102, 103, 104, 105, 106, 107, 108, 109, 110, 111, 112, 113, 114, 115, 116, 117, 118, 119, 120, 121, 122]), .s 1] none <|
 .q 3 (.ixa 65 1) [.s 12, .s 13] none <|
 .x 4 (.st 1) [.r 3, .r 2] none [] <|
 .out [(0, .s 0), (3, .s 3), (4, .s 4), (10, .s 10), (11, .s 11), (12, .s 12), (13, .s 13)]
def e72r27 : EE := .out [(0, .s 0), (4, .s 4), (10, .s 10), (11, .s 11), (12, .s 12), (13, .s 13), (89, .s 3)]
def e72r28 : EE := .q 1 .sub [.s 13, .c (.int .i64 1)] none <|
 .out [(0, .s 0), (4, .s 4), (10, .s 10), (11, .s 11), (12, .s 12), (13, .r 1)]
def e72r29 : EE := .q 1 (.ixa 65 1) [.s 12, .s 13] none <|
 .x 2 (.st 1) [.r 1, .c (.int .u8 45)] none [] <|
 .out [(0, .s 0), (4, .s 4), (10, .s 10), (11, .s 11)]
def e72r30 : EE := .out [(0, .s 0), (10, .s 10), (11, .s 11), (94, .s 4)]
def e72r31 : EE := .x 2 .bad [] none [] <|
 .x 3 (.app 5 1 1 [(.int .u8 0)]) [.s 0, .r 2] none [] <|
 .out [(10, .r 3), (11, .s 11)]
def e72r32 : EE := .x 1 .bad [] none [] <|
 .q 2 .b2s [.r 1] none <|
 .out [(10, .s 10), (11, .r 2)]
def e72 : EFn := ⟨(.seq (.reg e72r0 [0, 1, 2, 3, 4] 0) (.seq (.seq (.reg e72r1 [0, 1, 2, 3, 4, 10, 11] 0) (.cond (.s 28) (.reg e72r2 [0, 1, 2, 3, 4, 10, 11] 0) .skip)) (.seq (.reg e72r3 [0, 1, 2, 3, 4, 10, 11] 0) (.seq (.reg e72r4 [0, 1, 2, 3, 4, 10, 11, 12] 0) (.seq (.seq (.reg e72r5 [0, 1, 2, 3, 4, 10, 11, 12, 13] 0) (.cond (.s 30) (.reg e72r6 [0, 1, 2, 3, 4, 10, 11, 12, 13] 0) .skip)) (.seq (.seq (.reg e72r7 [0, 1, 2, 3, 4, 10, 11, 12, 13] 0) (.cond (.s 34) (.seq (.reg e72r8 [0, 1, 2, 3, 4, 10, 11, 12, 13] 0) (.seq (.reg e72r9 [0, 1, 2, 3, 4, 10, 11, 12, 13, 14] 0) (.seq (.reg e72r10 [0, 1, 2, 3, 4, 10, 11, 12, 13, 14, 15] 0) (.seq (.block 0 (.loop [0, 1, 3, 4, 10, 11, 12, 13, 14, 15, 16] e72l15)) (.seq (.reg e72r16 [0, 1, 3, 4, 10, 11, 12, 13] 0) (.reg e72r17 [0, 1, 3, 4, 10, 11, 12, 13] 0)))))) (.seq (.reg e72r18 [0, 1, 2, 3, 4, 10, 11, 12, 13] 0) (.seq (.block 2 (.loop [0, 1, 3, 4, 10, 11, 12, 13, 17] e72l24)) (.seq (.reg e72r25 [0, 1, 3, 4, 10, 11, 12, 13] 0) (.reg e72r26 [0, 1, 3, 4, 10, 11, 12, 13] 0)))))) (.seq (.seq (.reg e72r27 [0, 3, 4, 10, 11, 12, 13] 0) (.cond (.s 89) (.seq (.reg e72r28 [0, 4, 10, 11, 12, 13] 0) (.reg e72r29 [0, 4, 10, 11, 12, 13] 0)) .skip)) (.seq (.seq (.reg e72r30 [0, 4, 10, 11] 0) (.cond (.s 94) (.seq (.reg e72r31 [0, 11] 0) .ret) .skip)) (.seq (.reg e72r32 [10] 0) .ret))))))))), [.slot 10, .slot 11], 102, 0⟩
theorem g72 : Good Tryd.prog 72 e72 := ⟨Tryd.f72, Tryd.func72, by kernel_rfl, by kernel_rfl, by kernel_rfl, by kernel_rfl⟩
/-! slices.rotateLeft[concord/disk.file] -/
def e73r0 : EE := .q 2 (.slc 3 false true) [.s 0, .s 1] none <|
 .x 3 (.call 86) [.r 2] none [] <|
 .out [(0, .s 0), (1, .s 1)]
def e73r1 : EE := .q 2 (.slc 3 true false) [.s 0, .s 1] none <|
 .x 3 (.call 86) [.r 2] none [] <|
 .out [(0, .s 0)]
def e73r2 : EE := .x 1 (.call 86) [.s 0] none [] <|
 .out []
def e73 : EFn := ⟨(.seq (.reg e73r0 [0, 1] 0) (.seq (.reg e73r1 [0, 1] 0) (.reg e73r2 [0] 0))), [], 14, 0⟩
theorem g73 : Good Tryd.prog 73 e73 := ⟨Tryd.f73, Tryd.func73, by kernel_rfl, by kernel_rfl, by kernel_rfl, by kernel_rfl⟩
/-! internal/stringslite.IndexByte -/
def e74r0 : EE := .out [(0, .s 0), (1, .s 1)]
def e74r1 : EE := .q 2 .ixb [.s 0, .s 1] none <|
 .out [(4, .r 2)]
def e74 : EFn := ⟨(.seq (.reg e74r0 [0, 1] 0) (.seq (.reg e74r1 [0, 1] 0) .ret)), [.slot 4], 8, 0⟩
theorem g74 : Good Tryd.prog 74 e74 := ⟨Tryd.f74, Tryd.func74, by kernel_rfl, by kernel_rfl, by kernel_rfl, by kernel_rfl⟩
/-! internal/bytealg.Cutover -/
def e76r0 : EE := .out [(0, .s 0)]
def e76r1 : EE := .q 1 .add [.s 0, .c (.int .i64 16)] none <|
 .q 2 .quo [.r 1, .c (.int .i64 8)] none <|
 .out [(2, .r 2)]
def e76 : EFn := ⟨(.seq (.reg e76r0 [0] 0) (.seq (.reg e76r1 [0] 0) .ret)), [.slot 2], 6, 0⟩
theorem g76 : Good Tryd.prog 76 e76 := ⟨Tryd.f76, Tryd.func76, by kernel_rfl, by kernel_rfl, by kernel_rfl, by kernel_rfl⟩
/-! internal/bytealg.IndexRabinKarp[string] -/
def e77r0 : EE := .out [(0, .s 0), (1, .s 1)]
def e77r1 : EE := .x 1 (.call 88) [.s 1] none [] <|
 .q 3 (.ext 0) [.r 1] none <|
 .q 4 (.ext 1) [.r 1] none <|
 .out [(0, .s 0), (1, .s 1), (5, .r 3), (6, .r 4)]
def e77r2 : EE := .q 1 .lenz [.s 1] none <|
 .out [(0, .s 0), (1, .s 1), (5, .s 5), (6, .s 6), (7, .r 1)]
def e77r3 : EE := .out [(0, .s 0), (1, .s 1), (5, .s 5), (6, .s 6), (7, .s 7), (8, .c (.int .u32 0))]
def e77r4 : EE := .out [(0, .s 0), (1, .s 1), (5, .s 5), (6, .s 6), (7, .s 7), (8, .s 8), (9, .c z)]
def e77r5 : EE := .q 2 .lss [.s 9, .s 7] none <|
 .out [(0, .s 0), (1, .s 1), (5, .s 5), (6, .s 6), (7, .s 7), (8, .s 8), (9, .s 9), (20, .r 2)]
def e77r6 : EE := .q 1 .mul [.s 8, .c (.int .u32 16777619)] none <|
 .q 4 .idxs [.s 0, .s 9] none <|
 .q 5 (.conv .u32) [.r 4] none <|
 .q 6 .add [.r 1, .r 5] none <|
 .out [(0, .s 0), (1, .s 1), (5, .s 5), (6, .s 6), (7, .s 7), (8, .r 6), (9, .s 9)]
def e77r7 : EE := .q 1 .add [.s 9, .c (.int .i64 1)] none <|
 .out [(0, .s 0), (1, .s 1), (5, .s 5), (6, .s 6), (7, .s 7), (8, .s 8), (9, .r 1)]
def e77l8 : EC := (.seq (.seq (.reg e77r5 [0, 1, 5, 6, 7, 8, 9] 0) (.cond (.s 20) .skip (.exit 0))) (.seq (.block 1 (.reg e77r6 [0, 1, 5, 6, 7, 8, 9] 0)) (.reg e77r7 [0, 1, 5, 6, 7, 8, 9] 0)))
def e77r9 : EE := .q 2 .eql [.s 8, .s 5] none <|
 .q 4 .mv [.s 0] (some (.r 2, true)) <|
 .q 5 .mv [.s 7] (some (.r 2, true)) <|
 .q 6 (.slcs false true) [.r 4, .r 5] (some (.r 2, true)) <|
 .q 7 .mv [.s 1] (some (.r 2, true)) <|
 .q 8 .seql [.r 6, .r 7] (some (.r 2, true)) <|
 .q 9 .pick [.r 2, .r 8, .c (.bool false)] none <|
 .out [(0, .s 0), (1, .s 1), (5, .s 5), (6, .s 6), (7, .s 7), (8, .s 8), (39, .r 9)]
def e77r10 : EE := .out [(4, .c z)]
def e77r11 : EE := .out [(0, .s 0), (1, .s 1), (5, .s 5), (6, .s 6), (7, .s 7), (8, .s 8), (10, .s 7)]
def e77r12 : EE := .q 2 .lenz [.s 0] none <|
 .q 3 .lss [.s 10, .r 2] none <|
 .out [(0, .s 0), (1, .s 1), (5, .s 5), (6, .s 6), (7, .s 7), (8, .s 8), (10, .s 10), (44, .r 3)]
def e77r13 : EE := .q 1 .mul [.s 8, .c (.int .u32 16777619)] none <|
 .out [(0, .s 0), (1, .s 1), (5, .s 5), (6, .s 6), (7, .s 7), (8, .r 1), (10, .s 10)]
def e77r14 : EE := .q 3 .idxs [.s 0, .s 10] none <|
 .q 4 (.conv .u32) [.r 3] none <|
 .q 5 .add [.s 8, .r 4] none <|
 .out [(0, .s 0), (1, .s 1), (5, .s 5), (6, .s 6), (7, .s 7), (8, .r 5), (10, .s 10)]
def e77r15 : EE := .q 5 .sub [.s 10, .s 7] none <|
 .q 6 .idxs [.s 0, .r 5] none <|
 .q 7 (.conv .u32) [.r 6] none <|
 .q 8 .mul [.s 6, .r 7] none <|
 .q 9 .sub [.s 8, .r 8] none <|
 .out [(0, .s 0), (1, .s 1), (5, .s 5), (6, .s 6), (7, .s 7), (8, .r 9), (10, .s 10)]
def e77r16 : EE := .q 1 .add [.s 10, .c (.int .i64 1)] none <|
 .out [(0, .s 0), (1, .s 1), (5, .s 5), (6, .s 6), (7, .s 7), (8, .s 8), (10, .r 1)]
def e77r17 : EE := .q 2 .eql [.s 8, .s 5] none <|
 .q 4 .mv [.s 0] (some (.r 2, true)) <|
 .q 5 .mv [.s 10] (some (.r 2, true)) <|
 .q 6 .mv [.s 7] (some (.r 2, true)) <|
 .q 7 .sub [.r 5, .r 6] (some (.r 2, true)) <|
 .q 8 .mv [.s 10] (some (.r 2, true)) <|
 .q 9 (.slcs true true) [.r 4, .r 7, .r 8] (some (.r 2, true)) <|
 .q 10 .mv [.s 1] (some (.r 2, true)) <|
 .q 11 .seql [.r 9, .r 10] (some (.r 2, true)) <|
 .q 12 .pick [.r 2, .r 11, .c (.bool false)] none <|
 .out [(0, .s 0), (1, .s 1), (5, .s 5), (6, .s 6), (7, .s 7), (8, .s 8), (10, .s 10), (77, .r 12)]
def e77r18 : EE := .q 2 .sub [.s 10, .s 7] none <|
 .out [(4, .r 2)]
def e77l19 : EC := (.seq (.seq (.reg e77r12 [0, 1, 5, 6, 7, 8, 10] 0) (.cond (.s 44) .skip (.exit 2))) (.block 3 (.seq (.reg e77r13 [0, 1, 5, 6, 7, 8, 10] 0) (.seq (.reg e77r14 [0, 1, 5, 6, 7, 8, 10] 0) (.seq (.reg e77r15 [0, 1, 5, 6, 7, 8, 10] 0) (.seq (.reg e77r16 [0, 1, 5, 6, 7, 8, 10] 0) (.seq (.reg e77r17 [0, 1, 5, 6, 7, 8, 10] 0) (.cond (.s 77) (.seq (.reg e77r18 [7, 10] 0) .ret) .skip))))))))
def e77r20 : EE := .out [(4, .c (.int .i64 (-1)))]
def e77 : EFn := ⟨(.seq (.reg e77r0 [0, 1] 0) (.seq (.reg e77r1 [0, 1] 0) (.seq (.reg e77r2 [0, 1, 5, 6] 0) (.seq (.reg e77r3 [0, 1, 5, 6, 7] 0) (.seq (.seq (.reg e77r4 [0, 1, 5, 6, 7, 8] 0) (.block 0 (.loop [0, 1, 5, 6, 7, 8, 9] e77l8))) (.seq (.seq (.reg e77r9 [0, 1, 5, 6, 7, 8] 0) (.cond (.s 39) (.seq (.reg e77r10 [] 0) .ret) .skip)) (.seq (.seq (.reg e77r11 [0, 1, 5, 6, 7, 8] 0) (.block 2 (.loop [0, 1, 5, 6, 7, 8, 10] e77l19))) (.seq (.reg e77r20 [] 0) .ret)))))))), [.slot 4], 81, 0⟩
theorem g77 : Good Tryd.prog 77 e77 := ⟨Tryd.f77, Tryd.func77, by kernel_rfl, by kernel_rfl, by kernel_rfl, by kernel_rfl⟩
/-! internal/strconv.ParseUint -/
def e78r0 : EE := .out [(0, .s 0), (1, .s 1), (2, .s 2)]
def e78r1 : EE := .q 1 .seql [.s 0, .c zs] none <|
 .out [(0, .s 0), (1, .s 1), (2, .s 2), (19, .r 1)]
def e78r2 : EE := .q 0 (.mki 108) [.c (.int .i64 2)] none <|
 .out [(6, .c (.int .u64 0)), (7, .r 0)]
def e78r3 : EE := .q 1 .eql [.s 1, .c z] none <|
 .out [(0, .s 0), (1, .s 1), (2, .s 2), (8, .r 1)]
def e78r4 : EE := .out [(0, .s 0), (1, .s 1), (2, .s 2), (8, .s 8), (9, .s 0)]
def e78r5 : EE := .q 1 .leq [.c (.int .i64 2), .s 1] none <|
 .q 3 .mv [.s 1] (some (.r 1, true)) <|
 .q 4 .leq [.r 3, .c (.int .i64 36)] (some (.r 1, true)) <|
 .q 5 .pick [.r 1, .r 4, .c (.bool false)] none <|
 .out [(0, .s 0), (1, .s 1), (2, .s 2), (8, .s 8), (9, .s 9), (25, .r 5)]
def e78r6 : EE := .q 1 .eql [.s 1, .c z] none <|
 .out [(0, .s 0), (2, .s 2), (8, .s 8), (9, .s 9), (32, .r 1)]
def e78r7 : EE := .out [(0, .s 0), (1, .c (.int .i64 10)), (2, .s 2), (8, .s 8), (9, .s 9)]
def e78r8 : EE := .q 1 .idxs [.s 0, .c z] none <|
 .q 2 .eql [.r 1, .c (.int .u8 48)] none <|
 .out [(0, .s 0), (1, .s 1), (2, .s 2), (8, .s 8), (9, .s 9), (37, .r 2)]
def e78r9 : EE := .q 1 .lenz [.s 0] none <|
 .q 2 .geq [.r 1, .c (.int .i64 3)] none <|
 .q 4 .mv [.s 0] (some (.r 2, true)) <|
 .q 5 .idxs [.r 4, .c (.int .i64 1)] (some (.r 2, true)) <|
 .x 6 (.call 89) [.r 5] (some (.r 2, true)) [] <|
 .q 7 .eql [.r 6, .c (.int .u8 98)] (some (.r 2, true)) <|
 .q 8 .pick [.r 2, .r 7, .c (.bool false)] none <|
 .out [(0, .s 0), (2, .s 2), (8, .s 8), (9, .s 9), (40, .r 8)]
def e78r10 : EE := .out [(0, .s 0), (1, .c (.int .i64 2)), (2, .s 2), (8, .s 8), (9, .s 9)]
def e78r11 : EE := .q 1 (.slcs true false) [.s 0, .c (.int .i64 2)] none <|
 .out [(0, .r 1), (1, .s 1), (2, .s 2), (8, .s 8), (9, .s 9)]
def e78r12 : EE := .q 1 .lenz [.s 0] none <|
 .q 2 .geq [.r 1, .c (.int .i64 3)] none <|
 .q 4 .mv [.s 0] (some (.r 2, true)) <|
 .q 5 .idxs [.r 4, .c (.int .i64 1)] (some (.r 2, true)) <|
 .x 6 (.call 89) [.r 5] (some (.r 2, true)) [] <|
 .q 7 .eql [.r 6, .c (.int .u8 111)] (some (.r 2, true)) <|
 .q 8 .pick [.r 2, .r 7, .c (.bool false)] none <|
 .out [(0, .s 0), (2, .s 2), (8, .s 8), (9, .s 9), (52, .r 8)]
def e78r13 : EE := .out [(0, .s 0), (1, .c (.int .i64 8)), (2, .s 2), (8, .s 8), (9, .s 9)]
def e78r14 : EE := .q 1 (.slcs true false) [.s 0, .c (.int .i64 2)] none <|
 .out [(0, .r 1), (1, .s 1), (2, .s 2), (8, .s 8), (9, .s 9)]
def e78r15 : EE := .q 1 .lenz [.s 0] none <|
 .q 2 .geq [.r 1, .c (.int .i64 3)] none <|
 .q 4 .mv [.s 0] (some (.r 2, true)) <|
 .q 5 .idxs [.r 4, .c (.int .i64 1)] (some (.r 2, true)) <|
 .x 6 (.call 89) [.r 5] (some (.r 2, true)) [] <|
 .q 7 .eql [.r 6, .c (.int .u8 120)] (some (.r 2, true)) <|
 .q 8 .pick [.r 2, .r 7, .c (.bool false)] none <|
 .out [(0, .s 0), (2, .s 2), (8, .s 8), (9, .s 9), (64, .r 8)]
def e78r16 : EE := .out [(0, .s 0), (1, .c (.int .i64 16)), (2, .s 2), (8, .s 8), (9, .s 9)]
def e78r17 : EE := .q 1 (.slcs true false) [.s 0, .c (.int .i64 2)] none <|
 .out [(0, .r 1), (1, .s 1), (2, .s 2), (8, .s 8), (9, .s 9)]
def e78r18 : EE := .out [(0, .s 0), (1, .c (.int .i64 8)), (2, .s 2), (8, .s 8), (9, .s 9)]
def e78r19 : EE := .q 1 (.slcs true false) [.s 0, .c (.int .i64 1)] none <|
 .out [(0, .r 1), (1, .s 1), (2, .s 2), (8, .s 8), (9, .s 9)]
def e78r20 : EE := .q 0 (.mki 108) [.c (.int .i64 3)] none <|
 .out [(6, .c (.int .u64 0)), (7, .r 0)]
def e78r21 : EE := .q 1 .eql [.s 2, .c z] none <|
 .out [(0, .s 0), (1, .s 1), (2, .s 2), (8, .s 8), (9, .s 9), (77, .r 1)]
def e78r22 : EE := .out [(0, .s 0), (1, .s 1), (2, .c (.int .i64 64)), (8, .s 8), (9, .s 9)]
def e78r23 : EE := .q 1 .lss [.s 2, .c z] none <|
 .q 3 .mv [.s 2] (some (.r 1, false)) <|
 .q 4 .gtr [.r 3, .c (.int .i64 64)] (some (.r 1, false)) <|
 .q 5 .pick [.r 1, .c (.bool true), .r 4] none <|
 .out [(0, .s 0), (1, .s 1), (2, .s 2), (8, .s 8), (9, .s 9), (83, .r 5)]
def e78r24 : EE := .q 0 (.mki 108) [.c (.int .i64 4)] none <|
 .out [(6, .c (.int .u64 0)), (7, .r 0)]
def e78r25 : EE := .out [(0, .s 0), (1, .s 1), (2, .s 2), (8, .s 8), (9, .s 9)]
def e78r26 : EE := .out [(0, .s 0), (1, .s 1), (2, .s 2), (8, .s 8), (9, .s 9), (85, .s 1)]
def e78r27 : EE := .q 0 .eql [.s 85, .c (.int .i64 10)] none <|
 .out [(0, .s 0), (1, .s 1), (2, .s 2), (8, .s 8), (9, .s 9), (85, .s 85), (90, .r 0)]
def e78r28 : EE := .out [(0, .s 0), (1, .s 1), (2, .s 2), (8, .s 8), (9, .s 9), (10, .c (.int .u64 1844674407370955162))]
def e78r29 : EE := .q 0 .eql [.s 85, .c (.int .i64 16)] none <|
 .out [(0, .s 0), (1, .s 1), (2, .s 2), (8, .s 8), (9, .s 9), (92, .r 0)]
def e78r30 : EE := .out [(0, .s 0), (1, .s 1), (2, .s 2), (8, .s 8), (9, .s 9), (10, .c (.int .u64 1152921504606846976))]
def e78r31 : EE := .q 1 (.conv .u64) [.s 1] none <|
 .q 2 .quo [.c (.int .u64 18446744073709551615), .r 1] none <|
 .q 3 .add [.r 2, .c (.int .u64 1)] none <|
 .out [(0, .s 0), (1, .s 1), (2, .s 2), (8, .s 8), (9, .s 9), (10, .r 3)]
def e78r32 : EE := .q 1 (.conv .u64) [.s 2] none <|
 .q 2 .shl [.c (.int .u64 1), .r 1] none <|
 .q 3 .sub [.r 2, .c (.int .u64 1)] none <|
 .out [(0, .s 0), (1, .s 1), (8, .s 8), (9, .s 9), (10, .s 10), (11, .r 3)]
def e78r33 : EE := .out [(0, .s 0), (1, .s 1), (8, .s 8), (9, .s 9), (10, .s 10), (11, .s 11), (12, .c (.bool false))]
def e78r34 : EE := .out [(0, .s 0), (1, .s 1), (8, .s 8), (9, .s 9), (10, .s 10), (11, .s 11), (12, .s 12), (13, .c (.int .u64 0))]
def e78r35 : EE := .x 1 (.s2b 5) [.s 0] none [] <|
 .q 2 .len [.r 1] none <|
 .out [(1, .s 1), (8, .s 8), (9, .s 9), (10, .s 10), (11, .s 11), (12, .s 12), (13, .s 13), (99, .r 1), (100, .r 2), (101, .c z)]
def e78r36 : EE := .q 0 .lss [.s 101, .s 100] none <|
 .out [(1, .s 1), (8, .s 8), (9, .s 9), (10, .s 10), (11, .s 11), (12, .s 12), (13, .s 13), (99, .s 99), (100, .s 100), (101, .s 101), (102, .r 0)]
def e78r37 : EE := .q 0 (.ixs 1) [.s 99, .s 101] none <|
 .q 1 .ld [.r 0] none <|
 .out [(1, .s 1), (8, .s 8), (9, .s 9), (10, .s 10), (11, .s 11), (12, .s 12), (13, .s 13), (15, .r 1), (99, .s 99), (100, .s 100), (101, .s 101)]
def e78r38 : EE := .out [(1, .s 1), (8, .s 8), (9, .s 9), (10, .s 10), (11, .s 11), (12, .s 12), (13, .s 13), (15, .s 15), (99, .s 99), (100, .s 100), (101, .s 101)]
def e78r39 : EE := .q 1 .eql [.s 15, .c (.int .u8 95)] none <|
 .q 3 .mv [.s 8] (some (.r 1, true)) <|
 .q 4 .pick [.r 1, .r 3, .c (.bool false)] none <|
 .out [(1, .s 1), (8, .s 8), (9, .s 9), (10, .s 10), (11, .s 11), (12, .s 12), (13, .s 13), (15, .s 15), (99, .s 99), (100, .s 100), (101, .s 101), (106, .r 4)]
def e78r40 : EE := .out [(1, .s 1), (8, .s 8), (9, .s 9), (10, .s 10), (11, .s 11), (12, .c (.bool true)), (13, .s 13), (99, .s 99), (100, .s 100), (101, .s 101)]
def e78r41 : EE := .q 1 .leq [.c (.int .u8 48), .s 15] none <|
 .q 3 .mv [.s 15] (some (.r 1, true)) <|
 .q 4 .leq [.r 3, .c (.int .u8 57)] (some (.r 1, true)) <|
 .q 5 .pick [.r 1, .r 4, .c (.bool false)] none <|
 .out [(1, .s 1), (8, .s 8), (9, .s 9), (10, .s 10), (11, .s 11), (12, .s 12), (13, .s 13), (15, .s 15), (99, .s 99), (100, .s 100), (101, .s 101), (112, .r 5)]
def e78r42 : EE := .q 1 .sub [.s 15, .c (.int .u8 48)] none <|
 .out [(1, .s 1), (8, .s 8), (9, .s 9), (10, .s 10), (11, .s 11), (12, .s 12), (13, .s 13), (16, .r 1), (99, .s 99), (100, .s 100), (101, .s 101)]
def e78r43 : EE := .x 1 (.call 89) [.s 15] none [] <|
 .q 2 .leq [.c (.int .u8 97), .r 1] none <|
 .q 4 .mv [.s 15] (some (.r 2, true)) <|
 .x 5 (.call 89) [.r 4] (some (.r 2, true)) [] <|
 .q 6 .leq [.r 5, .c (.int .u8 122)] (some (.r 2, true)) <|
 .q 7 .pick [.r 2, .r 6, .c (.bool false)] none <|
 .out [(1, .s 1), (8, .s 8), (9, .s 9), (10, .s 10), (11, .s 11), (12, .s 12), (13, .s 13), (15, .s 15), (99, .s 99), (100, .s 100), (101, .s 101), (121, .r 7)]
def e78r44 : EE := .x 1 (.call 89) [.s 15] none [] <|
 .q 2 .sub [.r 1, .c (.int .u8 97)] none <|
 .q 3 .add [.r 2, .c (.int .u8 10)] none <|
 .out [(1, .s 1), (8, .s 8), (9, .s 9), (10, .s 10), (11, .s 11), (12, .s 12), (13, .s 13), (16, .r 3), (99, .s 99), (100, .s 100), (101, .s 101)]
def e78r45 : EE := .q 0 (.mki 108) [.c (.int .i64 2)] none <|
 .out [(6, .c (.int .u64 0)), (7, .r 0)]
def e78r46 : EE := .q 2 (.conv .u8) [.s 1] none <|
 .q 3 .geq [.s 16, .r 2] none <|
 .out [(1, .s 1), (8, .s 8), (9, .s 9), (10, .s 10), (11, .s 11), (12, .s 12), (13, .s 13), (16, .s 16), (99, .s 99), (100, .s 100), (101, .s 101), (137, .r 3)]
def e78r47 : EE := .q 0 (.mki 108) [.c (.int .i64 2)] none <|
 .out [(6, .c (.int .u64 0)), (7, .r 0)]
def e78r48 : EE := .q 2 .geq [.s 13, .s 10] none <|
 .out [(1, .s 1), (8, .s 8), (9, .s 9), (10, .s 10), (11, .s 11), (12, .s 12), (13, .s 13), (16, .s 16), (99, .s 99), (100, .s 100), (101, .s 101), (141, .r 2)]
def e78r49 : EE := .q 1 (.mki 108) [.c (.int .i64 1)] none <|
 .out [(6, .s 11), (7, .r 1)]
def e78r50 : EE := .q 2 (.conv .u64) [.s 1] none <|
 .q 3 .mul [.s 13, .r 2] none <|
 .out [(1, .s 1), (8, .s 8), (9, .s 9), (10, .s 10), (11, .s 11), (12, .s 12), (13, .r 3), (16, .s 16), (99, .s 99), (100, .s 100), (101, .s 101)]
def e78r51 : EE := .q 2 (.conv .u64) [.s 16] none <|
 .q 3 .add [.s 13, .r 2] none <|
 .out [(1, .s 1), (8, .s 8), (9, .s 9), (10, .s 10), (11, .s 11), (12, .s 12), (13, .s 13), (17, .r 3), (99, .s 99), (100, .s 100), (101, .s 101)]
def e78r52 : EE := .q 2 .lss [.s 17, .s 13] none <|
 .q 4 .mv [.s 17] (some (.r 2, false)) <|
 .q 5 .mv [.s 11] (some (.r 2, false)) <|
 .q 6 .gtr [.r 4, .r 5] (some (.r 2, false)) <|
 .q 7 .pick [.r 2, .c (.bool true), .r 6] none <|
 .out [(1, .s 1), (8, .s 8), (9, .s 9), (10, .s 10), (11, .s 11), (12, .s 12), (17, .s 17), (99, .s 99), (100, .s 100), (101, .s 101), (159, .r 7)]
def e78r53 : EE := .q 1 (.mki 108) [.c (.int .i64 1)] none <|
 .out [(6, .s 11), (7, .r 1)]
def e78r54 : EE := .out [(1, .s 1), (8, .s 8), (9, .s 9), (10, .s 10), (11, .s 11), (12, .s 12), (13, .s 17), (99, .s 99), (100, .s 100), (101, .s 101)]
def e78r55 : EE := .q 0 .add [.s 101, .c (.int .i64 1)] none <|
 .out [(1, .s 1), (8, .s 8), (9, .s 9), (10, .s 10), (11, .s 11), (12, .s 12), (13, .s 13), (99, .s 99), (100, .s 100), (101, .r 0)]
def e78l56 : EC := (.seq (.reg e78r36 [1, 8, 9, 10, 11, 12, 13, 99, 100, 101] 0) (.seq (.cond (.s 102) .skip (.exit 3)) (.seq (.block 4 (.seq (.reg e78r37 [1, 8, 9, 10, 11, 12, 13, 99, 100, 101] 0) (.seq (.reg e78r38 [1, 8, 9, 10, 11, 12, 13, 15, 99, 100, 101] 0) (.seq (.block 5 (.seq (.reg e78r39 [1, 8, 9, 10, 11, 12, 13, 15, 99, 100, 101] 0) (.cond (.s 106) (.seq (.reg e78r40 [1, 8, 9, 10, 11, 13, 99, 100, 101] 0) (.exit 4)) (.seq (.reg e78r41 [1, 8, 9, 10, 11, 12, 13, 15, 99, 100, 101] 0) (.cond (.s 112) (.reg e78r42 [1, 8, 9, 10, 11, 12, 13, 15, 99, 100, 101] 0) (.seq (.reg e78r43 [1, 8, 9, 10, 11, 12, 13, 15, 99, 100, 101] 0) (.cond (.s 121) (.reg e78r44 [1, 8, 9, 10, 11, 12, 13, 15, 99, 100, 101] 0) (.seq (.reg e78r45 [] 0) .ret)))))))) (.seq (.seq (.reg e78r46 [1, 8, 9, 10, 11, 12, 13, 16, 99, 100, 101] 0) (.cond (.s 137) (.seq (.reg e78r47 [] 0) .ret) .skip)) (.seq (.seq (.reg e78r48 [1, 8, 9, 10, 11, 12, 13, 16, 99, 100, 101] 0) (.cond (.s 141) (.seq (.reg e78r49 [11] 0) .ret) .skip)) (.seq (.reg e78r50 [1, 8, 9, 10, 11, 12, 13, 16, 99, 100, 101] 0) (.seq (.reg e78r51 [1, 8, 9, 10, 11, 12, 13, 16, 99, 100, 101] 0) (.seq (.seq (.reg e78r52 [1, 8, 9, 10, 11, 12, 13, 17, 99, 100, 101] 0) (.cond (.s 159) (.seq (.reg e78r53 [11] 0) .ret) .skip)) (.reg e78r54 [1, 8, 9, 10, 11, 12, 17, 99, 100, 101] 0)))))))))) (.reg e78r55 [1, 8, 9, 10, 11, 12, 13, 99, 100, 101] 0))))
def e78r57 : EE := .q 2 .mv [.s 9] (some (.s 12, true)) <|
 .x 3 (.call 90) [.r 2] (some (.s 12, true)) [] <|
 .q 4 .not [.r 3] (some (.s 12, true)) <|
 .q 5 .pick [.s 12, .r 4, .c (.bool false)] none <|
 .out [(13, .s 13), (169, .r 5)]
def e78r58 : EE := .q 0 (.mki 108) [.c (.int .i64 2)] none <|
 .out [(6, .c (.int .u64 0)), (7, .r 0)]
def e78r59 : EE := .out [(6, .s 13), (7, .c .nif)]
def e78 : EFn := ⟨(.seq (.reg e78r0 [0, 1, 2] 0) (.seq (.seq (.reg e78r1 [0, 1, 2] 0) (.cond (.s 19) (.seq (.reg e78r2 [] 0) .ret) .skip)) (.seq (.reg e78r3 [0, 1, 2] 0) (.seq (.reg e78r4 [0, 1, 2, 8] 0) (.seq (.block 0 (.seq (.reg e78r5 [0, 1, 2, 8, 9] 0) (.cond (.s 25) .skip (.seq (.reg e78r6 [0, 1, 2, 8, 9] 0) (.cond (.s 32) (.seq (.reg e78r7 [0, 2, 8, 9] 0) (.seq (.reg e78r8 [0, 1, 2, 8, 9] 0) (.cond (.s 37) (.block 1 (.seq (.reg e78r9 [0, 2, 8, 9] 0) (.cond (.s 40) (.seq (.reg e78r10 [0, 2, 8, 9] 0) (.reg e78r11 [0, 1, 2, 8, 9] 0)) (.seq (.reg e78r12 [0, 2, 8, 9] 0) (.cond (.s 52) (.seq (.reg e78r13 [0, 2, 8, 9] 0) (.reg e78r14 [0, 1, 2, 8, 9] 0)) (.seq (.reg e78r15 [0, 2, 8, 9] 0) (.cond (.s 64) (.seq (.reg e78r16 [0, 2, 8, 9] 0) (.reg e78r17 [0, 1, 2, 8, 9] 0)) (.seq (.reg e78r18 [0, 2, 8, 9] 0) (.reg e78r19 [0, 1, 2, 8, 9] 0))))))))) .skip))) (.seq (.reg e78r20 [] 0) .ret)))))) (.seq (.seq (.reg e78r21 [0, 1, 2, 8, 9] 0) (.cond (.s 77) (.reg e78r22 [0, 1, 8, 9] 0) (.seq (.reg e78r23 [0, 1, 2, 8, 9] 0) (.cond (.s 83) (.seq (.reg e78r24 [] 0) .ret) .skip)))) (.seq (.reg e78r25 [0, 1, 2, 8, 9] 0) (.seq (.seq (.reg e78r26 [0, 1, 2, 8, 9] 0) (.block 2 (.seq (.reg e78r27 [0, 1, 2, 8, 9, 85] 0) (.cond (.s 90) (.reg e78r28 [0, 1, 2, 8, 9] 0) (.seq (.reg e78r29 [0, 1, 2, 8, 9, 85] 0) (.cond (.s 92) (.reg e78r30 [0, 1, 2, 8, 9] 0) (.reg e78r31 [0, 1, 2, 8, 9] 0))))))) (.seq (.reg e78r32 [0, 1, 2, 8, 9, 10] 0) (.seq (.reg e78r33 [0, 1, 8, 9, 10, 11] 0) (.seq (.reg e78r34 [0, 1, 8, 9, 10, 11, 12] 0) (.seq (.seq (.reg e78r35 [0, 1, 8, 9, 10, 11, 12, 13] 0) (.block 3 (.loop [1, 8, 9, 10, 11, 12, 13, 99, 100, 101] e78l56))) (.seq (.seq (.reg e78r57 [9, 12, 13] 0) (.cond (.s 169) (.seq (.reg e78r58 [] 0) .ret) .skip)) (.seq (.reg e78r59 [13] 0) .ret)))))))))))))), [.slot 6, .slot 7], 172, 0⟩
theorem g78 : Good Tryd.prog 78 e78 := ⟨Tryd.f78, Tryd.func78, by kernel_rfl, by kernel_rfl, by kernel_rfl, by kernel_rfl⟩
/-! internal/stringslite.Clone -/
def e79r0 : EE := .out [(0, .s 0)]
def e79r1 : EE := .q 1 .lenz [.s 0] none <|
 .q 2 .eql [.r 1, .c z] none <|
 .out [(0, .s 0), (6, .r 2)]
def e79r2 : EE := .out [(2, .c zs)]
def e79r3 : EE := .q 1 .lenz [.s 0] none <|
 .x 2 (.mks 5 1 [(.int .u8 0)]) [.r 1, .r 1] none [] <|
 .out [(0, .s 0), (3, .r 2)]
def e79r4 : EE := .x 2 (.cpy 1) [.s 3, .s 0] none [] <|
 .out [(3, .s 3)]
def e79r5 : EE := .q 1 (.ixs 1) [.s 3, .c z] none <|
 .q 3 .len [.s 3] none <|
 .x 4 .bad [] none [] <|
 .out [(2, .r 4)]
def e79 : EFn := ⟨(.seq (.reg e79r0 [0] 0) (.seq (.seq (.reg e79r1 [0] 0) (.cond (.s 6) (.seq (.reg e79r2 [] 0) .ret) .skip)) (.seq (.reg e79r3 [0] 0) (.seq (.reg e79r4 [0, 3] 0) (.seq (.reg e79r5 [3] 0) .ret))))), [.slot 2], 18, 0⟩
theorem g79 : Good Tryd.prog 79 e79 := ⟨Tryd.f79, Tryd.func79, by kernel_rfl, by kernel_rfl, by kernel_rfl, by kernel_rfl⟩
/-! errors.New -/
def e80r0 : EE := .out [(0, .s 0)]
def e80r1 : EE := .q 1 (.bld [zs] [(0, 1)]) [.s 0] none <|
 .x 2 (.box 138) [.r 1] none [] <|
 .q 3 (.mki 136) [.r 2] none <|
 .out [(2, .r 3)]
def e80 : EFn := ⟨(.seq (.reg e80r0 [0] 0) (.seq (.reg e80r1 [0] 0) .ret)), [.slot 2], 7, 0⟩
theorem g80 : Good Tryd.prog 80 e80 := ⟨Tryd.f80, Tryd.func80, by kernel_rfl, by kernel_rfl, by kernel_rfl, by kernel_rfl⟩
/-! internal/strconv.log10Pow2 -/
def e81r0 : EE := .out [(0, .s 0)]
def e81r1 : EE := .q 1 .mul [.s 0, .c (.int .i64 78913)] none <|
 .q 2 .shr [.r 1, .c (.int .u64 18)] none <|
 .out [(2, .r 2)]
def e81 : EFn := ⟨(.seq (.reg e81r0 [0] 0) (.seq (.reg e81r1 [0] 0) .ret)), [.slot 2], 6, 0⟩
theorem g81 : Good Tryd.prog 81 e81 := ⟨Tryd.f81, Tryd.func81, by kernel_rfl, by kernel_rfl, by kernel_rfl, by kernel_rfl⟩
/-! math/bits.Len64 -/
def e82r0 : EE := .out [(0, .s 0), (2, .c z)]
def e82r1 : EE := .q 1 .geq [.s 0, .c (.int .u64 4294967296)] none <|
 .out [(0, .s 0), (2, .s 2), (4, .r 1)]
def e82r2 : EE := .q 1 .shr [.s 0, .c (.int .u64 32)] none <|
 .out [(0, .r 1)]
def e82r3 : EE := .out [(0, .s 0), (2, .c (.int .i64 32))]
def e82r4 : EE := .q 1 .geq [.s 0, .c (.int .u64 65536)] none <|
 .out [(0, .s 0), (2, .s 2), (8, .r 1)]
def e82r5 : EE := .q 1 .shr [.s 0, .c (.int .u64 16)] none <|
 .out [(0, .r 1), (2, .s 2)]
def e82r6 : EE := .q 1 .add [.s 2, .c (.int .i64 16)] none <|
 .out [(0, .s 0), (2, .r 1)]
def e82r7 : EE := .q 1 .geq [.s 0, .c (.int .u64 256)] none <|
 .out [(0, .s 0), (2, .s 2), (14, .r 1)]
def e82r8 : EE := .q 1 .shr [.s 0, .c (.int .u64 8)] none <|
 .out [(0, .r 1), (2, .s 2)]
def e82r9 : EE := .q 1 .add [.s 2, .c (.int .i64 8)] none <|
 .out [(0, .s 0), (2, .r 1)]
def e82r10 : EE := .q 2 (.conv .u8) [.s 0] none <|
 .q 3 .idxs [.c (.str [0, 1, 2, 2, 3, 3, 3, 3, 4, 4, 4, 4, 4, 4, 4, 4, 5, 5, 5, 5, 5, 5, 5, 5, 5, 5, 5, 5, 5, 5, 5, 5, 6, 6, 6, 6, 6, 6, 6, 6, 6, 6, 6, 6, 6, 6, 6, 6, 6, 6, 6, 6, 6, 6, 6, 6, 6, 6, 6, 6, 6, 6, 6, 6, 7, 7, 7, 7, 7, 7, 7, 7, 7, 7, 7, 7, 7, 7, 7, 7, 7, 7, 7, 7, 7, 7, 7, 7, 7, 7, 7, 7, 7, 7, 7, 7, 7, 7, 7, 7, 7, 7, 7, 7, 7, 7, 7, 7, 7, 7, 7, 7, 7, 7, 7, 7, 7, 7, 7, 7, 7, 7, 7, 7, 7, 7, 7, 7, 8, 8, 8, 8, 8, 8, 8, 8, 8, 8, 8, 8, 8, 8, 8, 8, 8, 8, 8, 8, 8, 8, 8, 8, 8, 8, 8, 8, 8, 8, 8, 8, 8, 8, 8, 8, 8, 8, 8, 8, 8, 8, 8, 8, 8, 8, 8, 8, 8, 8, 8, 8, 8, 8, 8, 8, 8, 8, 8, 8, 8, 8, 8, 8, 8, 8, 8, 8, 8, 8, 8, 8, 8, 8, 8, 8, 8, 8, 8, 8, 8, 8, 8, 8, 8, 8, 8, 8, 8, 8, 8, 8, 8, 8, 8, 8, 8, 8, 8, 8, 8, 8, 8, 8, 8, 8, 8, 8, 8, 8, 8, 8, 8, 8, 8, 8, 8, 8, 8, 8, 8, 8, 8, 8, 8, 8, 8, 8]), .r 2] none <|
 .q 4 (.conv .i64) [.r 3] none <|
 .q 5 .add [.s 2, .r 4] none <|
 .out [(2, .r 5)]
def e82 : EFn := ⟨(.seq (.reg e82r0 [0] 0) (.seq (.seq (.reg e82r1 [0, 2] 0) (.cond (.s 4) (.seq (.reg e82r2 [0] 0) (.reg e82r3 [0] 0)) .skip)) (.seq (.seq (.reg e82r4 [0, 2] 0) (.cond (.s 8) (.seq (.reg e82r5 [0, 2] 0) (.reg e82r6 [0, 2] 0)) .skip)) (.seq (.seq (.reg e82r7 [0, 2] 0) (.cond (.s 14) (.seq (.reg e82r8 [0, 2] 0) (.reg e82r9 [0, 2] 0)) .skip)) (.seq (.reg e82r10 [0, 2] 0) .ret))))), [.slot 2], 25, 0⟩
theorem g82 : Good Tryd.prog 82 e82 := ⟨Tryd.f82, Tryd.func82, by kernel_rfl, by kernel_rfl, by kernel_rfl, by kernel_rfl⟩
/-! internal/strconv.bool2[int] -/
def e83r0 : EE := .out [(0, .s 0)]
def e83r1 : EE := .out [(3, .s 0)]
def e83r2 : EE := .out [(2, .c (.int .i64 1))]
def e83r3 : EE := .out [(2, .c z)]
def e83 : EFn := ⟨(.seq (.reg e83r0 [0] 0) (.seq (.seq (.reg e83r1 [0] 0) (.cond (.s 3) (.seq (.reg e83r2 [] 0) .ret) .skip)) (.seq (.reg e83r3 [] 0) .ret))), [.slot 2], 4, 0⟩
theorem g83 : Good Tryd.prog 83 e83 := ⟨Tryd.f83, Tryd.func83, by kernel_rfl, by kernel_rfl, by kernel_rfl, by kernel_rfl⟩
/-! internal/strconv.isPowerOfTwo -/
def e84r0 : EE := .out [(0, .s 0)]
def e84r1 : EE := .q 2 .sub [.s 0, .c (.int .i64 1)] none <|
 .q 3 .and [.s 0, .r 2] none <|
 .q 4 .eql [.r 3, .c z] none <|
 .out [(2, .r 4)]
def e84 : EFn := ⟨(.seq (.reg e84r0 [0] 0) (.seq (.reg e84r1 [0] 0) .ret)), [.slot 2], 8, 0⟩
theorem g84 : Good Tryd.prog 84 e84 := ⟨Tryd.f84, Tryd.func84, by kernel_rfl, by kernel_rfl, by kernel_rfl, by kernel_rfl⟩
/-! math/bits.TrailingZeros -/
def e85r0 : EE := .out [(0, .s 0)]
def e85r1 : EE := .q 1 (.conv .u32) [.s 0] none <|
 .x 2 (.call 91) [.r 1] none [] <|
 .out [(2, .r 2)]
def e85r2 : EE := .x 1 (.call 92) [.s 0] none [] <|
 .out [(2, .r 1)]
def e85 : EFn := ⟨(.seq (.reg e85r0 [0] 0) (.seq (.cond (.c (.bool false)) (.seq (.reg e85r1 [0] 0) .ret) .skip) (.seq (.reg e85r2 [0] 0) .ret))), [.slot 2], 8, 0⟩
theorem g85 : Good Tryd.prog 85 e85 := ⟨Tryd.f85, Tryd.func85, by kernel_rfl, by kernel_rfl, by kernel_rfl, by kernel_rfl⟩
/-! slices.Reverse[[]concord/disk.file,concord/disk.file] -/
def e86r0 : EE := .q 1 .len [.s 0] none <|
 .q 2 .sub [.r 1, .c (.int .i64 1)] none <|
 .out [(0, .s 0), (2, .c z), (3, .r 2)]
def e86r1 : EE := .q 2 .lss [.s 2, .s 3] none <|
 .out [(0, .s 0), (2, .s 2), (3, .s 3), (9, .r 2)]
def e86r2 : EE := .q 6 (.ixs 3) [.s 0, .s 3] none <|
 .q 7 (.lda 3) [.r 6] none <|
 .q 10 (.ixs 3) [.s 0, .s 2] none <|
 .q 11 (.lda 3) [.r 10] none <|
 .q 12 (.ixs 3) [.s 0, .s 2] none <|
 .x 13 (.st 3) [.r 12, .r 7] none [] <|
 .q 14 (.ixs 3) [.s 0, .s 3] none <|
 .x 15 (.st 3) [.r 14, .r 11] none [] <|
 .out [(0, .s 0), (2, .s 2), (3, .s 3)]
def e86r3 : EE := .q 1 .add [.s 2, .c (.int .i64 1)] none <|
 .q 3 .sub [.s 3, .c (.int .i64 1)] none <|
 .out [(0, .s 0), (2, .r 1), (3, .r 3)]
def e86l4 : EC := (.seq (.seq (.reg e86r1 [0, 2, 3] 0) (.cond (.s 9) .skip (.exit 0))) (.seq (.block 1 (.reg e86r2 [0, 2, 3] 0)) (.reg e86r3 [0, 2, 3] 0)))
def e86 : EFn := ⟨(.seq (.reg e86r0 [0] 0) (.block 0 (.loop [0, 2, 3] e86l4))), [], 28, 0⟩
theorem g86 : Good Tryd.prog 86 e86 := ⟨Tryd.f86, Tryd.func86, by kernel_rfl, by kernel_rfl, by kernel_rfl, by kernel_rfl⟩
/-! internal/bytealg.hashStr[string] -/
def e88r0 : EE := .out [(0, .s 0)]
def e88r1 : EE := .out [(0, .s 0), (4, .c (.int .u32 0))]
def e88r2 : EE := .out [(0, .s 0), (4, .s 4), (5, .c z)]
def e88r3 : EE := .q 2 .lenz [.s 0] none <|
 .q 3 .lss [.s 5, .r 2] none <|
 .out [(0, .s 0), (4, .s 4), (5, .s 5), (12, .r 3)]
def e88r4 : EE := .q 1 .mul [.s 4, .c (.int .u32 16777619)] none <|
 .q 4 .idxs [.s 0, .s 5] none <|
 .q 5 (.conv .u32) [.r 4] none <|
 .q 6 .add [.r 1, .r 5] none <|
 .out [(0, .s 0), (4, .r 6), (5, .s 5)]
def e88r5 : EE := .q 1 .add [.s 5, .c (.int .i64 1)] none <|
 .out [(0, .s 0), (4, .s 4), (5, .r 1)]
def e88l6 : EC := (.seq (.seq (.reg e88r3 [0, 4, 5] 0) (.cond (.s 12) .skip (.exit 0))) (.seq (.block 1 (.reg e88r4 [0, 4, 5] 0)) (.reg e88r5 [0, 4, 5] 0)))
def e88r7 : EE := .out [(0, .s 0), (4, .s 4), (6, .c (.int .u32 1)), (7, .c (.int .u32 16777619))]
def e88r8 : EE := .q 1 .lenz [.s 0] none <|
 .out [(4, .s 4), (6, .s 6), (7, .s 7), (8, .r 1)]
def e88r9 : EE := .q 1 .gtr [.s 8, .c z] none <|
 .out [(4, .s 4), (6, .s 6), (7, .s 7), (8, .s 8), (25, .r 1)]
def e88r10 : EE := .q 1 .and [.s 8, .c (.int .i64 1)] none <|
 .q 2 .neq [.r 1, .c z] none <|
 .out [(4, .s 4), (6, .s 6), (7, .s 7), (8, .s 8), (30, .r 2)]
def e88r11 : EE := .q 2 .mul [.s 6, .s 7] none <|
 .out [(4, .s 4), (6, .r 2), (7, .s 7), (8, .s 8)]
def e88r12 : EE := .q 2 .mul [.s 7, .s 7] none <|
 .out [(4, .s 4), (6, .s 6), (7, .r 2), (8, .s 8)]
def e88r13 : EE := .q 1 .shr [.s 8, .c (.int .u64 1)] none <|
 .out [(4, .s 4), (6, .s 6), (7, .s 7), (8, .r 1)]
def e88l14 : EC := (.seq (.seq (.reg e88r9 [4, 6, 7, 8] 0) (.cond (.s 25) .skip (.exit 2))) (.seq (.block 3 (.seq (.seq (.reg e88r10 [4, 6, 7, 8] 0) (.cond (.s 30) (.reg e88r11 [4, 6, 7, 8] 0) .skip)) (.reg e88r12 [4, 6, 7, 8] 0))) (.reg e88r13 [4, 6, 7, 8] 0)))
def e88r15 : EE := .out [(2, .s 4), (3, .s 6)]
def e88 : EFn := ⟨(.seq (.reg e88r0 [0] 0) (.seq (.reg e88r1 [0] 0) (.seq (.seq (.reg e88r2 [0, 4] 0) (.block 0 (.loop [0, 4, 5] e88l6))) (.seq (.reg e88r7 [0, 4] 0) (.seq (.seq (.reg e88r8 [0, 4, 6, 7] 0) (.block 2 (.loop [4, 6, 7, 8] e88l14))) (.seq (.reg e88r15 [4, 6] 0) .ret)))))), [.slot 2, .slot 3], 39, 0⟩
theorem g88 : Good Tryd.prog 88 e88 := ⟨Tryd.f88, Tryd.func88, by kernel_rfl, by kernel_rfl, by kernel_rfl, by kernel_rfl⟩
end Go.Ev
