import Derived.Test.YtbbddikmjkbglaaGreatDoorEvB
import Derived.Test.YtbbddikmjkbglaaGreatDoorProg
set_option linter.unusedVariables false
namespace Go.Ev
open Go.Fw Go.Proofs
/-! concord/concordlaw29.ShellRuns -/
def e3r0 : EE := .out []
def e3r1 : EE := .q 0 (.bld [z, z, z, zs, zs, zs, zs] [(0, 1), (3, 1), (6, 1)]) [.c (.int .i64 2), .c (.str [97, 32, 98]), .c (.str [37])] none <|
 .q 1 (.bld [z, z, z, z, z, z, z, zs, zs, zs, zs, .nsl] [(0, 1), (3, 1), (4, 7)]) [.c (.int .i64 1), .c (.int .i64 1), .r 0] none <|
 .x 2 (.call 4) [.r 1] none [] <|
 .out [(1, .r 2)]
def e3r2 : EE := .x 0 (.bsl 3 2 [z, z] [(0, 1), (1, 1)]) [.c (.int .i64 1), .c (.int .i64 (-5))] none [] <|
 .q 1 (.bld [z, z, z, z, z, z, z, zs, zs, zs, zs, .nsl] [(0, 1), (1, 1), (11, 1)]) [.c (.int .i64 8), .c (.int .i64 2), .r 0] none <|
 .x 2 (.call 4) [.r 1] none [] <|
 .out [(1, .s 1), (2, .r 2)]
def e3r3 : EE := .x 0 (.call 5) [.c (.str [116, 105, 99, 107, 32, 48, 49])] none [] <|
 .q 2 (.ext 0) [.r 0] none <|
 .q 3 (.ext 1) [.r 0] none <|
 .x 4 (.alc [z, z, z, z, z, z, z, zs, zs, zs, zs, .nsl] 27) [] none [] <|
 .x 5 (.st 12) [.r 4, .r 2] none [] <|
 .out [(1, .s 1), (2, .s 2), (4, .r 3)]
def e3r4 : EE := .x 0 (.call 5) [.c (.str [103, 101, 116, 32, 49, 32, 48, 32, 97])] none [] <|
 .q 2 (.ext 0) [.r 0] none <|
 .q 3 (.ext 1) [.r 0] none <|
 .x 4 (.alc [z, z, z, z, z, z, z, zs, zs, zs, zs, .nsl] 27) [] none [] <|
 .x 5 (.st 12) [.r 4, .r 2] none [] <|
 .out [(1, .s 1), (2, .s 2), (4, .s 4), (6, .r 3)]
def e3r5 : EE := .x 0 (.call 6) [.c (.int .i64 3), .c (.str [116, 105, 99, 107, 32, 48])] none [] <|
 .q 2 (.ext 0) [.r 0] none <|
 .q 3 (.ext 1) [.r 0] none <|
 .q 4 (.ext 2) [.r 0] none <|
 .out [(1, .s 1), (2, .s 2), (4, .s 4), (6, .s 6), (7, .r 2), (8, .r 3), (9, .r 4)]
def e3r6 : EE := .q 1 .seql [.s 1, .c (.str [112, 117, 116, 32, 49, 32, 48, 32, 61, 97, 37, 50, 48, 98, 32, 61, 37, 50, 53])] none <|
 .q 3 .mv [.s 2] (some (.r 1, true)) <|
 .q 4 .seql [.r 3, .c (.str [99, 114, 97, 115, 104, 32, 50, 32, 49, 32, 45, 53])] (some (.r 1, true)) <|
 .q 5 .pick [.r 1, .r 4, .c (.bool false)] none <|
 .q 7 .mv [.s 4] (some (.r 5, true)) <|
 .q 8 .eql [.r 7, .c (.int .i64 4)] (some (.r 5, true)) <|
 .q 9 .pick [.r 5, .r 8, .c (.bool false)] none <|
 .q 11 .mv [.s 6] (some (.r 9, true)) <|
 .q 12 .eql [.r 11, .c (.int .i64 4)] (some (.r 9, true)) <|
 .q 13 .pick [.r 9, .r 12, .c (.bool false)] none <|
 .q 15 .mv [.s 7] (some (.r 13, true)) <|
 .q 16 .seql [.r 15, .c (.str [121, 101, 115, 10, 117, 112, 32, 51, 32, 99, 111, 109, 109, 105, 116, 116, 101, 100, 32, 48, 32, 102, 105, 110, 101, 10])] (some (.r 13, true)) <|
 .q 17 .pick [.r 13, .r 16, .c (.bool false)] none <|
 .q 19 .mv [.s 8] (some (.r 17, true)) <|
 .q 20 .eql [.r 19, .c z] (some (.r 17, true)) <|
 .q 21 .pick [.r 17, .r 20, .c (.bool false)] none <|
 .q 23 .mv [.s 9] (some (.r 21, true)) <|
 .q 24 .eql [.r 23, .c z] (some (.r 21, true)) <|
 .q 25 .pick [.r 21, .r 24, .c (.bool false)] none <|
 .out [(0, .r 25)]
def e3 : EFn := ⟨(.seq (.reg e3r0 [] 0) (.seq (.reg e3r1 [] 0) (.seq (.reg e3r2 [1] 0) (.seq (.reg e3r3 [1, 2] 0) (.seq (.reg e3r4 [1, 2, 4] 0) (.seq (.reg e3r5 [1, 2, 4, 6] 0) (.seq (.reg e3r6 [1, 2, 4, 6, 7, 8, 9] 0) .ret))))))), [.slot 0], 55, 0⟩
theorem g3 : Good Tryz.prog 3 e3 := ⟨Tryz.f3, Tryz.func3, by kernel_rfl, by kernel_rfl, by kernel_rfl, by kernel_rfl⟩
/-! concord/shell.Line -/
def e4r0 : EE := .x 0 (.box 27) [.s 0] none [] <|
 .out [(1, .r 0)]
def e4r1 : EE := .x 0 (.call 8) [] none [] <|
 .q 1 (.mkf 9 0) [.s 1] none <|
 .x 2 (.call 7) [.r 0, .r 1] none [] <|
 .out [(1, .s 1), (3, .r 2)]
def e4r2 : EE := .q 1 .lss [.s 3, .c z] none <|
 .out [(1, .s 1), (3, .s 3), (15, .r 1)]
def e4r3 : EE := .out [(2, .c zs)]
def e4r4 : EE := .x 0 (.call 8) [] none [] <|
 .q 2 (.ixs 4) [.r 0, .s 3] none <|
 .q 3 (.fld 0) [.r 2] none <|
 .q 4 .ld [.r 3] none <|
 .x 5 (.bsl 9 1 [zs] [(0, 1)]) [.r 4] none [] <|
 .out [(1, .s 1), (4, .r 5)]
def e4r5 : EE := .x 0 (.call 10) [.s 1] none [] <|
 .q 1 .len [.r 0] none <|
 .out [(1, .s 1), (4, .s 4), (22, .r 0), (23, .r 1), (24, .c z)]
def e4r6 : EE := .q 0 .lss [.s 24, .s 23] none <|
 .out [(1, .s 1), (4, .s 4), (22, .s 22), (23, .s 23), (24, .s 24), (25, .r 0)]
def e4r7 : EE := .q 0 (.ixs 1) [.s 22, .s 24] none <|
 .q 1 .ld [.r 0] none <|
 .out [(1, .s 1), (4, .s 4), (6, .r 1), (22, .s 22), (23, .s 23), (24, .s 24)]
def e4r8 : EE := .q 2 .nl [.s 6] none <|
 .q 3 .ld [.r 2] none <|
 .x 4 (.call 11) [.r 3] none [] <|
 .x 5 (.bsl 9 1 [zs] [(0, 1)]) [.r 4] none [] <|
 .x 6 (.app 9 1 16 [zs]) [.s 4, .r 5] none [] <|
 .out [(1, .s 1), (4, .r 6), (22, .s 22), (23, .s 23), (24, .s 24)]
def e4r9 : EE := .q 0 .add [.s 24, .c (.int .i64 1)] none <|
 .out [(1, .s 1), (4, .s 4), (22, .s 22), (23, .s 23), (24, .r 0)]
def e4l10 : EC := (.seq (.reg e4r6 [1, 4, 22, 23, 24] 0) (.seq (.cond (.s 25) .skip (.exit 0)) (.seq (.block 1 (.seq (.reg e4r7 [1, 4, 22, 23, 24] 0) (.reg e4r8 [1, 4, 6, 22, 23, 24] 0))) (.reg e4r9 [1, 4, 22, 23, 24] 0))))
def e4r11 : EE := .q 0 (.fld 0) [.s 1] none <|
 .q 1 .ld [.r 0] none <|
 .q 2 .eql [.r 1, .c (.int .i64 1)] none <|
 .out [(1, .s 1), (4, .s 4), (38, .r 2)]
def e4r12 : EE := .q 0 (.fld 4) [.s 1] none <|
 .x 1 (.call 12) [.r 0] none [] <|
 .q 2 .len [.r 1] none <|
 .out [(1, .s 1), (4, .s 4), (40, .r 1), (41, .r 2), (42, .c z)]
def e4r13 : EE := .q 0 .lss [.s 42, .s 41] none <|
 .out [(1, .s 1), (4, .s 4), (40, .s 40), (41, .s 41), (42, .s 42), (43, .r 0)]
def e4r14 : EE := .q 0 (.ixs 1) [.s 40, .s 42] none <|
 .q 1 .ld [.r 0] none <|
 .out [(1, .s 1), (4, .s 4), (8, .r 1), (40, .s 40), (41, .s 41), (42, .s 42)]
def e4r15 : EE := .q 2 .nl [.s 8] none <|
 .q 3 .ld [.r 2] none <|
 .x 4 (.call 13) [.r 3] none [] <|
 .x 5 (.bsl 9 1 [zs] [(0, 1)]) [.r 4] none [] <|
 .x 6 (.app 9 1 16 [zs]) [.s 4, .r 5] none [] <|
 .out [(1, .s 1), (4, .r 6), (40, .s 40), (41, .s 41), (42, .s 42)]
def e4r16 : EE := .q 0 .add [.s 42, .c (.int .i64 1)] none <|
 .out [(1, .s 1), (4, .s 4), (40, .s 40), (41, .s 41), (42, .r 0)]
def e4l17 : EC := (.seq (.reg e4r13 [1, 4, 40, 41, 42] 0) (.seq (.cond (.s 43) .skip (.exit 2)) (.seq (.block 3 (.seq (.reg e4r14 [1, 4, 40, 41, 42] 0) (.reg e4r15 [1, 4, 8, 40, 41, 42] 0))) (.reg e4r16 [1, 4, 40, 41, 42] 0))))
def e4r18 : EE := .q 0 (.fld 0) [.s 1] none <|
 .q 1 .ld [.r 0] none <|
 .q 2 .eql [.r 1, .c (.int .i64 8)] none <|
 .out [(1, .s 1), (4, .s 4), (56, .r 2)]
def e4r19 : EE := .q 0 (.fld 11) [.s 1] none <|
 .q 1 .ld [.r 0] none <|
 .q 2 .len [.r 1] none <|
 .out [(4, .s 4), (58, .r 1), (59, .r 2), (60, .c z)]
def e4r20 : EE := .q 0 .lss [.s 60, .s 59] none <|
 .out [(4, .s 4), (58, .s 58), (59, .s 59), (60, .s 60), (61, .r 0)]
def e4r21 : EE := .q 0 (.ixs 1) [.s 58, .s 60] none <|
 .q 1 .ld [.r 0] none <|
 .out [(4, .s 4), (10, .r 1), (58, .s 58), (59, .s 59), (60, .s 60)]
def e4r22 : EE := .x 2 (.call 11) [.s 10] none [] <|
 .x 3 (.bsl 9 1 [zs] [(0, 1)]) [.r 2] none [] <|
 .x 4 (.app 9 1 16 [zs]) [.s 4, .r 3] none [] <|
 .out [(4, .r 4), (58, .s 58), (59, .s 59), (60, .s 60)]
def e4r23 : EE := .q 0 .add [.s 60, .c (.int .i64 1)] none <|
 .out [(4, .s 4), (58, .s 58), (59, .s 59), (60, .r 0)]
def e4l24 : EC := (.seq (.reg e4r20 [4, 58, 59, 60] 0) (.seq (.cond (.s 61) .skip (.exit 4)) (.seq (.block 5 (.seq (.reg e4r21 [4, 58, 59, 60] 0) (.reg e4r22 [4, 10, 58, 59, 60] 0))) (.reg e4r23 [4, 58, 59, 60] 0))))
def e4r25 : EE := .x 1 (.call 14) [.s 4, .c (.str [32])] none [] <|
 .out [(2, .r 1)]
def e4 : EFn := ⟨(.seq (.reg e4r0 [0] 0) (.seq (.reg e4r1 [1] 0) (.seq (.seq (.reg e4r2 [1, 3] 0) (.cond (.s 15) (.seq (.reg e4r3 [] 0) .ret) .skip)) (.seq (.reg e4r4 [1, 3] 0) (.seq (.seq (.reg e4r5 [1, 4] 0) (.block 0 (.loop [1, 4, 22, 23, 24] e4l10))) (.seq (.seq (.reg e4r11 [1, 4] 0) (.cond (.s 38) (.seq (.reg e4r12 [1, 4] 0) (.block 2 (.loop [1, 4, 40, 41, 42] e4l17))) .skip)) (.seq (.seq (.reg e4r18 [1, 4] 0) (.cond (.s 56) (.seq (.reg e4r19 [1, 4] 0) (.block 4 (.loop [4, 58, 59, 60] e4l24))) .skip)) (.seq (.reg e4r25 [4] 0) .ret)))))))), [.slot 2], 72, 0⟩
theorem g4 : Good Tryz.prog 4 e4 := ⟨Tryz.f4, Tryz.func4, by kernel_rfl, by kernel_rfl, by kernel_rfl, by kernel_rfl⟩
/-! concord/shell.Parse -/
def e5r0 : EE := .x 0 (.alc [z, z, z, z, z, z, z, zs, zs, zs, zs, .nsl] 27) [] none [] <|
 .out [(0, .s 0), (2, .r 0)]
def e5r1 : EE := .q 1 .lenz [.s 0] none <|
 .q 2 .gtr [.r 1, .c (.int .i64 5000)] none <|
 .out [(0, .s 0), (2, .s 2), (7, .r 2)]
def e5r2 : EE := .q 0 (.bld [z, z, z, z, z, z, z, zs, zs, zs, zs, .nsl] []) [] none <|
 .x 1 (.st 12) [.s 2, .r 0] none [] <|
 .out [(2, .s 2), (3, .c (.int .i64 2))]
def e5r3 : EE := .x 1 (.call 16) [.s 0, .c (.str [32])] none [] <|
 .x 2 (.call 15) [.r 1] none [] <|
 .x 3 (.alc [z, z, z, z, z, z, z, zs, zs, zs, zs, .nsl] 27) [] none [] <|
 .x 4 (.st 12) [.r 3, .r 2] none [] <|
 .out [(0, .s 0), (2, .s 2), (4, .r 3)]
def e5r4 : EE := .q 1 .seql [.s 0, .c zs] none <|
 .q 3 (.lda 12) [.s 4] (some (.r 1, false)) <|
 .x 4 (.call 4) [.r 3] (some (.r 1, false)) [] <|
 .q 5 .mv [.s 0] (some (.r 1, false)) <|
 .q 6 .sneq [.r 4, .r 5] (some (.r 1, false)) <|
 .q 7 .pick [.r 1, .c (.bool true), .r 6] none <|
 .out [(2, .s 2), (4, .s 4), (19, .r 7)]
def e5r5 : EE := .q 0 (.bld [z, z, z, z, z, z, z, zs, zs, zs, zs, .nsl] []) [] none <|
 .x 1 (.st 12) [.s 2, .r 0] none [] <|
 .out [(2, .s 2), (3, .c (.int .i64 4))]
def e5r6 : EE := .q 0 (.lda 12) [.s 4] none <|
 .x 1 (.st 12) [.s 2, .r 0] none [] <|
 .out [(2, .s 2), (3, .c z)]
def e5 : EFn := ⟨(.seq (.reg e5r0 [0] 0) (.seq (.seq (.reg e5r1 [0, 2] 0) (.cond (.s 7) (.seq (.reg e5r2 [2] 0) .ret) .skip)) (.seq (.reg e5r3 [0, 2] 0) (.seq (.seq (.reg e5r4 [0, 2, 4] 0) (.cond (.s 19) (.seq (.reg e5r5 [2] 0) .ret) .skip)) (.seq (.reg e5r6 [2, 4] 0) .ret))))), [.cells 2 12, .slot 3], 22, 0⟩
theorem g5 : Good Tryz.prog 5 e5 := ⟨Tryz.f5, Tryz.func5, by kernel_rfl, by kernel_rfl, by kernel_rfl, by kernel_rfl⟩
/-! concord/shell.Run -/
def e6r0 : EE := .out [(0, .s 0), (1, .s 1)]
def e6r1 : EE := .x 1 (.call 17) [.s 1] none [] <|
 .q 3 (.ext 0) [.r 1] none <|
 .q 4 (.ext 1) [.r 1] none <|
 .q 5 (.ext 2) [.r 1] none <|
 .out [(0, .s 0), (7, .r 3), (8, .r 4), (9, .r 5)]
def e6r2 : EE := .q 1 .neq [.s 9, .c z] none <|
 .out [(0, .s 0), (7, .s 7), (8, .s 8), (9, .s 9), (25, .r 1)]
def e6r3 : EE := .out [(4, .c zs), (5, .s 8), (6, .s 9)]
def e6r4 : EE := .x 1 (.call 18) [.s 0] none [] <|
 .q 3 (.ext 0) [.r 1] none <|
 .q 4 (.ext 1) [.r 1] none <|
 .out [(7, .s 7), (9, .r 4), (10, .r 3)]
def e6r5 : EE := .q 1 .neq [.s 9, .c z] none <|
 .out [(7, .s 7), (9, .s 9), (10, .s 10), (34, .r 1)]
def e6r6 : EE := .out [(4, .c zs), (5, .c z), (6, .s 9)]
def e6r7 : EE := .x 0 (.talc [.nptr, .nsl] 63) [] none [] <|
 .out [(7, .s 7), (10, .s 10), (11, .r 0)]
def e6r8 : EE := .q 1 .len [.s 7] none <|
 .out [(10, .s 10), (11, .s 11), (36, .s 7), (37, .r 1), (38, .c z)]
def e6r9 : EE := .q 0 .lss [.s 38, .s 37] none <|
 .out [(10, .s 10), (11, .s 11), (36, .s 36), (37, .s 37), (38, .s 38), (39, .r 0)]
def e6r10 : EE := .q 0 (.ixs 12) [.s 36, .s 38] none <|
 .q 1 (.lda 12) [.r 0] none <|
 .x 2 (.alc [z, z, z, z, z, z, z, zs, zs, zs, zs, .nsl] 27) [] none [] <|
 .x 3 (.st 12) [.r 2, .r 1] none [] <|
 .out [(10, .s 10), (11, .s 11), (13, .r 2), (36, .s 36), (37, .s 37), (38, .s 38)]
def e6r11 : EE := .q 1 (.lda 12) [.s 13] none <|
 .x 2 (.call 19) [.s 10, .r 1] none [] <|
 .out [(10, .s 10), (11, .s 11), (36, .s 36), (37, .s 37), (38, .s 38), (44, .r 2)]
def e6r12 : EE := .x 0 (.call 20) [.s 11, .c (.str [121, 101, 115, 10])] none [] <|
 .out [(10, .s 10), (11, .s 11), (36, .s 36), (37, .s 37), (38, .s 38)]
def e6r13 : EE := .x 0 (.call 20) [.s 11, .c (.str [110, 111, 10])] none [] <|
 .out [(10, .s 10), (11, .s 11), (36, .s 36), (37, .s 37), (38, .s 38)]
def e6r14 : EE := .q 0 .add [.s 38, .c (.int .i64 1)] none <|
 .out [(10, .s 10), (11, .s 11), (36, .s 36), (37, .s 37), (38, .r 0)]
def e6l15 : EC := (.seq (.reg e6r9 [10, 11, 36, 37, 38] 0) (.seq (.cond (.s 39) .skip (.exit 0)) (.seq (.block 1 (.seq (.reg e6r10 [10, 11, 36, 37, 38] 0) (.seq (.reg e6r11 [10, 11, 13, 36, 37, 38] 0) (.cond (.s 44) (.reg e6r12 [10, 11, 36, 37, 38] 0) (.reg e6r13 [10, 11, 36, 37, 38] 0))))) (.reg e6r14 [10, 11, 36, 37, 38] 0))))
def e6r16 : EE := .x 1 (.call 21) [.s 10] none [] <|
 .q 2 .len [.r 1] none <|
 .out [(10, .s 10), (11, .s 11), (49, .r 1), (50, .r 2), (51, .c z)]
def e6r17 : EE := .q 0 .lss [.s 51, .s 50] none <|
 .out [(10, .s 10), (11, .s 11), (49, .s 49), (50, .s 50), (51, .s 51), (52, .r 0)]
def e6r18 : EE := .q 0 (.ixs 14) [.s 49, .s 51] none <|
 .q 1 (.lda 14) [.r 0] none <|
 .x 2 (.alc [z, z, z, z, z, zs, zs, zs, zs, z, (.bool false), zs, z, .nsl] 75) [] none [] <|
 .x 3 (.st 14) [.r 2, .r 1] none [] <|
 .out [(10, .s 10), (11, .s 11), (15, .r 2), (49, .s 49), (50, .s 50), (51, .s 51)]
def e6r19 : EE := .q 0 (.lda 14) [.s 15] none <|
 .x 1 (.call 22) [.r 0] none [] <|
 .x 2 (.call 20) [.s 11, .r 1] none [] <|
 .out [(10, .s 10), (11, .s 11), (49, .s 49), (50, .s 50), (51, .s 51)]
def e6r20 : EE := .q 0 .add [.s 51, .c (.int .i64 1)] none <|
 .out [(10, .s 10), (11, .s 11), (49, .s 49), (50, .s 50), (51, .r 0)]
def e6l21 : EC := (.seq (.reg e6r17 [10, 11, 49, 50, 51] 0) (.seq (.cond (.s 52) .skip (.exit 2)) (.seq (.block 3 (.seq (.reg e6r18 [10, 11, 49, 50, 51] 0) (.reg e6r19 [10, 11, 15, 49, 50, 51] 0))) (.reg e6r20 [10, 11, 49, 50, 51] 0))))
def e6r22 : EE := .x 1 (.call 23) [.s 10] none [] <|
 .x 2 (.alc [z, z, z, z, z] 78) [] none [] <|
 .x 3 (.st 5) [.r 2, .r 1] none [] <|
 .out [(11, .s 11), (16, .r 2)]
def e6r23 : EE := .out [(11, .s 11), (16, .s 16), (17, .c (.str [110, 111, 116]))]
def e6r24 : EE := .q 0 (.lda 5) [.s 16] none <|
 .x 1 (.call 24) [.r 0] none [] <|
 .out [(11, .s 11), (16, .s 16), (17, .s 17), (62, .r 1)]
def e6r25 : EE := .out [(11, .s 11), (16, .s 16), (17, .c (.str [102, 105, 110, 101]))]
def e6r26 : EE := .q 0 (.fld 0) [.s 16] none <|
 .q 1 .ld [.r 0] none <|
 .q 5 (.fld 1) [.s 16] none <|
 .q 6 .ld [.r 5] none <|
 .x 2 (.call 11) [.r 1] none [⟨6, .ld, [.r 5], none⟩] <|
 .q 3 .sadd [.c (.str [117, 112, 32]), .r 2] none <|
 .q 4 .sadd [.r 3, .c (.str [32, 99, 111, 109, 109, 105, 116, 116, 101, 100, 32])] none <|
 .x 7 (.call 11) [.r 6] none [] <|
 .q 8 .sadd [.r 4, .r 7] none <|
 .q 9 .sadd [.r 8, .c (.str [32])] none <|
 .q 11 .sadd [.r 9, .s 17] none <|
 .q 12 .sadd [.r 11, .c (.str [10])] none <|
 .x 13 (.call 20) [.s 11, .r 12] none [] <|
 .out [(11, .s 11)]
def e6r27 : EE := .x 0 (.call 25) [.s 11] none [] <|
 .out [(4, .r 0), (5, .c z), (6, .c z)]
def e6 : EFn := ⟨(.seq (.reg e6r0 [0, 1] 0) (.seq (.reg e6r1 [0, 1] 0) (.seq (.seq (.reg e6r2 [0, 7, 8, 9] 0) (.cond (.s 25) (.seq (.reg e6r3 [8, 9] 0) .ret) .skip)) (.seq (.reg e6r4 [0, 7] 0) (.seq (.seq (.reg e6r5 [7, 9, 10] 0) (.cond (.s 34) (.seq (.reg e6r6 [9] 0) .ret) .skip)) (.seq (.reg e6r7 [7, 10] 0) (.seq (.seq (.reg e6r8 [7, 10, 11] 0) (.block 0 (.loop [10, 11, 36, 37, 38] e6l15))) (.seq (.seq (.reg e6r16 [10, 11] 0) (.block 2 (.loop [10, 11, 49, 50, 51] e6l21))) (.seq (.reg e6r22 [10, 11] 0) (.seq (.reg e6r23 [11, 16] 0) (.seq (.seq (.reg e6r24 [11, 16, 17] 0) (.cond (.s 62) (.reg e6r25 [11, 16] 0) .skip)) (.seq (.reg e6r26 [11, 16, 17] 0) (.seq (.reg e6r27 [11] 0) .ret))))))))))))), [.slot 4, .slot 5, .slot 6], 78, 0⟩
theorem g6 : Good Tryz.prog 6 e6 := ⟨Tryz.f6, Tryz.func6, by kernel_rfl, by kernel_rfl, by kernel_rfl, by kernel_rfl⟩
/-! slices.IndexFunc[[]concord/shell.kind,concord/shell.kind] -/
def e7r0 : EE := .out [(0, .s 0), (1, .s 1)]
def e7r1 : EE := .q 1 .len [.s 0] none <|
 .out [(0, .s 0), (1, .s 1), (7, .r 1), (8, .c z)]
def e7r2 : EE := .q 0 .lss [.s 8, .s 7] none <|
 .out [(0, .s 0), (1, .s 1), (7, .s 7), (8, .s 8), (9, .r 0)]
def e7r3 : EE := .out [(0, .s 0), (1, .s 1), (5, .s 8), (7, .s 7), (8, .s 8)]
def e7r4 : EE := .q 3 (.ixs 4) [.s 0, .s 5] none <|
 .q 4 (.lda 4) [.r 3] none <|
 .x 5 .callv [.s 1, .r 4] none [] <|
 .out [(0, .s 0), (1, .s 1), (5, .s 5), (7, .s 7), (8, .s 8), (16, .r 5)]
def e7r5 : EE := .out [(4, .s 5)]
def e7r6 : EE := .q 0 .add [.s 8, .c (.int .i64 1)] none <|
 .out [(0, .s 0), (1, .s 1), (7, .s 7), (8, .r 0)]
def e7l7 : EC := (.seq (.reg e7r2 [0, 1, 7, 8] 0) (.seq (.cond (.s 9) .skip (.exit 0)) (.seq (.block 1 (.seq (.reg e7r3 [0, 1, 7, 8] 0) (.seq (.reg e7r4 [0, 1, 5, 7, 8] 0) (.cond (.s 16) (.seq (.reg e7r5 [5] 0) .ret) .skip)))) (.reg e7r6 [0, 1, 7, 8] 0))))
def e7r8 : EE := .out [(4, .c (.int .i64 (-1)))]
def e7 : EFn := ⟨(.seq (.reg e7r0 [0, 1] 0) (.seq (.seq (.reg e7r1 [0, 1] 0) (.block 0 (.loop [0, 1, 7, 8] e7l7))) (.seq (.reg e7r8 [] 0) .ret))), [.slot 4], 19, 0⟩
theorem g7 : Good Tryz.prog 7 e7 := ⟨Tryz.f7, Tryz.func7, by kernel_rfl, by kernel_rfl, by kernel_rfl, by kernel_rfl⟩
/-! concord/shell.kinds -/
def e8r0 : EE := .out []
def e8r1 : EE := .q 0 (.bld [zs, z, z, z] [(0, 1), (1, 1), (2, 1), (3, 1)]) [.c (.str [103, 101, 116]), .c (.int .i64 1), .c (.int .i64 1), .c (.int .i64 2)] none <|
 .q 1 (.bld [zs, z, z, z] [(0, 1), (1, 1), (2, 1), (3, 1)]) [.c (.str [112, 117, 116]), .c (.int .i64 1), .c (.int .i64 2), .c (.int .i64 2)] none <|
 .q 2 (.bld [zs, z, z, z] [(0, 1), (1, 1), (2, 1), (3, 1)]) [.c (.str [100, 101, 108]), .c (.int .i64 1), .c (.int .i64 3), .c (.int .i64 2)] none <|
 .q 3 (.bld [zs, z, z, z] [(0, 1), (1, 1), (2, 1), (3, 1)]) [.c (.str [115, 119, 97, 112]), .c (.int .i64 1), .c (.int .i64 4), .c (.int .i64 2)] none <|
 .q 4 (.bld [zs, z, z, z] [(0, 1), (1, 1), (2, 1), (3, 1)]) [.c (.str [114, 97, 110, 103, 101]), .c (.int .i64 1), .c (.int .i64 5), .c (.int .i64 2)] none <|
 .q 5 (.bld [zs, z, z, z] [(0, 1), (1, 1), (2, 1), (3, 1)]) [.c (.str [103, 105, 118, 101]), .c (.int .i64 2), .c z, .c (.int .i64 1)] none <|
 .q 6 (.bld [zs, z, z, z] [(0, 1), (1, 1), (2, 1), (3, 1)]) [.c (.str [99, 111, 112, 121]), .c (.int .i64 3), .c z, .c (.int .i64 1)] none <|
 .q 7 (.bld [zs, z, z, z] [(0, 1), (1, 1), (2, 1), (3, 1)]) [.c (.str [108, 111, 115, 101]), .c (.int .i64 4), .c z, .c (.int .i64 1)] none <|
 .q 8 (.bld [zs, z, z, z] [(0, 1), (1, 1), (2, 1), (3, 1)]) [.c (.str [116, 105, 99, 107]), .c (.int .i64 5), .c z, .c (.int .i64 1)] none <|
 .q 9 (.bld [zs, z, z, z] [(0, 1), (1, 1), (2, 1), (3, 1)]) [.c (.str [116, 105, 109, 101]), .c (.int .i64 6), .c z, .c (.int .i64 1)] none <|
 .q 10 (.bld [zs, z, z, z] [(0, 1), (1, 1), (2, 1), (3, 1)]) [.c (.str [115, 116, 97, 114, 116]), .c (.int .i64 9), .c z, .c (.int .i64 1)] none <|
 .q 11 (.bld [zs, z, z, z] [(0, 1), (1, 1), (2, 1), (3, 1)]) [.c (.str [97, 114, 109]), .c (.int .i64 7), .c z, .c (.int .i64 2)] none <|
 .q 12 (.bld [zs, z, z, z] [(0, 1), (1, 1), (2, 1), (3, 1)]) [.c (.str [99, 114, 97, 115, 104]), .c (.int .i64 8), .c z, .c (.int .i64 1)] none <|
 .x 13 (.bsl 37 13 [zs, z, z, z, zs, z, z, z, zs, z, z, z, zs, z, z, z, zs, z, z, z, zs, z, z, z, zs, z, z, z, zs, z, z, z, zs, z, z, z, zs, z, z, z, zs, z, z, z, zs, z, z, z, zs, z, z, z] [(0, 4), (4, 4), (8, 4), (12, 4), (16, 4), (20, 4), (24, 4), (28, 4), (32, 4), (36, 4), (40, 4), (44, 4), (48, 4)]) [.r 0, .r 1, .r 2, .r 3, .r 4, .r 5, .r 6, .r 7, .r 8, .r 9, .r 10, .r 11, .r 12] none [] <|
 .out [(0, .r 13)]
def e8 : EFn := ⟨(.seq (.reg e8r0 [] 0) (.seq (.reg e8r1 [] 0) .ret)), [.slot 0], 15, 0⟩
theorem g8 : Good Tryz.prog 8 e8 := ⟨Tryz.f8, Tryz.func8, by kernel_rfl, by kernel_rfl, by kernel_rfl, by kernel_rfl⟩
/-! concord/shell.Line$1 -/
def e9r0 : EE := .x 0 (.box 37) [.s 0] none [] <|
 .out [(1, .s 1), (2, .r 0)]
def e9r1 : EE := .q 0 (.fld 1) [.s 2] none <|
 .q 1 .ld [.r 0] none <|
 .q 2 (.fld 0) [.s 1] none <|
 .q 3 .ld [.r 2] none <|
 .q 4 .eql [.r 1, .r 3] none <|
 .q 6 (.fld 1) [.s 2] (some (.r 4, true)) <|
 .q 7 .ld [.r 6] (some (.r 4, true)) <|
 .q 8 .neq [.r 7, .c (.int .i64 1)] (some (.r 4, true)) <|
 .q 9 .mv [.r 8] (some (.r 4, true)) <|
 .q 10 (.fld 2) [.s 2] (some (.r 9, false)) <|
 .q 11 .ld [.r 10] (some (.r 9, false)) <|
 .q 12 (.fld 4) [.s 1] (some (.r 9, false)) <|
 .q 13 (.fld 0) [.r 12] (some (.r 9, false)) <|
 .q 14 .ld [.r 13] (some (.r 9, false)) <|
 .q 15 .eql [.r 11, .r 14] (some (.r 9, false)) <|
 .q 16 .pick [.r 9, .c (.bool true), .r 15] (some (.r 4, true)) <|
 .q 17 .pick [.r 4, .r 16, .c (.bool false)] none <|
 .out [(3, .r 17)]
def e9 : EFn := ⟨(.seq (.reg e9r0 [0, 1] 0) (.seq (.reg e9r1 [1, 2] 0) .ret)), [.slot 3], 22, 0⟩
theorem g9 : Good Tryz.prog 9 e9 := ⟨Tryz.f9, Tryz.func9, by kernel_rfl, by kernel_rfl, by kernel_rfl, by kernel_rfl⟩
/-! concord/shell.numbers -/
def e10r0 : EE := .out [(0, .s 0)]
def e10r1 : EE := .q 1 .nl [.s 0] none <|
 .q 2 (.fld 0) [.r 1] none <|
 .q 3 .ld [.r 2] none <|
 .out [(0, .s 0), (6, .r 3)]
def e10r2 : EE := .q 0 .eql [.s 6, .c (.int .i64 1)] none <|
 .out [(0, .s 0), (6, .s 6), (7, .r 0)]
def e10r3 : EE := .q 1 .nl [.s 0] none <|
 .q 2 (.fld 3) [.r 1] none <|
 .q 4 .nl [.s 0] none <|
 .q 5 (.fld 1) [.r 4] none <|
 .x 6 (.bsl 44 2 [.nptr, .nptr] [(0, 1), (1, 1)]) [.r 2, .r 5] none [] <|
 .out [(2, .r 6)]
def e10r4 : EE := .q 0 .eql [.s 6, .c (.int .i64 7)] none <|
 .out [(0, .s 0), (16, .r 0)]
def e10r5 : EE := .q 1 .nl [.s 0] none <|
 .q 2 (.fld 1) [.r 1] none <|
 .q 4 .nl [.s 0] none <|
 .q 5 (.fld 2) [.r 4] none <|
 .x 6 (.bsl 44 2 [.nptr, .nptr] [(0, 1), (1, 1)]) [.r 2, .r 5] none [] <|
 .out [(2, .r 6)]
def e10r6 : EE := .q 1 .nl [.s 0] none <|
 .q 2 (.fld 1) [.r 1] none <|
 .x 3 (.bsl 44 1 [.nptr] [(0, 1)]) [.r 2] none [] <|
 .out [(2, .r 3)]
def e10 : EFn := ⟨(.seq (.reg e10r0 [0] 0) (.seq (.seq (.reg e10r1 [0] 0) (.block 0 (.seq (.reg e10r2 [0, 6] 0) (.cond (.s 7) (.seq (.reg e10r3 [0] 0) .ret) (.seq (.reg e10r4 [0, 6] 0) (.cond (.s 16) (.seq (.reg e10r5 [0] 0) .ret) .skip)))))) (.seq (.reg e10r6 [0] 0) .ret))), [.slot 2], 29, 0⟩
theorem g10 : Good Tryz.prog 10 e10 := ⟨Tryz.f10, Tryz.func10, by kernel_rfl, by kernel_rfl, by kernel_rfl, by kernel_rfl⟩
/-! strconv.Itoa -/
def e11r0 : EE := .out [(0, .s 0)]
def e11r1 : EE := .x 1 (.call 26) [.s 0] none [] <|
 .out [(2, .r 1)]
def e11 : EFn := ⟨(.seq (.reg e11r0 [0] 0) (.seq (.reg e11r1 [0] 0) .ret)), [.slot 2], 5, 0⟩
theorem g11 : Good Tryz.prog 11 e11 := ⟨Tryz.f11, Tryz.func11, by kernel_rfl, by kernel_rfl, by kernel_rfl, by kernel_rfl⟩
/-! concord/shell.texts -/
def e12r0 : EE := .out [(0, .s 0)]
def e12r1 : EE := .q 1 .nl [.s 0] none <|
 .q 2 (.fld 0) [.r 1] none <|
 .q 3 .ld [.r 2] none <|
 .out [(0, .s 0), (6, .r 3)]
def e12r2 : EE := .q 0 .eql [.s 6, .c (.int .i64 2)] none <|
 .out [(0, .s 0), (6, .s 6), (7, .r 0)]
def e12r3 : EE := .q 1 .nl [.s 0] none <|
 .q 2 (.fld 3) [.r 1] none <|
 .q 4 .nl [.s 0] none <|
 .q 5 (.fld 6) [.r 4] none <|
 .x 6 (.bsl 49 2 [.nptr, .nptr] [(0, 1), (1, 1)]) [.r 2, .r 5] none [] <|
 .out [(2, .r 6)]
def e12r4 : EE := .q 0 .eql [.s 6, .c (.int .i64 4)] none <|
 .out [(0, .s 0), (6, .s 6), (16, .r 0)]
def e12r5 : EE := .q 1 .nl [.s 0] none <|
 .q 2 (.fld 3) [.r 1] none <|
 .q 4 .nl [.s 0] none <|
 .q 5 (.fld 5) [.r 4] none <|
 .q 7 .nl [.s 0] none <|
 .q 8 (.fld 6) [.r 7] none <|
 .x 9 (.bsl 49 3 [.nptr, .nptr, .nptr] [(0, 1), (1, 1), (2, 1)]) [.r 2, .r 5, .r 8] none [] <|
 .out [(2, .r 9)]
def e12r6 : EE := .q 0 .eql [.s 6, .c (.int .i64 5)] none <|
 .out [(0, .s 0), (28, .r 0)]
def e12r7 : EE := .q 1 .nl [.s 0] none <|
 .q 2 (.fld 3) [.r 1] none <|
 .q 4 .nl [.s 0] none <|
 .q 5 (.fld 4) [.r 4] none <|
 .x 6 (.bsl 49 2 [.nptr, .nptr] [(0, 1), (1, 1)]) [.r 2, .r 5] none [] <|
 .out [(2, .r 6)]
def e12r8 : EE := .q 1 .nl [.s 0] none <|
 .q 2 (.fld 3) [.r 1] none <|
 .x 3 (.bsl 49 1 [.nptr] [(0, 1)]) [.r 2] none [] <|
 .out [(2, .r 3)]
def e12 : EFn := ⟨(.seq (.reg e12r0 [0] 0) (.seq (.seq (.reg e12r1 [0] 0) (.block 0 (.seq (.reg e12r2 [0, 6] 0) (.cond (.s 7) (.seq (.reg e12r3 [0] 0) .ret) (.seq (.reg e12r4 [0, 6] 0) (.cond (.s 16) (.seq (.reg e12r5 [0] 0) .ret) (.seq (.reg e12r6 [0, 6] 0) (.cond (.s 28) (.seq (.reg e12r7 [0] 0) .ret) .skip)))))))) (.seq (.reg e12r8 [0] 0) .ret))), [.slot 2], 41, 0⟩
theorem g12 : Good Tryz.prog 12 e12 := ⟨Tryz.f12, Tryz.func12, by kernel_rfl, by kernel_rfl, by kernel_rfl, by kernel_rfl⟩
/-! concord/shell.word -/
def e13r0 : EE := .out [(0, .s 0)]
def e13r1 : EE := .x 0 (.bsl 5 1 [(.int .u8 0)] [(0, 1)]) [.c (.int .u8 61)] none [] <|
 .out [(0, .s 0), (3, .r 0)]
def e13r2 : EE := .q 1 .lenz [.s 0] none <|
 .out [(0, .s 0), (3, .s 3), (8, .r 1), (9, .c z)]
def e13r3 : EE := .q 0 .lss [.s 9, .s 8] none <|
 .out [(0, .s 0), (3, .s 3), (8, .s 8), (9, .s 9), (10, .r 0)]
def e13r4 : EE := .out [(0, .s 0), (3, .s 3), (4, .s 9), (8, .s 8), (9, .s 9)]
def e13r5 : EE := .q 2 .idxs [.s 0, .s 4] none <|
 .out [(0, .s 0), (3, .s 3), (5, .r 2), (8, .s 8), (9, .s 9)]
def e13r6 : EE := .x 1 (.call 27) [.s 5] none [] <|
 .out [(0, .s 0), (3, .s 3), (5, .s 5), (8, .s 8), (9, .s 9), (16, .r 1)]
def e13r7 : EE := .x 2 (.bsl 5 1 [(.int .u8 0)] [(0, 1)]) [.s 5] none [] <|
 .x 3 (.app 5 1 1 [(.int .u8 0)]) [.s 3, .r 2] none [] <|
 .out [(0, .s 0), (3, .r 3), (8, .s 8), (9, .s 9)]
def e13r8 : EE := .q 2 .shr [.s 5, .c (.int .u64 4)] none <|
 .q 3 .idxs [.c (.str [48, 49, 50, 51, 52, 53, 54, 55, 56, 57, 97, 98, 99, 100, 101, 102]), .r 2] none <|
 .q 5 .and [.s 5, .c (.int .u8 15)] none <|
 .q 6 .idxs [.c (.str [48, 49, 50, 51, 52, 53, 54, 55, 56, 57, 97, 98, 99, 100, 101, 102]), .r 5] none <|
 .x 7 (.bsl 5 3 [(.int .u8 0), (.int .u8 0), (.int .u8 0)] [(0, 1), (1, 1), (2, 1)]) [.c (.int .u8 37), .r 3, .r 6] none [] <|
 .x 8 (.app 5 1 1 [(.int .u8 0)]) [.s 3, .r 7] none [] <|
 .out [(0, .s 0), (3, .r 8), (8, .s 8), (9, .s 9)]
def e13r9 : EE := .q 0 .add [.s 9, .c (.int .i64 1)] none <|
 .out [(0, .s 0), (3, .s 3), (8, .s 8), (9, .r 0)]
def e13l10 : EC := (.seq (.reg e13r3 [0, 3, 8, 9] 0) (.seq (.cond (.s 10) .skip (.exit 0)) (.seq (.block 1 (.seq (.reg e13r4 [0, 3, 8, 9] 0) (.seq (.reg e13r5 [0, 3, 4, 8, 9] 0) (.seq (.reg e13r6 [0, 3, 5, 8, 9] 0) (.cond (.s 16) (.reg e13r7 [0, 3, 5, 8, 9] 0) (.reg e13r8 [0, 3, 5, 8, 9] 0)))))) (.reg e13r9 [0, 3, 8, 9] 0))))
def e13r11 : EE := .q 1 .b2s [.s 3] none <|
 .out [(2, .r 1)]
def e13 : EFn := ⟨(.seq (.reg e13r0 [0] 0) (.seq (.reg e13r1 [0] 0) (.seq (.seq (.reg e13r2 [0, 3] 0) (.block 0 (.loop [0, 3, 8, 9] e13l10))) (.seq (.reg e13r11 [3] 0) .ret)))), [.slot 2], 33, 0⟩
theorem g13 : Good Tryz.prog 13 e13 := ⟨Tryz.f13, Tryz.func13, by kernel_rfl, by kernel_rfl, by kernel_rfl, by kernel_rfl⟩
/-! strings.Join -/
def e14r0 : EE := .out [(0, .s 0), (1, .s 1)]
def e14r1 : EE := .q 1 .len [.s 0] none <|
 .out [(0, .s 0), (1, .s 1), (12, .r 1)]
def e14r2 : EE := .q 0 .eql [.s 12, .c z] none <|
 .out [(0, .s 0), (1, .s 1), (12, .s 12), (13, .r 0)]
def e14r3 : EE := .out [(4, .c zs)]
def e14r4 : EE := .q 0 .eql [.s 12, .c (.int .i64 1)] none <|
 .out [(0, .s 0), (1, .s 1), (15, .r 0)]
def e14r5 : EE := .q 1 (.ixs 1) [.s 0, .c z] none <|
 .q 2 .ld [.r 1] none <|
 .out [(4, .r 2)]
def e14r6 : EE := .out [(0, .s 0), (1, .s 1), (5, .c z)]
def e14r7 : EE := .q 1 .lenz [.s 1] none <|
 .q 2 .gtr [.r 1, .c z] none <|
 .out [(0, .s 0), (1, .s 1), (5, .s 5), (22, .r 2)]
def e14r8 : EE := .q 1 .lenz [.s 1] none <|
 .q 3 .len [.s 0] none <|
 .q 4 .sub [.r 3, .c (.int .i64 1)] none <|
 .q 5 .quo [.c (.int .i64 9223372036854775807), .r 4] none <|
 .q 6 .geq [.r 1, .r 5] none <|
 .out [(0, .s 0), (1, .s 1), (5, .s 5), (29, .r 6)]
def e14r9 : EE := .q 0 (.mki 9) [.c (.str [115, 116, 114, 105, 110, 103, 115, 58, 32, 74, 111, 105, 110, 32, 111, 117, 116, 112, 117, 116, 32, 108, 101, 110, 103, 116, 104, 32, 111, 118, 101, 114, 102, 108, 111, 119])] none <|
 .x 1 .bad [] none [] <|
 .out [(0, .s 0), (1, .s 1), (5, .s 5)]
def e14r10 : EE := .q 2 .lenz [.s 1] none <|
 .q 4 .len [.s 0] none <|
 .q 5 .sub [.r 4, .c (.int .i64 1)] none <|
 .q 6 .mul [.r 2, .r 5] none <|
 .q 7 .add [.s 5, .r 6] none <|
 .out [(0, .s 0), (1, .s 1), (5, .r 7)]
def e14r11 : EE := .q 1 .len [.s 0] none <|
 .out [(0, .s 0), (1, .s 1), (5, .s 5), (39, .s 0), (40, .r 1), (41, .c z)]
def e14r12 : EE := .q 0 .lss [.s 41, .s 40] none <|
 .out [(0, .s 0), (1, .s 1), (5, .s 5), (39, .s 39), (40, .s 40), (41, .s 41), (42, .r 0)]
def e14r13 : EE := .q 0 (.ixs 1) [.s 39, .s 41] none <|
 .q 1 .ld [.r 0] none <|
 .out [(0, .s 0), (1, .s 1), (5, .s 5), (7, .r 1), (39, .s 39), (40, .s 40), (41, .s 41)]
def e14r14 : EE := .q 1 .lenz [.s 7] none <|
 .q 3 .sub [.c (.int .i64 9223372036854775807), .s 5] none <|
 .q 4 .gtr [.r 1, .r 3] none <|
 .out [(0, .s 0), (1, .s 1), (5, .s 5), (7, .s 7), (39, .s 39), (40, .s 40), (41, .s 41), (49, .r 4)]
def e14r15 : EE := .q 0 (.mki 9) [.c (.str [115, 116, 114, 105, 110, 103, 115, 58, 32, 74, 111, 105, 110, 32, 111, 117, 116, 112, 117, 116, 32, 108, 101, 110, 103, 116, 104, 32, 111, 118, 101, 114, 102, 108, 111, 119])] none <|
 .x 1 .bad [] none [] <|
 .out [(0, .s 0), (1, .s 1), (5, .s 5), (7, .s 7), (39, .s 39), (40, .s 40), (41, .s 41)]
def e14r16 : EE := .q 2 .lenz [.s 7] none <|
 .q 3 .add [.s 5, .r 2] none <|
 .out [(0, .s 0), (1, .s 1), (5, .r 3), (39, .s 39), (40, .s 40), (41, .s 41)]
def e14r17 : EE := .q 0 .add [.s 41, .c (.int .i64 1)] none <|
 .out [(0, .s 0), (1, .s 1), (5, .s 5), (39, .s 39), (40, .s 40), (41, .r 0)]
def e14l18 : EC := (.seq (.reg e14r12 [0, 1, 5, 39, 40, 41] 0) (.seq (.cond (.s 42) .skip (.exit 1)) (.seq (.block 2 (.seq (.reg e14r13 [0, 1, 5, 39, 40, 41] 0) (.seq (.seq (.reg e14r14 [0, 1, 5, 7, 39, 40, 41] 0) (.cond (.s 49) (.reg e14r15 [0, 1, 5, 7, 39, 40, 41] 0) .skip)) (.reg e14r16 [0, 1, 5, 7, 39, 40, 41] 0)))) (.reg e14r17 [0, 1, 5, 39, 40, 41] 0))))
def e14r19 : EE := .x 0 (.talc [.nptr, .nsl] 63) [] none [] <|
 .out [(0, .s 0), (1, .s 1), (5, .s 5), (8, .r 0)]
def e14r20 : EE := .x 1 (.call 28) [.s 8, .s 5] none [] <|
 .out [(0, .s 0), (1, .s 1), (8, .s 8)]
def e14r21 : EE := .q 1 (.ixs 1) [.s 0, .c z] none <|
 .q 2 .ld [.r 1] none <|
 .x 3 (.call 20) [.s 8, .r 2] none [] <|
 .out [(0, .s 0), (1, .s 1), (8, .s 8)]
def e14r22 : EE := .q 1 (.slc 1 true false) [.s 0, .c (.int .i64 1)] none <|
 .q 2 .len [.r 1] none <|
 .out [(1, .s 1), (8, .s 8), (63, .r 1), (64, .r 2), (65, .c z)]
def e14r23 : EE := .q 0 .lss [.s 65, .s 64] none <|
 .out [(1, .s 1), (8, .s 8), (63, .s 63), (64, .s 64), (65, .s 65), (66, .r 0)]
def e14r24 : EE := .q 0 (.ixs 1) [.s 63, .s 65] none <|
 .q 1 .ld [.r 0] none <|
 .out [(1, .s 1), (8, .s 8), (10, .r 1), (63, .s 63), (64, .s 64), (65, .s 65)]
def e14r25 : EE := .x 1 (.call 20) [.s 8, .s 1] none [] <|
 .out [(1, .s 1), (8, .s 8), (10, .s 10), (63, .s 63), (64, .s 64), (65, .s 65)]
def e14r26 : EE := .x 1 (.call 20) [.s 8, .s 10] none [] <|
 .out [(1, .s 1), (8, .s 8), (63, .s 63), (64, .s 64), (65, .s 65)]
def e14r27 : EE := .q 0 .add [.s 65, .c (.int .i64 1)] none <|
 .out [(1, .s 1), (8, .s 8), (63, .s 63), (64, .s 64), (65, .r 0)]
def e14l28 : EC := (.seq (.reg e14r23 [1, 8, 63, 64, 65] 0) (.seq (.cond (.s 66) .skip (.exit 3)) (.seq (.block 4 (.seq (.reg e14r24 [1, 8, 63, 64, 65] 0) (.seq (.reg e14r25 [1, 8, 10, 63, 64, 65] 0) (.reg e14r26 [1, 8, 10, 63, 64, 65] 0)))) (.reg e14r27 [1, 8, 63, 64, 65] 0))))
def e14r29 : EE := .x 0 (.call 25) [.s 8] none [] <|
 .out [(4, .r 0)]
def e14 : EFn := ⟨(.seq (.reg e14r0 [0, 1] 0) (.seq (.seq (.reg e14r1 [0, 1] 0) (.block 0 (.seq (.reg e14r2 [0, 1, 12] 0) (.cond (.s 13) (.seq (.reg e14r3 [] 0) .ret) (.seq (.reg e14r4 [0, 1, 12] 0) (.cond (.s 15) (.seq (.reg e14r5 [0] 0) .ret) .skip)))))) (.seq (.reg e14r6 [0, 1] 0) (.seq (.seq (.reg e14r7 [0, 1, 5] 0) (.cond (.s 22) (.seq (.seq (.reg e14r8 [0, 1, 5] 0) (.cond (.s 29) (.reg e14r9 [0, 1, 5] 0) .skip)) (.reg e14r10 [0, 1, 5] 0)) .skip)) (.seq (.seq (.reg e14r11 [0, 1, 5] 0) (.block 1 (.loop [0, 1, 5, 39, 40, 41] e14l18))) (.seq (.reg e14r19 [0, 1, 5] 0) (.seq (.reg e14r20 [0, 1, 5, 8] 0) (.seq (.reg e14r21 [0, 1, 8] 0) (.seq (.seq (.reg e14r22 [0, 1, 8] 0) (.block 3 (.loop [1, 8, 63, 64, 65] e14l28))) (.seq (.reg e14r29 [8] 0) .ret)))))))))), [.slot 4], 75, 0⟩
theorem g14 : Good Tryz.prog 14 e14 := ⟨Tryz.f14, Tryz.func14, by kernel_rfl, by kernel_rfl, by kernel_rfl, by kernel_rfl⟩
/-! concord/shell.read -/
def e15r0 : EE := .x 0 (.alc [z, z, z, z, z, z, z, zs, zs, zs, zs, .nsl] 27) [] none [] <|
 .out [(0, .s 0), (2, .r 0)]
def e15r1 : EE := .x 0 (.alc [z, z, z, z, z, z, z, zs, zs, zs, zs, .nsl] 27) [] none [] <|
 .out [(0, .s 0), (2, .s 2), (3, .r 0)]
def e15r2 : EE := .x 0 (.call 8) [] none [] <|
 .q 1 .len [.r 0] none <|
 .out [(0, .s 0), (2, .s 2), (3, .s 3), (12, .r 0), (13, .r 1), (14, .c z)]
def e15r3 : EE := .q 0 .lss [.s 14, .s 13] none <|
 .out [(0, .s 0), (2, .s 2), (3, .s 3), (12, .s 12), (13, .s 13), (14, .s 14), (15, .r 0)]
def e15r4 : EE := .q 0 (.ixs 4) [.s 12, .s 14] none <|
 .q 1 (.lda 4) [.r 0] none <|
 .x 2 (.alc [zs, z, z, z] 37) [] none [] <|
 .x 3 (.st 4) [.r 2, .r 1] none [] <|
 .out [(0, .s 0), (2, .s 2), (3, .s 3), (5, .r 2), (12, .s 12), (13, .s 13), (14, .s 14)]
def e15r5 : EE := .q 0 (.fld 0) [.s 5] none <|
 .q 1 .ld [.r 0] none <|
 .q 3 (.ixs 1) [.s 0, .c z] none <|
 .q 4 .ld [.r 3] none <|
 .q 5 .seql [.r 1, .r 4] none <|
 .out [(0, .s 0), (2, .s 2), (3, .s 3), (5, .s 5), (12, .s 12), (13, .s 13), (14, .s 14), (23, .r 5)]
def e15r6 : EE := .q 0 (.fld 1) [.s 5] none <|
 .q 1 .ld [.r 0] none <|
 .q 2 (.fld 2) [.s 5] none <|
 .q 3 .ld [.r 2] none <|
 .q 4 (.fld 0) [.s 3] none <|
 .x 5 (.st 1) [.r 4, .r 1] none [⟨3, .ld, [.r 2], none⟩] <|
 .q 6 (.fld 4) [.s 3] none <|
 .q 7 (.fld 0) [.r 6] none <|
 .x 8 (.st 1) [.r 7, .r 3] none [] <|
 .out [(0, .s 0), (2, .s 2), (3, .s 3), (12, .s 12), (13, .s 13), (14, .s 14)]
def e15r7 : EE := .q 0 .add [.s 14, .c (.int .i64 1)] none <|
 .out [(0, .s 0), (2, .s 2), (3, .s 3), (12, .s 12), (13, .s 13), (14, .r 0)]
def e15l8 : EC := (.seq (.reg e15r3 [0, 2, 3, 12, 13, 14] 0) (.seq (.cond (.s 15) .skip (.exit 0)) (.seq (.block 1 (.seq (.reg e15r4 [0, 2, 3, 12, 13, 14] 0) (.seq (.reg e15r5 [0, 2, 3, 5, 12, 13, 14] 0) (.cond (.s 23) (.reg e15r6 [0, 2, 3, 5, 12, 13, 14] 0) .skip)))) (.reg e15r7 [0, 2, 3, 12, 13, 14] 0))))
def e15r9 : EE := .q 1 (.slc 1 true false) [.s 0, .c (.int .i64 1)] none <|
 .out [(0, .r 1), (2, .s 2), (3, .s 3)]
def e15r10 : EE := .x 0 (.call 10) [.s 3] none [] <|
 .q 1 .len [.r 0] none <|
 .out [(0, .s 0), (2, .s 2), (3, .s 3), (34, .r 0), (35, .r 1), (36, .c z)]
def e15r11 : EE := .q 0 .lss [.s 36, .s 35] none <|
 .out [(0, .s 0), (2, .s 2), (3, .s 3), (34, .s 34), (35, .s 35), (36, .s 36), (37, .r 0)]
def e15r12 : EE := .q 0 (.ixs 1) [.s 34, .s 36] none <|
 .q 1 .ld [.r 0] none <|
 .out [(0, .s 0), (2, .s 2), (3, .s 3), (7, .r 1), (34, .s 34), (35, .s 35), (36, .s 36)]
def e15r13 : EE := .q 1 .len [.s 0] none <|
 .q 2 .gtr [.r 1, .c z] none <|
 .out [(0, .s 0), (2, .s 2), (3, .s 3), (7, .s 7), (34, .s 34), (35, .s 35), (36, .s 36), (42, .r 2)]
def e15r14 : EE := .q 2 (.ixs 1) [.s 0, .c z] none <|
 .q 3 .ld [.r 2] none <|
 .q 6 (.slc 1 true false) [.s 0, .c (.int .i64 1)] none <|
 .x 4 (.call 29) [.r 3] none [] <|
 .q 7 .nl [.s 7] none <|
 .x 8 (.st 1) [.r 7, .r 4] none [] <|
 .out [(0, .r 6), (2, .s 2), (3, .s 3), (34, .s 34), (35, .s 35), (36, .s 36)]
def e15r15 : EE := .q 0 .add [.s 36, .c (.int .i64 1)] none <|
 .out [(0, .s 0), (2, .s 2), (3, .s 3), (34, .s 34), (35, .s 35), (36, .r 0)]
def e15l16 : EC := (.seq (.reg e15r11 [0, 2, 3, 34, 35, 36] 0) (.seq (.cond (.s 37) .skip (.exit 2)) (.seq (.block 3 (.seq (.reg e15r12 [0, 2, 3, 34, 35, 36] 0) (.seq (.reg e15r13 [0, 2, 3, 7, 34, 35, 36] 0) (.cond (.s 42) (.reg e15r14 [0, 2, 3, 7, 34, 35, 36] 0) .skip)))) (.reg e15r15 [0, 2, 3, 34, 35, 36] 0))))
def e15r17 : EE := .q 0 (.fld 0) [.s 3] none <|
 .q 1 .ld [.r 0] none <|
 .q 2 .eql [.r 1, .c (.int .i64 1)] none <|
 .out [(0, .s 0), (2, .s 2), (3, .s 3), (54, .r 2)]
def e15r18 : EE := .q 0 (.fld 4) [.s 3] none <|
 .x 1 (.call 12) [.r 0] none [] <|
 .q 2 .len [.r 1] none <|
 .out [(0, .s 0), (2, .s 2), (3, .s 3), (56, .r 1), (57, .r 2), (58, .c z)]
def e15r19 : EE := .q 0 .lss [.s 58, .s 57] none <|
 .out [(0, .s 0), (2, .s 2), (3, .s 3), (56, .s 56), (57, .s 57), (58, .s 58), (59, .r 0)]
def e15r20 : EE := .q 0 (.ixs 1) [.s 56, .s 58] none <|
 .q 1 .ld [.r 0] none <|
 .out [(0, .s 0), (2, .s 2), (3, .s 3), (9, .r 1), (56, .s 56), (57, .s 57), (58, .s 58)]
def e15r21 : EE := .q 1 .len [.s 0] none <|
 .q 2 .gtr [.r 1, .c z] none <|
 .out [(0, .s 0), (2, .s 2), (3, .s 3), (9, .s 9), (56, .s 56), (57, .s 57), (58, .s 58), (64, .r 2)]
def e15r22 : EE := .q 2 (.ixs 1) [.s 0, .c z] none <|
 .q 3 .ld [.r 2] none <|
 .q 6 (.slc 1 true false) [.s 0, .c (.int .i64 1)] none <|
 .x 4 (.call 30) [.r 3] none [] <|
 .q 7 .nl [.s 9] none <|
 .x 8 (.st 1) [.r 7, .r 4] none [] <|
 .out [(0, .r 6), (2, .s 2), (3, .s 3), (56, .s 56), (57, .s 57), (58, .s 58)]
def e15r23 : EE := .q 0 .add [.s 58, .c (.int .i64 1)] none <|
 .out [(0, .s 0), (2, .s 2), (3, .s 3), (56, .s 56), (57, .s 57), (58, .r 0)]
def e15l24 : EC := (.seq (.reg e15r19 [0, 2, 3, 56, 57, 58] 0) (.seq (.cond (.s 59) .skip (.exit 4)) (.seq (.block 5 (.seq (.reg e15r20 [0, 2, 3, 56, 57, 58] 0) (.seq (.reg e15r21 [0, 2, 3, 9, 56, 57, 58] 0) (.cond (.s 64) (.reg e15r22 [0, 2, 3, 9, 56, 57, 58] 0) .skip)))) (.reg e15r23 [0, 2, 3, 56, 57, 58] 0))))
def e15r25 : EE := .q 0 (.fld 0) [.s 3] none <|
 .q 1 .ld [.r 0] none <|
 .q 2 .eql [.r 1, .c (.int .i64 8)] none <|
 .out [(0, .s 0), (2, .s 2), (3, .s 3), (76, .r 2)]
def e15r26 : EE := .q 1 .len [.s 0] none <|
 .out [(2, .s 2), (3, .s 3), (77, .s 0), (78, .r 1), (79, .c z)]
def e15r27 : EE := .q 0 .lss [.s 79, .s 78] none <|
 .out [(2, .s 2), (3, .s 3), (77, .s 77), (78, .s 78), (79, .s 79), (80, .r 0)]
def e15r28 : EE := .q 0 (.ixs 1) [.s 77, .s 79] none <|
 .q 1 .ld [.r 0] none <|
 .out [(2, .s 2), (3, .s 3), (11, .r 1), (77, .s 77), (78, .s 78), (79, .s 79)]
def e15r29 : EE := .q 0 (.fld 11) [.s 3] none <|
 .q 1 .ld [.r 0] none <|
 .x 3 (.call 29) [.s 11] none [⟨1, .ld, [.r 0], none⟩] <|
 .x 4 (.bsl 3 1 [z] [(0, 1)]) [.r 3] none [⟨1, .ld, [.r 0], none⟩] <|
 .x 5 (.app 3 1 8 [z]) [.r 1, .r 4] none [] <|
 .q 6 (.fld 11) [.s 3] none <|
 .x 7 (.st 1) [.r 6, .r 5] none [] <|
 .out [(2, .s 2), (3, .s 3), (77, .s 77), (78, .s 78), (79, .s 79)]
def e15r30 : EE := .q 0 .add [.s 79, .c (.int .i64 1)] none <|
 .out [(2, .s 2), (3, .s 3), (77, .s 77), (78, .s 78), (79, .r 0)]
def e15l31 : EC := (.seq (.reg e15r27 [2, 3, 77, 78, 79] 0) (.seq (.cond (.s 80) .skip (.exit 6)) (.seq (.block 7 (.seq (.reg e15r28 [2, 3, 77, 78, 79] 0) (.reg e15r29 [2, 3, 11, 77, 78, 79] 0))) (.reg e15r30 [2, 3, 77, 78, 79] 0))))
def e15r32 : EE := .q 0 (.lda 12) [.s 3] none <|
 .x 1 (.st 12) [.s 2, .r 0] none [] <|
 .out [(2, .s 2)]
def e15 : EFn := ⟨(.seq (.reg e15r0 [0] 0) (.seq (.reg e15r1 [0, 2] 0) (.seq (.seq (.reg e15r2 [0, 2, 3] 0) (.block 0 (.loop [0, 2, 3, 12, 13, 14] e15l8))) (.seq (.reg e15r9 [0, 2, 3] 0) (.seq (.seq (.reg e15r10 [0, 2, 3] 0) (.block 2 (.loop [0, 2, 3, 34, 35, 36] e15l16))) (.seq (.seq (.reg e15r17 [0, 2, 3] 0) (.cond (.s 54) (.seq (.reg e15r18 [0, 2, 3] 0) (.block 4 (.loop [0, 2, 3, 56, 57, 58] e15l24))) .skip)) (.seq (.seq (.reg e15r25 [0, 2, 3] 0) (.cond (.s 76) (.seq (.reg e15r26 [0, 2, 3] 0) (.block 6 (.loop [2, 3, 77, 78, 79] e15l31))) .skip)) (.seq (.reg e15r32 [2, 3] 0) .ret)))))))), [.cells 2 12], 92, 0⟩
theorem g15 : Good Tryz.prog 15 e15 := ⟨Tryz.f15, Tryz.func15, by kernel_rfl, by kernel_rfl, by kernel_rfl, by kernel_rfl⟩
/-! strings.Split -/
def e16r0 : EE := .out [(0, .s 0), (1, .s 1)]
def e16r1 : EE := .x 2 (.call 31) [.s 0, .s 1, .c z, .c (.int .i64 (-1))] none [] <|
 .out [(4, .r 2)]
def e16 : EFn := ⟨(.seq (.reg e16r0 [0, 1] 0) (.seq (.reg e16r1 [0, 1] 0) .ret)), [.slot 4], 8, 0⟩
theorem g16 : Good Tryz.prog 16 e16 := ⟨Tryz.f16, Tryz.func16, by kernel_rfl, by kernel_rfl, by kernel_rfl, by kernel_rfl⟩
/-! concord/shell.parse -/
def e17r0 : EE := .out [(0, .s 0)]
def e17r1 : EE := .out [(0, .s 0), (5, .c .nsl)]
def e17r2 : EE := .q 1 .sneq [.s 0, .c zs] none <|
 .out [(0, .s 0), (5, .s 5), (12, .r 1)]
def e17r3 : EE := .x 1 (.call 32) [.s 0, .c (.str [10])] none [] <|
 .q 3 (.ext 0) [.r 1] none <|
 .q 4 (.ext 1) [.r 1] none <|
 .q 5 (.ext 2) [.r 1] none <|
 .out [(5, .s 5), (6, .r 3), (7, .r 4)]
def e17r4 : EE := .x 1 (.call 5) [.s 6] none [] <|
 .q 3 (.ext 0) [.r 1] none <|
 .q 4 (.ext 1) [.r 1] none <|
 .x 5 (.alc [z, z, z, z, z, z, z, zs, zs, zs, zs, .nsl] 27) [] none [] <|
 .x 6 (.st 12) [.r 5, .r 3] none [] <|
 .out [(5, .s 5), (7, .s 7), (9, .r 5), (10, .r 4)]
def e17r5 : EE := .q 1 .neq [.s 10, .c z] none <|
 .out [(5, .s 5), (7, .s 7), (9, .s 9), (10, .s 10), (25, .r 1)]
def e17r6 : EE := .q 1 .len [.s 5] none <|
 .out [(2, .c .nsl), (3, .r 1), (4, .s 10)]
def e17r7 : EE := .q 1 (.lda 12) [.s 9] none <|
 .x 2 (.bsl 27 1 [z, z, z, z, z, z, z, zs, zs, zs, zs, .nsl] [(0, 12)]) [.r 1] none [] <|
 .x 3 (.app 27 12 144 [z, z, z, z, z, z, z, zs, zs, zs, zs, .nsl]) [.s 5, .r 2] none [] <|
 .out [(0, .s 7), (5, .r 3)]
def e17l8 : EC := (.seq (.seq (.reg e17r2 [0, 5] 0) (.cond (.s 12) .skip (.exit 0))) (.block 1 (.seq (.reg e17r3 [0, 5] 0) (.seq (.reg e17r4 [5, 6, 7] 0) (.seq (.seq (.reg e17r5 [5, 7, 9, 10] 0) (.cond (.s 25) (.seq (.reg e17r6 [5, 10] 0) .ret) .skip)) (.reg e17r7 [5, 7, 9] 0))))))
def e17r9 : EE := .out [(2, .s 5), (3, .c z), (4, .c z)]
def e17 : EFn := ⟨(.seq (.reg e17r0 [0] 0) (.seq (.reg e17r1 [0] 0) (.seq (.block 0 (.loop [0, 5] e17l8)) (.seq (.reg e17r9 [5] 0) .ret)))), [.slot 2, .slot 3, .slot 4], 35, 0⟩
theorem g17 : Good Tryz.prog 17 e17 := ⟨Tryz.f17, Tryz.func17, by kernel_rfl, by kernel_rfl, by kernel_rfl, by kernel_rfl⟩
/-! concord/cluster.New -/
def e18r0 : EE := .out [(0, .s 0)]
def e18r1 : EE := .q 1 (.bld [z, .nsl, .nsl, .nsl, .nsl, .nsl, .nsl] [(0, 1)]) [.s 0] none <|
 .x 2 (.box 95) [.r 1] none [] <|
 .out [(0, .s 0), (4, .r 2)]
def e18r2 : EE := .q 1 .mx [.s 0, .c (.int .i64 1)] none <|
 .q 2 .mn [.r 1, .c (.int .i64 8)] none <|
 .out [(0, .s 0), (4, .s 4), (19, .r 2), (20, .c z)]
def e18r3 : EE := .q 0 .lss [.s 20, .s 19] none <|
 .out [(0, .s 0), (4, .s 4), (19, .s 19), (20, .s 20), (21, .r 0)]
def e18r4 : EE := .out [(0, .s 0), (4, .s 4), (5, .s 20), (19, .s 19), (20, .s 20)]
def e18r5 : EE := .x 0 (.call 33) [.c (.int .i64 524288)] none [] <|
 .q 2 (.ext 0) [.r 0] none <|
 .q 3 (.ext 1) [.r 0] none <|
 .out [(0, .s 0), (4, .s 4), (5, .s 5), (6, .r 2), (19, .s 19), (20, .s 20)]
def e18r6 : EE := .x 3 (.call 34) [.s 0, .s 5, .s 6] none [] <|
 .q 5 (.ext 0) [.r 3] none <|
 .q 6 (.ext 1) [.r 3] none <|
 .out [(0, .s 0), (4, .s 4), (6, .s 6), (8, .r 5), (9, .r 6), (19, .s 19), (20, .s 20)]
def e18r7 : EE := .q 1 .neq [.s 9, .c z] none <|
 .out [(0, .s 0), (4, .s 4), (6, .s 6), (8, .s 8), (9, .s 9), (19, .s 19), (20, .s 20), (35, .r 1)]
def e18r8 : EE := .out [(2, .c .nptr), (3, .s 9)]
def e18r9 : EE := .q 3 .nl [.s 4] none <|
 .q 4 (.fld 1) [.r 3] none <|
 .q 5 .ld [.r 4] none <|
 .q 10 .nl [.s 4] none <|
 .q 11 (.fld 2) [.r 10] none <|
 .q 12 .ld [.r 11] none <|
 .both false
 (.x 7 (.bsl 96 1 [.nptr] [(0, 1)]) [.s 6] none [⟨5, .ld, [.r 4], none⟩, ⟨12, .ld, [.r 11], none⟩] <|
 .both false
 (.x 8 (.app 96 1 8 [.nptr]) [.r 5, .r 7] none [⟨12, .ld, [.r 11], none⟩] <|
 .x 14 (.bsl 99 1 [.nptr] [(0, 1)]) [.s 8] none [⟨5, .ld, [.r 4], none⟩, ⟨12, .ld, [.r 11], none⟩] <|
 .x 15 (.app 99 1 8 [.nptr]) [.r 12, .r 14] none [] <|
 .q 16 .nl [.s 4] none <|
 .q 17 (.fld 1) [.r 16] none <|
 .x 18 (.st 1) [.r 17, .r 8] none [] <|
 .q 19 .nl [.s 4] none <|
 .q 20 (.fld 2) [.r 19] none <|
 .x 21 (.st 1) [.r 20, .r 15] none [] <|
 .out [(0, .s 0), (4, .s 4), (19, .s 19), (20, .s 20)])
 (.x 14 (.bsl 99 1 [.nptr] [(0, 1)]) [.s 8] none [⟨5, .ld, [.r 4], none⟩, ⟨12, .ld, [.r 11], none⟩] <|
 .x 8 (.app 96 1 8 [.nptr]) [.r 5, .r 7] none [⟨12, .ld, [.r 11], none⟩] <|
 .x 15 (.app 99 1 8 [.nptr]) [.r 12, .r 14] none [] <|
 .q 16 .nl [.s 4] none <|
 .q 17 (.fld 1) [.r 16] none <|
 .x 18 (.st 1) [.r 17, .r 8] none [] <|
 .q 19 .nl [.s 4] none <|
 .q 20 (.fld 2) [.r 19] none <|
 .x 21 (.st 1) [.r 20, .r 15] none [] <|
 .out [(0, .s 0), (4, .s 4), (19, .s 19), (20, .s 20)]))
 (.x 14 (.bsl 99 1 [.nptr] [(0, 1)]) [.s 8] none [⟨5, .ld, [.r 4], none⟩, ⟨12, .ld, [.r 11], none⟩] <|
 .x 7 (.bsl 96 1 [.nptr] [(0, 1)]) [.s 6] none [⟨5, .ld, [.r 4], none⟩, ⟨12, .ld, [.r 11], none⟩] <|
 .x 8 (.app 96 1 8 [.nptr]) [.r 5, .r 7] none [⟨12, .ld, [.r 11], none⟩] <|
 .x 15 (.app 99 1 8 [.nptr]) [.r 12, .r 14] none [] <|
 .q 16 .nl [.s 4] none <|
 .q 17 (.fld 1) [.r 16] none <|
 .x 18 (.st 1) [.r 17, .r 8] none [] <|
 .q 19 .nl [.s 4] none <|
 .q 20 (.fld 2) [.r 19] none <|
 .x 21 (.st 1) [.r 20, .r 15] none [] <|
 .out [(0, .s 0), (4, .s 4), (19, .s 19), (20, .s 20)])
def e18r10 : EE := .q 0 .add [.s 20, .c (.int .i64 1)] none <|
 .out [(0, .s 0), (4, .s 4), (19, .s 19), (20, .r 0)]
def e18l11 : EC := (.seq (.reg e18r3 [0, 4, 19, 20] 0) (.seq (.cond (.s 21) .skip (.exit 0)) (.seq (.block 1 (.seq (.reg e18r4 [0, 4, 19, 20] 0) (.seq (.reg e18r5 [0, 4, 5, 19, 20] 0) (.seq (.reg e18r6 [0, 4, 5, 6, 19, 20] 0) (.seq (.seq (.reg e18r7 [0, 4, 6, 8, 9, 19, 20] 0) (.cond (.s 35) (.seq (.reg e18r8 [9] 0) .ret) .skip)) (.reg e18r9 [0, 4, 6, 8, 19, 20] 22)))))) (.reg e18r10 [0, 4, 19, 20] 0))))
def e18r12 : EE := .out [(0, .s 0), (4, .s 4), (10, .c (.int .i64 1))]
def e18r13 : EE := .q 1 .leq [.s 10, .c (.int .i64 8)] none <|
 .out [(0, .s 0), (4, .s 4), (10, .s 10), (59, .r 1)]
def e18r14 : EE := .x 1 (.call 35) [.s 10] none [] <|
 .q 3 (.ext 0) [.r 1] none <|
 .q 4 (.ext 1) [.r 1] none <|
 .out [(0, .s 0), (4, .s 4), (10, .s 10), (11, .r 3)]
def e18r15 : EE := .q 2 .nl [.s 4] none <|
 .q 3 (.fld 3) [.r 2] none <|
 .q 4 .ld [.r 3] none <|
 .x 6 (.bsl 102 1 [.nptr] [(0, 1)]) [.s 11] none [] <|
 .x 7 (.app 102 1 8 [.nptr]) [.r 4, .r 6] none [] <|
 .q 8 .nl [.s 4] none <|
 .q 9 (.fld 3) [.r 8] none <|
 .x 10 (.st 1) [.r 9, .r 7] none [] <|
 .out [(0, .s 0), (4, .s 4), (10, .s 10)]
def e18r16 : EE := .q 1 .add [.s 10, .c (.int .i64 1)] none <|
 .out [(0, .s 0), (4, .s 4), (10, .r 1)]
def e18l17 : EC := (.seq (.seq (.reg e18r13 [0, 4, 10] 0) (.cond (.s 59) .skip (.exit 2))) (.seq (.block 3 (.seq (.reg e18r14 [0, 4, 10] 0) (.reg e18r15 [0, 4, 10, 11] 0))) (.reg e18r16 [0, 4, 10] 0)))
def e18r18 : EE := .x 1 (.mks 24 88 [z, z, z, zs, zs, zs, zs]) [.c (.int .i64 8), .c (.int .i64 8)] none [] <|
 .q 2 .nl [.s 4] none <|
 .q 3 (.fld 4) [.r 2] none <|
 .x 4 (.st 1) [.r 3, .r 1] none [] <|
 .out [(0, .s 0), (4, .s 4)]
def e18r19 : EE := .out [(4, .s 4), (81, .s 0), (82, .c z)]
def e18r20 : EE := .q 0 .lss [.s 82, .s 81] none <|
 .out [(4, .s 4), (81, .s 81), (82, .s 82), (83, .r 0)]
def e18r21 : EE := .out [(4, .s 4), (13, .s 82), (81, .s 81), (82, .s 82)]
def e18r22 : EE := .x 2 (.call 36) [.s 4, .s 13] none [] <|
 .out [(4, .s 4), (81, .s 81), (82, .s 82)]
def e18r23 : EE := .q 0 .add [.s 82, .c (.int .i64 1)] none <|
 .out [(4, .s 4), (81, .s 81), (82, .r 0)]
def e18l24 : EC := (.seq (.reg e18r20 [4, 81, 82] 0) (.seq (.cond (.s 83) .skip (.exit 4)) (.seq (.block 5 (.seq (.reg e18r21 [4, 81, 82] 0) (.reg e18r22 [4, 13, 81, 82] 0))) (.reg e18r23 [4, 81, 82] 0))))
def e18r25 : EE := .out [(2, .s 4), (3, .c z)]
def e18 : EFn := ⟨(.seq (.reg e18r0 [0] 0) (.seq (.reg e18r1 [0] 0) (.seq (.seq (.reg e18r2 [0, 4] 0) (.block 0 (.loop [0, 4, 19, 20] e18l11))) (.seq (.seq (.reg e18r12 [0, 4] 0) (.block 2 (.loop [0, 4, 10] e18l17))) (.seq (.reg e18r18 [0, 4] 0) (.seq (.seq (.reg e18r19 [0, 4] 0) (.block 4 (.loop [4, 81, 82] e18l24))) (.seq (.reg e18r25 [4] 0) .ret))))))), [.slot 2, .slot 3], 90, 0⟩
theorem g18 : Good Tryz.prog 18 e18 := ⟨Tryz.f18, Tryz.func18, by kernel_rfl, by kernel_rfl, by kernel_rfl, by kernel_rfl⟩
/-! (*concord/cluster.Cluster).Do -/
def e19r0 : EE := .x 0 (.box 27) [.s 1] none [] <|
 .out [(0, .s 0), (3, .r 0)]
def e19r1 : EE := .q 0 (.fld 0) [.s 3] none <|
 .q 1 .ld [.r 0] none <|
 .out [(0, .s 0), (3, .s 3), (7, .r 1)]
def e19r2 : EE := .q 0 .eql [.s 7, .c (.int .i64 1)] none <|
 .out [(0, .s 0), (3, .s 3), (7, .s 7), (8, .r 0)]
def e19r3 : EE := .q 1 (.lda 12) [.s 3] none <|
 .x 2 (.call 37) [.s 0, .r 1] none [] <|
 .out [(4, .r 2)]
def e19r4 : EE := .q 0 .eql [.s 7, .c (.int .i64 2)] none <|
 .out [(0, .s 0), (3, .s 3), (7, .s 7), (13, .r 0)]
def e19r5 : EE := .q 0 .eql [.s 7, .c (.int .i64 3)] none <|
 .out [(0, .s 0), (3, .s 3), (7, .s 7), (13, .r 0)]
def e19r6 : EE := .q 0 .eql [.s 7, .c (.int .i64 4)] none <|
 .out [(0, .s 0), (3, .s 3), (7, .s 7), (13, .r 0)]
def e19r7 : EE := .q 1 (.lda 12) [.s 3] none <|
 .x 2 (.call 38) [.s 0, .r 1] none [] <|
 .out [(4, .r 2)]
def e19r8 : EE := .q 0 .eql [.s 7, .c (.int .i64 6)] none <|
 .out [(0, .s 0), (3, .s 3), (7, .s 7), (20, .r 0)]
def e19r9 : EE := .q 1 (.fld 1) [.s 3] none <|
 .q 2 .ld [.r 1] none <|
 .x 3 (.call 39) [.s 0, .r 2] none [] <|
 .out [(4, .r 3)]
def e19r10 : EE := .q 0 .eql [.s 7, .c (.int .i64 9)] none <|
 .out [(0, .s 0), (3, .s 3), (26, .r 0)]
def e19r11 : EE := .q 1 (.fld 1) [.s 3] none <|
 .q 2 .ld [.r 1] none <|
 .x 3 (.call 40) [.s 0, .r 2] none [] <|
 .out [(4, .r 3)]
def e19r12 : EE := .q 1 (.fld 1) [.s 3] none <|
 .q 2 .ld [.r 1] none <|
 .x 3 (.call 41) [.s 0, .r 2] none [] <|
 .out [(0, .s 0), (3, .s 3), (5, .r 3)]
def e19r13 : EE := .q 1 (.eqp false) [.s 5, .c .nptr] none <|
 .out [(0, .s 0), (3, .s 3), (5, .s 5), (37, .r 1)]
def e19r14 : EE := .out [(4, .c (.bool false))]
def e19r15 : EE := .q 0 (.fld 0) [.s 3] none <|
 .q 1 .ld [.r 0] none <|
 .out [(0, .s 0), (3, .s 3), (5, .s 5), (39, .r 1)]
def e19r16 : EE := .q 0 .eql [.s 39, .c (.int .i64 5)] none <|
 .out [(0, .s 0), (3, .s 3), (5, .s 5), (39, .s 39), (40, .r 0)]
def e19r17 : EE := .x 1 (.call 42) [.s 5] none [] <|
 .out [(0, .s 0), (3, .s 3)]
def e19r18 : EE := .q 1 (.fld 1) [.s 3] none <|
 .q 2 .ld [.r 1] none <|
 .x 3 (.call 36) [.s 0, .r 2] none [] <|
 .out []
def e19r19 : EE := .q 0 .eql [.s 39, .c (.int .i64 7)] none <|
 .out [(0, .s 0), (3, .s 3), (39, .s 39), (48, .r 0)]
def e19r20 : EE := .q 1 .nl [.s 0] none <|
 .q 2 (.fld 1) [.r 1] none <|
 .q 3 .ld [.r 2] none <|
 .q 4 (.fld 1) [.s 3] none <|
 .q 5 .ld [.r 4] none <|
 .q 6 (.ixs 1) [.r 3, .r 5] none <|
 .q 7 .ld [.r 6] none <|
 .q 8 (.fld 2) [.s 3] none <|
 .q 9 .ld [.r 8] none <|
 .x 10 (.call 43) [.r 7, .r 9] none [] <|
 .out []
def e19r21 : EE := .q 0 .eql [.s 39, .c (.int .i64 8)] none <|
 .out [(0, .s 0), (3, .s 3), (61, .r 0)]
def e19r22 : EE := .q 1 .nl [.s 0] none <|
 .q 2 (.fld 2) [.r 1] none <|
 .q 3 .ld [.r 2] none <|
 .q 4 (.fld 1) [.s 3] none <|
 .q 5 .ld [.r 4] none <|
 .q 6 (.ixs 1) [.r 3, .r 5] none <|
 .x 7 (.st 1) [.r 6, .c .nptr] none [] <|
 .out [(0, .s 0), (3, .s 3)]
def e19r23 : EE := .q 1 .nl [.s 0] none <|
 .q 2 (.fld 1) [.r 1] none <|
 .q 3 .ld [.r 2] none <|
 .q 4 (.fld 1) [.s 3] none <|
 .q 5 .ld [.r 4] none <|
 .q 6 (.ixs 1) [.r 3, .r 5] none <|
 .q 7 .ld [.r 6] none <|
 .q 8 (.fld 11) [.s 3] none <|
 .q 9 .ld [.r 8] none <|
 .x 10 (.call 44) [.r 7, .r 9] none [] <|
 .out []
def e19r24 : EE := .out [(4, .c (.bool false))]
def e19r25 : EE := .out [(4, .c (.bool true))]
def e19 : EFn := ⟨(.seq (.reg e19r0 [0, 1] 0) (.seq (.seq (.reg e19r1 [0, 3] 0) (.block 0 (.seq (.reg e19r2 [0, 3, 7] 0) (.cond (.s 8) (.seq (.reg e19r3 [0, 3] 0) .ret) (.seq (.seq (.reg e19r4 [0, 3, 7] 0) (.cond (.s 13) .skip (.seq (.reg e19r5 [0, 3, 7] 0) (.cond (.s 13) .skip (.reg e19r6 [0, 3, 7] 0))))) (.cond (.s 13) (.seq (.reg e19r7 [0, 3] 0) .ret) (.seq (.reg e19r8 [0, 3, 7] 0) (.cond (.s 20) (.seq (.reg e19r9 [0, 3] 0) .ret) (.seq (.reg e19r10 [0, 3, 7] 0) (.cond (.s 26) (.seq (.reg e19r11 [0, 3] 0) .ret) .skip)))))))))) (.seq (.reg e19r12 [0, 3] 0) (.seq (.seq (.reg e19r13 [0, 3, 5] 0) (.cond (.s 37) (.seq (.reg e19r14 [] 0) .ret) .skip)) (.seq (.seq (.reg e19r15 [0, 3, 5] 0) (.block 1 (.seq (.reg e19r16 [0, 3, 5, 39] 0) (.cond (.s 40) (.seq (.reg e19r17 [0, 3, 5] 0) (.reg e19r18 [0, 3] 0)) (.seq (.reg e19r19 [0, 3, 39] 0) (.cond (.s 48) (.reg e19r20 [0, 3] 0) (.seq (.reg e19r21 [0, 3, 39] 0) (.cond (.s 61) (.seq (.reg e19r22 [0, 3] 0) (.reg e19r23 [0, 3] 0)) (.seq (.reg e19r24 [] 0) .ret))))))))) (.seq (.reg e19r25 [] 0) .ret)))))), [.slot 4], 81, 0⟩
theorem g19 : Good Tryz.prog 19 e19 := ⟨Tryz.f19, Tryz.func19, by kernel_rfl, by kernel_rfl, by kernel_rfl, by kernel_rfl⟩
/-! (*strings.Builder).WriteString -/
def e20r0 : EE := .out [(0, .s 0), (1, .s 1)]
def e20r1 : EE := .x 1 (.call 45) [.s 0] none [] <|
 .out [(0, .s 0), (1, .s 1)]
def e20r2 : EE := .q 2 .nl [.s 0] none <|
 .q 3 (.fld 1) [.r 2] none <|
 .q 4 .ld [.r 3] none <|
 .x 6 (.tapps 5) [.r 4, .s 1] none [] <|
 .q 7 .nl [.s 0] none <|
 .q 8 (.fld 1) [.r 7] none <|
 .x 9 (.st 1) [.r 8, .r 6] none [] <|
 .out [(1, .s 1)]
def e20r3 : EE := .q 1 .lenz [.s 1] none <|
 .out [(4, .r 1), (5, .c .nif)]
def e20 : EFn := ⟨(.seq (.reg e20r0 [0, 1] 0) (.seq (.reg e20r1 [0, 1] 0) (.seq (.reg e20r2 [0, 1] 0) (.seq (.reg e20r3 [1] 0) .ret)))), [.slot 4, .slot 5], 19, 0⟩
theorem g20 : Good Tryz.prog 20 e20 := ⟨Tryz.f20, Tryz.func20, by kernel_rfl, by kernel_rfl, by kernel_rfl, by kernel_rfl⟩
/-! (*concord/cluster.Cluster).History -/
def e21r0 : EE := .out [(0, .s 0)]
def e21r1 : EE := .q 1 .nl [.s 0] none <|
 .q 2 (.fld 6) [.r 1] none <|
 .q 3 .ld [.r 2] none <|
 .x 4 (.call 46) [.r 3] none [] <|
 .out [(3, .r 4)]
def e21r2 : EE := .q 1 .len [.s 3] none <|
 .out [(3, .s 3), (11, .r 1), (12, .c z)]
def e21r3 : EE := .q 0 .lss [.s 12, .s 11] none <|
 .out [(3, .s 3), (11, .s 11), (12, .s 12), (13, .r 0)]
def e21r4 : EE := .out [(3, .s 3), (4, .s 12), (11, .s 11), (12, .s 12)]
def e21r5 : EE := .q 4 (.ixs 14) [.s 3, .s 4] none <|
 .q 5 (.fld 9) [.r 4] none <|
 .q 6 (.fld 4) [.r 5] none <|
 .q 7 .ld [.r 6] none <|
 .x 8 (.call 47) [.r 7] none [] <|
 .q 9 (.ixs 14) [.s 3, .s 4] none <|
 .q 10 (.fld 9) [.r 9] none <|
 .q 11 (.fld 4) [.r 10] none <|
 .x 12 (.st 1) [.r 11, .r 8] none [] <|
 .out [(3, .s 3), (11, .s 11), (12, .s 12)]
def e21r6 : EE := .q 0 .add [.s 12, .c (.int .i64 1)] none <|
 .out [(3, .s 3), (11, .s 11), (12, .r 0)]
def e21l7 : EC := (.seq (.reg e21r3 [3, 11, 12] 0) (.seq (.cond (.s 13) .skip (.exit 0)) (.seq (.block 1 (.seq (.reg e21r4 [3, 11, 12] 0) (.reg e21r5 [3, 4, 11, 12] 0))) (.reg e21r6 [3, 11, 12] 0))))
def e21r8 : EE := .out [(2, .s 3)]
def e21 : EFn := ⟨(.seq (.reg e21r0 [0] 0) (.seq (.reg e21r1 [0] 0) (.seq (.seq (.reg e21r2 [3] 0) (.block 0 (.loop [3, 11, 12] e21l7))) (.seq (.reg e21r8 [3] 0) .ret)))), [.slot 2], 29, 0⟩
theorem g21 : Good Tryz.prog 21 e21 := ⟨Tryz.f21, Tryz.func21, by kernel_rfl, by kernel_rfl, by kernel_rfl, by kernel_rfl⟩
/-! concord/audit.Of -/
def e23r0 : EE := .x 0 (.alc [z, z, z, z, z] 78) [] none [] <|
 .out [(0, .s 0), (2, .r 0)]
def e23r1 : EE := .x 1 (.call 48) [.s 0] none [] <|
 .out [(0, .s 0), (2, .s 2), (3, .r 1)]
def e23r2 : EE := .x 2 (.call 50) [.s 0] none [] <|
 .x 3 (.call 49) [.s 3, .r 2] none [] <|
 .q 5 (.ext 0) [.r 3] none <|
 .q 6 (.ext 1) [.r 3] none <|
 .q 7 (.ext 2) [.r 3] none <|
 .out [(2, .s 2), (3, .s 3), (4, .r 5), (5, .r 6), (6, .r 7)]
def e23r3 : EE := .q 1 .len [.s 3] none <|
 .q 3 .len [.s 4] none <|
 .q 5 (.bld [z, z, z, z, z] [(0, 1), (1, 1), (2, 1)]) [.r 1, .r 3, .s 6] none <|
 .x 6 (.alc [z, z, z, z, z] 78) [] none [] <|
 .x 7 (.st 5) [.r 6, .r 5] none [] <|
 .out [(2, .s 2), (3, .s 3), (4, .s 4), (5, .s 5), (7, .r 6)]
def e23r4 : EE := .q 1 .len [.s 4] none <|
 .out [(2, .s 2), (3, .s 3), (4, .s 4), (5, .s 5), (7, .s 7), (34, .s 4), (35, .r 1), (36, .c z)]
def e23r5 : EE := .q 0 .lss [.s 36, .s 35] none <|
 .out [(2, .s 2), (3, .s 3), (4, .s 4), (5, .s 5), (7, .s 7), (34, .s 34), (35, .s 35), (36, .s 36), (37, .r 0)]
def e23r6 : EE := .q 1 (.ixs 2) [.s 34, .s 36] none <|
 .q 2 (.lda 2) [.r 1] none <|
 .x 3 (.alc [z, z] 119) [] none [] <|
 .x 5 (.st 2) [.r 3, .r 2] none [] <|
 .out [(2, .s 2), (3, .s 3), (4, .s 4), (5, .s 5), (7, .s 7), (8, .s 36), (9, .r 3), (34, .s 34), (35, .s 35), (36, .s 36)]
def e23r7 : EE := .q 2 (.slc 2 false true) [.s 4, .s 8] none <|
 .q 3 .len [.r 2] none <|
 .out [(2, .s 2), (3, .s 3), (4, .s 4), (5, .s 5), (7, .s 7), (9, .s 9), (34, .s 34), (35, .s 35), (36, .s 36), (43, .r 2), (44, .r 3), (45, .c z)]
def e23r8 : EE := .q 0 .lss [.s 45, .s 44] none <|
 .out [(2, .s 2), (3, .s 3), (4, .s 4), (5, .s 5), (7, .s 7), (9, .s 9), (34, .s 34), (35, .s 35), (36, .s 36), (43, .s 43), (44, .s 44), (45, .s 45), (46, .r 0)]
def e23r9 : EE := .q 0 (.ixs 2) [.s 43, .s 45] none <|
 .q 1 (.lda 2) [.r 0] none <|
 .x 2 (.alc [z, z] 119) [] none [] <|
 .x 3 (.st 2) [.r 2, .r 1] none [] <|
 .out [(2, .s 2), (3, .s 3), (4, .s 4), (5, .s 5), (7, .s 7), (9, .s 9), (11, .r 2), (34, .s 34), (35, .s 35), (36, .s 36), (43, .s 43), (44, .s 44), (45, .s 45)]
def e23r10 : EE := .q 1 (.lda 2) [.s 9] none <|
 .q 2 (.lkp true [(.i .i64), (.i .i64)] (.agg [z, z, z, z, z, z, z, z, zs, zs, zs, zs, z, z, z, z, z, z, z, z, (.bool false)]) false) [.s 5, .r 1] none <|
 .q 4 (.lda 2) [.s 11] none <|
 .q 5 (.lkp true [(.i .i64), (.i .i64)] (.agg [z, z, z, z, z, z, z, z, zs, zs, zs, zs, z, z, z, z, z, z, z, z, (.bool false)]) false) [.s 5, .r 4] none <|
 .both false
 (.x 6 (.alc [z, z, z, z, z, z, z, z, zs, zs, zs, zs, z, z, z, z, z, z, z, z, (.bool false)] 127) [] none [⟨1, (.lda 2), [.s 9], none⟩, ⟨2, (.lkp true [(.i .i64), (.i .i64)] (.agg [z, z, z, z, z, z, z, z, zs, zs, zs, zs, z, z, z, z, z, z, z, z, (.bool false)]) false), [.s 5, .r 1], none⟩, ⟨4, (.lda 2), [.s 11], none⟩, ⟨5, (.lkp true [(.i .i64), (.i .i64)] (.agg [z, z, z, z, z, z, z, z, zs, zs, zs, zs, z, z, z, z, z, z, z, z, (.bool false)]) false), [.s 5, .r 4], none⟩] <|
 .x 7 (.alc [z, z, z, z, z, z, z, z, zs, zs, zs, zs, z, z, z, z, z, z, z, z, (.bool false)] 127) [] none [⟨1, (.lda 2), [.s 9], none⟩, ⟨2, (.lkp true [(.i .i64), (.i .i64)] (.agg [z, z, z, z, z, z, z, z, zs, zs, zs, zs, z, z, z, z, z, z, z, z, (.bool false)]) false), [.s 5, .r 1], none⟩, ⟨4, (.lda 2), [.s 11], none⟩, ⟨5, (.lkp true [(.i .i64), (.i .i64)] (.agg [z, z, z, z, z, z, z, z, zs, zs, zs, zs, z, z, z, z, z, z, z, z, (.bool false)]) false), [.s 5, .r 4], none⟩] <|
 .x 8 (.st 21) [.r 6, .r 2] none [⟨4, (.lda 2), [.s 11], none⟩, ⟨5, (.lkp true [(.i .i64), (.i .i64)] (.agg [z, z, z, z, z, z, z, z, zs, zs, zs, zs, z, z, z, z, z, z, z, z, (.bool false)]) false), [.s 5, .r 4], none⟩] <|
 .x 9 (.st 21) [.r 7, .r 5] none [] <|
 .out [(2, .s 2), (3, .s 3), (4, .s 4), (5, .s 5), (7, .s 7), (9, .s 9), (11, .s 11), (12, .r 6), (13, .r 7), (34, .s 34), (35, .s 35), (36, .s 36), (43, .s 43), (44, .s 44), (45, .s 45)])
 (.x 7 (.alc [z, z, z, z, z, z, z, z, zs, zs, zs, zs, z, z, z, z, z, z, z, z, (.bool false)] 127) [] none [⟨1, (.lda 2), [.s 9], none⟩, ⟨2, (.lkp true [(.i .i64), (.i .i64)] (.agg [z, z, z, z, z, z, z, z, zs, zs, zs, zs, z, z, z, z, z, z, z, z, (.bool false)]) false), [.s 5, .r 1], none⟩, ⟨4, (.lda 2), [.s 11], none⟩, ⟨5, (.lkp true [(.i .i64), (.i .i64)] (.agg [z, z, z, z, z, z, z, z, zs, zs, zs, zs, z, z, z, z, z, z, z, z, (.bool false)]) false), [.s 5, .r 4], none⟩] <|
 .x 6 (.alc [z, z, z, z, z, z, z, z, zs, zs, zs, zs, z, z, z, z, z, z, z, z, (.bool false)] 127) [] none [⟨1, (.lda 2), [.s 9], none⟩, ⟨2, (.lkp true [(.i .i64), (.i .i64)] (.agg [z, z, z, z, z, z, z, z, zs, zs, zs, zs, z, z, z, z, z, z, z, z, (.bool false)]) false), [.s 5, .r 1], none⟩, ⟨4, (.lda 2), [.s 11], none⟩, ⟨5, (.lkp true [(.i .i64), (.i .i64)] (.agg [z, z, z, z, z, z, z, z, zs, zs, zs, zs, z, z, z, z, z, z, z, z, (.bool false)]) false), [.s 5, .r 4], none⟩] <|
 .x 8 (.st 21) [.r 6, .r 2] none [⟨4, (.lda 2), [.s 11], none⟩, ⟨5, (.lkp true [(.i .i64), (.i .i64)] (.agg [z, z, z, z, z, z, z, z, zs, zs, zs, zs, z, z, z, z, z, z, z, z, (.bool false)]) false), [.s 5, .r 4], none⟩] <|
 .x 9 (.st 21) [.r 7, .r 5] none [] <|
 .out [(2, .s 2), (3, .s 3), (4, .s 4), (5, .s 5), (7, .s 7), (9, .s 9), (11, .s 11), (12, .r 6), (13, .r 7), (34, .s 34), (35, .s 35), (36, .s 36), (43, .s 43), (44, .s 44), (45, .s 45)])
def e23r11 : EE := .q 0 (.fld 5) [.s 12] none <|
 .q 1 (.lda 7) [.r 0] none <|
 .q 2 (.fld 5) [.s 13] none <|
 .q 3 (.lda 7) [.r 2] none <|
 .x 4 (.call 51) [.r 1, .r 3] none [] <|
 .q 6 (.fld 12) [.s 12] (some (.r 4, true)) <|
 .q 7 (.fld 1) [.r 6] (some (.r 4, true)) <|
 .q 8 (.lda 7) [.r 7] (some (.r 4, true)) <|
 .q 9 (.lda 2) [.s 11] (some (.r 4, true)) <|
 .x 10 (.call 52) [.r 8, .r 9] (some (.r 4, true)) [] <|
 .q 11 .not [.r 10] (some (.r 4, true)) <|
 .q 12 .pick [.r 4, .r 11, .c (.bool false)] none <|
 .q 14 (.fld 12) [.s 13] (some (.r 12, true)) <|
 .q 15 (.fld 1) [.r 14] (some (.r 12, true)) <|
 .q 16 (.lda 7) [.r 15] (some (.r 12, true)) <|
 .q 17 (.lda 2) [.s 9] (some (.r 12, true)) <|
 .x 18 (.call 52) [.r 16, .r 17] (some (.r 12, true)) [] <|
 .q 19 .not [.r 18] (some (.r 12, true)) <|
 .q 20 .pick [.r 12, .r 19, .c (.bool false)] none <|
 .out [(2, .s 2), (3, .s 3), (4, .s 4), (5, .s 5), (7, .s 7), (9, .s 9), (34, .s 34), (35, .s 35), (36, .s 36), (43, .s 43), (44, .s 44), (45, .s 45), (75, .r 20)]
def e23r12 : EE := .q 0 (.fld 3) [.s 7] none <|
 .q 1 .ld [.r 0] none <|
 .q 2 .add [.r 1, .c (.int .i64 1)] none <|
 .q 3 (.fld 3) [.s 7] none <|
 .x 4 (.st 1) [.r 3, .r 2] none [] <|
 .out [(2, .s 2), (3, .s 3), (4, .s 4), (5, .s 5), (7, .s 7), (9, .s 9), (34, .s 34), (35, .s 35), (36, .s 36), (43, .s 43), (44, .s 44), (45, .s 45)]
def e23r13 : EE := .q 0 .add [.s 45, .c (.int .i64 1)] none <|
 .out [(2, .s 2), (3, .s 3), (4, .s 4), (5, .s 5), (7, .s 7), (9, .s 9), (34, .s 34), (35, .s 35), (36, .s 36), (43, .s 43), (44, .s 44), (45, .r 0)]
def e23l14 : EC := (.seq (.reg e23r8 [2, 3, 4, 5, 7, 9, 34, 35, 36, 43, 44, 45] 0) (.seq (.cond (.s 46) .skip (.exit 2)) (.seq (.block 3 (.seq (.reg e23r9 [2, 3, 4, 5, 7, 9, 34, 35, 36, 43, 44, 45] 0) (.seq (.reg e23r10 [2, 3, 4, 5, 7, 9, 11, 34, 35, 36, 43, 44, 45] 10) (.seq (.reg e23r11 [2, 3, 4, 5, 7, 9, 11, 12, 13, 34, 35, 36, 43, 44, 45] 0) (.cond (.s 75) (.reg e23r12 [2, 3, 4, 5, 7, 9, 34, 35, 36, 43, 44, 45] 0) .skip))))) (.reg e23r13 [2, 3, 4, 5, 7, 9, 34, 35, 36, 43, 44, 45] 0))))
def e23r15 : EE := .q 0 .add [.s 36, .c (.int .i64 1)] none <|
 .out [(2, .s 2), (3, .s 3), (4, .s 4), (5, .s 5), (7, .s 7), (34, .s 34), (35, .s 35), (36, .r 0)]
def e23l16 : EC := (.seq (.reg e23r5 [2, 3, 4, 5, 7, 34, 35, 36] 0) (.seq (.cond (.s 37) .skip (.exit 0)) (.seq (.block 1 (.seq (.reg e23r6 [2, 3, 4, 5, 7, 34, 35, 36] 0) (.seq (.reg e23r7 [2, 3, 4, 5, 7, 8, 9, 34, 35, 36] 0) (.block 2 (.loop [2, 3, 4, 5, 7, 9, 34, 35, 36, 43, 44, 45] e23l14))))) (.reg e23r15 [2, 3, 4, 5, 7, 34, 35, 36] 0))))
def e23r17 : EE := .q 1 .len [.s 3] none <|
 .out [(2, .s 2), (3, .s 3), (7, .s 7), (82, .s 3), (83, .r 1), (84, .c z)]
def e23r18 : EE := .q 0 .lss [.s 84, .s 83] none <|
 .out [(2, .s 2), (3, .s 3), (7, .s 7), (82, .s 82), (83, .s 83), (84, .s 84), (85, .r 0)]
def e23r19 : EE := .q 1 (.ixs 1) [.s 82, .s 84] none <|
 .q 2 .ld [.r 1] none <|
 .out [(2, .s 2), (3, .s 3), (7, .s 7), (14, .s 84), (15, .r 2), (82, .s 82), (83, .s 83), (84, .s 84)]
def e23r20 : EE := .q 2 (.slc 1 false true) [.s 3, .s 14] none <|
 .q 3 .len [.r 2] none <|
 .out [(2, .s 2), (3, .s 3), (7, .s 7), (15, .s 15), (82, .s 82), (83, .s 83), (84, .s 84), (91, .r 2), (92, .r 3), (93, .c z)]
def e23r21 : EE := .q 0 .lss [.s 93, .s 92] none <|
 .out [(2, .s 2), (3, .s 3), (7, .s 7), (15, .s 15), (82, .s 82), (83, .s 83), (84, .s 84), (91, .s 91), (92, .s 92), (93, .s 93), (94, .r 0)]
def e23r22 : EE := .q 0 (.ixs 1) [.s 91, .s 93] none <|
 .q 1 .ld [.r 0] none <|
 .out [(2, .s 2), (3, .s 3), (7, .s 7), (15, .s 15), (17, .r 1), (82, .s 82), (83, .s 83), (84, .s 84), (91, .s 91), (92, .s 92), (93, .s 93)]
def e23r23 : EE := .x 1 (.call 53) [.s 15] none [] <|
 .x 3 (.call 53) [.s 17] none [] <|
 .q 4 (.eqc false [(.i .i64), (.i .i64), (.i .i64), (.i .i64), (.i .i64), (.i .i64), (.i .i64)]) [.r 1, .r 3] none <|
 .q 6 .mv [.s 15] (some (.r 4, true)) <|
 .x 7 (.call 55) [.r 6] (some (.r 4, true)) [] <|
 .q 8 .mv [.s 17] (some (.r 4, true)) <|
 .x 9 (.call 55) [.r 8] (some (.r 4, true)) [] <|
 .x 10 (.call 54) [.r 7, .r 9] (some (.r 4, true)) [] <|
 .q 11 .not [.r 10] (some (.r 4, true)) <|
 .q 12 .pick [.r 4, .r 11, .c (.bool false)] none <|
 .out [(2, .s 2), (3, .s 3), (7, .s 7), (15, .s 15), (82, .s 82), (83, .s 83), (84, .s 84), (91, .s 91), (92, .s 92), (93, .s 93), (109, .r 12)]
def e23r24 : EE := .q 0 (.fld 4) [.s 7] none <|
 .q 1 .ld [.r 0] none <|
 .q 2 .add [.r 1, .c (.int .i64 1)] none <|
 .q 3 (.fld 4) [.s 7] none <|
 .x 4 (.st 1) [.r 3, .r 2] none [] <|
 .out [(2, .s 2), (3, .s 3), (7, .s 7), (15, .s 15), (82, .s 82), (83, .s 83), (84, .s 84), (91, .s 91), (92, .s 92), (93, .s 93)]
def e23r25 : EE := .q 0 .add [.s 93, .c (.int .i64 1)] none <|
 .out [(2, .s 2), (3, .s 3), (7, .s 7), (15, .s 15), (82, .s 82), (83, .s 83), (84, .s 84), (91, .s 91), (92, .s 92), (93, .r 0)]
def e23l26 : EC := (.seq (.reg e23r21 [2, 3, 7, 15, 82, 83, 84, 91, 92, 93] 0) (.seq (.cond (.s 94) .skip (.exit 6)) (.seq (.block 7 (.seq (.reg e23r22 [2, 3, 7, 15, 82, 83, 84, 91, 92, 93] 0) (.seq (.reg e23r23 [2, 3, 7, 15, 17, 82, 83, 84, 91, 92, 93] 0) (.cond (.s 109) (.reg e23r24 [2, 3, 7, 15, 82, 83, 84, 91, 92, 93] 0) .skip)))) (.reg e23r25 [2, 3, 7, 15, 82, 83, 84, 91, 92, 93] 0))))
def e23r27 : EE := .q 0 .add [.s 84, .c (.int .i64 1)] none <|
 .out [(2, .s 2), (3, .s 3), (7, .s 7), (82, .s 82), (83, .s 83), (84, .r 0)]
def e23l28 : EC := (.seq (.reg e23r18 [2, 3, 7, 82, 83, 84] 0) (.seq (.cond (.s 85) .skip (.exit 4)) (.seq (.block 5 (.seq (.reg e23r19 [2, 3, 7, 82, 83, 84] 0) (.seq (.reg e23r20 [2, 3, 7, 14, 15, 82, 83, 84] 0) (.block 6 (.loop [2, 3, 7, 15, 82, 83, 84, 91, 92, 93] e23l26))))) (.reg e23r27 [2, 3, 7, 82, 83, 84] 0))))
def e23r29 : EE := .q 0 (.lda 5) [.s 7] none <|
 .x 1 (.st 5) [.s 2, .r 0] none [] <|
 .out [(2, .s 2)]
def e23 : EFn := ⟨(.seq (.reg e23r0 [0] 0) (.seq (.reg e23r1 [0, 2] 0) (.seq (.reg e23r2 [0, 2, 3] 0) (.seq (.reg e23r3 [2, 3, 4, 5, 6] 0) (.seq (.seq (.reg e23r4 [2, 3, 4, 5, 7] 0) (.block 0 (.loop [2, 3, 4, 5, 7, 34, 35, 36] e23l16))) (.seq (.seq (.reg e23r17 [2, 3, 7] 0) (.block 4 (.loop [2, 3, 7, 82, 83, 84] e23l28))) (.seq (.reg e23r29 [2, 7] 0) .ret))))))), [.cells 2 5], 117, 0⟩
theorem g23 : Good Tryz.prog 23 e23 := ⟨Tryz.f23, Tryz.func23, by kernel_rfl, by kernel_rfl, by kernel_rfl, by kernel_rfl⟩
/-! concord/audit.Fine -/
def e24r0 : EE := .x 0 (.box 78) [.s 0] none [] <|
 .out [(1, .r 0)]
def e24r1 : EE := .q 0 (.fld 2) [.s 1] none <|
 .q 1 .ld [.r 0] none <|
 .q 2 .eql [.r 1, .c z] none <|
 .q 4 (.fld 3) [.s 1] (some (.r 2, true)) <|
 .q 5 .ld [.r 4] (some (.r 2, true)) <|
 .q 6 .eql [.r 5, .c z] (some (.r 2, true)) <|
 .q 7 .pick [.r 2, .r 6, .c (.bool false)] none <|
 .q 9 (.fld 4) [.s 1] (some (.r 7, true)) <|
 .q 10 .ld [.r 9] (some (.r 7, true)) <|
 .q 11 .eql [.r 10, .c z] (some (.r 7, true)) <|
 .q 12 .pick [.r 7, .r 11, .c (.bool false)] none <|
 .out [(2, .r 12)]
def e24 : EFn := ⟨(.seq (.reg e24r0 [0] 0) (.seq (.reg e24r1 [1] 0) .ret)), [.slot 2], 16, 0⟩
theorem g24 : Good Tryz.prog 24 e24 := ⟨Tryz.f24, Tryz.func24, by kernel_rfl, by kernel_rfl, by kernel_rfl, by kernel_rfl⟩
/-! (*strings.Builder).String -/
def e25r0 : EE := .out [(0, .s 0)]
def e25r1 : EE := .q 1 .nl [.s 0] none <|
 .q 2 (.fld 1) [.r 1] none <|
 .q 3 .ld [.r 2] none <|
 .q 4 .usd [.r 3] none <|
 .q 6 .nl [.s 0] none <|
 .q 7 (.fld 1) [.r 6] none <|
 .q 8 .ld [.r 7] none <|
 .q 9 .len [.r 8] none <|
 .x 10 (.ust 5) [.r 4, .r 9] none [] <|
 .out [(2, .r 10)]
def e25 : EFn := ⟨(.seq (.reg e25r0 [0] 0) (.seq (.reg e25r1 [0] 0) .ret)), [.slot 2], 14, 0⟩
theorem g25 : Good Tryz.prog 25 e25 := ⟨Tryz.f25, Tryz.func25, by kernel_rfl, by kernel_rfl, by kernel_rfl, by kernel_rfl⟩
/-! internal/strconv.Itoa -/
def e26r0 : EE := .out [(0, .s 0)]
def e26r1 : EE := .x 1 (.call 56) [.s 0, .c (.int .i64 10)] none [] <|
 .out [(2, .r 1)]
def e26 : EFn := ⟨(.seq (.reg e26r0 [0] 0) (.seq (.reg e26r1 [0] 0) .ret)), [.slot 2], 5, 0⟩
theorem g26 : Good Tryz.prog 26 e26 := ⟨Tryz.f26, Tryz.func26, by kernel_rfl, by kernel_rfl, by kernel_rfl, by kernel_rfl⟩
/-! concord/shell.plain -/
def e27r0 : EE := .out [(0, .s 0)]
def e27r1 : EE := .q 1 .gtr [.s 0, .c (.int .u8 32)] none <|
 .q 3 .mv [.s 0] (some (.r 1, true)) <|
 .q 4 .lss [.r 3, .c (.int .u8 127)] (some (.r 1, true)) <|
 .q 5 .pick [.r 1, .r 4, .c (.bool false)] none <|
 .q 7 .mv [.s 0] (some (.r 5, true)) <|
 .q 8 .neq [.r 7, .c (.int .u8 37)] (some (.r 5, true)) <|
 .q 9 .pick [.r 5, .r 8, .c (.bool false)] none <|
 .out [(2, .r 9)]
def e27 : EFn := ⟨(.seq (.reg e27r0 [0] 0) (.seq (.reg e27r1 [0] 0) .ret)), [.slot 2], 13, 0⟩
theorem g27 : Good Tryz.prog 27 e27 := ⟨Tryz.f27, Tryz.func27, by kernel_rfl, by kernel_rfl, by kernel_rfl, by kernel_rfl⟩
/-! (*strings.Builder).Grow -/
def e28r0 : EE := .x 1 (.call 45) [.s 0] none [] <|
 .out [(0, .s 0), (1, .s 1)]
def e28r1 : EE := .q 1 .lss [.s 1, .c z] none <|
 .out [(0, .s 0), (1, .s 1), (7, .r 1)]
def e28r2 : EE := .q 0 (.mki 9) [.c (.str [115, 116, 114, 105, 110, 103, 115, 46, 66, 117, 105, 108, 100, 101, 114, 46, 71, 114, 111, 119, 58, 32, 110, 101, 103, 97, 116, 105, 118, 101, 32, 99, 111, 117, 110, 116])] none <|
 .x 1 .bad [] none [] <|
 .out [(0, .s 0), (1, .s 1)]
def e28r3 : EE := .q 1 .nl [.s 0] none <|
 .q 2 (.fld 1) [.r 1] none <|
 .q 3 .ld [.r 2] none <|
 .q 4 .cap [.r 3] none <|
 .q 6 .nl [.s 0] none <|
 .q 7 (.fld 1) [.r 6] none <|
 .q 8 .ld [.r 7] none <|
 .q 9 .len [.r 8] none <|
 .q 10 .sub [.r 4, .r 9] none <|
 .q 12 .lss [.r 10, .s 1] none <|
 .out [(0, .s 0), (1, .s 1), (21, .r 12)]
def e28r4 : EE := .x 2 (.call 57) [.s 0, .s 1] none [] <|
 .out []
def e28 : EFn := ⟨(.seq (.reg e28r0 [0, 1] 0) (.seq (.seq (.reg e28r1 [0, 1] 0) (.cond (.s 7) (.reg e28r2 [0, 1] 0) .skip)) (.seq (.reg e28r3 [0, 1] 0) (.cond (.s 21) (.reg e28r4 [0, 1] 0) .skip)))), [], 25, 0⟩
theorem g28 : Good Tryz.prog 28 e28 := ⟨Tryz.f28, Tryz.func28, by kernel_rfl, by kernel_rfl, by kernel_rfl, by kernel_rfl⟩
/-! concord/shell.number -/
def e29r0 : EE := .out [(0, .s 0)]
def e29r1 : EE := .x 1 (.call 58) [.s 0] none [] <|
 .q 3 (.ext 0) [.r 1] none <|
 .q 4 (.ext 1) [.r 1] none <|
 .out [(3, .r 3)]
def e29r2 : EE := .out [(2, .s 3)]
def e29 : EFn := ⟨(.seq (.reg e29r0 [0] 0) (.seq (.reg e29r1 [0] 0) (.seq (.reg e29r2 [3] 0) .ret))), [.slot 2], 11, 0⟩
theorem g29 : Good Tryz.prog 29 e29 := ⟨Tryz.f29, Tryz.func29, by kernel_rfl, by kernel_rfl, by kernel_rfl, by kernel_rfl⟩
/-! concord/shell.text -/
def e30r0 : EE := .out [(0, .s 0)]
def e30r1 : EE := .out [(0, .s 0), (3, .c .nsl)]
def e30r2 : EE := .out [(0, .s 0), (3, .s 3), (4, .c (.int .i64 1))]
def e30r3 : EE := .q 2 .lenz [.s 0] none <|
 .q 3 .lss [.s 4, .r 2] none <|
 .out [(0, .s 0), (3, .s 3), (4, .s 4), (11, .r 3)]
def e30r4 : EE := .q 2 .idxs [.s 0, .s 4] none <|
 .out [(0, .s 0), (3, .s 3), (4, .s 4), (5, .r 2)]
def e30r5 : EE := .q 1 .eql [.s 5, .c (.int .u8 37)] none <|
 .q 3 .mv [.s 4] (some (.r 1, true)) <|
 .q 4 .add [.r 3, .c (.int .i64 2)] (some (.r 1, true)) <|
 .q 5 .mv [.s 0] (some (.r 1, true)) <|
 .q 6 .lenz [.r 5] (some (.r 1, true)) <|
 .q 7 .lss [.r 4, .r 6] (some (.r 1, true)) <|
 .q 8 .pick [.r 1, .r 7, .c (.bool false)] none <|
 .out [(0, .s 0), (3, .s 3), (4, .s 4), (5, .s 5), (25, .r 8)]
def e30r6 : EE := .q 2 .add [.s 4, .c (.int .i64 1)] none <|
 .q 3 .idxs [.s 0, .r 2] none <|
 .q 7 .add [.s 4, .c (.int .i64 2)] none <|
 .q 8 .idxs [.s 0, .r 7] none <|
 .x 4 (.call 59) [.c (.str [48, 49, 50, 51, 52, 53, 54, 55, 56, 57, 97, 98, 99, 100, 101, 102]), .r 3] none [] <|
 .x 9 (.call 59) [.c (.str [48, 49, 50, 51, 52, 53, 54, 55, 56, 57, 97, 98, 99, 100, 101, 102]), .r 8] none [] <|
 .out [(0, .s 0), (3, .s 3), (4, .s 4), (6, .r 4), (7, .r 9)]
def e30r7 : EE := .q 1 .mx [.s 6, .c z] none <|
 .q 2 .shl [.r 1, .c (.int .u64 4)] none <|
 .q 4 .mx [.s 7, .c z] none <|
 .q 5 .or [.r 2, .r 4] none <|
 .q 6 (.conv .u8) [.r 5] none <|
 .out [(0, .s 0), (3, .s 3), (4, .s 4), (5, .r 6)]
def e30r8 : EE := .q 1 .add [.s 4, .c (.int .i64 2)] none <|
 .out [(0, .s 0), (3, .s 3), (4, .r 1), (5, .s 5)]
def e30r9 : EE := .x 2 (.bsl 5 1 [(.int .u8 0)] [(0, 1)]) [.s 5] none [] <|
 .x 3 (.app 5 1 1 [(.int .u8 0)]) [.s 3, .r 2] none [] <|
 .out [(0, .s 0), (3, .r 3), (4, .s 4)]
def e30r10 : EE := .q 1 .add [.s 4, .c (.int .i64 1)] none <|
 .out [(0, .s 0), (3, .s 3), (4, .r 1)]
def e30l11 : EC := (.seq (.seq (.reg e30r3 [0, 3, 4] 0) (.cond (.s 11) .skip (.exit 0))) (.seq (.block 1 (.seq (.reg e30r4 [0, 3, 4] 0) (.seq (.seq (.reg e30r5 [0, 3, 4, 5] 0) (.cond (.s 25) (.seq (.reg e30r6 [0, 3, 4] 0) (.seq (.reg e30r7 [0, 3, 4, 6, 7] 0) (.reg e30r8 [0, 3, 4, 5] 0))) .skip)) (.reg e30r9 [0, 3, 4, 5] 0)))) (.reg e30r10 [0, 3, 4] 0)))
def e30r12 : EE := .q 1 .b2s [.s 3] none <|
 .out [(2, .r 1)]
def e30 : EFn := ⟨(.seq (.reg e30r0 [0] 0) (.seq (.reg e30r1 [0] 0) (.seq (.seq (.reg e30r2 [0, 3] 0) (.block 0 (.loop [0, 3, 4] e30l11))) (.seq (.reg e30r12 [3] 0) .ret)))), [.slot 2], 51, 0⟩
theorem g30 : Good Tryz.prog 30 e30 := ⟨Tryz.f30, Tryz.func30, by kernel_rfl, by kernel_rfl, by kernel_rfl, by kernel_rfl⟩
/-! strings.genSplit -/
def e31r0 : EE := .out [(0, .s 0), (1, .s 1), (2, .s 2), (3, .s 3)]
def e31r1 : EE := .q 1 .eql [.s 3, .c z] none <|
 .out [(0, .s 0), (1, .s 1), (2, .s 2), (3, .s 3), (13, .r 1)]
def e31r2 : EE := .out [(8, .c .nsl)]
def e31r3 : EE := .q 1 .seql [.s 1, .c zs] none <|
 .out [(0, .s 0), (1, .s 1), (2, .s 2), (3, .s 3), (15, .r 1)]
def e31r4 : EE := .x 2 (.call 60) [.s 0, .s 3] none [] <|
 .out [(8, .r 2)]
def e31r5 : EE := .q 1 .lss [.s 3, .c z] none <|
 .out [(0, .s 0), (1, .s 1), (2, .s 2), (3, .s 3), (20, .r 1)]
def e31r6 : EE := .x 2 (.call 61) [.s 0, .s 1] none [] <|
 .q 3 .add [.r 2, .c (.int .i64 1)] none <|
 .out [(0, .s 0), (1, .s 1), (2, .s 2), (3, .r 3)]
def e31r7 : EE := .q 2 .lenz [.s 0] none <|
 .q 3 .add [.r 2, .c (.int .i64 1)] none <|
 .q 4 .mn [.s 3, .r 3] none <|
 .out [(0, .s 0), (1, .s 1), (2, .s 2), (3, .r 4)]
def e31r8 : EE := .x 1 (.mks 9 16 [zs]) [.s 3, .s 3] none [] <|
 .out [(0, .s 0), (1, .s 1), (2, .s 2), (3, .s 3), (9, .r 1)]
def e31r9 : EE := .q 1 .sub [.s 3, .c (.int .i64 1)] none <|
 .out [(0, .s 0), (1, .s 1), (2, .s 2), (3, .r 1), (9, .s 9)]
def e31r10 : EE := .out [(0, .s 0), (1, .s 1), (2, .s 2), (3, .s 3), (9, .s 9), (10, .c z)]
def e31r11 : EE := .q 2 .lss [.s 10, .s 3] none <|
 .out [(0, .s 0), (1, .s 1), (2, .s 2), (3, .s 3), (9, .s 9), (10, .s 10), (36, .r 2)]
def e31r12 : EE := .x 2 (.call 62) [.s 0, .s 1] none [] <|
 .out [(0, .s 0), (1, .s 1), (2, .s 2), (3, .s 3), (9, .s 9), (10, .s 10), (11, .r 2)]
def e31r13 : EE := .q 1 .lss [.s 11, .c z] none <|
 .out [(0, .s 0), (1, .s 1), (2, .s 2), (3, .s 3), (9, .s 9), (10, .s 10), (11, .s 11), (41, .r 1)]
def e31r14 : EE := .q 5 .add [.s 11, .s 2] none <|
 .q 6 (.slcs false true) [.s 0, .r 5] none <|
 .q 7 (.ixs 1) [.s 9, .s 10] none <|
 .x 8 (.st 1) [.r 7, .r 6] none [] <|
 .out [(0, .s 0), (1, .s 1), (2, .s 2), (3, .s 3), (9, .s 9), (10, .s 10), (11, .s 11)]
def e31r15 : EE := .q 3 .lenz [.s 1] none <|
 .q 4 .add [.s 11, .r 3] none <|
 .q 5 (.slcs true false) [.s 0, .r 4] none <|
 .out [(0, .r 5), (1, .s 1), (2, .s 2), (3, .s 3), (9, .s 9), (10, .s 10)]
def e31r16 : EE := .q 1 .add [.s 10, .c (.int .i64 1)] none <|
 .out [(0, .s 0), (1, .s 1), (2, .s 2), (3, .s 3), (9, .s 9), (10, .r 1)]
def e31l17 : EC := (.seq (.seq (.reg e31r11 [0, 1, 2, 3, 9, 10] 0) (.cond (.s 36) .skip (.exit 0))) (.block 1 (.seq (.reg e31r12 [0, 1, 2, 3, 9, 10] 0) (.seq (.seq (.reg e31r13 [0, 1, 2, 3, 9, 10, 11] 0) (.cond (.s 41) (.exit 0) .skip)) (.seq (.reg e31r14 [0, 1, 2, 3, 9, 10, 11] 0) (.seq (.reg e31r15 [0, 1, 2, 3, 9, 10, 11] 0) (.reg e31r16 [0, 1, 2, 3, 9, 10] 0)))))))
def e31r18 : EE := .q 3 (.ixs 1) [.s 9, .s 10] none <|
 .x 4 (.st 1) [.r 3, .s 0] none [] <|
 .out [(9, .s 9), (10, .s 10)]
def e31r19 : EE := .q 2 .add [.s 10, .c (.int .i64 1)] none <|
 .q 3 (.slc 1 false true) [.s 9, .r 2] none <|
 .out [(8, .r 3)]
def e31 : EFn := ⟨(.seq (.reg e31r0 [0, 1, 2, 3] 0) (.seq (.seq (.reg e31r1 [0, 1, 2, 3] 0) (.cond (.s 13) (.seq (.reg e31r2 [] 0) .ret) .skip)) (.seq (.seq (.reg e31r3 [0, 1, 2, 3] 0) (.cond (.s 15) (.seq (.reg e31r4 [0, 3] 0) .ret) .skip)) (.seq (.seq (.reg e31r5 [0, 1, 2, 3] 0) (.cond (.s 20) (.reg e31r6 [0, 1, 2] 0) .skip)) (.seq (.reg e31r7 [0, 1, 2, 3] 0) (.seq (.reg e31r8 [0, 1, 2, 3] 0) (.seq (.reg e31r9 [0, 1, 2, 3, 9] 0) (.seq (.reg e31r10 [0, 1, 2, 3, 9] 0) (.seq (.block 0 (.loop [0, 1, 2, 3, 9, 10] e31l17)) (.seq (.reg e31r18 [0, 9, 10] 0) (.seq (.reg e31r19 [9, 10] 0) .ret))))))))))), [.slot 8], 66, 0⟩
theorem g31 : Good Tryz.prog 31 e31 := ⟨Tryz.f31, Tryz.func31, by kernel_rfl, by kernel_rfl, by kernel_rfl, by kernel_rfl⟩
/-! strings.Cut -/
def e32r0 : EE := .out [(0, .s 0), (1, .s 1)]
def e32r1 : EE := .x 2 (.call 63) [.s 0, .s 1] none [] <|
 .q 3 (.ext 0) [.r 2] none <|
 .q 4 (.ext 1) [.r 2] none <|
 .q 5 (.ext 2) [.r 2] none <|
 .out [(4, .r 3), (5, .r 4), (6, .r 5)]
def e32 : EFn := ⟨(.seq (.reg e32r0 [0, 1] 0) (.seq (.reg e32r1 [0, 1] 0) .ret)), [.slot 4, .slot 5, .slot 6], 13, 0⟩
theorem g32 : Good Tryz.prog 32 e32 := ⟨Tryz.f32, Tryz.func32, by kernel_rfl, by kernel_rfl, by kernel_rfl, by kernel_rfl⟩
/-! concord/disk.New -/
def e33r0 : EE := .out [(0, .s 0)]
def e33r1 : EE := .q 1 .lss [.s 0, .c z] none <|
 .q 3 .mv [.s 0] (some (.r 1, false)) <|
 .q 4 .gtr [.r 3, .c (.int .i64 1048576)] (some (.r 1, false)) <|
 .q 5 .pick [.r 1, .c (.bool true), .r 4] none <|
 .out [(0, .s 0), (9, .r 5)]
def e33r2 : EE := .out [(2, .c .nptr), (3, .c (.int .i64 1))]
def e33r3 : EE := .q 1 (.bld [z, .nsl, (.bool false), (.bool false), z] [(0, 1)]) [.s 0] none <|
 .x 2 (.box 145) [.r 1] none [] <|
 .out [(2, .r 2), (3, .c z)]
def e33 : EFn := ⟨(.seq (.reg e33r0 [0] 0) (.seq (.seq (.reg e33r1 [0] 0) (.cond (.s 9) (.seq (.reg e33r2 [] 0) .ret) .skip)) (.seq (.reg e33r3 [0] 0) .ret))), [.slot 2, .slot 3], 13, 0⟩
theorem g33 : Good Tryz.prog 33 e33 := ⟨Tryz.f33, Tryz.func33, by kernel_rfl, by kernel_rfl, by kernel_rfl, by kernel_rfl⟩
/-! concord/node.New -/
def e34r0 : EE := .out [(0, .s 0), (1, .s 1), (2, .s 2)]
def e34r1 : EE := .x 1 (.call 64) [.s 0] none [] <|
 .q 2 .not [.r 1] none <|
 .q 4 .mv [.s 1] (some (.r 2, false)) <|
 .q 5 .lss [.r 4, .c z] (some (.r 2, false)) <|
 .q 6 .pick [.r 2, .c (.bool true), .r 5] none <|
 .q 8 .mv [.s 1] (some (.r 6, false)) <|
 .q 9 .mv [.s 0] (some (.r 6, false)) <|
 .q 10 .geq [.r 8, .r 9] (some (.r 6, false)) <|
 .q 11 .pick [.r 6, .c (.bool true), .r 10] none <|
 .q 13 .mv [.s 2] (some (.r 11, false)) <|
 .q 14 (.eqp false) [.r 13, .c .nptr] (some (.r 11, false)) <|
 .q 15 .pick [.r 11, .c (.bool true), .r 14] none <|
 .out [(0, .s 0), (1, .s 1), (2, .s 2), (37, .r 15)]
def e34r2 : EE := .out [(6, .c .nptr), (7, .c (.int .i64 1))]
def e34r3 : EE := .q 3 (.bld [z, z, .nptr, .nptr, .nptr, .nptr, .nsl, z, z, (.bool false), zs, z, .nsl, z, z, (.bool false), zs, z, .nsl, z, z, (.bool false), zs, z, .nsl, z, z, (.bool false), zs, z, .nsl, z, z, (.bool false), zs, z, .nsl, z, z, (.bool false), zs, z, .nsl, z, z, (.bool false), zs, z, .nsl, z, z, (.bool false), zs, z, .nsl, z, z, z, z, z, z, z, z, z, z, z, z, z, z, z, z, .nsl, .nsl, .nsl, (.bool false)] [(0, 1), (1, 1), (2, 1)]) [.s 0, .s 1, .s 2] none <|
 .x 4 (.box 151) [.r 3] none [] <|
 .out [(0, .s 0), (1, .s 1), (2, .s 2), (8, .r 4)]
def e34r4 : EE := .x 3 (.call 65) [.s 0, .s 1] none [] <|
 .q 5 (.ext 0) [.r 3] none <|
 .q 6 (.ext 1) [.r 3] none <|
 .q 7 .nl [.s 8] none <|
 .q 8 (.fld 5) [.r 7] none <|
 .x 9 (.st 1) [.r 8, .r 5] none [] <|
 .out [(0, .s 0), (1, .s 1), (2, .s 2), (8, .s 8)]
def e34r5 : EE := .x 1 (.call 66) [.s 8] none [] <|
 .out [(0, .s 0), (1, .s 1), (2, .s 2), (8, .s 8), (9, .r 1)]
def e34r6 : EE := .q 1 .neq [.s 9, .c z] none <|
 .out [(0, .s 0), (1, .s 1), (2, .s 2), (8, .s 8), (9, .s 9), (55, .r 1)]
def e34r7 : EE := .out [(6, .c .nptr), (7, .s 9)]
def e34r8 : EE := .x 1 (.call 67) [.s 2] none [] <|
 .q 3 (.ext 0) [.r 1] none <|
 .q 4 (.ext 1) [.r 1] none <|
 .q 5 (.ext 2) [.r 1] none <|
 .out [(0, .s 0), (1, .s 1), (8, .s 8), (10, .r 3), (11, .r 4), (12, .r 5)]
def e34r9 : EE := .q 1 .neq [.s 12, .c z] none <|
 .out [(0, .s 0), (1, .s 1), (8, .s 8), (10, .s 10), (11, .s 11), (12, .s 12), (64, .r 1)]
def e34r10 : EE := .out [(6, .c .nptr), (7, .s 12)]
def e34r11 : EE := .q 2 .nl [.s 8] none <|
 .q 3 (.fld 3) [.r 2] none <|
 .x 4 (.st 1) [.r 3, .s 10] none [] <|
 .out [(0, .s 0), (1, .s 1), (8, .s 8), (10, .s 10), (11, .s 11)]
def e34r12 : EE := .x 0 (.alc [z, z, z, z, z, z, z] 123) [] none [] <|
 .out [(0, .s 0), (1, .s 1), (8, .s 8), (10, .s 10), (11, .s 11), (13, .r 0)]
def e34r13 : EE := .out [(0, .s 0), (1, .s 1), (8, .s 8), (10, .s 10), (11, .s 11), (13, .s 13), (14, .c .nsl)]
def e34r14 : EE := .q 1 .len [.s 11] none <|
 .out [(0, .s 0), (1, .s 1), (8, .s 8), (10, .s 10), (13, .s 13), (14, .s 14), (70, .s 11), (71, .r 1), (72, .c z)]
def e34r15 : EE := .q 0 .lss [.s 72, .s 71] none <|
 .out [(0, .s 0), (1, .s 1), (8, .s 8), (10, .s 10), (13, .s 13), (14, .s 14), (70, .s 70), (71, .s 71), (72, .s 72), (73, .r 0)]
def e34r16 : EE := .q 0 (.ixs 1) [.s 70, .s 72] none <|
 .q 1 .ld [.r 0] none <|
 .out [(0, .s 0), (1, .s 1), (8, .s 8), (10, .s 10), (13, .s 13), (14, .s 14), (16, .r 1), (70, .s 70), (71, .s 71), (72, .s 72)]
def e34r17 : EE := .x 1 (.call 68) [.s 16] none [] <|
 .q 3 (.ext 0) [.r 1] none <|
 .q 4 (.ext 1) [.r 1] none <|
 .x 5 (.alc [z, z, z, z, z, z, z] 123) [] none [] <|
 .x 6 (.st 7) [.r 5, .r 3] none [] <|
 .out [(0, .s 0), (1, .s 1), (8, .s 8), (10, .s 10), (13, .s 13), (14, .s 14), (16, .s 16), (17, .r 5), (18, .r 4), (70, .s 70), (71, .s 71), (72, .s 72)]
def e34r18 : EE := .out [(0, .s 0), (1, .s 1), (8, .s 8), (10, .s 10), (13, .s 13), (14, .s 14), (16, .s 16), (17, .s 17), (70, .s 70), (71, .s 71), (72, .s 72), (81, .s 18)]
def e34r19 : EE := .q 0 (.lda 7) [.s 17] none <|
 .x 1 (.st 7) [.s 13, .r 0] none [] <|
 .out [(0, .s 0), (1, .s 1), (8, .s 8), (10, .s 10), (13, .s 13), (14, .s 14), (70, .s 70), (71, .s 71), (72, .s 72)]
def e34r20 : EE := .q 1 .len [.s 16] none <|
 .q 2 .gtr [.r 1, .c z] none <|
 .q 4 .mv [.s 16] (some (.r 2, true)) <|
 .q 5 (.ixs 1) [.r 4, .c z] (some (.r 2, true)) <|
 .q 6 .ld [.r 5] (some (.r 2, true)) <|
 .q 7 .eql [.r 6, .c (.int .u8 2)] (some (.r 2, true)) <|
 .q 8 .pick [.r 2, .r 7, .c (.bool false)] none <|
 .out [(0, .s 0), (1, .s 1), (8, .s 8), (10, .s 10), (13, .s 13), (14, .s 14), (16, .s 16), (70, .s 70), (71, .s 71), (72, .s 72), (91, .r 8)]
def e34r21 : EE := .q 2 (.slc 1 true false) [.s 16, .c (.int .i64 1)] none <|
 .x 3 (.bsl 61 1 [.nsl] [(0, 1)]) [.r 2] none [] <|
 .x 4 (.app 61 1 24 [.nsl]) [.s 14, .r 3] none [] <|
 .out [(0, .s 0), (1, .s 1), (8, .s 8), (10, .s 10), (13, .s 13), (14, .r 4), (70, .s 70), (71, .s 71), (72, .s 72)]
def e34r22 : EE := .q 0 .add [.s 72, .c (.int .i64 1)] none <|
 .out [(0, .s 0), (1, .s 1), (8, .s 8), (10, .s 10), (13, .s 13), (14, .s 14), (70, .s 70), (71, .s 71), (72, .r 0)]
def e34l23 : EC := (.seq (.reg e34r15 [0, 1, 8, 10, 13, 14, 70, 71, 72] 0) (.seq (.cond (.s 73) .skip (.exit 0)) (.seq (.block 1 (.seq (.reg e34r16 [0, 1, 8, 10, 13, 14, 70, 71, 72] 0) (.seq (.reg e34r17 [0, 1, 8, 10, 13, 14, 16, 70, 71, 72] 0) (.seq (.reg e34r18 [0, 1, 8, 10, 13, 14, 16, 17, 18, 70, 71, 72] 0) (.cond (.s 81) (.reg e34r19 [0, 1, 8, 10, 13, 14, 17, 70, 71, 72] 0) (.seq (.reg e34r20 [0, 1, 8, 10, 13, 14, 16, 70, 71, 72] 0) (.cond (.s 91) (.reg e34r21 [0, 1, 8, 10, 13, 14, 16, 70, 71, 72] 0) .skip))))))) (.reg e34r22 [0, 1, 8, 10, 13, 14, 70, 71, 72] 0))))
def e34r24 : EE := .q 3 (.lda 7) [.s 13] none <|
 .x 5 (.call 69) [.s 0, .s 1, .r 3, .s 14] none [] <|
 .q 7 (.ext 0) [.r 5] none <|
 .q 8 (.ext 1) [.r 5] none <|
 .q 9 .nl [.s 8] none <|
 .q 10 (.fld 4) [.r 9] none <|
 .x 11 (.st 1) [.r 10, .r 7] none [] <|
 .out [(1, .s 1), (8, .s 8), (10, .s 10), (12, .r 8), (13, .s 13)]
def e34r25 : EE := .q 1 .neq [.s 12, .c z] none <|
 .out [(1, .s 1), (8, .s 8), (10, .s 10), (12, .s 12), (13, .s 13), (110, .r 1)]
def e34r26 : EE := .out [(6, .c .nptr), (7, .s 12)]
def e34r27 : EE := .x 1 (.call 70) [.s 10] none [] <|
 .q 3 (.ext 0) [.r 1] none <|
 .q 4 (.ext 1) [.r 1] none <|
 .out [(1, .s 1), (8, .s 8), (10, .s 10), (13, .s 13), (19, .r 3)]
def e34r28 : EE := .q 1 .eql [.s 19, .c z] none <|
 .out [(1, .s 1), (8, .s 8), (10, .s 10), (13, .s 13), (118, .r 1)]
def e34r29 : EE := .q 1 (.lda 7) [.s 13] none <|
 .x 2 (.call 72) [.r 1] none [] <|
 .x 3 (.bsl 61 1 [.nsl] [(0, 1)]) [.r 2] none [] <|
 .x 4 (.call 71) [.s 10, .r 3] none [] <|
 .out [(1, .s 1), (8, .s 8), (21, .r 4)]
def e34r30 : EE := .q 1 .neq [.s 21, .c z] none <|
 .out [(1, .s 1), (8, .s 8), (21, .s 21), (125, .r 1)]
def e34r31 : EE := .out [(6, .c .nptr), (7, .s 21)]
def e34r32 : EE := .q 1 .nl [.s 8] none <|
 .q 2 (.fld 5) [.r 1] none <|
 .q 3 .ld [.r 2] none <|
 .q 6 .nl [.s 8] none <|
 .q 7 (.fld 62) [.r 6] none <|
 .q 8 (.lda 7) [.r 7] none <|
 .x 9 (.call 73) [.r 3, .s 1, .r 8] none [] <|
 .out [(8, .s 8)]
def e34r33 : EE := .x 1 (.call 74) [.s 8] none [] <|
 .out [(8, .s 8)]
def e34r34 : EE := .out [(6, .s 8), (7, .c z)]
def e34 : EFn := ⟨(.seq (.reg e34r0 [0, 1, 2] 0) (.seq (.seq (.reg e34r1 [0, 1, 2] 0) (.cond (.s 37) (.seq (.reg e34r2 [] 0) .ret) .skip)) (.seq (.reg e34r3 [0, 1, 2] 0) (.seq (.reg e34r4 [0, 1, 2, 8] 0) (.seq (.seq (.reg e34r5 [0, 1, 2, 8] 0) (.seq (.reg e34r6 [0, 1, 2, 8, 9] 0) (.cond (.s 55) (.seq (.reg e34r7 [9] 0) .ret) .skip))) (.seq (.reg e34r8 [0, 1, 2, 8] 0) (.seq (.seq (.reg e34r9 [0, 1, 8, 10, 11, 12] 0) (.cond (.s 64) (.seq (.reg e34r10 [12] 0) .ret) .skip)) (.seq (.reg e34r11 [0, 1, 8, 10, 11] 0) (.seq (.reg e34r12 [0, 1, 8, 10, 11] 0) (.seq (.reg e34r13 [0, 1, 8, 10, 11, 13] 0) (.seq (.seq (.reg e34r14 [0, 1, 8, 10, 11, 13, 14] 0) (.block 0 (.loop [0, 1, 8, 10, 13, 14, 70, 71, 72] e34l23))) (.seq (.seq (.reg e34r24 [0, 1, 8, 10, 13, 14] 0) (.seq (.reg e34r25 [1, 8, 10, 12, 13] 0) (.cond (.s 110) (.seq (.reg e34r26 [12] 0) .ret) .skip))) (.seq (.seq (.reg e34r27 [1, 8, 10, 13] 0) (.seq (.reg e34r28 [1, 8, 10, 13, 19] 0) (.cond (.s 118) (.seq (.reg e34r29 [1, 8, 10, 13] 0) (.seq (.reg e34r30 [1, 8, 21] 0) (.cond (.s 125) (.seq (.reg e34r31 [21] 0) .ret) .skip))) .skip))) (.seq (.reg e34r32 [1, 8] 0) (.seq (.reg e34r33 [8] 0) (.seq (.reg e34r34 [8] 0) .ret)))))))))))))))), [.slot 6, .slot 7], 140, 0⟩
theorem g34 : Good Tryz.prog 34 e34 := ⟨Tryz.f34, Tryz.func34, by kernel_rfl, by kernel_rfl, by kernel_rfl, by kernel_rfl⟩
/-! concord/client.New -/
def e35r0 : EE := .out [(0, .s 0)]
def e35r1 : EE := .q 1 .lss [.s 0, .c (.int .i64 1)] none <|
 .q 3 .mv [.s 0] (some (.r 1, false)) <|
 .q 4 .gtr [.r 3, .c (.int .i64 8)] (some (.r 1, false)) <|
 .q 5 .pick [.r 1, .c (.bool true), .r 4] none <|
 .out [(0, .s 0), (9, .r 5)]
def e35r2 : EE := .out [(2, .c .nptr), (3, .c (.int .i64 1))]
def e35r3 : EE := .q 1 (.bld [z, z, z, z, z, zs, zs, zs, zs, (.bool false), z, z] [(0, 1)]) [.s 0] none <|
 .x 2 (.box 168) [.r 1] none [] <|
 .out [(2, .r 2), (3, .c z)]
def e35 : EFn := ⟨(.seq (.reg e35r0 [0] 0) (.seq (.seq (.reg e35r1 [0] 0) (.cond (.s 9) (.seq (.reg e35r2 [] 0) .ret) .skip)) (.seq (.reg e35r3 [0] 0) .ret))), [.slot 2, .slot 3], 13, 0⟩
theorem g35 : Good Tryz.prog 35 e35 := ⟨Tryz.f35, Tryz.func35, by kernel_rfl, by kernel_rfl, by kernel_rfl, by kernel_rfl⟩
end Go.Ev
