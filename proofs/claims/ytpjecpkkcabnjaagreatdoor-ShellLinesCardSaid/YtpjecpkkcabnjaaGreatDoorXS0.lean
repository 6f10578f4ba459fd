import Derived.Test.YtpjecpkkcabnjaaGreatDoorEvB
import Derived.Test.YtpjecpkkcabnjaaGreatDoorProg
set_option linter.unusedVariables false
set_option linter.unusedSimpArgs false
namespace Go.Ev
open Go.Fw Go.Proofs
/-! concord/shell.Line -/
def e6r0 : EE := .x 0 (.box 26) [.s 0] none [] <|
 .out [(1, .r 0)]
def e6r1 : EE := .x 0 (.call 14) [] none [] <|
 .q 1 (.mkf 15 0) [.s 1] none <|
 .x 2 (.call 13) [.r 0, .r 1] none [] <|
 .out [(1, .s 1), (3, .r 2)]
def e6r2 : EE := .q 1 .lss [.s 3, .c z] none <|
 .out [(1, .s 1), (3, .s 3), (15, .r 1)]
def e6r3 : EE := .out [(2, .c zs)]
def e6r4 : EE := .x 0 (.call 14) [] none [] <|
 .q 2 (.ixs 4) [.r 0, .s 3] none <|
 .q 3 (.fld 0) [.r 2] none <|
 .q 4 .ld [.r 3] none <|
 .x 5 (.bsl 9 1 [zs] [(0, 1)]) [.r 4] none [] <|
 .out [(1, .s 1), (4, .r 5)]
def e6r5 : EE := .x 0 (.call 16) [.s 1] none [] <|
 .q 1 .len [.r 0] none <|
 .out [(1, .s 1), (4, .s 4), (22, .r 0), (23, .r 1), (24, .c z)]
def e6r6 : EE := .q 0 .lss [.s 24, .s 23] none <|
 .out [(1, .s 1), (4, .s 4), (22, .s 22), (23, .s 23), (24, .s 24), (25, .r 0)]
def e6r7 : EE := .q 0 (.ixs 1) [.s 22, .s 24] none <|
 .q 1 .ld [.r 0] none <|
 .out [(1, .s 1), (4, .s 4), (6, .r 1), (22, .s 22), (23, .s 23), (24, .s 24)]
def e6r8 : EE := .q 2 .nl [.s 6] none <|
 .q 3 .ld [.r 2] none <|
 .x 4 (.call 17) [.r 3] none [] <|
 .x 5 (.bsl 9 1 [zs] [(0, 1)]) [.r 4] none [] <|
 .x 6 (.app 9 1 16 [zs]) [.s 4, .r 5] none [] <|
 .out [(1, .s 1), (4, .r 6), (22, .s 22), (23, .s 23), (24, .s 24)]
def e6r9 : EE := .q 0 .add [.s 24, .c (.int .i64 1)] none <|
 .out [(1, .s 1), (4, .s 4), (22, .s 22), (23, .s 23), (24, .r 0)]
def e6l10 : EC := (.seq (.reg e6r6 [1, 4, 22, 23, 24] 0) (.seq (.cond (.s 25) .skip (.exit 0)) (.seq (.block 1 (.seq (.reg e6r7 [1, 4, 22, 23, 24] 0) (.reg e6r8 [1, 4, 6, 22, 23, 24] 0))) (.reg e6r9 [1, 4, 22, 23, 24] 0))))
def e6r11 : EE := .q 0 (.fld 0) [.s 1] none <|
 .q 1 .ld [.r 0] none <|
 .q 2 .eql [.r 1, .c (.int .i64 1)] none <|
 .out [(1, .s 1), (4, .s 4), (38, .r 2)]
def e6r12 : EE := .q 0 (.fld 4) [.s 1] none <|
 .x 1 (.call 18) [.r 0] none [] <|
 .q 2 .len [.r 1] none <|
 .out [(1, .s 1), (4, .s 4), (40, .r 1), (41, .r 2), (42, .c z)]
def e6r13 : EE := .q 0 .lss [.s 42, .s 41] none <|
 .out [(1, .s 1), (4, .s 4), (40, .s 40), (41, .s 41), (42, .s 42), (43, .r 0)]
def e6r14 : EE := .q 0 (.ixs 1) [.s 40, .s 42] none <|
 .q 1 .ld [.r 0] none <|
 .out [(1, .s 1), (4, .s 4), (8, .r 1), (40, .s 40), (41, .s 41), (42, .s 42)]
def e6r15 : EE := .q 2 .nl [.s 8] none <|
 .q 3 .ld [.r 2] none <|
 .x 4 (.call 19) [.r 3] none [] <|
 .x 5 (.bsl 9 1 [zs] [(0, 1)]) [.r 4] none [] <|
 .x 6 (.app 9 1 16 [zs]) [.s 4, .r 5] none [] <|
 .out [(1, .s 1), (4, .r 6), (40, .s 40), (41, .s 41), (42, .s 42)]
def e6r16 : EE := .q 0 .add [.s 42, .c (.int .i64 1)] none <|
 .out [(1, .s 1), (4, .s 4), (40, .s 40), (41, .s 41), (42, .r 0)]
def e6l17 : EC := (.seq (.reg e6r13 [1, 4, 40, 41, 42] 0) (.seq (.cond (.s 43) .skip (.exit 2)) (.seq (.block 3 (.seq (.reg e6r14 [1, 4, 40, 41, 42] 0) (.reg e6r15 [1, 4, 8, 40, 41, 42] 0))) (.reg e6r16 [1, 4, 40, 41, 42] 0))))
def e6r18 : EE := .q 0 (.fld 0) [.s 1] none <|
 .q 1 .ld [.r 0] none <|
 .q 2 .eql [.r 1, .c (.int .i64 8)] none <|
 .out [(1, .s 1), (4, .s 4), (56, .r 2)]
def e6r19 : EE := .q 0 (.fld 11) [.s 1] none <|
 .q 1 .ld [.r 0] none <|
 .q 2 .len [.r 1] none <|
 .out [(4, .s 4), (58, .r 1), (59, .r 2), (60, .c z)]
def e6r20 : EE := .q 0 .lss [.s 60, .s 59] none <|
 .out [(4, .s 4), (58, .s 58), (59, .s 59), (60, .s 60), (61, .r 0)]
def e6r21 : EE := .q 0 (.ixs 1) [.s 58, .s 60] none <|
 .q 1 .ld [.r 0] none <|
 .out [(4, .s 4), (10, .r 1), (58, .s 58), (59, .s 59), (60, .s 60)]
def e6r22 : EE := .x 2 (.call 17) [.s 10] none [] <|
 .x 3 (.bsl 9 1 [zs] [(0, 1)]) [.r 2] none [] <|
 .x 4 (.app 9 1 16 [zs]) [.s 4, .r 3] none [] <|
 .out [(4, .r 4), (58, .s 58), (59, .s 59), (60, .s 60)]
def e6r23 : EE := .q 0 .add [.s 60, .c (.int .i64 1)] none <|
 .out [(4, .s 4), (58, .s 58), (59, .s 59), (60, .r 0)]
def e6l24 : EC := (.seq (.reg e6r20 [4, 58, 59, 60] 0) (.seq (.cond (.s 61) .skip (.exit 4)) (.seq (.block 5 (.seq (.reg e6r21 [4, 58, 59, 60] 0) (.reg e6r22 [4, 10, 58, 59, 60] 0))) (.reg e6r23 [4, 58, 59, 60] 0))))
def e6r25 : EE := .x 1 (.call 20) [.s 4, .c (.str [32])] none [] <|
 .out [(2, .r 1)]
def e6 : EFn := ⟨(.seq (.reg e6r0 [0] 0) (.seq (.reg e6r1 [1] 0) (.seq (.seq (.reg e6r2 [1, 3] 0) (.cond (.s 15) (.seq (.reg e6r3 [] 0) .ret) .skip)) (.seq (.reg e6r4 [1, 3] 0) (.seq (.seq (.reg e6r5 [1, 4] 0) (.block 0 (.loop [1, 4, 22, 23, 24] e6l10))) (.seq (.seq (.reg e6r11 [1, 4] 0) (.cond (.s 38) (.seq (.reg e6r12 [1, 4] 0) (.block 2 (.loop [1, 4, 40, 41, 42] e6l17))) .skip)) (.seq (.seq (.reg e6r18 [1, 4] 0) (.cond (.s 56) (.seq (.reg e6r19 [1, 4] 0) (.block 4 (.loop [4, 58, 59, 60] e6l24))) .skip)) (.seq (.reg e6r25 [4] 0) .ret)))))))), [.slot 2], 72, 0⟩
theorem g6 : Good Tryz.prog 6 e6 := ⟨Tryz.f6, Tryz.func6, by kernel_rfl, by kernel_rfl, by kernel_rfl, by kernel_rfl⟩
/-! concord/shell.Parse -/
def e8r0 : EE := .x 0 (.alc [z, z, z, z, z, z, z, zs, zs, zs, zs, .nsl] 26) [] none [] <|
 .out [(0, .s 0), (2, .r 0)]
def e8r1 : EE := .q 1 .lenz [.s 0] none <|
 .q 2 .gtr [.r 1, .c (.int .i64 5000)] none <|
 .out [(0, .s 0), (2, .s 2), (7, .r 2)]
def e8r2 : EE := .q 0 (.bld [z, z, z, z, z, z, z, zs, zs, zs, zs, .nsl] []) [] none <|
 .x 1 (.st 12) [.s 2, .r 0] none [] <|
 .out [(2, .s 2), (3, .c (.int .i64 2))]
def e8r3 : EE := .x 1 (.call 23) [.s 0, .c (.str [32])] none [] <|
 .x 2 (.call 22) [.r 1] none [] <|
 .x 3 (.alc [z, z, z, z, z, z, z, zs, zs, zs, zs, .nsl] 26) [] none [] <|
 .x 4 (.st 12) [.r 3, .r 2] none [] <|
 .out [(0, .s 0), (2, .s 2), (4, .r 3)]
def e8r4 : EE := .q 1 .seql [.s 0, .c zs] none <|
 .q 3 (.lda 12) [.s 4] (some (.r 1, false)) <|
 .x 4 (.call 6) [.r 3] (some (.r 1, false)) [] <|
 .q 5 .mv [.s 0] (some (.r 1, false)) <|
 .q 6 .sneq [.r 4, .r 5] (some (.r 1, false)) <|
 .q 7 .pick [.r 1, .c (.bool true), .r 6] none <|
 .out [(2, .s 2), (4, .s 4), (19, .r 7)]
def e8r5 : EE := .q 0 (.bld [z, z, z, z, z, z, z, zs, zs, zs, zs, .nsl] []) [] none <|
 .x 1 (.st 12) [.s 2, .r 0] none [] <|
 .out [(2, .s 2), (3, .c (.int .i64 4))]
def e8r6 : EE := .q 0 (.lda 12) [.s 4] none <|
 .x 1 (.st 12) [.s 2, .r 0] none [] <|
 .out [(2, .s 2), (3, .c z)]
def e8 : EFn := ⟨(.seq (.reg e8r0 [0] 0) (.seq (.seq (.reg e8r1 [0, 2] 0) (.cond (.s 7) (.seq (.reg e8r2 [2] 0) .ret) .skip)) (.seq (.reg e8r3 [0, 2] 0) (.seq (.seq (.reg e8r4 [0, 2, 4] 0) (.cond (.s 19) (.seq (.reg e8r5 [2] 0) .ret) .skip)) (.seq (.reg e8r6 [2, 4] 0) .ret))))), [.cells 2 12, .slot 3], 22, 0⟩
theorem g8 : Good Tryz.prog 8 e8 := ⟨Tryz.f8, Tryz.func8, by kernel_rfl, by kernel_rfl, by kernel_rfl, by kernel_rfl⟩
/-! concord/concordlaw29.ShellRuns -/
def e12r0 : EE := .out []
def e12r1 : EE := .q 0 (.bld [z, z, z, zs, zs, zs, zs] [(0, 1), (3, 1), (6, 1)]) [.c (.int .i64 2), .c (.str [97, 32, 98]), .c (.str [37])] none <|
 .q 1 (.bld [z, z, z, z, z, z, z, zs, zs, zs, zs, .nsl] [(0, 1), (3, 1), (4, 7)]) [.c (.int .i64 1), .c (.int .i64 1), .r 0] none <|
 .x 2 (.call 6) [.r 1] none [] <|
 .out [(1, .r 2)]
def e12r2 : EE := .x 0 (.bsl 3 2 [z, z] [(0, 1), (1, 1)]) [.c (.int .i64 1), .c (.int .i64 (-5))] none [] <|
 .q 1 (.bld [z, z, z, z, z, z, z, zs, zs, zs, zs, .nsl] [(0, 1), (1, 1), (11, 1)]) [.c (.int .i64 8), .c (.int .i64 2), .r 0] none <|
 .x 2 (.call 6) [.r 1] none [] <|
 .out [(1, .s 1), (2, .r 2)]
def e12r3 : EE := .x 0 (.call 8) [.c (.str [116, 105, 99, 107, 32, 48, 49])] none [] <|
 .q 2 (.ext 0) [.r 0] none <|
 .q 3 (.ext 1) [.r 0] none <|
 .x 4 (.alc [z, z, z, z, z, z, z, zs, zs, zs, zs, .nsl] 26) [] none [] <|
 .x 5 (.st 12) [.r 4, .r 2] none [] <|
 .out [(1, .s 1), (2, .s 2), (4, .r 3)]
def e12r4 : EE := .x 0 (.call 8) [.c (.str [103, 101, 116, 32, 49, 32, 48, 32, 97])] none [] <|
 .q 2 (.ext 0) [.r 0] none <|
 .q 3 (.ext 1) [.r 0] none <|
 .x 4 (.alc [z, z, z, z, z, z, z, zs, zs, zs, zs, .nsl] 26) [] none [] <|
 .x 5 (.st 12) [.r 4, .r 2] none [] <|
 .out [(1, .s 1), (2, .s 2), (4, .s 4), (6, .r 3)]
def e12r5 : EE := .x 0 (.call 25) [.c (.int .i64 3), .c (.str [116, 105, 99, 107, 32, 48])] none [] <|
 .q 2 (.ext 0) [.r 0] none <|
 .q 3 (.ext 1) [.r 0] none <|
 .q 4 (.ext 2) [.r 0] none <|
 .out [(1, .s 1), (2, .s 2), (4, .s 4), (6, .s 6), (7, .r 2), (8, .r 3), (9, .r 4)]
def e12r6 : EE := .q 1 .seql [.s 1, .c (.str [112, 117, 116, 32, 49, 32, 48, 32, 61, 97, 37, 50, 48, 98, 32, 61, 37, 50, 53])] none <|
 .q 3 .mv [.s 2] (some (.r 1, true)) <|
 .q 4 .seql [.r 3, .c (.str [99, 114, 97, 115, 104, 32, 50, 32, 49, 32, 45, 53])] (some (.r 1, true)) <|
 .q 5 .pick [.r 1, .r 4, .c (.bool false)] none <|
 .q 7 .mv [.s 4] (some (.r 5, true)) <|
 .q 8 .eql [.r 7, .c (.int .i64 4)] (some (.r 5, true)) <|
 .q 9 .pick [.r 5, .r 8, .c (.bool false)] none <|
 .q 11 .mv [.s 6] (some (.r 9, true)) <|
 .q 12 .eql [.r 11, .c (.int .i64 4)] (some (.r 9, true)) <|
 .q 13 .pick [.r 9, .r 12, .c (.bool false)] none <|
 .q 15 .mv [.s 7] (some (.r 13, true)) <|
 .q 16 .seql [.r 15, .c (.str [121, 101, 115, 10, 117, 112, 32, 51, 32, 99, 111, 109, 109, 105, 116, 116, 101, 100, 32, 48, 32, 102, 105, 110, 101, 10])] (some (.r 13, true)) <|
 .q 17 .pick [.r 13, .r 16, .c (.bool false)] none <|
 .q 19 .mv [.s 8] (some (.r 17, true)) <|
 .q 20 .eql [.r 19, .c z] (some (.r 17, true)) <|
 .q 21 .pick [.r 17, .r 20, .c (.bool false)] none <|
 .q 23 .mv [.s 9] (some (.r 21, true)) <|
 .q 24 .eql [.r 23, .c z] (some (.r 21, true)) <|
 .q 25 .pick [.r 21, .r 24, .c (.bool false)] none <|
 .out [(0, .r 25)]
def e12 : EFn := ⟨(.seq (.reg e12r0 [] 0) (.seq (.reg e12r1 [] 0) (.seq (.reg e12r2 [1] 0) (.seq (.reg e12r3 [1, 2] 0) (.seq (.reg e12r4 [1, 2, 4] 0) (.seq (.reg e12r5 [1, 2, 4, 6] 0) (.seq (.reg e12r6 [1, 2, 4, 6, 7, 8, 9] 0) .ret))))))), [.slot 0], 55, 0⟩
theorem g12 : Good Tryz.prog 12 e12 := ⟨Tryz.f12, Tryz.func12, by kernel_rfl, by kernel_rfl, by kernel_rfl, by kernel_rfl⟩
/-! slices.IndexFunc[[]concord/shell.kind,concord/shell.kind] -/
def e13r0 : EE := .out [(0, .s 0), (1, .s 1)]
def e13r1 : EE := .q 1 .len [.s 0] none <|
 .out [(0, .s 0), (1, .s 1), (7, .r 1), (8, .c z)]
def e13r2 : EE := .q 0 .lss [.s 8, .s 7] none <|
 .out [(0, .s 0), (1, .s 1), (7, .s 7), (8, .s 8), (9, .r 0)]
def e13r3 : EE := .out [(0, .s 0), (1, .s 1), (5, .s 8), (7, .s 7), (8, .s 8)]
def e13r4 : EE := .q 3 (.ixs 4) [.s 0, .s 5] none <|
 .q 4 (.lda 4) [.r 3] none <|
 .x 5 .callv [.s 1, .r 4] none [] <|
 .out [(0, .s 0), (1, .s 1), (5, .s 5), (7, .s 7), (8, .s 8), (16, .r 5)]
def e13r5 : EE := .out [(4, .s 5)]
def e13r6 : EE := .q 0 .add [.s 8, .c (.int .i64 1)] none <|
 .out [(0, .s 0), (1, .s 1), (7, .s 7), (8, .r 0)]
def e13l7 : EC := (.seq (.reg e13r2 [0, 1, 7, 8] 0) (.seq (.cond (.s 9) .skip (.exit 0)) (.seq (.block 1 (.seq (.reg e13r3 [0, 1, 7, 8] 0) (.seq (.reg e13r4 [0, 1, 5, 7, 8] 0) (.cond (.s 16) (.seq (.reg e13r5 [5] 0) .ret) .skip)))) (.reg e13r6 [0, 1, 7, 8] 0))))
def e13r8 : EE := .out [(4, .c (.int .i64 (-1)))]
def e13 : EFn := ⟨(.seq (.reg e13r0 [0, 1] 0) (.seq (.seq (.reg e13r1 [0, 1] 0) (.block 0 (.loop [0, 1, 7, 8] e13l7))) (.seq (.reg e13r8 [] 0) .ret))), [.slot 4], 19, 0⟩
theorem g13 : Good Tryz.prog 13 e13 := ⟨Tryz.f13, Tryz.func13, by kernel_rfl, by kernel_rfl, by kernel_rfl, by kernel_rfl⟩
/-! concord/shell.kinds -/
def e14r0 : EE := .out []
def e14r1 : EE := .q 0 (.bld [zs, z, z, z] [(0, 1), (1, 1), (2, 1), (3, 1)]) [.c (.str [103, 101, 116]), .c (.int .i64 1), .c (.int .i64 1), .c (.int .i64 2)] none <|
 .q 1 (.bld [zs, z, z, z] [(0, 1), (1, 1), (2, 1), (3, 1)]) [.c (.str [112, 117, 116]), .c (.int .i64 1), .c (.int .i64 2), .c (.int .i64 2)] none <|
 .q 2 (.bld [zs, z, z, z] [(0, 1), (1, 1), (2, 1), (3, 1)]) [.c (.str [100, 101, 108]), .c (.int .i64 1), .c (.int .i64 3), .c (.int .i64 2)] none <|
 .q 3 (.bld [zs, z, z, z] [(0, 1), (1, 1), (2, 1), (3, 1)]) [.c (.str [115, 119, 97, 112]), .c (.int .i64 1), .c (.int .i64 4), .c (.int .i64 2)] none <|
 .q 4 (.bld [zs, z, z, z] [(0, 1), (1, 1), (2, 1), (3, 1)]) [.c (.str [114, 97, 110, 103, 101]), .c (.int .i64 1), .c (.int .i64 5), .c (.int .i64 2)] none <|
 .q 5 (.bld [zs, z, z, z] [(0, 1), (1, 1), (2, 1), (3, 1)]) [.c (.str [103, 105, 118, 101]), .c (.int .i64 2), .c z, .c (.int .i64 1)] none <|
 .q 6 (.bld [zs, z, z, z] [(0, 1), (1, 1), (2, 1), (3, 1)]) [.c (.str [99, 111, 112, 121]), .c (.int .i64 3), .c z, .c (.int .i64 1)] none <|
 .q 7 (.bld [zs, z, z, z] [(0, 1), (1, 1), (2, 1), (3, 1)]) [.c (.str [108, 111, 115, 101]), .c (.int .i64 4), .c z, .c (.int .i64 1)] none <|
 .q 8 (.bld [zs, z, z, z] [(0, 1), (1, 1), (2, 1), (3, 1)]) [.c (.str [116, 105, 99, 107]), .c (.int .i64 5), .c z, .c (.int .i64 1)] none <|
 .q 9 (.bld [zs, z, z, z] [(0, 1), (1, 1), (2, 1), (3, 1)]) [.c (.str [116, 105, 109, 101]), .c (.int .i64 6), .c z, .c (.int .i64 1)] none <|
 .q 10 (.bld [zs, z, z, z] [(0, 1), (1, 1), (2, 1), (3, 1)]) [.c (.str [115, 116, 97, 114, 116]), .c (.int .i64 9), .c z, .c (.int .i64 1)] none <|
 .q 11 (.bld [zs, z, z, z] [(0, 1), (1, 1), (2, 1), (3, 1)]) [.c (.str [97, 114, 109]), .c (.int .i64 7), .c z, .c (.int .i64 2)] none <|
 .q 12 (.bld [zs, z, z, z] [(0, 1), (1, 1), (2, 1), (3, 1)]) [.c (.str [99, 114, 97, 115, 104]), .c (.int .i64 8), .c z, .c (.int .i64 1)] none <|
 .x 13 (.bsl 40 13 [zs, z, z, z, zs, z, z, z, zs, z, z, z, zs, z, z, z, zs, z, z, z, zs, z, z, z, zs, z, z, z, zs, z, z, z, zs, z, z, z, zs, z, z, z, zs, z, z, z, zs, z, z, z, zs, z, z, z] [(0, 4), (4, 4), (8, 4), (12, 4), (16, 4), (20, 4), (24, 4), (28, 4), (32, 4), (36, 4), (40, 4), (44, 4), (48, 4)]) [.r 0, .r 1, .r 2, .r 3, .r 4, .r 5, .r 6, .r 7, .r 8, .r 9, .r 10, .r 11, .r 12] none [] <|
 .out [(0, .r 13)]
def e14 : EFn := ⟨(.seq (.reg e14r0 [] 0) (.seq (.reg e14r1 [] 0) .ret)), [.slot 0], 15, 0⟩
theorem g14 : Good Tryz.prog 14 e14 := ⟨Tryz.f14, Tryz.func14, by kernel_rfl, by kernel_rfl, by kernel_rfl, by kernel_rfl⟩
/-! concord/shell.Line$1 -/
def e15r0 : EE := .x 0 (.box 40) [.s 0] none [] <|
 .out [(1, .s 1), (2, .r 0)]
def e15r1 : EE := .q 0 (.fld 1) [.s 2] none <|
 .q 1 .ld [.r 0] none <|
 .q 2 (.fld 0) [.s 1] none <|
 .q 3 .ld [.r 2] none <|
 .q 4 .eql [.r 1, .r 3] none <|
 .q 6 (.fld 1) [.s 2] (some (.r 4, true)) <|
 .q 7 .ld [.r 6] (some (.r 4, true)) <|
 .q 8 .neq [.r 7, .c (.int .i64 1)] (some (.r 4, true)) <|
 .q 9 .mv [.r 8] (some (.r 4, true)) <|
 .q 10 (.fld 2) [.s 2] (some (.r 9, false)) <|
 .q 11 .ld [.r 10] (some (.r 9, false)) <|
 .q 12 (.fld 4) [.s 1] (some (.r 9, false)) <|
 .q 13 (.fld 0) [.r 12] (some (.r 9, false)) <|
 .q 14 .ld [.r 13] (some (.r 9, false)) <|
 .q 15 .eql [.r 11, .r 14] (some (.r 9, false)) <|
 .q 16 .pick [.r 9, .c (.bool true), .r 15] (some (.r 4, true)) <|
 .q 17 .pick [.r 4, .r 16, .c (.bool false)] none <|
 .out [(3, .r 17)]
def e15 : EFn := ⟨(.seq (.reg e15r0 [0, 1] 0) (.seq (.reg e15r1 [1, 2] 0) .ret)), [.slot 3], 22, 0⟩
theorem g15 : Good Tryz.prog 15 e15 := ⟨Tryz.f15, Tryz.func15, by kernel_rfl, by kernel_rfl, by kernel_rfl, by kernel_rfl⟩
/-! concord/shell.numbers -/
def e16r0 : EE := .out [(0, .s 0)]
def e16r1 : EE := .q 1 .nl [.s 0] none <|
 .q 2 (.fld 0) [.r 1] none <|
 .q 3 .ld [.r 2] none <|
 .out [(0, .s 0), (6, .r 3)]
def e16r2 : EE := .q 0 .eql [.s 6, .c (.int .i64 1)] none <|
 .out [(0, .s 0), (6, .s 6), (7, .r 0)]
def e16r3 : EE := .q 1 .nl [.s 0] none <|
 .q 2 (.fld 3) [.r 1] none <|
 .q 4 .nl [.s 0] none <|
 .q 5 (.fld 1) [.r 4] none <|
 .x 6 (.bsl 47 2 [.nptr, .nptr] [(0, 1), (1, 1)]) [.r 2, .r 5] none [] <|
 .out [(2, .r 6)]
def e16r4 : EE := .q 0 .eql [.s 6, .c (.int .i64 7)] none <|
 .out [(0, .s 0), (16, .r 0)]
def e16r5 : EE := .q 1 .nl [.s 0] none <|
 .q 2 (.fld 1) [.r 1] none <|
 .q 4 .nl [.s 0] none <|
 .q 5 (.fld 2) [.r 4] none <|
 .x 6 (.bsl 47 2 [.nptr, .nptr] [(0, 1), (1, 1)]) [.r 2, .r 5] none [] <|
 .out [(2, .r 6)]
def e16r6 : EE := .q 1 .nl [.s 0] none <|
 .q 2 (.fld 1) [.r 1] none <|
 .x 3 (.bsl 47 1 [.nptr] [(0, 1)]) [.r 2] none [] <|
 .out [(2, .r 3)]
def e16 : EFn := ⟨(.seq (.reg e16r0 [0] 0) (.seq (.seq (.reg e16r1 [0] 0) (.block 0 (.seq (.reg e16r2 [0, 6] 0) (.cond (.s 7) (.seq (.reg e16r3 [0] 0) .ret) (.seq (.reg e16r4 [0, 6] 0) (.cond (.s 16) (.seq (.reg e16r5 [0] 0) .ret) .skip)))))) (.seq (.reg e16r6 [0] 0) .ret))), [.slot 2], 29, 0⟩
theorem g16 : Good Tryz.prog 16 e16 := ⟨Tryz.f16, Tryz.func16, by kernel_rfl, by kernel_rfl, by kernel_rfl, by kernel_rfl⟩
/-! strconv.Itoa -/
def e17r0 : EE := .out [(0, .s 0)]
def e17r1 : EE := .x 1 (.call 26) [.s 0] none [] <|
 .out [(2, .r 1)]
def e17 : EFn := ⟨(.seq (.reg e17r0 [0] 0) (.seq (.reg e17r1 [0] 0) .ret)), [.slot 2], 5, 0⟩
theorem g17 : Good Tryz.prog 17 e17 := ⟨Tryz.f17, Tryz.func17, by kernel_rfl, by kernel_rfl, by kernel_rfl, by kernel_rfl⟩
/-! concord/shell.texts -/
def e18r0 : EE := .out [(0, .s 0)]
def e18r1 : EE := .q 1 .nl [.s 0] none <|
 .q 2 (.fld 0) [.r 1] none <|
 .q 3 .ld [.r 2] none <|
 .out [(0, .s 0), (6, .r 3)]
def e18r2 : EE := .q 0 .eql [.s 6, .c (.int .i64 2)] none <|
 .out [(0, .s 0), (6, .s 6), (7, .r 0)]
def e18r3 : EE := .q 1 .nl [.s 0] none <|
 .q 2 (.fld 3) [.r 1] none <|
 .q 4 .nl [.s 0] none <|
 .q 5 (.fld 6) [.r 4] none <|
 .x 6 (.bsl 52 2 [.nptr, .nptr] [(0, 1), (1, 1)]) [.r 2, .r 5] none [] <|
 .out [(2, .r 6)]
def e18r4 : EE := .q 0 .eql [.s 6, .c (.int .i64 4)] none <|
 .out [(0, .s 0), (6, .s 6), (16, .r 0)]
def e18r5 : EE := .q 1 .nl [.s 0] none <|
 .q 2 (.fld 3) [.r 1] none <|
 .q 4 .nl [.s 0] none <|
 .q 5 (.fld 5) [.r 4] none <|
 .q 7 .nl [.s 0] none <|
 .q 8 (.fld 6) [.r 7] none <|
 .x 9 (.bsl 52 3 [.nptr, .nptr, .nptr] [(0, 1), (1, 1), (2, 1)]) [.r 2, .r 5, .r 8] none [] <|
 .out [(2, .r 9)]
def e18r6 : EE := .q 0 .eql [.s 6, .c (.int .i64 5)] none <|
 .out [(0, .s 0), (28, .r 0)]
def e18r7 : EE := .q 1 .nl [.s 0] none <|
 .q 2 (.fld 3) [.r 1] none <|
 .q 4 .nl [.s 0] none <|
 .q 5 (.fld 4) [.r 4] none <|
 .x 6 (.bsl 52 2 [.nptr, .nptr] [(0, 1), (1, 1)]) [.r 2, .r 5] none [] <|
 .out [(2, .r 6)]
def e18r8 : EE := .q 1 .nl [.s 0] none <|
 .q 2 (.fld 3) [.r 1] none <|
 .x 3 (.bsl 52 1 [.nptr] [(0, 1)]) [.r 2] none [] <|
 .out [(2, .r 3)]
def e18 : EFn := ⟨(.seq (.reg e18r0 [0] 0) (.seq (.seq (.reg e18r1 [0] 0) (.block 0 (.seq (.reg e18r2 [0, 6] 0) (.cond (.s 7) (.seq (.reg e18r3 [0] 0) .ret) (.seq (.reg e18r4 [0, 6] 0) (.cond (.s 16) (.seq (.reg e18r5 [0] 0) .ret) (.seq (.reg e18r6 [0, 6] 0) (.cond (.s 28) (.seq (.reg e18r7 [0] 0) .ret) .skip)))))))) (.seq (.reg e18r8 [0] 0) .ret))), [.slot 2], 41, 0⟩
theorem g18 : Good Tryz.prog 18 e18 := ⟨Tryz.f18, Tryz.func18, by kernel_rfl, by kernel_rfl, by kernel_rfl, by kernel_rfl⟩
/-! concord/shell.word -/
def e19r0 : EE := .out [(0, .s 0)]
def e19r1 : EE := .x 0 (.bsl 5 1 [(.int .u8 0)] [(0, 1)]) [.c (.int .u8 61)] none [] <|
 .out [(0, .s 0), (3, .r 0)]
def e19r2 : EE := .q 1 .lenz [.s 0] none <|
 .out [(0, .s 0), (3, .s 3), (8, .r 1), (9, .c z)]
def e19r3 : EE := .q 0 .lss [.s 9, .s 8] none <|
 .out [(0, .s 0), (3, .s 3), (8, .s 8), (9, .s 9), (10, .r 0)]
def e19r4 : EE := .out [(0, .s 0), (3, .s 3), (4, .s 9), (8, .s 8), (9, .s 9)]
def e19r5 : EE := .q 2 .idxs [.s 0, .s 4] none <|
 .out [(0, .s 0), (3, .s 3), (5, .r 2), (8, .s 8), (9, .s 9)]
def e19r6 : EE := .x 1 (.call 27) [.s 5] none [] <|
 .out [(0, .s 0), (3, .s 3), (5, .s 5), (8, .s 8), (9, .s 9), (16, .r 1)]
def e19r7 : EE := .x 2 (.bsl 5 1 [(.int .u8 0)] [(0, 1)]) [.s 5] none [] <|
 .x 3 (.app 5 1 1 [(.int .u8 0)]) [.s 3, .r 2] none [] <|
 .out [(0, .s 0), (3, .r 3), (8, .s 8), (9, .s 9)]
def e19r8 : EE := .q 2 .shr [.s 5, .c (.int .u64 4)] none <|
 .q 3 .idxs [.c (.str [48, 49, 50, 51, 52, 53, 54, 55, 56, 57, 97, 98, 99, 100, 101, 102]), .r 2] none <|
 .q 5 .and [.s 5, .c (.int .u8 15)] none <|
 .q 6 .idxs [.c (.str [48, 49, 50, 51, 52, 53, 54, 55, 56, 57, 97, 98, 99, 100, 101, 102]), .r 5] none <|
 .x 7 (.bsl 5 3 [(.int .u8 0), (.int .u8 0), (.int .u8 0)] [(0, 1), (1, 1), (2, 1)]) [.c (.int .u8 37), .r 3, .r 6] none [] <|
 .x 8 (.app 5 1 1 [(.int .u8 0)]) [.s 3, .r 7] none [] <|
 .out [(0, .s 0), (3, .r 8), (8, .s 8), (9, .s 9)]
def e19r9 : EE := .q 0 .add [.s 9, .c (.int .i64 1)] none <|
 .out [(0, .s 0), (3, .s 3), (8, .s 8), (9, .r 0)]
def e19l10 : EC := (.seq (.reg e19r3 [0, 3, 8, 9] 0) (.seq (.cond (.s 10) .skip (.exit 0)) (.seq (.block 1 (.seq (.reg e19r4 [0, 3, 8, 9] 0) (.seq (.reg e19r5 [0, 3, 4, 8, 9] 0) (.seq (.reg e19r6 [0, 3, 5, 8, 9] 0) (.cond (.s 16) (.reg e19r7 [0, 3, 5, 8, 9] 0) (.reg e19r8 [0, 3, 5, 8, 9] 0)))))) (.reg e19r9 [0, 3, 8, 9] 0))))
def e19r11 : EE := .q 1 .b2s [.s 3] none <|
 .out [(2, .r 1)]
def e19 : EFn := ⟨(.seq (.reg e19r0 [0] 0) (.seq (.reg e19r1 [0] 0) (.seq (.seq (.reg e19r2 [0, 3] 0) (.block 0 (.loop [0, 3, 8, 9] e19l10))) (.seq (.reg e19r11 [3] 0) .ret)))), [.slot 2], 33, 0⟩
theorem g19 : Good Tryz.prog 19 e19 := ⟨Tryz.f19, Tryz.func19, by kernel_rfl, by kernel_rfl, by kernel_rfl, by kernel_rfl⟩
/-! strings.Join -/
def e20r0 : EE := .out [(0, .s 0), (1, .s 1)]
def e20r1 : EE := .q 1 .len [.s 0] none <|
 .out [(0, .s 0), (1, .s 1), (12, .r 1)]
def e20r2 : EE := .q 0 .eql [.s 12, .c z] none <|
 .out [(0, .s 0), (1, .s 1), (12, .s 12), (13, .r 0)]
def e20r3 : EE := .out [(4, .c zs)]
def e20r4 : EE := .q 0 .eql [.s 12, .c (.int .i64 1)] none <|
 .out [(0, .s 0), (1, .s 1), (15, .r 0)]
def e20r5 : EE := .q 1 (.ixs 1) [.s 0, .c z] none <|
 .q 2 .ld [.r 1] none <|
 .out [(4, .r 2)]
def e20r6 : EE := .out [(0, .s 0), (1, .s 1), (5, .c z)]
def e20r7 : EE := .q 1 .lenz [.s 1] none <|
 .q 2 .gtr [.r 1, .c z] none <|
 .out [(0, .s 0), (1, .s 1), (5, .s 5), (22, .r 2)]
def e20r8 : EE := .q 1 .lenz [.s 1] none <|
 .q 3 .len [.s 0] none <|
 .q 4 .sub [.r 3, .c (.int .i64 1)] none <|
 .q 5 .quo [.c (.int .i64 9223372036854775807), .r 4] none <|
 .q 6 .geq [.r 1, .r 5] none <|
 .out [(0, .s 0), (1, .s 1), (5, .s 5), (29, .r 6)]
def e20r9 : EE := .q 0 (.mki 9) [.c (.str [115, 116, 114, 105, 110, 103, 115, 58, 32, 74, 111, 105, 110, 32, 111, 117, 116, 112, 117, 116, 32, 108, 101, 110, 103, 116, 104, 32, 111, 118, 101, 114, 102, 108, 111, 119])] none <|
 .x 1 .bad [] none [] <|
 .out [(0, .s 0), (1, .s 1), (5, .s 5)]
def e20r10 : EE := .q 2 .lenz [.s 1] none <|
 .q 4 .len [.s 0] none <|
 .q 5 .sub [.r 4, .c (.int .i64 1)] none <|
 .q 6 .mul [.r 2, .r 5] none <|
 .q 7 .add [.s 5, .r 6] none <|
 .out [(0, .s 0), (1, .s 1), (5, .r 7)]
def e20r11 : EE := .q 1 .len [.s 0] none <|
 .out [(0, .s 0), (1, .s 1), (5, .s 5), (39, .s 0), (40, .r 1), (41, .c z)]
def e20r12 : EE := .q 0 .lss [.s 41, .s 40] none <|
 .out [(0, .s 0), (1, .s 1), (5, .s 5), (39, .s 39), (40, .s 40), (41, .s 41), (42, .r 0)]
def e20r13 : EE := .q 0 (.ixs 1) [.s 39, .s 41] none <|
 .q 1 .ld [.r 0] none <|
 .out [(0, .s 0), (1, .s 1), (5, .s 5), (7, .r 1), (39, .s 39), (40, .s 40), (41, .s 41)]
def e20r14 : EE := .q 1 .lenz [.s 7] none <|
 .q 3 .sub [.c (.int .i64 9223372036854775807), .s 5] none <|
 .q 4 .gtr [.r 1, .r 3] none <|
 .out [(0, .s 0), (1, .s 1), (5, .s 5), (7, .s 7), (39, .s 39), (40, .s 40), (41, .s 41), (49, .r 4)]
def e20r15 : EE := .q 0 (.mki 9) [.c (.str [115, 116, 114, 105, 110, 103, 115, 58, 32, 74, 111, 105, 110, 32, 111, 117, 116, 112, 117, 116, 32, 108, 101, 110, 103, 116, 104, 32, 111, 118, 101, 114, 102, 108, 111, 119])] none <|
 .x 1 .bad [] none [] <|
 .out [(0, .s 0), (1, .s 1), (5, .s 5), (7, .s 7), (39, .s 39), (40, .s 40), (41, .s 41)]
def e20r16 : EE := .q 2 .lenz [.s 7] none <|
 .q 3 .add [.s 5, .r 2] none <|
 .out [(0, .s 0), (1, .s 1), (5, .r 3), (39, .s 39), (40, .s 40), (41, .s 41)]
def e20r17 : EE := .q 0 .add [.s 41, .c (.int .i64 1)] none <|
 .out [(0, .s 0), (1, .s 1), (5, .s 5), (39, .s 39), (40, .s 40), (41, .r 0)]
def e20l18 : EC := (.seq (.reg e20r12 [0, 1, 5, 39, 40, 41] 0) (.seq (.cond (.s 42) .skip (.exit 1)) (.seq (.block 2 (.seq (.reg e20r13 [0, 1, 5, 39, 40, 41] 0) (.seq (.seq (.reg e20r14 [0, 1, 5, 7, 39, 40, 41] 0) (.cond (.s 49) (.reg e20r15 [0, 1, 5, 7, 39, 40, 41] 0) .skip)) (.reg e20r16 [0, 1, 5, 7, 39, 40, 41] 0)))) (.reg e20r17 [0, 1, 5, 39, 40, 41] 0))))
def e20r19 : EE := .x 0 (.talc [.nptr, .nsl] 65) [] none [] <|
 .out [(0, .s 0), (1, .s 1), (5, .s 5), (8, .r 0)]
def e20r20 : EE := .x 1 (.call 28) [.s 8, .s 5] none [] <|
 .out [(0, .s 0), (1, .s 1), (8, .s 8)]
def e20r21 : EE := .q 1 (.ixs 1) [.s 0, .c z] none <|
 .q 2 .ld [.r 1] none <|
 .x 3 (.call 29) [.s 8, .r 2] none [] <|
 .out [(0, .s 0), (1, .s 1), (8, .s 8)]
def e20r22 : EE := .q 1 (.slc 1 true false) [.s 0, .c (.int .i64 1)] none <|
 .q 2 .len [.r 1] none <|
 .out [(1, .s 1), (8, .s 8), (63, .r 1), (64, .r 2), (65, .c z)]
def e20r23 : EE := .q 0 .lss [.s 65, .s 64] none <|
 .out [(1, .s 1), (8, .s 8), (63, .s 63), (64, .s 64), (65, .s 65), (66, .r 0)]
def e20r24 : EE := .q 0 (.ixs 1) [.s 63, .s 65] none <|
 .q 1 .ld [.r 0] none <|
 .out [(1, .s 1), (8, .s 8), (10, .r 1), (63, .s 63), (64, .s 64), (65, .s 65)]
def e20r25 : EE := .x 1 (.call 29) [.s 8, .s 1] none [] <|
 .out [(1, .s 1), (8, .s 8), (10, .s 10), (63, .s 63), (64, .s 64), (65, .s 65)]
def e20r26 : EE := .x 1 (.call 29) [.s 8, .s 10] none [] <|
 .out [(1, .s 1), (8, .s 8), (63, .s 63), (64, .s 64), (65, .s 65)]
def e20r27 : EE := .q 0 .add [.s 65, .c (.int .i64 1)] none <|
 .out [(1, .s 1), (8, .s 8), (63, .s 63), (64, .s 64), (65, .r 0)]
def e20l28 : EC := (.seq (.reg e20r23 [1, 8, 63, 64, 65] 0) (.seq (.cond (.s 66) .skip (.exit 3)) (.seq (.block 4 (.seq (.reg e20r24 [1, 8, 63, 64, 65] 0) (.seq (.reg e20r25 [1, 8, 10, 63, 64, 65] 0) (.reg e20r26 [1, 8, 10, 63, 64, 65] 0)))) (.reg e20r27 [1, 8, 63, 64, 65] 0))))
def e20r29 : EE := .x 0 (.call 30) [.s 8] none [] <|
 .out [(4, .r 0)]
def e20 : EFn := ⟨(.seq (.reg e20r0 [0, 1] 0) (.seq (.seq (.reg e20r1 [0, 1] 0) (.block 0 (.seq (.reg e20r2 [0, 1, 12] 0) (.cond (.s 13) (.seq (.reg e20r3 [] 0) .ret) (.seq (.reg e20r4 [0, 1, 12] 0) (.cond (.s 15) (.seq (.reg e20r5 [0] 0) .ret) .skip)))))) (.seq (.reg e20r6 [0, 1] 0) (.seq (.seq (.reg e20r7 [0, 1, 5] 0) (.cond (.s 22) (.seq (.seq (.reg e20r8 [0, 1, 5] 0) (.cond (.s 29) (.reg e20r9 [0, 1, 5] 0) .skip)) (.reg e20r10 [0, 1, 5] 0)) .skip)) (.seq (.seq (.reg e20r11 [0, 1, 5] 0) (.block 1 (.loop [0, 1, 5, 39, 40, 41] e20l18))) (.seq (.reg e20r19 [0, 1, 5] 0) (.seq (.reg e20r20 [0, 1, 5, 8] 0) (.seq (.reg e20r21 [0, 1, 8] 0) (.seq (.seq (.reg e20r22 [0, 1, 8] 0) (.block 3 (.loop [1, 8, 63, 64, 65] e20l28))) (.seq (.reg e20r29 [8] 0) .ret)))))))))), [.slot 4], 75, 0⟩
theorem g20 : Good Tryz.prog 20 e20 := ⟨Tryz.f20, Tryz.func20, by kernel_rfl, by kernel_rfl, by kernel_rfl, by kernel_rfl⟩
/-! concord/shell.read -/
def e22r0 : EE := .x 0 (.alc [z, z, z, z, z, z, z, zs, zs, zs, zs, .nsl] 26) [] none [] <|
 .out [(0, .s 0), (2, .r 0)]
def e22r1 : EE := .x 0 (.alc [z, z, z, z, z, z, z, zs, zs, zs, zs, .nsl] 26) [] none [] <|
 .out [(0, .s 0), (2, .s 2), (3, .r 0)]
def e22r2 : EE := .x 0 (.call 14) [] none [] <|
 .q 1 .len [.r 0] none <|
 .out [(0, .s 0), (2, .s 2), (3, .s 3), (12, .r 0), (13, .r 1), (14, .c z)]
def e22r3 : EE := .q 0 .lss [.s 14, .s 13] none <|
 .out [(0, .s 0), (2, .s 2), (3, .s 3), (12, .s 12), (13, .s 13), (14, .s 14), (15, .r 0)]
def e22r4 : EE := .q 0 (.ixs 4) [.s 12, .s 14] none <|
 .q 1 (.lda 4) [.r 0] none <|
 .x 2 (.alc [zs, z, z, z] 40) [] none [] <|
 .x 3 (.st 4) [.r 2, .r 1] none [] <|
 .out [(0, .s 0), (2, .s 2), (3, .s 3), (5, .r 2), (12, .s 12), (13, .s 13), (14, .s 14)]
def e22r5 : EE := .q 0 (.fld 0) [.s 5] none <|
 .q 1 .ld [.r 0] none <|
 .q 3 (.ixs 1) [.s 0, .c z] none <|
 .q 4 .ld [.r 3] none <|
 .q 5 .seql [.r 1, .r 4] none <|
 .out [(0, .s 0), (2, .s 2), (3, .s 3), (5, .s 5), (12, .s 12), (13, .s 13), (14, .s 14), (23, .r 5)]
def e22r6 : EE := .q 0 (.fld 1) [.s 5] none <|
 .q 1 .ld [.r 0] none <|
 .q 2 (.fld 2) [.s 5] none <|
 .q 3 .ld [.r 2] none <|
 .q 4 (.fld 0) [.s 3] none <|
 .x 5 (.st 1) [.r 4, .r 1] none [⟨3, .ld, [.r 2], none⟩] <|
 .q 6 (.fld 4) [.s 3] none <|
 .q 7 (.fld 0) [.r 6] none <|
 .x 8 (.st 1) [.r 7, .r 3] none [] <|
 .out [(0, .s 0), (2, .s 2), (3, .s 3), (12, .s 12), (13, .s 13), (14, .s 14)]
def e22r7 : EE := .q 0 .add [.s 14, .c (.int .i64 1)] none <|
 .out [(0, .s 0), (2, .s 2), (3, .s 3), (12, .s 12), (13, .s 13), (14, .r 0)]
def e22l8 : EC := (.seq (.reg e22r3 [0, 2, 3, 12, 13, 14] 0) (.seq (.cond (.s 15) .skip (.exit 0)) (.seq (.block 1 (.seq (.reg e22r4 [0, 2, 3, 12, 13, 14] 0) (.seq (.reg e22r5 [0, 2, 3, 5, 12, 13, 14] 0) (.cond (.s 23) (.reg e22r6 [0, 2, 3, 5, 12, 13, 14] 0) .skip)))) (.reg e22r7 [0, 2, 3, 12, 13, 14] 0))))
def e22r9 : EE := .q 1 (.slc 1 true false) [.s 0, .c (.int .i64 1)] none <|
 .out [(0, .r 1), (2, .s 2), (3, .s 3)]
def e22r10 : EE := .x 0 (.call 16) [.s 3] none [] <|
 .q 1 .len [.r 0] none <|
 .out [(0, .s 0), (2, .s 2), (3, .s 3), (34, .r 0), (35, .r 1), (36, .c z)]
def e22r11 : EE := .q 0 .lss [.s 36, .s 35] none <|
 .out [(0, .s 0), (2, .s 2), (3, .s 3), (34, .s 34), (35, .s 35), (36, .s 36), (37, .r 0)]
def e22r12 : EE := .q 0 (.ixs 1) [.s 34, .s 36] none <|
 .q 1 .ld [.r 0] none <|
 .out [(0, .s 0), (2, .s 2), (3, .s 3), (7, .r 1), (34, .s 34), (35, .s 35), (36, .s 36)]
def e22r13 : EE := .q 1 .len [.s 0] none <|
 .q 2 .gtr [.r 1, .c z] none <|
 .out [(0, .s 0), (2, .s 2), (3, .s 3), (7, .s 7), (34, .s 34), (35, .s 35), (36, .s 36), (42, .r 2)]
def e22r14 : EE := .q 2 (.ixs 1) [.s 0, .c z] none <|
 .q 3 .ld [.r 2] none <|
 .q 6 (.slc 1 true false) [.s 0, .c (.int .i64 1)] none <|
 .x 4 (.call 31) [.r 3] none [] <|
 .q 7 .nl [.s 7] none <|
 .x 8 (.st 1) [.r 7, .r 4] none [] <|
 .out [(0, .r 6), (2, .s 2), (3, .s 3), (34, .s 34), (35, .s 35), (36, .s 36)]
def e22r15 : EE := .q 0 .add [.s 36, .c (.int .i64 1)] none <|
 .out [(0, .s 0), (2, .s 2), (3, .s 3), (34, .s 34), (35, .s 35), (36, .r 0)]
def e22l16 : EC := (.seq (.reg e22r11 [0, 2, 3, 34, 35, 36] 0) (.seq (.cond (.s 37) .skip (.exit 2)) (.seq (.block 3 (.seq (.reg e22r12 [0, 2, 3, 34, 35, 36] 0) (.seq (.reg e22r13 [0, 2, 3, 7, 34, 35, 36] 0) (.cond (.s 42) (.reg e22r14 [0, 2, 3, 7, 34, 35, 36] 0) .skip)))) (.reg e22r15 [0, 2, 3, 34, 35, 36] 0))))
def e22r17 : EE := .q 0 (.fld 0) [.s 3] none <|
 .q 1 .ld [.r 0] none <|
 .q 2 .eql [.r 1, .c (.int .i64 1)] none <|
 .out [(0, .s 0), (2, .s 2), (3, .s 3), (54, .r 2)]
def e22r18 : EE := .q 0 (.fld 4) [.s 3] none <|
 .x 1 (.call 18) [.r 0] none [] <|
 .q 2 .len [.r 1] none <|
 .out [(0, .s 0), (2, .s 2), (3, .s 3), (56, .r 1), (57, .r 2), (58, .c z)]
def e22r19 : EE := .q 0 .lss [.s 58, .s 57] none <|
 .out [(0, .s 0), (2, .s 2), (3, .s 3), (56, .s 56), (57, .s 57), (58, .s 58), (59, .r 0)]
def e22r20 : EE := .q 0 (.ixs 1) [.s 56, .s 58] none <|
 .q 1 .ld [.r 0] none <|
 .out [(0, .s 0), (2, .s 2), (3, .s 3), (9, .r 1), (56, .s 56), (57, .s 57), (58, .s 58)]
def e22r21 : EE := .q 1 .len [.s 0] none <|
 .q 2 .gtr [.r 1, .c z] none <|
 .out [(0, .s 0), (2, .s 2), (3, .s 3), (9, .s 9), (56, .s 56), (57, .s 57), (58, .s 58), (64, .r 2)]
def e22r22 : EE := .q 2 (.ixs 1) [.s 0, .c z] none <|
 .q 3 .ld [.r 2] none <|
 .q 6 (.slc 1 true false) [.s 0, .c (.int .i64 1)] none <|
 .x 4 (.call 32) [.r 3] none [] <|
 .q 7 .nl [.s 9] none <|
 .x 8 (.st 1) [.r 7, .r 4] none [] <|
 .out [(0, .r 6), (2, .s 2), (3, .s 3), (56, .s 56), (57, .s 57), (58, .s 58)]
def e22r23 : EE := .q 0 .add [.s 58, .c (.int .i64 1)] none <|
 .out [(0, .s 0), (2, .s 2), (3, .s 3), (56, .s 56), (57, .s 57), (58, .r 0)]
def e22l24 : EC := (.seq (.reg e22r19 [0, 2, 3, 56, 57, 58] 0) (.seq (.cond (.s 59) .skip (.exit 4)) (.seq (.block 5 (.seq (.reg e22r20 [0, 2, 3, 56, 57, 58] 0) (.seq (.reg e22r21 [0, 2, 3, 9, 56, 57, 58] 0) (.cond (.s 64) (.reg e22r22 [0, 2, 3, 9, 56, 57, 58] 0) .skip)))) (.reg e22r23 [0, 2, 3, 56, 57, 58] 0))))
def e22r25 : EE := .q 0 (.fld 0) [.s 3] none <|
 .q 1 .ld [.r 0] none <|
 .q 2 .eql [.r 1, .c (.int .i64 8)] none <|
 .out [(0, .s 0), (2, .s 2), (3, .s 3), (76, .r 2)]
def e22r26 : EE := .q 1 .len [.s 0] none <|
 .out [(2, .s 2), (3, .s 3), (77, .s 0), (78, .r 1), (79, .c z)]
def e22r27 : EE := .q 0 .lss [.s 79, .s 78] none <|
 .out [(2, .s 2), (3, .s 3), (77, .s 77), (78, .s 78), (79, .s 79), (80, .r 0)]
def e22r28 : EE := .q 0 (.ixs 1) [.s 77, .s 79] none <|
 .q 1 .ld [.r 0] none <|
 .out [(2, .s 2), (3, .s 3), (11, .r 1), (77, .s 77), (78, .s 78), (79, .s 79)]
def e22r29 : EE := .q 0 (.fld 11) [.s 3] none <|
 .q 1 .ld [.r 0] none <|
 .x 3 (.call 31) [.s 11] none [⟨1, .ld, [.r 0], none⟩] <|
 .x 4 (.bsl 3 1 [z] [(0, 1)]) [.r 3] none [⟨1, .ld, [.r 0], none⟩] <|
 .x 5 (.app 3 1 8 [z]) [.r 1, .r 4] none [] <|
 .q 6 (.fld 11) [.s 3] none <|
 .x 7 (.st 1) [.r 6, .r 5] none [] <|
 .out [(2, .s 2), (3, .s 3), (77, .s 77), (78, .s 78), (79, .s 79)]
def e22r30 : EE := .q 0 .add [.s 79, .c (.int .i64 1)] none <|
 .out [(2, .s 2), (3, .s 3), (77, .s 77), (78, .s 78), (79, .r 0)]
def e22l31 : EC := (.seq (.reg e22r27 [2, 3, 77, 78, 79] 0) (.seq (.cond (.s 80) .skip (.exit 6)) (.seq (.block 7 (.seq (.reg e22r28 [2, 3, 77, 78, 79] 0) (.reg e22r29 [2, 3, 11, 77, 78, 79] 0))) (.reg e22r30 [2, 3, 77, 78, 79] 0))))
def e22r32 : EE := .q 0 (.lda 12) [.s 3] none <|
 .x 1 (.st 12) [.s 2, .r 0] none [] <|
 .out [(2, .s 2)]
def e22 : EFn := ⟨(.seq (.reg e22r0 [0] 0) (.seq (.reg e22r1 [0, 2] 0) (.seq (.seq (.reg e22r2 [0, 2, 3] 0) (.block 0 (.loop [0, 2, 3, 12, 13, 14] e22l8))) (.seq (.reg e22r9 [0, 2, 3] 0) (.seq (.seq (.reg e22r10 [0, 2, 3] 0) (.block 2 (.loop [0, 2, 3, 34, 35, 36] e22l16))) (.seq (.seq (.reg e22r17 [0, 2, 3] 0) (.cond (.s 54) (.seq (.reg e22r18 [0, 2, 3] 0) (.block 4 (.loop [0, 2, 3, 56, 57, 58] e22l24))) .skip)) (.seq (.seq (.reg e22r25 [0, 2, 3] 0) (.cond (.s 76) (.seq (.reg e22r26 [0, 2, 3] 0) (.block 6 (.loop [2, 3, 77, 78, 79] e22l31))) .skip)) (.seq (.reg e22r32 [2, 3] 0) .ret)))))))), [.cells 2 12], 92, 0⟩
theorem g22 : Good Tryz.prog 22 e22 := ⟨Tryz.f22, Tryz.func22, by kernel_rfl, by kernel_rfl, by kernel_rfl, by kernel_rfl⟩
/-! strings.Split -/
def e23r0 : EE := .out [(0, .s 0), (1, .s 1)]
def e23r1 : EE := .x 2 (.call 33) [.s 0, .s 1, .c z, .c (.int .i64 (-1))] none [] <|
 .out [(4, .r 2)]
def e23 : EFn := ⟨(.seq (.reg e23r0 [0, 1] 0) (.seq (.reg e23r1 [0, 1] 0) .ret)), [.slot 4], 8, 0⟩
theorem g23 : Good Tryz.prog 23 e23 := ⟨Tryz.f23, Tryz.func23, by kernel_rfl, by kernel_rfl, by kernel_rfl, by kernel_rfl⟩
/-! concord/shell.Run -/
def e25r0 : EE := .out [(0, .s 0), (1, .s 1)]
def e25r1 : EE := .x 1 (.call 34) [.s 1] none [] <|
 .q 3 (.ext 0) [.r 1] none <|
 .q 4 (.ext 1) [.r 1] none <|
 .q 5 (.ext 2) [.r 1] none <|
 .out [(0, .s 0), (7, .r 3), (8, .r 4), (9, .r 5)]
def e25r2 : EE := .q 1 .neq [.s 9, .c z] none <|
 .out [(0, .s 0), (7, .s 7), (8, .s 8), (9, .s 9), (25, .r 1)]
def e25r3 : EE := .out [(4, .c zs), (5, .s 8), (6, .s 9)]
def e25r4 : EE := .x 1 (.call 35) [.s 0] none [] <|
 .q 3 (.ext 0) [.r 1] none <|
 .q 4 (.ext 1) [.r 1] none <|
 .out [(7, .s 7), (9, .r 4), (10, .r 3)]
def e25r5 : EE := .q 1 .neq [.s 9, .c z] none <|
 .out [(7, .s 7), (9, .s 9), (10, .s 10), (34, .r 1)]
def e25r6 : EE := .out [(4, .c zs), (5, .c z), (6, .s 9)]
def e25r7 : EE := .x 0 (.talc [.nptr, .nsl] 65) [] none [] <|
 .out [(7, .s 7), (10, .s 10), (11, .r 0)]
def e25r8 : EE := .q 1 .len [.s 7] none <|
 .out [(10, .s 10), (11, .s 11), (36, .s 7), (37, .r 1), (38, .c z)]
def e25r9 : EE := .q 0 .lss [.s 38, .s 37] none <|
 .out [(10, .s 10), (11, .s 11), (36, .s 36), (37, .s 37), (38, .s 38), (39, .r 0)]
def e25r10 : EE := .q 0 (.ixs 12) [.s 36, .s 38] none <|
 .q 1 (.lda 12) [.r 0] none <|
 .x 2 (.alc [z, z, z, z, z, z, z, zs, zs, zs, zs, .nsl] 26) [] none [] <|
 .x 3 (.st 12) [.r 2, .r 1] none [] <|
 .out [(10, .s 10), (11, .s 11), (13, .r 2), (36, .s 36), (37, .s 37), (38, .s 38)]
def e25r11 : EE := .q 1 (.lda 12) [.s 13] none <|
 .x 2 (.call 36) [.s 10, .r 1] none [] <|
 .out [(10, .s 10), (11, .s 11), (36, .s 36), (37, .s 37), (38, .s 38), (44, .r 2)]
def e25r12 : EE := .x 0 (.call 29) [.s 11, .c (.str [121, 101, 115, 10])] none [] <|
 .out [(10, .s 10), (11, .s 11), (36, .s 36), (37, .s 37), (38, .s 38)]
def e25r13 : EE := .x 0 (.call 29) [.s 11, .c (.str [110, 111, 10])] none [] <|
 .out [(10, .s 10), (11, .s 11), (36, .s 36), (37, .s 37), (38, .s 38)]
def e25r14 : EE := .q 0 .add [.s 38, .c (.int .i64 1)] none <|
 .out [(10, .s 10), (11, .s 11), (36, .s 36), (37, .s 37), (38, .r 0)]
def e25l15 : EC := (.seq (.reg e25r9 [10, 11, 36, 37, 38] 0) (.seq (.cond (.s 39) .skip (.exit 0)) (.seq (.block 1 (.seq (.reg e25r10 [10, 11, 36, 37, 38] 0) (.seq (.reg e25r11 [10, 11, 13, 36, 37, 38] 0) (.cond (.s 44) (.reg e25r12 [10, 11, 36, 37, 38] 0) (.reg e25r13 [10, 11, 36, 37, 38] 0))))) (.reg e25r14 [10, 11, 36, 37, 38] 0))))
def e25r16 : EE := .x 1 (.call 37) [.s 10] none [] <|
 .q 2 .len [.r 1] none <|
 .out [(10, .s 10), (11, .s 11), (49, .r 1), (50, .r 2), (51, .c z)]
def e25r17 : EE := .q 0 .lss [.s 51, .s 50] none <|
 .out [(10, .s 10), (11, .s 11), (49, .s 49), (50, .s 50), (51, .s 51), (52, .r 0)]
def e25r18 : EE := .q 0 (.ixs 14) [.s 49, .s 51] none <|
 .q 1 (.lda 14) [.r 0] none <|
 .x 2 (.alc [z, z, z, z, z, zs, zs, zs, zs, z, (.bool false), zs, z, .nsl] 86) [] none [] <|
 .x 3 (.st 14) [.r 2, .r 1] none [] <|
 .out [(10, .s 10), (11, .s 11), (15, .r 2), (49, .s 49), (50, .s 50), (51, .s 51)]
def e25r19 : EE := .q 0 (.lda 14) [.s 15] none <|
 .x 1 (.call 38) [.r 0] none [] <|
 .x 2 (.call 29) [.s 11, .r 1] none [] <|
 .out [(10, .s 10), (11, .s 11), (49, .s 49), (50, .s 50), (51, .s 51)]
def e25r20 : EE := .q 0 .add [.s 51, .c (.int .i64 1)] none <|
 .out [(10, .s 10), (11, .s 11), (49, .s 49), (50, .s 50), (51, .r 0)]
def e25l21 : EC := (.seq (.reg e25r17 [10, 11, 49, 50, 51] 0) (.seq (.cond (.s 52) .skip (.exit 2)) (.seq (.block 3 (.seq (.reg e25r18 [10, 11, 49, 50, 51] 0) (.reg e25r19 [10, 11, 15, 49, 50, 51] 0))) (.reg e25r20 [10, 11, 49, 50, 51] 0))))
def e25r22 : EE := .x 1 (.call 39) [.s 10] none [] <|
 .x 2 (.alc [z, z, z, z, z] 89) [] none [] <|
 .x 3 (.st 5) [.r 2, .r 1] none [] <|
 .out [(11, .s 11), (16, .r 2)]
def e25r23 : EE := .out [(11, .s 11), (16, .s 16), (17, .c (.str [110, 111, 116]))]
def e25r24 : EE := .q 0 (.lda 5) [.s 16] none <|
 .x 1 (.call 40) [.r 0] none [] <|
 .out [(11, .s 11), (16, .s 16), (17, .s 17), (62, .r 1)]
def e25r25 : EE := .out [(11, .s 11), (16, .s 16), (17, .c (.str [102, 105, 110, 101]))]
def e25r26 : EE := .q 0 (.fld 0) [.s 16] none <|
 .q 1 .ld [.r 0] none <|
 .q 5 (.fld 1) [.s 16] none <|
 .q 6 .ld [.r 5] none <|
 .x 2 (.call 17) [.r 1] none [⟨6, .ld, [.r 5], none⟩] <|
 .q 3 .sadd [.c (.str [117, 112, 32]), .r 2] none <|
 .q 4 .sadd [.r 3, .c (.str [32, 99, 111, 109, 109, 105, 116, 116, 101, 100, 32])] none <|
 .x 7 (.call 17) [.r 6] none [] <|
 .q 8 .sadd [.r 4, .r 7] none <|
 .q 9 .sadd [.r 8, .c (.str [32])] none <|
 .q 11 .sadd [.r 9, .s 17] none <|
 .q 12 .sadd [.r 11, .c (.str [10])] none <|
 .x 13 (.call 29) [.s 11, .r 12] none [] <|
 .out [(11, .s 11)]
def e25r27 : EE := .x 0 (.call 30) [.s 11] none [] <|
 .out [(4, .r 0), (5, .c z), (6, .c z)]
def e25 : EFn := ⟨(.seq (.reg e25r0 [0, 1] 0) (.seq (.reg e25r1 [0, 1] 0) (.seq (.seq (.reg e25r2 [0, 7, 8, 9] 0) (.cond (.s 25) (.seq (.reg e25r3 [8, 9] 0) .ret) .skip)) (.seq (.reg e25r4 [0, 7] 0) (.seq (.seq (.reg e25r5 [7, 9, 10] 0) (.cond (.s 34) (.seq (.reg e25r6 [9] 0) .ret) .skip)) (.seq (.reg e25r7 [7, 10] 0) (.seq (.seq (.reg e25r8 [7, 10, 11] 0) (.block 0 (.loop [10, 11, 36, 37, 38] e25l15))) (.seq (.seq (.reg e25r16 [10, 11] 0) (.block 2 (.loop [10, 11, 49, 50, 51] e25l21))) (.seq (.reg e25r22 [10, 11] 0) (.seq (.reg e25r23 [11, 16] 0) (.seq (.seq (.reg e25r24 [11, 16, 17] 0) (.cond (.s 62) (.reg e25r25 [11, 16] 0) .skip)) (.seq (.reg e25r26 [11, 16, 17] 0) (.seq (.reg e25r27 [11] 0) .ret))))))))))))), [.slot 4, .slot 5, .slot 6], 78, 0⟩
theorem g25 : Good Tryz.prog 25 e25 := ⟨Tryz.f25, Tryz.func25, by kernel_rfl, by kernel_rfl, by kernel_rfl, by kernel_rfl⟩
/-! internal/strconv.Itoa -/
def e26r0 : EE := .out [(0, .s 0)]
def e26r1 : EE := .x 1 (.call 41) [.s 0, .c (.int .i64 10)] none [] <|
 .out [(2, .r 1)]
def e26 : EFn := ⟨(.seq (.reg e26r0 [0] 0) (.seq (.reg e26r1 [0] 0) .ret)), [.slot 2], 5, 0⟩
theorem g26 : Good Tryz.prog 26 e26 := ⟨Tryz.f26, Tryz.func26, by kernel_rfl, by kernel_rfl, by kernel_rfl, by kernel_rfl⟩
/-! concord/shell.plain -/
def e27r0 : EE := .out [(0, .s 0)]
def e27r1 : EE := .q 1 .gtr [.s 0, .c (.int .u8 32)] none <|
 .q 3 .mv [.s 0] (some (.r 1, true)) <|
 .q 4 .lss [.r 3, .c (.int .u8 127)] (some (.r 1, true)) <|
 .q 5 .pick [.r 1, .r 4, .c (.bool false)] none <|
 .q 7 .mv [.s 0] (some (.r 5, true)) <|
 .q 8 .neq [.r 7, .c (.int .u8 37)] (some (.r 5, true)) <|
 .q 9 .pick [.r 5, .r 8, .c (.bool false)] none <|
 .out [(2, .r 9)]
def e27 : EFn := ⟨(.seq (.reg e27r0 [0] 0) (.seq (.reg e27r1 [0] 0) .ret)), [.slot 2], 13, 0⟩
theorem g27 : Good Tryz.prog 27 e27 := ⟨Tryz.f27, Tryz.func27, by kernel_rfl, by kernel_rfl, by kernel_rfl, by kernel_rfl⟩
/-! (*strings.Builder).Grow -/
def e28r0 : EE := .x 1 (.call 42) [.s 0] none [] <|
 .out [(0, .s 0), (1, .s 1)]
def e28r1 : EE := .q 1 .lss [.s 1, .c z] none <|
 .out [(0, .s 0), (1, .s 1), (7, .r 1)]
def e28r2 : EE := .q 0 (.mki 9) [.c (.str [115, 116, 114, 105, 110, 103, 115, 46, 66, 117, 105, 108, 100, 101, 114, 46, 71, 114, 111, 119, 58, 32, 110, 101, 103, 97, 116, 105, 118, 101, 32, 99, 111, 117, 110, 116])] none <|
 .x 1 .bad [] none [] <|
 .out [(0, .s 0), (1, .s 1)]
def e28r3 : EE := .q 1 .nl [.s 0] none <|
 .q 2 (.fld 1) [.r 1] none <|
 .q 3 .ld [.r 2] none <|
 .q 4 .cap [.r 3] none <|
 .q 6 .nl [.s 0] none <|
 .q 7 (.fld 1) [.r 6] none <|
 .q 8 .ld [.r 7] none <|
 .q 9 .len [.r 8] none <|
 .q 10 .sub [.r 4, .r 9] none <|
 .q 12 .lss [.r 10, .s 1] none <|
 .out [(0, .s 0), (1, .s 1), (21, .r 12)]
def e28r4 : EE := .x 2 (.call 43) [.s 0, .s 1] none [] <|
 .out []
def e28 : EFn := ⟨(.seq (.reg e28r0 [0, 1] 0) (.seq (.seq (.reg e28r1 [0, 1] 0) (.cond (.s 7) (.reg e28r2 [0, 1] 0) .skip)) (.seq (.reg e28r3 [0, 1] 0) (.cond (.s 21) (.reg e28r4 [0, 1] 0) .skip)))), [], 25, 0⟩
theorem g28 : Good Tryz.prog 28 e28 := ⟨Tryz.f28, Tryz.func28, by kernel_rfl, by kernel_rfl, by kernel_rfl, by kernel_rfl⟩
/-! (*strings.Builder).WriteString -/
def e29r0 : EE := .out [(0, .s 0), (1, .s 1)]
def e29r1 : EE := .x 1 (.call 42) [.s 0] none [] <|
 .out [(0, .s 0), (1, .s 1)]
def e29r2 : EE := .q 2 .nl [.s 0] none <|
 .q 3 (.fld 1) [.r 2] none <|
 .q 4 .ld [.r 3] none <|
 .x 6 (.tapps 5) [.r 4, .s 1] none [] <|
 .q 7 .nl [.s 0] none <|
 .q 8 (.fld 1) [.r 7] none <|
 .x 9 (.st 1) [.r 8, .r 6] none [] <|
 .out [(1, .s 1)]
def e29r3 : EE := .q 1 .lenz [.s 1] none <|
 .out [(4, .r 1), (5, .c .nif)]
def e29 : EFn := ⟨(.seq (.reg e29r0 [0, 1] 0) (.seq (.reg e29r1 [0, 1] 0) (.seq (.reg e29r2 [0, 1] 0) (.seq (.reg e29r3 [1] 0) .ret)))), [.slot 4, .slot 5], 19, 0⟩
theorem g29 : Good Tryz.prog 29 e29 := ⟨Tryz.f29, Tryz.func29, by kernel_rfl, by kernel_rfl, by kernel_rfl, by kernel_rfl⟩
/-! (*strings.Builder).String -/
def e30r0 : EE := .out [(0, .s 0)]
def e30r1 : EE := .q 1 .nl [.s 0] none <|
 .q 2 (.fld 1) [.r 1] none <|
 .q 3 .ld [.r 2] none <|
 .q 4 .usd [.r 3] none <|
 .q 6 .nl [.s 0] none <|
 .q 7 (.fld 1) [.r 6] none <|
 .q 8 .ld [.r 7] none <|
 .q 9 .len [.r 8] none <|
 .x 10 (.ust 5) [.r 4, .r 9] none [] <|
 .out [(2, .r 10)]
def e30 : EFn := ⟨(.seq (.reg e30r0 [0] 0) (.seq (.reg e30r1 [0] 0) .ret)), [.slot 2], 14, 0⟩
theorem g30 : Good Tryz.prog 30 e30 := ⟨Tryz.f30, Tryz.func30, by kernel_rfl, by kernel_rfl, by kernel_rfl, by kernel_rfl⟩
/-! concord/shell.number -/
def e31r0 : EE := .out [(0, .s 0)]
def e31r1 : EE := .x 1 (.call 44) [.s 0] none [] <|
 .q 3 (.ext 0) [.r 1] none <|
 .q 4 (.ext 1) [.r 1] none <|
 .out [(3, .r 3)]
def e31r2 : EE := .out [(2, .s 3)]
def e31 : EFn := ⟨(.seq (.reg e31r0 [0] 0) (.seq (.reg e31r1 [0] 0) (.seq (.reg e31r2 [3] 0) .ret))), [.slot 2], 11, 0⟩
theorem g31 : Good Tryz.prog 31 e31 := ⟨Tryz.f31, Tryz.func31, by kernel_rfl, by kernel_rfl, by kernel_rfl, by kernel_rfl⟩
/-! concord/shell.text -/
def e32r0 : EE := .out [(0, .s 0)]
def e32r1 : EE := .out [(0, .s 0), (3, .c .nsl)]
def e32r2 : EE := .out [(0, .s 0), (3, .s 3), (4, .c (.int .i64 1))]
def e32r3 : EE := .q 2 .lenz [.s 0] none <|
 .q 3 .lss [.s 4, .r 2] none <|
 .out [(0, .s 0), (3, .s 3), (4, .s 4), (11, .r 3)]
def e32r4 : EE := .q 2 .idxs [.s 0, .s 4] none <|
 .out [(0, .s 0), (3, .s 3), (4, .s 4), (5, .r 2)]
def e32r5 : EE := .q 1 .eql [.s 5, .c (.int .u8 37)] none <|
 .q 3 .mv [.s 4] (some (.r 1, true)) <|
 .q 4 .add [.r 3, .c (.int .i64 2)] (some (.r 1, true)) <|
 .q 5 .mv [.s 0] (some (.r 1, true)) <|
 .q 6 .lenz [.r 5] (some (.r 1, true)) <|
 .q 7 .lss [.r 4, .r 6] (some (.r 1, true)) <|
 .q 8 .pick [.r 1, .r 7, .c (.bool false)] none <|
 .out [(0, .s 0), (3, .s 3), (4, .s 4), (5, .s 5), (25, .r 8)]
def e32r6 : EE := .q 2 .add [.s 4, .c (.int .i64 1)] none <|
 .q 3 .idxs [.s 0, .r 2] none <|
 .q 7 .add [.s 4, .c (.int .i64 2)] none <|
 .q 8 .idxs [.s 0, .r 7] none <|
 .x 4 (.call 45) [.c (.str [48, 49, 50, 51, 52, 53, 54, 55, 56, 57, 97, 98, 99, 100, 101, 102]), .r 3] none [] <|
 .x 9 (.call 45) [.c (.str [48, 49, 50, 51, 52, 53, 54, 55, 56, 57, 97, 98, 99, 100, 101, 102]), .r 8] none [] <|
 .out [(0, .s 0), (3, .s 3), (4, .s 4), (6, .r 4), (7, .r 9)]
def e32r7 : EE := .q 1 .mx [.s 6, .c z] none <|
 .q 2 .shl [.r 1, .c (.int .u64 4)] none <|
 .q 4 .mx [.s 7, .c z] none <|
 .q 5 .or [.r 2, .r 4] none <|
 .q 6 (.conv .u8) [.r 5] none <|
 .out [(0, .s 0), (3, .s 3), (4, .s 4), (5, .r 6)]
def e32r8 : EE := .q 1 .add [.s 4, .c (.int .i64 2)] none <|
 .out [(0, .s 0), (3, .s 3), (4, .r 1), (5, .s 5)]
def e32r9 : EE := .x 2 (.bsl 5 1 [(.int .u8 0)] [(0, 1)]) [.s 5] none [] <|
 .x 3 (.app 5 1 1 [(.int .u8 0)]) [.s 3, .r 2] none [] <|
 .out [(0, .s 0), (3, .r 3), (4, .s 4)]
def e32r10 : EE := .q 1 .add [.s 4, .c (.int .i64 1)] none <|
 .out [(0, .s 0), (3, .s 3), (4, .r 1)]
def e32l11 : EC := (.seq (.seq (.reg e32r3 [0, 3, 4] 0) (.cond (.s 11) .skip (.exit 0))) (.seq (.block 1 (.seq (.reg e32r4 [0, 3, 4] 0) (.seq (.seq (.reg e32r5 [0, 3, 4, 5] 0) (.cond (.s 25) (.seq (.reg e32r6 [0, 3, 4] 0) (.seq (.reg e32r7 [0, 3, 4, 6, 7] 0) (.reg e32r8 [0, 3, 4, 5] 0))) .skip)) (.reg e32r9 [0, 3, 4, 5] 0)))) (.reg e32r10 [0, 3, 4] 0)))
def e32r12 : EE := .q 1 .b2s [.s 3] none <|
 .out [(2, .r 1)]
def e32 : EFn := ⟨(.seq (.reg e32r0 [0] 0) (.seq (.reg e32r1 [0] 0) (.seq (.seq (.reg e32r2 [0, 3] 0) (.block 0 (.loop [0, 3, 4] e32l11))) (.seq (.reg e32r12 [3] 0) .ret)))), [.slot 2], 51, 0⟩
theorem g32 : Good Tryz.prog 32 e32 := ⟨Tryz.f32, Tryz.func32, by kernel_rfl, by kernel_rfl, by kernel_rfl, by kernel_rfl⟩
/-! strings.genSplit -/
def e33r0 : EE := .out [(0, .s 0), (1, .s 1), (2, .s 2), (3, .s 3)]
def e33r1 : EE := .q 1 .eql [.s 3, .c z] none <|
 .out [(0, .s 0), (1, .s 1), (2, .s 2), (3, .s 3), (13, .r 1)]
def e33r2 : EE := .out [(8, .c .nsl)]
def e33r3 : EE := .q 1 .seql [.s 1, .c zs] none <|
 .out [(0, .s 0), (1, .s 1), (2, .s 2), (3, .s 3), (15, .r 1)]
def e33r4 : EE := .x 2 (.call 46) [.s 0, .s 3] none [] <|
 .out [(8, .r 2)]
def e33r5 : EE := .q 1 .lss [.s 3, .c z] none <|
 .out [(0, .s 0), (1, .s 1), (2, .s 2), (3, .s 3), (20, .r 1)]
def e33r6 : EE := .x 2 (.call 47) [.s 0, .s 1] none [] <|
 .q 3 .add [.r 2, .c (.int .i64 1)] none <|
 .out [(0, .s 0), (1, .s 1), (2, .s 2), (3, .r 3)]
def e33r7 : EE := .q 2 .lenz [.s 0] none <|
 .q 3 .add [.r 2, .c (.int .i64 1)] none <|
 .q 4 .mn [.s 3, .r 3] none <|
 .out [(0, .s 0), (1, .s 1), (2, .s 2), (3, .r 4)]
def e33r8 : EE := .x 1 (.mks 9 16 [zs]) [.s 3, .s 3] none [] <|
 .out [(0, .s 0), (1, .s 1), (2, .s 2), (3, .s 3), (9, .r 1)]
def e33r9 : EE := .q 1 .sub [.s 3, .c (.int .i64 1)] none <|
 .out [(0, .s 0), (1, .s 1), (2, .s 2), (3, .r 1), (9, .s 9)]
def e33r10 : EE := .out [(0, .s 0), (1, .s 1), (2, .s 2), (3, .s 3), (9, .s 9), (10, .c z)]
def e33r11 : EE := .q 2 .lss [.s 10, .s 3] none <|
 .out [(0, .s 0), (1, .s 1), (2, .s 2), (3, .s 3), (9, .s 9), (10, .s 10), (36, .r 2)]
def e33r12 : EE := .x 2 (.call 48) [.s 0, .s 1] none [] <|
 .out [(0, .s 0), (1, .s 1), (2, .s 2), (3, .s 3), (9, .s 9), (10, .s 10), (11, .r 2)]
def e33r13 : EE := .q 1 .lss [.s 11, .c z] none <|
 .out [(0, .s 0), (1, .s 1), (2, .s 2), (3, .s 3), (9, .s 9), (10, .s 10), (11, .s 11), (41, .r 1)]
def e33r14 : EE := .q 5 .add [.s 11, .s 2] none <|
 .q 6 (.slcs false true) [.s 0, .r 5] none <|
 .q 7 (.ixs 1) [.s 9, .s 10] none <|
 .x 8 (.st 1) [.r 7, .r 6] none [] <|
 .out [(0, .s 0), (1, .s 1), (2, .s 2), (3, .s 3), (9, .s 9), (10, .s 10), (11, .s 11)]
def e33r15 : EE := .q 3 .lenz [.s 1] none <|
 .q 4 .add [.s 11, .r 3] none <|
 .q 5 (.slcs true false) [.s 0, .r 4] none <|
 .out [(0, .r 5), (1, .s 1), (2, .s 2), (3, .s 3), (9, .s 9), (10, .s 10)]
def e33r16 : EE := .q 1 .add [.s 10, .c (.int .i64 1)] none <|
 .out [(0, .s 0), (1, .s 1), (2, .s 2), (3, .s 3), (9, .s 9), (10, .r 1)]
def e33l17 : EC := (.seq (.seq (.reg e33r11 [0, 1, 2, 3, 9, 10] 0) (.cond (.s 36) .skip (.exit 0))) (.block 1 (.seq (.reg e33r12 [0, 1, 2, 3, 9, 10] 0) (.seq (.seq (.reg e33r13 [0, 1, 2, 3, 9, 10, 11] 0) (.cond (.s 41) (.exit 0) .skip)) (.seq (.reg e33r14 [0, 1, 2, 3, 9, 10, 11] 0) (.seq (.reg e33r15 [0, 1, 2, 3, 9, 10, 11] 0) (.reg e33r16 [0, 1, 2, 3, 9, 10] 0)))))))
def e33r18 : EE := .q 3 (.ixs 1) [.s 9, .s 10] none <|
 .x 4 (.st 1) [.r 3, .s 0] none [] <|
 .out [(9, .s 9), (10, .s 10)]
def e33r19 : EE := .q 2 .add [.s 10, .c (.int .i64 1)] none <|
 .q 3 (.slc 1 false true) [.s 9, .r 2] none <|
 .out [(8, .r 3)]
def e33 : EFn := ⟨(.seq (.reg e33r0 [0, 1, 2, 3] 0) (.seq (.seq (.reg e33r1 [0, 1, 2, 3] 0) (.cond (.s 13) (.seq (.reg e33r2 [] 0) .ret) .skip)) (.seq (.seq (.reg e33r3 [0, 1, 2, 3] 0) (.cond (.s 15) (.seq (.reg e33r4 [0, 3] 0) .ret) .skip)) (.seq (.seq (.reg e33r5 [0, 1, 2, 3] 0) (.cond (.s 20) (.reg e33r6 [0, 1, 2] 0) .skip)) (.seq (.reg e33r7 [0, 1, 2, 3] 0) (.seq (.reg e33r8 [0, 1, 2, 3] 0) (.seq (.reg e33r9 [0, 1, 2, 3, 9] 0) (.seq (.reg e33r10 [0, 1, 2, 3, 9] 0) (.seq (.block 0 (.loop [0, 1, 2, 3, 9, 10] e33l17)) (.seq (.reg e33r18 [0, 9, 10] 0) (.seq (.reg e33r19 [9, 10] 0) .ret))))))))))), [.slot 8], 66, 0⟩
theorem g33 : Good Tryz.prog 33 e33 := ⟨Tryz.f33, Tryz.func33, by kernel_rfl, by kernel_rfl, by kernel_rfl, by kernel_rfl⟩
/-! concord/shell.parse -/
def e34r0 : EE := .out [(0, .s 0)]
def e34r1 : EE := .out [(0, .s 0), (5, .c .nsl)]
def e34r2 : EE := .q 1 .sneq [.s 0, .c zs] none <|
 .out [(0, .s 0), (5, .s 5), (12, .r 1)]
def e34r3 : EE := .x 1 (.call 49) [.s 0, .c (.str [10])] none [] <|
 .q 3 (.ext 0) [.r 1] none <|
 .q 4 (.ext 1) [.r 1] none <|
 .q 5 (.ext 2) [.r 1] none <|
 .out [(5, .s 5), (6, .r 3), (7, .r 4)]
def e34r4 : EE := .x 1 (.call 8) [.s 6] none [] <|
 .q 3 (.ext 0) [.r 1] none <|
 .q 4 (.ext 1) [.r 1] none <|
 .x 5 (.alc [z, z, z, z, z, z, z, zs, zs, zs, zs, .nsl] 26) [] none [] <|
 .x 6 (.st 12) [.r 5, .r 3] none [] <|
 .out [(5, .s 5), (7, .s 7), (9, .r 5), (10, .r 4)]
def e34r5 : EE := .q 1 .neq [.s 10, .c z] none <|
 .out [(5, .s 5), (7, .s 7), (9, .s 9), (10, .s 10), (25, .r 1)]
def e34r6 : EE := .q 1 .len [.s 5] none <|
 .out [(2, .c .nsl), (3, .r 1), (4, .s 10)]
def e34r7 : EE := .q 1 (.lda 12) [.s 9] none <|
 .x 2 (.bsl 26 1 [z, z, z, z, z, z, z, zs, zs, zs, zs, .nsl] [(0, 12)]) [.r 1] none [] <|
 .x 3 (.app 26 12 144 [z, z, z, z, z, z, z, zs, zs, zs, zs, .nsl]) [.s 5, .r 2] none [] <|
 .out [(0, .s 7), (5, .r 3)]
def e34l8 : EC := (.seq (.seq (.reg e34r2 [0, 5] 0) (.cond (.s 12) .skip (.exit 0))) (.block 1 (.seq (.reg e34r3 [0, 5] 0) (.seq (.reg e34r4 [5, 6, 7] 0) (.seq (.seq (.reg e34r5 [5, 7, 9, 10] 0) (.cond (.s 25) (.seq (.reg e34r6 [5, 10] 0) .ret) .skip)) (.reg e34r7 [5, 7, 9] 0))))))
def e34r9 : EE := .out [(2, .s 5), (3, .c z), (4, .c z)]
def e34 : EFn := ⟨(.seq (.reg e34r0 [0] 0) (.seq (.reg e34r1 [0] 0) (.seq (.block 0 (.loop [0, 5] e34l8)) (.seq (.reg e34r9 [5] 0) .ret)))), [.slot 2, .slot 3, .slot 4], 35, 0⟩
theorem g34 : Good Tryz.prog 34 e34 := ⟨Tryz.f34, Tryz.func34, by kernel_rfl, by kernel_rfl, by kernel_rfl, by kernel_rfl⟩
/-! concord/cluster.New -/
def e35r0 : EE := .out [(0, .s 0)]
def e35r1 : EE := .q 1 (.bld [z, .nsl, .nsl, .nsl, .nsl, .nsl, .nsl] [(0, 1)]) [.s 0] none <|
 .x 2 (.box 105) [.r 1] none [] <|
 .out [(0, .s 0), (4, .r 2)]
def e35r2 : EE := .q 1 .mx [.s 0, .c (.int .i64 1)] none <|
 .q 2 .mn [.r 1, .c (.int .i64 8)] none <|
 .out [(0, .s 0), (4, .s 4), (19, .r 2), (20, .c z)]
def e35r3 : EE := .q 0 .lss [.s 20, .s 19] none <|
 .out [(0, .s 0), (4, .s 4), (19, .s 19), (20, .s 20), (21, .r 0)]
def e35r4 : EE := .out [(0, .s 0), (4, .s 4), (5, .s 20), (19, .s 19), (20, .s 20)]
def e35r5 : EE := .x 0 (.call 50) [.c (.int .i64 524288)] none [] <|
 .q 2 (.ext 0) [.r 0] none <|
 .q 3 (.ext 1) [.r 0] none <|
 .out [(0, .s 0), (4, .s 4), (5, .s 5), (6, .r 2), (19, .s 19), (20, .s 20)]
def e35r6 : EE := .x 3 (.call 51) [.s 0, .s 5, .s 6] none [] <|
 .q 5 (.ext 0) [.r 3] none <|
 .q 6 (.ext 1) [.r 3] none <|
 .out [(0, .s 0), (4, .s 4), (6, .s 6), (8, .r 5), (9, .r 6), (19, .s 19), (20, .s 20)]
def e35r7 : EE := .q 1 .neq [.s 9, .c z] none <|
 .out [(0, .s 0), (4, .s 4), (6, .s 6), (8, .s 8), (9, .s 9), (19, .s 19), (20, .s 20), (35, .r 1)]
def e35r8 : EE := .out [(2, .c .nptr), (3, .s 9)]
def e35r9 : EE := .q 3 .nl [.s 4] none <|
 .q 4 (.fld 1) [.r 3] none <|
 .q 5 .ld [.r 4] none <|
 .q 10 .nl [.s 4] none <|
 .q 11 (.fld 2) [.r 10] none <|
 .q 12 .ld [.r 11] none <|
 .both false
 (.x 7 (.bsl 106 1 [.nptr] [(0, 1)]) [.s 6] none [⟨5, .ld, [.r 4], none⟩, ⟨12, .ld, [.r 11], none⟩] <|
 .both false
 (.x 8 (.app 106 1 8 [.nptr]) [.r 5, .r 7] none [⟨12, .ld, [.r 11], none⟩] <|
 .x 14 (.bsl 109 1 [.nptr] [(0, 1)]) [.s 8] none [⟨5, .ld, [.r 4], none⟩, ⟨12, .ld, [.r 11], none⟩] <|
 .x 15 (.app 109 1 8 [.nptr]) [.r 12, .r 14] none [] <|
 .q 16 .nl [.s 4] none <|
 .q 17 (.fld 1) [.r 16] none <|
 .x 18 (.st 1) [.r 17, .r 8] none [] <|
 .q 19 .nl [.s 4] none <|
 .q 20 (.fld 2) [.r 19] none <|
 .x 21 (.st 1) [.r 20, .r 15] none [] <|
 .out [(0, .s 0), (4, .s 4), (19, .s 19), (20, .s 20)])
 (.x 14 (.bsl 109 1 [.nptr] [(0, 1)]) [.s 8] none [⟨5, .ld, [.r 4], none⟩, ⟨12, .ld, [.r 11], none⟩] <|
 .x 8 (.app 106 1 8 [.nptr]) [.r 5, .r 7] none [⟨12, .ld, [.r 11], none⟩] <|
 .x 15 (.app 109 1 8 [.nptr]) [.r 12, .r 14] none [] <|
 .q 16 .nl [.s 4] none <|
 .q 17 (.fld 1) [.r 16] none <|
 .x 18 (.st 1) [.r 17, .r 8] none [] <|
 .q 19 .nl [.s 4] none <|
 .q 20 (.fld 2) [.r 19] none <|
 .x 21 (.st 1) [.r 20, .r 15] none [] <|
 .out [(0, .s 0), (4, .s 4), (19, .s 19), (20, .s 20)]))
 (.x 14 (.bsl 109 1 [.nptr] [(0, 1)]) [.s 8] none [⟨5, .ld, [.r 4], none⟩, ⟨12, .ld, [.r 11], none⟩] <|
 .x 7 (.bsl 106 1 [.nptr] [(0, 1)]) [.s 6] none [⟨5, .ld, [.r 4], none⟩, ⟨12, .ld, [.r 11], none⟩] <|
 .x 8 (.app 106 1 8 [.nptr]) [.r 5, .r 7] none [⟨12, .ld, [.r 11], none⟩] <|
 .x 15 (.app 109 1 8 [.nptr]) [.r 12, .r 14] none [] <|
 .q 16 .nl [.s 4] none <|
 .q 17 (.fld 1) [.r 16] none <|
 .x 18 (.st 1) [.r 17, .r 8] none [] <|
 .q 19 .nl [.s 4] none <|
 .q 20 (.fld 2) [.r 19] none <|
 .x 21 (.st 1) [.r 20, .r 15] none [] <|
 .out [(0, .s 0), (4, .s 4), (19, .s 19), (20, .s 20)])
def e35r10 : EE := .q 0 .add [.s 20, .c (.int .i64 1)] none <|
 .out [(0, .s 0), (4, .s 4), (19, .s 19), (20, .r 0)]
def e35l11 : EC := (.seq (.reg e35r3 [0, 4, 19, 20] 0) (.seq (.cond (.s 21) .skip (.exit 0)) (.seq (.block 1 (.seq (.reg e35r4 [0, 4, 19, 20] 0) (.seq (.reg e35r5 [0, 4, 5, 19, 20] 0) (.seq (.reg e35r6 [0, 4, 5, 6, 19, 20] 0) (.seq (.seq (.reg e35r7 [0, 4, 6, 8, 9, 19, 20] 0) (.cond (.s 35) (.seq (.reg e35r8 [9] 0) .ret) .skip)) (.reg e35r9 [0, 4, 6, 8, 19, 20] 22)))))) (.reg e35r10 [0, 4, 19, 20] 0))))
def e35r12 : EE := .out [(0, .s 0), (4, .s 4), (10, .c (.int .i64 1))]
def e35r13 : EE := .q 1 .leq [.s 10, .c (.int .i64 8)] none <|
 .out [(0, .s 0), (4, .s 4), (10, .s 10), (59, .r 1)]
def e35r14 : EE := .x 1 (.call 52) [.s 10] none [] <|
 .q 3 (.ext 0) [.r 1] none <|
 .q 4 (.ext 1) [.r 1] none <|
 .out [(0, .s 0), (4, .s 4), (10, .s 10), (11, .r 3)]
def e35r15 : EE := .q 2 .nl [.s 4] none <|
 .q 3 (.fld 3) [.r 2] none <|
 .q 4 .ld [.r 3] none <|
 .x 6 (.bsl 112 1 [.nptr] [(0, 1)]) [.s 11] none [] <|
 .x 7 (.app 112 1 8 [.nptr]) [.r 4, .r 6] none [] <|
 .q 8 .nl [.s 4] none <|
 .q 9 (.fld 3) [.r 8] none <|
 .x 10 (.st 1) [.r 9, .r 7] none [] <|
 .out [(0, .s 0), (4, .s 4), (10, .s 10)]
def e35r16 : EE := .q 1 .add [.s 10, .c (.int .i64 1)] none <|
 .out [(0, .s 0), (4, .s 4), (10, .r 1)]
def e35l17 : EC := (.seq (.seq (.reg e35r13 [0, 4, 10] 0) (.cond (.s 59) .skip (.exit 2))) (.seq (.block 3 (.seq (.reg e35r14 [0, 4, 10] 0) (.reg e35r15 [0, 4, 10, 11] 0))) (.reg e35r16 [0, 4, 10] 0)))
def e35r18 : EE := .x 1 (.mks 23 88 [z, z, z, zs, zs, zs, zs]) [.c (.int .i64 8), .c (.int .i64 8)] none [] <|
 .q 2 .nl [.s 4] none <|
 .q 3 (.fld 4) [.r 2] none <|
 .x 4 (.st 1) [.r 3, .r 1] none [] <|
 .out [(0, .s 0), (4, .s 4)]
def e35r19 : EE := .out [(4, .s 4), (81, .s 0), (82, .c z)]
def e35r20 : EE := .q 0 .lss [.s 82, .s 81] none <|
 .out [(4, .s 4), (81, .s 81), (82, .s 82), (83, .r 0)]
def e35r21 : EE := .out [(4, .s 4), (13, .s 82), (81, .s 81), (82, .s 82)]
def e35r22 : EE := .x 2 (.call 53) [.s 4, .s 13] none [] <|
 .out [(4, .s 4), (81, .s 81), (82, .s 82)]
def e35r23 : EE := .q 0 .add [.s 82, .c (.int .i64 1)] none <|
 .out [(4, .s 4), (81, .s 81), (82, .r 0)]
def e35l24 : EC := (.seq (.reg e35r20 [4, 81, 82] 0) (.seq (.cond (.s 83) .skip (.exit 4)) (.seq (.block 5 (.seq (.reg e35r21 [4, 81, 82] 0) (.reg e35r22 [4, 13, 81, 82] 0))) (.reg e35r23 [4, 81, 82] 0))))
def e35r25 : EE := .out [(2, .s 4), (3, .c z)]
def e35 : EFn := ⟨(.seq (.reg e35r0 [0] 0) (.seq (.reg e35r1 [0] 0) (.seq (.seq (.reg e35r2 [0, 4] 0) (.block 0 (.loop [0, 4, 19, 20] e35l11))) (.seq (.seq (.reg e35r12 [0, 4] 0) (.block 2 (.loop [0, 4, 10] e35l17))) (.seq (.reg e35r18 [0, 4] 0) (.seq (.seq (.reg e35r19 [0, 4] 0) (.block 4 (.loop [4, 81, 82] e35l24))) (.seq (.reg e35r25 [4] 0) .ret))))))), [.slot 2, .slot 3], 90, 0⟩
theorem g35 : Good Tryz.prog 35 e35 := ⟨Tryz.f35, Tryz.func35, by kernel_rfl, by kernel_rfl, by kernel_rfl, by kernel_rfl⟩
/-! (*concord/cluster.Cluster).Do -/
def e36r0 : EE := .x 0 (.box 26) [.s 1] none [] <|
 .out [(0, .s 0), (3, .r 0)]
def e36r1 : EE := .q 0 (.fld 0) [.s 3] none <|
 .q 1 .ld [.r 0] none <|
 .out [(0, .s 0), (3, .s 3), (7, .r 1)]
def e36r2 : EE := .q 0 .eql [.s 7, .c (.int .i64 1)] none <|
 .out [(0, .s 0), (3, .s 3), (7, .s 7), (8, .r 0)]
def e36r3 : EE := .q 1 (.lda 12) [.s 3] none <|
 .x 2 (.call 54) [.s 0, .r 1] none [] <|
 .out [(4, .r 2)]
def e36r4 : EE := .q 0 .eql [.s 7, .c (.int .i64 2)] none <|
 .out [(0, .s 0), (3, .s 3), (7, .s 7), (13, .r 0)]
def e36r5 : EE := .q 0 .eql [.s 7, .c (.int .i64 3)] none <|
 .out [(0, .s 0), (3, .s 3), (7, .s 7), (13, .r 0)]
def e36r6 : EE := .q 0 .eql [.s 7, .c (.int .i64 4)] none <|
 .out [(0, .s 0), (3, .s 3), (7, .s 7), (13, .r 0)]
def e36r7 : EE := .q 1 (.lda 12) [.s 3] none <|
 .x 2 (.call 55) [.s 0, .r 1] none [] <|
 .out [(4, .r 2)]
def e36r8 : EE := .q 0 .eql [.s 7, .c (.int .i64 6)] none <|
 .out [(0, .s 0), (3, .s 3), (7, .s 7), (20, .r 0)]
def e36r9 : EE := .q 1 (.fld 1) [.s 3] none <|
 .q 2 .ld [.r 1] none <|
 .x 3 (.call 56) [.s 0, .r 2] none [] <|
 .out [(4, .r 3)]
def e36r10 : EE := .q 0 .eql [.s 7, .c (.int .i64 9)] none <|
 .out [(0, .s 0), (3, .s 3), (26, .r 0)]
def e36r11 : EE := .q 1 (.fld 1) [.s 3] none <|
 .q 2 .ld [.r 1] none <|
 .x 3 (.call 57) [.s 0, .r 2] none [] <|
 .out [(4, .r 3)]
def e36r12 : EE := .q 1 (.fld 1) [.s 3] none <|
 .q 2 .ld [.r 1] none <|
 .x 3 (.call 58) [.s 0, .r 2] none [] <|
 .out [(0, .s 0), (3, .s 3), (5, .r 3)]
def e36r13 : EE := .q 1 (.eqp false) [.s 5, .c .nptr] none <|
 .out [(0, .s 0), (3, .s 3), (5, .s 5), (37, .r 1)]
def e36r14 : EE := .out [(4, .c (.bool false))]
def e36r15 : EE := .q 0 (.fld 0) [.s 3] none <|
 .q 1 .ld [.r 0] none <|
 .out [(0, .s 0), (3, .s 3), (5, .s 5), (39, .r 1)]
def e36r16 : EE := .q 0 .eql [.s 39, .c (.int .i64 5)] none <|
 .out [(0, .s 0), (3, .s 3), (5, .s 5), (39, .s 39), (40, .r 0)]
def e36r17 : EE := .x 1 (.call 59) [.s 5] none [] <|
 .out [(0, .s 0), (3, .s 3)]
def e36r18 : EE := .q 1 (.fld 1) [.s 3] none <|
 .q 2 .ld [.r 1] none <|
 .x 3 (.call 53) [.s 0, .r 2] none [] <|
 .out []
def e36r19 : EE := .q 0 .eql [.s 39, .c (.int .i64 7)] none <|
 .out [(0, .s 0), (3, .s 3), (39, .s 39), (48, .r 0)]
def e36r20 : EE := .q 1 .nl [.s 0] none <|
 .q 2 (.fld 1) [.r 1] none <|
 .q 3 .ld [.r 2] none <|
 .q 4 (.fld 1) [.s 3] none <|
 .q 5 .ld [.r 4] none <|
 .q 6 (.ixs 1) [.r 3, .r 5] none <|
 .q 7 .ld [.r 6] none <|
 .q 8 (.fld 2) [.s 3] none <|
 .q 9 .ld [.r 8] none <|
 .x 10 (.call 60) [.r 7, .r 9] none [] <|
 .out []
def e36r21 : EE := .q 0 .eql [.s 39, .c (.int .i64 8)] none <|
 .out [(0, .s 0), (3, .s 3), (61, .r 0)]
def e36r22 : EE := .q 1 .nl [.s 0] none <|
 .q 2 (.fld 2) [.r 1] none <|
 .q 3 .ld [.r 2] none <|
 .q 4 (.fld 1) [.s 3] none <|
 .q 5 .ld [.r 4] none <|
 .q 6 (.ixs 1) [.r 3, .r 5] none <|
 .x 7 (.st 1) [.r 6, .c .nptr] none [] <|
 .out [(0, .s 0), (3, .s 3)]
def e36r23 : EE := .q 1 .nl [.s 0] none <|
 .q 2 (.fld 1) [.r 1] none <|
 .q 3 .ld [.r 2] none <|
 .q 4 (.fld 1) [.s 3] none <|
 .q 5 .ld [.r 4] none <|
 .q 6 (.ixs 1) [.r 3, .r 5] none <|
 .q 7 .ld [.r 6] none <|
 .q 8 (.fld 11) [.s 3] none <|
 .q 9 .ld [.r 8] none <|
 .x 10 (.call 61) [.r 7, .r 9] none [] <|
 .out []
def e36r24 : EE := .out [(4, .c (.bool false))]
def e36r25 : EE := .out [(4, .c (.bool true))]
def e36 : EFn := ⟨(.seq (.reg e36r0 [0, 1] 0) (.seq (.seq (.reg e36r1 [0, 3] 0) (.block 0 (.seq (.reg e36r2 [0, 3, 7] 0) (.cond (.s 8) (.seq (.reg e36r3 [0, 3] 0) .ret) (.seq (.seq (.reg e36r4 [0, 3, 7] 0) (.cond (.s 13) .skip (.seq (.reg e36r5 [0, 3, 7] 0) (.cond (.s 13) .skip (.reg e36r6 [0, 3, 7] 0))))) (.cond (.s 13) (.seq (.reg e36r7 [0, 3] 0) .ret) (.seq (.reg e36r8 [0, 3, 7] 0) (.cond (.s 20) (.seq (.reg e36r9 [0, 3] 0) .ret) (.seq (.reg e36r10 [0, 3, 7] 0) (.cond (.s 26) (.seq (.reg e36r11 [0, 3] 0) .ret) .skip)))))))))) (.seq (.reg e36r12 [0, 3] 0) (.seq (.seq (.reg e36r13 [0, 3, 5] 0) (.cond (.s 37) (.seq (.reg e36r14 [] 0) .ret) .skip)) (.seq (.seq (.reg e36r15 [0, 3, 5] 0) (.block 1 (.seq (.reg e36r16 [0, 3, 5, 39] 0) (.cond (.s 40) (.seq (.reg e36r17 [0, 3, 5] 0) (.reg e36r18 [0, 3] 0)) (.seq (.reg e36r19 [0, 3, 39] 0) (.cond (.s 48) (.reg e36r20 [0, 3] 0) (.seq (.reg e36r21 [0, 3, 39] 0) (.cond (.s 61) (.seq (.reg e36r22 [0, 3] 0) (.reg e36r23 [0, 3] 0)) (.seq (.reg e36r24 [] 0) .ret))))))))) (.seq (.reg e36r25 [] 0) .ret)))))), [.slot 4], 81, 0⟩
theorem g36 : Good Tryz.prog 36 e36 := ⟨Tryz.f36, Tryz.func36, by kernel_rfl, by kernel_rfl, by kernel_rfl, by kernel_rfl⟩
/-! (*concord/cluster.Cluster).History -/
def e37r0 : EE := .out [(0, .s 0)]
def e37r1 : EE := .q 1 .nl [.s 0] none <|
 .q 2 (.fld 6) [.r 1] none <|
 .q 3 .ld [.r 2] none <|
 .x 4 (.call 62) [.r 3] none [] <|
 .out [(3, .r 4)]
def e37r2 : EE := .q 1 .len [.s 3] none <|
 .out [(3, .s 3), (11, .r 1), (12, .c z)]
def e37r3 : EE := .q 0 .lss [.s 12, .s 11] none <|
 .out [(3, .s 3), (11, .s 11), (12, .s 12), (13, .r 0)]
def e37r4 : EE := .out [(3, .s 3), (4, .s 12), (11, .s 11), (12, .s 12)]
def e37r5 : EE := .q 4 (.ixs 14) [.s 3, .s 4] none <|
 .q 5 (.fld 9) [.r 4] none <|
 .q 6 (.fld 4) [.r 5] none <|
 .q 7 .ld [.r 6] none <|
 .x 8 (.call 63) [.r 7] none [] <|
 .q 9 (.ixs 14) [.s 3, .s 4] none <|
 .q 10 (.fld 9) [.r 9] none <|
 .q 11 (.fld 4) [.r 10] none <|
 .x 12 (.st 1) [.r 11, .r 8] none [] <|
 .out [(3, .s 3), (11, .s 11), (12, .s 12)]
def e37r6 : EE := .q 0 .add [.s 12, .c (.int .i64 1)] none <|
 .out [(3, .s 3), (11, .s 11), (12, .r 0)]
def e37l7 : EC := (.seq (.reg e37r3 [3, 11, 12] 0) (.seq (.cond (.s 13) .skip (.exit 0)) (.seq (.block 1 (.seq (.reg e37r4 [3, 11, 12] 0) (.reg e37r5 [3, 4, 11, 12] 0))) (.reg e37r6 [3, 11, 12] 0))))
def e37r8 : EE := .out [(2, .s 3)]
def e37 : EFn := ⟨(.seq (.reg e37r0 [0] 0) (.seq (.reg e37r1 [0] 0) (.seq (.seq (.reg e37r2 [3] 0) (.block 0 (.loop [3, 11, 12] e37l7))) (.seq (.reg e37r8 [3] 0) .ret)))), [.slot 2], 29, 0⟩
theorem g37 : Good Tryz.prog 37 e37 := ⟨Tryz.f37, Tryz.func37, by kernel_rfl, by kernel_rfl, by kernel_rfl, by kernel_rfl⟩
/-! concord/audit.Of -/
def e39r0 : EE := .x 0 (.alc [z, z, z, z, z] 89) [] none [] <|
 .out [(0, .s 0), (2, .r 0)]
def e39r1 : EE := .x 1 (.call 64) [.s 0] none [] <|
 .out [(0, .s 0), (2, .s 2), (3, .r 1)]
def e39r2 : EE := .x 2 (.call 66) [.s 0] none [] <|
 .x 3 (.call 65) [.s 3, .r 2] none [] <|
 .q 5 (.ext 0) [.r 3] none <|
 .q 6 (.ext 1) [.r 3] none <|
 .q 7 (.ext 2) [.r 3] none <|
 .out [(2, .s 2), (3, .s 3), (4, .r 5), (5, .r 6), (6, .r 7)]
def e39r3 : EE := .q 1 .len [.s 3] none <|
 .q 3 .len [.s 4] none <|
 .q 5 (.bld [z, z, z, z, z] [(0, 1), (1, 1), (2, 1)]) [.r 1, .r 3, .s 6] none <|
 .x 6 (.alc [z, z, z, z, z] 89) [] none [] <|
 .x 7 (.st 5) [.r 6, .r 5] none [] <|
 .out [(2, .s 2), (3, .s 3), (4, .s 4), (5, .s 5), (7, .r 6)]
def e39r4 : EE := .q 1 .len [.s 4] none <|
 .out [(2, .s 2), (3, .s 3), (4, .s 4), (5, .s 5), (7, .s 7), (34, .s 4), (35, .r 1), (36, .c z)]
def e39r5 : EE := .q 0 .lss [.s 36, .s 35] none <|
 .out [(2, .s 2), (3, .s 3), (4, .s 4), (5, .s 5), (7, .s 7), (34, .s 34), (35, .s 35), (36, .s 36), (37, .r 0)]
def e39r6 : EE := .q 1 (.ixs 2) [.s 34, .s 36] none <|
 .q 2 (.lda 2) [.r 1] none <|
 .x 3 (.alc [z, z] 129) [] none [] <|
 .x 5 (.st 2) [.r 3, .r 2] none [] <|
 .out [(2, .s 2), (3, .s 3), (4, .s 4), (5, .s 5), (7, .s 7), (8, .s 36), (9, .r 3), (34, .s 34), (35, .s 35), (36, .s 36)]
def e39r7 : EE := .q 2 (.slc 2 false true) [.s 4, .s 8] none <|
 .q 3 .len [.r 2] none <|
 .out [(2, .s 2), (3, .s 3), (4, .s 4), (5, .s 5), (7, .s 7), (9, .s 9), (34, .s 34), (35, .s 35), (36, .s 36), (43, .r 2), (44, .r 3), (45, .c z)]
def e39r8 : EE := .q 0 .lss [.s 45, .s 44] none <|
 .out [(2, .s 2), (3, .s 3), (4, .s 4), (5, .s 5), (7, .s 7), (9, .s 9), (34, .s 34), (35, .s 35), (36, .s 36), (43, .s 43), (44, .s 44), (45, .s 45), (46, .r 0)]
def e39r9 : EE := .q 0 (.ixs 2) [.s 43, .s 45] none <|
 .q 1 (.lda 2) [.r 0] none <|
 .x 2 (.alc [z, z] 129) [] none [] <|
 .x 3 (.st 2) [.r 2, .r 1] none [] <|
 .out [(2, .s 2), (3, .s 3), (4, .s 4), (5, .s 5), (7, .s 7), (9, .s 9), (11, .r 2), (34, .s 34), (35, .s 35), (36, .s 36), (43, .s 43), (44, .s 44), (45, .s 45)]
def e39r10 : EE := .q 1 (.lda 2) [.s 9] none <|
 .q 2 (.lkp true [(.i .i64), (.i .i64)] (.agg [z, z, z, z, z, z, z, z, zs, zs, zs, zs, z, z, z, z, z, z, z, z, (.bool false)]) false) [.s 5, .r 1] none <|
 .q 4 (.lda 2) [.s 11] none <|
 .q 5 (.lkp true [(.i .i64), (.i .i64)] (.agg [z, z, z, z, z, z, z, z, zs, zs, zs, zs, z, z, z, z, z, z, z, z, (.bool false)]) false) [.s 5, .r 4] none <|
 .both false
 (.x 6 (.alc [z, z, z, z, z, z, z, z, zs, zs, zs, zs, z, z, z, z, z, z, z, z, (.bool false)] 137) [] none [⟨1, (.lda 2), [.s 9], none⟩, ⟨2, (.lkp true [(.i .i64), (.i .i64)] (.agg [z, z, z, z, z, z, z, z, zs, zs, zs, zs, z, z, z, z, z, z, z, z, (.bool false)]) false), [.s 5, .r 1], none⟩, ⟨4, (.lda 2), [.s 11], none⟩, ⟨5, (.lkp true [(.i .i64), (.i .i64)] (.agg [z, z, z, z, z, z, z, z, zs, zs, zs, zs, z, z, z, z, z, z, z, z, (.bool false)]) false), [.s 5, .r 4], none⟩] <|
 .x 7 (.alc [z, z, z, z, z, z, z, z, zs, zs, zs, zs, z, z, z, z, z, z, z, z, (.bool false)] 137) [] none [⟨1, (.lda 2), [.s 9], none⟩, ⟨2, (.lkp true [(.i .i64), (.i .i64)] (.agg [z, z, z, z, z, z, z, z, zs, zs, zs, zs, z, z, z, z, z, z, z, z, (.bool false)]) false), [.s 5, .r 1], none⟩, ⟨4, (.lda 2), [.s 11], none⟩, ⟨5, (.lkp true [(.i .i64), (.i .i64)] (.agg [z, z, z, z, z, z, z, z, zs, zs, zs, zs, z, z, z, z, z, z, z, z, (.bool false)]) false), [.s 5, .r 4], none⟩] <|
 .x 8 (.st 21) [.r 6, .r 2] none [⟨4, (.lda 2), [.s 11], none⟩, ⟨5, (.lkp true [(.i .i64), (.i .i64)] (.agg [z, z, z, z, z, z, z, z, zs, zs, zs, zs, z, z, z, z, z, z, z, z, (.bool false)]) false), [.s 5, .r 4], none⟩] <|
 .x 9 (.st 21) [.r 7, .r 5] none [] <|
 .out [(2, .s 2), (3, .s 3), (4, .s 4), (5, .s 5), (7, .s 7), (9, .s 9), (11, .s 11), (12, .r 6), (13, .r 7), (34, .s 34), (35, .s 35), (36, .s 36), (43, .s 43), (44, .s 44), (45, .s 45)])
 (.x 7 (.alc [z, z, z, z, z, z, z, z, zs, zs, zs, zs, z, z, z, z, z, z, z, z, (.bool false)] 137) [] none [⟨1, (.lda 2), [.s 9], none⟩, ⟨2, (.lkp true [(.i .i64), (.i .i64)] (.agg [z, z, z, z, z, z, z, z, zs, zs, zs, zs, z, z, z, z, z, z, z, z, (.bool false)]) false), [.s 5, .r 1], none⟩, ⟨4, (.lda 2), [.s 11], none⟩, ⟨5, (.lkp true [(.i .i64), (.i .i64)] (.agg [z, z, z, z, z, z, z, z, zs, zs, zs, zs, z, z, z, z, z, z, z, z, (.bool false)]) false), [.s 5, .r 4], none⟩] <|
 .x 6 (.alc [z, z, z, z, z, z, z, z, zs, zs, zs, zs, z, z, z, z, z, z, z, z, (.bool false)] 137) [] none [⟨1, (.lda 2), [.s 9], none⟩, ⟨2, (.lkp true [(.i .i64), (.i .i64)] (.agg [z, z, z, z, z, z, z, z, zs, zs, zs, zs, z, z, z, z, z, z, z, z, (.bool false)]) false), [.s 5, .r 1], none⟩, ⟨4, (.lda 2), [.s 11], none⟩, ⟨5, (.lkp true [(.i .i64), (.i .i64)] (.agg [z, z, z, z, z, z, z, z, zs, zs, zs, zs, z, z, z, z, z, z, z, z, (.bool false)]) false), [.s 5, .r 4], none⟩] <|
 .x 8 (.st 21) [.r 6, .r 2] none [⟨4, (.lda 2), [.s 11], none⟩, ⟨5, (.lkp true [(.i .i64), (.i .i64)] (.agg [z, z, z, z, z, z, z, z, zs, zs, zs, zs, z, z, z, z, z, z, z, z, (.bool false)]) false), [.s 5, .r 4], none⟩] <|
 .x 9 (.st 21) [.r 7, .r 5] none [] <|
 .out [(2, .s 2), (3, .s 3), (4, .s 4), (5, .s 5), (7, .s 7), (9, .s 9), (11, .s 11), (12, .r 6), (13, .r 7), (34, .s 34), (35, .s 35), (36, .s 36), (43, .s 43), (44, .s 44), (45, .s 45)])
def e39r11 : EE := .q 0 (.fld 5) [.s 12] none <|
 .q 1 (.lda 7) [.r 0] none <|
 .q 2 (.fld 5) [.s 13] none <|
 .q 3 (.lda 7) [.r 2] none <|
 .x 4 (.call 67) [.r 1, .r 3] none [] <|
 .q 6 (.fld 12) [.s 12] (some (.r 4, true)) <|
 .q 7 (.fld 1) [.r 6] (some (.r 4, true)) <|
 .q 8 (.lda 7) [.r 7] (some (.r 4, true)) <|
 .q 9 (.lda 2) [.s 11] (some (.r 4, true)) <|
 .x 10 (.call 68) [.r 8, .r 9] (some (.r 4, true)) [] <|
 .q 11 .not [.r 10] (some (.r 4, true)) <|
 .q 12 .pick [.r 4, .r 11, .c (.bool false)] none <|
 .q 14 (.fld 12) [.s 13] (some (.r 12, true)) <|
 .q 15 (.fld 1) [.r 14] (some (.r 12, true)) <|
 .q 16 (.lda 7) [.r 15] (some (.r 12, true)) <|
 .q 17 (.lda 2) [.s 9] (some (.r 12, true)) <|
 .x 18 (.call 68) [.r 16, .r 17] (some (.r 12, true)) [] <|
 .q 19 .not [.r 18] (some (.r 12, true)) <|
 .q 20 .pick [.r 12, .r 19, .c (.bool false)] none <|
 .out [(2, .s 2), (3, .s 3), (4, .s 4), (5, .s 5), (7, .s 7), (9, .s 9), (34, .s 34), (35, .s 35), (36, .s 36), (43, .s 43), (44, .s 44), (45, .s 45), (75, .r 20)]
def e39r12 : EE := .q 0 (.fld 3) [.s 7] none <|
 .q 1 .ld [.r 0] none <|
 .q 2 .add [.r 1, .c (.int .i64 1)] none <|
 .q 3 (.fld 3) [.s 7] none <|
 .x 4 (.st 1) [.r 3, .r 2] none [] <|
 .out [(2, .s 2), (3, .s 3), (4, .s 4), (5, .s 5), (7, .s 7), (9, .s 9), (34, .s 34), (35, .s 35), (36, .s 36), (43, .s 43), (44, .s 44), (45, .s 45)]
def e39r13 : EE := .q 0 .add [.s 45, .c (.int .i64 1)] none <|
 .out [(2, .s 2), (3, .s 3), (4, .s 4), (5, .s 5), (7, .s 7), (9, .s 9), (34, .s 34), (35, .s 35), (36, .s 36), (43, .s 43), (44, .s 44), (45, .r 0)]
def e39l14 : EC := (.seq (.reg e39r8 [2, 3, 4, 5, 7, 9, 34, 35, 36, 43, 44, 45] 0) (.seq (.cond (.s 46) .skip (.exit 2)) (.seq (.block 3 (.seq (.reg e39r9 [2, 3, 4, 5, 7, 9, 34, 35, 36, 43, 44, 45] 0) (.seq (.reg e39r10 [2, 3, 4, 5, 7, 9, 11, 34, 35, 36, 43, 44, 45] 10) (.seq (.reg e39r11 [2, 3, 4, 5, 7, 9, 11, 12, 13, 34, 35, 36, 43, 44, 45] 0) (.cond (.s 75) (.reg e39r12 [2, 3, 4, 5, 7, 9, 34, 35, 36, 43, 44, 45] 0) .skip))))) (.reg e39r13 [2, 3, 4, 5, 7, 9, 34, 35, 36, 43, 44, 45] 0))))
def e39r15 : EE := .q 0 .add [.s 36, .c (.int .i64 1)] none <|
 .out [(2, .s 2), (3, .s 3), (4, .s 4), (5, .s 5), (7, .s 7), (34, .s 34), (35, .s 35), (36, .r 0)]
def e39l16 : EC := (.seq (.reg e39r5 [2, 3, 4, 5, 7, 34, 35, 36] 0) (.seq (.cond (.s 37) .skip (.exit 0)) (.seq (.block 1 (.seq (.reg e39r6 [2, 3, 4, 5, 7, 34, 35, 36] 0) (.seq (.reg e39r7 [2, 3, 4, 5, 7, 8, 9, 34, 35, 36] 0) (.block 2 (.loop [2, 3, 4, 5, 7, 9, 34, 35, 36, 43, 44, 45] e39l14))))) (.reg e39r15 [2, 3, 4, 5, 7, 34, 35, 36] 0))))
def e39r17 : EE := .q 1 .len [.s 3] none <|
 .out [(2, .s 2), (3, .s 3), (7, .s 7), (82, .s 3), (83, .r 1), (84, .c z)]
def e39r18 : EE := .q 0 .lss [.s 84, .s 83] none <|
 .out [(2, .s 2), (3, .s 3), (7, .s 7), (82, .s 82), (83, .s 83), (84, .s 84), (85, .r 0)]
def e39r19 : EE := .q 1 (.ixs 1) [.s 82, .s 84] none <|
 .q 2 .ld [.r 1] none <|
 .out [(2, .s 2), (3, .s 3), (7, .s 7), (14, .s 84), (15, .r 2), (82, .s 82), (83, .s 83), (84, .s 84)]
def e39r20 : EE := .q 2 (.slc 1 false true) [.s 3, .s 14] none <|
 .q 3 .len [.r 2] none <|
 .out [(2, .s 2), (3, .s 3), (7, .s 7), (15, .s 15), (82, .s 82), (83, .s 83), (84, .s 84), (91, .r 2), (92, .r 3), (93, .c z)]
def e39r21 : EE := .q 0 .lss [.s 93, .s 92] none <|
 .out [(2, .s 2), (3, .s 3), (7, .s 7), (15, .s 15), (82, .s 82), (83, .s 83), (84, .s 84), (91, .s 91), (92, .s 92), (93, .s 93), (94, .r 0)]
def e39r22 : EE := .q 0 (.ixs 1) [.s 91, .s 93] none <|
 .q 1 .ld [.r 0] none <|
 .out [(2, .s 2), (3, .s 3), (7, .s 7), (15, .s 15), (17, .r 1), (82, .s 82), (83, .s 83), (84, .s 84), (91, .s 91), (92, .s 92), (93, .s 93)]
def e39r23 : EE := .x 1 (.call 69) [.s 15] none [] <|
 .x 3 (.call 69) [.s 17] none [] <|
 .q 4 (.eqc false [(.i .i64), (.i .i64), (.i .i64), (.i .i64), (.i .i64), (.i .i64), (.i .i64)]) [.r 1, .r 3] none <|
 .q 6 .mv [.s 15] (some (.r 4, true)) <|
 .x 7 (.call 71) [.r 6] (some (.r 4, true)) [] <|
 .q 8 .mv [.s 17] (some (.r 4, true)) <|
 .x 9 (.call 71) [.r 8] (some (.r 4, true)) [] <|
 .x 10 (.call 70) [.r 7, .r 9] (some (.r 4, true)) [] <|
 .q 11 .not [.r 10] (some (.r 4, true)) <|
 .q 12 .pick [.r 4, .r 11, .c (.bool false)] none <|
 .out [(2, .s 2), (3, .s 3), (7, .s 7), (15, .s 15), (82, .s 82), (83, .s 83), (84, .s 84), (91, .s 91), (92, .s 92), (93, .s 93), (109, .r 12)]
def e39r24 : EE := .q 0 (.fld 4) [.s 7] none <|
 .q 1 .ld [.r 0] none <|
 .q 2 .add [.r 1, .c (.int .i64 1)] none <|
 .q 3 (.fld 4) [.s 7] none <|
 .x 4 (.st 1) [.r 3, .r 2] none [] <|
 .out [(2, .s 2), (3, .s 3), (7, .s 7), (15, .s 15), (82, .s 82), (83, .s 83), (84, .s 84), (91, .s 91), (92, .s 92), (93, .s 93)]
def e39r25 : EE := .q 0 .add [.s 93, .c (.int .i64 1)] none <|
 .out [(2, .s 2), (3, .s 3), (7, .s 7), (15, .s 15), (82, .s 82), (83, .s 83), (84, .s 84), (91, .s 91), (92, .s 92), (93, .r 0)]
def e39l26 : EC := (.seq (.reg e39r21 [2, 3, 7, 15, 82, 83, 84, 91, 92, 93] 0) (.seq (.cond (.s 94) .skip (.exit 6)) (.seq (.block 7 (.seq (.reg e39r22 [2, 3, 7, 15, 82, 83, 84, 91, 92, 93] 0) (.seq (.reg e39r23 [2, 3, 7, 15, 17, 82, 83, 84, 91, 92, 93] 0) (.cond (.s 109) (.reg e39r24 [2, 3, 7, 15, 82, 83, 84, 91, 92, 93] 0) .skip)))) (.reg e39r25 [2, 3, 7, 15, 82, 83, 84, 91, 92, 93] 0))))
def e39r27 : EE := .q 0 .add [.s 84, .c (.int .i64 1)] none <|
 .out [(2, .s 2), (3, .s 3), (7, .s 7), (82, .s 82), (83, .s 83), (84, .r 0)]
def e39l28 : EC := (.seq (.reg e39r18 [2, 3, 7, 82, 83, 84] 0) (.seq (.cond (.s 85) .skip (.exit 4)) (.seq (.block 5 (.seq (.reg e39r19 [2, 3, 7, 82, 83, 84] 0) (.seq (.reg e39r20 [2, 3, 7, 14, 15, 82, 83, 84] 0) (.block 6 (.loop [2, 3, 7, 15, 82, 83, 84, 91, 92, 93] e39l26))))) (.reg e39r27 [2, 3, 7, 82, 83, 84] 0))))
def e39r29 : EE := .q 0 (.lda 5) [.s 7] none <|
 .x 1 (.st 5) [.s 2, .r 0] none [] <|
 .out [(2, .s 2)]
def e39 : EFn := ⟨(.seq (.reg e39r0 [0] 0) (.seq (.reg e39r1 [0, 2] 0) (.seq (.reg e39r2 [0, 2, 3] 0) (.seq (.reg e39r3 [2, 3, 4, 5, 6] 0) (.seq (.seq (.reg e39r4 [2, 3, 4, 5, 7] 0) (.block 0 (.loop [2, 3, 4, 5, 7, 34, 35, 36] e39l16))) (.seq (.seq (.reg e39r17 [2, 3, 7] 0) (.block 4 (.loop [2, 3, 7, 82, 83, 84] e39l28))) (.seq (.reg e39r29 [2, 7] 0) .ret))))))), [.cells 2 5], 117, 0⟩
theorem g39 : Good Tryz.prog 39 e39 := ⟨Tryz.f39, Tryz.func39, by kernel_rfl, by kernel_rfl, by kernel_rfl, by kernel_rfl⟩
/-! concord/audit.Fine -/
def e40r0 : EE := .x 0 (.box 89) [.s 0] none [] <|
 .out [(1, .r 0)]
def e40r1 : EE := .q 0 (.fld 2) [.s 1] none <|
 .q 1 .ld [.r 0] none <|
 .q 2 .eql [.r 1, .c z] none <|
 .q 4 (.fld 3) [.s 1] (some (.r 2, true)) <|
 .q 5 .ld [.r 4] (some (.r 2, true)) <|
 .q 6 .eql [.r 5, .c z] (some (.r 2, true)) <|
 .q 7 .pick [.r 2, .r 6, .c (.bool false)] none <|
 .q 9 (.fld 4) [.s 1] (some (.r 7, true)) <|
 .q 10 .ld [.r 9] (some (.r 7, true)) <|
 .q 11 .eql [.r 10, .c z] (some (.r 7, true)) <|
 .q 12 .pick [.r 7, .r 11, .c (.bool false)] none <|
 .out [(2, .r 12)]
def e40 : EFn := ⟨(.seq (.reg e40r0 [0] 0) (.seq (.reg e40r1 [1] 0) .ret)), [.slot 2], 16, 0⟩
theorem g40 : Good Tryz.prog 40 e40 := ⟨Tryz.f40, Tryz.func40, by kernel_rfl, by kernel_rfl, by kernel_rfl, by kernel_rfl⟩
/-! internal/strconv.FormatInt -/
def e41r0 : EE := .out [(0, .s 0), (1, .s 1)]
def e41r1 : EE := .q 1 .eql [.s 1, .c (.int .i64 10)] none <|
 .out [(0, .s 0), (1, .s 1), (11, .r 1)]
def e41r2 : EE := .q 1 .leq [.c z, .s 0] none <|
 .q 3 .mv [.s 0] (some (.r 1, true)) <|
 .q 4 .lss [.r 3, .c (.int .i64 100)] (some (.r 1, true)) <|
 .q 5 .pick [.r 1, .r 4, .c (.bool false)] none <|
 .out [(0, .s 0), (17, .r 5)]
def e41r3 : EE := .x 1 (.call 72) [.s 0] none [] <|
 .out [(4, .r 1)]
def e41r4 : EE := .x 0 (.alc [(.int .u8 0), (.int .u8 0), (.int .u8 0), (.int .u8 0), (.int .u8 0), (.int .u8 0), (.int .u8 0), (.int .u8 0), (.int .u8 0), (.int .u8 0), (.int .u8 0), (.int .u8 0), (.int .u8 0), (.int .u8 0), (.int .u8 0), (.int .u8 0), (.int .u8 0), (.int .u8 0), (.int .u8 0), (.int .u8 0), (.int .u8 0), (.int .u8 0), (.int .u8 0), (.int .u8 0)] 148) [] none [] <|
 .out [(0, .s 0), (5, .r 0)]
def e41r5 : EE := .q 1 (.conv .u64) [.s 0] none <|
 .out [(0, .s 0), (5, .s 5), (6, .r 1)]
def e41r6 : EE := .q 1 .lss [.s 0, .c z] none <|
 .out [(0, .s 0), (5, .s 5), (6, .s 6), (23, .r 1)]
def e41r7 : EE := .q 1 .neg [.s 6] none <|
 .out [(0, .s 0), (5, .s 5), (6, .r 1)]
def e41r8 : EE := .x 1 (.call 73) [.s 6] none [] <|
 .out [(0, .s 0), (5, .s 5), (6, .s 6), (7, .r 1)]
def e41r9 : EE := .q 1 .add [.c (.int .i64 1), .s 7] none <|
 .q 2 (.sla 24 1 true true) [.s 5, .c (.int .i64 1), .r 1] none <|
 .x 4 (.call 74) [.r 2, .s 6] none [] <|
 .out [(0, .s 0), (5, .s 5), (7, .s 7)]
def e41r10 : EE := .q 1 .lss [.s 0, .c z] none <|
 .out [(5, .s 5), (7, .s 7), (34, .r 1)]
def e41r11 : EE := .q 0 (.ixa 24 1) [.s 5, .c z] none <|
 .x 1 (.st 1) [.r 0, .c (.int .u8 45)] none [] <|
 .out [(5, .s 5), (7, .s 7)]
def e41r12 : EE := .q 1 .add [.c (.int .i64 1), .s 7] none <|
 .q 2 (.sla 24 1 false true) [.s 5, .r 1] none <|
 .q 3 .b2s [.r 2] none <|
 .out [(4, .r 3)]
def e41r13 : EE := .q 1 .add [.c (.int .i64 1), .s 7] none <|
 .q 2 (.sla 24 1 true true) [.s 5, .c (.int .i64 1), .r 1] none <|
 .q 3 .b2s [.r 2] none <|
 .out [(4, .r 3)]
def e41r14 : EE := .q 1 (.conv .u64) [.s 0] none <|
 .q 4 .lss [.s 0, .c z] none <|
 .x 5 (.call 75) [.c .nsl, .r 1, .s 1, .r 4, .c (.bool false)] none [] <|
 .q 7 (.ext 0) [.r 5] none <|
 .q 8 (.ext 1) [.r 5] none <|
 .out [(9, .r 8)]
def e41r15 : EE := .out [(4, .s 9)]
def e41 : EFn := ⟨(.seq (.reg e41r0 [0, 1] 0) (.seq (.seq (.reg e41r1 [0, 1] 0) (.cond (.s 11) (.seq (.seq (.reg e41r2 [0] 0) (.cond (.s 17) (.seq (.reg e41r3 [0] 0) .ret) .skip)) (.seq (.reg e41r4 [0] 0) (.seq (.reg e41r5 [0, 5] 0) (.seq (.seq (.reg e41r6 [0, 5, 6] 0) (.cond (.s 23) (.reg e41r7 [0, 5, 6] 0) .skip)) (.seq (.reg e41r8 [0, 5, 6] 0) (.seq (.reg e41r9 [0, 5, 6, 7] 0) (.seq (.seq (.reg e41r10 [0, 5, 7] 0) (.cond (.s 34) (.seq (.reg e41r11 [5, 7] 0) (.seq (.reg e41r12 [5, 7] 0) .ret)) .skip)) (.seq (.reg e41r13 [5, 7] 0) .ret)))))))) .skip)) (.seq (.reg e41r14 [0, 1] 0) (.seq (.reg e41r15 [9] 0) .ret)))), [.slot 4], 54, 0⟩
theorem g41 : Good Tryz.prog 41 e41 := ⟨Tryz.f41, Tryz.func41, by kernel_rfl, by kernel_rfl, by kernel_rfl, by kernel_rfl⟩
/-! (*strings.Builder).copyCheck -/
def e42r0 : EE := .q 1 .nl [.s 0] none <|
 .q 2 (.fld 0) [.r 1] none <|
 .q 3 .ld [.r 2] none <|
 .q 4 (.eqp false) [.r 3, .c .nptr] none <|
 .out [(0, .s 0), (6, .r 4)]
def e42r1 : EE := .q 2 .p2u [.s 0] none <|
 .q 3 .mv [.r 2] none <|
 .q 4 (.u2p 65 2) [.r 3] none <|
 .q 5 .nl [.s 0] none <|
 .q 6 (.fld 0) [.r 5] none <|
 .x 7 (.st 1) [.r 6, .r 4] none [] <|
 .out []
def e42r2 : EE := .q 1 .nl [.s 0] none <|
 .q 2 (.fld 0) [.r 1] none <|
 .q 3 .ld [.r 2] none <|
 .q 5 (.eqq true) [.r 3, .s 0] none <|
 .out [(19, .r 5)]
def e42r3 : EE := .fail
def e42 : EFn := ⟨(.seq (.reg e42r0 [0] 0) (.cond (.s 6) (.reg e42r1 [0] 0) (.seq (.reg e42r2 [0] 0) (.cond (.s 19) (.reg e42r3 [] 0) .skip)))), [], 20, 0⟩
theorem g42 : Good Tryz.prog 42 e42 := ⟨Tryz.f42, Tryz.func42, by kernel_rfl, by kernel_rfl, by kernel_rfl, by kernel_rfl⟩
/-! (*strings.Builder).grow -/
def e43r0 : EE := .q 1 .nl [.s 0] none <|
 .q 2 (.fld 1) [.r 1] none <|
 .q 3 .ld [.r 2] none <|
 .q 4 .cap [.r 3] none <|
 .q 5 .mul [.c (.int .i64 2), .r 4] none <|
 .q 7 .add [.r 5, .s 1] none <|
 .q 10 .nl [.s 0] none <|
 .q 11 (.fld 1) [.r 10] none <|
 .q 12 .ld [.r 11] none <|
 .q 13 .len [.r 12] none <|
 .x 8 (.mnz 5) [.r 7] none [⟨12, .ld, [.r 11], none⟩] <|
 .q 14 (.slc 1 false true) [.r 8, .r 13] none <|
 .out [(0, .s 0), (4, .r 14)]
def e43r1 : EE := .q 2 .nl [.s 0] none <|
 .q 3 (.fld 1) [.r 2] none <|
 .q 4 .ld [.r 3] none <|
 .x 5 (.cpy 1) [.s 4, .r 4] none [] <|
 .out [(0, .s 0), (4, .s 4)]
def e43r2 : EE := .q 2 .nl [.s 0] none <|
 .q 3 (.fld 1) [.r 2] none <|
 .x 4 (.st 1) [.r 3, .s 4] none [] <|
 .out []
def e43 : EFn := ⟨(.seq (.reg e43r0 [0, 1] 0) (.seq (.reg e43r1 [0, 4] 0) (.reg e43r2 [0, 4] 0))), [], 30, 0⟩
theorem g43 : Good Tryz.prog 43 e43 := ⟨Tryz.f43, Tryz.func43, by kernel_rfl, by kernel_rfl, by kernel_rfl, by kernel_rfl⟩
/-! strconv.Atoi -/
def e44r0 : EE := .out [(0, .s 0)]
def e44r1 : EE := .x 1 (.call 78) [.s 0] none [] <|
 .q 3 (.ext 0) [.r 1] none <|
 .q 4 (.ext 1) [.r 1] none <|
 .out [(0, .s 0), (4, .r 3), (5, .r 4)]
def e44r2 : EE := .q 1 (.eqi true) [.s 5, .c .nif] none <|
 .out [(0, .s 0), (4, .s 4), (5, .s 5), (12, .r 1)]
def e44r3 : EE := .x 3 (.call 79) [.c (.str [65, 116, 111, 105]), .s 0, .c z, .c z, .s 5] none [] <|
 .out [(2, .s 4), (3, .r 3)]
def e44r4 : EE := .out [(2, .s 4), (3, .c .nif)]
def e44 : EFn := ⟨(.seq (.reg e44r0 [0] 0) (.seq (.reg e44r1 [0] 0) (.seq (.seq (.reg e44r2 [0, 4, 5] 0) (.cond (.s 12) (.seq (.reg e44r3 [0, 4, 5] 0) .ret) .skip)) (.seq (.reg e44r4 [4] 0) .ret)))), [.slot 2, .slot 3], 18, 0⟩
theorem g44 : Good Tryz.prog 44 e44 := ⟨Tryz.f44, Tryz.func44, by kernel_rfl, by kernel_rfl, by kernel_rfl, by kernel_rfl⟩
/-! strings.Count -/
def e47r0 : EE := .out [(0, .s 0), (1, .s 1)]
def e47r1 : EE := .q 1 .lenz [.s 1] none <|
 .q 2 .eql [.r 1, .c z] none <|
 .out [(0, .s 0), (1, .s 1), (9, .r 2)]
def e47r2 : EE := .x 1 (.call 81) [.s 0] none [] <|
 .q 2 .add [.r 1, .c (.int .i64 1)] none <|
 .out [(4, .r 2)]
def e47r3 : EE := .q 1 .lenz [.s 1] none <|
 .q 2 .eql [.r 1, .c (.int .i64 1)] none <|
 .out [(0, .s 0), (1, .s 1), (15, .r 2)]
def e47r4 : EE := .q 2 .idxs [.s 1, .c z] none <|
 .q 3 .cnt [.s 0, .r 2] none <|
 .out [(4, .r 3)]
def e47r5 : EE := .out [(0, .s 0), (1, .s 1), (5, .c z)]
def e47r6 : EE := .x 2 (.call 48) [.s 0, .s 1] none [] <|
 .out [(0, .s 0), (1, .s 1), (5, .s 5), (6, .r 2)]
def e47r7 : EE := .q 1 .eql [.s 6, .c (.int .i64 (-1))] none <|
 .out [(0, .s 0), (1, .s 1), (5, .s 5), (6, .s 6), (24, .r 1)]
def e47r8 : EE := .out [(4, .s 5)]
def e47r9 : EE := .q 1 .add [.s 5, .c (.int .i64 1)] none <|
 .out [(0, .s 0), (1, .s 1), (5, .r 1), (6, .s 6)]
def e47r10 : EE := .q 3 .lenz [.s 1] none <|
 .q 4 .add [.s 6, .r 3] none <|
 .q 5 (.slcs true false) [.s 0, .r 4] none <|
 .out [(0, .r 5), (1, .s 1), (5, .s 5)]
def e47l11 : EC := (.block 1 (.seq (.reg e47r6 [0, 1, 5] 0) (.seq (.seq (.reg e47r7 [0, 1, 5, 6] 0) (.cond (.s 24) (.seq (.reg e47r8 [5] 0) .ret) .skip)) (.seq (.reg e47r9 [0, 1, 5, 6] 0) (.reg e47r10 [0, 1, 5, 6] 0)))))
def e47 : EFn := ⟨(.seq (.reg e47r0 [0, 1] 0) (.seq (.seq (.reg e47r1 [0, 1] 0) (.cond (.s 9) (.seq (.reg e47r2 [0] 0) .ret) .skip)) (.seq (.seq (.reg e47r3 [0, 1] 0) (.cond (.s 15) (.seq (.reg e47r4 [0, 1] 0) .ret) .skip)) (.seq (.reg e47r5 [0, 1] 0) (.block 0 (.loop [0, 1, 5] e47l11)))))), [.slot 4], 34, 0⟩
theorem g47 : Good Tryz.prog 47 e47 := ⟨Tryz.f47, Tryz.func47, by kernel_rfl, by kernel_rfl, by kernel_rfl, by kernel_rfl⟩
/-! strings.Index -/
def e48r0 : EE := .out [(0, .s 0), (1, .s 1)]
def e48r1 : EE := .x 2 (.call 84) [.s 0, .s 1] none [] <|
 .out [(4, .r 2)]
def e48 : EFn := ⟨(.seq (.reg e48r0 [0, 1] 0) (.seq (.reg e48r1 [0, 1] 0) .ret)), [.slot 4], 8, 0⟩
theorem g48 : Good Tryz.prog 48 e48 := ⟨Tryz.f48, Tryz.func48, by kernel_rfl, by kernel_rfl, by kernel_rfl, by kernel_rfl⟩
/-! strings.Cut -/
def e49r0 : EE := .out [(0, .s 0), (1, .s 1)]
def e49r1 : EE := .x 2 (.call 85) [.s 0, .s 1] none [] <|
 .q 3 (.ext 0) [.r 2] none <|
 .q 4 (.ext 1) [.r 2] none <|
 .q 5 (.ext 2) [.r 2] none <|
 .out [(4, .r 3), (5, .r 4), (6, .r 5)]
def e49 : EFn := ⟨(.seq (.reg e49r0 [0, 1] 0) (.seq (.reg e49r1 [0, 1] 0) .ret)), [.slot 4, .slot 5, .slot 6], 13, 0⟩
theorem g49 : Good Tryz.prog 49 e49 := ⟨Tryz.f49, Tryz.func49, by kernel_rfl, by kernel_rfl, by kernel_rfl, by kernel_rfl⟩
/-! concord/disk.New -/
def e50r0 : EE := .out [(0, .s 0)]
def e50r1 : EE := .q 1 .lss [.s 0, .c z] none <|
 .q 3 .mv [.s 0] (some (.r 1, false)) <|
 .q 4 .gtr [.r 3, .c (.int .i64 1048576)] (some (.r 1, false)) <|
 .q 5 .pick [.r 1, .c (.bool true), .r 4] none <|
 .out [(0, .s 0), (9, .r 5)]
def e50r2 : EE := .out [(2, .c .nptr), (3, .c (.int .i64 1))]
def e50r3 : EE := .q 1 (.bld [z, .nsl, (.bool false), (.bool false), z] [(0, 1)]) [.s 0] none <|
 .x 2 (.box 162) [.r 1] none [] <|
 .out [(2, .r 2), (3, .c z)]
def e50 : EFn := ⟨(.seq (.reg e50r0 [0] 0) (.seq (.seq (.reg e50r1 [0] 0) (.cond (.s 9) (.seq (.reg e50r2 [] 0) .ret) .skip)) (.seq (.reg e50r3 [0] 0) .ret))), [.slot 2, .slot 3], 13, 0⟩
theorem g50 : Good Tryz.prog 50 e50 := ⟨Tryz.f50, Tryz.func50, by kernel_rfl, by kernel_rfl, by kernel_rfl, by kernel_rfl⟩
end Go.Ev
