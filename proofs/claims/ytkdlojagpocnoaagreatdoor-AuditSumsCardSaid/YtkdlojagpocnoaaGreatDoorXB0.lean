import Derived.Test.YtkdlojagpocnoaaGreatDoorEvB
import Derived.Test.YtkdlojagpocnoaaGreatDoorProg
set_option linter.unusedVariables false
namespace Go.Ev
open Go.Fw Go.Proofs
/-! concord/concordlaw28.AuditRuns -/
def e6r0 : EE := .out []
def e6r1 : EE := .x 0 (.call 18) [.c (.int .i64 3)] none [] <|
 .q 2 (.ext 0) [.r 0] none <|
 .q 3 (.ext 1) [.r 0] none <|
 .out [(1, .r 2), (2, .r 3)]
def e6r2 : EE := .q 1 (.eqp false) [.s 1, .c .nptr] none <|
 .q 3 .mv [.s 2] (some (.r 1, false)) <|
 .q 4 .neq [.r 3, .c z] (some (.r 1, false)) <|
 .q 5 .pick [.r 1, .c (.bool true), .r 4] none <|
 .out [(1, .s 1), (15, .r 5)]
def e6r3 : EE := .out [(0, .c (.bool false))]
def e6r4 : EE := .x 1 (.call 25) [.s 1] none [] <|
 .x 2 (.alc [z, z, z, z, z] 80) [] none [] <|
 .x 3 (.st 5) [.r 2, .r 1] none [] <|
 .out [(1, .s 1), (3, .r 2)]
def e6r5 : EE := .q 1 (.bld [z, z, z, zs, zs, zs, zs] [(0, 1), (3, 1)]) [.c (.int .i64 2), .c (.str [97])] none <|
 .q 2 (.bld [z, z, z, z, z, z, z, zs, zs, zs, zs, .nsl] [(0, 1), (3, 1), (4, 7)]) [.c (.int .i64 1), .c (.int .i64 1), .r 1] none <|
 .x 3 (.call 19) [.s 1, .r 2] none [] <|
 .out [(1, .s 1), (3, .s 3)]
def e6r6 : EE := .out [(1, .s 1), (3, .s 3), (4, .c z)]
def e6r7 : EE := .q 1 .lss [.s 4, .c (.int .i64 100)] none <|
 .q 3 .mv [.s 1] (some (.r 1, true)) <|
 .q 4 (.bld [z, z, z, z, z, z, z, zs, zs, zs, zs, .nsl] [(0, 1)]) [.c (.int .i64 2)] (some (.r 1, true)) <|
 .x 5 (.call 19) [.r 3, .r 4] (some (.r 1, true)) [] <|
 .q 6 .pick [.r 1, .r 5, .c (.bool false)] none <|
 .out [(1, .s 1), (3, .s 3), (4, .s 4), (28, .r 6)]
def e6r8 : EE := .q 1 .add [.s 4, .c (.int .i64 1)] none <|
 .out [(1, .s 1), (3, .s 3), (4, .r 1)]
def e6l9 : EC := (.seq (.seq (.reg e6r7 [1, 3, 4] 0) (.cond (.s 28) .skip (.exit 0))) (.seq (.block 1 .skip) (.reg e6r8 [1, 3, 4] 0)))
def e6r10 : EE := .x 1 (.call 25) [.s 1] none [] <|
 .x 2 (.alc [z, z, z, z, z] 80) [] none [] <|
 .x 3 (.st 5) [.r 2, .r 1] none [] <|
 .out [(3, .s 3), (5, .r 2)]
def e6r11 : EE := .q 0 (.lda 5) [.s 3] none <|
 .q 1 (.bld [z, z, z, z, z] [(0, 1)]) [.c (.int .i64 3)] none <|
 .q 2 (.eqc false [(.i .i64), (.i .i64), (.i .i64), (.i .i64), (.i .i64)]) [.r 0, .r 1] none <|
 .q 4 (.lda 5) [.s 5] (some (.r 2, true)) <|
 .q 5 (.bld [z, z, z, z, z] [(0, 1), (1, 1)]) [.c (.int .i64 3), .c (.int .i64 1)] (some (.r 2, true)) <|
 .q 6 (.eqc false [(.i .i64), (.i .i64), (.i .i64), (.i .i64), (.i .i64)]) [.r 4, .r 5] (some (.r 2, true)) <|
 .q 7 .pick [.r 2, .r 6, .c (.bool false)] none <|
 .q 9 (.lda 5) [.s 5] (some (.r 7, true)) <|
 .x 10 (.call 26) [.r 9] (some (.r 7, true)) [] <|
 .q 11 .pick [.r 7, .r 10, .c (.bool false)] none <|
 .q 13 (.bld [z, z, z, z, z] [(3, 1)]) [.c (.int .i64 1)] (some (.r 11, true)) <|
 .x 14 (.call 26) [.r 13] (some (.r 11, true)) [] <|
 .q 15 .not [.r 14] (some (.r 11, true)) <|
 .q 16 .pick [.r 11, .r 15, .c (.bool false)] none <|
 .out [(0, .r 16)]
def e6 : EFn := ⟨(.seq (.reg e6r0 [] 0) (.seq (.reg e6r1 [] 0) (.seq (.seq (.reg e6r2 [1, 2] 0) (.cond (.s 15) (.seq (.reg e6r3 [] 0) .ret) .skip)) (.seq (.reg e6r4 [1] 0) (.seq (.reg e6r5 [1, 3] 0) (.seq (.seq (.reg e6r6 [1, 3] 0) (.block 0 (.loop [1, 3, 4] e6l9))) (.seq (.reg e6r10 [1, 3] 0) (.seq (.reg e6r11 [3, 5] 0) .ret)))))))), [.slot 0], 50, 0⟩
theorem g6 : Good Tryz.prog 6 e6 := ⟨Tryz.f6, Tryz.func6, by kernel_rfl, by kernel_rfl, by kernel_rfl, by kernel_rfl⟩
/-! concord/disk.New -/
def e9r0 : EE := .out [(0, .s 0)]
def e9r1 : EE := .q 1 .lss [.s 0, .c z] none <|
 .q 3 .mv [.s 0] (some (.r 1, false)) <|
 .q 4 .gtr [.r 3, .c (.int .i64 1048576)] (some (.r 1, false)) <|
 .q 5 .pick [.r 1, .c (.bool true), .r 4] none <|
 .out [(0, .s 0), (9, .r 5)]
def e9r2 : EE := .out [(2, .c .nptr), (3, .c (.int .i64 1))]
def e9r3 : EE := .q 1 (.bld [z, .nsl, (.bool false), (.bool false), z] [(0, 1)]) [.s 0] none <|
 .x 2 (.box 90) [.r 1] none [] <|
 .out [(2, .r 2), (3, .c z)]
def e9 : EFn := ⟨(.seq (.reg e9r0 [0] 0) (.seq (.seq (.reg e9r1 [0] 0) (.cond (.s 9) (.seq (.reg e9r2 [] 0) .ret) .skip)) (.seq (.reg e9r3 [0] 0) .ret))), [.slot 2, .slot 3], 13, 0⟩
theorem g9 : Good Tryz.prog 9 e9 := ⟨Tryz.f9, Tryz.func9, by kernel_rfl, by kernel_rfl, by kernel_rfl, by kernel_rfl⟩
/-! concord/node.New -/
def e10r0 : EE := .out [(0, .s 0), (1, .s 1), (2, .s 2)]
def e10r1 : EE := .x 1 (.call 30) [.s 0] none [] <|
 .q 2 .not [.r 1] none <|
 .q 4 .mv [.s 1] (some (.r 2, false)) <|
 .q 5 .lss [.r 4, .c z] (some (.r 2, false)) <|
 .q 6 .pick [.r 2, .c (.bool true), .r 5] none <|
 .q 8 .mv [.s 1] (some (.r 6, false)) <|
 .q 9 .mv [.s 0] (some (.r 6, false)) <|
 .q 10 .geq [.r 8, .r 9] (some (.r 6, false)) <|
 .q 11 .pick [.r 6, .c (.bool true), .r 10] none <|
 .q 13 .mv [.s 2] (some (.r 11, false)) <|
 .q 14 (.eqp false) [.r 13, .c .nptr] (some (.r 11, false)) <|
 .q 15 .pick [.r 11, .c (.bool true), .r 14] none <|
 .out [(0, .s 0), (1, .s 1), (2, .s 2), (37, .r 15)]
def e10r2 : EE := .out [(6, .c .nptr), (7, .c (.int .i64 1))]
def e10r3 : EE := .q 3 (.bld [z, z, .nptr, .nptr, .nptr, .nptr, .nsl, z, z, (.bool false), zs, z, .nsl, z, z, (.bool false), zs, z, .nsl, z, z, (.bool false), zs, z, .nsl, z, z, (.bool false), zs, z, .nsl, z, z, (.bool false), zs, z, .nsl, z, z, (.bool false), zs, z, .nsl, z, z, (.bool false), zs, z, .nsl, z, z, (.bool false), zs, z, .nsl, z, z, z, z, z, z, z, z, z, z, z, z, z, z, z, z, .nsl, .nsl, .nsl, (.bool false)] [(0, 1), (1, 1), (2, 1)]) [.s 0, .s 1, .s 2] none <|
 .x 4 (.box 96) [.r 3] none [] <|
 .out [(0, .s 0), (1, .s 1), (2, .s 2), (8, .r 4)]
def e10r4 : EE := .x 3 (.call 31) [.s 0, .s 1] none [] <|
 .q 5 (.ext 0) [.r 3] none <|
 .q 6 (.ext 1) [.r 3] none <|
 .q 7 .nl [.s 8] none <|
 .q 8 (.fld 5) [.r 7] none <|
 .x 9 (.st 1) [.r 8, .r 5] none [] <|
 .out [(0, .s 0), (1, .s 1), (2, .s 2), (8, .s 8)]
def e10r5 : EE := .x 1 (.call 32) [.s 8] none [] <|
 .out [(0, .s 0), (1, .s 1), (2, .s 2), (8, .s 8), (9, .r 1)]
def e10r6 : EE := .q 1 .neq [.s 9, .c z] none <|
 .out [(0, .s 0), (1, .s 1), (2, .s 2), (8, .s 8), (9, .s 9), (55, .r 1)]
def e10r7 : EE := .out [(6, .c .nptr), (7, .s 9)]
def e10r8 : EE := .x 1 (.call 33) [.s 2] none [] <|
 .q 3 (.ext 0) [.r 1] none <|
 .q 4 (.ext 1) [.r 1] none <|
 .q 5 (.ext 2) [.r 1] none <|
 .out [(0, .s 0), (1, .s 1), (8, .s 8), (10, .r 3), (11, .r 4), (12, .r 5)]
def e10r9 : EE := .q 1 .neq [.s 12, .c z] none <|
 .out [(0, .s 0), (1, .s 1), (8, .s 8), (10, .s 10), (11, .s 11), (12, .s 12), (64, .r 1)]
def e10r10 : EE := .out [(6, .c .nptr), (7, .s 12)]
def e10r11 : EE := .q 2 .nl [.s 8] none <|
 .q 3 (.fld 3) [.r 2] none <|
 .x 4 (.st 1) [.r 3, .s 10] none [] <|
 .out [(0, .s 0), (1, .s 1), (8, .s 8), (10, .s 10), (11, .s 11)]
def e10r12 : EE := .x 0 (.alc [z, z, z, z, z, z, z] 44) [] none [] <|
 .out [(0, .s 0), (1, .s 1), (8, .s 8), (10, .s 10), (11, .s 11), (13, .r 0)]
def e10r13 : EE := .out [(0, .s 0), (1, .s 1), (8, .s 8), (10, .s 10), (11, .s 11), (13, .s 13), (14, .c .nsl)]
def e10r14 : EE := .q 1 .len [.s 11] none <|
 .out [(0, .s 0), (1, .s 1), (8, .s 8), (10, .s 10), (13, .s 13), (14, .s 14), (70, .s 11), (71, .r 1), (72, .c z)]
def e10r15 : EE := .q 0 .lss [.s 72, .s 71] none <|
 .out [(0, .s 0), (1, .s 1), (8, .s 8), (10, .s 10), (13, .s 13), (14, .s 14), (70, .s 70), (71, .s 71), (72, .s 72), (73, .r 0)]
def e10r16 : EE := .q 0 (.ixs 1) [.s 70, .s 72] none <|
 .q 1 .ld [.r 0] none <|
 .out [(0, .s 0), (1, .s 1), (8, .s 8), (10, .s 10), (13, .s 13), (14, .s 14), (16, .r 1), (70, .s 70), (71, .s 71), (72, .s 72)]
def e10r17 : EE := .x 1 (.call 34) [.s 16] none [] <|
 .q 3 (.ext 0) [.r 1] none <|
 .q 4 (.ext 1) [.r 1] none <|
 .x 5 (.alc [z, z, z, z, z, z, z] 44) [] none [] <|
 .x 6 (.st 7) [.r 5, .r 3] none [] <|
 .out [(0, .s 0), (1, .s 1), (8, .s 8), (10, .s 10), (13, .s 13), (14, .s 14), (16, .s 16), (17, .r 5), (18, .r 4), (70, .s 70), (71, .s 71), (72, .s 72)]
def e10r18 : EE := .out [(0, .s 0), (1, .s 1), (8, .s 8), (10, .s 10), (13, .s 13), (14, .s 14), (16, .s 16), (17, .s 17), (70, .s 70), (71, .s 71), (72, .s 72), (81, .s 18)]
def e10r19 : EE := .q 0 (.lda 7) [.s 17] none <|
 .x 1 (.st 7) [.s 13, .r 0] none [] <|
 .out [(0, .s 0), (1, .s 1), (8, .s 8), (10, .s 10), (13, .s 13), (14, .s 14), (70, .s 70), (71, .s 71), (72, .s 72)]
def e10r20 : EE := .q 1 .len [.s 16] none <|
 .q 2 .gtr [.r 1, .c z] none <|
 .q 4 .mv [.s 16] (some (.r 2, true)) <|
 .q 5 (.ixs 1) [.r 4, .c z] (some (.r 2, true)) <|
 .q 6 .ld [.r 5] (some (.r 2, true)) <|
 .q 7 .eql [.r 6, .c (.int .u8 2)] (some (.r 2, true)) <|
 .q 8 .pick [.r 2, .r 7, .c (.bool false)] none <|
 .out [(0, .s 0), (1, .s 1), (8, .s 8), (10, .s 10), (13, .s 13), (14, .s 14), (16, .s 16), (70, .s 70), (71, .s 71), (72, .s 72), (91, .r 8)]
def e10r21 : EE := .q 2 (.slc 1 true false) [.s 16, .c (.int .i64 1)] none <|
 .x 3 (.bsl 103 1 [.nsl] [(0, 1)]) [.r 2] none [] <|
 .x 4 (.app 103 1 24 [.nsl]) [.s 14, .r 3] none [] <|
 .out [(0, .s 0), (1, .s 1), (8, .s 8), (10, .s 10), (13, .s 13), (14, .r 4), (70, .s 70), (71, .s 71), (72, .s 72)]
def e10r22 : EE := .q 0 .add [.s 72, .c (.int .i64 1)] none <|
 .out [(0, .s 0), (1, .s 1), (8, .s 8), (10, .s 10), (13, .s 13), (14, .s 14), (70, .s 70), (71, .s 71), (72, .r 0)]
def e10l23 : EC := (.seq (.reg e10r15 [0, 1, 8, 10, 13, 14, 70, 71, 72] 0) (.seq (.cond (.s 73) .skip (.exit 0)) (.seq (.block 1 (.seq (.reg e10r16 [0, 1, 8, 10, 13, 14, 70, 71, 72] 0) (.seq (.reg e10r17 [0, 1, 8, 10, 13, 14, 16, 70, 71, 72] 0) (.seq (.reg e10r18 [0, 1, 8, 10, 13, 14, 16, 17, 18, 70, 71, 72] 0) (.cond (.s 81) (.reg e10r19 [0, 1, 8, 10, 13, 14, 17, 70, 71, 72] 0) (.seq (.reg e10r20 [0, 1, 8, 10, 13, 14, 16, 70, 71, 72] 0) (.cond (.s 91) (.reg e10r21 [0, 1, 8, 10, 13, 14, 16, 70, 71, 72] 0) .skip))))))) (.reg e10r22 [0, 1, 8, 10, 13, 14, 70, 71, 72] 0))))
def e10r24 : EE := .q 3 (.lda 7) [.s 13] none <|
 .x 5 (.call 35) [.s 0, .s 1, .r 3, .s 14] none [] <|
 .q 7 (.ext 0) [.r 5] none <|
 .q 8 (.ext 1) [.r 5] none <|
 .q 9 .nl [.s 8] none <|
 .q 10 (.fld 4) [.r 9] none <|
 .x 11 (.st 1) [.r 10, .r 7] none [] <|
 .out [(1, .s 1), (8, .s 8), (10, .s 10), (12, .r 8), (13, .s 13)]
def e10r25 : EE := .q 1 .neq [.s 12, .c z] none <|
 .out [(1, .s 1), (8, .s 8), (10, .s 10), (12, .s 12), (13, .s 13), (110, .r 1)]
def e10r26 : EE := .out [(6, .c .nptr), (7, .s 12)]
def e10r27 : EE := .x 1 (.call 36) [.s 10] none [] <|
 .q 3 (.ext 0) [.r 1] none <|
 .q 4 (.ext 1) [.r 1] none <|
 .out [(1, .s 1), (8, .s 8), (10, .s 10), (13, .s 13), (19, .r 3)]
def e10r28 : EE := .q 1 .eql [.s 19, .c z] none <|
 .out [(1, .s 1), (8, .s 8), (10, .s 10), (13, .s 13), (118, .r 1)]
def e10r29 : EE := .q 1 (.lda 7) [.s 13] none <|
 .x 2 (.call 38) [.r 1] none [] <|
 .x 3 (.bsl 103 1 [.nsl] [(0, 1)]) [.r 2] none [] <|
 .x 4 (.call 37) [.s 10, .r 3] none [] <|
 .out [(1, .s 1), (8, .s 8), (21, .r 4)]
def e10r30 : EE := .q 1 .neq [.s 21, .c z] none <|
 .out [(1, .s 1), (8, .s 8), (21, .s 21), (125, .r 1)]
def e10r31 : EE := .out [(6, .c .nptr), (7, .s 21)]
def e10r32 : EE := .q 1 .nl [.s 8] none <|
 .q 2 (.fld 5) [.r 1] none <|
 .q 3 .ld [.r 2] none <|
 .q 6 .nl [.s 8] none <|
 .q 7 (.fld 62) [.r 6] none <|
 .q 8 (.lda 7) [.r 7] none <|
 .x 9 (.call 39) [.r 3, .s 1, .r 8] none [] <|
 .out [(8, .s 8)]
def e10r33 : EE := .x 1 (.call 40) [.s 8] none [] <|
 .out [(8, .s 8)]
def e10r34 : EE := .out [(6, .s 8), (7, .c z)]
def e10 : EFn := ⟨(.seq (.reg e10r0 [0, 1, 2] 0) (.seq (.seq (.reg e10r1 [0, 1, 2] 0) (.cond (.s 37) (.seq (.reg e10r2 [] 0) .ret) .skip)) (.seq (.reg e10r3 [0, 1, 2] 0) (.seq (.reg e10r4 [0, 1, 2, 8] 0) (.seq (.seq (.reg e10r5 [0, 1, 2, 8] 0) (.seq (.reg e10r6 [0, 1, 2, 8, 9] 0) (.cond (.s 55) (.seq (.reg e10r7 [9] 0) .ret) .skip))) (.seq (.reg e10r8 [0, 1, 2, 8] 0) (.seq (.seq (.reg e10r9 [0, 1, 8, 10, 11, 12] 0) (.cond (.s 64) (.seq (.reg e10r10 [12] 0) .ret) .skip)) (.seq (.reg e10r11 [0, 1, 8, 10, 11] 0) (.seq (.reg e10r12 [0, 1, 8, 10, 11] 0) (.seq (.reg e10r13 [0, 1, 8, 10, 11, 13] 0) (.seq (.seq (.reg e10r14 [0, 1, 8, 10, 11, 13, 14] 0) (.block 0 (.loop [0, 1, 8, 10, 13, 14, 70, 71, 72] e10l23))) (.seq (.seq (.reg e10r24 [0, 1, 8, 10, 13, 14] 0) (.seq (.reg e10r25 [1, 8, 10, 12, 13] 0) (.cond (.s 110) (.seq (.reg e10r26 [12] 0) .ret) .skip))) (.seq (.seq (.reg e10r27 [1, 8, 10, 13] 0) (.seq (.reg e10r28 [1, 8, 10, 13, 19] 0) (.cond (.s 118) (.seq (.reg e10r29 [1, 8, 10, 13] 0) (.seq (.reg e10r30 [1, 8, 21] 0) (.cond (.s 125) (.seq (.reg e10r31 [21] 0) .ret) .skip))) .skip))) (.seq (.reg e10r32 [1, 8] 0) (.seq (.reg e10r33 [8] 0) (.seq (.reg e10r34 [8] 0) .ret)))))))))))))))), [.slot 6, .slot 7], 140, 0⟩
theorem g10 : Good Tryz.prog 10 e10 := ⟨Tryz.f10, Tryz.func10, by kernel_rfl, by kernel_rfl, by kernel_rfl, by kernel_rfl⟩
/-! (*concord/node.Node).Ask -/
def e11r0 : EE := .x 0 (.box 33) [.s 1] none [] <|
 .out [(0, .s 0), (3, .r 0)]
def e11r1 : EE := .q 1 .nl [.s 0] none <|
 .q 2 (.fld 74) [.r 1] none <|
 .q 3 .ld [.r 2] none <|
 .out [(0, .s 0), (3, .s 3), (12, .r 3)]
def e11r2 : EE := .out [(4, .c (.int .i64 10))]
def e11r3 : EE := .q 0 (.lda 7) [.s 3] none <|
 .x 1 (.call 41) [.r 0] none [] <|
 .q 2 .not [.r 1] none <|
 .q 4 (.fld 0) [.s 3] (some (.r 2, false)) <|
 .q 5 .ld [.r 4] (some (.r 2, false)) <|
 .q 6 .eql [.r 5, .c z] (some (.r 2, false)) <|
 .q 7 .pick [.r 2, .c (.bool true), .r 6] none <|
 .out [(0, .s 0), (3, .s 3), (20, .r 7)]
def e11r4 : EE := .out [(4, .c (.int .i64 1))]
def e11r5 : EE := .q 1 (.fld 1) [.s 3] none <|
 .q 2 .ld [.r 1] none <|
 .q 3 .sub [.r 2, .c (.int .i64 1)] none <|
 .q 4 .nl [.s 0] none <|
 .q 5 (.fld 6) [.r 4] none <|
 .q 6 (.fld 1) [.r 5] none <|
 .q 7 (.ixa 8 6) [.r 6, .r 3] none <|
 .q 8 (.fld 0) [.r 7] none <|
 .q 9 .ld [.r 8] none <|
 .out [(0, .s 0), (3, .s 3), (5, .r 9)]
def e11r6 : EE := .q 0 (.fld 2) [.s 3] none <|
 .q 1 .ld [.r 0] none <|
 .q 3 .lss [.r 1, .s 5] none <|
 .out [(0, .s 0), (3, .s 3), (5, .s 5), (34, .r 3)]
def e11r7 : EE := .out [(4, .c (.int .i64 9))]
def e11r8 : EE := .q 0 (.fld 1) [.s 3] none <|
 .q 1 .ld [.r 0] none <|
 .q 2 (.fld 2) [.s 3] none <|
 .q 3 .ld [.r 2] none <|
 .q 4 (.bld [z, z] [(0, 1), (1, 1)]) [.r 1, .r 3] none <|
 .x 5 (.alc [z, z] 40) [] none [] <|
 .x 6 (.st 2) [.r 5, .r 4] none [] <|
 .out [(0, .s 0), (3, .s 3), (5, .s 5), (6, .r 5)]
def e11r9 : EE := .q 0 (.fld 2) [.s 3] none <|
 .q 1 .ld [.r 0] none <|
 .q 3 .gtr [.r 1, .s 5] none <|
 .q 5 .mv [.s 0] (some (.r 3, true)) <|
 .q 6 (.lda 2) [.s 6] (some (.r 3, true)) <|
 .x 7 (.call 42) [.r 5, .r 6] (some (.r 3, true)) [] <|
 .q 8 .not [.r 7] (some (.r 3, true)) <|
 .q 9 .pick [.r 3, .r 8, .c (.bool false)] none <|
 .out [(0, .s 0), (3, .s 3), (6, .s 6), (49, .r 9)]
def e11r10 : EE := .q 1 .nl [.s 0] none <|
 .q 2 (.fld 4) [.r 1] none <|
 .q 3 .ld [.r 2] none <|
 .q 4 (.lda 7) [.s 3] none <|
 .both false
 (.x 5 (.call 43) [.r 3, .r 4] none [] <|
 .q 7 (.ext 0) [.r 5] none <|
 .q 8 (.ext 1) [.r 5] none <|
 .x 9 (.alc [z, z] 40) [] none [⟨3, .ld, [.r 2], none⟩, ⟨4, (.lda 7), [.s 3], none⟩] <|
 .x 10 (.st 2) [.r 9, .r 7] none [] <|
 .out [(0, .s 0), (6, .s 6), (8, .r 8)])
 (.x 9 (.alc [z, z] 40) [] none [⟨3, .ld, [.r 2], none⟩, ⟨4, (.lda 7), [.s 3], none⟩] <|
 .x 5 (.call 43) [.r 3, .r 4] none [] <|
 .q 7 (.ext 0) [.r 5] none <|
 .q 8 (.ext 1) [.r 5] none <|
 .x 10 (.st 2) [.r 9, .r 7] none [] <|
 .out [(0, .s 0), (6, .s 6), (8, .r 8)])
def e11r11 : EE := .q 1 .not [.s 8] none <|
 .out [(0, .s 0), (6, .s 6), (60, .r 1)]
def e11r12 : EE := .out [(4, .c (.int .i64 7))]
def e11r13 : EE := .q 1 .nl [.s 0] none <|
 .q 2 (.fld 71) [.r 1] none <|
 .q 3 .ld [.r 2] none <|
 .q 4 (.lda 2) [.s 6] none <|
 .x 5 (.call 44) [.r 3, .r 4] none [] <|
 .q 6 .not [.r 5] none <|
 .out [(0, .s 0), (6, .s 6), (67, .r 6)]
def e11r14 : EE := .q 2 .nl [.s 0] none <|
 .q 3 (.fld 71) [.r 2] none <|
 .q 4 .ld [.r 3] none <|
 .q 5 (.lda 2) [.s 6] none <|
 .x 6 (.bsl 40 1 [z, z] [(0, 2)]) [.r 5] none [⟨4, .ld, [.r 3], none⟩] <|
 .x 7 (.app 40 2 16 [z, z]) [.r 4, .r 6] none [] <|
 .q 8 .nl [.s 0] none <|
 .q 9 (.fld 71) [.r 8] none <|
 .x 10 (.st 1) [.r 9, .r 7] none [] <|
 .out [(0, .s 0)]
def e11r15 : EE := .x 1 (.call 40) [.s 0] none [] <|
 .out []
def e11r16 : EE := .out [(4, .c z)]
def e11 : EFn := ⟨(.seq (.reg e11r0 [0, 1] 0) (.seq (.seq (.reg e11r1 [0, 3] 0) (.cond (.s 12) (.seq (.reg e11r2 [] 0) .ret) .skip)) (.seq (.seq (.reg e11r3 [0, 3] 0) (.cond (.s 20) (.seq (.reg e11r4 [] 0) .ret) .skip)) (.seq (.reg e11r5 [0, 3] 0) (.seq (.seq (.reg e11r6 [0, 3, 5] 0) (.cond (.s 34) (.seq (.reg e11r7 [] 0) .ret) .skip)) (.seq (.reg e11r8 [0, 3, 5] 0) (.seq (.seq (.reg e11r9 [0, 3, 5, 6] 0) (.cond (.s 49) (.seq (.reg e11r10 [0, 3, 6] 11) (.seq (.reg e11r11 [0, 6, 8] 0) (.cond (.s 60) (.seq (.reg e11r12 [] 0) .ret) .skip))) .skip)) (.seq (.seq (.reg e11r13 [0, 6] 0) (.cond (.s 67) (.reg e11r14 [0, 6] 0) .skip)) (.seq (.reg e11r15 [0] 0) (.seq (.reg e11r16 [] 0) .ret)))))))))), [.slot 4], 80, 0⟩
theorem g11 : Good Tryz.prog 11 e11 := ⟨Tryz.f11, Tryz.func11, by kernel_rfl, by kernel_rfl, by kernel_rfl, by kernel_rfl⟩
/-! (*concord/node.Node).Out -/
def e13r0 : EE := .out [(0, .s 0)]
def e13r1 : EE := .q 1 .nl [.s 0] none <|
 .q 2 (.fld 72) [.r 1] none <|
 .q 3 .ld [.r 2] none <|
 .q 5 .nl [.s 0] none <|
 .q 6 (.fld 73) [.r 5] none <|
 .q 7 .ld [.r 6] none <|
 .out [(0, .s 0), (4, .r 3), (5, .r 7)]
def e13r2 : EE := .q 2 .nl [.s 0] none <|
 .q 3 (.fld 72) [.r 2] none <|
 .x 4 (.st 1) [.r 3, .c .nsl] none [] <|
 .q 5 .nl [.s 0] none <|
 .q 6 (.fld 73) [.r 5] none <|
 .x 7 (.st 1) [.r 6, .c .nsl] none [] <|
 .out [(4, .s 4), (5, .s 5)]
def e13r3 : EE := .out [(2, .s 4), (3, .s 5)]
def e13 : EFn := ⟨(.seq (.reg e13r0 [0] 0) (.seq (.reg e13r1 [0] 0) (.seq (.reg e13r2 [0, 4, 5] 0) (.seq (.reg e13r3 [4, 5] 0) .ret)))), [.slot 2, .slot 3], 22, 0⟩
theorem g13 : Good Tryz.prog 13 e13 := ⟨Tryz.f13, Tryz.func13, by kernel_rfl, by kernel_rfl, by kernel_rfl, by kernel_rfl⟩
/-! (*concord/node.Node).Take -/
def e14r0 : EE := .x 0 (.box 50) [.s 1] none [] <|
 .out [(0, .s 0), (3, .r 0)]
def e14r1 : EE := .q 1 .nl [.s 0] none <|
 .q 2 (.fld 74) [.r 1] none <|
 .q 3 .ld [.r 2] none <|
 .q 5 (.lda 51) [.s 3] (some (.r 3, false)) <|
 .x 6 (.call 45) [.r 5] (some (.r 3, false)) [] <|
 .q 7 .not [.r 6] (some (.r 3, false)) <|
 .q 8 .pick [.r 3, .c (.bool true), .r 7] none <|
 .q 10 (.fld 2) [.s 3] (some (.r 8, false)) <|
 .q 11 .ld [.r 10] (some (.r 8, false)) <|
 .q 12 .mv [.s 0] (some (.r 8, false)) <|
 .q 13 .nl [.r 12] (some (.r 8, false)) <|
 .q 14 (.fld 1) [.r 13] (some (.r 8, false)) <|
 .q 15 .ld [.r 14] (some (.r 8, false)) <|
 .q 16 .neq [.r 11, .r 15] (some (.r 8, false)) <|
 .q 17 .pick [.r 8, .c (.bool true), .r 16] none <|
 .q 19 (.fld 1) [.s 3] (some (.r 17, false)) <|
 .q 20 .ld [.r 19] (some (.r 17, false)) <|
 .q 21 .mv [.s 0] (some (.r 17, false)) <|
 .q 22 .nl [.r 21] (some (.r 17, false)) <|
 .q 23 (.fld 0) [.r 22] (some (.r 17, false)) <|
 .q 24 .ld [.r 23] (some (.r 17, false)) <|
 .q 25 .geq [.r 20, .r 24] (some (.r 17, false)) <|
 .q 26 .pick [.r 17, .c (.bool true), .r 25] none <|
 .out [(0, .s 0), (3, .s 3), (31, .r 26)]
def e14r2 : EE := .out [(4, .c (.bool false))]
def e14r3 : EE := .q 0 (.fld 0) [.s 3] none <|
 .q 1 .ld [.r 0] none <|
 .out [(0, .s 0), (3, .s 3), (33, .r 1)]
def e14r4 : EE := .q 0 .eql [.s 33, .c (.int .i64 9)] none <|
 .out [(0, .s 0), (3, .s 3), (33, .s 33), (44, .r 0)]
def e14r5 : EE := .q 1 .nl [.s 0] none <|
 .q 2 (.fld 5) [.r 1] none <|
 .q 3 .ld [.r 2] none <|
 .q 4 (.fld 1) [.s 3] none <|
 .q 5 .ld [.r 4] none <|
 .q 6 (.fld 43) [.s 3] none <|
 .q 7 (.lda 7) [.r 6] none <|
 .x 8 (.call 39) [.r 3, .r 5, .r 7] none [] <|
 .out [(0, .s 0)]
def e14r6 : EE := .q 0 .eql [.s 33, .c (.int .i64 11)] none <|
 .out [(0, .s 0), (3, .s 3), (33, .s 33), (55, .r 0)]
def e14r7 : EE := .q 1 (.lda 51) [.s 3] none <|
 .x 2 (.call 46) [.s 0, .r 1] none [] <|
 .out [(0, .s 0)]
def e14r8 : EE := .q 0 .eql [.s 33, .c (.int .i64 10)] none <|
 .out [(0, .s 0), (3, .s 3), (60, .r 0)]
def e14r9 : EE := .q 1 (.fld 50) [.s 3] none <|
 .q 2 .ld [.r 1] none <|
 .x 3 (.s2b 5) [.r 2] none [] <|
 .x 4 (.call 47) [.s 0, .r 3] none [] <|
 .out [(0, .s 0)]
def e14r10 : EE := .q 1 .nl [.s 0] none <|
 .q 2 (.fld 4) [.r 1] none <|
 .q 3 .ld [.r 2] none <|
 .q 4 (.lda 51) [.s 3] none <|
 .x 5 (.call 48) [.r 3, .r 4] none [] <|
 .out [(0, .s 0), (3, .s 3), (39, .r 5)]
def e14r11 : EE := .q 1 (.fld 1) [.s 3] none <|
 .q 2 .ld [.r 1] none <|
 .x 3 (.call 49) [.s 0, .r 2] none [] <|
 .out [(0, .s 0)]
def e14r12 : EE := .x 1 (.call 40) [.s 0] none [] <|
 .out []
def e14r13 : EE := .out [(4, .c (.bool true))]
def e14 : EFn := ⟨(.seq (.reg e14r0 [0, 1] 0) (.seq (.seq (.reg e14r1 [0, 3] 0) (.cond (.s 31) (.seq (.reg e14r2 [] 0) .ret) .skip)) (.seq (.seq (.reg e14r3 [0, 3] 0) (.block 0 (.seq (.reg e14r4 [0, 3, 33] 0) (.cond (.s 44) (.reg e14r5 [0, 3] 0) (.seq (.reg e14r6 [0, 3, 33] 0) (.cond (.s 55) (.reg e14r7 [0, 3] 0) (.seq (.reg e14r8 [0, 3, 33] 0) (.cond (.s 60) (.reg e14r9 [0, 3] 0) (.seq (.reg e14r10 [0, 3] 0) (.cond (.s 39) (.reg e14r11 [0, 3] 0) .skip)))))))))) (.seq (.reg e14r12 [0] 0) (.seq (.reg e14r13 [] 0) .ret))))), [.slot 4], 69, 0⟩
theorem g14 : Good Tryz.prog 14 e14 := ⟨Tryz.f14, Tryz.func14, by kernel_rfl, by kernel_rfl, by kernel_rfl, by kernel_rfl⟩
/-! (*concord/node.Node).Done -/
def e15r0 : EE := .x 0 (.alc [z, z, z, z, z, z, z] 44) [] none [] <|
 .out [(0, .s 0), (2, .r 0)]
def e15r1 : EE := .q 1 .nl [.s 0] none <|
 .q 2 (.fld 55) [.r 1] none <|
 .q 3 (.lda 7) [.r 2] none <|
 .x 4 (.st 7) [.s 2, .r 3] none [] <|
 .out [(2, .s 2)]
def e15 : EFn := ⟨(.seq (.reg e15r0 [0] 0) (.seq (.reg e15r1 [0, 2] 0) .ret)), [.cells 2 7], 7, 0⟩
theorem g15 : Good Tryz.prog 15 e15 := ⟨Tryz.f15, Tryz.func15, by kernel_rfl, by kernel_rfl, by kernel_rfl, by kernel_rfl⟩
/-! concord/state.Same -/
def e16r0 : EE := .x 0 (.box 61) [.s 0] none [] <|
 .x 1 (.box 61) [.s 1] none [] <|
 .out [(2, .r 0), (3, .r 1)]
def e16r1 : EE := .q 0 (.fld 1) [.s 2] none <|
 .q 1 (.lda 48) [.r 0] none <|
 .out [(2, .s 2), (3, .s 3), (8, .r 1), (9, .c z)]
def e16r2 : EE := .q 0 .lss [.s 9, .c (.int .i64 8)] none <|
 .out [(2, .s 2), (3, .s 3), (8, .s 8), (9, .s 9), (10, .r 0)]
def e16r3 : EE := .q 1 (.idxa 8 6) [.s 8, .s 9] none <|
 .x 2 (.alc [z, z, (.bool false), zs, z, .nsl] 58) [] none [] <|
 .x 4 (.st 6) [.r 2, .r 1] none [] <|
 .out [(2, .s 2), (3, .s 3), (5, .s 9), (6, .r 2), (8, .s 8), (9, .s 9)]
def e16r4 : EE := .q 0 (.fld 0) [.s 6] none <|
 .q 1 .ld [.r 0] none <|
 .q 3 (.fld 1) [.s 3] none <|
 .q 4 (.ixa 8 6) [.r 3, .s 5] none <|
 .q 5 (.fld 0) [.r 4] none <|
 .q 6 .ld [.r 5] none <|
 .q 7 .neq [.r 1, .r 6] none <|
 .q 9 (.fld 1) [.s 6] (some (.r 7, false)) <|
 .q 10 (.lda 5) [.r 9] (some (.r 7, false)) <|
 .q 11 .mv [.s 5] (some (.r 7, false)) <|
 .q 12 (.fld 1) [.s 3] (some (.r 7, false)) <|
 .q 13 (.ixa 8 6) [.r 12, .r 11] (some (.r 7, false)) <|
 .q 14 (.fld 1) [.r 13] (some (.r 7, false)) <|
 .q 15 (.lda 5) [.r 14] (some (.r 7, false)) <|
 .x 16 (.call 50) [.r 10, .r 15] (some (.r 7, false)) [] <|
 .q 17 .not [.r 16] (some (.r 7, false)) <|
 .q 18 .pick [.r 7, .c (.bool true), .r 17] none <|
 .out [(2, .s 2), (3, .s 3), (8, .s 8), (9, .s 9), (31, .r 18)]
def e16r5 : EE := .out [(4, .c (.bool false))]
def e16r6 : EE := .q 0 .add [.s 9, .c (.int .i64 1)] none <|
 .out [(2, .s 2), (3, .s 3), (8, .s 8), (9, .r 0)]
def e16l7 : EC := (.seq (.reg e16r2 [2, 3, 8, 9] 0) (.seq (.cond (.s 10) .skip (.exit 0)) (.seq (.block 1 (.seq (.reg e16r3 [2, 3, 8, 9] 0) (.seq (.reg e16r4 [2, 3, 5, 6, 8, 9] 0) (.cond (.s 31) (.seq (.reg e16r5 [] 0) .ret) .skip)))) (.reg e16r6 [2, 3, 8, 9] 0))))
def e16r8 : EE := .q 0 (.fld 0) [.s 2] none <|
 .q 1 .ld [.r 0] none <|
 .q 2 (.fld 0) [.s 3] none <|
 .q 3 .ld [.r 2] none <|
 .x 4 (.call 51) [.r 1, .r 3] none [] <|
 .out [(4, .r 4)]
def e16 : EFn := ⟨(.seq (.reg e16r0 [0, 1] 0) (.seq (.seq (.reg e16r1 [2, 3] 0) (.block 0 (.loop [2, 3, 8, 9] e16l7))) (.seq (.reg e16r8 [2, 3] 0) .ret))), [.slot 4], 38, 0⟩
theorem g16 : Good Tryz.prog 16 e16 := ⟨Tryz.f16, Tryz.func16, by kernel_rfl, by kernel_rfl, by kernel_rfl, by kernel_rfl⟩
/-! (*concord/node.Node).State -/
def e17r0 : EE := .x 0 (.alc [.nsl, z, z, (.bool false), zs, z, .nsl, z, z, (.bool false), zs, z, .nsl, z, z, (.bool false), zs, z, .nsl, z, z, (.bool false), zs, z, .nsl, z, z, (.bool false), zs, z, .nsl, z, z, (.bool false), zs, z, .nsl, z, z, (.bool false), zs, z, .nsl, z, z, (.bool false), zs, z, .nsl] 61) [] none [] <|
 .out [(0, .s 0), (2, .r 0)]
def e17r1 : EE := .q 1 .nl [.s 0] none <|
 .q 2 (.fld 6) [.r 1] none <|
 .q 3 (.lda 49) [.r 2] none <|
 .x 4 (.call 52) [.r 3, .c .nsl] none [] <|
 .q 6 (.ext 0) [.r 4] none <|
 .q 7 (.ext 1) [.r 4] none <|
 .x 8 (.alc [.nsl, z, z, (.bool false), zs, z, .nsl, z, z, (.bool false), zs, z, .nsl, z, z, (.bool false), zs, z, .nsl, z, z, (.bool false), zs, z, .nsl, z, z, (.bool false), zs, z, .nsl, z, z, (.bool false), zs, z, .nsl, z, z, (.bool false), zs, z, .nsl, z, z, (.bool false), zs, z, .nsl] 61) [] none [] <|
 .x 9 (.st 49) [.r 8, .r 6] none [] <|
 .out [(2, .s 2), (3, .r 8)]
def e17r2 : EE := .q 0 (.lda 49) [.s 3] none <|
 .x 1 (.st 49) [.s 2, .r 0] none [] <|
 .out [(2, .s 2)]
def e17 : EFn := ⟨(.seq (.reg e17r0 [0] 0) (.seq (.reg e17r1 [0, 2] 0) (.seq (.reg e17r2 [2, 3] 0) .ret))), [.cells 2 49], 14, 0⟩
theorem g17 : Good Tryz.prog 17 e17 := ⟨Tryz.f17, Tryz.func17, by kernel_rfl, by kernel_rfl, by kernel_rfl, by kernel_rfl⟩
/-! concord/cluster.New -/
def e18r0 : EE := .out [(0, .s 0)]
def e18r1 : EE := .q 1 (.bld [z, .nsl, .nsl, .nsl, .nsl, .nsl, .nsl] [(0, 1)]) [.s 0] none <|
 .x 2 (.box 131) [.r 1] none [] <|
 .out [(0, .s 0), (4, .r 2)]
def e18r2 : EE := .q 1 .mx [.s 0, .c (.int .i64 1)] none <|
 .q 2 .mn [.r 1, .c (.int .i64 8)] none <|
 .out [(0, .s 0), (4, .s 4), (19, .r 2), (20, .c z)]
def e18r3 : EE := .q 0 .lss [.s 20, .s 19] none <|
 .out [(0, .s 0), (4, .s 4), (19, .s 19), (20, .s 20), (21, .r 0)]
def e18r4 : EE := .out [(0, .s 0), (4, .s 4), (5, .s 20), (19, .s 19), (20, .s 20)]
def e18r5 : EE := .x 0 (.call 9) [.c (.int .i64 524288)] none [] <|
 .q 2 (.ext 0) [.r 0] none <|
 .q 3 (.ext 1) [.r 0] none <|
 .out [(0, .s 0), (4, .s 4), (5, .s 5), (6, .r 2), (19, .s 19), (20, .s 20)]
def e18r6 : EE := .x 3 (.call 10) [.s 0, .s 5, .s 6] none [] <|
 .q 5 (.ext 0) [.r 3] none <|
 .q 6 (.ext 1) [.r 3] none <|
 .out [(0, .s 0), (4, .s 4), (6, .s 6), (8, .r 5), (9, .r 6), (19, .s 19), (20, .s 20)]
def e18r7 : EE := .q 1 .neq [.s 9, .c z] none <|
 .out [(0, .s 0), (4, .s 4), (6, .s 6), (8, .s 8), (9, .s 9), (19, .s 19), (20, .s 20), (35, .r 1)]
def e18r8 : EE := .out [(2, .c .nptr), (3, .s 9)]
def e18r9 : EE := .q 3 .nl [.s 4] none <|
 .q 4 (.fld 1) [.r 3] none <|
 .q 5 .ld [.r 4] none <|
 .q 10 .nl [.s 4] none <|
 .q 11 (.fld 2) [.r 10] none <|
 .q 12 .ld [.r 11] none <|
 .both false
 (.x 7 (.bsl 24 1 [.nptr] [(0, 1)]) [.s 6] none [⟨5, .ld, [.r 4], none⟩, ⟨12, .ld, [.r 11], none⟩] <|
 .both false
 (.x 8 (.app 24 1 8 [.nptr]) [.r 5, .r 7] none [⟨12, .ld, [.r 11], none⟩] <|
 .x 14 (.bsl 28 1 [.nptr] [(0, 1)]) [.s 8] none [⟨5, .ld, [.r 4], none⟩, ⟨12, .ld, [.r 11], none⟩] <|
 .x 15 (.app 28 1 8 [.nptr]) [.r 12, .r 14] none [] <|
 .q 16 .nl [.s 4] none <|
 .q 17 (.fld 1) [.r 16] none <|
 .x 18 (.st 1) [.r 17, .r 8] none [] <|
 .q 19 .nl [.s 4] none <|
 .q 20 (.fld 2) [.r 19] none <|
 .x 21 (.st 1) [.r 20, .r 15] none [] <|
 .out [(0, .s 0), (4, .s 4), (19, .s 19), (20, .s 20)])
 (.x 14 (.bsl 28 1 [.nptr] [(0, 1)]) [.s 8] none [⟨5, .ld, [.r 4], none⟩, ⟨12, .ld, [.r 11], none⟩] <|
 .x 8 (.app 24 1 8 [.nptr]) [.r 5, .r 7] none [⟨12, .ld, [.r 11], none⟩] <|
 .x 15 (.app 28 1 8 [.nptr]) [.r 12, .r 14] none [] <|
 .q 16 .nl [.s 4] none <|
 .q 17 (.fld 1) [.r 16] none <|
 .x 18 (.st 1) [.r 17, .r 8] none [] <|
 .q 19 .nl [.s 4] none <|
 .q 20 (.fld 2) [.r 19] none <|
 .x 21 (.st 1) [.r 20, .r 15] none [] <|
 .out [(0, .s 0), (4, .s 4), (19, .s 19), (20, .s 20)]))
 (.x 14 (.bsl 28 1 [.nptr] [(0, 1)]) [.s 8] none [⟨5, .ld, [.r 4], none⟩, ⟨12, .ld, [.r 11], none⟩] <|
 .x 7 (.bsl 24 1 [.nptr] [(0, 1)]) [.s 6] none [⟨5, .ld, [.r 4], none⟩, ⟨12, .ld, [.r 11], none⟩] <|
 .x 8 (.app 24 1 8 [.nptr]) [.r 5, .r 7] none [⟨12, .ld, [.r 11], none⟩] <|
 .x 15 (.app 28 1 8 [.nptr]) [.r 12, .r 14] none [] <|
 .q 16 .nl [.s 4] none <|
 .q 17 (.fld 1) [.r 16] none <|
 .x 18 (.st 1) [.r 17, .r 8] none [] <|
 .q 19 .nl [.s 4] none <|
 .q 20 (.fld 2) [.r 19] none <|
 .x 21 (.st 1) [.r 20, .r 15] none [] <|
 .out [(0, .s 0), (4, .s 4), (19, .s 19), (20, .s 20)])
def e18r10 : EE := .q 0 .add [.s 20, .c (.int .i64 1)] none <|
 .out [(0, .s 0), (4, .s 4), (19, .s 19), (20, .r 0)]
def e18l11 : EC := (.seq (.reg e18r3 [0, 4, 19, 20] 0) (.seq (.cond (.s 21) .skip (.exit 0)) (.seq (.block 1 (.seq (.reg e18r4 [0, 4, 19, 20] 0) (.seq (.reg e18r5 [0, 4, 5, 19, 20] 0) (.seq (.reg e18r6 [0, 4, 5, 6, 19, 20] 0) (.seq (.seq (.reg e18r7 [0, 4, 6, 8, 9, 19, 20] 0) (.cond (.s 35) (.seq (.reg e18r8 [9] 0) .ret) .skip)) (.reg e18r9 [0, 4, 6, 8, 19, 20] 22)))))) (.reg e18r10 [0, 4, 19, 20] 0))))
def e18r12 : EE := .out [(0, .s 0), (4, .s 4), (10, .c (.int .i64 1))]
def e18r13 : EE := .q 1 .leq [.s 10, .c (.int .i64 8)] none <|
 .out [(0, .s 0), (4, .s 4), (10, .s 10), (59, .r 1)]
def e18r14 : EE := .x 1 (.call 53) [.s 10] none [] <|
 .q 3 (.ext 0) [.r 1] none <|
 .q 4 (.ext 1) [.r 1] none <|
 .out [(0, .s 0), (4, .s 4), (10, .s 10), (11, .r 3)]
def e18r15 : EE := .q 2 .nl [.s 4] none <|
 .q 3 (.fld 3) [.r 2] none <|
 .q 4 .ld [.r 3] none <|
 .x 6 (.bsl 132 1 [.nptr] [(0, 1)]) [.s 11] none [] <|
 .x 7 (.app 132 1 8 [.nptr]) [.r 4, .r 6] none [] <|
 .q 8 .nl [.s 4] none <|
 .q 9 (.fld 3) [.r 8] none <|
 .x 10 (.st 1) [.r 9, .r 7] none [] <|
 .out [(0, .s 0), (4, .s 4), (10, .s 10)]
def e18r16 : EE := .q 1 .add [.s 10, .c (.int .i64 1)] none <|
 .out [(0, .s 0), (4, .s 4), (10, .r 1)]
def e18l17 : EC := (.seq (.seq (.reg e18r13 [0, 4, 10] 0) (.cond (.s 59) .skip (.exit 2))) (.seq (.block 3 (.seq (.reg e18r14 [0, 4, 10] 0) (.reg e18r15 [0, 4, 10, 11] 0))) (.reg e18r16 [0, 4, 10] 0)))
def e18r18 : EE := .x 1 (.mks 33 88 [z, z, z, zs, zs, zs, zs]) [.c (.int .i64 8), .c (.int .i64 8)] none [] <|
 .q 2 .nl [.s 4] none <|
 .q 3 (.fld 4) [.r 2] none <|
 .x 4 (.st 1) [.r 3, .r 1] none [] <|
 .out [(0, .s 0), (4, .s 4)]
def e18r19 : EE := .out [(4, .s 4), (81, .s 0), (82, .c z)]
def e18r20 : EE := .q 0 .lss [.s 82, .s 81] none <|
 .out [(4, .s 4), (81, .s 81), (82, .s 82), (83, .r 0)]
def e18r21 : EE := .out [(4, .s 4), (13, .s 82), (81, .s 81), (82, .s 82)]
def e18r22 : EE := .x 2 (.call 54) [.s 4, .s 13] none [] <|
 .out [(4, .s 4), (81, .s 81), (82, .s 82)]
def e18r23 : EE := .q 0 .add [.s 82, .c (.int .i64 1)] none <|
 .out [(4, .s 4), (81, .s 81), (82, .r 0)]
def e18l24 : EC := (.seq (.reg e18r20 [4, 81, 82] 0) (.seq (.cond (.s 83) .skip (.exit 4)) (.seq (.block 5 (.seq (.reg e18r21 [4, 81, 82] 0) (.reg e18r22 [4, 13, 81, 82] 0))) (.reg e18r23 [4, 81, 82] 0))))
def e18r25 : EE := .out [(2, .s 4), (3, .c z)]
def e18 : EFn := ⟨(.seq (.reg e18r0 [0] 0) (.seq (.reg e18r1 [0] 0) (.seq (.seq (.reg e18r2 [0, 4] 0) (.block 0 (.loop [0, 4, 19, 20] e18l11))) (.seq (.seq (.reg e18r12 [0, 4] 0) (.block 2 (.loop [0, 4, 10] e18l17))) (.seq (.reg e18r18 [0, 4] 0) (.seq (.seq (.reg e18r19 [0, 4] 0) (.block 4 (.loop [4, 81, 82] e18l24))) (.seq (.reg e18r25 [4] 0) .ret))))))), [.slot 2, .slot 3], 90, 0⟩
theorem g18 : Good Tryz.prog 18 e18 := ⟨Tryz.f18, Tryz.func18, by kernel_rfl, by kernel_rfl, by kernel_rfl, by kernel_rfl⟩
/-! (*concord/cluster.Cluster).Do -/
def e19r0 : EE := .x 0 (.box 70) [.s 1] none [] <|
 .out [(0, .s 0), (3, .r 0)]
def e19r1 : EE := .q 0 (.fld 0) [.s 3] none <|
 .q 1 .ld [.r 0] none <|
 .out [(0, .s 0), (3, .s 3), (7, .r 1)]
def e19r2 : EE := .q 0 .eql [.s 7, .c (.int .i64 1)] none <|
 .out [(0, .s 0), (3, .s 3), (7, .s 7), (8, .r 0)]
def e19r3 : EE := .q 1 (.lda 12) [.s 3] none <|
 .x 2 (.call 55) [.s 0, .r 1] none [] <|
 .out [(4, .r 2)]
def e19r4 : EE := .q 0 .eql [.s 7, .c (.int .i64 2)] none <|
 .out [(0, .s 0), (3, .s 3), (7, .s 7), (13, .r 0)]
def e19r5 : EE := .q 0 .eql [.s 7, .c (.int .i64 3)] none <|
 .out [(0, .s 0), (3, .s 3), (7, .s 7), (13, .r 0)]
def e19r6 : EE := .q 0 .eql [.s 7, .c (.int .i64 4)] none <|
 .out [(0, .s 0), (3, .s 3), (7, .s 7), (13, .r 0)]
def e19r7 : EE := .q 1 (.lda 12) [.s 3] none <|
 .x 2 (.call 56) [.s 0, .r 1] none [] <|
 .out [(4, .r 2)]
def e19r8 : EE := .q 0 .eql [.s 7, .c (.int .i64 6)] none <|
 .out [(0, .s 0), (3, .s 3), (7, .s 7), (20, .r 0)]
def e19r9 : EE := .q 1 (.fld 1) [.s 3] none <|
 .q 2 .ld [.r 1] none <|
 .x 3 (.call 57) [.s 0, .r 2] none [] <|
 .out [(4, .r 3)]
def e19r10 : EE := .q 0 .eql [.s 7, .c (.int .i64 9)] none <|
 .out [(0, .s 0), (3, .s 3), (26, .r 0)]
def e19r11 : EE := .q 1 (.fld 1) [.s 3] none <|
 .q 2 .ld [.r 1] none <|
 .x 3 (.call 58) [.s 0, .r 2] none [] <|
 .out [(4, .r 3)]
def e19r12 : EE := .q 1 (.fld 1) [.s 3] none <|
 .q 2 .ld [.r 1] none <|
 .x 3 (.call 59) [.s 0, .r 2] none [] <|
 .out [(0, .s 0), (3, .s 3), (5, .r 3)]
def e19r13 : EE := .q 1 (.eqp false) [.s 5, .c .nptr] none <|
 .out [(0, .s 0), (3, .s 3), (5, .s 5), (37, .r 1)]
def e19r14 : EE := .out [(4, .c (.bool false))]
def e19r15 : EE := .q 0 (.fld 0) [.s 3] none <|
 .q 1 .ld [.r 0] none <|
 .out [(0, .s 0), (3, .s 3), (5, .s 5), (39, .r 1)]
def e19r16 : EE := .q 0 .eql [.s 39, .c (.int .i64 5)] none <|
 .out [(0, .s 0), (3, .s 3), (5, .s 5), (39, .s 39), (40, .r 0)]
def e19r17 : EE := .x 1 (.call 60) [.s 5] none [] <|
 .out [(0, .s 0), (3, .s 3)]
def e19r18 : EE := .q 1 (.fld 1) [.s 3] none <|
 .q 2 .ld [.r 1] none <|
 .x 3 (.call 54) [.s 0, .r 2] none [] <|
 .out []
def e19r19 : EE := .q 0 .eql [.s 39, .c (.int .i64 7)] none <|
 .out [(0, .s 0), (3, .s 3), (39, .s 39), (48, .r 0)]
def e19r20 : EE := .q 1 .nl [.s 0] none <|
 .q 2 (.fld 1) [.r 1] none <|
 .q 3 .ld [.r 2] none <|
 .q 4 (.fld 1) [.s 3] none <|
 .q 5 .ld [.r 4] none <|
 .q 6 (.ixs 1) [.r 3, .r 5] none <|
 .q 7 .ld [.r 6] none <|
 .q 8 (.fld 2) [.s 3] none <|
 .q 9 .ld [.r 8] none <|
 .x 10 (.call 61) [.r 7, .r 9] none [] <|
 .out []
def e19r21 : EE := .q 0 .eql [.s 39, .c (.int .i64 8)] none <|
 .out [(0, .s 0), (3, .s 3), (61, .r 0)]
def e19r22 : EE := .q 1 .nl [.s 0] none <|
 .q 2 (.fld 2) [.r 1] none <|
 .q 3 .ld [.r 2] none <|
 .q 4 (.fld 1) [.s 3] none <|
 .q 5 .ld [.r 4] none <|
 .q 6 (.ixs 1) [.r 3, .r 5] none <|
 .x 7 (.st 1) [.r 6, .c .nptr] none [] <|
 .out [(0, .s 0), (3, .s 3)]
def e19r23 : EE := .q 1 .nl [.s 0] none <|
 .q 2 (.fld 1) [.r 1] none <|
 .q 3 .ld [.r 2] none <|
 .q 4 (.fld 1) [.s 3] none <|
 .q 5 .ld [.r 4] none <|
 .q 6 (.ixs 1) [.r 3, .r 5] none <|
 .q 7 .ld [.r 6] none <|
 .q 8 (.fld 11) [.s 3] none <|
 .q 9 .ld [.r 8] none <|
 .x 10 (.call 62) [.r 7, .r 9] none [] <|
 .out []
def e19r24 : EE := .out [(4, .c (.bool false))]
def e19r25 : EE := .out [(4, .c (.bool true))]
def e19 : EFn := ⟨(.seq (.reg e19r0 [0, 1] 0) (.seq (.seq (.reg e19r1 [0, 3] 0) (.block 0 (.seq (.reg e19r2 [0, 3, 7] 0) (.cond (.s 8) (.seq (.reg e19r3 [0, 3] 0) .ret) (.seq (.seq (.reg e19r4 [0, 3, 7] 0) (.cond (.s 13) .skip (.seq (.reg e19r5 [0, 3, 7] 0) (.cond (.s 13) .skip (.reg e19r6 [0, 3, 7] 0))))) (.cond (.s 13) (.seq (.reg e19r7 [0, 3] 0) .ret) (.seq (.reg e19r8 [0, 3, 7] 0) (.cond (.s 20) (.seq (.reg e19r9 [0, 3] 0) .ret) (.seq (.reg e19r10 [0, 3, 7] 0) (.cond (.s 26) (.seq (.reg e19r11 [0, 3] 0) .ret) .skip)))))))))) (.seq (.reg e19r12 [0, 3] 0) (.seq (.seq (.reg e19r13 [0, 3, 5] 0) (.cond (.s 37) (.seq (.reg e19r14 [] 0) .ret) .skip)) (.seq (.seq (.reg e19r15 [0, 3, 5] 0) (.block 1 (.seq (.reg e19r16 [0, 3, 5, 39] 0) (.cond (.s 40) (.seq (.reg e19r17 [0, 3, 5] 0) (.reg e19r18 [0, 3] 0)) (.seq (.reg e19r19 [0, 3, 39] 0) (.cond (.s 48) (.reg e19r20 [0, 3] 0) (.seq (.reg e19r21 [0, 3, 39] 0) (.cond (.s 61) (.seq (.reg e19r22 [0, 3] 0) (.reg e19r23 [0, 3] 0)) (.seq (.reg e19r24 [] 0) .ret))))))))) (.seq (.reg e19r25 [] 0) .ret)))))), [.slot 4], 81, 0⟩
theorem g19 : Good Tryz.prog 19 e19 := ⟨Tryz.f19, Tryz.func19, by kernel_rfl, by kernel_rfl, by kernel_rfl, by kernel_rfl⟩
/-! concord/audit.Of -/
def e25r0 : EE := .x 0 (.alc [z, z, z, z, z] 80) [] none [] <|
 .out [(0, .s 0), (2, .r 0)]
def e25r1 : EE := .x 1 (.call 69) [.s 0] none [] <|
 .out [(0, .s 0), (2, .s 2), (3, .r 1)]
def e25r2 : EE := .x 2 (.call 71) [.s 0] none [] <|
 .x 3 (.call 70) [.s 3, .r 2] none [] <|
 .q 5 (.ext 0) [.r 3] none <|
 .q 6 (.ext 1) [.r 3] none <|
 .q 7 (.ext 2) [.r 3] none <|
 .out [(2, .s 2), (3, .s 3), (4, .r 5), (5, .r 6), (6, .r 7)]
def e25r3 : EE := .q 1 .len [.s 3] none <|
 .q 3 .len [.s 4] none <|
 .q 5 (.bld [z, z, z, z, z] [(0, 1), (1, 1), (2, 1)]) [.r 1, .r 3, .s 6] none <|
 .x 6 (.alc [z, z, z, z, z] 80) [] none [] <|
 .x 7 (.st 5) [.r 6, .r 5] none [] <|
 .out [(2, .s 2), (3, .s 3), (4, .s 4), (5, .s 5), (7, .r 6)]
def e25r4 : EE := .q 1 .len [.s 4] none <|
 .out [(2, .s 2), (3, .s 3), (4, .s 4), (5, .s 5), (7, .s 7), (34, .s 4), (35, .r 1), (36, .c z)]
def e25r5 : EE := .q 0 .lss [.s 36, .s 35] none <|
 .out [(2, .s 2), (3, .s 3), (4, .s 4), (5, .s 5), (7, .s 7), (34, .s 34), (35, .s 35), (36, .s 36), (37, .r 0)]
def e25r6 : EE := .q 1 (.ixs 2) [.s 34, .s 36] none <|
 .q 2 (.lda 2) [.r 1] none <|
 .x 3 (.alc [z, z] 40) [] none [] <|
 .x 5 (.st 2) [.r 3, .r 2] none [] <|
 .out [(2, .s 2), (3, .s 3), (4, .s 4), (5, .s 5), (7, .s 7), (8, .s 36), (9, .r 3), (34, .s 34), (35, .s 35), (36, .s 36)]
def e25r7 : EE := .q 2 (.slc 2 false true) [.s 4, .s 8] none <|
 .q 3 .len [.r 2] none <|
 .out [(2, .s 2), (3, .s 3), (4, .s 4), (5, .s 5), (7, .s 7), (9, .s 9), (34, .s 34), (35, .s 35), (36, .s 36), (43, .r 2), (44, .r 3), (45, .c z)]
def e25r8 : EE := .q 0 .lss [.s 45, .s 44] none <|
 .out [(2, .s 2), (3, .s 3), (4, .s 4), (5, .s 5), (7, .s 7), (9, .s 9), (34, .s 34), (35, .s 35), (36, .s 36), (43, .s 43), (44, .s 44), (45, .s 45), (46, .r 0)]
def e25r9 : EE := .q 0 (.ixs 2) [.s 43, .s 45] none <|
 .q 1 (.lda 2) [.r 0] none <|
 .x 2 (.alc [z, z] 40) [] none [] <|
 .x 3 (.st 2) [.r 2, .r 1] none [] <|
 .out [(2, .s 2), (3, .s 3), (4, .s 4), (5, .s 5), (7, .s 7), (9, .s 9), (11, .r 2), (34, .s 34), (35, .s 35), (36, .s 36), (43, .s 43), (44, .s 44), (45, .s 45)]
def e25r10 : EE := .q 1 (.lda 2) [.s 9] none <|
 .q 2 (.lkp true [(.i .i64), (.i .i64)] (.agg [z, z, z, z, z, z, z, z, zs, zs, zs, zs, z, z, z, z, z, z, z, z, (.bool false)]) false) [.s 5, .r 1] none <|
 .q 4 (.lda 2) [.s 11] none <|
 .q 5 (.lkp true [(.i .i64), (.i .i64)] (.agg [z, z, z, z, z, z, z, z, zs, zs, zs, zs, z, z, z, z, z, z, z, z, (.bool false)]) false) [.s 5, .r 4] none <|
 .both false
 (.x 6 (.alc [z, z, z, z, z, z, z, z, zs, zs, zs, zs, z, z, z, z, z, z, z, z, (.bool false)] 48) [] none [⟨1, (.lda 2), [.s 9], none⟩, ⟨2, (.lkp true [(.i .i64), (.i .i64)] (.agg [z, z, z, z, z, z, z, z, zs, zs, zs, zs, z, z, z, z, z, z, z, z, (.bool false)]) false), [.s 5, .r 1], none⟩, ⟨4, (.lda 2), [.s 11], none⟩, ⟨5, (.lkp true [(.i .i64), (.i .i64)] (.agg [z, z, z, z, z, z, z, z, zs, zs, zs, zs, z, z, z, z, z, z, z, z, (.bool false)]) false), [.s 5, .r 4], none⟩] <|
 .x 7 (.alc [z, z, z, z, z, z, z, z, zs, zs, zs, zs, z, z, z, z, z, z, z, z, (.bool false)] 48) [] none [⟨1, (.lda 2), [.s 9], none⟩, ⟨2, (.lkp true [(.i .i64), (.i .i64)] (.agg [z, z, z, z, z, z, z, z, zs, zs, zs, zs, z, z, z, z, z, z, z, z, (.bool false)]) false), [.s 5, .r 1], none⟩, ⟨4, (.lda 2), [.s 11], none⟩, ⟨5, (.lkp true [(.i .i64), (.i .i64)] (.agg [z, z, z, z, z, z, z, z, zs, zs, zs, zs, z, z, z, z, z, z, z, z, (.bool false)]) false), [.s 5, .r 4], none⟩] <|
 .x 8 (.st 21) [.r 6, .r 2] none [⟨4, (.lda 2), [.s 11], none⟩, ⟨5, (.lkp true [(.i .i64), (.i .i64)] (.agg [z, z, z, z, z, z, z, z, zs, zs, zs, zs, z, z, z, z, z, z, z, z, (.bool false)]) false), [.s 5, .r 4], none⟩] <|
 .x 9 (.st 21) [.r 7, .r 5] none [] <|
 .out [(2, .s 2), (3, .s 3), (4, .s 4), (5, .s 5), (7, .s 7), (9, .s 9), (11, .s 11), (12, .r 6), (13, .r 7), (34, .s 34), (35, .s 35), (36, .s 36), (43, .s 43), (44, .s 44), (45, .s 45)])
 (.x 7 (.alc [z, z, z, z, z, z, z, z, zs, zs, zs, zs, z, z, z, z, z, z, z, z, (.bool false)] 48) [] none [⟨1, (.lda 2), [.s 9], none⟩, ⟨2, (.lkp true [(.i .i64), (.i .i64)] (.agg [z, z, z, z, z, z, z, z, zs, zs, zs, zs, z, z, z, z, z, z, z, z, (.bool false)]) false), [.s 5, .r 1], none⟩, ⟨4, (.lda 2), [.s 11], none⟩, ⟨5, (.lkp true [(.i .i64), (.i .i64)] (.agg [z, z, z, z, z, z, z, z, zs, zs, zs, zs, z, z, z, z, z, z, z, z, (.bool false)]) false), [.s 5, .r 4], none⟩] <|
 .x 6 (.alc [z, z, z, z, z, z, z, z, zs, zs, zs, zs, z, z, z, z, z, z, z, z, (.bool false)] 48) [] none [⟨1, (.lda 2), [.s 9], none⟩, ⟨2, (.lkp true [(.i .i64), (.i .i64)] (.agg [z, z, z, z, z, z, z, z, zs, zs, zs, zs, z, z, z, z, z, z, z, z, (.bool false)]) false), [.s 5, .r 1], none⟩, ⟨4, (.lda 2), [.s 11], none⟩, ⟨5, (.lkp true [(.i .i64), (.i .i64)] (.agg [z, z, z, z, z, z, z, z, zs, zs, zs, zs, z, z, z, z, z, z, z, z, (.bool false)]) false), [.s 5, .r 4], none⟩] <|
 .x 8 (.st 21) [.r 6, .r 2] none [⟨4, (.lda 2), [.s 11], none⟩, ⟨5, (.lkp true [(.i .i64), (.i .i64)] (.agg [z, z, z, z, z, z, z, z, zs, zs, zs, zs, z, z, z, z, z, z, z, z, (.bool false)]) false), [.s 5, .r 4], none⟩] <|
 .x 9 (.st 21) [.r 7, .r 5] none [] <|
 .out [(2, .s 2), (3, .s 3), (4, .s 4), (5, .s 5), (7, .s 7), (9, .s 9), (11, .s 11), (12, .r 6), (13, .r 7), (34, .s 34), (35, .s 35), (36, .s 36), (43, .s 43), (44, .s 44), (45, .s 45)])
def e25r11 : EE := .q 0 (.fld 5) [.s 12] none <|
 .q 1 (.lda 7) [.r 0] none <|
 .q 2 (.fld 5) [.s 13] none <|
 .q 3 (.lda 7) [.r 2] none <|
 .x 4 (.call 72) [.r 1, .r 3] none [] <|
 .q 6 (.fld 12) [.s 12] (some (.r 4, true)) <|
 .q 7 (.fld 1) [.r 6] (some (.r 4, true)) <|
 .q 8 (.lda 7) [.r 7] (some (.r 4, true)) <|
 .q 9 (.lda 2) [.s 11] (some (.r 4, true)) <|
 .x 10 (.call 73) [.r 8, .r 9] (some (.r 4, true)) [] <|
 .q 11 .not [.r 10] (some (.r 4, true)) <|
 .q 12 .pick [.r 4, .r 11, .c (.bool false)] none <|
 .q 14 (.fld 12) [.s 13] (some (.r 12, true)) <|
 .q 15 (.fld 1) [.r 14] (some (.r 12, true)) <|
 .q 16 (.lda 7) [.r 15] (some (.r 12, true)) <|
 .q 17 (.lda 2) [.s 9] (some (.r 12, true)) <|
 .x 18 (.call 73) [.r 16, .r 17] (some (.r 12, true)) [] <|
 .q 19 .not [.r 18] (some (.r 12, true)) <|
 .q 20 .pick [.r 12, .r 19, .c (.bool false)] none <|
 .out [(2, .s 2), (3, .s 3), (4, .s 4), (5, .s 5), (7, .s 7), (9, .s 9), (34, .s 34), (35, .s 35), (36, .s 36), (43, .s 43), (44, .s 44), (45, .s 45), (75, .r 20)]
def e25r12 : EE := .q 0 (.fld 3) [.s 7] none <|
 .q 1 .ld [.r 0] none <|
 .q 2 .add [.r 1, .c (.int .i64 1)] none <|
 .q 3 (.fld 3) [.s 7] none <|
 .x 4 (.st 1) [.r 3, .r 2] none [] <|
 .out [(2, .s 2), (3, .s 3), (4, .s 4), (5, .s 5), (7, .s 7), (9, .s 9), (34, .s 34), (35, .s 35), (36, .s 36), (43, .s 43), (44, .s 44), (45, .s 45)]
def e25r13 : EE := .q 0 .add [.s 45, .c (.int .i64 1)] none <|
 .out [(2, .s 2), (3, .s 3), (4, .s 4), (5, .s 5), (7, .s 7), (9, .s 9), (34, .s 34), (35, .s 35), (36, .s 36), (43, .s 43), (44, .s 44), (45, .r 0)]
def e25l14 : EC := (.seq (.reg e25r8 [2, 3, 4, 5, 7, 9, 34, 35, 36, 43, 44, 45] 0) (.seq (.cond (.s 46) .skip (.exit 2)) (.seq (.block 3 (.seq (.reg e25r9 [2, 3, 4, 5, 7, 9, 34, 35, 36, 43, 44, 45] 0) (.seq (.reg e25r10 [2, 3, 4, 5, 7, 9, 11, 34, 35, 36, 43, 44, 45] 10) (.seq (.reg e25r11 [2, 3, 4, 5, 7, 9, 11, 12, 13, 34, 35, 36, 43, 44, 45] 0) (.cond (.s 75) (.reg e25r12 [2, 3, 4, 5, 7, 9, 34, 35, 36, 43, 44, 45] 0) .skip))))) (.reg e25r13 [2, 3, 4, 5, 7, 9, 34, 35, 36, 43, 44, 45] 0))))
def e25r15 : EE := .q 0 .add [.s 36, .c (.int .i64 1)] none <|
 .out [(2, .s 2), (3, .s 3), (4, .s 4), (5, .s 5), (7, .s 7), (34, .s 34), (35, .s 35), (36, .r 0)]
def e25l16 : EC := (.seq (.reg e25r5 [2, 3, 4, 5, 7, 34, 35, 36] 0) (.seq (.cond (.s 37) .skip (.exit 0)) (.seq (.block 1 (.seq (.reg e25r6 [2, 3, 4, 5, 7, 34, 35, 36] 0) (.seq (.reg e25r7 [2, 3, 4, 5, 7, 8, 9, 34, 35, 36] 0) (.block 2 (.loop [2, 3, 4, 5, 7, 9, 34, 35, 36, 43, 44, 45] e25l14))))) (.reg e25r15 [2, 3, 4, 5, 7, 34, 35, 36] 0))))
def e25r17 : EE := .q 1 .len [.s 3] none <|
 .out [(2, .s 2), (3, .s 3), (7, .s 7), (82, .s 3), (83, .r 1), (84, .c z)]
def e25r18 : EE := .q 0 .lss [.s 84, .s 83] none <|
 .out [(2, .s 2), (3, .s 3), (7, .s 7), (82, .s 82), (83, .s 83), (84, .s 84), (85, .r 0)]
def e25r19 : EE := .q 1 (.ixs 1) [.s 82, .s 84] none <|
 .q 2 .ld [.r 1] none <|
 .out [(2, .s 2), (3, .s 3), (7, .s 7), (14, .s 84), (15, .r 2), (82, .s 82), (83, .s 83), (84, .s 84)]
def e25r20 : EE := .q 2 (.slc 1 false true) [.s 3, .s 14] none <|
 .q 3 .len [.r 2] none <|
 .out [(2, .s 2), (3, .s 3), (7, .s 7), (15, .s 15), (82, .s 82), (83, .s 83), (84, .s 84), (91, .r 2), (92, .r 3), (93, .c z)]
def e25r21 : EE := .q 0 .lss [.s 93, .s 92] none <|
 .out [(2, .s 2), (3, .s 3), (7, .s 7), (15, .s 15), (82, .s 82), (83, .s 83), (84, .s 84), (91, .s 91), (92, .s 92), (93, .s 93), (94, .r 0)]
def e25r22 : EE := .q 0 (.ixs 1) [.s 91, .s 93] none <|
 .q 1 .ld [.r 0] none <|
 .out [(2, .s 2), (3, .s 3), (7, .s 7), (15, .s 15), (17, .r 1), (82, .s 82), (83, .s 83), (84, .s 84), (91, .s 91), (92, .s 92), (93, .s 93)]
def e25r23 : EE := .x 1 (.call 15) [.s 15] none [] <|
 .x 3 (.call 15) [.s 17] none [] <|
 .q 4 (.eqc false [(.i .i64), (.i .i64), (.i .i64), (.i .i64), (.i .i64), (.i .i64), (.i .i64)]) [.r 1, .r 3] none <|
 .q 6 .mv [.s 15] (some (.r 4, true)) <|
 .x 7 (.call 17) [.r 6] (some (.r 4, true)) [] <|
 .q 8 .mv [.s 17] (some (.r 4, true)) <|
 .x 9 (.call 17) [.r 8] (some (.r 4, true)) [] <|
 .x 10 (.call 16) [.r 7, .r 9] (some (.r 4, true)) [] <|
 .q 11 .not [.r 10] (some (.r 4, true)) <|
 .q 12 .pick [.r 4, .r 11, .c (.bool false)] none <|
 .out [(2, .s 2), (3, .s 3), (7, .s 7), (15, .s 15), (82, .s 82), (83, .s 83), (84, .s 84), (91, .s 91), (92, .s 92), (93, .s 93), (109, .r 12)]
def e25r24 : EE := .q 0 (.fld 4) [.s 7] none <|
 .q 1 .ld [.r 0] none <|
 .q 2 .add [.r 1, .c (.int .i64 1)] none <|
 .q 3 (.fld 4) [.s 7] none <|
 .x 4 (.st 1) [.r 3, .r 2] none [] <|
 .out [(2, .s 2), (3, .s 3), (7, .s 7), (15, .s 15), (82, .s 82), (83, .s 83), (84, .s 84), (91, .s 91), (92, .s 92), (93, .s 93)]
def e25r25 : EE := .q 0 .add [.s 93, .c (.int .i64 1)] none <|
 .out [(2, .s 2), (3, .s 3), (7, .s 7), (15, .s 15), (82, .s 82), (83, .s 83), (84, .s 84), (91, .s 91), (92, .s 92), (93, .r 0)]
def e25l26 : EC := (.seq (.reg e25r21 [2, 3, 7, 15, 82, 83, 84, 91, 92, 93] 0) (.seq (.cond (.s 94) .skip (.exit 6)) (.seq (.block 7 (.seq (.reg e25r22 [2, 3, 7, 15, 82, 83, 84, 91, 92, 93] 0) (.seq (.reg e25r23 [2, 3, 7, 15, 17, 82, 83, 84, 91, 92, 93] 0) (.cond (.s 109) (.reg e25r24 [2, 3, 7, 15, 82, 83, 84, 91, 92, 93] 0) .skip)))) (.reg e25r25 [2, 3, 7, 15, 82, 83, 84, 91, 92, 93] 0))))
def e25r27 : EE := .q 0 .add [.s 84, .c (.int .i64 1)] none <|
 .out [(2, .s 2), (3, .s 3), (7, .s 7), (82, .s 82), (83, .s 83), (84, .r 0)]
def e25l28 : EC := (.seq (.reg e25r18 [2, 3, 7, 82, 83, 84] 0) (.seq (.cond (.s 85) .skip (.exit 4)) (.seq (.block 5 (.seq (.reg e25r19 [2, 3, 7, 82, 83, 84] 0) (.seq (.reg e25r20 [2, 3, 7, 14, 15, 82, 83, 84] 0) (.block 6 (.loop [2, 3, 7, 15, 82, 83, 84, 91, 92, 93] e25l26))))) (.reg e25r27 [2, 3, 7, 82, 83, 84] 0))))
def e25r29 : EE := .q 0 (.lda 5) [.s 7] none <|
 .x 1 (.st 5) [.s 2, .r 0] none [] <|
 .out [(2, .s 2)]
def e25 : EFn := ⟨(.seq (.reg e25r0 [0] 0) (.seq (.reg e25r1 [0, 2] 0) (.seq (.reg e25r2 [0, 2, 3] 0) (.seq (.reg e25r3 [2, 3, 4, 5, 6] 0) (.seq (.seq (.reg e25r4 [2, 3, 4, 5, 7] 0) (.block 0 (.loop [2, 3, 4, 5, 7, 34, 35, 36] e25l16))) (.seq (.seq (.reg e25r17 [2, 3, 7] 0) (.block 4 (.loop [2, 3, 7, 82, 83, 84] e25l28))) (.seq (.reg e25r29 [2, 7] 0) .ret))))))), [.cells 2 5], 117, 0⟩
theorem g25 : Good Tryz.prog 25 e25 := ⟨Tryz.f25, Tryz.func25, by kernel_rfl, by kernel_rfl, by kernel_rfl, by kernel_rfl⟩
/-! concord/audit.Fine -/
def e26r0 : EE := .x 0 (.box 80) [.s 0] none [] <|
 .out [(1, .r 0)]
def e26r1 : EE := .q 0 (.fld 2) [.s 1] none <|
 .q 1 .ld [.r 0] none <|
 .q 2 .eql [.r 1, .c z] none <|
 .q 4 (.fld 3) [.s 1] (some (.r 2, true)) <|
 .q 5 .ld [.r 4] (some (.r 2, true)) <|
 .q 6 .eql [.r 5, .c z] (some (.r 2, true)) <|
 .q 7 .pick [.r 2, .r 6, .c (.bool false)] none <|
 .q 9 (.fld 4) [.s 1] (some (.r 7, true)) <|
 .q 10 .ld [.r 9] (some (.r 7, true)) <|
 .q 11 .eql [.r 10, .c z] (some (.r 7, true)) <|
 .q 12 .pick [.r 7, .r 11, .c (.bool false)] none <|
 .out [(2, .r 12)]
def e26 : EFn := ⟨(.seq (.reg e26r0 [0] 0) (.seq (.reg e26r1 [1] 0) .ret)), [.slot 2], 16, 0⟩
theorem g26 : Good Tryz.prog 26 e26 := ⟨Tryz.f26, Tryz.func26, by kernel_rfl, by kernel_rfl, by kernel_rfl, by kernel_rfl⟩
/-! concord/quorum.Fits -/
def e30r0 : EE := .out [(0, .s 0)]
def e30r1 : EE := .q 1 .eql [.s 0, .c (.int .i64 3)] none <|
 .q 3 .mv [.s 0] (some (.r 1, false)) <|
 .q 4 .eql [.r 3, .c (.int .i64 5)] (some (.r 1, false)) <|
 .q 5 .pick [.r 1, .c (.bool true), .r 4] none <|
 .q 7 .mv [.s 0] (some (.r 5, false)) <|
 .q 8 .eql [.r 7, .c (.int .i64 7)] (some (.r 5, false)) <|
 .q 9 .pick [.r 5, .c (.bool true), .r 8] none <|
 .out [(2, .r 9)]
def e30 : EFn := ⟨(.seq (.reg e30r0 [0] 0) (.seq (.reg e30r1 [0] 0) .ret)), [.slot 2], 13, 0⟩
theorem g30 : Good Tryz.prog 30 e30 := ⟨Tryz.f30, Tryz.func30, by kernel_rfl, by kernel_rfl, by kernel_rfl, by kernel_rfl⟩
/-! concord/front.New -/
def e31r0 : EE := .out [(0, .s 0), (1, .s 1)]
def e31r1 : EE := .q 1 .neq [.s 0, .c (.int .i64 3)] none <|
 .q 3 .mv [.s 0] (some (.r 1, true)) <|
 .q 4 .neq [.r 3, .c (.int .i64 5)] (some (.r 1, true)) <|
 .q 5 .pick [.r 1, .r 4, .c (.bool false)] none <|
 .q 7 .mv [.s 0] (some (.r 5, true)) <|
 .q 8 .neq [.r 7, .c (.int .i64 7)] (some (.r 5, true)) <|
 .q 9 .pick [.r 5, .r 8, .c (.bool false)] none <|
 .q 11 .mv [.s 1] (some (.r 9, false)) <|
 .q 12 .lss [.r 11, .c z] (some (.r 9, false)) <|
 .q 13 .pick [.r 9, .c (.bool true), .r 12] none <|
 .q 15 .mv [.s 1] (some (.r 13, false)) <|
 .q 16 .mv [.s 0] (some (.r 13, false)) <|
 .q 17 .geq [.r 15, .r 16] (some (.r 13, false)) <|
 .q 18 .pick [.r 13, .c (.bool true), .r 17] none <|
 .out [(0, .s 0), (1, .s 1), (24, .r 18)]
def e31r2 : EE := .out [(4, .c .nptr), (5, .c (.int .i64 1))]
def e31r3 : EE := .q 2 (.bld [z, z, z, z, z, z, z, z, z, z, z, z, z, z, z, z, z, z, z, z, z, z, z, z, z, z, z, z, z, z, z, z, z, z, z, z, z, z, z, z, z, z, z, z, z, z, z, z, z, z, z] [(0, 1), (1, 1)]) [.s 0, .s 1] none <|
 .x 3 (.box 181) [.r 2] none [] <|
 .out [(4, .r 3), (5, .c z)]
def e31 : EFn := ⟨(.seq (.reg e31r0 [0, 1] 0) (.seq (.seq (.reg e31r1 [0, 1] 0) (.cond (.s 24) (.seq (.reg e31r2 [] 0) .ret) .skip)) (.seq (.reg e31r3 [0, 1] 0) .ret))), [.slot 4, .slot 5], 29, 0⟩
theorem g31 : Good Tryz.prog 31 e31 := ⟨Tryz.f31, Tryz.func31, by kernel_rfl, by kernel_rfl, by kernel_rfl, by kernel_rfl⟩
/-! (*concord/node.Node).load -/
def e32r0 : EE := .out [(0, .s 0)]
def e32r1 : EE := .q 1 .nl [.s 0] none <|
 .q 2 (.fld 2) [.r 1] none <|
 .q 3 .ld [.r 2] none <|
 .x 4 (.call 88) [.r 3, .c (.str [105, 109, 97, 103, 101])] none [] <|
 .q 6 (.ext 0) [.r 4] none <|
 .q 7 (.ext 1) [.r 4] none <|
 .out [(0, .s 0), (3, .r 6), (4, .r 7)]
def e32r2 : EE := .out [(0, .s 0), (3, .s 3), (18, .s 4)]
def e32r3 : EE := .x 1 (.call 89) [.s 3] none [] <|
 .q 3 (.ext 0) [.r 1] none <|
 .q 4 (.ext 1) [.r 1] none <|
 .q 5 (.ext 2) [.r 1] none <|
 .x 6 (.alc [z, z, z, z, z, z, z] 44) [] none [] <|
 .x 7 (.alc [.nsl, z, z, (.bool false), zs, z, .nsl, z, z, (.bool false), zs, z, .nsl, z, z, (.bool false), zs, z, .nsl, z, z, (.bool false), zs, z, .nsl, z, z, (.bool false), zs, z, .nsl, z, z, (.bool false), zs, z, .nsl, z, z, (.bool false), zs, z, .nsl, z, z, (.bool false), zs, z, .nsl] 61) [] none [] <|
 .x 8 (.st 7) [.r 6, .r 3] none [] <|
 .x 9 (.st 49) [.r 7, .r 4] none [] <|
 .out [(0, .s 0), (5, .r 6), (6, .r 7), (7, .r 5)]
def e32r4 : EE := .q 1 .neq [.s 7, .c z] none <|
 .out [(0, .s 0), (5, .s 5), (6, .s 6), (7, .s 7), (26, .r 1)]
def e32r5 : EE := .out [(2, .s 7)]
def e32r6 : EE := .q 3 (.lda 7) [.s 5] none <|
 .q 4 (.lda 7) [.s 5] none <|
 .q 5 (.lda 49) [.s 6] none <|
 .q 6 .nl [.s 0] none <|
 .q 7 (.fld 55) [.r 6] none <|
 .x 8 (.st 7) [.r 7, .r 3] none [⟨4, (.lda 7), [.s 5], none⟩, ⟨5, (.lda 49), [.s 6], none⟩] <|
 .q 9 .nl [.s 0] none <|
 .q 10 (.fld 62) [.r 9] none <|
 .x 11 (.st 7) [.r 10, .r 4] none [⟨5, (.lda 49), [.s 6], none⟩] <|
 .q 12 .nl [.s 0] none <|
 .q 13 (.fld 6) [.r 12] none <|
 .x 14 (.st 49) [.r 13, .r 5] none [] <|
 .out [(0, .s 0)]
def e32r7 : EE := .q 1 .nl [.s 0] none <|
 .q 2 (.fld 2) [.r 1] none <|
 .q 3 .ld [.r 2] none <|
 .x 4 (.call 88) [.r 3, .c (.str [105, 109, 97, 103, 101, 46, 110, 101, 119])] none [] <|
 .q 6 (.ext 0) [.r 4] none <|
 .q 7 (.ext 1) [.r 4] none <|
 .out [(0, .s 0), (9, .r 7)]
def e32r8 : EE := .out [(0, .s 0), (48, .s 9)]
def e32r9 : EE := .q 1 .nl [.s 0] none <|
 .q 2 (.fld 2) [.r 1] none <|
 .q 3 .ld [.r 2] none <|
 .x 4 (.call 90) [.r 3, .c (.str [105, 109, 97, 103, 101, 46, 110, 101, 119])] none [] <|
 .out [(2, .r 4)]
def e32r10 : EE := .out [(2, .c z)]
def e32 : EFn := ⟨(.seq (.reg e32r0 [0] 0) (.seq (.seq (.reg e32r1 [0] 0) (.seq (.reg e32r2 [0, 3, 4] 0) (.cond (.s 18) (.seq (.reg e32r3 [0, 3] 0) (.seq (.seq (.reg e32r4 [0, 5, 6, 7] 0) (.cond (.s 26) (.seq (.reg e32r5 [7] 0) .ret) .skip)) (.reg e32r6 [0, 5, 6] 0))) .skip))) (.seq (.seq (.reg e32r7 [0] 0) (.seq (.reg e32r8 [0, 9] 0) (.cond (.s 48) (.seq (.reg e32r9 [0] 0) .ret) .skip))) (.seq (.reg e32r10 [] 0) .ret)))), [.slot 2], 54, 0⟩
theorem g32 : Good Tryz.prog 32 e32 := ⟨Tryz.f32, Tryz.func32, by kernel_rfl, by kernel_rfl, by kernel_rfl, by kernel_rfl⟩
/-! concord/wal.Open -/
def e33r0 : EE := .out [(0, .s 0)]
def e33r1 : EE := .q 1 (.eqp false) [.s 0, .c .nptr] none <|
 .out [(0, .s 0), (17, .r 1)]
def e33r2 : EE := .out [(2, .c .nptr), (3, .c .nsl), (4, .c (.int .i64 1))]
def e33r3 : EE := .x 1 (.call 91) [.s 0] none [] <|
 .out [(0, .s 0), (5, .r 1)]
def e33r4 : EE := .q 1 .eql [.s 5, .c z] none <|
 .out [(0, .s 0), (5, .s 5), (21, .r 1)]
def e33r5 : EE := .q 1 (.bld [z, z] []) [] none <|
 .x 2 (.call 92) [.s 0, .r 1] none [] <|
 .out [(0, .s 0), (6, .r 2)]
def e33r6 : EE := .q 1 .neq [.s 6, .c z] none <|
 .out [(0, .s 0), (6, .s 6), (26, .r 1)]
def e33r7 : EE := .out [(2, .c .nptr), (3, .c .nsl), (4, .s 6)]
def e33r8 : EE := .q 1 (.bld [.nptr, z, z, (.bool false)] [(0, 1)]) [.s 0] none <|
 .x 2 (.box 192) [.r 1] none [] <|
 .out [(2, .r 2), (3, .c .nsl), (4, .c z)]
def e33r9 : EE := .x 2 (.call 93) [.s 0, .s 5] none [] <|
 .q 4 (.ext 0) [.r 2] none <|
 .q 5 (.ext 1) [.r 2] none <|
 .q 6 (.ext 2) [.r 2] none <|
 .q 7 (.ext 3) [.r 2] none <|
 .x 8 (.alc [z, z] 190) [] none [] <|
 .x 10 (.st 2) [.r 8, .r 5] none [] <|
 .out [(0, .s 0), (7, .r 4), (8, .r 8), (9, .r 6)]
def e33r10 : EE := .q 1 (.lda 2) [.s 8] none <|
 .x 2 (.call 94) [.r 1] none [] <|
 .x 3 (.call 88) [.s 0, .r 2] none [] <|
 .q 5 (.ext 0) [.r 3] none <|
 .q 6 (.ext 1) [.r 3] none <|
 .out [(0, .s 0), (7, .s 7), (8, .s 8), (9, .s 9), (11, .r 5)]
def e33r11 : EE := .q 1 .len [.s 11] none <|
 .q 3 .gtr [.r 1, .s 9] none <|
 .out [(0, .s 0), (7, .s 7), (8, .s 8), (9, .s 9), (49, .r 3)]
def e33r12 : EE := .q 1 (.lda 2) [.s 8] none <|
 .x 2 (.call 94) [.r 1] none [] <|
 .x 4 (.call 95) [.s 0, .r 2, .s 9] none [] <|
 .out [(0, .s 0), (7, .s 7), (8, .s 8), (13, .r 4)]
def e33r13 : EE := .q 1 .neq [.s 13, .c z] none <|
 .out [(0, .s 0), (7, .s 7), (8, .s 8), (13, .s 13), (56, .r 1)]
def e33r14 : EE := .out [(2, .c .nptr), (3, .c .nsl), (4, .s 13)]
def e33r15 : EE := .q 1 (.lda 2) [.s 8] none <|
 .x 2 (.call 92) [.s 0, .r 1] none [] <|
 .out [(0, .s 0), (7, .s 7), (8, .s 8), (14, .r 2)]
def e33r16 : EE := .q 1 .neq [.s 14, .c z] none <|
 .out [(0, .s 0), (7, .s 7), (8, .s 8), (14, .s 14), (62, .r 1)]
def e33r17 : EE := .out [(2, .c .nptr), (3, .c .nsl), (4, .s 14)]
def e33r18 : EE := .q 1 (.lda 2) [.s 8] none <|
 .x 2 (.call 94) [.r 1] none [] <|
 .x 3 (.call 96) [.s 0, .r 2] none [] <|
 .out [(0, .s 0), (7, .s 7), (8, .s 8), (15, .r 3)]
def e33r19 : EE := .q 1 .neq [.s 15, .c z] none <|
 .out [(0, .s 0), (7, .s 7), (8, .s 8), (15, .s 15), (69, .r 1)]
def e33r20 : EE := .out [(2, .c .nptr), (3, .c .nsl), (4, .s 15)]
def e33r21 : EE := .q 1 (.lda 2) [.s 8] none <|
 .q 2 (.bld [.nptr, z, z, (.bool false)] [(0, 1), (1, 2)]) [.s 0, .r 1] none <|
 .x 3 (.box 192) [.r 2] none [] <|
 .out [(2, .r 3), (3, .s 7), (4, .c z)]
def e33 : EFn := ⟨(.seq (.reg e33r0 [0] 0) (.seq (.seq (.reg e33r1 [0] 0) (.cond (.s 17) (.seq (.reg e33r2 [] 0) .ret) .skip)) (.seq (.reg e33r3 [0] 0) (.seq (.seq (.reg e33r4 [0, 5] 0) (.cond (.s 21) (.seq (.seq (.reg e33r5 [0] 0) (.seq (.reg e33r6 [0, 6] 0) (.cond (.s 26) (.seq (.reg e33r7 [6] 0) .ret) .skip))) (.seq (.reg e33r8 [0] 0) .ret)) .skip)) (.seq (.reg e33r9 [0, 5] 0) (.seq (.seq (.reg e33r10 [0, 7, 8, 9] 0) (.seq (.reg e33r11 [0, 7, 8, 9, 11] 0) (.cond (.s 49) (.seq (.reg e33r12 [0, 7, 8, 9] 0) (.seq (.reg e33r13 [0, 7, 8, 13] 0) (.cond (.s 56) (.seq (.reg e33r14 [13] 0) .ret) .skip))) .skip))) (.seq (.seq (.reg e33r15 [0, 7, 8] 0) (.seq (.reg e33r16 [0, 7, 8, 14] 0) (.cond (.s 62) (.seq (.reg e33r17 [14] 0) .ret) .skip))) (.seq (.seq (.reg e33r18 [0, 7, 8] 0) (.seq (.reg e33r19 [0, 7, 8, 15] 0) (.cond (.s 69) (.seq (.reg e33r20 [15] 0) .ret) .skip))) (.seq (.reg e33r21 [0, 7, 8] 0) .ret))))))))), [.slot 2, .slot 3, .slot 4], 76, 0⟩
theorem g33 : Good Tryz.prog 33 e33 := ⟨Tryz.f33, Tryz.func33, by kernel_rfl, by kernel_rfl, by kernel_rfl, by kernel_rfl⟩
/-! concord/core.New -/
def e35r0 : EE := .x 0 (.box 44) [.s 2] none [] <|
 .out [(0, .s 0), (1, .s 1), (3, .s 3), (6, .r 0)]
def e35r1 : EE := .x 1 (.call 30) [.s 0] none [] <|
 .q 2 .not [.r 1] none <|
 .q 4 .mv [.s 1] (some (.r 2, false)) <|
 .q 5 .lss [.r 4, .c z] (some (.r 2, false)) <|
 .q 6 .pick [.r 2, .c (.bool true), .r 5] none <|
 .q 8 .mv [.s 1] (some (.r 6, false)) <|
 .q 9 .mv [.s 0] (some (.r 6, false)) <|
 .q 10 .geq [.r 8, .r 9] (some (.r 6, false)) <|
 .q 11 .pick [.r 6, .c (.bool true), .r 10] none <|
 .q 13 (.lda 7) [.s 6] (some (.r 11, false)) <|
 .q 14 (.bld [z, z, z, z, z, z, z, z] [(1, 7)]) [.r 13] (some (.r 11, false)) <|
 .x 15 (.call 100) [.r 14] (some (.r 11, false)) [] <|
 .q 16 .not [.r 15] (some (.r 11, false)) <|
 .q 17 .pick [.r 11, .c (.bool true), .r 16] none <|
 .out [(0, .s 0), (1, .s 1), (3, .s 3), (6, .s 6), (33, .r 17)]
def e35r2 : EE := .out [(8, .c .nptr), (9, .c (.int .i64 1))]
def e35r3 : EE := .q 2 (.lda 7) [.s 6] none <|
 .x 3 (.call 101) [.r 2] none [] <|
 .x 4 (.call 102) [] none [] <|
 .q 5 (.bld [z, z, .nptr, .nptr, .nsl, .nsl, .nsl, .nsl] [(0, 1), (1, 1), (2, 1), (3, 1)]) [.s 0, .s 1, .r 3, .r 4] none <|
 .x 6 (.box 206) [.r 5] none [] <|
 .out [(3, .s 3), (6, .s 6), (10, .r 6)]
def e35r4 : EE := .q 1 .nl [.s 10] none <|
 .q 2 (.fld 3) [.r 1] none <|
 .q 3 .ld [.r 2] none <|
 .q 4 (.lda 7) [.s 6] none <|
 .x 5 (.call 103) [.r 3, .r 4] none [] <|
 .out [(3, .s 3), (10, .s 10)]
def e35r5 : EE := .q 1 .len [.s 3] none <|
 .out [(10, .s 10), (47, .s 3), (48, .r 1), (49, .c z)]
def e35r6 : EE := .q 0 .lss [.s 49, .s 48] none <|
 .out [(10, .s 10), (47, .s 47), (48, .s 48), (49, .s 49), (50, .r 0)]
def e35r7 : EE := .q 0 (.ixs 1) [.s 47, .s 49] none <|
 .q 1 .ld [.r 0] none <|
 .out [(10, .s 10), (12, .r 1), (47, .s 47), (48, .s 48), (49, .s 49)]
def e35r8 : EE := .x 1 (.call 104) [.s 12] none [] <|
 .q 3 (.ext 0) [.r 1] none <|
 .q 4 (.ext 1) [.r 1] none <|
 .q 5 (.ext 2) [.r 1] none <|
 .x 6 (.alc [z, z] 40) [] none [] <|
 .x 7 (.alc [z, z, z, z, z, z, z, z, zs, zs, zs, zs, z, z, z, z, z, z, z, z, (.bool false)] 48) [] none [] <|
 .x 8 (.st 2) [.r 6, .r 3] none [] <|
 .x 9 (.st 21) [.r 7, .r 4] none [] <|
 .out [(10, .s 10), (13, .r 6), (14, .r 7), (15, .r 5), (47, .s 47), (48, .s 48), (49, .s 49)]
def e35r9 : EE := .q 1 .eql [.s 15, .c z] none <|
 .q 3 .mv [.s 10] (some (.r 1, true)) <|
 .q 4 .nl [.r 3] (some (.r 1, true)) <|
 .q 5 (.fld 2) [.r 4] (some (.r 1, true)) <|
 .q 6 .ld [.r 5] (some (.r 1, true)) <|
 .q 7 (.lda 2) [.s 13] (some (.r 1, true)) <|
 .q 8 (.lda 21) [.s 14] (some (.r 1, true)) <|
 .x 9 (.call 105) [.r 6, .r 7, .r 8] (some (.r 1, true)) [] <|
 .q 10 .pick [.r 1, .r 9, .c (.bool false)] none <|
 .out [(10, .s 10), (13, .s 13), (14, .s 14), (47, .s 47), (48, .s 48), (49, .s 49), (69, .r 10)]
def e35r10 : EE := .q 1 (.lda 2) [.s 13] none <|
 .q 2 (.lda 21) [.s 14] none <|
 .x 3 (.call 106) [.s 10, .r 1, .r 2] none [] <|
 .out [(10, .s 10), (47, .s 47), (48, .s 48), (49, .s 49)]
def e35r11 : EE := .q 0 .add [.s 49, .c (.int .i64 1)] none <|
 .out [(10, .s 10), (47, .s 47), (48, .s 48), (49, .r 0)]
def e35l12 : EC := (.seq (.reg e35r6 [10, 47, 48, 49] 0) (.seq (.cond (.s 50) .skip (.exit 0)) (.seq (.block 1 (.seq (.reg e35r7 [10, 47, 48, 49] 0) (.seq (.reg e35r8 [10, 12, 47, 48, 49] 0) (.seq (.reg e35r9 [10, 13, 14, 15, 47, 48, 49] 0) (.cond (.s 69) (.reg e35r10 [10, 13, 14, 47, 48, 49] 0) .skip))))) (.reg e35r11 [10, 47, 48, 49] 0))))
def e35r13 : EE := .out [(8, .s 10), (9, .c z)]
def e35 : EFn := ⟨(.seq (.reg e35r0 [0, 1, 2, 3] 0) (.seq (.seq (.reg e35r1 [0, 1, 3, 6] 0) (.cond (.s 33) (.seq (.reg e35r2 [] 0) .ret) .skip)) (.seq (.reg e35r3 [0, 1, 3, 6] 0) (.seq (.reg e35r4 [3, 6, 10] 0) (.seq (.seq (.reg e35r5 [3, 10] 0) (.block 0 (.loop [10, 47, 48, 49] e35l12))) (.seq (.reg e35r13 [10] 0) .ret)))))), [.slot 8, .slot 9], 76, 0⟩
theorem g35 : Good Tryz.prog 35 e35 := ⟨Tryz.f35, Tryz.func35, by kernel_rfl, by kernel_rfl, by kernel_rfl, by kernel_rfl⟩
/-! (*concord/wal.Wal).Where -/
def e36r0 : EE := .out [(0, .s 0)]
def e36r1 : EE := .q 1 .nl [.s 0] none <|
 .q 2 (.fld 1) [.r 1] none <|
 .q 3 (.fld 0) [.r 2] none <|
 .q 4 .ld [.r 3] none <|
 .q 6 .nl [.s 0] none <|
 .q 7 (.fld 1) [.r 6] none <|
 .q 8 (.fld 1) [.r 7] none <|
 .q 9 .ld [.r 8] none <|
 .out [(2, .r 4), (3, .r 9)]
def e36 : EFn := ⟨(.seq (.reg e36r0 [0] 0) (.seq (.reg e36r1 [0] 0) .ret)), [.slot 2, .slot 3], 14, 0⟩
theorem g36 : Good Tryz.prog 36 e36 := ⟨Tryz.f36, Tryz.func36, by kernel_rfl, by kernel_rfl, by kernel_rfl, by kernel_rfl⟩
/-! (*concord/wal.Wal).Anew -/
def e37r0 : EE := .out [(0, .s 0), (1, .s 1)]
def e37r1 : EE := .q 1 .nl [.s 0] none <|
 .q 2 (.fld 3) [.r 1] none <|
 .q 3 .ld [.r 2] none <|
 .out [(0, .s 0), (1, .s 1), (14, .r 3)]
def e37r2 : EE := .out [(4, .c (.int .i64 10))]
def e37r3 : EE := .q 1 .len [.s 1] none <|
 .x 2 (.call 109) [.c .nsl, .r 1] none [] <|
 .x 3 (.call 108) [.c .nsl, .r 2] none [] <|
 .x 5 (.call 107) [.r 3, .s 1] none [] <|
 .q 7 (.ext 0) [.r 5] none <|
 .q 8 (.ext 1) [.r 5] none <|
 .out [(0, .s 0), (5, .r 7), (6, .r 8)]
def e37r4 : EE := .q 1 .not [.s 6] none <|
 .out [(0, .s 0), (5, .s 5), (25, .r 1)]
def e37r5 : EE := .out [(4, .c (.int .i64 1))]
def e37r6 : EE := .q 1 .nl [.s 0] none <|
 .q 2 (.fld 1) [.r 1] none <|
 .q 3 (.fld 0) [.r 2] none <|
 .q 4 .ld [.r 3] none <|
 .q 5 .geq [.r 4, .c (.int .i64 999999999)] none <|
 .out [(0, .s 0), (5, .s 5), (31, .r 5)]
def e37r7 : EE := .out [(4, .c (.int .i64 7))]
def e37r8 : EE := .q 1 .nl [.s 0] none <|
 .q 2 (.fld 1) [.r 1] none <|
 .q 3 (.fld 0) [.r 2] none <|
 .q 4 .ld [.r 3] none <|
 .q 5 .add [.r 4, .c (.int .i64 1)] none <|
 .q 6 (.bld [z, z] [(0, 1), (1, 1)]) [.r 5, .c (.int .i64 1)] none <|
 .x 7 (.alc [z, z] 190) [] none [] <|
 .x 8 (.st 2) [.r 7, .r 6] none [] <|
 .out [(0, .s 0), (5, .s 5), (7, .r 7)]
def e37r9 : EE := .q 1 (.lda 2) [.s 7] none <|
 .x 3 (.call 110) [.s 0, .r 1, .s 5] none [] <|
 .out [(0, .s 0), (7, .s 7), (8, .r 3)]
def e37r10 : EE := .q 1 .neq [.s 8, .c z] none <|
 .out [(0, .s 0), (7, .s 7), (8, .s 8), (44, .r 1)]
def e37r11 : EE := .out [(4, .s 8)]
def e37r12 : EE := .out [(0, .s 0), (7, .s 7), (9, .c (.int .i64 1))]
def e37r13 : EE := .q 2 .nl [.s 0] none <|
 .q 3 (.fld 1) [.r 2] none <|
 .q 4 (.fld 1) [.r 3] none <|
 .q 5 .ld [.r 4] none <|
 .q 6 .leq [.s 9, .r 5] none <|
 .out [(0, .s 0), (7, .s 7), (9, .s 9), (52, .r 6)]
def e37r14 : EE := .q 1 .nl [.s 0] none <|
 .q 2 (.fld 0) [.r 1] none <|
 .q 3 .ld [.r 2] none <|
 .q 5 .nl [.s 0] none <|
 .q 6 (.fld 1) [.r 5] none <|
 .q 7 (.fld 0) [.r 6] none <|
 .q 8 .ld [.r 7] none <|
 .q 10 (.bld [z, z] [(0, 1), (1, 1)]) [.r 8, .s 9] none <|
 .x 11 (.call 94) [.r 10] none [⟨3, .ld, [.r 2], none⟩] <|
 .x 12 (.call 90) [.r 3, .r 11] none [] <|
 .out [(0, .s 0), (7, .s 7), (9, .s 9), (10, .r 12)]
def e37r15 : EE := .q 1 .neq [.s 10, .c z] none <|
 .out [(0, .s 0), (7, .s 7), (9, .s 9), (10, .s 10), (69, .r 1)]
def e37r16 : EE := .q 1 .nl [.s 0] none <|
 .q 2 (.fld 3) [.r 1] none <|
 .x 3 (.st 1) [.r 2, .c (.bool true)] none [] <|
 .out [(10, .s 10)]
def e37r17 : EE := .out [(4, .s 10)]
def e37r18 : EE := .q 1 .add [.s 9, .c (.int .i64 1)] none <|
 .out [(0, .s 0), (7, .s 7), (9, .r 1)]
def e37l19 : EC := (.seq (.seq (.reg e37r13 [0, 7, 9] 0) (.cond (.s 52) .skip (.exit 0))) (.seq (.block 1 (.seq (.reg e37r14 [0, 7, 9] 0) (.seq (.reg e37r15 [0, 7, 9, 10] 0) (.cond (.s 69) (.seq (.reg e37r16 [0, 10] 0) (.seq (.reg e37r17 [10] 0) .ret)) .skip)))) (.reg e37r18 [0, 7, 9] 0)))
def e37r20 : EE := .q 1 (.lda 2) [.s 7] none <|
 .q 2 .nl [.s 0] none <|
 .q 3 (.fld 1) [.r 2] none <|
 .x 4 (.st 2) [.r 3, .r 1] none [] <|
 .out []
def e37r21 : EE := .out [(4, .c z)]
def e37 : EFn := ⟨(.seq (.reg e37r0 [0, 1] 0) (.seq (.seq (.reg e37r1 [0, 1] 0) (.cond (.s 14) (.seq (.reg e37r2 [] 0) .ret) .skip)) (.seq (.reg e37r3 [0, 1] 0) (.seq (.seq (.reg e37r4 [0, 5, 6] 0) (.cond (.s 25) (.seq (.reg e37r5 [] 0) .ret) .skip)) (.seq (.seq (.reg e37r6 [0, 5] 0) (.cond (.s 31) (.seq (.reg e37r7 [] 0) .ret) .skip)) (.seq (.reg e37r8 [0, 5] 0) (.seq (.seq (.reg e37r9 [0, 5, 7] 0) (.seq (.reg e37r10 [0, 7, 8] 0) (.cond (.s 44) (.seq (.reg e37r11 [8] 0) .ret) .skip))) (.seq (.seq (.reg e37r12 [0, 7] 0) (.block 0 (.loop [0, 7, 9] e37l19))) (.seq (.reg e37r20 [0, 7] 0) (.seq (.reg e37r21 [] 0) .ret)))))))))), [.slot 4], 78, 0⟩
theorem g37 : Good Tryz.prog 37 e37 := ⟨Tryz.f37, Tryz.func37, by kernel_rfl, by kernel_rfl, by kernel_rfl, by kernel_rfl⟩
/-! concord/node.cutRecord -/
def e38r0 : EE := .x 0 (.box 44) [.s 0] none [] <|
 .out [(1, .r 0)]
def e38r1 : EE := .x 0 (.bsl 5 1 [(.int .u8 0)] [(0, 1)]) [.c (.int .u8 1)] none [] <|
 .out [(1, .s 1), (3, .r 0)]
def e38r2 : EE := .q 0 (.lda 7) [.s 1] none <|
 .out [(3, .s 3), (7, .r 0), (8, .c z)]
def e38r3 : EE := .q 0 .lss [.s 8, .c (.int .i64 7)] none <|
 .out [(3, .s 3), (7, .s 7), (8, .s 8), (9, .r 0)]
def e38r4 : EE := .q 0 (.idx 7 1) [.s 7, .s 8] none <|
 .out [(3, .s 3), (5, .r 0), (7, .s 7), (8, .s 8)]
def e38r5 : EE := .x 2 (.call 109) [.s 3, .s 5] none [] <|
 .out [(3, .r 2), (7, .s 7), (8, .s 8)]
def e38r6 : EE := .q 0 .add [.s 8, .c (.int .i64 1)] none <|
 .out [(3, .s 3), (7, .s 7), (8, .r 0)]
def e38l7 : EC := (.seq (.reg e38r3 [3, 7, 8] 0) (.seq (.cond (.s 9) .skip (.exit 0)) (.seq (.block 1 (.seq (.reg e38r4 [3, 7, 8] 0) (.reg e38r5 [3, 5, 7, 8] 0))) (.reg e38r6 [3, 7, 8] 0))))
def e38r8 : EE := .out [(2, .s 3)]
def e38 : EFn := ⟨(.seq (.reg e38r0 [0] 0) (.seq (.reg e38r1 [1] 0) (.seq (.seq (.reg e38r2 [1, 3] 0) (.block 0 (.loop [3, 7, 8] e38l7))) (.seq (.reg e38r8 [3] 0) .ret)))), [.slot 2], 16, 0⟩
theorem g38 : Good Tryz.prog 38 e38 := ⟨Tryz.f38, Tryz.func38, by kernel_rfl, by kernel_rfl, by kernel_rfl, by kernel_rfl⟩
/-! (*concord/front.Fronts).Hear -/
def e39r0 : EE := .x 0 (.box 44) [.s 2] none [] <|
 .out [(0, .s 0), (1, .s 1), (5, .r 0)]
def e39r1 : EE := .q 1 .lss [.s 1, .c z] none <|
 .q 3 .mv [.s 1] (some (.r 1, false)) <|
 .q 4 .mv [.s 0] (some (.r 1, false)) <|
 .q 5 .nl [.r 4] (some (.r 1, false)) <|
 .q 6 (.fld 0) [.r 5] (some (.r 1, false)) <|
 .q 7 .ld [.r 6] (some (.r 1, false)) <|
 .q 8 .geq [.r 3, .r 7] (some (.r 1, false)) <|
 .q 9 .pick [.r 1, .c (.bool true), .r 8] none <|
 .q 11 (.lda 7) [.s 5] (some (.r 9, false)) <|
 .q 12 (.bld [z, z, z, z, z, z, z, z] [(1, 7)]) [.r 11] (some (.r 9, false)) <|
 .x 13 (.call 100) [.r 12] (some (.r 9, false)) [] <|
 .q 14 .not [.r 13] (some (.r 9, false)) <|
 .q 15 .pick [.r 9, .c (.bool true), .r 14] none <|
 .out [(0, .s 0), (1, .s 1), (5, .s 5), (24, .r 15)]
def e39r2 : EE := .out [(6, .c (.bool false))]
def e39r3 : EE := .q 0 (.lda 7) [.s 5] none <|
 .out [(0, .s 0), (1, .s 1), (25, .r 0), (26, .c z)]
def e39r4 : EE := .q 0 .lss [.s 26, .c (.int .i64 7)] none <|
 .out [(0, .s 0), (1, .s 1), (25, .s 25), (26, .s 26), (27, .r 0)]
def e39r5 : EE := .q 1 (.idx 7 1) [.s 25, .s 26] none <|
 .out [(0, .s 0), (1, .s 1), (7, .s 26), (8, .r 1), (25, .s 25), (26, .s 26)]
def e39r6 : EE := .q 6 .nl [.s 0] none <|
 .q 7 (.fld 2) [.r 6] none <|
 .q 8 (.ixa 7 7) [.r 7, .s 1] none <|
 .q 9 (.ixa 7 1) [.r 8, .s 7] none <|
 .q 10 .ld [.r 9] none <|
 .q 12 .mx [.r 10, .s 8] none <|
 .q 13 .nl [.s 0] none <|
 .q 14 (.fld 2) [.r 13] none <|
 .q 15 (.ixa 7 7) [.r 14, .s 1] none <|
 .q 16 (.ixa 7 1) [.r 15, .s 7] none <|
 .x 17 (.st 1) [.r 16, .r 12] none [] <|
 .out [(0, .s 0), (1, .s 1), (25, .s 25), (26, .s 26)]
def e39r7 : EE := .q 0 .add [.s 26, .c (.int .i64 1)] none <|
 .out [(0, .s 0), (1, .s 1), (25, .s 25), (26, .r 0)]
def e39l8 : EC := (.seq (.reg e39r4 [0, 1, 25, 26] 0) (.seq (.cond (.s 27) .skip (.exit 0)) (.seq (.block 1 (.seq (.reg e39r5 [0, 1, 25, 26] 0) (.reg e39r6 [0, 1, 7, 8, 25, 26] 0))) (.reg e39r7 [0, 1, 25, 26] 0))))
def e39r9 : EE := .out [(6, .c (.bool true))]
def e39 : EFn := ⟨(.seq (.reg e39r0 [0, 1, 2] 0) (.seq (.seq (.reg e39r1 [0, 1, 5] 0) (.cond (.s 24) (.seq (.reg e39r2 [] 0) .ret) .skip)) (.seq (.seq (.reg e39r3 [0, 1, 5] 0) (.block 0 (.loop [0, 1, 25, 26] e39l8))) (.seq (.reg e39r9 [] 0) .ret)))), [.slot 6], 48, 0⟩
theorem g39 : Good Tryz.prog 39 e39 := ⟨Tryz.f39, Tryz.func39, by kernel_rfl, by kernel_rfl, by kernel_rfl, by kernel_rfl⟩
/-! (*concord/node.Node).settle -/
def e40r0 : EE := .q 1 .nl [.s 0] none <|
 .q 2 (.fld 74) [.r 1] none <|
 .q 3 .ld [.r 2] none <|
 .q 5 .mv [.s 0] (some (.r 3, false)) <|
 .x 6 (.call 111) [.r 5] (some (.r 3, false)) [] <|
 .q 7 .not [.r 6] (some (.r 3, false)) <|
 .q 8 .pick [.r 3, .c (.bool true), .r 7] none <|
 .out [(0, .s 0), (10, .r 8)]
def e40r1 : EE := .x 1 (.call 112) [.s 0] none [] <|
 .out [(0, .s 0)]
def e40r2 : EE := .x 1 (.call 113) [.s 0] none [] <|
 .out [(0, .s 0)]
def e40r3 : EE := .q 1 .nl [.s 0] none <|
 .q 2 (.fld 69) [.r 1] none <|
 .q 3 .ld [.r 2] none <|
 .q 4 .geq [.r 3, .c (.int .i64 8)] none <|
 .q 6 .mv [.s 0] (some (.r 4, true)) <|
 .q 7 .mv [.s 0] (some (.r 4, true)) <|
 .q 8 .nl [.r 7] (some (.r 4, true)) <|
 .q 9 (.fld 55) [.r 8] (some (.r 4, true)) <|
 .q 10 (.lda 7) [.r 9] (some (.r 4, true)) <|
 .q 11 .mv [.s 0] (some (.r 4, true)) <|
 .q 12 .nl [.r 11] (some (.r 4, true)) <|
 .q 13 (.fld 6) [.r 12] (some (.r 4, true)) <|
 .q 14 (.lda 49) [.r 13] (some (.r 4, true)) <|
 .x 15 (.call 115) [.r 10, .r 14] (some (.r 4, true)) [] <|
 .x 16 (.call 114) [.r 6, .r 15] (some (.r 4, true)) [] <|
 .q 17 .not [.r 16] (some (.r 4, true)) <|
 .q 18 .pick [.r 4, .r 17, .c (.bool false)] none <|
 .out [(0, .s 0), (33, .r 18)]
def e40r4 : EE := .x 1 (.call 116) [.s 0] none [] <|
 .out []
def e40 : EFn := ⟨(.seq (.seq (.reg e40r0 [0] 0) (.cond (.s 10) .ret .skip)) (.seq (.reg e40r1 [0] 0) (.seq (.reg e40r2 [0] 0) (.seq (.seq (.reg e40r3 [0] 0) (.cond (.s 33) .ret .skip)) (.reg e40r4 [0] 0))))), [], 36, 0⟩
theorem g40 : Good Tryz.prog 40 e40 := ⟨Tryz.f40, Tryz.func40, by kernel_rfl, by kernel_rfl, by kernel_rfl, by kernel_rfl⟩
/-! concord/cmd.Right -/
def e41r0 : EE := .x 0 (.box 33) [.s 0] none [] <|
 .out [(1, .r 0)]
def e41r1 : EE := .q 0 (.lda 7) [.s 1] none <|
 .q 1 (.bld [z, z, z, zs, zs, zs, zs] []) [] none <|
 .q 2 (.eqc false [(.i .i64), (.i .i64), (.i .i64), .s, .s, .s, .s]) [.r 0, .r 1] none <|
 .out [(1, .s 1), (6, .r 2)]
def e41r2 : EE := .out [(2, .c (.bool true))]
def e41r3 : EE := .q 0 (.fld 0) [.s 1] none <|
 .q 1 .ld [.r 0] none <|
 .x 2 (.call 117) [.r 1, .c (.int .i64 5)] none [] <|
 .q 3 .not [.r 2] none <|
 .q 5 (.fld 1) [.s 1] (some (.r 3, false)) <|
 .q 6 .ld [.r 5] (some (.r 3, false)) <|
 .x 7 (.call 117) [.r 6, .c (.int .i64 8)] (some (.r 3, false)) [] <|
 .q 8 .not [.r 7] (some (.r 3, false)) <|
 .q 9 .pick [.r 3, .c (.bool true), .r 8] none <|
 .q 11 (.fld 2) [.s 1] (some (.r 9, false)) <|
 .q 12 .ld [.r 11] (some (.r 9, false)) <|
 .x 13 (.call 117) [.r 12, .c (.int .i64 1099511627776)] (some (.r 9, false)) [] <|
 .q 14 .not [.r 13] (some (.r 9, false)) <|
 .q 15 .pick [.r 9, .c (.bool true), .r 14] none <|
 .q 17 (.lda 7) [.s 1] (some (.r 15, false)) <|
 .q 18 (.lda 7) [.s 1] (some (.r 15, false)) <|
 .x 19 (.call 118) [.r 18] (some (.r 15, false)) [⟨17, (.lda 7), [.s 1], (some (.r 15, false))⟩] <|
 .q 20 (.eqc true [(.i .i64), (.i .i64), (.i .i64), .s, .s, .s, .s]) [.r 17, .r 19] (some (.r 15, false)) <|
 .q 21 .pick [.r 15, .c (.bool true), .r 20] none <|
 .out [(1, .s 1), (28, .r 21)]
def e41r4 : EE := .out [(2, .c (.bool false))]
def e41r5 : EE := .q 0 (.fld 3) [.s 1] none <|
 .q 1 .ld [.r 0] none <|
 .q 2 .lenz [.r 1] none <|
 .q 3 .gtr [.r 2, .c (.int .i64 16)] none <|
 .q 5 (.fld 4) [.s 1] (some (.r 3, false)) <|
 .q 6 .ld [.r 5] (some (.r 3, false)) <|
 .q 7 .lenz [.r 6] (some (.r 3, false)) <|
 .q 8 .gtr [.r 7, .c (.int .i64 16)] (some (.r 3, false)) <|
 .q 9 .pick [.r 3, .c (.bool true), .r 8] none <|
 .q 11 (.fld 5) [.s 1] (some (.r 9, false)) <|
 .q 12 .ld [.r 11] (some (.r 9, false)) <|
 .q 13 .lenz [.r 12] (some (.r 9, false)) <|
 .q 14 .gtr [.r 13, .c (.int .i64 64)] (some (.r 9, false)) <|
 .q 15 .pick [.r 9, .c (.bool true), .r 14] none <|
 .q 17 (.fld 6) [.s 1] (some (.r 15, false)) <|
 .q 18 .ld [.r 17] (some (.r 15, false)) <|
 .q 19 .lenz [.r 18] (some (.r 15, false)) <|
 .q 20 .gtr [.r 19, .c (.int .i64 64)] (some (.r 15, false)) <|
 .q 21 .pick [.r 15, .c (.bool true), .r 20] none <|
 .out [(1, .s 1), (3, .r 21)]
def e41r6 : EE := .q 1 .not [.s 3] none <|
 .q 3 (.fld 3) [.s 1] (some (.r 1, true)) <|
 .q 4 .ld [.r 3] (some (.r 1, true)) <|
 .q 5 .sneq [.r 4, .c zs] (some (.r 1, true)) <|
 .q 6 .mv [.r 5] (some (.r 1, true)) <|
 .q 7 (.fld 0) [.s 1] (some (.r 6, false)) <|
 .q 8 .ld [.r 7] (some (.r 6, false)) <|
 .q 9 .eql [.r 8, .c (.int .i64 5)] (some (.r 6, false)) <|
 .q 10 .pick [.r 6, .c (.bool true), .r 9] (some (.r 1, true)) <|
 .q 11 .pick [.r 1, .r 10, .c (.bool false)] none <|
 .out [(2, .r 11)]
def e41 : EFn := ⟨(.seq (.reg e41r0 [0] 0) (.seq (.seq (.reg e41r1 [1] 0) (.cond (.s 6) (.seq (.reg e41r2 [] 0) .ret) .skip)) (.seq (.seq (.reg e41r3 [1] 0) (.cond (.s 28) (.seq (.reg e41r4 [] 0) .ret) .skip)) (.seq (.reg e41r5 [1] 0) (.seq (.reg e41r6 [1, 3] 0) .ret))))), [.slot 2], 63, 0⟩
theorem g41 : Good Tryz.prog 41 e41 := ⟨Tryz.f41, Tryz.func41, by kernel_rfl, by kernel_rfl, by kernel_rfl, by kernel_rfl⟩
/-! (*concord/node.Node).way -/
def e42r0 : EE := .x 0 (.box 40) [.s 1] none [] <|
 .out [(0, .s 0), (3, .r 0)]
def e42r1 : EE := .q 1 .nl [.s 0] none <|
 .q 2 (.fld 4) [.r 1] none <|
 .q 3 .ld [.r 2] none <|
 .x 4 (.call 119) [.r 3] none [] <|
 .q 5 .len [.r 4] none <|
 .out [(0, .s 0), (3, .s 3), (13, .r 4), (14, .r 5), (15, .c z)]
def e42r2 : EE := .q 0 .lss [.s 15, .s 14] none <|
 .out [(0, .s 0), (3, .s 3), (13, .s 13), (14, .s 14), (15, .s 15), (16, .r 0)]
def e42r3 : EE := .q 0 (.ixs 2) [.s 13, .s 15] none <|
 .q 1 (.lda 2) [.r 0] none <|
 .x 2 (.alc [z, z] 40) [] none [] <|
 .x 3 (.st 2) [.r 2, .r 1] none [] <|
 .out [(0, .s 0), (3, .s 3), (6, .r 2), (13, .s 13), (14, .s 14), (15, .s 15)]
def e42r4 : EE := .q 1 .nl [.s 0] none <|
 .q 2 (.fld 4) [.r 1] none <|
 .q 3 .ld [.r 2] none <|
 .q 4 (.lda 2) [.s 6] none <|
 .both false
 (.x 5 (.call 120) [.r 3, .r 4] none [] <|
 .q 7 (.ext 0) [.r 5] none <|
 .q 8 (.ext 1) [.r 5] none <|
 .x 9 (.alc [z, z, z, z, z, z, z, z, zs, zs, zs, zs, z, z, z, z, z, z, z, z, (.bool false)] 48) [] none [⟨3, .ld, [.r 2], none⟩, ⟨4, (.lda 2), [.s 6], none⟩] <|
 .x 10 (.st 21) [.r 9, .r 7] none [] <|
 .out [(0, .s 0), (3, .s 3), (6, .s 6), (7, .r 9), (13, .s 13), (14, .s 14), (15, .s 15)])
 (.x 9 (.alc [z, z, z, z, z, z, z, z, zs, zs, zs, zs, z, z, z, z, z, z, z, z, (.bool false)] 48) [] none [⟨3, .ld, [.r 2], none⟩, ⟨4, (.lda 2), [.s 6], none⟩] <|
 .x 5 (.call 120) [.r 3, .r 4] none [] <|
 .q 7 (.ext 0) [.r 5] none <|
 .q 8 (.ext 1) [.r 5] none <|
 .x 10 (.st 21) [.r 9, .r 7] none [] <|
 .out [(0, .s 0), (3, .s 3), (6, .s 6), (7, .r 9), (13, .s 13), (14, .s 14), (15, .s 15)])
def e42r5 : EE := .q 0 (.fld 0) [.s 6] none <|
 .q 1 .ld [.r 0] none <|
 .q 3 .nl [.s 0] none <|
 .q 4 (.fld 1) [.r 3] none <|
 .q 5 .ld [.r 4] none <|
 .q 6 .eql [.r 1, .r 5] none <|
 .q 8 (.fld 1) [.s 6] (some (.r 6, true)) <|
 .q 9 .ld [.r 8] (some (.r 6, true)) <|
 .q 10 .mv [.s 0] (some (.r 6, true)) <|
 .q 11 .mv [.s 0] (some (.r 6, true)) <|
 .q 12 .nl [.r 11] (some (.r 6, true)) <|
 .q 13 (.fld 1) [.r 12] (some (.r 6, true)) <|
 .q 14 .ld [.r 13] (some (.r 6, true)) <|
 .q 15 .nl [.r 10] (some (.r 6, true)) <|
 .q 16 (.fld 55) [.r 15] (some (.r 6, true)) <|
 .q 17 (.ixa 7 1) [.r 16, .r 14] (some (.r 6, true)) <|
 .q 18 .ld [.r 17] (some (.r 6, true)) <|
 .q 19 .gtr [.r 9, .r 18] (some (.r 6, true)) <|
 .q 20 .pick [.r 6, .r 19, .c (.bool false)] none <|
 .q 22 (.fld 5) [.s 7] (some (.r 20, true)) <|
 .q 23 (.fld 1) [.r 22] (some (.r 20, true)) <|
 .q 24 .ld [.r 23] (some (.r 20, true)) <|
 .q 25 (.fld 0) [.s 3] (some (.r 20, true)) <|
 .q 26 .ld [.r 25] (some (.r 20, true)) <|
 .q 27 .eql [.r 24, .r 26] (some (.r 20, true)) <|
 .q 28 .pick [.r 20, .r 27, .c (.bool false)] none <|
 .q 30 (.fld 5) [.s 7] (some (.r 28, true)) <|
 .q 31 (.fld 2) [.r 30] (some (.r 28, true)) <|
 .q 32 .ld [.r 31] (some (.r 28, true)) <|
 .q 33 (.fld 1) [.s 3] (some (.r 28, true)) <|
 .q 34 .ld [.r 33] (some (.r 28, true)) <|
 .q 35 .eql [.r 32, .r 34] (some (.r 28, true)) <|
 .q 36 .pick [.r 28, .r 35, .c (.bool false)] none <|
 .out [(0, .s 0), (3, .s 3), (13, .s 13), (14, .s 14), (15, .s 15), (64, .r 36)]
def e42r6 : EE := .out [(4, .c (.bool true))]
def e42r7 : EE := .q 0 .add [.s 15, .c (.int .i64 1)] none <|
 .out [(0, .s 0), (3, .s 3), (13, .s 13), (14, .s 14), (15, .r 0)]
def e42l8 : EC := (.seq (.reg e42r2 [0, 3, 13, 14, 15] 0) (.seq (.cond (.s 16) .skip (.exit 0)) (.seq (.block 1 (.seq (.reg e42r3 [0, 3, 13, 14, 15] 0) (.seq (.reg e42r4 [0, 3, 6, 13, 14, 15] 11) (.seq (.reg e42r5 [0, 3, 6, 7, 13, 14, 15] 0) (.cond (.s 64) (.seq (.reg e42r6 [] 0) .ret) .skip))))) (.reg e42r7 [0, 3, 13, 14, 15] 0))))
def e42r9 : EE := .out [(4, .c (.bool false))]
def e42 : EFn := ⟨(.seq (.reg e42r0 [0, 1] 0) (.seq (.seq (.reg e42r1 [0, 3] 0) (.block 0 (.loop [0, 3, 13, 14, 15] e42l8))) (.seq (.reg e42r9 [] 0) .ret))), [.slot 4], 66, 0⟩
theorem g42 : Good Tryz.prog 42 e42 := ⟨Tryz.f42, Tryz.func42, by kernel_rfl, by kernel_rfl, by kernel_rfl, by kernel_rfl⟩
/-! (*concord/core.Core).Propose -/
def e43r0 : EE := .x 0 (.box 33) [.s 1] none [] <|
 .x 1 (.alc [z, z] 40) [] none [] <|
 .out [(0, .s 0), (3, .r 0), (4, .r 1)]
def e43r1 : EE := .q 1 .nl [.s 0] none <|
 .q 2 (.fld 1) [.r 1] none <|
 .q 3 .ld [.r 2] none <|
 .q 5 .nl [.s 0] none <|
 .q 6 (.fld 2) [.r 5] none <|
 .q 7 .ld [.r 6] none <|
 .q 10 .nl [.s 0] none <|
 .q 11 (.fld 1) [.r 10] none <|
 .q 12 .ld [.r 11] none <|
 .both false
 (.x 8 (.call 121) [.r 7] none [⟨3, .ld, [.r 2], none⟩, ⟨12, .ld, [.r 11], none⟩] <|
 .q 13 (.idx 7 1) [.r 8, .r 12] none <|
 .q 14 .add [.r 13, .c (.int .i64 1)] none <|
 .q 15 (.bld [z, z] [(0, 1), (1, 1)]) [.r 3, .r 14] none <|
 .x 16 (.alc [z, z] 40) [] none [⟨3, .ld, [.r 2], none⟩, ⟨7, .ld, [.r 6], none⟩, ⟨12, .ld, [.r 11], none⟩] <|
 .x 17 (.st 2) [.r 16, .r 15] none [] <|
 .out [(0, .s 0), (3, .s 3), (4, .s 4), (6, .r 16)])
 (.x 16 (.alc [z, z] 40) [] none [⟨3, .ld, [.r 2], none⟩, ⟨7, .ld, [.r 6], none⟩, ⟨12, .ld, [.r 11], none⟩] <|
 .x 8 (.call 121) [.r 7] none [⟨3, .ld, [.r 2], none⟩, ⟨12, .ld, [.r 11], none⟩] <|
 .q 13 (.idx 7 1) [.r 8, .r 12] none <|
 .q 14 .add [.r 13, .c (.int .i64 1)] none <|
 .q 15 (.bld [z, z] [(0, 1), (1, 1)]) [.r 3, .r 14] none <|
 .x 17 (.st 2) [.r 16, .r 15] none [] <|
 .out [(0, .s 0), (3, .s 3), (4, .s 4), (6, .r 16)])
def e43r2 : EE := .q 0 (.lda 7) [.s 3] none <|
 .x 1 (.call 41) [.r 0] none [] <|
 .q 2 .not [.r 1] none <|
 .q 4 (.fld 0) [.s 3] (some (.r 2, false)) <|
 .q 5 .ld [.r 4] (some (.r 2, false)) <|
 .q 6 .eql [.r 5, .c z] (some (.r 2, false)) <|
 .q 7 .pick [.r 2, .c (.bool true), .r 6] none <|
 .q 9 (.fld 1) [.s 6] (some (.r 7, false)) <|
 .q 10 .ld [.r 9] (some (.r 7, false)) <|
 .q 11 .gtr [.r 10, .c (.int .i64 1073741824)] (some (.r 7, false)) <|
 .q 12 .pick [.r 7, .c (.bool true), .r 11] none <|
 .q 14 .mv [.s 0] (some (.r 12, false)) <|
 .q 15 .nl [.r 14] (some (.r 12, false)) <|
 .q 16 (.fld 4) [.r 15] (some (.r 12, false)) <|
 .q 17 .ld [.r 16] (some (.r 12, false)) <|
 .q 18 .len [.r 17] (some (.r 12, false)) <|
 .q 19 .geq [.r 18, .c (.int .i64 256)] (some (.r 12, false)) <|
 .q 20 .pick [.r 12, .c (.bool true), .r 19] none <|
 .out [(0, .s 0), (3, .s 3), (4, .s 4), (6, .s 6), (44, .r 20)]
def e43r3 : EE := .q 0 (.bld [z, z] []) [] none <|
 .x 1 (.st 2) [.s 4, .r 0] none [] <|
 .out [(4, .s 4), (5, .c (.bool false))]
def e43r4 : EE := .q 1 .nl [.s 0] none <|
 .q 2 (.fld 3) [.r 1] none <|
 .q 3 .ld [.r 2] none <|
 .q 4 (.lda 2) [.s 6] none <|
 .q 5 (.lda 7) [.s 3] none <|
 .both false
 (.x 6 (.call 122) [.r 3, .r 4, .r 5] none [] <|
 .x 7 (.alc [z, z, z, z, z, z, z, z] 46) [] none [⟨3, .ld, [.r 2], none⟩, ⟨4, (.lda 2), [.s 6], none⟩, ⟨5, (.lda 7), [.s 3], none⟩] <|
 .x 8 (.st 8) [.r 7, .r 6] none [] <|
 .out [(0, .s 0), (3, .s 3), (4, .s 4), (6, .s 6), (7, .r 7)])
 (.x 7 (.alc [z, z, z, z, z, z, z, z] 46) [] none [⟨3, .ld, [.r 2], none⟩, ⟨4, (.lda 2), [.s 6], none⟩, ⟨5, (.lda 7), [.s 3], none⟩] <|
 .x 6 (.call 122) [.r 3, .r 4, .r 5] none [] <|
 .x 8 (.st 8) [.r 7, .r 6] none [] <|
 .out [(0, .s 0), (3, .s 3), (4, .s 4), (6, .s 6), (7, .r 7)])
def e43r5 : EE := .q 0 (.lda 8) [.s 7] none <|
 .x 1 (.call 100) [.r 0] none [] <|
 .q 2 .not [.r 1] none <|
 .out [(0, .s 0), (3, .s 3), (4, .s 4), (6, .s 6), (7, .s 7), (55, .r 2)]
def e43r6 : EE := .q 0 (.bld [z, z] []) [] none <|
 .x 1 (.st 2) [.s 4, .r 0] none [] <|
 .out [(4, .s 4), (5, .c (.bool false))]
def e43r7 : EE := .q 1 (.lda 2) [.s 6] none <|
 .q 2 (.lda 7) [.s 3] none <|
 .q 3 (.lda 8) [.s 7] none <|
 .q 4 (.bld [z, z, z, z, z, z, z, z, zs, zs, zs, zs, z, z, z, z, z, z, z, z, (.bool false)] [(0, 1), (5, 7), (12, 8), (20, 1)]) [.c (.int .i64 1), .r 2, .r 3, .c (.bool true)] none <|
 .x 5 (.call 123) [.s 0, .r 1, .r 4] none [] <|
 .out [(0, .s 0), (3, .s 3), (4, .s 4), (6, .s 6), (7, .s 7)]
def e43r8 : EE := .q 1 (.lda 2) [.s 6] none <|
 .q 2 (.lda 7) [.s 3] none <|
 .q 3 (.lda 8) [.s 7] none <|
 .q 4 (.bld [z, z, z, z, z, (.bool false), z, z, z, zs, zs, zs, zs, z, z, z, z, z, z, z, z, z, z, z, z, z, z, z, .nsl, .nsl, z, z] [(0, 2), (2, 1), (5, 1), (6, 7), (13, 8)]) [.r 1, .c z, .c (.bool true), .r 2, .r 3] none <|
 .x 5 (.box 229) [.r 4] none [] <|
 .x 6 (.call 124) [.s 0, .r 5] none [] <|
 .out [(4, .s 4), (6, .s 6)]
def e43r9 : EE := .q 0 (.lda 2) [.s 6] none <|
 .x 1 (.st 2) [.s 4, .r 0] none [] <|
 .out [(4, .s 4), (5, .c (.bool true))]
def e43 : EFn := ⟨(.seq (.reg e43r0 [0, 1] 0) (.seq (.reg e43r1 [0, 3, 4] 18) (.seq (.seq (.reg e43r2 [0, 3, 4, 6] 0) (.cond (.s 44) (.seq (.reg e43r3 [4] 0) .ret) .skip)) (.seq (.reg e43r4 [0, 3, 4, 6] 9) (.seq (.seq (.reg e43r5 [0, 3, 4, 6, 7] 0) (.cond (.s 55) (.seq (.reg e43r6 [4] 0) .ret) .skip)) (.seq (.reg e43r7 [0, 3, 4, 6, 7] 0) (.seq (.reg e43r8 [0, 3, 4, 6, 7] 0) (.seq (.reg e43r9 [4, 6] 0) .ret)))))))), [.cells 4 2, .slot 5], 71, 0⟩
theorem g43 : Good Tryz.prog 43 e43 := ⟨Tryz.f43, Tryz.func43, by kernel_rfl, by kernel_rfl, by kernel_rfl, by kernel_rfl⟩
/-! slices.Contains[[]concord/api.Inst,concord/api.Inst] -/
def e44r0 : EE := .x 0 (.box 40) [.s 1] none [] <|
 .out [(0, .s 0), (3, .r 0)]
def e44r1 : EE := .q 1 (.lda 2) [.s 3] none <|
 .x 2 (.call 125) [.s 0, .r 1] none [] <|
 .q 3 .geq [.r 2, .c z] none <|
 .out [(4, .r 3)]
def e44 : EFn := ⟨(.seq (.reg e44r0 [0, 1] 0) (.seq (.reg e44r1 [0, 3] 0) .ret)), [.slot 4], 9, 0⟩
theorem g44 : Good Tryz.prog 44 e44 := ⟨Tryz.f44, Tryz.func44, by kernel_rfl, by kernel_rfl, by kernel_rfl, by kernel_rfl⟩
/-! concord/letter.Right -/
def e45r0 : EE := .x 0 (.box 50) [.s 0] none [] <|
 .out [(1, .r 0)]
def e45r1 : EE := .q 0 (.fld 0) [.s 1] none <|
 .q 1 .ld [.r 0] none <|
 .x 2 (.call 126) [.r 1] none [] <|
 .q 4 (.ext 0) [.r 2] none <|
 .q 5 (.ext 1) [.r 2] none <|
 .x 6 (.alc [(.bool false), (.bool false), (.bool false), (.bool false), (.bool false), (.bool false), (.bool false)] 232) [] none [] <|
 .x 7 (.st 7) [.r 6, .r 4] none [] <|
 .out [(1, .s 1), (3, .r 6), (4, .r 5)]
def e45r2 : EE := .q 1 .not [.s 4] none <|
 .q 3 (.fld 1) [.s 1] (some (.r 1, false)) <|
 .q 4 .ld [.r 3] (some (.r 1, false)) <|
 .x 5 (.call 127) [.r 4] (some (.r 1, false)) [] <|
 .q 6 .not [.r 5] (some (.r 1, false)) <|
 .q 7 .pick [.r 1, .c (.bool true), .r 6] none <|
 .q 9 (.fld 2) [.s 1] (some (.r 7, false)) <|
 .q 10 .ld [.r 9] (some (.r 7, false)) <|
 .x 11 (.call 127) [.r 10] (some (.r 7, false)) [] <|
 .q 12 .not [.r 11] (some (.r 7, false)) <|
 .q 13 .pick [.r 7, .c (.bool true), .r 12] none <|
 .q 15 (.fld 1) [.s 1] (some (.r 13, false)) <|
 .q 16 .ld [.r 15] (some (.r 13, false)) <|
 .q 17 (.fld 2) [.s 1] (some (.r 13, false)) <|
 .q 18 .ld [.r 17] (some (.r 13, false)) <|
 .q 19 .eql [.r 16, .r 18] (some (.r 13, false)) <|
 .q 20 .pick [.r 13, .c (.bool true), .r 19] none <|
 .q 22 (.lda 51) [.s 1] (some (.r 20, false)) <|
 .q 23 (.lda 51) [.s 1] (some (.r 20, false)) <|
 .q 24 (.lda 7) [.s 3] (some (.r 20, false)) <|
 .x 25 (.call 128) [.r 23, .r 24] (some (.r 20, false)) [⟨22, (.lda 51), [.s 1], (some (.r 20, false))⟩] <|
 .q 26 (.eqc true [(.i .i64), (.i .i64), (.i .i64), (.i .i64), (.i .i64), (.i .i64), (.i .i64), (.i .i64), (.i .i64), (.i .i64), .s, .s, .s, .s, (.i .i64), (.i .i64), (.i .i64), (.i .i64), (.i .i64), (.i .i64), (.i .i64), (.i .i64), (.i .i64), (.i .i64), (.i .i64), (.i .i64), (.i .i64), (.i .i64), (.i .i64), (.i .i64), .s, .s, .s, .s, (.i .i64), (.i .i64), (.i .i64), (.i .i64), (.i .i64), (.i .i64), (.i .i64), (.i .i64), .b, (.i .i64), (.i .i64), (.i .i64), (.i .i64), (.i .i64), (.i .i64), (.i .i64), .s]) [.r 22, .r 25] (some (.r 20, false)) <|
 .q 27 .pick [.r 20, .c (.bool true), .r 26] none <|
 .out [(1, .s 1), (3, .s 3), (38, .r 27)]
def e45r3 : EE := .out [(2, .c (.bool false))]
def e45r4 : EE := .q 0 (.fld 0) [.s 3] none <|
 .q 1 .ld [.r 0] none <|
 .q 3 (.fld 3) [.s 1] (some (.r 1, true)) <|
 .q 4 (.lda 2) [.r 3] (some (.r 1, true)) <|
 .x 5 (.call 129) [.r 4] (some (.r 1, true)) [] <|
 .q 6 .not [.r 5] (some (.r 1, true)) <|
 .q 7 .pick [.r 1, .r 6, .c (.bool false)] none <|
 .q 9 (.fld 5) [.s 1] (some (.r 7, false)) <|
 .q 10 (.lda 2) [.r 9] (some (.r 7, false)) <|
 .x 11 (.call 130) [.r 10] (some (.r 7, false)) [] <|
 .q 12 .not [.r 11] (some (.r 7, false)) <|
 .q 13 .pick [.r 7, .c (.bool true), .r 12] none <|
 .q 15 (.fld 7) [.s 1] (some (.r 13, false)) <|
 .q 16 (.lda 7) [.r 15] (some (.r 13, false)) <|
 .x 17 (.call 41) [.r 16] (some (.r 13, false)) [] <|
 .q 18 .not [.r 17] (some (.r 13, false)) <|
 .q 19 .pick [.r 13, .c (.bool true), .r 18] none <|
 .q 21 (.fld 14) [.s 1] (some (.r 19, false)) <|
 .q 22 (.lda 8) [.r 21] (some (.r 19, false)) <|
 .x 23 (.call 100) [.r 22] (some (.r 19, false)) [] <|
 .q 24 .not [.r 23] (some (.r 19, false)) <|
 .q 25 .pick [.r 19, .c (.bool true), .r 24] none <|
 .q 27 (.fld 22) [.s 1] (some (.r 25, false)) <|
 .q 28 (.lda 21) [.r 27] (some (.r 25, false)) <|
 .x 29 (.call 131) [.r 28] (some (.r 25, false)) [] <|
 .q 30 .not [.r 29] (some (.r 25, false)) <|
 .q 31 .pick [.r 25, .c (.bool true), .r 30] none <|
 .out [(1, .s 1), (70, .r 31)]
def e45r5 : EE := .out [(2, .c (.bool false))]
def e45r6 : EE := .q 0 (.fld 43) [.s 1] none <|
 .q 1 (.lda 7) [.r 0] none <|
 .q 2 (.bld [z, z, z, z, z, z, z, z] [(1, 7)]) [.r 1] none <|
 .x 3 (.call 100) [.r 2] none [] <|
 .q 5 (.fld 50) [.s 1] (some (.r 3, true)) <|
 .q 6 .ld [.r 5] (some (.r 3, true)) <|
 .q 7 .lenz [.r 6] (some (.r 3, true)) <|
 .q 8 .leq [.r 7, .c (.int .i64 16384)] (some (.r 3, true)) <|
 .q 9 .pick [.r 3, .r 8, .c (.bool false)] none <|
 .out [(2, .r 9)]
def e45 : EFn := ⟨(.seq (.reg e45r0 [0] 0) (.seq (.reg e45r1 [1] 0) (.seq (.seq (.reg e45r2 [1, 3, 4] 0) (.cond (.s 38) (.seq (.reg e45r3 [] 0) .ret) .skip)) (.seq (.seq (.reg e45r4 [1, 3] 0) (.cond (.s 70) (.seq (.reg e45r5 [] 0) .ret) .skip)) (.seq (.reg e45r6 [1] 0) .ret))))), [.slot 2], 81, 0⟩
theorem g45 : Good Tryz.prog 45 e45 := ⟨Tryz.f45, Tryz.func45, by kernel_rfl, by kernel_rfl, by kernel_rfl, by kernel_rfl⟩
end Go.Ev
