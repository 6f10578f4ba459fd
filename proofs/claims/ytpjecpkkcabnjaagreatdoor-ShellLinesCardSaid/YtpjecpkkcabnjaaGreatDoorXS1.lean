import Derived.Test.YtpjecpkkcabnjaaGreatDoorEvB
import Derived.Test.YtpjecpkkcabnjaaGreatDoorProg
set_option linter.unusedVariables false
set_option linter.unusedSimpArgs false
namespace Go.Ev
open Go.Fw Go.Proofs
/-! concord/node.New -/
def e51r0 : EE := .out [(0, .s 0), (1, .s 1), (2, .s 2)]
def e51r1 : EE := .x 1 (.call 86) [.s 0] none [] <|
 .q 2 .not [.r 1] none <|
 .q 4 .mv [.s 1] (some (.r 2, false)) <|
 .q 5 .lss [.r 4, .c z] (some (.r 2, false)) <|
 .q 6 .pick [.r 2, .c (.bool true), .r 5] none <|
 .q 8 .mv [.s 1] (some (.r 6, false)) <|
 .q 9 .mv [.s 0] (some (.r 6, false)) <|
 .q 10 .geq [.r 8, .r 9] (some (.r 6, false)) <|
 .q 11 .pick [.r 6, .c (.bool true), .r 10] none <|
 .q 13 .mv [.s 2] (some (.r 11, false)) <|
 .q 14 (.eqp false) [.r 13, .c .nptr] (some (.r 11, false)) <|
 .q 15 .pick [.r 11, .c (.bool true), .r 14] none <|
 .out [(0, .s 0), (1, .s 1), (2, .s 2), (37, .r 15)]
def e51r2 : EE := .out [(6, .c .nptr), (7, .c (.int .i64 1))]
def e51r3 : EE := .q 3 (.bld [z, z, .nptr, .nptr, .nptr, .nptr, .nsl, z, z, (.bool false), zs, z, .nsl, z, z, (.bool false), zs, z, .nsl, z, z, (.bool false), zs, z, .nsl, z, z, (.bool false), zs, z, .nsl, z, z, (.bool false), zs, z, .nsl, z, z, (.bool false), zs, z, .nsl, z, z, (.bool false), zs, z, .nsl, z, z, (.bool false), zs, z, .nsl, z, z, z, z, z, z, z, z, z, z, z, z, z, z, z, z, .nsl, .nsl, .nsl, (.bool false)] [(0, 1), (1, 1), (2, 1)]) [.s 0, .s 1, .s 2] none <|
 .x 4 (.box 168) [.r 3] none [] <|
 .out [(0, .s 0), (1, .s 1), (2, .s 2), (8, .r 4)]
def e51r4 : EE := .x 3 (.call 87) [.s 0, .s 1] none [] <|
 .q 5 (.ext 0) [.r 3] none <|
 .q 6 (.ext 1) [.r 3] none <|
 .q 7 .nl [.s 8] none <|
 .q 8 (.fld 5) [.r 7] none <|
 .x 9 (.st 1) [.r 8, .r 5] none [] <|
 .out [(0, .s 0), (1, .s 1), (2, .s 2), (8, .s 8)]
def e51r5 : EE := .x 1 (.call 88) [.s 8] none [] <|
 .out [(0, .s 0), (1, .s 1), (2, .s 2), (8, .s 8), (9, .r 1)]
def e51r6 : EE := .q 1 .neq [.s 9, .c z] none <|
 .out [(0, .s 0), (1, .s 1), (2, .s 2), (8, .s 8), (9, .s 9), (55, .r 1)]
def e51r7 : EE := .out [(6, .c .nptr), (7, .s 9)]
def e51r8 : EE := .x 1 (.call 89) [.s 2] none [] <|
 .q 3 (.ext 0) [.r 1] none <|
 .q 4 (.ext 1) [.r 1] none <|
 .q 5 (.ext 2) [.r 1] none <|
 .out [(0, .s 0), (1, .s 1), (8, .s 8), (10, .r 3), (11, .r 4), (12, .r 5)]
def e51r9 : EE := .q 1 .neq [.s 12, .c z] none <|
 .out [(0, .s 0), (1, .s 1), (8, .s 8), (10, .s 10), (11, .s 11), (12, .s 12), (64, .r 1)]
def e51r10 : EE := .out [(6, .c .nptr), (7, .s 12)]
def e51r11 : EE := .q 2 .nl [.s 8] none <|
 .q 3 (.fld 3) [.r 2] none <|
 .x 4 (.st 1) [.r 3, .s 10] none [] <|
 .out [(0, .s 0), (1, .s 1), (8, .s 8), (10, .s 10), (11, .s 11)]
def e51r12 : EE := .x 0 (.alc [z, z, z, z, z, z, z] 133) [] none [] <|
 .out [(0, .s 0), (1, .s 1), (8, .s 8), (10, .s 10), (11, .s 11), (13, .r 0)]
def e51r13 : EE := .out [(0, .s 0), (1, .s 1), (8, .s 8), (10, .s 10), (11, .s 11), (13, .s 13), (14, .c .nsl)]
def e51r14 : EE := .q 1 .len [.s 11] none <|
 .out [(0, .s 0), (1, .s 1), (8, .s 8), (10, .s 10), (13, .s 13), (14, .s 14), (70, .s 11), (71, .r 1), (72, .c z)]
def e51r15 : EE := .q 0 .lss [.s 72, .s 71] none <|
 .out [(0, .s 0), (1, .s 1), (8, .s 8), (10, .s 10), (13, .s 13), (14, .s 14), (70, .s 70), (71, .s 71), (72, .s 72), (73, .r 0)]
def e51r16 : EE := .q 0 (.ixs 1) [.s 70, .s 72] none <|
 .q 1 .ld [.r 0] none <|
 .out [(0, .s 0), (1, .s 1), (8, .s 8), (10, .s 10), (13, .s 13), (14, .s 14), (16, .r 1), (70, .s 70), (71, .s 71), (72, .s 72)]
def e51r17 : EE := .x 1 (.call 90) [.s 16] none [] <|
 .q 3 (.ext 0) [.r 1] none <|
 .q 4 (.ext 1) [.r 1] none <|
 .x 5 (.alc [z, z, z, z, z, z, z] 133) [] none [] <|
 .x 6 (.st 7) [.r 5, .r 3] none [] <|
 .out [(0, .s 0), (1, .s 1), (8, .s 8), (10, .s 10), (13, .s 13), (14, .s 14), (16, .s 16), (17, .r 5), (18, .r 4), (70, .s 70), (71, .s 71), (72, .s 72)]
def e51r18 : EE := .out [(0, .s 0), (1, .s 1), (8, .s 8), (10, .s 10), (13, .s 13), (14, .s 14), (16, .s 16), (17, .s 17), (70, .s 70), (71, .s 71), (72, .s 72), (81, .s 18)]
def e51r19 : EE := .q 0 (.lda 7) [.s 17] none <|
 .x 1 (.st 7) [.s 13, .r 0] none [] <|
 .out [(0, .s 0), (1, .s 1), (8, .s 8), (10, .s 10), (13, .s 13), (14, .s 14), (70, .s 70), (71, .s 71), (72, .s 72)]
def e51r20 : EE := .q 1 .len [.s 16] none <|
 .q 2 .gtr [.r 1, .c z] none <|
 .q 4 .mv [.s 16] (some (.r 2, true)) <|
 .q 5 (.ixs 1) [.r 4, .c z] (some (.r 2, true)) <|
 .q 6 .ld [.r 5] (some (.r 2, true)) <|
 .q 7 .eql [.r 6, .c (.int .u8 2)] (some (.r 2, true)) <|
 .q 8 .pick [.r 2, .r 7, .c (.bool false)] none <|
 .out [(0, .s 0), (1, .s 1), (8, .s 8), (10, .s 10), (13, .s 13), (14, .s 14), (16, .s 16), (70, .s 70), (71, .s 71), (72, .s 72), (91, .r 8)]
def e51r21 : EE := .q 2 (.slc 1 true false) [.s 16, .c (.int .i64 1)] none <|
 .x 3 (.bsl 60 1 [.nsl] [(0, 1)]) [.r 2] none [] <|
 .x 4 (.app 60 1 24 [.nsl]) [.s 14, .r 3] none [] <|
 .out [(0, .s 0), (1, .s 1), (8, .s 8), (10, .s 10), (13, .s 13), (14, .r 4), (70, .s 70), (71, .s 71), (72, .s 72)]
def e51r22 : EE := .q 0 .add [.s 72, .c (.int .i64 1)] none <|
 .out [(0, .s 0), (1, .s 1), (8, .s 8), (10, .s 10), (13, .s 13), (14, .s 14), (70, .s 70), (71, .s 71), (72, .r 0)]
def e51l23 : EC := (.seq (.reg e51r15 [0, 1, 8, 10, 13, 14, 70, 71, 72] 0) (.seq (.cond (.s 73) .skip (.exit 0)) (.seq (.block 1 (.seq (.reg e51r16 [0, 1, 8, 10, 13, 14, 70, 71, 72] 0) (.seq (.reg e51r17 [0, 1, 8, 10, 13, 14, 16, 70, 71, 72] 0) (.seq (.reg e51r18 [0, 1, 8, 10, 13, 14, 16, 17, 18, 70, 71, 72] 0) (.cond (.s 81) (.reg e51r19 [0, 1, 8, 10, 13, 14, 17, 70, 71, 72] 0) (.seq (.reg e51r20 [0, 1, 8, 10, 13, 14, 16, 70, 71, 72] 0) (.cond (.s 91) (.reg e51r21 [0, 1, 8, 10, 13, 14, 16, 70, 71, 72] 0) .skip))))))) (.reg e51r22 [0, 1, 8, 10, 13, 14, 70, 71, 72] 0))))
def e51r24 : EE := .q 3 (.lda 7) [.s 13] none <|
 .x 5 (.call 91) [.s 0, .s 1, .r 3, .s 14] none [] <|
 .q 7 (.ext 0) [.r 5] none <|
 .q 8 (.ext 1) [.r 5] none <|
 .q 9 .nl [.s 8] none <|
 .q 10 (.fld 4) [.r 9] none <|
 .x 11 (.st 1) [.r 10, .r 7] none [] <|
 .out [(1, .s 1), (8, .s 8), (10, .s 10), (12, .r 8), (13, .s 13)]
def e51r25 : EE := .q 1 .neq [.s 12, .c z] none <|
 .out [(1, .s 1), (8, .s 8), (10, .s 10), (12, .s 12), (13, .s 13), (110, .r 1)]
def e51r26 : EE := .out [(6, .c .nptr), (7, .s 12)]
def e51r27 : EE := .x 1 (.call 92) [.s 10] none [] <|
 .q 3 (.ext 0) [.r 1] none <|
 .q 4 (.ext 1) [.r 1] none <|
 .out [(1, .s 1), (8, .s 8), (10, .s 10), (13, .s 13), (19, .r 3)]
def e51r28 : EE := .q 1 .eql [.s 19, .c z] none <|
 .out [(1, .s 1), (8, .s 8), (10, .s 10), (13, .s 13), (118, .r 1)]
def e51r29 : EE := .q 1 (.lda 7) [.s 13] none <|
 .x 2 (.call 94) [.r 1] none [] <|
 .x 3 (.bsl 60 1 [.nsl] [(0, 1)]) [.r 2] none [] <|
 .x 4 (.call 93) [.s 10, .r 3] none [] <|
 .out [(1, .s 1), (8, .s 8), (21, .r 4)]
def e51r30 : EE := .q 1 .neq [.s 21, .c z] none <|
 .out [(1, .s 1), (8, .s 8), (21, .s 21), (125, .r 1)]
def e51r31 : EE := .out [(6, .c .nptr), (7, .s 21)]
def e51r32 : EE := .q 1 .nl [.s 8] none <|
 .q 2 (.fld 5) [.r 1] none <|
 .q 3 .ld [.r 2] none <|
 .q 6 .nl [.s 8] none <|
 .q 7 (.fld 62) [.r 6] none <|
 .q 8 (.lda 7) [.r 7] none <|
 .x 9 (.call 95) [.r 3, .s 1, .r 8] none [] <|
 .out [(8, .s 8)]
def e51r33 : EE := .x 1 (.call 96) [.s 8] none [] <|
 .out [(8, .s 8)]
def e51r34 : EE := .out [(6, .s 8), (7, .c z)]
def e51 : EFn := ⟨(.seq (.reg e51r0 [0, 1, 2] 0) (.seq (.seq (.reg e51r1 [0, 1, 2] 0) (.cond (.s 37) (.seq (.reg e51r2 [] 0) .ret) .skip)) (.seq (.reg e51r3 [0, 1, 2] 0) (.seq (.reg e51r4 [0, 1, 2, 8] 0) (.seq (.seq (.reg e51r5 [0, 1, 2, 8] 0) (.seq (.reg e51r6 [0, 1, 2, 8, 9] 0) (.cond (.s 55) (.seq (.reg e51r7 [9] 0) .ret) .skip))) (.seq (.reg e51r8 [0, 1, 2, 8] 0) (.seq (.seq (.reg e51r9 [0, 1, 8, 10, 11, 12] 0) (.cond (.s 64) (.seq (.reg e51r10 [12] 0) .ret) .skip)) (.seq (.reg e51r11 [0, 1, 8, 10, 11] 0) (.seq (.reg e51r12 [0, 1, 8, 10, 11] 0) (.seq (.reg e51r13 [0, 1, 8, 10, 11, 13] 0) (.seq (.seq (.reg e51r14 [0, 1, 8, 10, 11, 13, 14] 0) (.block 0 (.loop [0, 1, 8, 10, 13, 14, 70, 71, 72] e51l23))) (.seq (.seq (.reg e51r24 [0, 1, 8, 10, 13, 14] 0) (.seq (.reg e51r25 [1, 8, 10, 12, 13] 0) (.cond (.s 110) (.seq (.reg e51r26 [12] 0) .ret) .skip))) (.seq (.seq (.reg e51r27 [1, 8, 10, 13] 0) (.seq (.reg e51r28 [1, 8, 10, 13, 19] 0) (.cond (.s 118) (.seq (.reg e51r29 [1, 8, 10, 13] 0) (.seq (.reg e51r30 [1, 8, 21] 0) (.cond (.s 125) (.seq (.reg e51r31 [21] 0) .ret) .skip))) .skip))) (.seq (.reg e51r32 [1, 8] 0) (.seq (.reg e51r33 [8] 0) (.seq (.reg e51r34 [8] 0) .ret)))))))))))))))), [.slot 6, .slot 7], 140, 0⟩
theorem g51 : Good Tryz.prog 51 e51 := ⟨Tryz.f51, Tryz.func51, by kernel_rfl, by kernel_rfl, by kernel_rfl, by kernel_rfl⟩
/-! concord/client.New -/
def e52r0 : EE := .out [(0, .s 0)]
def e52r1 : EE := .q 1 .lss [.s 0, .c (.int .i64 1)] none <|
 .q 3 .mv [.s 0] (some (.r 1, false)) <|
 .q 4 .gtr [.r 3, .c (.int .i64 8)] (some (.r 1, false)) <|
 .q 5 .pick [.r 1, .c (.bool true), .r 4] none <|
 .out [(0, .s 0), (9, .r 5)]
def e52r2 : EE := .out [(2, .c .nptr), (3, .c (.int .i64 1))]
def e52r3 : EE := .q 1 (.bld [z, z, z, z, z, zs, zs, zs, zs, (.bool false), z, z] [(0, 1)]) [.s 0] none <|
 .x 2 (.box 185) [.r 1] none [] <|
 .out [(2, .r 2), (3, .c z)]
def e52 : EFn := ⟨(.seq (.reg e52r0 [0] 0) (.seq (.seq (.reg e52r1 [0] 0) (.cond (.s 9) (.seq (.reg e52r2 [] 0) .ret) .skip)) (.seq (.reg e52r3 [0] 0) .ret))), [.slot 2, .slot 3], 13, 0⟩
theorem g52 : Good Tryz.prog 52 e52 := ⟨Tryz.f52, Tryz.func52, by kernel_rfl, by kernel_rfl, by kernel_rfl, by kernel_rfl⟩
/-! (*concord/cluster.Cluster).out -/
def e53r0 : EE := .q 1 .nl [.s 0] none <|
 .q 2 (.fld 2) [.r 1] none <|
 .q 3 .ld [.r 2] none <|
 .q 5 (.ixs 1) [.r 3, .s 1] none <|
 .q 6 .ld [.r 5] none <|
 .x 7 (.call 97) [.r 6] none [] <|
 .q 9 (.ext 0) [.r 7] none <|
 .q 10 (.ext 1) [.r 7] none <|
 .out [(0, .s 0), (4, .r 9), (5, .r 10)]
def e53r1 : EE := .q 1 .len [.s 4] none <|
 .out [(0, .s 0), (5, .s 5), (21, .s 4), (22, .r 1), (23, .c z)]
def e53r2 : EE := .q 0 .lss [.s 23, .s 22] none <|
 .out [(0, .s 0), (5, .s 5), (21, .s 21), (22, .s 22), (23, .s 23), (24, .r 0)]
def e53r3 : EE := .q 0 (.ixs 51) [.s 21, .s 23] none <|
 .q 1 (.lda 51) [.r 0] none <|
 .x 2 (.alc [z, z, z, z, z, z, z, z, z, z, zs, zs, zs, zs, z, z, z, z, z, z, z, z, z, z, z, z, z, z, z, z, zs, zs, zs, zs, z, z, z, z, z, z, z, z, (.bool false), z, z, z, z, z, z, z, zs] 189) [] none [] <|
 .x 3 (.st 51) [.r 2, .r 1] none [] <|
 .out [(0, .s 0), (5, .s 5), (7, .r 2), (21, .s 21), (22, .s 22), (23, .s 23)]
def e53r4 : EE := .q 0 (.fld 2) [.s 7] none <|
 .q 1 .ld [.r 0] none <|
 .q 3 .nl [.s 0] none <|
 .q 4 (.fld 0) [.r 3] none <|
 .q 5 .ld [.r 4] none <|
 .q 6 .lss [.r 1, .r 5] none <|
 .q 8 .mv [.s 0] (some (.r 6, true)) <|
 .q 9 .nl [.r 8] (some (.r 6, true)) <|
 .q 10 (.fld 5) [.r 9] (some (.r 6, true)) <|
 .q 11 .ld [.r 10] (some (.r 6, true)) <|
 .q 12 .len [.r 11] (some (.r 6, true)) <|
 .q 13 .lss [.r 12, .c (.int .i64 4000)] (some (.r 6, true)) <|
 .q 14 .pick [.r 6, .r 13, .c (.bool false)] none <|
 .out [(0, .s 0), (5, .s 5), (7, .s 7), (21, .s 21), (22, .s 22), (23, .s 23), (41, .r 14)]
def e53r5 : EE := .q 2 .nl [.s 0] none <|
 .q 3 (.fld 5) [.r 2] none <|
 .q 4 .ld [.r 3] none <|
 .q 5 (.lda 51) [.s 7] none <|
 .x 6 (.bsl 189 1 [z, z, z, z, z, z, z, z, z, z, zs, zs, zs, zs, z, z, z, z, z, z, z, z, z, z, z, z, z, z, z, z, zs, zs, zs, zs, z, z, z, z, z, z, z, z, (.bool false), z, z, z, z, z, z, z, zs] [(0, 51)]) [.r 5] none [⟨4, .ld, [.r 3], none⟩] <|
 .x 7 (.app 189 51 480 [z, z, z, z, z, z, z, z, z, z, zs, zs, zs, zs, z, z, z, z, z, z, z, z, z, z, z, z, z, z, z, z, zs, zs, zs, zs, z, z, z, z, z, z, z, z, (.bool false), z, z, z, z, z, z, z, zs]) [.r 4, .r 6] none [] <|
 .q 8 .nl [.s 0] none <|
 .q 9 (.fld 5) [.r 8] none <|
 .x 10 (.st 1) [.r 9, .r 7] none [] <|
 .out [(0, .s 0), (5, .s 5), (21, .s 21), (22, .s 22), (23, .s 23)]
def e53r6 : EE := .q 0 .add [.s 23, .c (.int .i64 1)] none <|
 .out [(0, .s 0), (5, .s 5), (21, .s 21), (22, .s 22), (23, .r 0)]
def e53l7 : EC := (.seq (.reg e53r2 [0, 5, 21, 22, 23] 0) (.seq (.cond (.s 24) .skip (.exit 0)) (.seq (.block 1 (.seq (.reg e53r3 [0, 5, 21, 22, 23] 0) (.seq (.reg e53r4 [0, 5, 7, 21, 22, 23] 0) (.cond (.s 41) (.reg e53r5 [0, 5, 7, 21, 22, 23] 0) .skip)))) (.reg e53r6 [0, 5, 21, 22, 23] 0))))
def e53r8 : EE := .q 1 .len [.s 5] none <|
 .out [(0, .s 0), (53, .s 5), (54, .r 1), (55, .c z)]
def e53r9 : EE := .q 0 .lss [.s 55, .s 54] none <|
 .out [(0, .s 0), (53, .s 53), (54, .s 54), (55, .s 55), (56, .r 0)]
def e53r10 : EE := .q 0 (.ixs 7) [.s 53, .s 55] none <|
 .q 1 (.lda 7) [.r 0] none <|
 .x 2 (.alc [z, z, z, (.bool false), zs, z, .nsl] 191) [] none [] <|
 .x 3 (.st 7) [.r 2, .r 1] none [] <|
 .out [(0, .s 0), (9, .r 2), (53, .s 53), (54, .s 54), (55, .s 55)]
def e53r11 : EE := .q 0 (.fld 0) [.s 9] none <|
 .q 1 .ld [.r 0] none <|
 .x 2 (.call 98) [.r 1] none [] <|
 .q 4 .mv [.s 0] (some (.r 2, true)) <|
 .q 5 .nl [.r 4] (some (.r 2, true)) <|
 .q 6 (.fld 3) [.r 5] (some (.r 2, true)) <|
 .q 7 .ld [.r 6] (some (.r 2, true)) <|
 .q 8 (.fld 0) [.s 9] (some (.r 2, true)) <|
 .q 9 .ld [.r 8] (some (.r 2, true)) <|
 .q 10 .sub [.r 9, .c (.int .i64 1)] (some (.r 2, true)) <|
 .q 11 (.ixs 1) [.r 7, .r 10] (some (.r 2, true)) <|
 .q 12 .ld [.r 11] (some (.r 2, true)) <|
 .q 13 (.lda 7) [.s 9] (some (.r 2, true)) <|
 .x 14 (.call 99) [.r 12, .r 13] (some (.r 2, true)) [] <|
 .q 15 .pick [.r 2, .r 14, .c (.bool false)] none <|
 .out [(0, .s 0), (9, .s 9), (53, .s 53), (54, .s 54), (55, .s 55), (74, .r 15)]
def e53r12 : EE := .q 0 (.fld 2) [.s 9] none <|
 .q 1 (.fld 4) [.r 0] none <|
 .q 2 .ld [.r 1] none <|
 .x 3 (.call 63) [.r 2] none [] <|
 .q 4 (.fld 2) [.s 9] none <|
 .q 5 (.fld 4) [.r 4] none <|
 .x 6 (.st 1) [.r 5, .r 3] none [] <|
 .out [(0, .s 0), (9, .s 9), (53, .s 53), (54, .s 54), (55, .s 55)]
def e53r13 : EE := .q 2 .nl [.s 0] none <|
 .q 3 (.fld 6) [.r 2] none <|
 .q 4 .ld [.r 3] none <|
 .q 5 (.fld 0) [.s 9] none <|
 .q 6 .ld [.r 5] none <|
 .q 8 .nl [.s 0] none <|
 .q 9 (.fld 4) [.r 8] none <|
 .q 10 .ld [.r 9] none <|
 .q 11 (.fld 0) [.s 9] none <|
 .q 12 .ld [.r 11] none <|
 .q 13 .sub [.r 12, .c (.int .i64 1)] none <|
 .q 14 (.ixs 7) [.r 10, .r 13] none <|
 .q 15 (.lda 7) [.r 14] none <|
 .q 16 (.fld 2) [.s 9] none <|
 .q 17 (.lda 5) [.r 16] none <|
 .q 18 (.bld [z, z, z, z, z, zs, zs, zs, zs, z, (.bool false), zs, z, .nsl] [(0, 1), (1, 1), (2, 7), (9, 5)]) [.c (.int .i64 2), .r 6, .r 15, .r 17] none <|
 .x 19 (.bsl 86 1 [z, z, z, z, z, zs, zs, zs, zs, z, (.bool false), zs, z, .nsl] [(0, 14)]) [.r 18] none [⟨4, .ld, [.r 3], none⟩] <|
 .x 20 (.app 86 14 168 [z, z, z, z, z, zs, zs, zs, zs, z, (.bool false), zs, z, .nsl]) [.r 4, .r 19] none [] <|
 .q 21 .nl [.s 0] none <|
 .q 22 (.fld 6) [.r 21] none <|
 .x 23 (.st 1) [.r 22, .r 20] none [] <|
 .out [(0, .s 0), (53, .s 53), (54, .s 54), (55, .s 55)]
def e53r14 : EE := .q 0 .add [.s 55, .c (.int .i64 1)] none <|
 .out [(0, .s 0), (53, .s 53), (54, .s 54), (55, .r 0)]
def e53l15 : EC := (.seq (.reg e53r9 [0, 53, 54, 55] 0) (.seq (.cond (.s 56) .skip (.exit 2)) (.seq (.block 3 (.seq (.reg e53r10 [0, 53, 54, 55] 0) (.seq (.reg e53r11 [0, 9, 53, 54, 55] 0) (.cond (.s 74) (.seq (.reg e53r12 [0, 9, 53, 54, 55] 0) (.reg e53r13 [0, 9, 53, 54, 55] 0)) .skip)))) (.reg e53r14 [0, 53, 54, 55] 0))))
def e53 : EFn := ⟨(.seq (.reg e53r0 [0, 1] 0) (.seq (.seq (.reg e53r1 [0, 4, 5] 0) (.block 0 (.loop [0, 5, 21, 22, 23] e53l7))) (.seq (.reg e53r8 [0, 5] 0) (.block 2 (.loop [0, 53, 54, 55] e53l15))))), [], 105, 0⟩
theorem g53 : Good Tryz.prog 53 e53 := ⟨Tryz.f53, Tryz.func53, by kernel_rfl, by kernel_rfl, by kernel_rfl, by kernel_rfl⟩
/-! (*concord/cluster.Cluster).Node -/
def e58r0 : EE := .out [(0, .s 0), (1, .s 1)]
def e58r1 : EE := .q 1 .lss [.s 1, .c z] none <|
 .q 3 .mv [.s 1] (some (.r 1, false)) <|
 .q 4 .mv [.s 0] (some (.r 1, false)) <|
 .q 5 .nl [.r 4] (some (.r 1, false)) <|
 .q 6 (.fld 0) [.r 5] (some (.r 1, false)) <|
 .q 7 .ld [.r 6] (some (.r 1, false)) <|
 .q 8 .geq [.r 3, .r 7] (some (.r 1, false)) <|
 .q 9 .pick [.r 1, .c (.bool true), .r 8] none <|
 .out [(0, .s 0), (1, .s 1), (14, .r 9)]
def e58r2 : EE := .out [(4, .c .nptr)]
def e58r3 : EE := .q 1 .nl [.s 0] none <|
 .q 2 (.fld 2) [.r 1] none <|
 .q 3 .ld [.r 2] none <|
 .q 5 (.ixs 1) [.r 3, .s 1] none <|
 .q 6 .ld [.r 5] none <|
 .out [(4, .r 6)]
def e58 : EFn := ⟨(.seq (.reg e58r0 [0, 1] 0) (.seq (.seq (.reg e58r1 [0, 1] 0) (.cond (.s 14) (.seq (.reg e58r2 [] 0) .ret) .skip)) (.seq (.reg e58r3 [0, 1] 0) .ret))), [.slot 4], 22, 0⟩
theorem g58 : Good Tryz.prog 58 e58 := ⟨Tryz.f58, Tryz.func58, by kernel_rfl, by kernel_rfl, by kernel_rfl, by kernel_rfl⟩
/-! (*concord/node.Node).Tick -/
def e59r0 : EE := .q 1 .nl [.s 0] none <|
 .q 2 (.fld 74) [.r 1] none <|
 .q 3 .ld [.r 2] none <|
 .out [(0, .s 0), (6, .r 3)]
def e59r1 : EE := .q 1 .nl [.s 0] none <|
 .q 2 (.fld 4) [.r 1] none <|
 .q 3 .ld [.r 2] none <|
 .x 4 (.call 105) [.r 3] none [] <|
 .out [(0, .s 0)]
def e59r2 : EE := .q 1 .nl [.s 0] none <|
 .q 2 (.fld 70) [.r 1] none <|
 .q 3 .ld [.r 2] none <|
 .q 4 .add [.r 3, .c (.int .i64 1)] none <|
 .q 5 .nl [.s 0] none <|
 .q 6 (.fld 70) [.r 5] none <|
 .x 7 (.st 1) [.r 6, .r 4] none [] <|
 .out [(0, .s 0)]
def e59r3 : EE := .out [(0, .s 0), (2, .c z)]
def e59r4 : EE := .q 2 .nl [.s 0] none <|
 .q 3 (.fld 0) [.r 2] none <|
 .q 4 .ld [.r 3] none <|
 .q 5 .lss [.s 2, .r 4] none <|
 .q 7 .mv [.s 0] (some (.r 5, true)) <|
 .q 8 .nl [.r 7] (some (.r 5, true)) <|
 .q 9 (.fld 70) [.r 8] (some (.r 5, true)) <|
 .q 10 .ld [.r 9] (some (.r 5, true)) <|
 .q 11 .rem [.r 10, .c (.int .i64 8)] (some (.r 5, true)) <|
 .q 12 .eql [.r 11, .c z] (some (.r 5, true)) <|
 .q 13 .pick [.r 5, .r 12, .c (.bool false)] none <|
 .out [(0, .s 0), (2, .s 2), (32, .r 13)]
def e59r5 : EE := .q 2 .nl [.s 0] none <|
 .q 3 (.fld 1) [.r 2] none <|
 .q 4 .ld [.r 3] none <|
 .q 5 .neq [.s 2, .r 4] none <|
 .out [(0, .s 0), (2, .s 2), (40, .r 5)]
def e59r6 : EE := .q 2 .nl [.s 0] none <|
 .q 3 (.fld 72) [.r 2] none <|
 .q 4 .ld [.r 3] none <|
 .q 6 .nl [.s 0] none <|
 .q 7 (.fld 1) [.r 6] none <|
 .q 8 .ld [.r 7] none <|
 .q 11 .nl [.s 0] none <|
 .q 12 (.fld 62) [.r 11] none <|
 .q 13 (.lda 7) [.r 12] none <|
 .q 14 (.bld [z, z, z, z, z, z, z, z, z, z, zs, zs, zs, zs, z, z, z, z, z, z, z, z, z, z, z, z, z, z, z, z, zs, zs, zs, zs, z, z, z, z, z, z, z, z, (.bool false), z, z, z, z, z, z, z, zs] [(0, 1), (1, 1), (2, 1), (43, 7)]) [.c (.int .i64 9), .r 8, .s 2, .r 13] none <|
 .q 16 .nl [.s 0] none <|
 .q 17 (.fld 1) [.r 16] none <|
 .q 18 .ld [.r 17] none <|
 .q 21 .nl [.s 0] none <|
 .q 22 (.fld 55) [.r 21] none <|
 .q 23 (.lda 7) [.r 22] none <|
 .q 24 (.bld [z, z, z, z, z, z, z, z, z, z, zs, zs, zs, zs, z, z, z, z, z, z, z, z, z, z, z, z, z, z, z, z, zs, zs, zs, zs, z, z, z, z, z, z, z, z, (.bool false), z, z, z, z, z, z, z, zs] [(0, 1), (1, 1), (2, 1), (43, 7)]) [.c (.int .i64 11), .r 18, .s 2, .r 23] none <|
 .x 25 (.bsl 189 2 [z, z, z, z, z, z, z, z, z, z, zs, zs, zs, zs, z, z, z, z, z, z, z, z, z, z, z, z, z, z, z, z, zs, zs, zs, zs, z, z, z, z, z, z, z, z, (.bool false), z, z, z, z, z, z, z, zs, z, z, z, z, z, z, z, z, z, z, zs, zs, zs, zs, z, z, z, z, z, z, z, z, z, z, z, z, z, z, z, z, zs, zs, zs, zs, z, z, z, z, z, z, z, z, (.bool false), z, z, z, z, z, z, z, zs] [(0, 51), (51, 51)]) [.r 14, .r 24] none [⟨4, .ld, [.r 3], none⟩] <|
 .x 26 (.app 189 51 480 [z, z, z, z, z, z, z, z, z, z, zs, zs, zs, zs, z, z, z, z, z, z, z, z, z, z, z, z, z, z, z, z, zs, zs, zs, zs, z, z, z, z, z, z, z, z, (.bool false), z, z, z, z, z, z, z, zs]) [.r 4, .r 25] none [] <|
 .q 27 .nl [.s 0] none <|
 .q 28 (.fld 72) [.r 27] none <|
 .x 29 (.st 1) [.r 28, .r 26] none [] <|
 .out [(0, .s 0), (2, .s 2)]
def e59r7 : EE := .q 1 .add [.s 2, .c (.int .i64 1)] none <|
 .out [(0, .s 0), (2, .r 1)]
def e59l8 : EC := (.seq (.seq (.reg e59r4 [0, 2] 0) (.cond (.s 32) .skip (.exit 0))) (.seq (.block 1 (.seq (.reg e59r5 [0, 2] 0) (.cond (.s 40) (.reg e59r6 [0, 2] 0) .skip))) (.reg e59r7 [0, 2] 0)))
def e59r9 : EE := .x 1 (.call 96) [.s 0] none [] <|
 .out []
def e59 : EFn := ⟨(.seq (.seq (.reg e59r0 [0] 0) (.cond (.s 6) .ret .skip)) (.seq (.reg e59r1 [0] 0) (.seq (.reg e59r2 [0] 0) (.seq (.seq (.reg e59r3 [0] 0) (.block 0 (.loop [0, 2] e59l8))) (.reg e59r9 [0] 0))))), [], 72, 0⟩
theorem g59 : Good Tryz.prog 59 e59 := ⟨Tryz.f59, Tryz.func59, by kernel_rfl, by kernel_rfl, by kernel_rfl, by kernel_rfl⟩
/-! slices.Clone[[]concord/api.Event,concord/api.Event] -/
def e62r0 : EE := .out [(0, .s 0)]
def e62r1 : EE := .q 1 (.eqs false) [.s 0, .c .nsl] none <|
 .out [(0, .s 0), (4, .r 1)]
def e62r2 : EE := .out [(2, .c .nsl)]
def e62r3 : EE := .x 0 (.bsl 86 0 [] []) [] none [] <|
 .x 2 (.app 86 14 168 [z, z, z, z, z, zs, zs, zs, zs, z, (.bool false), zs, z, .nsl]) [.r 0, .s 0] none [] <|
 .out [(2, .r 2)]
def e62 : EFn := ⟨(.seq (.reg e62r0 [0] 0) (.seq (.seq (.reg e62r1 [0] 0) (.cond (.s 4) (.seq (.reg e62r2 [] 0) .ret) .skip)) (.seq (.reg e62r3 [0] 0) .ret))), [.slot 2], 8, 0⟩
theorem g62 : Good Tryz.prog 62 e62 := ⟨Tryz.f62, Tryz.func62, by kernel_rfl, by kernel_rfl, by kernel_rfl, by kernel_rfl⟩
/-! slices.Clone[[]concord/api.Pair,concord/api.Pair] -/
def e63r0 : EE := .out [(0, .s 0)]
def e63r1 : EE := .q 1 (.eqs false) [.s 0, .c .nsl] none <|
 .out [(0, .s 0), (4, .r 1)]
def e63r2 : EE := .out [(2, .c .nsl)]
def e63r3 : EE := .x 0 (.bsl 121 0 [] []) [] none [] <|
 .x 2 (.app 121 3 40 [zs, zs, z]) [.r 0, .s 0] none [] <|
 .out [(2, .r 2)]
def e63 : EFn := ⟨(.seq (.reg e63r0 [0] 0) (.seq (.seq (.reg e63r1 [0] 0) (.cond (.s 4) (.seq (.reg e63r2 [] 0) .ret) .skip)) (.seq (.reg e63r3 [0] 0) .ret))), [.slot 2], 8, 0⟩
theorem g63 : Good Tryz.prog 63 e63 := ⟨Tryz.f63, Tryz.func63, by kernel_rfl, by kernel_rfl, by kernel_rfl, by kernel_rfl⟩
/-! concord/audit.up -/
def e64r0 : EE := .out [(0, .s 0)]
def e64r1 : EE := .out [(0, .s 0), (3, .c .nsl)]
def e64r2 : EE := .x 1 (.call 66) [.s 0] none [] <|
 .out [(0, .s 0), (3, .s 3), (7, .r 1), (8, .c z)]
def e64r3 : EE := .q 0 .lss [.s 8, .s 7] none <|
 .out [(0, .s 0), (3, .s 3), (7, .s 7), (8, .s 8), (9, .r 0)]
def e64r4 : EE := .out [(0, .s 0), (3, .s 3), (4, .s 8), (7, .s 7), (8, .s 8)]
def e64r5 : EE := .x 2 (.call 58) [.s 0, .s 4] none [] <|
 .out [(0, .s 0), (3, .s 3), (5, .r 2), (7, .s 7), (8, .s 8)]
def e64r6 : EE := .q 1 (.eqp true) [.s 5, .c .nptr] none <|
 .out [(0, .s 0), (3, .s 3), (5, .s 5), (7, .s 7), (8, .s 8), (15, .r 1)]
def e64r7 : EE := .x 2 (.bsl 109 1 [.nptr] [(0, 1)]) [.s 5] none [] <|
 .x 3 (.app 109 1 8 [.nptr]) [.s 3, .r 2] none [] <|
 .out [(0, .s 0), (3, .r 3), (7, .s 7), (8, .s 8)]
def e64r8 : EE := .q 0 .add [.s 8, .c (.int .i64 1)] none <|
 .out [(0, .s 0), (3, .s 3), (7, .s 7), (8, .r 0)]
def e64l9 : EC := (.seq (.reg e64r3 [0, 3, 7, 8] 0) (.seq (.cond (.s 9) .skip (.exit 0)) (.seq (.block 1 (.seq (.reg e64r4 [0, 3, 7, 8] 0) (.seq (.reg e64r5 [0, 3, 4, 7, 8] 0) (.seq (.reg e64r6 [0, 3, 5, 7, 8] 0) (.cond (.s 15) (.reg e64r7 [0, 3, 5, 7, 8] 0) .skip))))) (.reg e64r8 [0, 3, 7, 8] 0))))
def e64r10 : EE := .out [(2, .s 3)]
def e64 : EFn := ⟨(.seq (.reg e64r0 [0] 0) (.seq (.reg e64r1 [0] 0) (.seq (.seq (.reg e64r2 [0, 3] 0) (.block 0 (.loop [0, 3, 7, 8] e64l9))) (.seq (.reg e64r10 [3] 0) .ret)))), [.slot 2], 22, 0⟩
theorem g64 : Good Tryz.prog 64 e64 := ⟨Tryz.f64, Tryz.func64, by kernel_rfl, by kernel_rfl, by kernel_rfl, by kernel_rfl⟩
/-! concord/audit.committed -/
def e65r0 : EE := .out [(0, .s 0), (1, .s 1)]
def e65r1 : EE := .out [(0, .s 0), (1, .s 1), (7, .c .nsl)]
def e65r2 : EE := .x 0 .mkm [] none [] <|
 .out [(0, .s 0), (1, .s 1), (7, .s 7), (8, .r 0)]
def e65r3 : EE := .x 0 .mkm [] none [] <|
 .out [(0, .s 0), (1, .s 1), (7, .s 7), (8, .s 8), (9, .r 0)]
def e65r4 : EE := .q 1 .len [.s 0] none <|
 .out [(1, .s 1), (7, .s 7), (8, .s 8), (9, .s 9), (22, .s 0), (23, .r 1), (24, .c z)]
def e65r5 : EE := .q 0 .lss [.s 24, .s 23] none <|
 .out [(1, .s 1), (7, .s 7), (8, .s 8), (9, .s 9), (22, .s 22), (23, .s 23), (24, .s 24), (25, .r 0)]
def e65r6 : EE := .q 0 (.ixs 1) [.s 22, .s 24] none <|
 .q 1 .ld [.r 0] none <|
 .out [(1, .s 1), (7, .s 7), (8, .s 8), (9, .s 9), (11, .r 1), (22, .s 22), (23, .s 23), (24, .s 24)]
def e65r7 : EE := .x 1 (.call 107) [.s 11] none [] <|
 .x 2 (.alc [z, z, z, z, z, z, z] 133) [] none [] <|
 .x 3 (.st 7) [.r 2, .r 1] none [] <|
 .out [(1, .s 1), (7, .s 7), (8, .s 8), (9, .s 9), (11, .s 11), (12, .r 2), (22, .s 22), (23, .s 23), (24, .s 24)]
def e65r8 : EE := .out [(1, .s 1), (7, .s 7), (8, .s 8), (9, .s 9), (11, .s 11), (12, .s 12), (22, .s 22), (23, .s 23), (24, .s 24), (30, .s 1), (31, .c z)]
def e65r9 : EE := .q 0 .lss [.s 31, .s 30] none <|
 .out [(1, .s 1), (7, .s 7), (8, .s 8), (9, .s 9), (11, .s 11), (12, .s 12), (22, .s 22), (23, .s 23), (24, .s 24), (30, .s 30), (31, .s 31), (32, .r 0)]
def e65r10 : EE := .out [(1, .s 1), (7, .s 7), (8, .s 8), (9, .s 9), (11, .s 11), (12, .s 12), (13, .s 31), (22, .s 22), (23, .s 23), (24, .s 24), (30, .s 30), (31, .s 31)]
def e65r11 : EE := .x 1 (.call 108) [.s 11] none [] <|
 .q 3 (.idx 7 1) [.r 1, .s 13] none <|
 .q 4 .add [.r 3, .c (.int .i64 1)] none <|
 .out [(1, .s 1), (7, .s 7), (8, .s 8), (9, .s 9), (11, .s 11), (12, .s 12), (13, .s 13), (14, .r 4), (22, .s 22), (23, .s 23), (24, .s 24), (30, .s 30), (31, .s 31)]
def e65r12 : EE := .q 2 (.ixa 7 1) [.s 12, .s 13] none <|
 .q 3 .ld [.r 2] none <|
 .q 4 .leq [.s 14, .r 3] none <|
 .out [(1, .s 1), (7, .s 7), (8, .s 8), (9, .s 9), (11, .s 11), (12, .s 12), (13, .s 13), (14, .s 14), (22, .s 22), (23, .s 23), (24, .s 24), (30, .s 30), (31, .s 31), (43, .r 4)]
def e65r13 : EE := .q 2 (.bld [z, z] [(0, 1), (1, 1)]) [.s 13, .s 14] none <|
 .x 3 (.alc [z, z] 129) [] none [] <|
 .x 4 (.st 2) [.r 3, .r 2] none [] <|
 .out [(1, .s 1), (7, .s 7), (8, .s 8), (9, .s 9), (11, .s 11), (12, .s 12), (13, .s 13), (14, .s 14), (15, .r 3), (22, .s 22), (23, .s 23), (24, .s 24), (30, .s 30), (31, .s 31)]
def e65r14 : EE := .q 1 (.lda 2) [.s 15] none <|
 .x 2 (.call 109) [.s 11, .r 1] none [] <|
 .q 4 (.ext 0) [.r 2] none <|
 .q 5 (.ext 1) [.r 2] none <|
 .x 6 (.alc [z, z, z, z, z, z, z, z, zs, zs, zs, zs, z, z, z, z, z, z, z, z, (.bool false)] 137) [] none [] <|
 .x 7 (.st 21) [.r 6, .r 4] none [] <|
 .out [(1, .s 1), (7, .s 7), (8, .s 8), (9, .s 9), (11, .s 11), (12, .s 12), (13, .s 13), (14, .s 14), (15, .s 15), (16, .r 6), (22, .s 22), (23, .s 23), (24, .s 24), (30, .s 30), (31, .s 31)]
def e65r15 : EE := .q 0 (.fld 0) [.s 16] none <|
 .q 1 .ld [.r 0] none <|
 .q 2 .neq [.r 1, .c (.int .i64 3)] none <|
 .out [(1, .s 1), (7, .s 7), (8, .s 8), (9, .s 9), (11, .s 11), (12, .s 12), (13, .s 13), (14, .s 14), (15, .s 15), (16, .s 16), (22, .s 22), (23, .s 23), (24, .s 24), (30, .s 30), (31, .s 31), (57, .r 2)]
def e65r16 : EE := .q 1 (.lda 2) [.s 15] none <|
 .q 2 (.lkp true [(.i .i64), (.i .i64)] (.agg [z, z, z, z, z, z, z, z, zs, zs, zs, zs, z, z, z, z, z, z, z, z, (.bool false)]) true) [.s 8, .r 1] none <|
 .q 4 (.ext 0) [.r 2] none <|
 .q 5 (.ext 1) [.r 2] none <|
 .x 6 (.alc [z, z, z, z, z, z, z, z, zs, zs, zs, zs, z, z, z, z, z, z, z, z, (.bool false)] 137) [] none [] <|
 .x 7 (.st 21) [.r 6, .r 4] none [] <|
 .out [(1, .s 1), (7, .s 7), (8, .s 8), (9, .s 9), (11, .s 11), (12, .s 12), (13, .s 13), (14, .s 14), (15, .s 15), (16, .s 16), (18, .r 6), (19, .r 5), (22, .s 22), (23, .s 23), (24, .s 24), (30, .s 30), (31, .s 31)]
def e65r17 : EE := .q 1 .not [.s 19] none <|
 .out [(1, .s 1), (7, .s 7), (8, .s 8), (9, .s 9), (11, .s 11), (12, .s 12), (13, .s 13), (14, .s 14), (15, .s 15), (16, .s 16), (18, .s 18), (22, .s 22), (23, .s 23), (24, .s 24), (30, .s 30), (31, .s 31), (65, .r 1)]
def e65r18 : EE := .q 1 (.lda 2) [.s 15] none <|
 .q 3 (.lda 2) [.s 15] none <|
 .q 6 (.lda 21) [.s 16] none <|
 .x 4 (.bsl 129 1 [z, z] [(0, 2)]) [.r 3] none [⟨1, (.lda 2), [.s 15], none⟩, ⟨6, (.lda 21), [.s 16], none⟩] <|
 .x 5 (.app 129 2 16 [z, z]) [.s 7, .r 4] none [⟨1, (.lda 2), [.s 15], none⟩, ⟨6, (.lda 21), [.s 16], none⟩] <|
 .x 8 (.mup true [(.i .i64), (.i .i64)]) [.s 8, .r 1, .r 6] none [] <|
 .out [(1, .s 1), (7, .r 5), (8, .s 8), (9, .s 9), (11, .s 11), (12, .s 12), (13, .s 13), (14, .s 14), (22, .s 22), (23, .s 23), (24, .s 24), (30, .s 30), (31, .s 31)]
def e65r19 : EE := .q 0 (.fld 5) [.s 18] none <|
 .q 1 (.lda 7) [.r 0] none <|
 .q 2 (.fld 5) [.s 16] none <|
 .q 3 (.lda 7) [.r 2] none <|
 .q 4 (.eqc true [(.i .i64), (.i .i64), (.i .i64), .s, .s, .s, .s]) [.r 1, .r 3] none <|
 .q 6 (.fld 12) [.s 18] (some (.r 4, false)) <|
 .q 7 (.lda 8) [.r 6] (some (.r 4, false)) <|
 .q 8 (.fld 12) [.s 16] (some (.r 4, false)) <|
 .q 9 (.lda 8) [.r 8] (some (.r 4, false)) <|
 .q 10 (.eqc true [(.i .i64), (.i .i64), (.i .i64), (.i .i64), (.i .i64), (.i .i64), (.i .i64), (.i .i64)]) [.r 7, .r 9] (some (.r 4, false)) <|
 .q 11 .pick [.r 4, .c (.bool true), .r 10] none <|
 .out [(1, .s 1), (7, .s 7), (8, .s 8), (9, .s 9), (11, .s 11), (12, .s 12), (13, .s 13), (14, .s 14), (15, .s 15), (22, .s 22), (23, .s 23), (24, .s 24), (30, .s 30), (31, .s 31), (84, .r 11)]
def e65r20 : EE := .q 1 (.lda 2) [.s 15] none <|
 .q 2 (.bld [] []) [] none <|
 .x 3 (.mup true [(.i .i64), (.i .i64)]) [.s 9, .r 1, .r 2] none [] <|
 .out [(1, .s 1), (7, .s 7), (8, .s 8), (9, .s 9), (11, .s 11), (12, .s 12), (13, .s 13), (14, .s 14), (22, .s 22), (23, .s 23), (24, .s 24), (30, .s 30), (31, .s 31)]
def e65r21 : EE := .q 1 .add [.s 14, .c (.int .i64 1)] none <|
 .out [(1, .s 1), (7, .s 7), (8, .s 8), (9, .s 9), (11, .s 11), (12, .s 12), (13, .s 13), (14, .r 1), (22, .s 22), (23, .s 23), (24, .s 24), (30, .s 30), (31, .s 31)]
def e65l22 : EC := (.seq (.seq (.reg e65r12 [1, 7, 8, 9, 11, 12, 13, 14, 22, 23, 24, 30, 31] 0) (.cond (.s 43) .skip (.exit 4))) (.seq (.block 5 (.seq (.reg e65r13 [1, 7, 8, 9, 11, 12, 13, 14, 22, 23, 24, 30, 31] 0) (.seq (.reg e65r14 [1, 7, 8, 9, 11, 12, 13, 14, 15, 22, 23, 24, 30, 31] 0) (.seq (.seq (.reg e65r15 [1, 7, 8, 9, 11, 12, 13, 14, 15, 16, 22, 23, 24, 30, 31] 0) (.cond (.s 57) (.exit 5) .skip)) (.seq (.reg e65r16 [1, 7, 8, 9, 11, 12, 13, 14, 15, 16, 22, 23, 24, 30, 31] 0) (.seq (.reg e65r17 [1, 7, 8, 9, 11, 12, 13, 14, 15, 16, 18, 19, 22, 23, 24, 30, 31] 0) (.cond (.s 65) (.reg e65r18 [1, 7, 8, 9, 11, 12, 13, 14, 15, 16, 22, 23, 24, 30, 31] 0) (.seq (.reg e65r19 [1, 7, 8, 9, 11, 12, 13, 14, 15, 16, 18, 22, 23, 24, 30, 31] 0) (.cond (.s 84) (.reg e65r20 [1, 7, 8, 9, 11, 12, 13, 14, 15, 22, 23, 24, 30, 31] 0) .skip))))))))) (.reg e65r21 [1, 7, 8, 9, 11, 12, 13, 14, 22, 23, 24, 30, 31] 0)))
def e65r23 : EE := .q 0 .add [.s 31, .c (.int .i64 1)] none <|
 .out [(1, .s 1), (7, .s 7), (8, .s 8), (9, .s 9), (11, .s 11), (12, .s 12), (22, .s 22), (23, .s 23), (24, .s 24), (30, .s 30), (31, .r 0)]
def e65l24 : EC := (.seq (.reg e65r9 [1, 7, 8, 9, 11, 12, 22, 23, 24, 30, 31] 0) (.seq (.cond (.s 32) .skip (.exit 2)) (.seq (.block 3 (.seq (.reg e65r10 [1, 7, 8, 9, 11, 12, 22, 23, 24, 30, 31] 0) (.seq (.reg e65r11 [1, 7, 8, 9, 11, 12, 13, 22, 23, 24, 30, 31] 0) (.block 4 (.loop [1, 7, 8, 9, 11, 12, 13, 14, 22, 23, 24, 30, 31] e65l22))))) (.reg e65r23 [1, 7, 8, 9, 11, 12, 22, 23, 24, 30, 31] 0))))
def e65r25 : EE := .q 0 .add [.s 24, .c (.int .i64 1)] none <|
 .out [(1, .s 1), (7, .s 7), (8, .s 8), (9, .s 9), (22, .s 22), (23, .s 23), (24, .r 0)]
def e65l26 : EC := (.seq (.reg e65r5 [1, 7, 8, 9, 22, 23, 24] 0) (.seq (.cond (.s 25) .skip (.exit 0)) (.seq (.block 1 (.seq (.reg e65r6 [1, 7, 8, 9, 22, 23, 24] 0) (.seq (.reg e65r7 [1, 7, 8, 9, 11, 22, 23, 24] 0) (.seq (.reg e65r8 [1, 7, 8, 9, 11, 12, 22, 23, 24] 0) (.block 2 (.loop [1, 7, 8, 9, 11, 12, 22, 23, 24, 30, 31] e65l24)))))) (.reg e65r25 [1, 7, 8, 9, 22, 23, 24] 0))))
def e65r27 : EE := .q 3 .lenm [.s 9] none <|
 .out [(4, .s 7), (5, .s 8), (6, .r 3)]
def e65 : EFn := ⟨(.seq (.reg e65r0 [0, 1] 0) (.seq (.reg e65r1 [0, 1] 0) (.seq (.reg e65r2 [0, 1, 7] 0) (.seq (.reg e65r3 [0, 1, 7, 8] 0) (.seq (.seq (.reg e65r4 [0, 1, 7, 8, 9] 0) (.block 0 (.loop [1, 7, 8, 9, 22, 23, 24] e65l26))) (.seq (.reg e65r27 [7, 8, 9] 0) .ret)))))), [.slot 4, .slot 5, .slot 6], 94, 0⟩
theorem g65 : Good Tryz.prog 65 e65 := ⟨Tryz.f65, Tryz.func65, by kernel_rfl, by kernel_rfl, by kernel_rfl, by kernel_rfl⟩
/-! (*concord/cluster.Cluster).Nodes -/
def e66r0 : EE := .out [(0, .s 0)]
def e66r1 : EE := .q 1 .nl [.s 0] none <|
 .q 2 (.fld 0) [.r 1] none <|
 .q 3 .ld [.r 2] none <|
 .out [(2, .r 3)]
def e66 : EFn := ⟨(.seq (.reg e66r0 [0] 0) (.seq (.reg e66r1 [0] 0) .ret)), [.slot 2], 7, 0⟩
theorem g66 : Good Tryz.prog 66 e66 := ⟨Tryz.f66, Tryz.func66, by kernel_rfl, by kernel_rfl, by kernel_rfl, by kernel_rfl⟩
/-! (*concord/node.Node).Done -/
def e69r0 : EE := .x 0 (.alc [z, z, z, z, z, z, z] 133) [] none [] <|
 .out [(0, .s 0), (2, .r 0)]
def e69r1 : EE := .q 1 .nl [.s 0] none <|
 .q 2 (.fld 55) [.r 1] none <|
 .q 3 (.lda 7) [.r 2] none <|
 .x 4 (.st 7) [.s 2, .r 3] none [] <|
 .out [(2, .s 2)]
def e69 : EFn := ⟨(.seq (.reg e69r0 [0] 0) (.seq (.reg e69r1 [0, 2] 0) .ret)), [.cells 2 7], 7, 0⟩
theorem g69 : Good Tryz.prog 69 e69 := ⟨Tryz.f69, Tryz.func69, by kernel_rfl, by kernel_rfl, by kernel_rfl, by kernel_rfl⟩
/-! concord/state.Same -/
def e70r0 : EE := .x 0 (.box 146) [.s 0] none [] <|
 .x 1 (.box 146) [.s 1] none [] <|
 .out [(2, .r 0), (3, .r 1)]
def e70r1 : EE := .q 0 (.fld 1) [.s 2] none <|
 .q 1 (.lda 48) [.r 0] none <|
 .out [(2, .s 2), (3, .s 3), (8, .r 1), (9, .c z)]
def e70r2 : EE := .q 0 .lss [.s 9, .c (.int .i64 8)] none <|
 .out [(2, .s 2), (3, .s 3), (8, .s 8), (9, .s 9), (10, .r 0)]
def e70r3 : EE := .q 1 (.idxa 8 6) [.s 8, .s 9] none <|
 .x 2 (.alc [z, z, (.bool false), zs, z, .nsl] 143) [] none [] <|
 .x 4 (.st 6) [.r 2, .r 1] none [] <|
 .out [(2, .s 2), (3, .s 3), (5, .s 9), (6, .r 2), (8, .s 8), (9, .s 9)]
def e70r4 : EE := .q 0 (.fld 0) [.s 6] none <|
 .q 1 .ld [.r 0] none <|
 .q 3 (.fld 1) [.s 3] none <|
 .q 4 (.ixa 8 6) [.r 3, .s 5] none <|
 .q 5 (.fld 0) [.r 4] none <|
 .q 6 .ld [.r 5] none <|
 .q 7 .neq [.r 1, .r 6] none <|
 .q 9 (.fld 1) [.s 6] (some (.r 7, false)) <|
 .q 10 (.lda 5) [.r 9] (some (.r 7, false)) <|
 .q 11 .mv [.s 5] (some (.r 7, false)) <|
 .q 12 (.fld 1) [.s 3] (some (.r 7, false)) <|
 .q 13 (.ixa 8 6) [.r 12, .r 11] (some (.r 7, false)) <|
 .q 14 (.fld 1) [.r 13] (some (.r 7, false)) <|
 .q 15 (.lda 5) [.r 14] (some (.r 7, false)) <|
 .x 16 (.call 114) [.r 10, .r 15] (some (.r 7, false)) [] <|
 .q 17 .not [.r 16] (some (.r 7, false)) <|
 .q 18 .pick [.r 7, .c (.bool true), .r 17] none <|
 .out [(2, .s 2), (3, .s 3), (8, .s 8), (9, .s 9), (31, .r 18)]
def e70r5 : EE := .out [(4, .c (.bool false))]
def e70r6 : EE := .q 0 .add [.s 9, .c (.int .i64 1)] none <|
 .out [(2, .s 2), (3, .s 3), (8, .s 8), (9, .r 0)]
def e70l7 : EC := (.seq (.reg e70r2 [2, 3, 8, 9] 0) (.seq (.cond (.s 10) .skip (.exit 0)) (.seq (.block 1 (.seq (.reg e70r3 [2, 3, 8, 9] 0) (.seq (.reg e70r4 [2, 3, 5, 6, 8, 9] 0) (.cond (.s 31) (.seq (.reg e70r5 [] 0) .ret) .skip)))) (.reg e70r6 [2, 3, 8, 9] 0))))
def e70r8 : EE := .q 0 (.fld 0) [.s 2] none <|
 .q 1 .ld [.r 0] none <|
 .q 2 (.fld 0) [.s 3] none <|
 .q 3 .ld [.r 2] none <|
 .x 4 (.call 115) [.r 1, .r 3] none [] <|
 .out [(4, .r 4)]
def e70 : EFn := ⟨(.seq (.reg e70r0 [0, 1] 0) (.seq (.seq (.reg e70r1 [2, 3] 0) (.block 0 (.loop [2, 3, 8, 9] e70l7))) (.seq (.reg e70r8 [2, 3] 0) .ret))), [.slot 4], 38, 0⟩
theorem g70 : Good Tryz.prog 70 e70 := ⟨Tryz.f70, Tryz.func70, by kernel_rfl, by kernel_rfl, by kernel_rfl, by kernel_rfl⟩
/-! (*concord/node.Node).State -/
def e71r0 : EE := .x 0 (.alc [.nsl, z, z, (.bool false), zs, z, .nsl, z, z, (.bool false), zs, z, .nsl, z, z, (.bool false), zs, z, .nsl, z, z, (.bool false), zs, z, .nsl, z, z, (.bool false), zs, z, .nsl, z, z, (.bool false), zs, z, .nsl, z, z, (.bool false), zs, z, .nsl, z, z, (.bool false), zs, z, .nsl] 146) [] none [] <|
 .out [(0, .s 0), (2, .r 0)]
def e71r1 : EE := .q 1 .nl [.s 0] none <|
 .q 2 (.fld 6) [.r 1] none <|
 .q 3 (.lda 49) [.r 2] none <|
 .x 4 (.call 116) [.r 3, .c .nsl] none [] <|
 .q 6 (.ext 0) [.r 4] none <|
 .q 7 (.ext 1) [.r 4] none <|
 .x 8 (.alc [.nsl, z, z, (.bool false), zs, z, .nsl, z, z, (.bool false), zs, z, .nsl, z, z, (.bool false), zs, z, .nsl, z, z, (.bool false), zs, z, .nsl, z, z, (.bool false), zs, z, .nsl, z, z, (.bool false), zs, z, .nsl, z, z, (.bool false), zs, z, .nsl, z, z, (.bool false), zs, z, .nsl] 146) [] none [] <|
 .x 9 (.st 49) [.r 8, .r 6] none [] <|
 .out [(2, .s 2), (3, .r 8)]
def e71r2 : EE := .q 0 (.lda 49) [.s 3] none <|
 .x 1 (.st 49) [.s 2, .r 0] none [] <|
 .out [(2, .s 2)]
def e71 : EFn := ⟨(.seq (.reg e71r0 [0] 0) (.seq (.reg e71r1 [0, 2] 0) (.seq (.reg e71r2 [2, 3] 0) .ret))), [.cells 2 49], 14, 0⟩
theorem g71 : Good Tryz.prog 71 e71 := ⟨Tryz.f71, Tryz.func71, by kernel_rfl, by kernel_rfl, by kernel_rfl, by kernel_rfl⟩
/-! internal/strconv.small -/
def e72r0 : EE := .out [(0, .s 0)]
def e72r1 : EE := .q 1 .lss [.s 0, .c (.int .i64 10)] none <|
 .out [(0, .s 0), (4, .r 1)]
def e72r2 : EE := .q 2 .add [.s 0, .c (.int .i64 1)] none <|
 .q 3 (.slcs true true) [.c (.str [48, 49, 50, 51, 52, 53, 54, 55, 56, 57, 97, 98, 99, 100, 101, 102, 103, 104, 105, 106, 107, 108, 109, 110, 111, 112, 113, 114, 115, 116, 117, 118, 119, 120, 121, 122]), .s 0, .r 2] none <|
 .out [(2, .r 3)]
def e72r3 : EE := .q 1 .mul [.s 0, .c (.int .i64 2)] none <|
 .q 3 .mul [.s 0, .c (.int .i64 2)] none <|
 .q 4 .add [.r 3, .c (.int .i64 2)] none <|
 .q 5 (.slcs true true) [.c (.str [48, 48, 48, 49, 48, 50, 48, 51, 48, 52, 48, 53, 48, 54, 48, 55, 48, 56, 48, 57, 49, 48, 49, 49, 49, 50, 49, 51, 49, 52, 49, 53, 49, 54, 49, 55, 49, 56, 49, 57, 50, 48, 50, 49, 50, 50, 50, 51, 50, 52, 50, 53, 50, 54, 50, 55, 50, 56, 50, 57, 51, 48, 51, 49, 51, 50, 51, 51, 51, 52, 51, 53, 51, 54, 51, 55, 51, 56, 51, 57, 52, 48, 52, 49, 52, 50, 52, 51, 52, 52, 52, 53, 52, 54, 52, 55, 52, 56, 52, 57, 53, 48, 53, 49, 53, 50, 53, 51, 53, 52, 53, 53, 53, 54, 53, 55, 53, 56, 53, 57, 54, 48, 54, 49, 54, 50, 54, 51, 54, 52, 54, 53, 54, 54, 54, 55, 54, 56, 54, 57, 55, 48, 55, 49, 55, 50, 55, 51, 55, 52, 55, 53, 55, 54, 55, 55, 55, 56, 55, 57, 56, 48, 56, 49, 56, 50, 56, 51, 56, 52, 56, 53, 56, 54, 56, 55, 56, 56, 56, 57, 57, 48, 57, 49, 57, 50, 57, 51, 57, 52, 57, 53, 57, 54, 57, 55, 57, 56, 57, 57]), .r 1, .r 4] none <|
 .out [(2, .r 5)]
def e72 : EFn := ⟨(.seq (.reg e72r0 [0] 0) (.seq (.seq (.reg e72r1 [0] 0) (.cond (.s 4) (.seq (.reg e72r2 [0] 0) .ret) .skip)) (.seq (.reg e72r3 [0] 0) .ret))), [.slot 2], 15, 0⟩
theorem g72 : Good Tryz.prog 72 e72 := ⟨Tryz.f72, Tryz.func72, by kernel_rfl, by kernel_rfl, by kernel_rfl, by kernel_rfl⟩
/-! internal/strconv.numDigits -/
def e73r0 : EE := .out [(0, .s 0)]
def e73r1 : EE := .x 1 (.call 118) [.s 0] none [] <|
 .x 2 (.call 117) [.r 1] none [] <|
 .out [(0, .s 0), (3, .r 2)]
def e73r2 : EE := .q 3 (.ixa 20 1) [.g 0, .s 3] none <|
 .q 4 .ld [.r 3] none <|
 .q 5 .geq [.s 0, .r 4] none <|
 .x 6 (.call 119) [.r 5] none [] <|
 .q 7 .add [.s 3, .r 6] none <|
 .out [(2, .r 7)]
def e73 : EFn := ⟨(.seq (.reg e73r0 [0] 0) (.seq (.reg e73r1 [0] 0) (.seq (.reg e73r2 [0, 3] 0) .ret))), [.slot 2], 15, 0⟩
theorem g73 : Good Tryz.prog 73 e73 := ⟨Tryz.f73, Tryz.func73, by kernel_rfl, by kernel_rfl, by kernel_rfl, by kernel_rfl⟩
/-! internal/strconv.formatBase10 -/
def e74r0 : EE := .q 1 .len [.s 0] none <|
 .out [(0, .s 0), (1, .s 1), (4, .r 1)]
def e74r1 : EE := .q 1 .geq [.s 4, .c (.int .i64 8)] none <|
 .out [(0, .s 0), (1, .s 1), (4, .s 4), (20, .r 1)]
def e74r2 : EE := .q 1 .rem [.s 1, .c (.int .u64 100000000)] none <|
 .q 2 (.conv .u32) [.r 1] none <|
 .out [(0, .s 0), (1, .s 1), (4, .s 4), (5, .r 2)]
def e74r3 : EE := .q 1 .quo [.s 1, .c (.int .u64 100000000)] none <|
 .out [(0, .s 0), (1, .r 1), (4, .s 4), (5, .s 5)]
def e74r4 : EE := .q 1 .quo [.s 5, .c (.int .u32 10000)] none <|
 .q 3 .rem [.s 5, .c (.int .u32 10000)] none <|
 .out [(0, .s 0), (1, .s 1), (4, .s 4), (6, .r 1), (7, .r 3)]
def e74r5 : EE := .q 1 .quo [.s 7, .c (.int .u32 100)] none <|
 .q 2 .mul [.r 1, .c (.int .u32 2)] none <|
 .q 4 .rem [.s 7, .c (.int .u32 100)] none <|
 .q 5 .mul [.r 4, .c (.int .u32 2)] none <|
 .out [(0, .s 0), (1, .s 1), (4, .s 4), (6, .s 6), (8, .r 2), (9, .r 5)]
def e74r6 : EE := .q 1 .quo [.s 6, .c (.int .u32 100)] none <|
 .q 2 .mul [.r 1, .c (.int .u32 2)] none <|
 .q 4 .rem [.s 6, .c (.int .u32 100)] none <|
 .q 5 .mul [.r 4, .c (.int .u32 2)] none <|
 .out [(0, .s 0), (1, .s 1), (4, .s 4), (8, .s 8), (9, .s 9), (10, .r 2), (11, .r 5)]
def e74r7 : EE := .q 2 .sub [.s 4, .c (.int .i64 1)] none <|
 .q 5 .sub [.s 4, .c (.int .i64 2)] none <|
 .q 7 .add [.s 9, .c (.int .u32 1)] none <|
 .q 8 .idxs [.c (.str [48, 48, 48, 49, 48, 50, 48, 51, 48, 52, 48, 53, 48, 54, 48, 55, 48, 56, 48, 57, 49, 48, 49, 49, 49, 50, 49, 51, 49, 52, 49, 53, 49, 54, 49, 55, 49, 56, 49, 57, 50, 48, 50, 49, 50, 50, 50, 51, 50, 52, 50, 53, 50, 54, 50, 55, 50, 56, 50, 57, 51, 48, 51, 49, 51, 50, 51, 51, 51, 52, 51, 53, 51, 54, 51, 55, 51, 56, 51, 57, 52, 48, 52, 49, 52, 50, 52, 51, 52, 52, 52, 53, 52, 54, 52, 55, 52, 56, 52, 57, 53, 48, 53, 49, 53, 50, 53, 51, 53, 52, 53, 53, 53, 54, 53, 55, 53, 56, 53, 57, 54, 48, 54, 49, 54, 50, 54, 51, 54, 52, 54, 53, 54, 54, 54, 55, 54, 56, 54, 57, 55, 48, 55, 49, 55, 50, 55, 51, 55, 52, 55, 53, 55, 54, 55, 55, 55, 56, 55, 57, 56, 48, 56, 49, 56, 50, 56, 51, 56, 52, 56, 53, 56, 54, 56, 55, 56, 56, 56, 57, 57, 48, 57, 49, 57, 50, 57, 51, 57, 52, 57, 53, 57, 54, 57, 55, 57, 56, 57, 57]), .r 7] none <|
 .q 10 .idxs [.c (.str [48, 48, 48, 49, 48, 50, 48, 51, 48, 52, 48, 53, 48, 54, 48, 55, 48, 56, 48, 57, 49, 48, 49, 49, 49, 50, 49, 51, 49, 52, 49, 53, 49, 54, 49, 55, 49, 56, 49, 57, 50, 48, 50, 49, 50, 50, 50, 51, 50, 52, 50, 53, 50, 54, 50, 55, 50, 56, 50, 57, 51, 48, 51, 49, 51, 50, 51, 51, 51, 52, 51, 53, 51, 54, 51, 55, 51, 56, 51, 57, 52, 48, 52, 49, 52, 50, 52, 51, 52, 52, 52, 53, 52, 54, 52, 55, 52, 56, 52, 57, 53, 48, 53, 49, 53, 50, 53, 51, 53, 52, 53, 53, 53, 54, 53, 55, 53, 56, 53, 57, 54, 48, 54, 49, 54, 50, 54, 51, 54, 52, 54, 53, 54, 54, 54, 55, 54, 56, 54, 57, 55, 48, 55, 49, 55, 50, 55, 51, 55, 52, 55, 53, 55, 54, 55, 55, 55, 56, 55, 57, 56, 48, 56, 49, 56, 50, 56, 51, 56, 52, 56, 53, 56, 54, 56, 55, 56, 56, 56, 57, 57, 48, 57, 49, 57, 50, 57, 51, 57, 52, 57, 53, 57, 54, 57, 55, 57, 56, 57, 57]), .s 9] none <|
 .q 11 (.ixs 1) [.s 0, .r 2] none <|
 .x 12 (.st 1) [.r 11, .r 8] none [] <|
 .q 13 (.ixs 1) [.s 0, .r 5] none <|
 .x 14 (.st 1) [.r 13, .r 10] none [] <|
 .out [(0, .s 0), (1, .s 1), (4, .s 4), (8, .s 8), (10, .s 10), (11, .s 11)]
def e74r8 : EE := .q 2 .sub [.s 4, .c (.int .i64 3)] none <|
 .q 5 .sub [.s 4, .c (.int .i64 4)] none <|
 .q 7 .add [.s 8, .c (.int .u32 1)] none <|
 .q 8 .idxs [.c (.str [48, 48, 48, 49, 48, 50, 48, 51, 48, 52, 48, 53, 48, 54, 48, 55, 48, 56, 48, 57, 49, 48, 49, 49, 49, 50, 49, 51, 49, 52, 49, 53, 49, 54, 49, 55, 49, 56, 49, 57, 50, 48, 50, 49, 50, 50, 50, 51, 50, 52, 50, 53, 50, 54, 50, 55, 50, 56, 50, 57, 51, 48, 51, 49, 51, 50, 51, 51, 51, 52, 51, 53, 51, 54, 51, 55, 51, 56, 51, 57, 52, 48, 52, 49, 52, 50, 52, 51, 52, 52, 52, 53, 52, 54, 52, 55, 52, 56, 52, 57, 53, 48, 53, 49, 53, 50, 53, 51, 53, 52, 53, 53, 53, 54, 53, 55, 53, 56, 53, 57, 54, 48, 54, 49, 54, 50, 54, 51, 54, 52, 54, 53, 54, 54, 54, 55, 54, 56, 54, 57, 55, 48, 55, 49, 55, 50, 55, 51, 55, 52, 55, 53, 55, 54, 55, 55, 55, 56, 55, 57, 56, 48, 56, 49, 56, 50, 56, 51, 56, 52, 56, 53, 56, 54, 56, 55, 56, 56, 56, 57, 57, 48, 57, 49, 57, 50, 57, 51, 57, 52, 57, 53, 57, 54, 57, 55, 57, 56, 57, 57]), .r 7] none <|
 .q 10 .idxs [.c (.str [48, 48, 48, 49, 48, 50, 48, 51, 48, 52, 48, 53, 48, 54, 48, 55, 48, 56, 48, 57, 49, 48, 49, 49, 49, 50, 49, 51, 49, 52, 49, 53, 49, 54, 49, 55, 49, 56, 49, 57, 50, 48, 50, 49, 50, 50, 50, 51, 50, 52, 50, 53, 50, 54, 50, 55, 50, 56, 50, 57, 51, 48, 51, 49, 51, 50, 51, 51, 51, 52, 51, 53, 51, 54, 51, 55, 51, 56, 51, 57, 52, 48, 52, 49, 52, 50, 52, 51, 52, 52, 52, 53, 52, 54, 52, 55, 52, 56, 52, 57, 53, 48, 53, 49, 53, 50, 53, 51, 53, 52, 53, 53, 53, 54, 53, 55, 53, 56, 53, 57, 54, 48, 54, 49, 54, 50, 54, 51, 54, 52, 54, 53, 54, 54, 54, 55, 54, 56, 54, 57, 55, 48, 55, 49, 55, 50, 55, 51, 55, 52, 55, 53, 55, 54, 55, 55, 55, 56, 55, 57, 56, 48, 56, 49, 56, 50, 56, 51, 56, 52, 56, 53, 56, 54, 56, 55, 56, 56, 56, 57, 57, 48, 57, 49, 57, 50, 57, 51, 57, 52, 57, 53, 57, 54, 57, 55, 57, 56, 57, 57]), .s 8] none <|
 .q 11 (.ixs 1) [.s 0, .r 2] none <|
 .x 12 (.st 1) [.r 11, .r 8] none [] <|
 .q 13 (.ixs 1) [.s 0, .r 5] none <|
 .x 14 (.st 1) [.r 13, .r 10] none [] <|
 .out [(0, .s 0), (1, .s 1), (4, .s 4), (10, .s 10), (11, .s 11)]
def e74r9 : EE := .q 2 .sub [.s 4, .c (.int .i64 5)] none <|
 .q 5 .sub [.s 4, .c (.int .i64 6)] none <|
 .q 7 .add [.s 11, .c (.int .u32 1)] none <|
 .q 8 .idxs [.c (.str [48, 48, 48, 49, 48, 50, 48, 51, 48, 52, 48, 53, 48, 54, 48, 55, 48, 56, 48, 57, 49, 48, 49, 49, 49, 50, 49, 51, 49, 52, 49, 53, 49, 54, 49, 55, 49, 56, 49, 57, 50, 48, 50, 49, 50, 50, 50, 51, 50, 52, 50, 53, 50, 54, 50, 55, 50, 56, 50, 57, 51, 48, 51, 49, 51, 50, 51, 51, 51, 52, 51, 53, 51, 54, 51, 55, 51, 56, 51, 57, 52, 48, 52, 49, 52, 50, 52, 51, 52, 52, 52, 53, 52, 54, 52, 55, 52, 56, 52, 57, 53, 48, 53, 49, 53, 50, 53, 51, 53, 52, 53, 53, 53, 54, 53, 55, 53, 56, 53, 57, 54, 48, 54, 49, 54, 50, 54, 51, 54, 52, 54, 53, 54, 54, 54, 55, 54, 56, 54, 57, 55, 48, 55, 49, 55, 50, 55, 51, 55, 52, 55, 53, 55, 54, 55, 55, 55, 56, 55, 57, 56, 48, 56, 49, 56, 50, 56, 51, 56, 52, 56, 53, 56, 54, 56, 55, 56, 56, 56, 57, 57, 48, 57, 49, 57, 50, 57, 51, 57, 52, 57, 53, 57, 54, 57, 55, 57, 56, 57, 57]), .r 7] none <|
 .q 10 .idxs [.c (.str [48, 48, 48, 49, 48, 50, 48, 51, 48, 52, 48, 53, 48, 54, 48, 55, 48, 56, 48, 57, 49, 48, 49, 49, 49, 50, 49, 51, 49, 52, 49, 53, 49, 54, 49, 55, 49, 56, 49, 57, 50, 48, 50, 49, 50, 50, 50, 51, 50, 52, 50, 53, 50, 54, 50, 55, 50, 56, 50, 57, 51, 48, 51, 49, 51, 50, 51, 51, 51, 52, 51, 53, 51, 54, 51, 55, 51, 56, 51, 57, 52, 48, 52, 49, 52, 50, 52, 51, 52, 52, 52, 53, 52, 54, 52, 55, 52, 56, 52, 57, 53, 48, 53, 49, 53, 50, 53, 51, 53, 52, 53, 53, 53, 54, 53, 55, 53, 56, 53, 57, 54, 48, 54, 49, 54, 50, 54, 51, 54, 52, 54, 53, 54, 54, 54, 55, 54, 56, 54, 57, 55, 48, 55, 49, 55, 50, 55, 51, 55, 52, 55, 53, 55, 54, 55, 55, 55, 56, 55, 57, 56, 48, 56, 49, 56, 50, 56, 51, 56, 52, 56, 53, 56, 54, 56, 55, 56, 56, 56, 57, 57, 48, 57, 49, 57, 50, 57, 51, 57, 52, 57, 53, 57, 54, 57, 55, 57, 56, 57, 57]), .s 11] none <|
 .q 11 (.ixs 1) [.s 0, .r 2] none <|
 .x 12 (.st 1) [.r 11, .r 8] none [] <|
 .q 13 (.ixs 1) [.s 0, .r 5] none <|
 .x 14 (.st 1) [.r 13, .r 10] none [] <|
 .out [(0, .s 0), (1, .s 1), (4, .s 4), (10, .s 10)]
def e74r10 : EE := .q 2 .sub [.s 4, .c (.int .i64 7)] none <|
 .q 5 .sub [.s 4, .c (.int .i64 8)] none <|
 .q 7 .add [.s 10, .c (.int .u32 1)] none <|
 .q 8 .idxs [.c (.str [48, 48, 48, 49, 48, 50, 48, 51, 48, 52, 48, 53, 48, 54, 48, 55, 48, 56, 48, 57, 49, 48, 49, 49, 49, 50, 49, 51, 49, 52, 49, 53, 49, 54, 49, 55, 49, 56, 49, 57, 50, 48, 50, 49, 50, 50, 50, 51, 50, 52, 50, 53, 50, 54, 50, 55, 50, 56, 50, 57, 51, 48, 51, 49, 51, 50, 51, 51, 51, 52, 51, 53, 51, 54, 51, 55, 51, 56, 51, 57, 52, 48, 52, 49, 52, 50, 52, 51, 52, 52, 52, 53, 52, 54, 52, 55, 52, 56, 52, 57, 53, 48, 53, 49, 53, 50, 53, 51, 53, 52, 53, 53, 53, 54, 53, 55, 53, 56, 53, 57, 54, 48, 54, 49, 54, 50, 54, 51, 54, 52, 54, 53, 54, 54, 54, 55, 54, 56, 54, 57, 55, 48, 55, 49, 55, 50, 55, 51, 55, 52, 55, 53, 55, 54, 55, 55, 55, 56, 55, 57, 56, 48, 56, 49, 56, 50, 56, 51, 56, 52, 56, 53, 56, 54, 56, 55, 56, 56, 56, 57, 57, 48, 57, 49, 57, 50, 57, 51, 57, 52, 57, 53, 57, 54, 57, 55, 57, 56, 57, 57]), .r 7] none <|
 .q 10 .idxs [.c (.str [48, 48, 48, 49, 48, 50, 48, 51, 48, 52, 48, 53, 48, 54, 48, 55, 48, 56, 48, 57, 49, 48, 49, 49, 49, 50, 49, 51, 49, 52, 49, 53, 49, 54, 49, 55, 49, 56, 49, 57, 50, 48, 50, 49, 50, 50, 50, 51, 50, 52, 50, 53, 50, 54, 50, 55, 50, 56, 50, 57, 51, 48, 51, 49, 51, 50, 51, 51, 51, 52, 51, 53, 51, 54, 51, 55, 51, 56, 51, 57, 52, 48, 52, 49, 52, 50, 52, 51, 52, 52, 52, 53, 52, 54, 52, 55, 52, 56, 52, 57, 53, 48, 53, 49, 53, 50, 53, 51, 53, 52, 53, 53, 53, 54, 53, 55, 53, 56, 53, 57, 54, 48, 54, 49, 54, 50, 54, 51, 54, 52, 54, 53, 54, 54, 54, 55, 54, 56, 54, 57, 55, 48, 55, 49, 55, 50, 55, 51, 55, 52, 55, 53, 55, 54, 55, 55, 55, 56, 55, 57, 56, 48, 56, 49, 56, 50, 56, 51, 56, 52, 56, 53, 56, 54, 56, 55, 56, 56, 56, 57, 57, 48, 57, 49, 57, 50, 57, 51, 57, 52, 57, 53, 57, 54, 57, 55, 57, 56, 57, 57]), .s 10] none <|
 .q 11 (.ixs 1) [.s 0, .r 2] none <|
 .x 12 (.st 1) [.r 11, .r 8] none [] <|
 .q 13 (.ixs 1) [.s 0, .r 5] none <|
 .x 14 (.st 1) [.r 13, .r 10] none [] <|
 .out [(0, .s 0), (1, .s 1), (4, .s 4)]
def e74r11 : EE := .q 1 .sub [.s 4, .c (.int .i64 8)] none <|
 .out [(0, .s 0), (1, .s 1), (4, .r 1)]
def e74l12 : EC := (.seq (.seq (.reg e74r1 [0, 1, 4] 0) (.cond (.s 20) .skip (.exit 0))) (.block 1 (.seq (.reg e74r2 [0, 1, 4] 0) (.seq (.reg e74r3 [0, 1, 4, 5] 0) (.seq (.reg e74r4 [0, 1, 4, 5] 0) (.seq (.reg e74r5 [0, 1, 4, 6, 7] 0) (.seq (.reg e74r6 [0, 1, 4, 6, 8, 9] 0) (.seq (.reg e74r7 [0, 1, 4, 8, 9, 10, 11] 0) (.seq (.reg e74r8 [0, 1, 4, 8, 10, 11] 0) (.seq (.reg e74r9 [0, 1, 4, 10, 11] 0) (.seq (.reg e74r10 [0, 1, 4, 10] 0) (.reg e74r11 [0, 1, 4] 0))))))))))))
def e74r13 : EE := .q 1 (.conv .u32) [.s 1] none <|
 .out [(0, .s 0), (4, .s 4), (12, .r 1)]
def e74r14 : EE := .q 1 .geq [.s 4, .c (.int .i64 4)] none <|
 .out [(0, .s 0), (4, .s 4), (12, .s 12), (99, .r 1)]
def e74r15 : EE := .q 1 .rem [.s 12, .c (.int .u32 10000)] none <|
 .out [(0, .s 0), (4, .s 4), (12, .s 12), (13, .r 1)]
def e74r16 : EE := .q 1 .quo [.s 12, .c (.int .u32 10000)] none <|
 .out [(0, .s 0), (4, .s 4), (12, .r 1), (13, .s 13)]
def e74r17 : EE := .q 1 .quo [.s 13, .c (.int .u32 100)] none <|
 .q 2 .mul [.r 1, .c (.int .u32 2)] none <|
 .q 4 .rem [.s 13, .c (.int .u32 100)] none <|
 .q 5 .mul [.r 4, .c (.int .u32 2)] none <|
 .out [(0, .s 0), (4, .s 4), (12, .s 12), (14, .r 2), (15, .r 5)]
def e74r18 : EE := .q 2 .sub [.s 4, .c (.int .i64 1)] none <|
 .q 5 .sub [.s 4, .c (.int .i64 2)] none <|
 .q 7 .add [.s 15, .c (.int .u32 1)] none <|
 .q 8 .idxs [.c (.str [48, 48, 48, 49, 48, 50, 48, 51, 48, 52, 48, 53, 48, 54, 48, 55, 48, 56, 48, 57, 49, 48, 49, 49, 49, 50, 49, 51, 49, 52, 49, 53, 49, 54, 49, 55, 49, 56, 49, 57, 50, 48, 50, 49, 50, 50, 50, 51, 50, 52, 50, 53, 50, 54, 50, 55, 50, 56, 50, 57, 51, 48, 51, 49, 51, 50, 51, 51, 51, 52, 51, 53, 51, 54, 51, 55, 51, 56, 51, 57, 52, 48, 52, 49, 52, 50, 52, 51, 52, 52, 52, 53, 52, 54, 52, 55, 52, 56, 52, 57, 53, 48, 53, 49, 53, 50, 53, 51, 53, 52, 53, 53, 53, 54, 53, 55, 53, 56, 53, 57, 54, 48, 54, 49, 54, 50, 54, 51, 54, 52, 54, 53, 54, 54, 54, 55, 54, 56, 54, 57, 55, 48, 55, 49, 55, 50, 55, 51, 55, 52, 55, 53, 55, 54, 55, 55, 55, 56, 55, 57, 56, 48, 56, 49, 56, 50, 56, 51, 56, 52, 56, 53, 56, 54, 56, 55, 56, 56, 56, 57, 57, 48, 57, 49, 57, 50, 57, 51, 57, 52, 57, 53, 57, 54, 57, 55, 57, 56, 57, 57]), .r 7] none <|
 .q 10 .idxs [.c (.str [48, 48, 48, 49, 48, 50, 48, 51, 48, 52, 48, 53, 48, 54, 48, 55, 48, 56, 48, 57, 49, 48, 49, 49, 49, 50, 49, 51, 49, 52, 49, 53, 49, 54, 49, 55, 49, 56, 49, 57, 50, 48, 50, 49, 50, 50, 50, 51, 50, 52, 50, 53, 50, 54, 50, 55, 50, 56, 50, 57, 51, 48, 51, 49, 51, 50, 51, 51, 51, 52, 51, 53, 51, 54, 51, 55, 51, 56, 51, 57, 52, 48, 52, 49, 52, 50, 52, 51, 52, 52, 52, 53, 52, 54, 52, 55, 52, 56, 52, 57, 53, 48, 53, 49, 53, 50, 53, 51, 53, 52, 53, 53, 53, 54, 53, 55, 53, 56, 53, 57, 54, 48, 54, 49, 54, 50, 54, 51, 54, 52, 54, 53, 54, 54, 54, 55, 54, 56, 54, 57, 55, 48, 55, 49, 55, 50, 55, 51, 55, 52, 55, 53, 55, 54, 55, 55, 55, 56, 55, 57, 56, 48, 56, 49, 56, 50, 56, 51, 56, 52, 56, 53, 56, 54, 56, 55, 56, 56, 56, 57, 57, 48, 57, 49, 57, 50, 57, 51, 57, 52, 57, 53, 57, 54, 57, 55, 57, 56, 57, 57]), .s 15] none <|
 .q 11 (.ixs 1) [.s 0, .r 2] none <|
 .x 12 (.st 1) [.r 11, .r 8] none [] <|
 .q 13 (.ixs 1) [.s 0, .r 5] none <|
 .x 14 (.st 1) [.r 13, .r 10] none [] <|
 .out [(0, .s 0), (4, .s 4), (12, .s 12), (14, .s 14)]
def e74r19 : EE := .q 2 .sub [.s 4, .c (.int .i64 3)] none <|
 .q 5 .sub [.s 4, .c (.int .i64 4)] none <|
 .q 7 .add [.s 14, .c (.int .u32 1)] none <|
 .q 8 .idxs [.c (.str [48, 48, 48, 49, 48, 50, 48, 51, 48, 52, 48, 53, 48, 54, 48, 55, 48, 56, 48, 57, 49, 48, 49, 49, 49, 50, 49, 51, 49, 52, 49, 53, 49, 54, 49, 55, 49, 56, 49, 57, 50, 48, 50, 49, 50, 50, 50, 51, 50, 52, 50, 53, 50, 54, 50, 55, 50, 56, 50, 57, 51, 48, 51, 49, 51, 50, 51, 51, 51, 52, 51, 53, 51, 54, 51, 55, 51, 56, 51, 57, 52, 48, 52, 49, 52, 50, 52, 51, 52, 52, 52, 53, 52, 54, 52, 55, 52, 56, 52, 57, 53, 48, 53, 49, 53, 50, 53, 51, 53, 52, 53, 53, 53, 54, 53, 55, 53, 56, 53, 57, 54, 48, 54, 49, 54, 50, 54, 51, 54, 52, 54, 53, 54, 54, 54, 55, 54, 56, 54, 57, 55, 48, 55, 49, 55, 50, 55, 51, 55, 52, 55, 53, 55, 54, 55, 55, 55, 56, 55, 57, 56, 48, 56, 49, 56, 50, 56, 51, 56, 52, 56, 53, 56, 54, 56, 55, 56, 56, 56, 57, 57, 48, 57, 49, 57, 50, 57, 51, 57, 52, 57, 53, 57, 54, 57, 55, 57, 56, 57, 57]), .r 7] none <|
 .q 10 .idxs [.c (.str [48, 48, 48, 49, 48, 50, 48, 51, 48, 52, 48, 53, 48, 54, 48, 55, 48, 56, 48, 57, 49, 48, 49, 49, 49, 50, 49, 51, 49, 52, 49, 53, 49, 54, 49, 55, 49, 56, 49, 57, 50, 48, 50, 49, 50, 50, 50, 51, 50, 52, 50, 53, 50, 54, 50, 55, 50, 56, 50, 57, 51, 48, 51, 49, 51, 50, 51, 51, 51, 52, 51, 53, 51, 54, 51, 55, 51, 56, 51, 57, 52, 48, 52, 49, 52, 50, 52, 51, 52, 52, 52, 53, 52, 54, 52, 55, 52, 56, 52, 57, 53, 48, 53, 49, 53, 50, 53, 51, 53, 52, 53, 53, 53, 54, 53, 55, 53, 56, 53, 57, 54, 48, 54, 49, 54, 50, 54, 51, 54, 52, 54, 53, 54, 54, 54, 55, 54, 56, 54, 57, 55, 48, 55, 49, 55, 50, 55, 51, 55, 52, 55, 53, 55, 54, 55, 55, 55, 56, 55, 57, 56, 48, 56, 49, 56, 50, 56, 51, 56, 52, 56, 53, 56, 54, 56, 55, 56, 56, 56, 57, 57, 48, 57, 49, 57, 50, 57, 51, 57, 52, 57, 53, 57, 54, 57, 55, 57, 56, 57, 57]), .s 14] none <|
 .q 11 (.ixs 1) [.s 0, .r 2] none <|
 .x 12 (.st 1) [.r 11, .r 8] none [] <|
 .q 13 (.ixs 1) [.s 0, .r 5] none <|
 .x 14 (.st 1) [.r 13, .r 10] none [] <|
 .out [(0, .s 0), (4, .s 4), (12, .s 12)]
def e74r20 : EE := .q 1 .sub [.s 4, .c (.int .i64 4)] none <|
 .out [(0, .s 0), (4, .r 1), (12, .s 12)]
def e74r21 : EE := .q 1 .geq [.s 4, .c (.int .i64 2)] none <|
 .out [(0, .s 0), (4, .s 4), (12, .s 12), (139, .r 1)]
def e74r22 : EE := .q 1 .rem [.s 12, .c (.int .u32 100)] none <|
 .q 2 .mul [.r 1, .c (.int .u32 2)] none <|
 .out [(0, .s 0), (4, .s 4), (12, .s 12), (16, .r 2)]
def e74r23 : EE := .q 1 .quo [.s 12, .c (.int .u32 100)] none <|
 .out [(0, .s 0), (4, .s 4), (12, .r 1), (16, .s 16)]
def e74r24 : EE := .q 2 .sub [.s 4, .c (.int .i64 1)] none <|
 .q 5 .sub [.s 4, .c (.int .i64 2)] none <|
 .q 7 .add [.s 16, .c (.int .u32 1)] none <|
 .q 8 .idxs [.c (.str [48, 48, 48, 49, 48, 50, 48, 51, 48, 52, 48, 53, 48, 54, 48, 55, 48, 56, 48, 57, 49, 48, 49, 49, 49, 50, 49, 51, 49, 52, 49, 53, 49, 54, 49, 55, 49, 56, 49, 57, 50, 48, 50, 49, 50, 50, 50, 51, 50, 52, 50, 53, 50, 54, 50, 55, 50, 56, 50, 57, 51, 48, 51, 49, 51, 50, 51, 51, 51, 52, 51, 53, 51, 54, 51, 55, 51, 56, 51, 57, 52, 48, 52, 49, 52, 50, 52, 51, 52, 52, 52, 53, 52, 54, 52, 55, 52, 56, 52, 57, 53, 48, 53, 49, 53, 50, 53, 51, 53, 52, 53, 53, 53, 54, 53, 55, 53, 56, 53, 57, 54, 48, 54, 49, 54, 50, 54, 51, 54, 52, 54, 53, 54, 54, 54, 55, 54, 56, 54, 57, 55, 48, 55, 49, 55, 50, 55, 51, 55, 52, 55, 53, 55, 54, 55, 55, 55, 56, 55, 57, 56, 48, 56, 49, 56, 50, 56, 51, 56, 52, 56, 53, 56, 54, 56, 55, 56, 56, 56, 57, 57, 48, 57, 49, 57, 50, 57, 51, 57, 52, 57, 53, 57, 54, 57, 55, 57, 56, 57, 57]), .r 7] none <|
 .q 10 .idxs [.c (.str [48, 48, 48, 49, 48, 50, 48, 51, 48, 52, 48, 53, 48, 54, 48, 55, 48, 56, 48, 57, 49, 48, 49, 49, 49, 50, 49, 51, 49, 52, 49, 53, 49, 54, 49, 55, 49, 56, 49, 57, 50, 48, 50, 49, 50, 50, 50, 51, 50, 52, 50, 53, 50, 54, 50, 55, 50, 56, 50, 57, 51, 48, 51, 49, 51, 50, 51, 51, 51, 52, 51, 53, 51, 54, 51, 55, 51, 56, 51, 57, 52, 48, 52, 49, 52, 50, 52, 51, 52, 52, 52, 53, 52, 54, 52, 55, 52, 56, 52, 57, 53, 48, 53, 49, 53, 50, 53, 51, 53, 52, 53, 53, 53, 54, 53, 55, 53, 56, 53, 57, 54, 48, 54, 49, 54, 50, 54, 51, 54, 52, 54, 53, 54, 54, 54, 55, 54, 56, 54, 57, 55, 48, 55, 49, 55, 50, 55, 51, 55, 52, 55, 53, 55, 54, 55, 55, 55, 56, 55, 57, 56, 48, 56, 49, 56, 50, 56, 51, 56, 52, 56, 53, 56, 54, 56, 55, 56, 56, 56, 57, 57, 48, 57, 49, 57, 50, 57, 51, 57, 52, 57, 53, 57, 54, 57, 55, 57, 56, 57, 57]), .s 16] none <|
 .q 11 (.ixs 1) [.s 0, .r 2] none <|
 .x 12 (.st 1) [.r 11, .r 8] none [] <|
 .q 13 (.ixs 1) [.s 0, .r 5] none <|
 .x 14 (.st 1) [.r 13, .r 10] none [] <|
 .out [(0, .s 0), (4, .s 4), (12, .s 12)]
def e74r25 : EE := .q 1 .sub [.s 4, .c (.int .i64 2)] none <|
 .out [(0, .s 0), (4, .r 1), (12, .s 12)]
def e74r26 : EE := .q 1 .gtr [.s 4, .c z] none <|
 .out [(0, .s 0), (12, .s 12), (161, .r 1)]
def e74r27 : EE := .q 2 .add [.c (.int .u32 48), .s 12] none <|
 .q 3 (.conv .u8) [.r 2] none <|
 .q 4 (.ixs 1) [.s 0, .c z] none <|
 .x 5 (.st 1) [.r 4, .r 3] none [] <|
 .out []
def e74 : EFn := ⟨(.seq (.reg e74r0 [0, 1] 0) (.seq (.block 0 (.loop [0, 1, 4] e74l12)) (.seq (.reg e74r13 [0, 1, 4] 0) (.seq (.seq (.reg e74r14 [0, 4, 12] 0) (.cond (.s 99) (.seq (.reg e74r15 [0, 4, 12] 0) (.seq (.reg e74r16 [0, 4, 12, 13] 0) (.seq (.reg e74r17 [0, 4, 12, 13] 0) (.seq (.reg e74r18 [0, 4, 12, 14, 15] 0) (.seq (.reg e74r19 [0, 4, 12, 14] 0) (.reg e74r20 [0, 4, 12] 0)))))) .skip)) (.seq (.seq (.reg e74r21 [0, 4, 12] 0) (.cond (.s 139) (.seq (.reg e74r22 [0, 4, 12] 0) (.seq (.reg e74r23 [0, 4, 12, 16] 0) (.seq (.reg e74r24 [0, 4, 12, 16] 0) (.reg e74r25 [0, 4, 12] 0)))) .skip)) (.seq (.reg e74r26 [0, 4, 12] 0) (.cond (.s 161) (.reg e74r27 [0, 12] 0) .skip))))))), [], 167, 0⟩
theorem g74 : Good Tryz.prog 74 e74 := ⟨Tryz.f74, Tryz.func74, by kernel_rfl, by kernel_rfl, by kernel_rfl, by kernel_rfl⟩
/-! internal/strconv.Atoi -/
def e78r0 : EE := .out [(0, .s 0)]
def e78r1 : EE := .q 1 .lenz [.s 0] none <|
 .out [(0, .s 0), (4, .r 1)]
def e78r2 : EE := .q 1 .mv [.s 4] (some (.c (.bool false), true)) <|
 .q 2 .lss [.c z, .r 1] (some (.c (.bool false), true)) <|
 .q 3 .mv [.r 2] (some (.c (.bool false), true)) <|
 .q 4 .mv [.s 4] (some (.r 3, true)) <|
 .q 5 .lss [.r 4, .c (.int .i64 10)] (some (.r 3, true)) <|
 .q 6 .pick [.r 3, .r 5, .c (.bool false)] (some (.c (.bool false), true)) <|
 .q 7 .pick [.c (.bool false), .r 6, .c (.bool false)] none <|
 .q 9 .mv [.c (.bool true)] (some (.r 7, false)) <|
 .q 10 .mv [.s 4] (some (.r 9, true)) <|
 .q 11 .lss [.c z, .r 10] (some (.r 9, true)) <|
 .q 12 .mv [.r 11] (some (.r 9, true)) <|
 .q 13 .mv [.s 4] (some (.r 12, true)) <|
 .q 14 .lss [.r 13, .c (.int .i64 19)] (some (.r 12, true)) <|
 .q 15 .pick [.r 12, .r 14, .c (.bool false)] (some (.r 9, true)) <|
 .q 16 .pick [.r 9, .r 15, .c (.bool false)] (some (.r 7, false)) <|
 .q 17 .pick [.r 7, .c (.bool true), .r 16] none <|
 .out [(0, .s 0), (30, .r 17)]
def e78r3 : EE := .out [(0, .s 0), (5, .s 0)]
def e78r4 : EE := .q 1 .idxs [.s 0, .c z] none <|
 .q 2 .eql [.r 1, .c (.int .u8 45)] none <|
 .q 4 .mv [.s 0] (some (.r 2, false)) <|
 .q 5 .idxs [.r 4, .c z] (some (.r 2, false)) <|
 .q 6 .eql [.r 5, .c (.int .u8 43)] (some (.r 2, false)) <|
 .q 7 .pick [.r 2, .c (.bool true), .r 6] none <|
 .out [(0, .s 0), (5, .s 5), (39, .r 7)]
def e78r5 : EE := .q 1 (.slcs true false) [.s 0, .c (.int .i64 1)] none <|
 .out [(0, .r 1), (5, .s 5)]
def e78r6 : EE := .q 1 .lenz [.s 0] none <|
 .q 2 .lss [.r 1, .c (.int .i64 1)] none <|
 .out [(0, .s 0), (5, .s 5), (44, .r 2)]
def e78r7 : EE := .q 0 (.mki 226) [.c (.int .i64 2)] none <|
 .out [(2, .c z), (3, .r 0)]
def e78r8 : EE := .out [(0, .s 0), (5, .s 5), (6, .c z)]
def e78r9 : EE := .x 1 (.s2b 5) [.s 0] none [] <|
 .q 2 .len [.r 1] none <|
 .out [(5, .s 5), (6, .s 6), (47, .r 1), (48, .r 2), (49, .c z)]
def e78r10 : EE := .q 0 .lss [.s 49, .s 48] none <|
 .out [(5, .s 5), (6, .s 6), (47, .s 47), (48, .s 48), (49, .s 49), (50, .r 0)]
def e78r11 : EE := .q 0 (.ixs 1) [.s 47, .s 49] none <|
 .q 1 .ld [.r 0] none <|
 .out [(5, .s 5), (6, .s 6), (8, .r 1), (47, .s 47), (48, .s 48), (49, .s 49)]
def e78r12 : EE := .q 1 .sub [.s 8, .c (.int .u8 48)] none <|
 .out [(5, .s 5), (6, .s 6), (8, .r 1), (47, .s 47), (48, .s 48), (49, .s 49)]
def e78r13 : EE := .q 1 .gtr [.s 8, .c (.int .u8 9)] none <|
 .out [(5, .s 5), (6, .s 6), (8, .s 8), (47, .s 47), (48, .s 48), (49, .s 49), (56, .r 1)]
def e78r14 : EE := .q 0 (.mki 226) [.c (.int .i64 2)] none <|
 .out [(2, .c z), (3, .r 0)]
def e78r15 : EE := .q 1 .mul [.s 6, .c (.int .i64 10)] none <|
 .q 3 (.conv .i64) [.s 8] none <|
 .q 4 .add [.r 1, .r 3] none <|
 .out [(5, .s 5), (6, .r 4), (47, .s 47), (48, .s 48), (49, .s 49)]
def e78r16 : EE := .q 0 .add [.s 49, .c (.int .i64 1)] none <|
 .out [(5, .s 5), (6, .s 6), (47, .s 47), (48, .s 48), (49, .r 0)]
def e78l17 : EC := (.seq (.reg e78r10 [5, 6, 47, 48, 49] 0) (.seq (.cond (.s 50) .skip (.exit 0)) (.seq (.block 1 (.seq (.reg e78r11 [5, 6, 47, 48, 49] 0) (.seq (.reg e78r12 [5, 6, 8, 47, 48, 49] 0) (.seq (.seq (.reg e78r13 [5, 6, 8, 47, 48, 49] 0) (.cond (.s 56) (.seq (.reg e78r14 [] 0) .ret) .skip)) (.reg e78r15 [5, 6, 8, 47, 48, 49] 0))))) (.reg e78r16 [5, 6, 47, 48, 49] 0))))
def e78r18 : EE := .q 1 .idxs [.s 5, .c z] none <|
 .q 2 .eql [.r 1, .c (.int .u8 45)] none <|
 .out [(6, .s 6), (66, .r 2)]
def e78r19 : EE := .q 1 .neg [.s 6] none <|
 .out [(6, .r 1)]
def e78r20 : EE := .out [(2, .s 6), (3, .c .nif)]
def e78r21 : EE := .x 1 (.call 122) [.s 0, .c (.int .i64 10), .c z] none [] <|
 .q 3 (.ext 0) [.r 1] none <|
 .q 4 (.ext 1) [.r 1] none <|
 .out [(9, .r 3), (10, .r 4)]
def e78r22 : EE := .out [(2, .s 9), (3, .s 10)]
def e78 : EFn := ⟨(.seq (.reg e78r0 [0] 0) (.seq (.reg e78r1 [0] 0) (.seq (.seq (.reg e78r2 [0, 4] 0) (.cond (.s 30) (.seq (.reg e78r3 [0] 0) (.seq (.seq (.reg e78r4 [0, 5] 0) (.cond (.s 39) (.seq (.reg e78r5 [0, 5] 0) (.seq (.reg e78r6 [0, 5] 0) (.cond (.s 44) (.seq (.reg e78r7 [] 0) .ret) .skip))) .skip)) (.seq (.reg e78r8 [0, 5] 0) (.seq (.seq (.reg e78r9 [0, 5, 6] 0) (.block 0 (.loop [5, 6, 47, 48, 49] e78l17))) (.seq (.seq (.reg e78r18 [5, 6] 0) (.cond (.s 66) (.reg e78r19 [6] 0) .skip)) (.seq (.reg e78r20 [6] 0) .ret)))))) .skip)) (.seq (.reg e78r21 [0] 0) (.seq (.reg e78r22 [9, 10] 0) .ret))))), [.slot 2, .slot 3], 77, 0⟩
theorem g78 : Good Tryz.prog 78 e78 := ⟨Tryz.f78, Tryz.func78, by kernel_rfl, by kernel_rfl, by kernel_rfl, by kernel_rfl⟩
/-! internal/stringslite.IndexByte -/
def e80r0 : EE := .out [(0, .s 0), (1, .s 1)]
def e80r1 : EE := .q 2 .ixb [.s 0, .s 1] none <|
 .out [(4, .r 2)]
def e80 : EFn := ⟨(.seq (.reg e80r0 [0, 1] 0) (.seq (.reg e80r1 [0, 1] 0) .ret)), [.slot 4], 8, 0⟩
theorem g80 : Good Tryz.prog 80 e80 := ⟨Tryz.f80, Tryz.func80, by kernel_rfl, by kernel_rfl, by kernel_rfl, by kernel_rfl⟩
/-! internal/stringslite.Index -/
def e84r0 : EE := .out [(0, .s 0), (1, .s 1)]
def e84r1 : EE := .q 1 .lenz [.s 1] none <|
 .out [(0, .s 0), (1, .s 1), (5, .r 1)]
def e84r2 : EE := .q 1 .eql [.s 5, .c z] none <|
 .q 3 .mv [.s 1] (some (.r 1, false)) <|
 .q 4 .mv [.s 0] (some (.r 1, false)) <|
 .q 5 .seql [.r 3, .r 4] (some (.r 1, false)) <|
 .q 6 .pick [.r 1, .c (.bool true), .r 5] none <|
 .out [(0, .s 0), (1, .s 1), (5, .s 5), (16, .r 6)]
def e84r3 : EE := .out [(4, .c z)]
def e84r4 : EE := .q 1 .eql [.s 5, .c (.int .i64 1)] none <|
 .out [(0, .s 0), (1, .s 1), (5, .s 5), (24, .r 1)]
def e84r5 : EE := .q 2 .idxs [.s 1, .c z] none <|
 .x 3 (.call 80) [.s 0, .r 2] none [] <|
 .out [(4, .r 3)]
def e84r6 : EE := .q 2 .lenz [.s 0] none <|
 .q 3 .geq [.s 5, .r 2] none <|
 .out [(0, .s 0), (1, .s 1), (5, .s 5), (31, .r 3)]
def e84r7 : EE := .out [(4, .c (.int .i64 (-1)))]
def e84r8 : EE := .q 1 .ld [.g 1] none <|
 .q 2 .leq [.s 5, .r 1] none <|
 .q 4 .mv [.s 0] (some (.r 2, true)) <|
 .q 5 .lenz [.r 4] (some (.r 2, true)) <|
 .q 6 .leq [.r 5, .c (.int .i64 64)] (some (.r 2, true)) <|
 .q 7 .pick [.r 2, .r 6, .c (.bool false)] none <|
 .out [(0, .s 0), (1, .s 1), (5, .s 5), (36, .r 7)]
def e84r9 : EE := .x 2 .bad [] none [] <|
 .out [(4, .r 2)]
def e84r10 : EE := .q 1 .idxs [.s 1, .c z] none <|
 .out [(0, .s 0), (1, .s 1), (5, .s 5), (6, .r 1)]
def e84r11 : EE := .q 1 .idxs [.s 1, .c (.int .i64 1)] none <|
 .out [(0, .s 0), (1, .s 1), (5, .s 5), (6, .s 6), (7, .r 1)]
def e84r12 : EE := .out [(0, .s 0), (1, .s 1), (5, .s 5), (6, .s 6), (7, .s 7), (8, .c z)]
def e84r13 : EE := .q 1 .lenz [.s 0] none <|
 .q 3 .sub [.r 1, .s 5] none <|
 .q 4 .add [.r 3, .c (.int .i64 1)] none <|
 .out [(0, .s 0), (1, .s 1), (5, .s 5), (6, .s 6), (7, .s 7), (8, .s 8), (9, .r 4)]
def e84r14 : EE := .out [(0, .s 0), (1, .s 1), (5, .s 5), (6, .s 6), (7, .s 7), (8, .s 8), (9, .s 9), (10, .c z)]
def e84r15 : EE := .q 2 .lss [.s 8, .s 9] none <|
 .out [(0, .s 0), (1, .s 1), (5, .s 5), (6, .s 6), (7, .s 7), (8, .s 8), (9, .s 9), (10, .s 10), (59, .r 2)]
def e84r16 : EE := .q 2 .idxs [.s 0, .s 8] none <|
 .q 4 .neq [.r 2, .s 6] none <|
 .out [(0, .s 0), (1, .s 1), (5, .s 5), (6, .s 6), (7, .s 7), (8, .s 8), (9, .s 9), (10, .s 10), (64, .r 4)]
def e84r17 : EE := .q 2 .add [.s 8, .c (.int .i64 1)] none <|
 .q 4 (.slcs true true) [.s 0, .r 2, .s 9] none <|
 .x 6 (.call 80) [.r 4, .s 6] none [] <|
 .out [(0, .s 0), (1, .s 1), (5, .s 5), (6, .s 6), (7, .s 7), (8, .s 8), (9, .s 9), (10, .s 10), (11, .r 6)]
def e84r18 : EE := .q 1 .lss [.s 11, .c z] none <|
 .out [(0, .s 0), (1, .s 1), (5, .s 5), (6, .s 6), (7, .s 7), (8, .s 8), (9, .s 9), (10, .s 10), (11, .s 11), (73, .r 1)]
def e84r19 : EE := .out [(4, .c (.int .i64 (-1)))]
def e84r20 : EE := .q 2 .add [.s 11, .c (.int .i64 1)] none <|
 .q 3 .add [.s 8, .r 2] none <|
 .out [(0, .s 0), (1, .s 1), (5, .s 5), (6, .s 6), (7, .s 7), (8, .r 3), (9, .s 9), (10, .s 10)]
def e84r21 : EE := .q 2 .add [.s 8, .c (.int .i64 1)] none <|
 .q 3 .idxs [.s 0, .r 2] none <|
 .q 5 .eql [.r 3, .s 7] none <|
 .q 7 .mv [.s 0] (some (.r 5, true)) <|
 .q 8 .mv [.s 8] (some (.r 5, true)) <|
 .q 9 .mv [.s 8] (some (.r 5, true)) <|
 .q 10 .mv [.s 5] (some (.r 5, true)) <|
 .q 11 .add [.r 9, .r 10] (some (.r 5, true)) <|
 .q 12 (.slcs true true) [.r 7, .r 8, .r 11] (some (.r 5, true)) <|
 .q 13 .mv [.s 1] (some (.r 5, true)) <|
 .q 14 .seql [.r 12, .r 13] (some (.r 5, true)) <|
 .q 15 .pick [.r 5, .r 14, .c (.bool false)] none <|
 .out [(0, .s 0), (1, .s 1), (5, .s 5), (6, .s 6), (7, .s 7), (8, .s 8), (9, .s 9), (10, .s 10), (93, .r 15)]
def e84r22 : EE := .out [(4, .s 8)]
def e84r23 : EE := .q 1 .add [.s 8, .c (.int .i64 1)] none <|
 .out [(0, .s 0), (1, .s 1), (5, .s 5), (6, .s 6), (7, .s 7), (8, .r 1), (9, .s 9), (10, .s 10)]
def e84r24 : EE := .q 1 .add [.s 10, .c (.int .i64 1)] none <|
 .out [(0, .s 0), (1, .s 1), (5, .s 5), (6, .s 6), (7, .s 7), (8, .s 8), (9, .s 9), (10, .r 1)]
def e84r25 : EE := .q 1 .ld [.g 1] none <|
 .q 2 .leq [.s 5, .r 1] none <|
 .q 4 .mv [.s 10] (some (.r 2, true)) <|
 .q 5 .mv [.s 8] (some (.r 2, true)) <|
 .x 6 (.call 130) [.r 5] (some (.r 2, true)) [] <|
 .q 7 .gtr [.r 4, .r 6] (some (.r 2, true)) <|
 .q 8 .pick [.r 2, .r 7, .c (.bool false)] none <|
 .out [(0, .s 0), (1, .s 1), (5, .s 5), (6, .s 6), (7, .s 7), (8, .s 8), (9, .s 9), (10, .s 10), (107, .r 8)]
def e84r26 : EE := .q 2 (.slcs true false) [.s 0, .s 8] none <|
 .x 4 .bad [] none [] <|
 .out [(8, .s 8), (12, .r 4)]
def e84r27 : EE := .q 1 .geq [.s 12, .c z] none <|
 .out [(8, .s 8), (12, .s 12), (114, .r 1)]
def e84r28 : EE := .q 2 .add [.s 12, .s 8] none <|
 .out [(4, .r 2)]
def e84r29 : EE := .out [(4, .c (.int .i64 (-1)))]
def e84r30 : EE := .q 1 .ld [.g 1] none <|
 .q 2 .gtr [.s 5, .r 1] none <|
 .q 4 .mv [.s 10] (some (.r 2, true)) <|
 .q 5 .mv [.s 8] (some (.r 2, true)) <|
 .q 6 .shr [.r 5, .c (.int .u64 4)] (some (.r 2, true)) <|
 .q 7 .add [.c (.int .i64 4), .r 6] (some (.r 2, true)) <|
 .q 8 .geq [.r 4, .r 7] (some (.r 2, true)) <|
 .q 9 .pick [.r 2, .r 8, .c (.bool false)] none <|
 .q 11 .mv [.s 8] (some (.r 9, true)) <|
 .q 12 .mv [.s 9] (some (.r 9, true)) <|
 .q 13 .lss [.r 11, .r 12] (some (.r 9, true)) <|
 .q 14 .pick [.r 9, .r 13, .c (.bool false)] none <|
 .out [(0, .s 0), (1, .s 1), (5, .s 5), (6, .s 6), (7, .s 7), (8, .s 8), (9, .s 9), (10, .s 10), (132, .r 14)]
def e84r31 : EE := .q 2 (.slcs true false) [.s 0, .s 8] none <|
 .x 4 (.call 131) [.r 2, .s 1] none [] <|
 .out [(8, .s 8), (13, .r 4)]
def e84r32 : EE := .q 1 .lss [.s 13, .c z] none <|
 .out [(8, .s 8), (13, .s 13), (139, .r 1)]
def e84r33 : EE := .out [(4, .c (.int .i64 (-1)))]
def e84r34 : EE := .q 2 .add [.s 8, .s 13] none <|
 .out [(4, .r 2)]
def e84l35 : EC := (.seq (.seq (.reg e84r15 [0, 1, 5, 6, 7, 8, 9, 10] 0) (.cond (.s 59) .skip (.exit 1))) (.block 2 (.seq (.seq (.reg e84r16 [0, 1, 5, 6, 7, 8, 9, 10] 0) (.cond (.s 64) (.seq (.reg e84r17 [0, 1, 5, 6, 7, 8, 9, 10] 0) (.seq (.seq (.reg e84r18 [0, 1, 5, 6, 7, 8, 9, 10, 11] 0) (.cond (.s 73) (.seq (.reg e84r19 [] 0) .ret) .skip)) (.reg e84r20 [0, 1, 5, 6, 7, 8, 9, 10, 11] 0))) .skip)) (.seq (.seq (.reg e84r21 [0, 1, 5, 6, 7, 8, 9, 10] 0) (.cond (.s 93) (.seq (.reg e84r22 [8] 0) .ret) .skip)) (.seq (.reg e84r23 [0, 1, 5, 6, 7, 8, 9, 10] 0) (.seq (.reg e84r24 [0, 1, 5, 6, 7, 8, 9, 10] 0) (.seq (.reg e84r25 [0, 1, 5, 6, 7, 8, 9, 10] 0) (.cond (.s 107) (.seq (.reg e84r26 [0, 8] 0) (.seq (.seq (.reg e84r27 [8, 12] 0) (.cond (.s 114) (.seq (.reg e84r28 [8, 12] 0) .ret) .skip)) (.seq (.reg e84r29 [] 0) .ret))) (.seq (.reg e84r30 [0, 1, 5, 6, 7, 8, 9, 10] 0) (.cond (.s 132) (.seq (.reg e84r31 [0, 1, 8] 0) (.seq (.seq (.reg e84r32 [8, 13] 0) (.cond (.s 139) (.seq (.reg e84r33 [] 0) .ret) .skip)) (.seq (.reg e84r34 [8, 13] 0) .ret))) .skip))))))))))
def e84r36 : EE := .out [(4, .c (.int .i64 (-1)))]
def e84 : EFn := ⟨(.seq (.reg e84r0 [0, 1] 0) (.seq (.reg e84r1 [0, 1] 0) (.seq (.block 0 (.seq (.reg e84r2 [0, 1, 5] 0) (.cond (.s 16) (.seq (.reg e84r3 [] 0) .ret) (.seq (.reg e84r4 [0, 1, 5] 0) (.cond (.s 24) (.seq (.reg e84r5 [0, 1] 0) .ret) (.seq (.reg e84r6 [0, 1, 5] 0) (.cond (.s 31) (.seq (.reg e84r7 [] 0) .ret) (.seq (.reg e84r8 [0, 1, 5] 0) (.cond (.s 36) (.seq (.reg e84r9 [] 0) .ret) .skip))))))))) (.seq (.reg e84r10 [0, 1, 5] 0) (.seq (.reg e84r11 [0, 1, 5, 6] 0) (.seq (.reg e84r12 [0, 1, 5, 6, 7] 0) (.seq (.reg e84r13 [0, 1, 5, 6, 7, 8] 0) (.seq (.reg e84r14 [0, 1, 5, 6, 7, 8, 9] 0) (.seq (.block 1 (.loop [0, 1, 5, 6, 7, 8, 9, 10] e84l35)) (.seq (.reg e84r36 [] 0) .ret)))))))))), [.slot 4], 143, 0⟩
theorem g84 : Good Tryz.prog 84 e84 := ⟨Tryz.f84, Tryz.func84, by kernel_rfl, by kernel_rfl, by kernel_rfl, by kernel_rfl⟩
/-! internal/stringslite.Cut -/
def e85r0 : EE := .out [(0, .s 0), (1, .s 1)]
def e85r1 : EE := .x 2 (.call 84) [.s 0, .s 1] none [] <|
 .out [(0, .s 0), (1, .s 1), (7, .r 2)]
def e85r2 : EE := .q 1 .geq [.s 7, .c z] none <|
 .out [(0, .s 0), (1, .s 1), (7, .s 7), (12, .r 1)]
def e85r3 : EE := .q 2 (.slcs false true) [.s 0, .s 7] none <|
 .q 6 .lenz [.s 1] none <|
 .q 7 .add [.s 7, .r 6] none <|
 .q 8 (.slcs true false) [.s 0, .r 7] none <|
 .out [(4, .r 2), (5, .r 8), (6, .c (.bool true))]
def e85r4 : EE := .out [(4, .s 0), (5, .c zs), (6, .c (.bool false))]
def e85 : EFn := ⟨(.seq (.reg e85r0 [0, 1] 0) (.seq (.seq (.reg e85r1 [0, 1] 0) (.seq (.reg e85r2 [0, 1, 7] 0) (.cond (.s 12) (.seq (.reg e85r3 [0, 1, 7] 0) .ret) .skip))) (.seq (.reg e85r4 [0] 0) .ret))), [.slot 4, .slot 5, .slot 6], 23, 0⟩
theorem g85 : Good Tryz.prog 85 e85 := ⟨Tryz.f85, Tryz.func85, by kernel_rfl, by kernel_rfl, by kernel_rfl, by kernel_rfl⟩
/-! concord/quorum.Fits -/
def e86r0 : EE := .out [(0, .s 0)]
def e86r1 : EE := .q 1 .eql [.s 0, .c (.int .i64 3)] none <|
 .q 3 .mv [.s 0] (some (.r 1, false)) <|
 .q 4 .eql [.r 3, .c (.int .i64 5)] (some (.r 1, false)) <|
 .q 5 .pick [.r 1, .c (.bool true), .r 4] none <|
 .q 7 .mv [.s 0] (some (.r 5, false)) <|
 .q 8 .eql [.r 7, .c (.int .i64 7)] (some (.r 5, false)) <|
 .q 9 .pick [.r 5, .c (.bool true), .r 8] none <|
 .out [(2, .r 9)]
def e86 : EFn := ⟨(.seq (.reg e86r0 [0] 0) (.seq (.reg e86r1 [0] 0) .ret)), [.slot 2], 13, 0⟩
theorem g86 : Good Tryz.prog 86 e86 := ⟨Tryz.f86, Tryz.func86, by kernel_rfl, by kernel_rfl, by kernel_rfl, by kernel_rfl⟩
/-! concord/front.New -/
def e87r0 : EE := .out [(0, .s 0), (1, .s 1)]
def e87r1 : EE := .q 1 .neq [.s 0, .c (.int .i64 3)] none <|
 .q 3 .mv [.s 0] (some (.r 1, true)) <|
 .q 4 .neq [.r 3, .c (.int .i64 5)] (some (.r 1, true)) <|
 .q 5 .pick [.r 1, .r 4, .c (.bool false)] none <|
 .q 7 .mv [.s 0] (some (.r 5, true)) <|
 .q 8 .neq [.r 7, .c (.int .i64 7)] (some (.r 5, true)) <|
 .q 9 .pick [.r 5, .r 8, .c (.bool false)] none <|
 .q 11 .mv [.s 1] (some (.r 9, false)) <|
 .q 12 .lss [.r 11, .c z] (some (.r 9, false)) <|
 .q 13 .pick [.r 9, .c (.bool true), .r 12] none <|
 .q 15 .mv [.s 1] (some (.r 13, false)) <|
 .q 16 .mv [.s 0] (some (.r 13, false)) <|
 .q 17 .geq [.r 15, .r 16] (some (.r 13, false)) <|
 .q 18 .pick [.r 13, .c (.bool true), .r 17] none <|
 .out [(0, .s 0), (1, .s 1), (24, .r 18)]
def e87r2 : EE := .out [(4, .c .nptr), (5, .c (.int .i64 1))]
def e87r3 : EE := .q 2 (.bld [z, z, z, z, z, z, z, z, z, z, z, z, z, z, z, z, z, z, z, z, z, z, z, z, z, z, z, z, z, z, z, z, z, z, z, z, z, z, z, z, z, z, z, z, z, z, z, z, z, z, z] [(0, 1), (1, 1)]) [.s 0, .s 1] none <|
 .x 3 (.box 234) [.r 2] none [] <|
 .out [(4, .r 3), (5, .c z)]
def e87 : EFn := ⟨(.seq (.reg e87r0 [0, 1] 0) (.seq (.seq (.reg e87r1 [0, 1] 0) (.cond (.s 24) (.seq (.reg e87r2 [] 0) .ret) .skip)) (.seq (.reg e87r3 [0, 1] 0) .ret))), [.slot 4, .slot 5], 29, 0⟩
theorem g87 : Good Tryz.prog 87 e87 := ⟨Tryz.f87, Tryz.func87, by kernel_rfl, by kernel_rfl, by kernel_rfl, by kernel_rfl⟩
/-! (*concord/node.Node).load -/
def e88r0 : EE := .out [(0, .s 0)]
def e88r1 : EE := .q 1 .nl [.s 0] none <|
 .q 2 (.fld 2) [.r 1] none <|
 .q 3 .ld [.r 2] none <|
 .x 4 (.call 132) [.r 3, .c (.str [105, 109, 97, 103, 101])] none [] <|
 .q 6 (.ext 0) [.r 4] none <|
 .q 7 (.ext 1) [.r 4] none <|
 .out [(0, .s 0), (3, .r 6), (4, .r 7)]
def e88r2 : EE := .out [(0, .s 0), (3, .s 3), (18, .s 4)]
def e88r3 : EE := .x 1 (.call 133) [.s 3] none [] <|
 .q 3 (.ext 0) [.r 1] none <|
 .q 4 (.ext 1) [.r 1] none <|
 .q 5 (.ext 2) [.r 1] none <|
 .x 6 (.alc [z, z, z, z, z, z, z] 133) [] none [] <|
 .x 7 (.alc [.nsl, z, z, (.bool false), zs, z, .nsl, z, z, (.bool false), zs, z, .nsl, z, z, (.bool false), zs, z, .nsl, z, z, (.bool false), zs, z, .nsl, z, z, (.bool false), zs, z, .nsl, z, z, (.bool false), zs, z, .nsl, z, z, (.bool false), zs, z, .nsl, z, z, (.bool false), zs, z, .nsl] 146) [] none [] <|
 .x 8 (.st 7) [.r 6, .r 3] none [] <|
 .x 9 (.st 49) [.r 7, .r 4] none [] <|
 .out [(0, .s 0), (5, .r 6), (6, .r 7), (7, .r 5)]
def e88r4 : EE := .q 1 .neq [.s 7, .c z] none <|
 .out [(0, .s 0), (5, .s 5), (6, .s 6), (7, .s 7), (26, .r 1)]
def e88r5 : EE := .out [(2, .s 7)]
def e88r6 : EE := .q 3 (.lda 7) [.s 5] none <|
 .q 4 (.lda 7) [.s 5] none <|
 .q 5 (.lda 49) [.s 6] none <|
 .q 6 .nl [.s 0] none <|
 .q 7 (.fld 55) [.r 6] none <|
 .x 8 (.st 7) [.r 7, .r 3] none [⟨4, (.lda 7), [.s 5], none⟩, ⟨5, (.lda 49), [.s 6], none⟩] <|
 .q 9 .nl [.s 0] none <|
 .q 10 (.fld 62) [.r 9] none <|
 .x 11 (.st 7) [.r 10, .r 4] none [⟨5, (.lda 49), [.s 6], none⟩] <|
 .q 12 .nl [.s 0] none <|
 .q 13 (.fld 6) [.r 12] none <|
 .x 14 (.st 49) [.r 13, .r 5] none [] <|
 .out [(0, .s 0)]
def e88r7 : EE := .q 1 .nl [.s 0] none <|
 .q 2 (.fld 2) [.r 1] none <|
 .q 3 .ld [.r 2] none <|
 .x 4 (.call 132) [.r 3, .c (.str [105, 109, 97, 103, 101, 46, 110, 101, 119])] none [] <|
 .q 6 (.ext 0) [.r 4] none <|
 .q 7 (.ext 1) [.r 4] none <|
 .out [(0, .s 0), (9, .r 7)]
def e88r8 : EE := .out [(0, .s 0), (48, .s 9)]
def e88r9 : EE := .q 1 .nl [.s 0] none <|
 .q 2 (.fld 2) [.r 1] none <|
 .q 3 .ld [.r 2] none <|
 .x 4 (.call 134) [.r 3, .c (.str [105, 109, 97, 103, 101, 46, 110, 101, 119])] none [] <|
 .out [(2, .r 4)]
def e88r10 : EE := .out [(2, .c z)]
def e88 : EFn := ⟨(.seq (.reg e88r0 [0] 0) (.seq (.seq (.reg e88r1 [0] 0) (.seq (.reg e88r2 [0, 3, 4] 0) (.cond (.s 18) (.seq (.reg e88r3 [0, 3] 0) (.seq (.seq (.reg e88r4 [0, 5, 6, 7] 0) (.cond (.s 26) (.seq (.reg e88r5 [7] 0) .ret) .skip)) (.reg e88r6 [0, 5, 6] 0))) .skip))) (.seq (.seq (.reg e88r7 [0] 0) (.seq (.reg e88r8 [0, 9] 0) (.cond (.s 48) (.seq (.reg e88r9 [0] 0) .ret) .skip))) (.seq (.reg e88r10 [] 0) .ret)))), [.slot 2], 54, 0⟩
theorem g88 : Good Tryz.prog 88 e88 := ⟨Tryz.f88, Tryz.func88, by kernel_rfl, by kernel_rfl, by kernel_rfl, by kernel_rfl⟩
/-! concord/wal.Open -/
def e89r0 : EE := .out [(0, .s 0)]
def e89r1 : EE := .q 1 (.eqp false) [.s 0, .c .nptr] none <|
 .out [(0, .s 0), (17, .r 1)]
def e89r2 : EE := .out [(2, .c .nptr), (3, .c .nsl), (4, .c (.int .i64 1))]
def e89r3 : EE := .x 1 (.call 135) [.s 0] none [] <|
 .out [(0, .s 0), (5, .r 1)]
def e89r4 : EE := .q 1 .eql [.s 5, .c z] none <|
 .out [(0, .s 0), (5, .s 5), (21, .r 1)]
def e89r5 : EE := .q 1 (.bld [z, z] []) [] none <|
 .x 2 (.call 136) [.s 0, .r 1] none [] <|
 .out [(0, .s 0), (6, .r 2)]
def e89r6 : EE := .q 1 .neq [.s 6, .c z] none <|
 .out [(0, .s 0), (6, .s 6), (26, .r 1)]
def e89r7 : EE := .out [(2, .c .nptr), (3, .c .nsl), (4, .s 6)]
def e89r8 : EE := .q 1 (.bld [.nptr, z, z, (.bool false)] [(0, 1)]) [.s 0] none <|
 .x 2 (.box 245) [.r 1] none [] <|
 .out [(2, .r 2), (3, .c .nsl), (4, .c z)]
def e89r9 : EE := .x 2 (.call 137) [.s 0, .s 5] none [] <|
 .q 4 (.ext 0) [.r 2] none <|
 .q 5 (.ext 1) [.r 2] none <|
 .q 6 (.ext 2) [.r 2] none <|
 .q 7 (.ext 3) [.r 2] none <|
 .x 8 (.alc [z, z] 243) [] none [] <|
 .x 10 (.st 2) [.r 8, .r 5] none [] <|
 .out [(0, .s 0), (7, .r 4), (8, .r 8), (9, .r 6)]
def e89r10 : EE := .q 1 (.lda 2) [.s 8] none <|
 .x 2 (.call 138) [.r 1] none [] <|
 .x 3 (.call 132) [.s 0, .r 2] none [] <|
 .q 5 (.ext 0) [.r 3] none <|
 .q 6 (.ext 1) [.r 3] none <|
 .out [(0, .s 0), (7, .s 7), (8, .s 8), (9, .s 9), (11, .r 5)]
def e89r11 : EE := .q 1 .len [.s 11] none <|
 .q 3 .gtr [.r 1, .s 9] none <|
 .out [(0, .s 0), (7, .s 7), (8, .s 8), (9, .s 9), (49, .r 3)]
def e89r12 : EE := .q 1 (.lda 2) [.s 8] none <|
 .x 2 (.call 138) [.r 1] none [] <|
 .x 4 (.call 139) [.s 0, .r 2, .s 9] none [] <|
 .out [(0, .s 0), (7, .s 7), (8, .s 8), (13, .r 4)]
def e89r13 : EE := .q 1 .neq [.s 13, .c z] none <|
 .out [(0, .s 0), (7, .s 7), (8, .s 8), (13, .s 13), (56, .r 1)]
def e89r14 : EE := .out [(2, .c .nptr), (3, .c .nsl), (4, .s 13)]
def e89r15 : EE := .q 1 (.lda 2) [.s 8] none <|
 .x 2 (.call 136) [.s 0, .r 1] none [] <|
 .out [(0, .s 0), (7, .s 7), (8, .s 8), (14, .r 2)]
def e89r16 : EE := .q 1 .neq [.s 14, .c z] none <|
 .out [(0, .s 0), (7, .s 7), (8, .s 8), (14, .s 14), (62, .r 1)]
def e89r17 : EE := .out [(2, .c .nptr), (3, .c .nsl), (4, .s 14)]
def e89r18 : EE := .q 1 (.lda 2) [.s 8] none <|
 .x 2 (.call 138) [.r 1] none [] <|
 .x 3 (.call 140) [.s 0, .r 2] none [] <|
 .out [(0, .s 0), (7, .s 7), (8, .s 8), (15, .r 3)]
def e89r19 : EE := .q 1 .neq [.s 15, .c z] none <|
 .out [(0, .s 0), (7, .s 7), (8, .s 8), (15, .s 15), (69, .r 1)]
def e89r20 : EE := .out [(2, .c .nptr), (3, .c .nsl), (4, .s 15)]
def e89r21 : EE := .q 1 (.lda 2) [.s 8] none <|
 .q 2 (.bld [.nptr, z, z, (.bool false)] [(0, 1), (1, 2)]) [.s 0, .r 1] none <|
 .x 3 (.box 245) [.r 2] none [] <|
 .out [(2, .r 3), (3, .s 7), (4, .c z)]
def e89 : EFn := ⟨(.seq (.reg e89r0 [0] 0) (.seq (.seq (.reg e89r1 [0] 0) (.cond (.s 17) (.seq (.reg e89r2 [] 0) .ret) .skip)) (.seq (.reg e89r3 [0] 0) (.seq (.seq (.reg e89r4 [0, 5] 0) (.cond (.s 21) (.seq (.seq (.reg e89r5 [0] 0) (.seq (.reg e89r6 [0, 6] 0) (.cond (.s 26) (.seq (.reg e89r7 [6] 0) .ret) .skip))) (.seq (.reg e89r8 [0] 0) .ret)) .skip)) (.seq (.reg e89r9 [0, 5] 0) (.seq (.seq (.reg e89r10 [0, 7, 8, 9] 0) (.seq (.reg e89r11 [0, 7, 8, 9, 11] 0) (.cond (.s 49) (.seq (.reg e89r12 [0, 7, 8, 9] 0) (.seq (.reg e89r13 [0, 7, 8, 13] 0) (.cond (.s 56) (.seq (.reg e89r14 [13] 0) .ret) .skip))) .skip))) (.seq (.seq (.reg e89r15 [0, 7, 8] 0) (.seq (.reg e89r16 [0, 7, 8, 14] 0) (.cond (.s 62) (.seq (.reg e89r17 [14] 0) .ret) .skip))) (.seq (.seq (.reg e89r18 [0, 7, 8] 0) (.seq (.reg e89r19 [0, 7, 8, 15] 0) (.cond (.s 69) (.seq (.reg e89r20 [15] 0) .ret) .skip))) (.seq (.reg e89r21 [0, 7, 8] 0) .ret))))))))), [.slot 2, .slot 3, .slot 4], 76, 0⟩
theorem g89 : Good Tryz.prog 89 e89 := ⟨Tryz.f89, Tryz.func89, by kernel_rfl, by kernel_rfl, by kernel_rfl, by kernel_rfl⟩
/-! concord/core.New -/
def e91r0 : EE := .x 0 (.box 133) [.s 2] none [] <|
 .out [(0, .s 0), (1, .s 1), (3, .s 3), (6, .r 0)]
def e91r1 : EE := .x 1 (.call 86) [.s 0] none [] <|
 .q 2 .not [.r 1] none <|
 .q 4 .mv [.s 1] (some (.r 2, false)) <|
 .q 5 .lss [.r 4, .c z] (some (.r 2, false)) <|
 .q 6 .pick [.r 2, .c (.bool true), .r 5] none <|
 .q 8 .mv [.s 1] (some (.r 6, false)) <|
 .q 9 .mv [.s 0] (some (.r 6, false)) <|
 .q 10 .geq [.r 8, .r 9] (some (.r 6, false)) <|
 .q 11 .pick [.r 6, .c (.bool true), .r 10] none <|
 .q 13 (.lda 7) [.s 6] (some (.r 11, false)) <|
 .q 14 (.bld [z, z, z, z, z, z, z, z] [(1, 7)]) [.r 13] (some (.r 11, false)) <|
 .x 15 (.call 144) [.r 14] (some (.r 11, false)) [] <|
 .q 16 .not [.r 15] (some (.r 11, false)) <|
 .q 17 .pick [.r 11, .c (.bool true), .r 16] none <|
 .out [(0, .s 0), (1, .s 1), (3, .s 3), (6, .s 6), (33, .r 17)]
def e91r2 : EE := .out [(8, .c .nptr), (9, .c (.int .i64 1))]
def e91r3 : EE := .q 2 (.lda 7) [.s 6] none <|
 .x 3 (.call 145) [.r 2] none [] <|
 .x 4 (.call 146) [] none [] <|
 .q 5 (.bld [z, z, .nptr, .nptr, .nsl, .nsl, .nsl, .nsl] [(0, 1), (1, 1), (2, 1), (3, 1)]) [.s 0, .s 1, .r 3, .r 4] none <|
 .x 6 (.box 259) [.r 5] none [] <|
 .out [(3, .s 3), (6, .s 6), (10, .r 6)]
def e91r4 : EE := .q 1 .nl [.s 10] none <|
 .q 2 (.fld 3) [.r 1] none <|
 .q 3 .ld [.r 2] none <|
 .q 4 (.lda 7) [.s 6] none <|
 .x 5 (.call 147) [.r 3, .r 4] none [] <|
 .out [(3, .s 3), (10, .s 10)]
def e91r5 : EE := .q 1 .len [.s 3] none <|
 .out [(10, .s 10), (47, .s 3), (48, .r 1), (49, .c z)]
def e91r6 : EE := .q 0 .lss [.s 49, .s 48] none <|
 .out [(10, .s 10), (47, .s 47), (48, .s 48), (49, .s 49), (50, .r 0)]
def e91r7 : EE := .q 0 (.ixs 1) [.s 47, .s 49] none <|
 .q 1 .ld [.r 0] none <|
 .out [(10, .s 10), (12, .r 1), (47, .s 47), (48, .s 48), (49, .s 49)]
def e91r8 : EE := .x 1 (.call 148) [.s 12] none [] <|
 .q 3 (.ext 0) [.r 1] none <|
 .q 4 (.ext 1) [.r 1] none <|
 .q 5 (.ext 2) [.r 1] none <|
 .x 6 (.alc [z, z] 129) [] none [] <|
 .x 7 (.alc [z, z, z, z, z, z, z, z, zs, zs, zs, zs, z, z, z, z, z, z, z, z, (.bool false)] 137) [] none [] <|
 .x 8 (.st 2) [.r 6, .r 3] none [] <|
 .x 9 (.st 21) [.r 7, .r 4] none [] <|
 .out [(10, .s 10), (13, .r 6), (14, .r 7), (15, .r 5), (47, .s 47), (48, .s 48), (49, .s 49)]
def e91r9 : EE := .q 1 .eql [.s 15, .c z] none <|
 .q 3 .mv [.s 10] (some (.r 1, true)) <|
 .q 4 .nl [.r 3] (some (.r 1, true)) <|
 .q 5 (.fld 2) [.r 4] (some (.r 1, true)) <|
 .q 6 .ld [.r 5] (some (.r 1, true)) <|
 .q 7 (.lda 2) [.s 13] (some (.r 1, true)) <|
 .q 8 (.lda 21) [.s 14] (some (.r 1, true)) <|
 .x 9 (.call 149) [.r 6, .r 7, .r 8] (some (.r 1, true)) [] <|
 .q 10 .pick [.r 1, .r 9, .c (.bool false)] none <|
 .out [(10, .s 10), (13, .s 13), (14, .s 14), (47, .s 47), (48, .s 48), (49, .s 49), (69, .r 10)]
def e91r10 : EE := .q 1 (.lda 2) [.s 13] none <|
 .q 2 (.lda 21) [.s 14] none <|
 .x 3 (.call 150) [.s 10, .r 1, .r 2] none [] <|
 .out [(10, .s 10), (47, .s 47), (48, .s 48), (49, .s 49)]
def e91r11 : EE := .q 0 .add [.s 49, .c (.int .i64 1)] none <|
 .out [(10, .s 10), (47, .s 47), (48, .s 48), (49, .r 0)]
def e91l12 : EC := (.seq (.reg e91r6 [10, 47, 48, 49] 0) (.seq (.cond (.s 50) .skip (.exit 0)) (.seq (.block 1 (.seq (.reg e91r7 [10, 47, 48, 49] 0) (.seq (.reg e91r8 [10, 12, 47, 48, 49] 0) (.seq (.reg e91r9 [10, 13, 14, 15, 47, 48, 49] 0) (.cond (.s 69) (.reg e91r10 [10, 13, 14, 47, 48, 49] 0) .skip))))) (.reg e91r11 [10, 47, 48, 49] 0))))
def e91r13 : EE := .out [(8, .s 10), (9, .c z)]
def e91 : EFn := ⟨(.seq (.reg e91r0 [0, 1, 2, 3] 0) (.seq (.seq (.reg e91r1 [0, 1, 3, 6] 0) (.cond (.s 33) (.seq (.reg e91r2 [] 0) .ret) .skip)) (.seq (.reg e91r3 [0, 1, 3, 6] 0) (.seq (.reg e91r4 [3, 6, 10] 0) (.seq (.seq (.reg e91r5 [3, 10] 0) (.block 0 (.loop [10, 47, 48, 49] e91l12))) (.seq (.reg e91r13 [10] 0) .ret)))))), [.slot 8, .slot 9], 76, 0⟩
theorem g91 : Good Tryz.prog 91 e91 := ⟨Tryz.f91, Tryz.func91, by kernel_rfl, by kernel_rfl, by kernel_rfl, by kernel_rfl⟩
/-! (*concord/wal.Wal).Where -/
def e92r0 : EE := .out [(0, .s 0)]
def e92r1 : EE := .q 1 .nl [.s 0] none <|
 .q 2 (.fld 1) [.r 1] none <|
 .q 3 (.fld 0) [.r 2] none <|
 .q 4 .ld [.r 3] none <|
 .q 6 .nl [.s 0] none <|
 .q 7 (.fld 1) [.r 6] none <|
 .q 8 (.fld 1) [.r 7] none <|
 .q 9 .ld [.r 8] none <|
 .out [(2, .r 4), (3, .r 9)]
def e92 : EFn := ⟨(.seq (.reg e92r0 [0] 0) (.seq (.reg e92r1 [0] 0) .ret)), [.slot 2, .slot 3], 14, 0⟩
theorem g92 : Good Tryz.prog 92 e92 := ⟨Tryz.f92, Tryz.func92, by kernel_rfl, by kernel_rfl, by kernel_rfl, by kernel_rfl⟩
/-! (*concord/wal.Wal).Anew -/
def e93r0 : EE := .out [(0, .s 0), (1, .s 1)]
def e93r1 : EE := .q 1 .nl [.s 0] none <|
 .q 2 (.fld 3) [.r 1] none <|
 .q 3 .ld [.r 2] none <|
 .out [(0, .s 0), (1, .s 1), (14, .r 3)]
def e93r2 : EE := .out [(4, .c (.int .i64 10))]
def e93r3 : EE := .q 1 .len [.s 1] none <|
 .x 2 (.call 153) [.c .nsl, .r 1] none [] <|
 .x 3 (.call 152) [.c .nsl, .r 2] none [] <|
 .x 5 (.call 151) [.r 3, .s 1] none [] <|
 .q 7 (.ext 0) [.r 5] none <|
 .q 8 (.ext 1) [.r 5] none <|
 .out [(0, .s 0), (5, .r 7), (6, .r 8)]
def e93r4 : EE := .q 1 .not [.s 6] none <|
 .out [(0, .s 0), (5, .s 5), (25, .r 1)]
def e93r5 : EE := .out [(4, .c (.int .i64 1))]
def e93r6 : EE := .q 1 .nl [.s 0] none <|
 .q 2 (.fld 1) [.r 1] none <|
 .q 3 (.fld 0) [.r 2] none <|
 .q 4 .ld [.r 3] none <|
 .q 5 .geq [.r 4, .c (.int .i64 999999999)] none <|
 .out [(0, .s 0), (5, .s 5), (31, .r 5)]
def e93r7 : EE := .out [(4, .c (.int .i64 7))]
def e93r8 : EE := .q 1 .nl [.s 0] none <|
 .q 2 (.fld 1) [.r 1] none <|
 .q 3 (.fld 0) [.r 2] none <|
 .q 4 .ld [.r 3] none <|
 .q 5 .add [.r 4, .c (.int .i64 1)] none <|
 .q 6 (.bld [z, z] [(0, 1), (1, 1)]) [.r 5, .c (.int .i64 1)] none <|
 .x 7 (.alc [z, z] 243) [] none [] <|
 .x 8 (.st 2) [.r 7, .r 6] none [] <|
 .out [(0, .s 0), (5, .s 5), (7, .r 7)]
def e93r9 : EE := .q 1 (.lda 2) [.s 7] none <|
 .x 3 (.call 154) [.s 0, .r 1, .s 5] none [] <|
 .out [(0, .s 0), (7, .s 7), (8, .r 3)]
def e93r10 : EE := .q 1 .neq [.s 8, .c z] none <|
 .out [(0, .s 0), (7, .s 7), (8, .s 8), (44, .r 1)]
def e93r11 : EE := .out [(4, .s 8)]
def e93r12 : EE := .out [(0, .s 0), (7, .s 7), (9, .c (.int .i64 1))]
def e93r13 : EE := .q 2 .nl [.s 0] none <|
 .q 3 (.fld 1) [.r 2] none <|
 .q 4 (.fld 1) [.r 3] none <|
 .q 5 .ld [.r 4] none <|
 .q 6 .leq [.s 9, .r 5] none <|
 .out [(0, .s 0), (7, .s 7), (9, .s 9), (52, .r 6)]
def e93r14 : EE := .q 1 .nl [.s 0] none <|
 .q 2 (.fld 0) [.r 1] none <|
 .q 3 .ld [.r 2] none <|
 .q 5 .nl [.s 0] none <|
 .q 6 (.fld 1) [.r 5] none <|
 .q 7 (.fld 0) [.r 6] none <|
 .q 8 .ld [.r 7] none <|
 .q 10 (.bld [z, z] [(0, 1), (1, 1)]) [.r 8, .s 9] none <|
 .x 11 (.call 138) [.r 10] none [⟨3, .ld, [.r 2], none⟩] <|
 .x 12 (.call 134) [.r 3, .r 11] none [] <|
 .out [(0, .s 0), (7, .s 7), (9, .s 9), (10, .r 12)]
def e93r15 : EE := .q 1 .neq [.s 10, .c z] none <|
 .out [(0, .s 0), (7, .s 7), (9, .s 9), (10, .s 10), (69, .r 1)]
def e93r16 : EE := .q 1 .nl [.s 0] none <|
 .q 2 (.fld 3) [.r 1] none <|
 .x 3 (.st 1) [.r 2, .c (.bool true)] none [] <|
 .out [(10, .s 10)]
def e93r17 : EE := .out [(4, .s 10)]
def e93r18 : EE := .q 1 .add [.s 9, .c (.int .i64 1)] none <|
 .out [(0, .s 0), (7, .s 7), (9, .r 1)]
def e93l19 : EC := (.seq (.seq (.reg e93r13 [0, 7, 9] 0) (.cond (.s 52) .skip (.exit 0))) (.seq (.block 1 (.seq (.reg e93r14 [0, 7, 9] 0) (.seq (.reg e93r15 [0, 7, 9, 10] 0) (.cond (.s 69) (.seq (.reg e93r16 [0, 10] 0) (.seq (.reg e93r17 [10] 0) .ret)) .skip)))) (.reg e93r18 [0, 7, 9] 0)))
def e93r20 : EE := .q 1 (.lda 2) [.s 7] none <|
 .q 2 .nl [.s 0] none <|
 .q 3 (.fld 1) [.r 2] none <|
 .x 4 (.st 2) [.r 3, .r 1] none [] <|
 .out []
def e93r21 : EE := .out [(4, .c z)]
def e93 : EFn := ⟨(.seq (.reg e93r0 [0, 1] 0) (.seq (.seq (.reg e93r1 [0, 1] 0) (.cond (.s 14) (.seq (.reg e93r2 [] 0) .ret) .skip)) (.seq (.reg e93r3 [0, 1] 0) (.seq (.seq (.reg e93r4 [0, 5, 6] 0) (.cond (.s 25) (.seq (.reg e93r5 [] 0) .ret) .skip)) (.seq (.seq (.reg e93r6 [0, 5] 0) (.cond (.s 31) (.seq (.reg e93r7 [] 0) .ret) .skip)) (.seq (.reg e93r8 [0, 5] 0) (.seq (.seq (.reg e93r9 [0, 5, 7] 0) (.seq (.reg e93r10 [0, 7, 8] 0) (.cond (.s 44) (.seq (.reg e93r11 [8] 0) .ret) .skip))) (.seq (.seq (.reg e93r12 [0, 7] 0) (.block 0 (.loop [0, 7, 9] e93l19))) (.seq (.reg e93r20 [0, 7] 0) (.seq (.reg e93r21 [] 0) .ret)))))))))), [.slot 4], 78, 0⟩
theorem g93 : Good Tryz.prog 93 e93 := ⟨Tryz.f93, Tryz.func93, by kernel_rfl, by kernel_rfl, by kernel_rfl, by kernel_rfl⟩
/-! concord/node.cutRecord -/
def e94r0 : EE := .x 0 (.box 133) [.s 0] none [] <|
 .out [(1, .r 0)]
def e94r1 : EE := .x 0 (.bsl 5 1 [(.int .u8 0)] [(0, 1)]) [.c (.int .u8 1)] none [] <|
 .out [(1, .s 1), (3, .r 0)]
def e94r2 : EE := .q 0 (.lda 7) [.s 1] none <|
 .out [(3, .s 3), (7, .r 0), (8, .c z)]
def e94r3 : EE := .q 0 .lss [.s 8, .c (.int .i64 7)] none <|
 .out [(3, .s 3), (7, .s 7), (8, .s 8), (9, .r 0)]
def e94r4 : EE := .q 0 (.idx 7 1) [.s 7, .s 8] none <|
 .out [(3, .s 3), (5, .r 0), (7, .s 7), (8, .s 8)]
def e94r5 : EE := .x 2 (.call 153) [.s 3, .s 5] none [] <|
 .out [(3, .r 2), (7, .s 7), (8, .s 8)]
def e94r6 : EE := .q 0 .add [.s 8, .c (.int .i64 1)] none <|
 .out [(3, .s 3), (7, .s 7), (8, .r 0)]
def e94l7 : EC := (.seq (.reg e94r3 [3, 7, 8] 0) (.seq (.cond (.s 9) .skip (.exit 0)) (.seq (.block 1 (.seq (.reg e94r4 [3, 7, 8] 0) (.reg e94r5 [3, 5, 7, 8] 0))) (.reg e94r6 [3, 7, 8] 0))))
def e94r8 : EE := .out [(2, .s 3)]
def e94 : EFn := ⟨(.seq (.reg e94r0 [0] 0) (.seq (.reg e94r1 [1] 0) (.seq (.seq (.reg e94r2 [1, 3] 0) (.block 0 (.loop [3, 7, 8] e94l7))) (.seq (.reg e94r8 [3] 0) .ret)))), [.slot 2], 16, 0⟩
theorem g94 : Good Tryz.prog 94 e94 := ⟨Tryz.f94, Tryz.func94, by kernel_rfl, by kernel_rfl, by kernel_rfl, by kernel_rfl⟩
end Go.Ev
