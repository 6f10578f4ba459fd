import Derived.Test.YtkdlojagpocnoaaGreatDoorEvB
import Derived.Test.YtkdlojagpocnoaaGreatDoorProg
set_option linter.unusedVariables false
namespace Go.Ev
open Go.Fw Go.Proofs
/-! (*concord/core.Core).Take -/
def e48r0 : EE := .x 0 (.box 50) [.s 1] none [] <|
 .out [(0, .s 0), (3, .r 0)]
def e48r1 : EE := .q 0 (.lda 51) [.s 3] none <|
 .x 1 (.call 45) [.r 0] none [] <|
 .q 2 .not [.r 1] none <|
 .q 4 (.fld 2) [.s 3] (some (.r 2, false)) <|
 .q 5 .ld [.r 4] (some (.r 2, false)) <|
 .q 6 .mv [.s 0] (some (.r 2, false)) <|
 .q 7 .nl [.r 6] (some (.r 2, false)) <|
 .q 8 (.fld 1) [.r 7] (some (.r 2, false)) <|
 .q 9 .ld [.r 8] (some (.r 2, false)) <|
 .q 10 .neq [.r 5, .r 9] (some (.r 2, false)) <|
 .q 11 .pick [.r 2, .c (.bool true), .r 10] none <|
 .q 13 .mv [.s 0] (some (.r 11, false)) <|
 .q 14 (.fld 1) [.s 3] (some (.r 11, false)) <|
 .q 15 .ld [.r 14] (some (.r 11, false)) <|
 .x 16 (.call 134) [.r 13, .r 15] (some (.r 11, false)) [] <|
 .q 17 .not [.r 16] (some (.r 11, false)) <|
 .q 18 .pick [.r 11, .c (.bool true), .r 17] none <|
 .q 20 (.fld 0) [.s 3] (some (.r 18, false)) <|
 .q 21 .ld [.r 20] (some (.r 18, false)) <|
 .q 22 .geq [.r 21, .c (.int .i64 9)] (some (.r 18, false)) <|
 .q 23 .pick [.r 18, .c (.bool true), .r 22] none <|
 .q 25 .mv [.s 0] (some (.r 23, false)) <|
 .q 26 (.fld 3) [.s 3] (some (.r 23, false)) <|
 .q 27 (.fld 0) [.r 26] (some (.r 23, false)) <|
 .q 28 .ld [.r 27] (some (.r 23, false)) <|
 .x 29 (.call 134) [.r 25, .r 28] (some (.r 23, false)) [] <|
 .q 30 .not [.r 29] (some (.r 23, false)) <|
 .q 31 .pick [.r 23, .c (.bool true), .r 30] none <|
 .out [(0, .s 0), (3, .s 3), (37, .r 31)]
def e48r2 : EE := .out [(4, .c (.bool false))]
def e48r3 : EE := .q 0 (.fld 0) [.s 3] none <|
 .q 1 .ld [.r 0] none <|
 .q 2 .eql [.r 1, .c (.int .i64 1)] none <|
 .q 4 (.fld 0) [.s 3] (some (.r 2, false)) <|
 .q 5 .ld [.r 4] (some (.r 2, false)) <|
 .q 6 .eql [.r 5, .c (.int .i64 3)] (some (.r 2, false)) <|
 .q 7 .pick [.r 2, .c (.bool true), .r 6] none <|
 .q 9 (.fld 0) [.s 3] (some (.r 7, false)) <|
 .q 10 .ld [.r 9] (some (.r 7, false)) <|
 .q 11 .eql [.r 10, .c (.int .i64 6)] (some (.r 7, false)) <|
 .q 12 .pick [.r 7, .c (.bool true), .r 11] none <|
 .out [(0, .s 0), (3, .s 3), (5, .r 12)]
def e48r4 : EE := .q 1 .nl [.s 0] none <|
 .q 2 (.fld 2) [.r 1] none <|
 .q 3 .ld [.r 2] none <|
 .q 4 (.fld 3) [.s 3] none <|
 .q 5 (.lda 2) [.r 4] none <|
 .x 6 (.call 135) [.r 3, .r 5] none [] <|
 .out [(0, .s 0), (3, .s 3), (5, .s 5), (57, .r 6)]
def e48r5 : EE := .out [(4, .s 5)]
def e48r6 : EE := .out [(0, .s 0), (3, .s 3), (62, .s 5)]
def e48r7 : EE := .q 1 (.lda 51) [.s 3] none <|
 .x 2 (.call 136) [.s 0, .r 1] none [] <|
 .out []
def e48r8 : EE := .q 0 (.fld 0) [.s 3] none <|
 .q 1 .ld [.r 0] none <|
 .q 2 .eql [.r 1, .c (.int .i64 5)] none <|
 .out [(0, .s 0), (3, .s 3), (67, .r 2)]
def e48r9 : EE := .q 1 (.lda 51) [.s 3] none <|
 .x 2 (.call 137) [.s 0, .r 1] none [] <|
 .out []
def e48r10 : EE := .q 0 (.fld 0) [.s 3] none <|
 .q 1 .ld [.r 0] none <|
 .q 2 .eql [.r 1, .c (.int .i64 8)] none <|
 .out [(0, .s 0), (3, .s 3), (74, .r 2)]
def e48r11 : EE := .q 1 (.lda 51) [.s 3] none <|
 .x 2 (.call 138) [.s 0, .r 1] none [] <|
 .out []
def e48r12 : EE := .q 1 (.lda 51) [.s 3] none <|
 .x 2 (.call 139) [.s 0, .r 1] none [] <|
 .out []
def e48r13 : EE := .out [(4, .c (.bool false))]
def e48 : EFn := ⟨(.seq (.reg e48r0 [0, 1] 0) (.seq (.seq (.reg e48r1 [0, 3] 0) (.cond (.s 37) (.seq (.reg e48r2 [] 0) .ret) .skip)) (.seq (.reg e48r3 [0, 3] 0) (.seq (.seq (.reg e48r4 [0, 3, 5] 0) (.cond (.s 57) (.seq (.reg e48r5 [5] 0) .ret) .skip)) (.seq (.block 0 (.seq (.reg e48r6 [0, 3, 5] 0) (.cond (.s 62) (.reg e48r7 [0, 3] 0) (.seq (.reg e48r8 [0, 3] 0) (.cond (.s 67) (.reg e48r9 [0, 3] 0) (.seq (.reg e48r10 [0, 3] 0) (.cond (.s 74) (.reg e48r11 [0, 3] 0) (.reg e48r12 [0, 3] 0)))))))) (.seq (.reg e48r13 [] 0) .ret)))))), [.slot 4], 81, 0⟩
theorem g48 : Good Tryz.prog 48 e48 := ⟨Tryz.f48, Tryz.func48, by kernel_rfl, by kernel_rfl, by kernel_rfl, by kernel_rfl⟩
/-! concord/state.same -/
def e50r0 : EE := .x 0 (.box 56) [.s 0] none [] <|
 .x 1 (.box 56) [.s 1] none [] <|
 .out [(2, .r 0), (3, .r 1)]
def e50r1 : EE := .q 0 (.fld 0) [.s 2] none <|
 .q 1 .ld [.r 0] none <|
 .q 2 (.fld 0) [.s 3] none <|
 .q 3 .ld [.r 2] none <|
 .q 4 .eql [.r 1, .r 3] none <|
 .q 6 (.fld 1) [.s 2] (some (.r 4, true)) <|
 .q 7 .ld [.r 6] (some (.r 4, true)) <|
 .q 8 (.fld 1) [.s 3] (some (.r 4, true)) <|
 .q 9 .ld [.r 8] (some (.r 4, true)) <|
 .q 10 (.beq false) [.r 7, .r 9] (some (.r 4, true)) <|
 .q 11 .pick [.r 4, .r 10, .c (.bool false)] none <|
 .q 13 (.fld 2) [.s 2] (some (.r 11, true)) <|
 .q 14 .ld [.r 13] (some (.r 11, true)) <|
 .q 15 (.fld 2) [.s 3] (some (.r 11, true)) <|
 .q 16 .ld [.r 15] (some (.r 11, true)) <|
 .q 17 .seql [.r 14, .r 16] (some (.r 11, true)) <|
 .q 18 .pick [.r 11, .r 17, .c (.bool false)] none <|
 .q 20 (.fld 3) [.s 2] (some (.r 18, true)) <|
 .q 21 .ld [.r 20] (some (.r 18, true)) <|
 .q 22 (.fld 3) [.s 3] (some (.r 18, true)) <|
 .q 23 .ld [.r 22] (some (.r 18, true)) <|
 .q 24 .eql [.r 21, .r 23] (some (.r 18, true)) <|
 .q 25 .pick [.r 18, .r 24, .c (.bool false)] none <|
 .q 27 (.fld 4) [.s 2] (some (.r 25, true)) <|
 .q 28 .ld [.r 27] (some (.r 25, true)) <|
 .q 29 (.fld 4) [.s 3] (some (.r 25, true)) <|
 .q 30 .ld [.r 29] (some (.r 25, true)) <|
 .x 31 (.call 51) [.r 28, .r 30] (some (.r 25, true)) [] <|
 .q 32 .pick [.r 25, .r 31, .c (.bool false)] none <|
 .out [(4, .r 32)]
def e50 : EFn := ⟨(.seq (.reg e50r0 [0, 1] 0) (.seq (.reg e50r1 [2, 3] 0) .ret)), [.slot 4], 38, 0⟩
theorem g50 : Good Tryz.prog 50 e50 := ⟨Tryz.f50, Tryz.func50, by kernel_rfl, by kernel_rfl, by kernel_rfl, by kernel_rfl⟩
/-! slices.Equal[[]concord/api.Pair,concord/api.Pair] -/
def e51r0 : EE := .out [(0, .s 0), (1, .s 1)]
def e51r1 : EE := .q 1 .len [.s 0] none <|
 .q 3 .len [.s 1] none <|
 .q 4 .neq [.r 1, .r 3] none <|
 .out [(0, .s 0), (1, .s 1), (10, .r 4)]
def e51r2 : EE := .out [(4, .c (.bool false))]
def e51r3 : EE := .q 1 .len [.s 0] none <|
 .out [(0, .s 0), (1, .s 1), (12, .r 1), (13, .c z)]
def e51r4 : EE := .q 0 .lss [.s 13, .s 12] none <|
 .out [(0, .s 0), (1, .s 1), (12, .s 12), (13, .s 13), (14, .r 0)]
def e51r5 : EE := .out [(0, .s 0), (1, .s 1), (5, .s 13), (12, .s 12), (13, .s 13)]
def e51r6 : EE := .q 2 (.ixs 3) [.s 0, .s 5] none <|
 .q 3 (.lda 3) [.r 2] none <|
 .q 6 (.ixs 3) [.s 1, .s 5] none <|
 .q 7 (.lda 3) [.r 6] none <|
 .q 8 (.eqc true [.s, .s, (.i .i64)]) [.r 3, .r 7] none <|
 .out [(0, .s 0), (1, .s 1), (12, .s 12), (13, .s 13), (24, .r 8)]
def e51r7 : EE := .out [(4, .c (.bool false))]
def e51r8 : EE := .q 0 .add [.s 13, .c (.int .i64 1)] none <|
 .out [(0, .s 0), (1, .s 1), (12, .s 12), (13, .r 0)]
def e51l9 : EC := (.seq (.reg e51r4 [0, 1, 12, 13] 0) (.seq (.cond (.s 14) .skip (.exit 0)) (.seq (.block 1 (.seq (.reg e51r5 [0, 1, 12, 13] 0) (.seq (.reg e51r6 [0, 1, 5, 12, 13] 0) (.cond (.s 24) (.seq (.reg e51r7 [] 0) .ret) .skip)))) (.reg e51r8 [0, 1, 12, 13] 0))))
def e51r10 : EE := .out [(4, .c (.bool true))]
def e51 : EFn := ⟨(.seq (.reg e51r0 [0, 1] 0) (.seq (.seq (.reg e51r1 [0, 1] 0) (.cond (.s 10) (.seq (.reg e51r2 [] 0) .ret) .skip)) (.seq (.seq (.reg e51r3 [0, 1] 0) (.block 0 (.loop [0, 1, 12, 13] e51l9))) (.seq (.reg e51r10 [] 0) .ret)))), [.slot 4], 26, 0⟩
theorem g51 : Good Tryz.prog 51 e51 := ⟨Tryz.f51, Tryz.func51, by kernel_rfl, by kernel_rfl, by kernel_rfl, by kernel_rfl⟩
/-! concord/state.Play -/
def e52r0 : EE := .x 0 (.box 61) [.s 0] none [] <|
 .x 1 (.alc [.nsl, z, z, (.bool false), zs, z, .nsl, z, z, (.bool false), zs, z, .nsl, z, z, (.bool false), zs, z, .nsl, z, z, (.bool false), zs, z, .nsl, z, z, (.bool false), zs, z, .nsl, z, z, (.bool false), zs, z, .nsl, z, z, (.bool false), zs, z, .nsl, z, z, (.bool false), zs, z, .nsl] 61) [] none [] <|
 .out [(1, .s 1), (2, .r 0), (4, .r 1)]
def e52r1 : EE := .q 0 (.lda 49) [.s 2] none <|
 .x 1 (.call 140) [.r 0] none [] <|
 .x 2 (.st 49) [.s 2, .r 1] none [] <|
 .out [(1, .s 1), (2, .s 2), (4, .s 4)]
def e52r2 : EE := .out [(1, .s 1), (2, .s 2), (4, .s 4), (6, .c .nsl)]
def e52r3 : EE := .q 1 .len [.s 1] none <|
 .out [(2, .s 2), (4, .s 4), (6, .s 6), (12, .s 1), (13, .r 1), (14, .c z)]
def e52r4 : EE := .q 0 .lss [.s 14, .s 13] none <|
 .out [(2, .s 2), (4, .s 4), (6, .s 6), (12, .s 12), (13, .s 13), (14, .s 14), (15, .r 0)]
def e52r5 : EE := .q 0 (.ixs 7) [.s 12, .s 14] none <|
 .q 1 (.lda 7) [.r 0] none <|
 .x 2 (.alc [z, z, z, zs, zs, zs, zs] 33) [] none [] <|
 .x 3 (.st 7) [.r 2, .r 1] none [] <|
 .out [(2, .s 2), (4, .s 4), (6, .s 6), (8, .r 2), (12, .s 12), (13, .s 13), (14, .s 14)]
def e52r6 : EE := .x 0 (.alc [z, (.bool false), zs, z, .nsl] 56) [] none [] <|
 .out [(2, .s 2), (4, .s 4), (6, .s 6), (8, .s 8), (9, .r 0), (12, .s 12), (13, .s 13), (14, .s 14)]
def e52r7 : EE := .q 0 (.lda 49) [.s 2] none <|
 .q 1 (.lda 7) [.s 8] none <|
 .x 2 (.call 141) [.r 0, .r 1] none [] <|
 .q 4 (.ext 0) [.r 2] none <|
 .q 5 (.ext 1) [.r 2] none <|
 .x 6 (.st 49) [.s 2, .r 4] none [] <|
 .x 7 (.st 5) [.s 9, .r 5] none [] <|
 .out [(2, .s 2), (4, .s 4), (6, .s 6), (9, .s 9), (12, .s 12), (13, .s 13), (14, .s 14)]
def e52r8 : EE := .q 1 (.lda 5) [.s 9] none <|
 .x 2 (.bsl 56 1 [z, (.bool false), zs, z, .nsl] [(0, 5)]) [.r 1] none [] <|
 .x 3 (.app 56 5 64 [z, (.bool false), zs, z, .nsl]) [.s 6, .r 2] none [] <|
 .out [(2, .s 2), (4, .s 4), (6, .r 3), (12, .s 12), (13, .s 13), (14, .s 14)]
def e52r9 : EE := .q 0 .add [.s 14, .c (.int .i64 1)] none <|
 .out [(2, .s 2), (4, .s 4), (6, .s 6), (12, .s 12), (13, .s 13), (14, .r 0)]
def e52l10 : EC := (.seq (.reg e52r4 [2, 4, 6, 12, 13, 14] 0) (.seq (.cond (.s 15) .skip (.exit 0)) (.seq (.block 1 (.seq (.reg e52r5 [2, 4, 6, 12, 13, 14] 0) (.seq (.reg e52r6 [2, 4, 6, 8, 12, 13, 14] 0) (.seq (.reg e52r7 [2, 4, 6, 8, 9, 12, 13, 14] 0) (.reg e52r8 [2, 4, 6, 9, 12, 13, 14] 0))))) (.reg e52r9 [2, 4, 6, 12, 13, 14] 0))))
def e52r11 : EE := .q 0 (.lda 49) [.s 2] none <|
 .x 2 (.st 49) [.s 4, .r 0] none [] <|
 .out [(4, .s 4), (5, .s 6)]
def e52 : EFn := ⟨(.seq (.reg e52r0 [0, 1] 0) (.seq (.reg e52r1 [1, 2, 4] 0) (.seq (.reg e52r2 [1, 2, 4] 0) (.seq (.seq (.reg e52r3 [1, 2, 4, 6] 0) (.block 0 (.loop [2, 4, 6, 12, 13, 14] e52l10))) (.seq (.reg e52r11 [2, 4, 6] 0) .ret))))), [.cells 4 49, .slot 5], 31, 0⟩
theorem g52 : Good Tryz.prog 52 e52 := ⟨Tryz.f52, Tryz.func52, by kernel_rfl, by kernel_rfl, by kernel_rfl, by kernel_rfl⟩
/-! concord/client.New -/
def e53r0 : EE := .out [(0, .s 0)]
def e53r1 : EE := .q 1 .lss [.s 0, .c (.int .i64 1)] none <|
 .q 3 .mv [.s 0] (some (.r 1, false)) <|
 .q 4 .gtr [.r 3, .c (.int .i64 8)] (some (.r 1, false)) <|
 .q 5 .pick [.r 1, .c (.bool true), .r 4] none <|
 .out [(0, .s 0), (9, .r 5)]
def e53r2 : EE := .out [(2, .c .nptr), (3, .c (.int .i64 1))]
def e53r3 : EE := .q 1 (.bld [z, z, z, z, z, zs, zs, zs, zs, (.bool false), z, z] [(0, 1)]) [.s 0] none <|
 .x 2 (.box 244) [.r 1] none [] <|
 .out [(2, .r 2), (3, .c z)]
def e53 : EFn := ⟨(.seq (.reg e53r0 [0] 0) (.seq (.seq (.reg e53r1 [0] 0) (.cond (.s 9) (.seq (.reg e53r2 [] 0) .ret) .skip)) (.seq (.reg e53r3 [0] 0) .ret))), [.slot 2, .slot 3], 13, 0⟩
theorem g53 : Good Tryz.prog 53 e53 := ⟨Tryz.f53, Tryz.func53, by kernel_rfl, by kernel_rfl, by kernel_rfl, by kernel_rfl⟩
/-! (*concord/cluster.Cluster).out -/
def e54r0 : EE := .q 1 .nl [.s 0] none <|
 .q 2 (.fld 2) [.r 1] none <|
 .q 3 .ld [.r 2] none <|
 .q 5 (.ixs 1) [.r 3, .s 1] none <|
 .q 6 .ld [.r 5] none <|
 .x 7 (.call 13) [.r 6] none [] <|
 .q 9 (.ext 0) [.r 7] none <|
 .q 10 (.ext 1) [.r 7] none <|
 .out [(0, .s 0), (4, .r 9), (5, .r 10)]
def e54r1 : EE := .q 1 .len [.s 4] none <|
 .out [(0, .s 0), (5, .s 5), (21, .s 4), (22, .r 1), (23, .c z)]
def e54r2 : EE := .q 0 .lss [.s 23, .s 22] none <|
 .out [(0, .s 0), (5, .s 5), (21, .s 21), (22, .s 22), (23, .s 23), (24, .r 0)]
def e54r3 : EE := .q 0 (.ixs 51) [.s 21, .s 23] none <|
 .q 1 (.lda 51) [.r 0] none <|
 .x 2 (.alc [z, z, z, z, z, z, z, z, z, z, zs, zs, zs, zs, z, z, z, z, z, z, z, z, z, z, z, z, z, z, z, z, zs, zs, zs, zs, z, z, z, z, z, z, z, z, (.bool false), z, z, z, z, z, z, z, zs] 50) [] none [] <|
 .x 3 (.st 51) [.r 2, .r 1] none [] <|
 .out [(0, .s 0), (5, .s 5), (7, .r 2), (21, .s 21), (22, .s 22), (23, .s 23)]
def e54r4 : EE := .q 0 (.fld 2) [.s 7] none <|
 .q 1 .ld [.r 0] none <|
 .q 3 .nl [.s 0] none <|
 .q 4 (.fld 0) [.r 3] none <|
 .q 5 .ld [.r 4] none <|
 .q 6 .lss [.r 1, .r 5] none <|
 .q 8 .mv [.s 0] (some (.r 6, true)) <|
 .q 9 .nl [.r 8] (some (.r 6, true)) <|
 .q 10 (.fld 5) [.r 9] (some (.r 6, true)) <|
 .q 11 .ld [.r 10] (some (.r 6, true)) <|
 .q 12 .len [.r 11] (some (.r 6, true)) <|
 .q 13 .lss [.r 12, .c (.int .i64 4000)] (some (.r 6, true)) <|
 .q 14 .pick [.r 6, .r 13, .c (.bool false)] none <|
 .out [(0, .s 0), (5, .s 5), (7, .s 7), (21, .s 21), (22, .s 22), (23, .s 23), (41, .r 14)]
def e54r5 : EE := .q 2 .nl [.s 0] none <|
 .q 3 (.fld 5) [.r 2] none <|
 .q 4 .ld [.r 3] none <|
 .q 5 (.lda 51) [.s 7] none <|
 .x 6 (.bsl 50 1 [z, z, z, z, z, z, z, z, z, z, zs, zs, zs, zs, z, z, z, z, z, z, z, z, z, z, z, z, z, z, z, z, zs, zs, zs, zs, z, z, z, z, z, z, z, z, (.bool false), z, z, z, z, z, z, z, zs] [(0, 51)]) [.r 5] none [⟨4, .ld, [.r 3], none⟩] <|
 .x 7 (.app 50 51 480 [z, z, z, z, z, z, z, z, z, z, zs, zs, zs, zs, z, z, z, z, z, z, z, z, z, z, z, z, z, z, z, z, zs, zs, zs, zs, z, z, z, z, z, z, z, z, (.bool false), z, z, z, z, z, z, z, zs]) [.r 4, .r 6] none [] <|
 .q 8 .nl [.s 0] none <|
 .q 9 (.fld 5) [.r 8] none <|
 .x 10 (.st 1) [.r 9, .r 7] none [] <|
 .out [(0, .s 0), (5, .s 5), (21, .s 21), (22, .s 22), (23, .s 23)]
def e54r6 : EE := .q 0 .add [.s 23, .c (.int .i64 1)] none <|
 .out [(0, .s 0), (5, .s 5), (21, .s 21), (22, .s 22), (23, .r 0)]
def e54l7 : EC := (.seq (.reg e54r2 [0, 5, 21, 22, 23] 0) (.seq (.cond (.s 24) .skip (.exit 0)) (.seq (.block 1 (.seq (.reg e54r3 [0, 5, 21, 22, 23] 0) (.seq (.reg e54r4 [0, 5, 7, 21, 22, 23] 0) (.cond (.s 41) (.reg e54r5 [0, 5, 7, 21, 22, 23] 0) .skip)))) (.reg e54r6 [0, 5, 21, 22, 23] 0))))
def e54r8 : EE := .q 1 .len [.s 5] none <|
 .out [(0, .s 0), (53, .s 5), (54, .r 1), (55, .c z)]
def e54r9 : EE := .q 0 .lss [.s 55, .s 54] none <|
 .out [(0, .s 0), (53, .s 53), (54, .s 54), (55, .s 55), (56, .r 0)]
def e54r10 : EE := .q 0 (.ixs 7) [.s 53, .s 55] none <|
 .q 1 (.lda 7) [.r 0] none <|
 .x 2 (.alc [z, z, z, (.bool false), zs, z, .nsl] 246) [] none [] <|
 .x 3 (.st 7) [.r 2, .r 1] none [] <|
 .out [(0, .s 0), (9, .r 2), (53, .s 53), (54, .s 54), (55, .s 55)]
def e54r11 : EE := .q 0 (.fld 0) [.s 9] none <|
 .q 1 .ld [.r 0] none <|
 .x 2 (.call 65) [.r 1] none [] <|
 .q 4 .mv [.s 0] (some (.r 2, true)) <|
 .q 5 .nl [.r 4] (some (.r 2, true)) <|
 .q 6 (.fld 3) [.r 5] (some (.r 2, true)) <|
 .q 7 .ld [.r 6] (some (.r 2, true)) <|
 .q 8 (.fld 0) [.s 9] (some (.r 2, true)) <|
 .q 9 .ld [.r 8] (some (.r 2, true)) <|
 .q 10 .sub [.r 9, .c (.int .i64 1)] (some (.r 2, true)) <|
 .q 11 (.ixs 1) [.r 7, .r 10] (some (.r 2, true)) <|
 .q 12 .ld [.r 11] (some (.r 2, true)) <|
 .q 13 (.lda 7) [.s 9] (some (.r 2, true)) <|
 .x 14 (.call 142) [.r 12, .r 13] (some (.r 2, true)) [] <|
 .q 15 .pick [.r 2, .r 14, .c (.bool false)] none <|
 .out [(0, .s 0), (9, .s 9), (53, .s 53), (54, .s 54), (55, .s 55), (74, .r 15)]
def e54r12 : EE := .q 0 (.fld 2) [.s 9] none <|
 .q 1 (.fld 4) [.r 0] none <|
 .q 2 .ld [.r 1] none <|
 .x 3 (.call 64) [.r 2] none [] <|
 .q 4 (.fld 2) [.s 9] none <|
 .q 5 (.fld 4) [.r 4] none <|
 .x 6 (.st 1) [.r 5, .r 3] none [] <|
 .out [(0, .s 0), (9, .s 9), (53, .s 53), (54, .s 54), (55, .s 55)]
def e54r13 : EE := .q 2 .nl [.s 0] none <|
 .q 3 (.fld 6) [.r 2] none <|
 .q 4 .ld [.r 3] none <|
 .q 5 (.fld 0) [.s 9] none <|
 .q 6 .ld [.r 5] none <|
 .q 8 .nl [.s 0] none <|
 .q 9 (.fld 4) [.r 8] none <|
 .q 10 .ld [.r 9] none <|
 .q 11 (.fld 0) [.s 9] none <|
 .q 12 .ld [.r 11] none <|
 .q 13 .sub [.r 12, .c (.int .i64 1)] none <|
 .q 14 (.ixs 7) [.r 10, .r 13] none <|
 .q 15 (.lda 7) [.r 14] none <|
 .q 16 (.fld 2) [.s 9] none <|
 .q 17 (.lda 5) [.r 16] none <|
 .q 18 (.bld [z, z, z, z, z, zs, zs, zs, zs, z, (.bool false), zs, z, .nsl] [(0, 1), (1, 1), (2, 7), (9, 5)]) [.c (.int .i64 2), .r 6, .r 15, .r 17] none <|
 .x 19 (.bsl 74 1 [z, z, z, z, z, zs, zs, zs, zs, z, (.bool false), zs, z, .nsl] [(0, 14)]) [.r 18] none [⟨4, .ld, [.r 3], none⟩] <|
 .x 20 (.app 74 14 168 [z, z, z, z, z, zs, zs, zs, zs, z, (.bool false), zs, z, .nsl]) [.r 4, .r 19] none [] <|
 .q 21 .nl [.s 0] none <|
 .q 22 (.fld 6) [.r 21] none <|
 .x 23 (.st 1) [.r 22, .r 20] none [] <|
 .out [(0, .s 0), (53, .s 53), (54, .s 54), (55, .s 55)]
def e54r14 : EE := .q 0 .add [.s 55, .c (.int .i64 1)] none <|
 .out [(0, .s 0), (53, .s 53), (54, .s 54), (55, .r 0)]
def e54l15 : EC := (.seq (.reg e54r9 [0, 53, 54, 55] 0) (.seq (.cond (.s 56) .skip (.exit 2)) (.seq (.block 3 (.seq (.reg e54r10 [0, 53, 54, 55] 0) (.seq (.reg e54r11 [0, 9, 53, 54, 55] 0) (.cond (.s 74) (.seq (.reg e54r12 [0, 9, 53, 54, 55] 0) (.reg e54r13 [0, 9, 53, 54, 55] 0)) .skip)))) (.reg e54r14 [0, 53, 54, 55] 0))))
def e54 : EFn := ⟨(.seq (.reg e54r0 [0, 1] 0) (.seq (.seq (.reg e54r1 [0, 4, 5] 0) (.block 0 (.loop [0, 5, 21, 22, 23] e54l7))) (.seq (.reg e54r8 [0, 5] 0) (.block 2 (.loop [0, 53, 54, 55] e54l15))))), [], 105, 0⟩
theorem g54 : Good Tryz.prog 54 e54 := ⟨Tryz.f54, Tryz.func54, by kernel_rfl, by kernel_rfl, by kernel_rfl, by kernel_rfl⟩
/-! (*concord/cluster.Cluster).call -/
def e55r0 : EE := .x 0 (.box 70) [.s 1] none [] <|
 .out [(0, .s 0), (3, .r 0)]
def e55r1 : EE := .q 0 (.fld 3) [.s 3] none <|
 .q 1 .ld [.r 0] none <|
 .x 2 (.call 65) [.r 1] none [] <|
 .q 3 .not [.r 2] none <|
 .q 5 (.fld 1) [.s 3] (some (.r 3, false)) <|
 .q 6 .ld [.r 5] (some (.r 3, false)) <|
 .q 7 .lss [.r 6, .c z] (some (.r 3, false)) <|
 .q 8 .pick [.r 3, .c (.bool true), .r 7] none <|
 .q 10 (.fld 1) [.s 3] (some (.r 8, false)) <|
 .q 11 .ld [.r 10] (some (.r 8, false)) <|
 .q 12 .mv [.s 0] (some (.r 8, false)) <|
 .q 13 .nl [.r 12] (some (.r 8, false)) <|
 .q 14 (.fld 0) [.r 13] (some (.r 8, false)) <|
 .q 15 .ld [.r 14] (some (.r 8, false)) <|
 .q 16 .geq [.r 11, .r 15] (some (.r 8, false)) <|
 .q 17 .pick [.r 8, .c (.bool true), .r 16] none <|
 .out [(0, .s 0), (3, .s 3), (24, .r 17)]
def e55r2 : EE := .out [(4, .c (.bool false))]
def e55r3 : EE := .q 1 .nl [.s 0] none <|
 .q 2 (.fld 3) [.r 1] none <|
 .q 3 .ld [.r 2] none <|
 .q 4 (.fld 3) [.s 3] none <|
 .q 5 .ld [.r 4] none <|
 .q 6 .sub [.r 5, .c (.int .i64 1)] none <|
 .q 7 (.ixs 1) [.r 3, .r 6] none <|
 .q 8 .ld [.r 7] none <|
 .q 9 (.fld 4) [.s 3] none <|
 .q 10 (.lda 7) [.r 9] none <|
 .q 11 (.fld 1) [.s 3] none <|
 .q 12 .ld [.r 11] none <|
 .both false
 (.x 13 (.call 143) [.r 8, .r 10, .r 12] none [] <|
 .q 15 (.ext 0) [.r 13] none <|
 .q 16 (.ext 1) [.r 13] none <|
 .x 17 (.alc [z, z, z, zs, zs, zs, zs] 33) [] none [⟨3, .ld, [.r 2], none⟩, ⟨5, .ld, [.r 4], none⟩, ⟨8, .ld, [.r 7], none⟩, ⟨10, (.lda 7), [.r 9], none⟩, ⟨12, .ld, [.r 11], none⟩] <|
 .x 18 (.st 7) [.r 17, .r 15] none [] <|
 .out [(0, .s 0), (3, .s 3), (5, .r 17), (6, .r 16)])
 (.x 17 (.alc [z, z, z, zs, zs, zs, zs] 33) [] none [⟨3, .ld, [.r 2], none⟩, ⟨5, .ld, [.r 4], none⟩, ⟨8, .ld, [.r 7], none⟩, ⟨10, (.lda 7), [.r 9], none⟩, ⟨12, .ld, [.r 11], none⟩] <|
 .x 13 (.call 143) [.r 8, .r 10, .r 12] none [] <|
 .q 15 (.ext 0) [.r 13] none <|
 .q 16 (.ext 1) [.r 13] none <|
 .x 18 (.st 7) [.r 17, .r 15] none [] <|
 .out [(0, .s 0), (3, .s 3), (5, .r 17), (6, .r 16)])
def e55r4 : EE := .q 1 .not [.s 6] none <|
 .out [(0, .s 0), (3, .s 3), (5, .s 5), (43, .r 1)]
def e55r5 : EE := .out [(4, .c (.bool false))]
def e55r6 : EE := .q 1 .nl [.s 0] none <|
 .q 2 (.fld 4) [.r 1] none <|
 .q 3 .ld [.r 2] none <|
 .q 4 (.fld 3) [.s 3] none <|
 .q 5 .ld [.r 4] none <|
 .q 6 .sub [.r 5, .c (.int .i64 1)] none <|
 .q 7 (.lda 7) [.s 5] none <|
 .q 8 (.ixs 7) [.r 3, .r 6] none <|
 .x 9 (.st 7) [.r 8, .r 7] none [] <|
 .out [(0, .s 0), (3, .s 3), (5, .s 5)]
def e55r7 : EE := .q 2 .nl [.s 0] none <|
 .q 3 (.fld 6) [.r 2] none <|
 .q 4 .ld [.r 3] none <|
 .q 5 (.fld 3) [.s 3] none <|
 .q 6 .ld [.r 5] none <|
 .q 7 (.lda 7) [.s 5] none <|
 .q 8 (.bld [z, z, z, z, z, zs, zs, zs, zs, z, (.bool false), zs, z, .nsl] [(0, 1), (1, 1), (2, 7)]) [.c (.int .i64 1), .r 6, .r 7] none <|
 .x 9 (.bsl 74 1 [z, z, z, z, z, zs, zs, zs, zs, z, (.bool false), zs, z, .nsl] [(0, 14)]) [.r 8] none [⟨4, .ld, [.r 3], none⟩] <|
 .x 10 (.app 74 14 168 [z, z, z, z, z, zs, zs, zs, zs, z, (.bool false), zs, z, .nsl]) [.r 4, .r 9] none [] <|
 .q 11 .nl [.s 0] none <|
 .q 12 (.fld 6) [.r 11] none <|
 .x 13 (.st 1) [.r 12, .r 10] none [] <|
 .out [(0, .s 0), (3, .s 3), (5, .s 5)]
def e55r8 : EE := .q 1 (.lda 7) [.s 5] none <|
 .q 2 (.fld 1) [.s 3] none <|
 .q 3 .ld [.r 2] none <|
 .x 4 (.call 144) [.s 0, .r 1, .r 3] none [] <|
 .out []
def e55r9 : EE := .out [(4, .c (.bool true))]
def e55 : EFn := ⟨(.seq (.reg e55r0 [0, 1] 0) (.seq (.seq (.reg e55r1 [0, 3] 0) (.cond (.s 24) (.seq (.reg e55r2 [] 0) .ret) .skip)) (.seq (.reg e55r3 [0, 3] 19) (.seq (.seq (.reg e55r4 [0, 3, 5, 6] 0) (.cond (.s 43) (.seq (.reg e55r5 [] 0) .ret) .skip)) (.seq (.reg e55r6 [0, 3, 5] 0) (.seq (.reg e55r7 [0, 3, 5] 0) (.seq (.reg e55r8 [0, 3, 5] 0) (.seq (.reg e55r9 [] 0) .ret)))))))), [.slot 4], 71, 0⟩
theorem g55 : Good Tryz.prog 55 e55 := ⟨Tryz.f55, Tryz.func55, by kernel_rfl, by kernel_rfl, by kernel_rfl, by kernel_rfl⟩
/-! (*concord/cluster.Cluster).letter -/
def e56r0 : EE := .x 0 (.box 70) [.s 1] none [] <|
 .out [(0, .s 0), (3, .r 0)]
def e56r1 : EE := .q 0 (.fld 1) [.s 3] none <|
 .q 1 .ld [.r 0] none <|
 .q 2 .lss [.r 1, .c z] none <|
 .q 4 (.fld 1) [.s 3] (some (.r 2, false)) <|
 .q 5 .ld [.r 4] (some (.r 2, false)) <|
 .q 6 .mv [.s 0] (some (.r 2, false)) <|
 .q 7 .nl [.r 6] (some (.r 2, false)) <|
 .q 8 (.fld 5) [.r 7] (some (.r 2, false)) <|
 .q 9 .ld [.r 8] (some (.r 2, false)) <|
 .q 10 .len [.r 9] (some (.r 2, false)) <|
 .q 11 .geq [.r 5, .r 10] (some (.r 2, false)) <|
 .q 12 .pick [.r 2, .c (.bool true), .r 11] none <|
 .out [(0, .s 0), (3, .s 3), (19, .r 12)]
def e56r2 : EE := .out [(4, .c (.bool false))]
def e56r3 : EE := .q 1 .nl [.s 0] none <|
 .q 2 (.fld 5) [.r 1] none <|
 .q 3 .ld [.r 2] none <|
 .q 4 (.fld 1) [.s 3] none <|
 .q 5 .ld [.r 4] none <|
 .q 6 (.ixs 51) [.r 3, .r 5] none <|
 .q 7 (.lda 51) [.r 6] none <|
 .x 8 (.alc [z, z, z, z, z, z, z, z, z, z, zs, zs, zs, zs, z, z, z, z, z, z, z, z, z, z, z, z, z, z, z, z, zs, zs, zs, zs, z, z, z, z, z, z, z, z, (.bool false), z, z, z, z, z, z, z, zs] 50) [] none [⟨3, .ld, [.r 2], none⟩, ⟨5, .ld, [.r 4], none⟩, ⟨7, (.lda 51), [.r 6], none⟩] <|
 .x 9 (.st 51) [.r 8, .r 7] none [] <|
 .out [(0, .s 0), (3, .s 3), (5, .r 8)]
def e56r4 : EE := .q 0 (.fld 0) [.s 3] none <|
 .q 1 .ld [.r 0] none <|
 .q 2 .neq [.r 1, .c (.int .i64 3)] none <|
 .out [(0, .s 0), (3, .s 3), (5, .s 5), (30, .r 2)]
def e56r5 : EE := .q 2 .nl [.s 0] none <|
 .q 3 (.fld 5) [.r 2] none <|
 .q 4 .ld [.r 3] none <|
 .q 5 (.fld 1) [.s 3] none <|
 .q 6 .ld [.r 5] none <|
 .q 7 (.fld 1) [.s 3] none <|
 .q 8 .ld [.r 7] none <|
 .q 9 .add [.r 8, .c (.int .i64 1)] none <|
 .x 10 (.call 145) [.r 4, .r 6, .r 9] none [] <|
 .q 11 .nl [.s 0] none <|
 .q 12 (.fld 5) [.r 11] none <|
 .x 13 (.st 1) [.r 12, .r 10] none [] <|
 .out [(0, .s 0), (3, .s 3), (5, .s 5)]
def e56r6 : EE := .q 1 (.fld 2) [.s 5] none <|
 .q 2 .ld [.r 1] none <|
 .x 3 (.call 59) [.s 0, .r 2] none [] <|
 .out [(0, .s 0), (3, .s 3), (5, .s 5), (6, .r 3)]
def e56r7 : EE := .q 0 (.fld 0) [.s 3] none <|
 .q 1 .ld [.r 0] none <|
 .q 2 .neq [.r 1, .c (.int .i64 4)] none <|
 .q 4 .mv [.s 6] (some (.r 2, true)) <|
 .q 5 (.eqp true) [.r 4, .c .nptr] (some (.r 2, true)) <|
 .q 6 .pick [.r 2, .r 5, .c (.bool false)] none <|
 .out [(0, .s 0), (5, .s 5), (6, .s 6), (54, .r 6)]
def e56r8 : EE := .q 1 (.lda 51) [.s 5] none <|
 .x 2 (.call 14) [.s 6, .r 1] none [] <|
 .out [(0, .s 0), (5, .s 5)]
def e56r9 : EE := .q 1 (.fld 2) [.s 5] none <|
 .q 2 .ld [.r 1] none <|
 .x 3 (.call 54) [.s 0, .r 2] none [] <|
 .out []
def e56r10 : EE := .out [(4, .c (.bool true))]
def e56 : EFn := ⟨(.seq (.reg e56r0 [0, 1] 0) (.seq (.seq (.reg e56r1 [0, 3] 0) (.cond (.s 19) (.seq (.reg e56r2 [] 0) .ret) .skip)) (.seq (.reg e56r3 [0, 3] 0) (.seq (.seq (.reg e56r4 [0, 3, 5] 0) (.cond (.s 30) (.reg e56r5 [0, 3, 5] 0) .skip)) (.seq (.seq (.reg e56r6 [0, 3, 5] 0) (.seq (.reg e56r7 [0, 3, 5, 6] 0) (.cond (.s 54) (.seq (.reg e56r8 [0, 5, 6] 0) (.reg e56r9 [0, 5] 0)) .skip))) (.seq (.reg e56r10 [] 0) .ret)))))), [.slot 4], 62, 0⟩
theorem g56 : Good Tryz.prog 56 e56 := ⟨Tryz.f56, Tryz.func56, by kernel_rfl, by kernel_rfl, by kernel_rfl, by kernel_rfl⟩
/-! (*concord/cluster.Cluster).Node -/
def e59r0 : EE := .out [(0, .s 0), (1, .s 1)]
def e59r1 : EE := .q 1 .lss [.s 1, .c z] none <|
 .q 3 .mv [.s 1] (some (.r 1, false)) <|
 .q 4 .mv [.s 0] (some (.r 1, false)) <|
 .q 5 .nl [.r 4] (some (.r 1, false)) <|
 .q 6 (.fld 0) [.r 5] (some (.r 1, false)) <|
 .q 7 .ld [.r 6] (some (.r 1, false)) <|
 .q 8 .geq [.r 3, .r 7] (some (.r 1, false)) <|
 .q 9 .pick [.r 1, .c (.bool true), .r 8] none <|
 .out [(0, .s 0), (1, .s 1), (14, .r 9)]
def e59r2 : EE := .out [(4, .c .nptr)]
def e59r3 : EE := .q 1 .nl [.s 0] none <|
 .q 2 (.fld 2) [.r 1] none <|
 .q 3 .ld [.r 2] none <|
 .q 5 (.ixs 1) [.r 3, .s 1] none <|
 .q 6 .ld [.r 5] none <|
 .out [(4, .r 6)]
def e59 : EFn := ⟨(.seq (.reg e59r0 [0, 1] 0) (.seq (.seq (.reg e59r1 [0, 1] 0) (.cond (.s 14) (.seq (.reg e59r2 [] 0) .ret) .skip)) (.seq (.reg e59r3 [0, 1] 0) .ret))), [.slot 4], 22, 0⟩
theorem g59 : Good Tryz.prog 59 e59 := ⟨Tryz.f59, Tryz.func59, by kernel_rfl, by kernel_rfl, by kernel_rfl, by kernel_rfl⟩
/-! slices.Clone[[]concord/api.Pair,concord/api.Pair] -/
def e64r0 : EE := .out [(0, .s 0)]
def e64r1 : EE := .q 1 (.eqs false) [.s 0, .c .nsl] none <|
 .out [(0, .s 0), (4, .r 1)]
def e64r2 : EE := .out [(2, .c .nsl)]
def e64r3 : EE := .x 0 (.bsl 124 0 [] []) [] none [] <|
 .x 2 (.app 124 3 40 [zs, zs, z]) [.r 0, .s 0] none [] <|
 .out [(2, .r 2)]
def e64 : EFn := ⟨(.seq (.reg e64r0 [0] 0) (.seq (.seq (.reg e64r1 [0] 0) (.cond (.s 4) (.seq (.reg e64r2 [] 0) .ret) .skip)) (.seq (.reg e64r3 [0] 0) .ret))), [.slot 2], 8, 0⟩
theorem g64 : Good Tryz.prog 64 e64 := ⟨Tryz.f64, Tryz.func64, by kernel_rfl, by kernel_rfl, by kernel_rfl, by kernel_rfl⟩
/-! concord/cluster.known -/
def e65r0 : EE := .out [(0, .s 0)]
def e65r1 : EE := .q 1 .geq [.s 0, .c (.int .i64 1)] none <|
 .q 3 .mv [.s 0] (some (.r 1, true)) <|
 .q 4 .leq [.r 3, .c (.int .i64 8)] (some (.r 1, true)) <|
 .q 5 .pick [.r 1, .r 4, .c (.bool false)] none <|
 .out [(2, .r 5)]
def e65 : EFn := ⟨(.seq (.reg e65r0 [0] 0) (.seq (.reg e65r1 [0] 0) .ret)), [.slot 2], 9, 0⟩
theorem g65 : Good Tryz.prog 65 e65 := ⟨Tryz.f65, Tryz.func65, by kernel_rfl, by kernel_rfl, by kernel_rfl, by kernel_rfl⟩
/-! concord/audit.up -/
def e69r0 : EE := .out [(0, .s 0)]
def e69r1 : EE := .out [(0, .s 0), (3, .c .nsl)]
def e69r2 : EE := .x 1 (.call 71) [.s 0] none [] <|
 .out [(0, .s 0), (3, .s 3), (7, .r 1), (8, .c z)]
def e69r3 : EE := .q 0 .lss [.s 8, .s 7] none <|
 .out [(0, .s 0), (3, .s 3), (7, .s 7), (8, .s 8), (9, .r 0)]
def e69r4 : EE := .out [(0, .s 0), (3, .s 3), (4, .s 8), (7, .s 7), (8, .s 8)]
def e69r5 : EE := .x 2 (.call 59) [.s 0, .s 4] none [] <|
 .out [(0, .s 0), (3, .s 3), (5, .r 2), (7, .s 7), (8, .s 8)]
def e69r6 : EE := .q 1 (.eqp true) [.s 5, .c .nptr] none <|
 .out [(0, .s 0), (3, .s 3), (5, .s 5), (7, .s 7), (8, .s 8), (15, .r 1)]
def e69r7 : EE := .x 2 (.bsl 28 1 [.nptr] [(0, 1)]) [.s 5] none [] <|
 .x 3 (.app 28 1 8 [.nptr]) [.s 3, .r 2] none [] <|
 .out [(0, .s 0), (3, .r 3), (7, .s 7), (8, .s 8)]
def e69r8 : EE := .q 0 .add [.s 8, .c (.int .i64 1)] none <|
 .out [(0, .s 0), (3, .s 3), (7, .s 7), (8, .r 0)]
def e69l9 : EC := (.seq (.reg e69r3 [0, 3, 7, 8] 0) (.seq (.cond (.s 9) .skip (.exit 0)) (.seq (.block 1 (.seq (.reg e69r4 [0, 3, 7, 8] 0) (.seq (.reg e69r5 [0, 3, 4, 7, 8] 0) (.seq (.reg e69r6 [0, 3, 5, 7, 8] 0) (.cond (.s 15) (.reg e69r7 [0, 3, 5, 7, 8] 0) .skip))))) (.reg e69r8 [0, 3, 7, 8] 0))))
def e69r10 : EE := .out [(2, .s 3)]
def e69 : EFn := ⟨(.seq (.reg e69r0 [0] 0) (.seq (.reg e69r1 [0] 0) (.seq (.seq (.reg e69r2 [0, 3] 0) (.block 0 (.loop [0, 3, 7, 8] e69l9))) (.seq (.reg e69r10 [3] 0) .ret)))), [.slot 2], 22, 0⟩
theorem g69 : Good Tryz.prog 69 e69 := ⟨Tryz.f69, Tryz.func69, by kernel_rfl, by kernel_rfl, by kernel_rfl, by kernel_rfl⟩
/-! concord/audit.committed -/
def e70r0 : EE := .out [(0, .s 0), (1, .s 1)]
def e70r1 : EE := .out [(0, .s 0), (1, .s 1), (7, .c .nsl)]
def e70r2 : EE := .x 0 .mkm [] none [] <|
 .out [(0, .s 0), (1, .s 1), (7, .s 7), (8, .r 0)]
def e70r3 : EE := .x 0 .mkm [] none [] <|
 .out [(0, .s 0), (1, .s 1), (7, .s 7), (8, .s 8), (9, .r 0)]
def e70r4 : EE := .q 1 .len [.s 0] none <|
 .out [(1, .s 1), (7, .s 7), (8, .s 8), (9, .s 9), (22, .s 0), (23, .r 1), (24, .c z)]
def e70r5 : EE := .q 0 .lss [.s 24, .s 23] none <|
 .out [(1, .s 1), (7, .s 7), (8, .s 8), (9, .s 9), (22, .s 22), (23, .s 23), (24, .s 24), (25, .r 0)]
def e70r6 : EE := .q 0 (.ixs 1) [.s 22, .s 24] none <|
 .q 1 .ld [.r 0] none <|
 .out [(1, .s 1), (7, .s 7), (8, .s 8), (9, .s 9), (11, .r 1), (22, .s 22), (23, .s 23), (24, .s 24)]
def e70r7 : EE := .x 1 (.call 150) [.s 11] none [] <|
 .x 2 (.alc [z, z, z, z, z, z, z] 44) [] none [] <|
 .x 3 (.st 7) [.r 2, .r 1] none [] <|
 .out [(1, .s 1), (7, .s 7), (8, .s 8), (9, .s 9), (11, .s 11), (12, .r 2), (22, .s 22), (23, .s 23), (24, .s 24)]
def e70r8 : EE := .out [(1, .s 1), (7, .s 7), (8, .s 8), (9, .s 9), (11, .s 11), (12, .s 12), (22, .s 22), (23, .s 23), (24, .s 24), (30, .s 1), (31, .c z)]
def e70r9 : EE := .q 0 .lss [.s 31, .s 30] none <|
 .out [(1, .s 1), (7, .s 7), (8, .s 8), (9, .s 9), (11, .s 11), (12, .s 12), (22, .s 22), (23, .s 23), (24, .s 24), (30, .s 30), (31, .s 31), (32, .r 0)]
def e70r10 : EE := .out [(1, .s 1), (7, .s 7), (8, .s 8), (9, .s 9), (11, .s 11), (12, .s 12), (13, .s 31), (22, .s 22), (23, .s 23), (24, .s 24), (30, .s 30), (31, .s 31)]
def e70r11 : EE := .x 1 (.call 151) [.s 11] none [] <|
 .q 3 (.idx 7 1) [.r 1, .s 13] none <|
 .q 4 .add [.r 3, .c (.int .i64 1)] none <|
 .out [(1, .s 1), (7, .s 7), (8, .s 8), (9, .s 9), (11, .s 11), (12, .s 12), (13, .s 13), (14, .r 4), (22, .s 22), (23, .s 23), (24, .s 24), (30, .s 30), (31, .s 31)]
def e70r12 : EE := .q 2 (.ixa 7 1) [.s 12, .s 13] none <|
 .q 3 .ld [.r 2] none <|
 .q 4 .leq [.s 14, .r 3] none <|
 .out [(1, .s 1), (7, .s 7), (8, .s 8), (9, .s 9), (11, .s 11), (12, .s 12), (13, .s 13), (14, .s 14), (22, .s 22), (23, .s 23), (24, .s 24), (30, .s 30), (31, .s 31), (43, .r 4)]
def e70r13 : EE := .q 2 (.bld [z, z] [(0, 1), (1, 1)]) [.s 13, .s 14] none <|
 .x 3 (.alc [z, z] 40) [] none [] <|
 .x 4 (.st 2) [.r 3, .r 2] none [] <|
 .out [(1, .s 1), (7, .s 7), (8, .s 8), (9, .s 9), (11, .s 11), (12, .s 12), (13, .s 13), (14, .s 14), (15, .r 3), (22, .s 22), (23, .s 23), (24, .s 24), (30, .s 30), (31, .s 31)]
def e70r14 : EE := .q 1 (.lda 2) [.s 15] none <|
 .x 2 (.call 152) [.s 11, .r 1] none [] <|
 .q 4 (.ext 0) [.r 2] none <|
 .q 5 (.ext 1) [.r 2] none <|
 .x 6 (.alc [z, z, z, z, z, z, z, z, zs, zs, zs, zs, z, z, z, z, z, z, z, z, (.bool false)] 48) [] none [] <|
 .x 7 (.st 21) [.r 6, .r 4] none [] <|
 .out [(1, .s 1), (7, .s 7), (8, .s 8), (9, .s 9), (11, .s 11), (12, .s 12), (13, .s 13), (14, .s 14), (15, .s 15), (16, .r 6), (22, .s 22), (23, .s 23), (24, .s 24), (30, .s 30), (31, .s 31)]
def e70r15 : EE := .q 0 (.fld 0) [.s 16] none <|
 .q 1 .ld [.r 0] none <|
 .q 2 .neq [.r 1, .c (.int .i64 3)] none <|
 .out [(1, .s 1), (7, .s 7), (8, .s 8), (9, .s 9), (11, .s 11), (12, .s 12), (13, .s 13), (14, .s 14), (15, .s 15), (16, .s 16), (22, .s 22), (23, .s 23), (24, .s 24), (30, .s 30), (31, .s 31), (57, .r 2)]
def e70r16 : EE := .q 1 (.lda 2) [.s 15] none <|
 .q 2 (.lkp true [(.i .i64), (.i .i64)] (.agg [z, z, z, z, z, z, z, z, zs, zs, zs, zs, z, z, z, z, z, z, z, z, (.bool false)]) true) [.s 8, .r 1] none <|
 .q 4 (.ext 0) [.r 2] none <|
 .q 5 (.ext 1) [.r 2] none <|
 .x 6 (.alc [z, z, z, z, z, z, z, z, zs, zs, zs, zs, z, z, z, z, z, z, z, z, (.bool false)] 48) [] none [] <|
 .x 7 (.st 21) [.r 6, .r 4] none [] <|
 .out [(1, .s 1), (7, .s 7), (8, .s 8), (9, .s 9), (11, .s 11), (12, .s 12), (13, .s 13), (14, .s 14), (15, .s 15), (16, .s 16), (18, .r 6), (19, .r 5), (22, .s 22), (23, .s 23), (24, .s 24), (30, .s 30), (31, .s 31)]
def e70r17 : EE := .q 1 .not [.s 19] none <|
 .out [(1, .s 1), (7, .s 7), (8, .s 8), (9, .s 9), (11, .s 11), (12, .s 12), (13, .s 13), (14, .s 14), (15, .s 15), (16, .s 16), (18, .s 18), (22, .s 22), (23, .s 23), (24, .s 24), (30, .s 30), (31, .s 31), (65, .r 1)]
def e70r18 : EE := .q 1 (.lda 2) [.s 15] none <|
 .q 3 (.lda 2) [.s 15] none <|
 .q 6 (.lda 21) [.s 16] none <|
 .x 4 (.bsl 40 1 [z, z] [(0, 2)]) [.r 3] none [⟨1, (.lda 2), [.s 15], none⟩, ⟨6, (.lda 21), [.s 16], none⟩] <|
 .x 5 (.app 40 2 16 [z, z]) [.s 7, .r 4] none [⟨1, (.lda 2), [.s 15], none⟩, ⟨6, (.lda 21), [.s 16], none⟩] <|
 .x 8 (.mup true [(.i .i64), (.i .i64)]) [.s 8, .r 1, .r 6] none [] <|
 .out [(1, .s 1), (7, .r 5), (8, .s 8), (9, .s 9), (11, .s 11), (12, .s 12), (13, .s 13), (14, .s 14), (22, .s 22), (23, .s 23), (24, .s 24), (30, .s 30), (31, .s 31)]
def e70r19 : EE := .q 0 (.fld 5) [.s 18] none <|
 .q 1 (.lda 7) [.r 0] none <|
 .q 2 (.fld 5) [.s 16] none <|
 .q 3 (.lda 7) [.r 2] none <|
 .q 4 (.eqc true [(.i .i64), (.i .i64), (.i .i64), .s, .s, .s, .s]) [.r 1, .r 3] none <|
 .q 6 (.fld 12) [.s 18] (some (.r 4, false)) <|
 .q 7 (.lda 8) [.r 6] (some (.r 4, false)) <|
 .q 8 (.fld 12) [.s 16] (some (.r 4, false)) <|
 .q 9 (.lda 8) [.r 8] (some (.r 4, false)) <|
 .q 10 (.eqc true [(.i .i64), (.i .i64), (.i .i64), (.i .i64), (.i .i64), (.i .i64), (.i .i64), (.i .i64)]) [.r 7, .r 9] (some (.r 4, false)) <|
 .q 11 .pick [.r 4, .c (.bool true), .r 10] none <|
 .out [(1, .s 1), (7, .s 7), (8, .s 8), (9, .s 9), (11, .s 11), (12, .s 12), (13, .s 13), (14, .s 14), (15, .s 15), (22, .s 22), (23, .s 23), (24, .s 24), (30, .s 30), (31, .s 31), (84, .r 11)]
def e70r20 : EE := .q 1 (.lda 2) [.s 15] none <|
 .q 2 (.bld [] []) [] none <|
 .x 3 (.mup true [(.i .i64), (.i .i64)]) [.s 9, .r 1, .r 2] none [] <|
 .out [(1, .s 1), (7, .s 7), (8, .s 8), (9, .s 9), (11, .s 11), (12, .s 12), (13, .s 13), (14, .s 14), (22, .s 22), (23, .s 23), (24, .s 24), (30, .s 30), (31, .s 31)]
def e70r21 : EE := .q 1 .add [.s 14, .c (.int .i64 1)] none <|
 .out [(1, .s 1), (7, .s 7), (8, .s 8), (9, .s 9), (11, .s 11), (12, .s 12), (13, .s 13), (14, .r 1), (22, .s 22), (23, .s 23), (24, .s 24), (30, .s 30), (31, .s 31)]
def e70l22 : EC := (.seq (.seq (.reg e70r12 [1, 7, 8, 9, 11, 12, 13, 14, 22, 23, 24, 30, 31] 0) (.cond (.s 43) .skip (.exit 4))) (.seq (.block 5 (.seq (.reg e70r13 [1, 7, 8, 9, 11, 12, 13, 14, 22, 23, 24, 30, 31] 0) (.seq (.reg e70r14 [1, 7, 8, 9, 11, 12, 13, 14, 15, 22, 23, 24, 30, 31] 0) (.seq (.seq (.reg e70r15 [1, 7, 8, 9, 11, 12, 13, 14, 15, 16, 22, 23, 24, 30, 31] 0) (.cond (.s 57) (.exit 5) .skip)) (.seq (.reg e70r16 [1, 7, 8, 9, 11, 12, 13, 14, 15, 16, 22, 23, 24, 30, 31] 0) (.seq (.reg e70r17 [1, 7, 8, 9, 11, 12, 13, 14, 15, 16, 18, 19, 22, 23, 24, 30, 31] 0) (.cond (.s 65) (.reg e70r18 [1, 7, 8, 9, 11, 12, 13, 14, 15, 16, 22, 23, 24, 30, 31] 0) (.seq (.reg e70r19 [1, 7, 8, 9, 11, 12, 13, 14, 15, 16, 18, 22, 23, 24, 30, 31] 0) (.cond (.s 84) (.reg e70r20 [1, 7, 8, 9, 11, 12, 13, 14, 15, 22, 23, 24, 30, 31] 0) .skip))))))))) (.reg e70r21 [1, 7, 8, 9, 11, 12, 13, 14, 22, 23, 24, 30, 31] 0)))
def e70r23 : EE := .q 0 .add [.s 31, .c (.int .i64 1)] none <|
 .out [(1, .s 1), (7, .s 7), (8, .s 8), (9, .s 9), (11, .s 11), (12, .s 12), (22, .s 22), (23, .s 23), (24, .s 24), (30, .s 30), (31, .r 0)]
def e70l24 : EC := (.seq (.reg e70r9 [1, 7, 8, 9, 11, 12, 22, 23, 24, 30, 31] 0) (.seq (.cond (.s 32) .skip (.exit 2)) (.seq (.block 3 (.seq (.reg e70r10 [1, 7, 8, 9, 11, 12, 22, 23, 24, 30, 31] 0) (.seq (.reg e70r11 [1, 7, 8, 9, 11, 12, 13, 22, 23, 24, 30, 31] 0) (.block 4 (.loop [1, 7, 8, 9, 11, 12, 13, 14, 22, 23, 24, 30, 31] e70l22))))) (.reg e70r23 [1, 7, 8, 9, 11, 12, 22, 23, 24, 30, 31] 0))))
def e70r25 : EE := .q 0 .add [.s 24, .c (.int .i64 1)] none <|
 .out [(1, .s 1), (7, .s 7), (8, .s 8), (9, .s 9), (22, .s 22), (23, .s 23), (24, .r 0)]
def e70l26 : EC := (.seq (.reg e70r5 [1, 7, 8, 9, 22, 23, 24] 0) (.seq (.cond (.s 25) .skip (.exit 0)) (.seq (.block 1 (.seq (.reg e70r6 [1, 7, 8, 9, 22, 23, 24] 0) (.seq (.reg e70r7 [1, 7, 8, 9, 11, 22, 23, 24] 0) (.seq (.reg e70r8 [1, 7, 8, 9, 11, 12, 22, 23, 24] 0) (.block 2 (.loop [1, 7, 8, 9, 11, 12, 22, 23, 24, 30, 31] e70l24)))))) (.reg e70r25 [1, 7, 8, 9, 22, 23, 24] 0))))
def e70r27 : EE := .q 3 .lenm [.s 9] none <|
 .out [(4, .s 7), (5, .s 8), (6, .r 3)]
def e70 : EFn := ⟨(.seq (.reg e70r0 [0, 1] 0) (.seq (.reg e70r1 [0, 1] 0) (.seq (.reg e70r2 [0, 1, 7] 0) (.seq (.reg e70r3 [0, 1, 7, 8] 0) (.seq (.seq (.reg e70r4 [0, 1, 7, 8, 9] 0) (.block 0 (.loop [1, 7, 8, 9, 22, 23, 24] e70l26))) (.seq (.reg e70r27 [7, 8, 9] 0) .ret)))))), [.slot 4, .slot 5, .slot 6], 94, 0⟩
theorem g70 : Good Tryz.prog 70 e70 := ⟨Tryz.f70, Tryz.func70, by kernel_rfl, by kernel_rfl, by kernel_rfl, by kernel_rfl⟩
/-! (*concord/cluster.Cluster).Nodes -/
def e71r0 : EE := .out [(0, .s 0)]
def e71r1 : EE := .q 1 .nl [.s 0] none <|
 .q 2 (.fld 0) [.r 1] none <|
 .q 3 .ld [.r 2] none <|
 .out [(2, .r 3)]
def e71 : EFn := ⟨(.seq (.reg e71r0 [0] 0) (.seq (.reg e71r1 [0] 0) .ret)), [.slot 2], 7, 0⟩
theorem g71 : Good Tryz.prog 71 e71 := ⟨Tryz.f71, Tryz.func71, by kernel_rfl, by kernel_rfl, by kernel_rfl, by kernel_rfl⟩
/-! strconv.Itoa -/
def e78r0 : EE := .out [(0, .s 0)]
def e78r1 : EE := .x 1 (.call 156) [.s 0] none [] <|
 .out [(2, .r 1)]
def e78 : EFn := ⟨(.seq (.reg e78r0 [0] 0) (.seq (.reg e78r1 [0] 0) .ret)), [.slot 2], 5, 0⟩
theorem g78 : Good Tryz.prog 78 e78 := ⟨Tryz.f78, Tryz.func78, by kernel_rfl, by kernel_rfl, by kernel_rfl, by kernel_rfl⟩
/-! (*concord/disk.Disk).Read -/
def e88r0 : EE := .out [(0, .s 0), (1, .s 1)]
def e88r1 : EE := .x 2 (.call 164) [.s 0, .s 1] none [] <|
 .q 4 (.ext 0) [.r 2] none <|
 .q 5 (.ext 1) [.r 2] none <|
 .out [(0, .s 0), (6, .r 4), (7, .r 5)]
def e88r2 : EE := .q 1 .not [.s 7] none <|
 .out [(0, .s 0), (6, .s 6), (15, .r 1)]
def e88r3 : EE := .out [(4, .c .nsl), (5, .c (.bool false))]
def e88r4 : EE := .q 1 .nl [.s 0] none <|
 .q 2 (.fld 1) [.r 1] none <|
 .q 3 .ld [.r 2] none <|
 .q 5 (.ixs 3) [.r 3, .s 6] none <|
 .q 6 (.fld 1) [.r 5] none <|
 .q 7 .ld [.r 6] none <|
 .x 8 (.call 148) [.r 7] none [] <|
 .out [(4, .r 8), (5, .c (.bool true))]
def e88 : EFn := ⟨(.seq (.reg e88r0 [0, 1] 0) (.seq (.reg e88r1 [0, 1] 0) (.seq (.seq (.reg e88r2 [0, 6, 7] 0) (.cond (.s 15) (.seq (.reg e88r3 [] 0) .ret) .skip)) (.seq (.reg e88r4 [0, 6] 0) .ret)))), [.slot 4, .slot 5], 25, 0⟩
theorem g88 : Good Tryz.prog 88 e88 := ⟨Tryz.f88, Tryz.func88, by kernel_rfl, by kernel_rfl, by kernel_rfl, by kernel_rfl⟩
/-! concord/wal.greatest -/
def e91r0 : EE := .out [(0, .s 0)]
def e91r1 : EE := .out [(0, .s 0), (3, .c z)]
def e91r2 : EE := .x 1 (.call 174) [.s 0] none [] <|
 .q 2 .len [.r 1] none <|
 .out [(0, .s 0), (3, .s 3), (13, .r 1), (14, .r 2), (15, .c z)]
def e91r3 : EE := .q 0 .lss [.s 15, .s 14] none <|
 .out [(0, .s 0), (3, .s 3), (13, .s 13), (14, .s 14), (15, .s 15), (16, .r 0)]
def e91r4 : EE := .q 0 (.ixs 1) [.s 13, .s 15] none <|
 .q 1 .ld [.r 0] none <|
 .out [(0, .s 0), (3, .s 3), (5, .r 1), (13, .s 13), (14, .s 14), (15, .s 15)]
def e91r5 : EE := .x 1 (.call 175) [.s 5] none [] <|
 .q 3 (.ext 0) [.r 1] none <|
 .q 4 (.ext 1) [.r 1] none <|
 .x 5 (.alc [z, z] 190) [] none [] <|
 .x 6 (.st 2) [.r 5, .r 3] none [] <|
 .out [(0, .s 0), (3, .s 3), (6, .r 5), (7, .r 4), (13, .s 13), (14, .s 14), (15, .s 15)]
def e91r6 : EE := .q 1 .not [.s 7] none <|
 .q 3 (.fld 0) [.s 6] (some (.r 1, false)) <|
 .q 4 .ld [.r 3] (some (.r 1, false)) <|
 .q 5 .mv [.s 3] (some (.r 1, false)) <|
 .q 6 .leq [.r 4, .r 5] (some (.r 1, false)) <|
 .q 7 .pick [.r 1, .c (.bool true), .r 6] none <|
 .out [(0, .s 0), (3, .s 3), (6, .s 6), (13, .s 13), (14, .s 14), (15, .s 15), (31, .r 7)]
def e91r7 : EE := .q 1 (.fld 0) [.s 6] none <|
 .q 2 .ld [.r 1] none <|
 .x 3 (.call 93) [.s 0, .r 2] none [] <|
 .q 5 (.ext 0) [.r 3] none <|
 .q 6 (.ext 1) [.r 3] none <|
 .q 7 (.ext 2) [.r 3] none <|
 .q 8 (.ext 3) [.r 3] none <|
 .x 9 (.alc [z, z] 190) [] none [] <|
 .x 11 (.st 2) [.r 9, .r 6] none [] <|
 .out [(0, .s 0), (3, .s 3), (6, .s 6), (11, .r 8), (13, .s 13), (14, .s 14), (15, .s 15)]
def e91r8 : EE := .out [(0, .s 0), (3, .s 3), (6, .s 6), (13, .s 13), (14, .s 14), (15, .s 15), (41, .s 11)]
def e91r9 : EE := .q 0 (.fld 0) [.s 6] none <|
 .q 1 .ld [.r 0] none <|
 .out [(0, .s 0), (3, .r 1), (13, .s 13), (14, .s 14), (15, .s 15)]
def e91r10 : EE := .q 0 .add [.s 15, .c (.int .i64 1)] none <|
 .out [(0, .s 0), (3, .s 3), (13, .s 13), (14, .s 14), (15, .r 0)]
def e91l11 : EC := (.seq (.reg e91r3 [0, 3, 13, 14, 15] 0) (.seq (.cond (.s 16) .skip (.exit 0)) (.seq (.block 1 (.seq (.reg e91r4 [0, 3, 13, 14, 15] 0) (.seq (.reg e91r5 [0, 3, 5, 13, 14, 15] 0) (.seq (.seq (.reg e91r6 [0, 3, 6, 7, 13, 14, 15] 0) (.cond (.s 31) (.exit 1) .skip)) (.seq (.reg e91r7 [0, 3, 6, 13, 14, 15] 0) (.seq (.reg e91r8 [0, 3, 6, 11, 13, 14, 15] 0) (.cond (.s 41) (.reg e91r9 [0, 6, 13, 14, 15] 0) .skip))))))) (.reg e91r10 [0, 3, 13, 14, 15] 0))))
def e91r12 : EE := .out [(2, .s 3)]
def e91 : EFn := ⟨(.seq (.reg e91r0 [0] 0) (.seq (.reg e91r1 [0] 0) (.seq (.seq (.reg e91r2 [0, 3] 0) (.block 0 (.loop [0, 3, 13, 14, 15] e91l11))) (.seq (.reg e91r12 [3] 0) .ret)))), [.slot 2], 46, 0⟩
theorem g91 : Good Tryz.prog 91 e91 := ⟨Tryz.f91, Tryz.func91, by kernel_rfl, by kernel_rfl, by kernel_rfl, by kernel_rfl⟩
/-! concord/wal.clean -/
def e92r0 : EE := .x 0 (.box 190) [.s 1] none [] <|
 .out [(0, .s 0), (3, .r 0)]
def e92r1 : EE := .x 1 (.call 174) [.s 0] none [] <|
 .q 2 .len [.r 1] none <|
 .out [(0, .s 0), (3, .s 3), (11, .r 1), (12, .r 2), (13, .c z)]
def e92r2 : EE := .q 0 .lss [.s 13, .s 12] none <|
 .out [(0, .s 0), (3, .s 3), (11, .s 11), (12, .s 12), (13, .s 13), (14, .r 0)]
def e92r3 : EE := .q 0 (.ixs 1) [.s 11, .s 13] none <|
 .q 1 .ld [.r 0] none <|
 .out [(0, .s 0), (3, .s 3), (6, .r 1), (11, .s 11), (12, .s 12), (13, .s 13)]
def e92r4 : EE := .x 1 (.call 175) [.s 6] none [] <|
 .q 3 (.ext 0) [.r 1] none <|
 .q 4 (.ext 1) [.r 1] none <|
 .x 5 (.alc [z, z] 190) [] none [] <|
 .x 6 (.st 2) [.r 5, .r 3] none [] <|
 .out [(0, .s 0), (3, .s 3), (6, .s 6), (7, .r 5), (8, .r 4), (11, .s 11), (12, .s 12), (13, .s 13)]
def e92r5 : EE := .q 1 .not [.s 8] none <|
 .q 3 (.fld 0) [.s 7] (some (.r 1, false)) <|
 .q 4 .ld [.r 3] (some (.r 1, false)) <|
 .q 5 (.fld 0) [.s 3] (some (.r 1, false)) <|
 .q 6 .ld [.r 5] (some (.r 1, false)) <|
 .q 7 .eql [.r 4, .r 6] (some (.r 1, false)) <|
 .q 8 .mv [.r 7] (some (.r 1, false)) <|
 .q 9 (.fld 1) [.s 7] (some (.r 8, true)) <|
 .q 10 .ld [.r 9] (some (.r 8, true)) <|
 .q 11 (.fld 1) [.s 3] (some (.r 8, true)) <|
 .q 12 .ld [.r 11] (some (.r 8, true)) <|
 .q 13 .leq [.r 10, .r 12] (some (.r 8, true)) <|
 .q 14 .pick [.r 8, .r 13, .c (.bool false)] (some (.r 1, false)) <|
 .q 15 .pick [.r 1, .c (.bool true), .r 14] none <|
 .out [(0, .s 0), (3, .s 3), (6, .s 6), (11, .s 11), (12, .s 12), (13, .s 13), (37, .r 15)]
def e92r6 : EE := .x 2 (.call 90) [.s 0, .s 6] none [] <|
 .out [(0, .s 0), (3, .s 3), (9, .r 2), (11, .s 11), (12, .s 12), (13, .s 13)]
def e92r7 : EE := .q 1 .neq [.s 9, .c z] none <|
 .out [(0, .s 0), (3, .s 3), (9, .s 9), (11, .s 11), (12, .s 12), (13, .s 13), (42, .r 1)]
def e92r8 : EE := .out [(4, .s 9)]
def e92r9 : EE := .q 0 .add [.s 13, .c (.int .i64 1)] none <|
 .out [(0, .s 0), (3, .s 3), (11, .s 11), (12, .s 12), (13, .r 0)]
def e92l10 : EC := (.seq (.reg e92r2 [0, 3, 11, 12, 13] 0) (.seq (.cond (.s 14) .skip (.exit 0)) (.seq (.block 1 (.seq (.reg e92r3 [0, 3, 11, 12, 13] 0) (.seq (.reg e92r4 [0, 3, 6, 11, 12, 13] 0) (.seq (.seq (.reg e92r5 [0, 3, 6, 7, 8, 11, 12, 13] 0) (.cond (.s 37) (.exit 1) .skip)) (.seq (.reg e92r6 [0, 3, 6, 11, 12, 13] 0) (.seq (.reg e92r7 [0, 3, 9, 11, 12, 13] 0) (.cond (.s 42) (.seq (.reg e92r8 [9] 0) .ret) .skip))))))) (.reg e92r9 [0, 3, 11, 12, 13] 0))))
def e92r11 : EE := .out [(4, .c z)]
def e92 : EFn := ⟨(.seq (.reg e92r0 [0, 1] 0) (.seq (.seq (.reg e92r1 [0, 3] 0) (.block 0 (.loop [0, 3, 11, 12, 13] e92l10))) (.seq (.reg e92r11 [] 0) .ret))), [.slot 4], 45, 0⟩
theorem g92 : Good Tryz.prog 92 e92 := ⟨Tryz.f92, Tryz.func92, by kernel_rfl, by kernel_rfl, by kernel_rfl, by kernel_rfl⟩
/-! (concord/wal.place).name -/
def e94r0 : EE := .x 0 (.box 190) [.s 0] none [] <|
 .out [(1, .r 0)]
def e94r1 : EE := .q 0 (.fld 0) [.s 1] none <|
 .q 1 .ld [.r 0] none <|
 .q 5 (.fld 1) [.s 1] none <|
 .q 6 .ld [.r 5] none <|
 .x 2 (.call 78) [.r 1] none [⟨6, .ld, [.r 5], none⟩] <|
 .q 3 .sadd [.c (.str [108, 111, 103, 46]), .r 2] none <|
 .q 4 .sadd [.r 3, .c (.str [46])] none <|
 .x 7 (.call 78) [.r 6] none [] <|
 .q 8 .sadd [.r 4, .r 7] none <|
 .out [(2, .r 8)]
def e94 : EFn := ⟨(.seq (.reg e94r0 [0] 0) (.seq (.reg e94r1 [1] 0) .ret)), [.slot 2], 12, 0⟩
theorem g94 : Good Tryz.prog 94 e94 := ⟨Tryz.f94, Tryz.func94, by kernel_rfl, by kernel_rfl, by kernel_rfl, by kernel_rfl⟩
/-! (*concord/disk.Disk).Sync -/
def e96r0 : EE := .out [(0, .s 0), (1, .s 1)]
def e96r1 : EE := .x 2 (.call 171) [.s 0, .s 1] none [] <|
 .q 4 (.ext 0) [.r 2] none <|
 .q 5 (.ext 1) [.r 2] none <|
 .out [(0, .s 0), (5, .r 4), (6, .r 5)]
def e96r2 : EE := .q 1 .eql [.s 6, .c z] none <|
 .out [(0, .s 0), (5, .s 5), (6, .s 6), (14, .r 1)]
def e96r3 : EE := .x 1 (.call 172) [.s 0] none [] <|
 .out [(0, .s 0), (5, .s 5), (6, .r 1)]
def e96r4 : EE := .q 1 .eql [.s 6, .c z] none <|
 .out [(0, .s 0), (5, .s 5), (6, .s 6), (18, .r 1)]
def e96r5 : EE := .q 1 .nl [.s 0] none <|
 .q 2 (.fld 1) [.r 1] none <|
 .q 3 .ld [.r 2] none <|
 .q 6 .nl [.s 0] none <|
 .q 7 (.fld 1) [.r 6] none <|
 .q 8 .ld [.r 7] none <|
 .q 10 (.ixs 3) [.r 8, .s 5] none <|
 .q 11 (.fld 1) [.r 10] none <|
 .q 12 .ld [.r 11] none <|
 .q 13 .len [.r 12] none <|
 .q 14 (.ixs 3) [.r 3, .s 5] none <|
 .q 15 (.fld 2) [.r 14] none <|
 .x 16 (.st 1) [.r 15, .r 13] none [] <|
 .out [(6, .s 6)]
def e96r6 : EE := .out [(4, .s 6)]
def e96 : EFn := ⟨(.seq (.reg e96r0 [0, 1] 0) (.seq (.reg e96r1 [0, 1] 0) (.seq (.seq (.reg e96r2 [0, 5, 6] 0) (.cond (.s 14) (.reg e96r3 [0, 5] 0) .skip)) (.seq (.seq (.reg e96r4 [0, 5, 6] 0) (.cond (.s 18) (.reg e96r5 [0, 5, 6] 0) .skip)) (.seq (.reg e96r6 [6] 0) .ret))))), [.slot 4], 36, 0⟩
theorem g96 : Good Tryz.prog 96 e96 := ⟨Tryz.f96, Tryz.func96, by kernel_rfl, by kernel_rfl, by kernel_rfl, by kernel_rfl⟩
/-! concord/deps.Right -/
def e100r0 : EE := .x 0 (.box 46) [.s 0] none [] <|
 .out [(1, .r 0)]
def e100r1 : EE := .q 0 (.fld 1) [.s 1] none <|
 .q 1 (.lda 7) [.r 0] none <|
 .out [(1, .s 1), (6, .r 1), (7, .c z)]
def e100r2 : EE := .q 0 .lss [.s 7, .c (.int .i64 7)] none <|
 .out [(1, .s 1), (6, .s 6), (7, .s 7), (8, .r 0)]
def e100r3 : EE := .q 0 (.idx 7 1) [.s 6, .s 7] none <|
 .out [(1, .s 1), (4, .r 0), (6, .s 6), (7, .s 7)]
def e100r4 : EE := .q 1 .lss [.s 4, .c z] none <|
 .q 3 .mv [.s 4] (some (.r 1, false)) <|
 .q 4 .gtr [.r 3, .c (.int .i64 1073741824)] (some (.r 1, false)) <|
 .q 5 .pick [.r 1, .c (.bool true), .r 4] none <|
 .out [(1, .s 1), (6, .s 6), (7, .s 7), (15, .r 5)]
def e100r5 : EE := .out [(2, .c (.bool false))]
def e100r6 : EE := .q 0 .add [.s 7, .c (.int .i64 1)] none <|
 .out [(1, .s 1), (6, .s 6), (7, .r 0)]
def e100l7 : EC := (.seq (.reg e100r2 [1, 6, 7] 0) (.seq (.cond (.s 8) .skip (.exit 0)) (.seq (.block 1 (.seq (.reg e100r3 [1, 6, 7] 0) (.seq (.reg e100r4 [1, 4, 6, 7] 0) (.cond (.s 15) (.seq (.reg e100r5 [] 0) .ret) .skip)))) (.reg e100r6 [1, 6, 7] 0))))
def e100r8 : EE := .q 0 (.fld 0) [.s 1] none <|
 .q 1 .ld [.r 0] none <|
 .q 2 .geq [.r 1, .c z] none <|
 .q 4 (.fld 0) [.s 1] (some (.r 2, true)) <|
 .q 5 .ld [.r 4] (some (.r 2, true)) <|
 .q 6 .leq [.r 5, .c (.int .i64 1099511627776)] (some (.r 2, true)) <|
 .q 7 .pick [.r 2, .r 6, .c (.bool false)] none <|
 .out [(2, .r 7)]
def e100 : EFn := ⟨(.seq (.reg e100r0 [0] 0) (.seq (.seq (.reg e100r1 [1] 0) (.block 0 (.loop [1, 6, 7] e100l7))) (.seq (.reg e100r8 [1] 0) .ret))), [.slot 2], 25, 0⟩
theorem g100 : Good Tryz.prog 100 e100 := ⟨Tryz.f100, Tryz.func100, by kernel_rfl, by kernel_rfl, by kernel_rfl, by kernel_rfl⟩
/-! concord/log.New -/
def e101r0 : EE := .x 0 (.box 44) [.s 0] none [] <|
 .out [(1, .r 0)]
def e101r1 : EE := .x 0 .mkm [] none [] <|
 .q 1 (.bld [.nmap, z, z, z, z, z, z, z] [(0, 1)]) [.r 0] none <|
 .x 2 (.box 295) [.r 1] none [] <|
 .out [(1, .s 1), (3, .r 2)]
def e101r2 : EE := .q 1 (.lda 7) [.s 1] none <|
 .x 2 (.call 180) [.s 3, .r 1] none [] <|
 .out [(3, .s 3)]
def e101r3 : EE := .out [(2, .s 3)]
def e101 : EFn := ⟨(.seq (.reg e101r0 [0] 0) (.seq (.reg e101r1 [1] 0) (.seq (.reg e101r2 [1, 3] 0) (.seq (.reg e101r3 [3] 0) .ret)))), [.slot 2], 11, 0⟩
theorem g101 : Good Tryz.prog 101 e101 := ⟨Tryz.f101, Tryz.func101, by kernel_rfl, by kernel_rfl, by kernel_rfl, by kernel_rfl⟩
/-! concord/interf.New -/
def e102r0 : EE := .out []
def e102r1 : EE := .x 0 .mkm [] none [] <|
 .q 1 (.bld [.nmap, z, z, z, z, z, z, z] [(0, 1)]) [.r 0] none <|
 .x 2 (.box 298) [.r 1] none [] <|
 .out [(0, .r 2)]
def e102 : EFn := ⟨(.seq (.reg e102r0 [] 0) (.seq (.reg e102r1 [] 0) .ret)), [.slot 0], 4, 0⟩
theorem g102 : Good Tryz.prog 102 e102 := ⟨Tryz.f102, Tryz.func102, by kernel_rfl, by kernel_rfl, by kernel_rfl, by kernel_rfl⟩
/-! (*concord/interf.Index).Prune -/
def e103r0 : EE := .x 0 (.box 44) [.s 1] none [] <|
 .out [(0, .s 0), (3, .r 0)]
def e103r1 : EE := .q 0 (.lda 7) [.s 3] none <|
 .out [(0, .s 0), (7, .r 0), (8, .c z)]
def e103r2 : EE := .q 0 .lss [.s 8, .c (.int .i64 7)] none <|
 .out [(0, .s 0), (7, .s 7), (8, .s 8), (9, .r 0)]
def e103r3 : EE := .q 1 (.idx 7 1) [.s 7, .s 8] none <|
 .out [(0, .s 0), (4, .s 8), (5, .r 1), (7, .s 7), (8, .s 8)]
def e103r4 : EE := .q 4 .nl [.s 0] none <|
 .q 5 (.fld 1) [.r 4] none <|
 .q 6 (.ixa 7 1) [.r 5, .s 4] none <|
 .q 7 .ld [.r 6] none <|
 .q 9 .mx [.s 5, .c z] none <|
 .q 10 .mn [.r 9, .c (.int .i64 1073741824)] none <|
 .q 11 .mx [.r 7, .r 10] none <|
 .q 12 .nl [.s 0] none <|
 .q 13 (.fld 1) [.r 12] none <|
 .q 14 (.ixa 7 1) [.r 13, .s 4] none <|
 .x 15 (.st 1) [.r 14, .r 11] none [] <|
 .out [(0, .s 0), (7, .s 7), (8, .s 8)]
def e103r5 : EE := .q 0 .add [.s 8, .c (.int .i64 1)] none <|
 .out [(0, .s 0), (7, .s 7), (8, .r 0)]
def e103l6 : EC := (.seq (.reg e103r2 [0, 7, 8] 0) (.seq (.cond (.s 9) .skip (.exit 0)) (.seq (.block 1 (.seq (.reg e103r3 [0, 7, 8] 0) (.reg e103r4 [0, 4, 5, 7, 8] 0))) (.reg e103r5 [0, 7, 8] 0))))
def e103r7 : EE := .q 1 .nl [.s 0] none <|
 .q 2 (.fld 0) [.r 1] none <|
 .q 3 .ld [.r 2] none <|
 .x 4 .rng [.r 3] none [] <|
 .out [(0, .s 0), (32, .r 4)]
def e103r8 : EE := .x 0 .nxt [.s 32] none [] <|
 .q 1 (.ext 0) [.r 0] none <|
 .out [(0, .s 0), (32, .s 32), (34, .r 1)]
def e103r9 : EE := .q 0 .ent [.s 32] none <|
 .q 1 (.ext 0) [.r 0] none <|
 .x 2 (.alc [z, z] 40) [] none [] <|
 .x 3 (.st 2) [.r 2, .r 1] none [] <|
 .out [(0, .s 0), (6, .r 2), (32, .s 32)]
def e103r10 : EE := .q 0 (.fld 1) [.s 6] none <|
 .q 1 .ld [.r 0] none <|
 .q 3 (.fld 0) [.s 6] none <|
 .q 4 .ld [.r 3] none <|
 .q 5 .nl [.s 0] none <|
 .q 6 (.fld 1) [.r 5] none <|
 .q 7 (.ixa 7 1) [.r 6, .r 4] none <|
 .q 8 .ld [.r 7] none <|
 .q 9 .leq [.r 1, .r 8] none <|
 .out [(0, .s 0), (6, .s 6), (32, .s 32), (46, .r 9)]
def e103r11 : EE := .q 1 .nl [.s 0] none <|
 .q 2 (.fld 0) [.r 1] none <|
 .q 3 .ld [.r 2] none <|
 .q 4 (.lda 2) [.s 6] none <|
 .x 5 (.dlt true [(.i .i64), (.i .i64)]) [.r 3, .r 4] none [] <|
 .out [(0, .s 0), (32, .s 32)]
def e103l12 : EC := (.seq (.reg e103r8 [0, 32] 0) (.seq (.cond (.s 34) .skip (.exit 2)) (.block 3 (.seq (.reg e103r9 [0, 32] 0) (.seq (.reg e103r10 [0, 6, 32] 0) (.cond (.s 46) (.reg e103r11 [0, 6, 32] 0) .skip))))))
def e103 : EFn := ⟨(.seq (.reg e103r0 [0, 1] 0) (.seq (.seq (.reg e103r1 [0, 3] 0) (.block 0 (.loop [0, 7, 8] e103l6))) (.seq (.reg e103r7 [0] 0) (.block 2 (.loop [0, 32] e103l12))))), [], 52, 0⟩
theorem g103 : Good Tryz.prog 103 e103 := ⟨Tryz.f103, Tryz.func103, by kernel_rfl, by kernel_rfl, by kernel_rfl, by kernel_rfl⟩
/-! (*concord/log.Log).Set -/
def e105r0 : EE := .x 0 (.box 40) [.s 1] none [] <|
 .x 1 (.box 48) [.s 2] none [] <|
 .out [(0, .s 0), (4, .r 0), (5, .r 1)]
def e105r1 : EE := .q 0 (.lda 2) [.s 4] none <|
 .x 1 (.call 129) [.r 0] none [] <|
 .q 2 .not [.r 1] none <|
 .q 4 .mv [.s 0] (some (.r 2, false)) <|
 .q 5 (.lda 2) [.s 4] (some (.r 2, false)) <|
 .x 6 (.call 135) [.r 4, .r 5] (some (.r 2, false)) [] <|
 .q 7 .pick [.r 2, .c (.bool true), .r 6] none <|
 .q 9 (.lda 21) [.s 5] (some (.r 7, false)) <|
 .x 10 (.call 131) [.r 9] (some (.r 7, false)) [] <|
 .q 11 .not [.r 10] (some (.r 7, false)) <|
 .q 12 .pick [.r 7, .c (.bool true), .r 11] none <|
 .out [(0, .s 0), (4, .s 4), (5, .s 5), (21, .r 12)]
def e105r2 : EE := .out [(6, .c (.bool false))]
def e105r3 : EE := .q 1 .nl [.s 0] none <|
 .q 2 (.fld 0) [.r 1] none <|
 .q 3 .ld [.r 2] none <|
 .q 4 (.lda 2) [.s 4] none <|
 .q 5 (.lkp true [(.i .i64), (.i .i64)] (.agg [z, z, z, z, z, z, z, z, zs, zs, zs, zs, z, z, z, z, z, z, z, z, (.bool false)]) true) [.r 3, .r 4] none <|
 .q 7 (.ext 0) [.r 5] none <|
 .q 8 (.ext 1) [.r 5] none <|
 .x 9 (.alc [z, z, z, z, z, z, z, z, zs, zs, zs, zs, z, z, z, z, z, z, z, z, (.bool false)] 48) [] none [⟨3, .ld, [.r 2], none⟩, ⟨4, (.lda 2), [.s 4], none⟩, ⟨5, (.lkp true [(.i .i64), (.i .i64)] (.agg [z, z, z, z, z, z, z, z, zs, zs, zs, zs, z, z, z, z, z, z, z, z, (.bool false)]) true), [.r 3, .r 4], none⟩] <|
 .x 10 (.st 21) [.r 9, .r 7] none [] <|
 .out [(0, .s 0), (4, .s 4), (5, .s 5), (7, .r 9), (8, .r 8)]
def e105r4 : EE := .q 2 (.lda 21) [.s 7] (some (.s 8, true)) <|
 .q 3 (.lda 21) [.s 5] (some (.s 8, true)) <|
 .x 4 (.call 182) [.r 2, .r 3] (some (.s 8, true)) [] <|
 .q 5 .not [.r 4] (some (.s 8, true)) <|
 .q 6 .pick [.s 8, .r 5, .c (.bool false)] none <|
 .out [(0, .s 0), (4, .s 4), (5, .s 5), (37, .r 6)]
def e105r5 : EE := .out [(6, .c (.bool false))]
def e105r6 : EE := .q 1 .nl [.s 0] none <|
 .q 2 (.fld 0) [.r 1] none <|
 .q 3 .ld [.r 2] none <|
 .q 4 (.lda 2) [.s 4] none <|
 .q 5 (.lda 21) [.s 5] none <|
 .x 6 (.mup true [(.i .i64), (.i .i64)]) [.r 3, .r 4, .r 5] none [] <|
 .out []
def e105r7 : EE := .out [(6, .c (.bool true))]
def e105 : EFn := ⟨(.seq (.reg e105r0 [0, 1, 2] 0) (.seq (.seq (.reg e105r1 [0, 4, 5] 0) (.cond (.s 21) (.seq (.reg e105r2 [] 0) .ret) .skip)) (.seq (.seq (.reg e105r3 [0, 4, 5] 0) (.seq (.reg e105r4 [0, 4, 5, 7, 8] 0) (.cond (.s 37) (.seq (.reg e105r5 [] 0) .ret) .skip))) (.seq (.reg e105r6 [0, 4, 5] 0) (.seq (.reg e105r7 [] 0) .ret))))), [.slot 6], 44, 0⟩
theorem g105 : Good Tryz.prog 105 e105 := ⟨Tryz.f105, Tryz.func105, by kernel_rfl, by kernel_rfl, by kernel_rfl, by kernel_rfl⟩
/-! (*concord/core.Core).note -/
def e106r0 : EE := .x 0 (.box 40) [.s 1] none [] <|
 .x 1 (.box 48) [.s 2] none [] <|
 .out [(0, .s 0), (4, .r 0), (5, .r 1)]
def e106r1 : EE := .q 0 (.fld 0) [.s 5] none <|
 .q 1 .ld [.r 0] none <|
 .q 2 .neq [.r 1, .c z] none <|
 .out [(0, .s 0), (4, .s 4), (5, .s 5), (8, .r 2)]
def e106r2 : EE := .q 1 .nl [.s 0] none <|
 .q 2 (.fld 3) [.r 1] none <|
 .q 3 .ld [.r 2] none <|
 .q 4 (.lda 2) [.s 4] none <|
 .q 5 (.fld 5) [.s 5] none <|
 .q 6 (.lda 7) [.r 5] none <|
 .q 7 (.fld 12) [.s 5] none <|
 .q 8 (.fld 0) [.r 7] none <|
 .q 9 .ld [.r 8] none <|
 .x 10 (.call 183) [.r 3, .r 4, .r 6, .r 9] none [] <|
 .out []
def e106 : EFn := ⟨(.seq (.reg e106r0 [0, 1, 2] 0) (.seq (.reg e106r1 [0, 4, 5] 0) (.cond (.s 8) (.reg e106r2 [0, 4, 5] 0) .skip))), [], 20, 0⟩
theorem g106 : Good Tryz.prog 106 e106 := ⟨Tryz.f106, Tryz.func106, by kernel_rfl, by kernel_rfl, by kernel_rfl, by kernel_rfl⟩
/-! concord/wal.frames -/
def e107r0 : EE := .out [(0, .s 0), (1, .s 1)]
def e107r1 : EE := .q 1 .len [.s 1] none <|
 .out [(0, .s 0), (8, .s 1), (9, .r 1), (10, .c z)]
def e107r2 : EE := .q 0 .lss [.s 10, .s 9] none <|
 .out [(0, .s 0), (8, .s 8), (9, .s 9), (10, .s 10), (11, .r 0)]
def e107r3 : EE := .q 0 (.ixs 1) [.s 8, .s 10] none <|
 .q 1 .ld [.r 0] none <|
 .out [(0, .s 0), (7, .r 1), (8, .s 8), (9, .s 9), (10, .s 10)]
def e107r4 : EE := .q 1 .len [.s 7] none <|
 .q 2 .eql [.r 1, .c z] none <|
 .q 4 .mv [.s 7] (some (.r 2, false)) <|
 .q 5 .len [.r 4] (some (.r 2, false)) <|
 .q 6 .gtr [.r 5, .c (.int .i64 16384)] (some (.r 2, false)) <|
 .q 7 .pick [.r 2, .c (.bool true), .r 6] none <|
 .out [(0, .s 0), (7, .s 7), (8, .s 8), (9, .s 9), (10, .s 10), (21, .r 7)]
def e107r5 : EE := .out [(4, .c .nsl), (5, .c (.bool false))]
def e107r6 : EE := .x 2 (.call 108) [.s 0, .s 7] none [] <|
 .out [(0, .r 2), (8, .s 8), (9, .s 9), (10, .s 10)]
def e107r7 : EE := .q 0 .add [.s 10, .c (.int .i64 1)] none <|
 .out [(0, .s 0), (8, .s 8), (9, .s 9), (10, .r 0)]
def e107l8 : EC := (.seq (.reg e107r2 [0, 8, 9, 10] 0) (.seq (.cond (.s 11) .skip (.exit 0)) (.seq (.block 1 (.seq (.reg e107r3 [0, 8, 9, 10] 0) (.seq (.seq (.reg e107r4 [0, 7, 8, 9, 10] 0) (.cond (.s 21) (.seq (.reg e107r5 [] 0) .ret) .skip)) (.reg e107r6 [0, 7, 8, 9, 10] 0)))) (.reg e107r7 [0, 8, 9, 10] 0))))
def e107r9 : EE := .out [(4, .s 0), (5, .c (.bool true))]
def e107 : EFn := ⟨(.seq (.reg e107r0 [0, 1] 0) (.seq (.seq (.reg e107r1 [0, 1] 0) (.block 0 (.loop [0, 8, 9, 10] e107l8))) (.seq (.reg e107r9 [0] 0) .ret))), [.slot 4, .slot 5], 27, 0⟩
theorem g107 : Good Tryz.prog 107 e107 := ⟨Tryz.f107, Tryz.func107, by kernel_rfl, by kernel_rfl, by kernel_rfl, by kernel_rfl⟩
/-! concord/frame.Put -/
def e108r0 : EE := .out [(0, .s 0), (1, .s 1)]
def e108r1 : EE := .q 1 .len [.s 0] none <|
 .q 2 .add [.r 1, .c (.int .i64 2)] none <|
 .q 4 .len [.s 1] none <|
 .q 5 .add [.r 2, .r 4] none <|
 .q 6 .add [.r 5, .c (.int .i64 4)] none <|
 .x 7 (.mks 5 1 [(.int .u8 0)]) [.c z, .r 6] none [] <|
 .x 9 (.app 5 1 1 [(.int .u8 0)]) [.r 7, .s 0] none [] <|
 .out [(1, .s 1), (5, .r 9)]
def e108r2 : EE := .q 1 .len [.s 1] none <|
 .q 2 .eql [.r 1, .c z] none <|
 .q 4 .mv [.s 1] (some (.r 2, false)) <|
 .q 5 .len [.r 4] (some (.r 2, false)) <|
 .q 6 .gtr [.r 5, .c (.int .i64 16384)] (some (.r 2, false)) <|
 .q 7 .pick [.r 2, .c (.bool true), .r 6] none <|
 .out [(1, .s 1), (5, .s 5), (24, .r 7)]
def e108r3 : EE := .out [(4, .s 5)]
def e108r4 : EE := .q 1 .len [.s 1] none <|
 .q 2 (.conv .u64) [.r 1] none <|
 .x 3 (.call 184) [.c .nsl, .c (.int .i64 2), .r 2] none [] <|
 .x 5 (.app 5 1 1 [(.int .u8 0)]) [.r 3, .s 1] none [] <|
 .out [(5, .s 5), (6, .r 5)]
def e108r5 : EE := .x 2 (.app 5 1 1 [(.int .u8 0)]) [.s 5, .s 6] none [] <|
 .x 4 (.call 166) [.s 6] none [] <|
 .q 5 (.conv .u64) [.r 4] none <|
 .x 6 (.call 184) [.c .nsl, .c (.int .i64 4), .r 5] none [] <|
 .x 7 (.app 5 1 1 [(.int .u8 0)]) [.r 2, .r 6] none [] <|
 .out [(4, .r 7)]
def e108 : EFn := ⟨(.seq (.reg e108r0 [0, 1] 0) (.seq (.reg e108r1 [0, 1] 0) (.seq (.seq (.reg e108r2 [1, 5] 0) (.cond (.s 24) (.seq (.reg e108r3 [5] 0) .ret) .skip)) (.seq (.reg e108r4 [1, 5] 0) (.seq (.reg e108r5 [5, 6] 0) .ret))))), [.slot 4], 40, 0⟩
theorem g108 : Good Tryz.prog 108 e108 := ⟨Tryz.f108, Tryz.func108, by kernel_rfl, by kernel_rfl, by kernel_rfl, by kernel_rfl⟩
/-! concord/pack.Num -/
def e109r0 : EE := .out [(0, .s 0), (1, .s 1)]
def e109r1 : EE := .x 1 (.call 177) [.s 0, .c (.int .i64 10)] none [] <|
 .x 3 (.call 185) [.r 1, .s 1] none [] <|
 .out [(4, .r 3)]
def e109 : EFn := ⟨(.seq (.reg e109r0 [0, 1] 0) (.seq (.reg e109r1 [0, 1] 0) .ret)), [.slot 4], 9, 0⟩
theorem g109 : Good Tryz.prog 109 e109 := ⟨Tryz.f109, Tryz.func109, by kernel_rfl, by kernel_rfl, by kernel_rfl, by kernel_rfl⟩
/-! (*concord/wal.Wal).write -/
def e110r0 : EE := .x 0 (.box 190) [.s 1] none [] <|
 .out [(0, .s 0), (2, .s 2), (4, .r 0)]
def e110r1 : EE := .q 1 .nl [.s 0] none <|
 .q 2 (.fld 0) [.r 1] none <|
 .q 3 .ld [.r 2] none <|
 .q 4 (.lda 2) [.s 4] none <|
 .x 5 (.call 94) [.r 4] none [⟨3, .ld, [.r 2], none⟩] <|
 .x 7 (.call 186) [.r 3, .r 5, .s 2] none [] <|
 .out [(0, .s 0), (4, .s 4), (7, .r 7)]
def e110r2 : EE := .q 1 .eql [.s 7, .c (.int .i64 7)] none <|
 .out [(0, .s 0), (4, .s 4), (7, .s 7), (17, .r 1)]
def e110r3 : EE := .out [(6, .s 7)]
def e110r4 : EE := .q 1 .eql [.s 7, .c z] none <|
 .out [(0, .s 0), (4, .s 4), (7, .s 7), (20, .r 1)]
def e110r5 : EE := .q 1 .nl [.s 0] none <|
 .q 2 (.fld 0) [.r 1] none <|
 .q 3 .ld [.r 2] none <|
 .q 4 (.lda 2) [.s 4] none <|
 .x 5 (.call 94) [.r 4] none [⟨3, .ld, [.r 2], none⟩] <|
 .x 6 (.call 96) [.r 3, .r 5] none [] <|
 .out [(0, .s 0), (7, .r 6)]
def e110r6 : EE := .q 2 .neq [.s 7, .c z] none <|
 .q 3 .nl [.s 0] none <|
 .q 4 (.fld 3) [.r 3] none <|
 .x 5 (.st 1) [.r 4, .r 2] none [] <|
 .out [(7, .s 7)]
def e110r7 : EE := .out [(6, .s 7)]
def e110 : EFn := ⟨(.seq (.reg e110r0 [0, 1, 2] 0) (.seq (.reg e110r1 [0, 2, 4] 0) (.seq (.seq (.reg e110r2 [0, 4, 7] 0) (.cond (.s 17) (.seq (.reg e110r3 [7] 0) .ret) .skip)) (.seq (.seq (.reg e110r4 [0, 4, 7] 0) (.cond (.s 20) (.reg e110r5 [0, 4] 0) .skip)) (.seq (.reg e110r6 [0, 7] 0) (.seq (.reg e110r7 [7] 0) .ret)))))), [.slot 6], 34, 0⟩
theorem g110 : Good Tryz.prog 110 e110 := ⟨Tryz.f110, Tryz.func110, by kernel_rfl, by kernel_rfl, by kernel_rfl, by kernel_rfl⟩
/-! (*concord/node.Node).drain -/
def e111r0 : EE := .out [(0, .s 0)]
def e111r1 : EE := .q 1 .nl [.s 0] none <|
 .q 2 (.fld 4) [.r 1] none <|
 .q 3 .ld [.r 2] none <|
 .x 4 (.call 187) [.r 3] none [] <|
 .q 6 (.ext 0) [.r 4] none <|
 .q 7 (.ext 1) [.r 4] none <|
 .out [(0, .s 0), (3, .r 6), (4, .r 7)]
def e111r2 : EE := .q 1 .len [.s 3] none <|
 .out [(0, .s 0), (3, .s 3), (4, .s 4), (15, .s 3), (16, .r 1), (17, .c z)]
def e111r3 : EE := .q 0 .lss [.s 17, .s 16] none <|
 .out [(0, .s 0), (3, .s 3), (4, .s 4), (15, .s 15), (16, .s 16), (17, .s 17), (18, .r 0)]
def e111r4 : EE := .q 1 (.ixs 1) [.s 15, .s 17] none <|
 .q 2 .ld [.r 1] none <|
 .out [(0, .s 0), (3, .s 3), (4, .s 4), (5, .s 17), (6, .r 2), (15, .s 15), (16, .s 16), (17, .s 17)]
def e111r5 : EE := .x 3 (.call 188) [.s 6] none [] <|
 .q 4 (.ixs 1) [.s 3, .s 5] none <|
 .x 5 (.st 1) [.r 4, .r 3] none [] <|
 .out [(0, .s 0), (3, .s 3), (4, .s 4), (15, .s 15), (16, .s 16), (17, .s 17)]
def e111r6 : EE := .q 0 .add [.s 17, .c (.int .i64 1)] none <|
 .out [(0, .s 0), (3, .s 3), (4, .s 4), (15, .s 15), (16, .s 16), (17, .r 0)]
def e111l7 : EC := (.seq (.reg e111r3 [0, 3, 4, 15, 16, 17] 0) (.seq (.cond (.s 18) .skip (.exit 0)) (.seq (.block 1 (.seq (.reg e111r4 [0, 3, 4, 15, 16, 17] 0) (.reg e111r5 [0, 3, 4, 5, 6, 15, 16, 17] 0))) (.reg e111r6 [0, 3, 4, 15, 16, 17] 0))))
def e111r8 : EE := .q 1 .nl [.s 0] none <|
 .q 2 (.fld 3) [.r 1] none <|
 .q 3 .ld [.r 2] none <|
 .x 5 (.call 189) [.r 3, .s 3] none [] <|
 .q 6 .neq [.r 5, .c z] none <|
 .out [(0, .s 0), (4, .s 4), (34, .r 6)]
def e111r9 : EE := .x 1 (.call 190) [.s 0] none [] <|
 .out []
def e111r10 : EE := .out [(2, .c (.bool false))]
def e111r11 : EE := .q 2 .nl [.s 0] none <|
 .q 3 (.fld 72) [.r 2] none <|
 .q 4 .ld [.r 3] none <|
 .x 6 (.app 50 51 480 [z, z, z, z, z, z, z, z, z, z, zs, zs, zs, zs, z, z, z, z, z, z, z, z, z, z, z, z, z, z, z, z, zs, zs, zs, zs, z, z, z, z, z, z, z, z, (.bool false), z, z, z, z, z, z, z, zs]) [.r 4, .s 4] none [] <|
 .q 7 .nl [.s 0] none <|
 .q 8 (.fld 72) [.r 7] none <|
 .x 9 (.st 1) [.r 8, .r 6] none [] <|
 .out []
def e111r12 : EE := .out [(2, .c (.bool true))]
def e111 : EFn := ⟨(.seq (.reg e111r0 [0] 0) (.seq (.reg e111r1 [0] 0) (.seq (.seq (.reg e111r2 [0, 3, 4] 0) (.block 0 (.loop [0, 3, 4, 15, 16, 17] e111l7))) (.seq (.seq (.reg e111r8 [0, 3, 4] 0) (.cond (.s 34) (.seq (.reg e111r9 [0] 0) (.seq (.reg e111r10 [] 0) .ret)) .skip)) (.seq (.reg e111r11 [0, 4] 0) (.seq (.reg e111r12 [] 0) .ret)))))), [.slot 2], 46, 0⟩
theorem g111 : Good Tryz.prog 111 e111 := ⟨Tryz.f111, Tryz.func111, by kernel_rfl, by kernel_rfl, by kernel_rfl, by kernel_rfl⟩
/-! (*concord/node.Node).run -/
def e112r0 : EE := .q 1 .nl [.s 0] none <|
 .q 2 (.fld 55) [.r 1] none <|
 .q 3 (.lda 7) [.r 2] none <|
 .x 5 (.call 192) [.s 0] none [⟨3, (.lda 7), [.r 2], none⟩] <|
 .x 6 (.call 191) [.r 3, .r 5] none [] <|
 .q 8 (.ext 0) [.r 6] none <|
 .q 9 (.ext 1) [.r 6] none <|
 .out [(0, .s 0), (2, .r 8), (3, .r 9)]
def e112r1 : EE := .q 1 .len [.s 2] none <|
 .out [(0, .s 0), (3, .s 3), (18, .s 2), (19, .r 1), (20, .c z)]
def e112r2 : EE := .q 0 .lss [.s 20, .s 19] none <|
 .out [(0, .s 0), (3, .s 3), (18, .s 18), (19, .s 19), (20, .s 20), (21, .r 0)]
def e112r3 : EE := .q 0 (.ixs 23) [.s 18, .s 20] none <|
 .q 1 (.lda 23) [.r 0] none <|
 .x 2 (.alc [z, z, z, z, z, z, z, z, z, z, zs, zs, zs, zs, z, z, z, z, z, z, z, z, (.bool false)] 311) [] none [] <|
 .x 3 (.st 23) [.r 2, .r 1] none [] <|
 .out [(0, .s 0), (3, .s 3), (5, .r 2), (18, .s 18), (19, .s 19), (20, .s 20)]
def e112r4 : EE := .q 2 .nl [.s 0] none <|
 .q 3 (.fld 6) [.r 2] none <|
 .q 4 (.lda 49) [.r 3] none <|
 .q 5 (.fld 2) [.s 5] none <|
 .q 6 (.fld 5) [.r 5] none <|
 .q 7 (.lda 7) [.r 6] none <|
 .x 8 (.call 141) [.r 4, .r 7] none [] <|
 .q 10 (.ext 0) [.r 8] none <|
 .q 11 (.ext 1) [.r 8] none <|
 .q 12 .nl [.s 0] none <|
 .q 13 (.fld 6) [.r 12] none <|
 .x 14 (.st 49) [.r 13, .r 10] none [] <|
 .out [(0, .s 0), (3, .s 3), (5, .s 5), (18, .s 18), (19, .s 19), (20, .s 20)]
def e112r5 : EE := .q 1 (.fld 0) [.s 5] none <|
 .q 2 (.fld 0) [.r 1] none <|
 .q 3 .ld [.r 2] none <|
 .q 5 (.fld 0) [.s 5] none <|
 .q 6 (.fld 0) [.r 5] none <|
 .q 7 .ld [.r 6] none <|
 .q 8 .nl [.s 0] none <|
 .q 9 (.fld 55) [.r 8] none <|
 .q 10 (.ixa 7 1) [.r 9, .r 7] none <|
 .q 11 .ld [.r 10] none <|
 .q 12 (.fld 0) [.s 5] none <|
 .q 13 (.fld 1) [.r 12] none <|
 .q 14 .ld [.r 13] none <|
 .q 15 .mx [.r 11, .r 14] none <|
 .q 16 .nl [.s 0] none <|
 .q 17 (.fld 55) [.r 16] none <|
 .q 18 (.ixa 7 1) [.r 17, .r 3] none <|
 .x 19 (.st 1) [.r 18, .r 15] none [] <|
 .out [(0, .s 0), (3, .s 3), (18, .s 18), (19, .s 19), (20, .s 20)]
def e112r6 : EE := .q 1 .nl [.s 0] none <|
 .q 2 (.fld 69) [.r 1] none <|
 .q 3 .ld [.r 2] none <|
 .q 4 .add [.r 3, .c (.int .i64 1)] none <|
 .q 5 .nl [.s 0] none <|
 .q 6 (.fld 69) [.r 5] none <|
 .x 7 (.st 1) [.r 6, .r 4] none [] <|
 .out [(0, .s 0), (3, .s 3), (18, .s 18), (19, .s 19), (20, .s 20)]
def e112r7 : EE := .q 0 .add [.s 20, .c (.int .i64 1)] none <|
 .out [(0, .s 0), (3, .s 3), (18, .s 18), (19, .s 19), (20, .r 0)]
def e112l8 : EC := (.seq (.reg e112r2 [0, 3, 18, 19, 20] 0) (.seq (.cond (.s 21) .skip (.exit 0)) (.seq (.block 1 (.seq (.reg e112r3 [0, 3, 18, 19, 20] 0) (.seq (.reg e112r4 [0, 3, 5, 18, 19, 20] 0) (.seq (.reg e112r5 [0, 3, 5, 18, 19, 20] 0) (.reg e112r6 [0, 3, 18, 19, 20] 0))))) (.reg e112r7 [0, 3, 18, 19, 20] 0))))
def e112r9 : EE := .q 1 .len [.s 3] none <|
 .out [(0, .s 0), (65, .s 3), (66, .r 1), (67, .c z)]
def e112r10 : EE := .q 0 .lss [.s 67, .s 66] none <|
 .out [(0, .s 0), (65, .s 65), (66, .s 66), (67, .s 67), (68, .r 0)]
def e112r11 : EE := .q 0 (.ixs 2) [.s 65, .s 67] none <|
 .q 1 (.lda 2) [.r 0] none <|
 .x 2 (.alc [z, z] 40) [] none [] <|
 .x 3 (.st 2) [.r 2, .r 1] none [] <|
 .out [(0, .s 0), (7, .r 2), (65, .s 65), (66, .s 66), (67, .s 67)]
def e112r12 : EE := .q 1 (.fld 0) [.s 7] none <|
 .q 2 .ld [.r 1] none <|
 .q 3 (.fld 1) [.s 7] none <|
 .q 4 .ld [.r 3] none <|
 .x 5 (.call 132) [.s 0, .r 2, .r 4] none [] <|
 .out [(0, .s 0), (65, .s 65), (66, .s 66), (67, .s 67)]
def e112r13 : EE := .q 0 .add [.s 67, .c (.int .i64 1)] none <|
 .out [(0, .s 0), (65, .s 65), (66, .s 66), (67, .r 0)]
def e112l14 : EC := (.seq (.reg e112r10 [0, 65, 66, 67] 0) (.seq (.cond (.s 68) .skip (.exit 2)) (.seq (.block 3 (.seq (.reg e112r11 [0, 65, 66, 67] 0) (.reg e112r12 [0, 7, 65, 66, 67] 0))) (.reg e112r13 [0, 65, 66, 67] 0))))
def e112 : EFn := ⟨(.seq (.reg e112r0 [0] 0) (.seq (.seq (.reg e112r1 [0, 2, 3] 0) (.block 0 (.loop [0, 3, 18, 19, 20] e112l8))) (.seq (.reg e112r9 [0, 3] 0) (.block 2 (.loop [0, 65, 66, 67] e112l14))))), [], 78, 0⟩
theorem g112 : Good Tryz.prog 112 e112 := ⟨Tryz.f112, Tryz.func112, by kernel_rfl, by kernel_rfl, by kernel_rfl, by kernel_rfl⟩
/-! (*concord/node.Node).answer -/
def e113r0 : EE := .out [(0, .s 0), (2, .c .nsl)]
def e113r1 : EE := .q 1 .nl [.s 0] none <|
 .q 2 (.fld 71) [.r 1] none <|
 .q 3 .ld [.r 2] none <|
 .q 4 .len [.r 3] none <|
 .out [(0, .s 0), (2, .s 2), (10, .r 3), (11, .r 4), (12, .c z)]
def e113r2 : EE := .q 0 .lss [.s 12, .s 11] none <|
 .out [(0, .s 0), (2, .s 2), (10, .s 10), (11, .s 11), (12, .s 12), (13, .r 0)]
def e113r3 : EE := .q 0 (.ixs 2) [.s 10, .s 12] none <|
 .q 1 (.lda 2) [.r 0] none <|
 .x 2 (.alc [z, z] 40) [] none [] <|
 .x 3 (.st 2) [.r 2, .r 1] none [] <|
 .out [(0, .s 0), (2, .s 2), (4, .r 2), (10, .s 10), (11, .s 11), (12, .s 12)]
def e113r4 : EE := .q 1 (.fld 0) [.s 4] none <|
 .q 2 .ld [.r 1] none <|
 .q 3 .sub [.r 2, .c (.int .i64 1)] none <|
 .q 4 .nl [.s 0] none <|
 .q 5 (.fld 6) [.r 4] none <|
 .q 6 (.fld 1) [.r 5] none <|
 .q 7 (.ixa 8 6) [.r 6, .r 3] none <|
 .q 8 (.lda 6) [.r 7] none <|
 .x 9 (.alc [z, z, (.bool false), zs, z, .nsl] 58) [] none [⟨2, .ld, [.r 1], none⟩, ⟨8, (.lda 6), [.r 7], none⟩] <|
 .x 10 (.st 6) [.r 9, .r 8] none [] <|
 .out [(0, .s 0), (2, .s 2), (4, .s 4), (5, .r 9), (10, .s 10), (11, .s 11), (12, .s 12)]
def e113r5 : EE := .q 0 (.fld 0) [.s 5] none <|
 .q 1 .ld [.r 0] none <|
 .q 2 (.fld 1) [.s 4] none <|
 .q 3 .ld [.r 2] none <|
 .q 4 .eql [.r 1, .r 3] none <|
 .out [(0, .s 0), (2, .s 2), (4, .s 4), (5, .s 5), (10, .s 10), (11, .s 11), (12, .s 12), (25, .r 4)]
def e113r6 : EE := .q 0 (.fld 1) [.s 5] none <|
 .q 1 (.lda 5) [.r 0] none <|
 .x 2 (.alc [z, (.bool false), zs, z, .nsl] 56) [] none [] <|
 .x 3 (.st 5) [.r 2, .r 1] none [] <|
 .out [(0, .s 0), (2, .s 2), (4, .s 4), (6, .r 2), (10, .s 10), (11, .s 11), (12, .s 12)]
def e113r7 : EE := .q 0 (.fld 4) [.s 6] none <|
 .q 1 .ld [.r 0] none <|
 .x 2 (.call 64) [.r 1] none [] <|
 .q 3 (.fld 4) [.s 6] none <|
 .x 4 (.st 1) [.r 3, .r 2] none [] <|
 .out [(0, .s 0), (2, .s 2), (4, .s 4), (6, .s 6), (10, .s 10), (11, .s 11), (12, .s 12)]
def e113r8 : EE := .q 2 .nl [.s 0] none <|
 .q 3 (.fld 73) [.r 2] none <|
 .q 4 .ld [.r 3] none <|
 .q 5 (.fld 0) [.s 4] none <|
 .q 6 .ld [.r 5] none <|
 .q 7 (.fld 1) [.s 4] none <|
 .q 8 .ld [.r 7] none <|
 .q 9 (.lda 5) [.s 6] none <|
 .q 10 (.bld [z, z, z, (.bool false), zs, z, .nsl] [(0, 1), (1, 1), (2, 5)]) [.r 6, .r 8, .r 9] none <|
 .x 11 (.bsl 246 1 [z, z, z, (.bool false), zs, z, .nsl] [(0, 7)]) [.r 10] none [⟨4, .ld, [.r 3], none⟩] <|
 .x 12 (.app 246 7 80 [z, z, z, (.bool false), zs, z, .nsl]) [.r 4, .r 11] none [] <|
 .q 13 .nl [.s 0] none <|
 .q 14 (.fld 73) [.r 13] none <|
 .x 15 (.st 1) [.r 14, .r 12] none [] <|
 .out [(0, .s 0), (2, .s 2), (10, .s 10), (11, .s 11), (12, .s 12)]
def e113r9 : EE := .q 0 (.fld 0) [.s 5] none <|
 .q 1 .ld [.r 0] none <|
 .q 2 (.fld 1) [.s 4] none <|
 .q 3 .ld [.r 2] none <|
 .q 4 .lss [.r 1, .r 3] none <|
 .out [(0, .s 0), (2, .s 2), (4, .s 4), (10, .s 10), (11, .s 11), (12, .s 12), (52, .r 4)]
def e113r10 : EE := .q 1 (.lda 2) [.s 4] none <|
 .x 2 (.bsl 40 1 [z, z] [(0, 2)]) [.r 1] none [] <|
 .x 3 (.app 40 2 16 [z, z]) [.s 2, .r 2] none [] <|
 .out [(0, .s 0), (2, .r 3), (10, .s 10), (11, .s 11), (12, .s 12)]
def e113r11 : EE := .q 0 .add [.s 12, .c (.int .i64 1)] none <|
 .out [(0, .s 0), (2, .s 2), (10, .s 10), (11, .s 11), (12, .r 0)]
def e113l12 : EC := (.seq (.reg e113r2 [0, 2, 10, 11, 12] 0) (.seq (.cond (.s 13) .skip (.exit 0)) (.seq (.block 1 (.seq (.reg e113r3 [0, 2, 10, 11, 12] 0) (.seq (.reg e113r4 [0, 2, 4, 10, 11, 12] 0) (.block 2 (.seq (.reg e113r5 [0, 2, 4, 5, 10, 11, 12] 0) (.cond (.s 25) (.seq (.reg e113r6 [0, 2, 4, 5, 10, 11, 12] 0) (.seq (.reg e113r7 [0, 2, 4, 6, 10, 11, 12] 0) (.reg e113r8 [0, 2, 4, 6, 10, 11, 12] 0))) (.seq (.reg e113r9 [0, 2, 4, 5, 10, 11, 12] 0) (.cond (.s 52) (.reg e113r10 [0, 2, 4, 10, 11, 12] 0) .skip)))))))) (.reg e113r11 [0, 2, 10, 11, 12] 0))))
def e113r13 : EE := .q 2 .nl [.s 0] none <|
 .q 3 (.fld 71) [.r 2] none <|
 .x 4 (.st 1) [.r 3, .s 2] none [] <|
 .out []
def e113 : EFn := ⟨(.seq (.reg e113r0 [0] 0) (.seq (.seq (.reg e113r1 [0, 2] 0) (.block 0 (.loop [0, 2, 10, 11, 12] e113l12))) (.reg e113r13 [0, 2] 0))), [], 67, 0⟩
theorem g113 : Good Tryz.prog 113 e113 := ⟨Tryz.f113, Tryz.func113, by kernel_rfl, by kernel_rfl, by kernel_rfl, by kernel_rfl⟩
/-! (*concord/node.Node).trim -/
def e116r0 : EE := .q 1 .nl [.s 0] none <|
 .q 2 (.fld 5) [.r 1] none <|
 .q 3 .ld [.r 2] none <|
 .q 6 .nl [.s 0] none <|
 .q 7 (.fld 4) [.r 6] none <|
 .q 8 .ld [.r 7] none <|
 .both false
 (.x 4 (.call 196) [.r 3] none [⟨8, .ld, [.r 7], none⟩] <|
 .both false
 (.x 9 (.call 197) [.r 8] none [] <|
 .both false
 (.x 10 (.alc [z, z, z, z, z, z, z] 44) [] none [⟨3, .ld, [.r 2], none⟩, ⟨8, .ld, [.r 7], none⟩] <|
 .x 11 (.alc [z, z, z, z, z, z, z] 44) [] none [⟨3, .ld, [.r 2], none⟩, ⟨8, .ld, [.r 7], none⟩] <|
 .x 12 (.st 7) [.r 10, .r 4] none [] <|
 .x 13 (.st 7) [.r 11, .r 9] none [] <|
 .out [(0, .s 0), (2, .r 10), (3, .r 11)])
 (.x 11 (.alc [z, z, z, z, z, z, z] 44) [] none [⟨3, .ld, [.r 2], none⟩, ⟨8, .ld, [.r 7], none⟩] <|
 .x 10 (.alc [z, z, z, z, z, z, z] 44) [] none [⟨3, .ld, [.r 2], none⟩, ⟨8, .ld, [.r 7], none⟩] <|
 .x 12 (.st 7) [.r 10, .r 4] none [] <|
 .x 13 (.st 7) [.r 11, .r 9] none [] <|
 .out [(0, .s 0), (2, .r 10), (3, .r 11)]))
 (.both false
 (.x 10 (.alc [z, z, z, z, z, z, z] 44) [] none [⟨3, .ld, [.r 2], none⟩, ⟨8, .ld, [.r 7], none⟩] <|
 .both false
 (.x 9 (.call 197) [.r 8] none [] <|
 .x 11 (.alc [z, z, z, z, z, z, z] 44) [] none [⟨3, .ld, [.r 2], none⟩, ⟨8, .ld, [.r 7], none⟩] <|
 .x 12 (.st 7) [.r 10, .r 4] none [] <|
 .x 13 (.st 7) [.r 11, .r 9] none [] <|
 .out [(0, .s 0), (2, .r 10), (3, .r 11)])
 (.x 11 (.alc [z, z, z, z, z, z, z] 44) [] none [⟨3, .ld, [.r 2], none⟩, ⟨8, .ld, [.r 7], none⟩] <|
 .x 9 (.call 197) [.r 8] none [] <|
 .x 12 (.st 7) [.r 10, .r 4] none [] <|
 .x 13 (.st 7) [.r 11, .r 9] none [] <|
 .out [(0, .s 0), (2, .r 10), (3, .r 11)]))
 (.x 11 (.alc [z, z, z, z, z, z, z] 44) [] none [⟨3, .ld, [.r 2], none⟩, ⟨8, .ld, [.r 7], none⟩] <|
 .both false
 (.x 9 (.call 197) [.r 8] none [] <|
 .x 10 (.alc [z, z, z, z, z, z, z] 44) [] none [⟨3, .ld, [.r 2], none⟩, ⟨8, .ld, [.r 7], none⟩] <|
 .x 12 (.st 7) [.r 10, .r 4] none [] <|
 .x 13 (.st 7) [.r 11, .r 9] none [] <|
 .out [(0, .s 0), (2, .r 10), (3, .r 11)])
 (.x 10 (.alc [z, z, z, z, z, z, z] 44) [] none [⟨3, .ld, [.r 2], none⟩, ⟨8, .ld, [.r 7], none⟩] <|
 .x 9 (.call 197) [.r 8] none [] <|
 .x 12 (.st 7) [.r 10, .r 4] none [] <|
 .x 13 (.st 7) [.r 11, .r 9] none [] <|
 .out [(0, .s 0), (2, .r 10), (3, .r 11)]))))
 (.both false
 (.x 10 (.alc [z, z, z, z, z, z, z] 44) [] none [⟨3, .ld, [.r 2], none⟩, ⟨8, .ld, [.r 7], none⟩] <|
 .both false
 (.x 4 (.call 196) [.r 3] none [⟨8, .ld, [.r 7], none⟩] <|
 .both false
 (.x 9 (.call 197) [.r 8] none [] <|
 .x 11 (.alc [z, z, z, z, z, z, z] 44) [] none [⟨3, .ld, [.r 2], none⟩, ⟨8, .ld, [.r 7], none⟩] <|
 .x 12 (.st 7) [.r 10, .r 4] none [] <|
 .x 13 (.st 7) [.r 11, .r 9] none [] <|
 .out [(0, .s 0), (2, .r 10), (3, .r 11)])
 (.x 11 (.alc [z, z, z, z, z, z, z] 44) [] none [⟨3, .ld, [.r 2], none⟩, ⟨8, .ld, [.r 7], none⟩] <|
 .x 9 (.call 197) [.r 8] none [] <|
 .x 12 (.st 7) [.r 10, .r 4] none [] <|
 .x 13 (.st 7) [.r 11, .r 9] none [] <|
 .out [(0, .s 0), (2, .r 10), (3, .r 11)]))
 (.x 11 (.alc [z, z, z, z, z, z, z] 44) [] none [⟨3, .ld, [.r 2], none⟩, ⟨8, .ld, [.r 7], none⟩] <|
 .x 4 (.call 196) [.r 3] none [⟨8, .ld, [.r 7], none⟩] <|
 .x 9 (.call 197) [.r 8] none [] <|
 .x 12 (.st 7) [.r 10, .r 4] none [] <|
 .x 13 (.st 7) [.r 11, .r 9] none [] <|
 .out [(0, .s 0), (2, .r 10), (3, .r 11)]))
 (.x 11 (.alc [z, z, z, z, z, z, z] 44) [] none [⟨3, .ld, [.r 2], none⟩, ⟨8, .ld, [.r 7], none⟩] <|
 .both false
 (.x 4 (.call 196) [.r 3] none [⟨8, .ld, [.r 7], none⟩] <|
 .both false
 (.x 9 (.call 197) [.r 8] none [] <|
 .x 10 (.alc [z, z, z, z, z, z, z] 44) [] none [⟨3, .ld, [.r 2], none⟩, ⟨8, .ld, [.r 7], none⟩] <|
 .x 12 (.st 7) [.r 10, .r 4] none [] <|
 .x 13 (.st 7) [.r 11, .r 9] none [] <|
 .out [(0, .s 0), (2, .r 10), (3, .r 11)])
 (.x 10 (.alc [z, z, z, z, z, z, z] 44) [] none [⟨3, .ld, [.r 2], none⟩, ⟨8, .ld, [.r 7], none⟩] <|
 .x 9 (.call 197) [.r 8] none [] <|
 .x 12 (.st 7) [.r 10, .r 4] none [] <|
 .x 13 (.st 7) [.r 11, .r 9] none [] <|
 .out [(0, .s 0), (2, .r 10), (3, .r 11)]))
 (.x 10 (.alc [z, z, z, z, z, z, z] 44) [] none [⟨3, .ld, [.r 2], none⟩, ⟨8, .ld, [.r 7], none⟩] <|
 .x 4 (.call 196) [.r 3] none [⟨8, .ld, [.r 7], none⟩] <|
 .x 9 (.call 197) [.r 8] none [] <|
 .x 12 (.st 7) [.r 10, .r 4] none [] <|
 .x 13 (.st 7) [.r 11, .r 9] none [] <|
 .out [(0, .s 0), (2, .r 10), (3, .r 11)])))
def e116r1 : EE := .out [(0, .s 0), (2, .s 2), (3, .s 3), (4, .c z)]
def e116r2 : EE := .out [(0, .s 0), (2, .s 2), (3, .s 3), (4, .s 4), (21, .c z)]
def e116r3 : EE := .q 0 .lss [.s 21, .c (.int .i64 7)] none <|
 .out [(0, .s 0), (2, .s 2), (3, .s 3), (4, .s 4), (21, .s 21), (22, .r 0)]
def e116r4 : EE := .out [(0, .s 0), (2, .s 2), (3, .s 3), (4, .s 4), (5, .s 21), (21, .s 21)]
def e116r5 : EE := .q 2 (.ixa 7 1) [.s 2, .s 5] none <|
 .q 3 .ld [.r 2] none <|
 .q 5 (.ixa 7 1) [.s 3, .s 5] none <|
 .q 6 .ld [.r 5] none <|
 .q 7 .sub [.r 3, .r 6] none <|
 .q 8 .mx [.r 7, .c z] none <|
 .q 9 .add [.s 4, .r 8] none <|
 .out [(0, .s 0), (2, .s 2), (3, .s 3), (4, .r 9), (21, .s 21)]
def e116r6 : EE := .q 0 .add [.s 21, .c (.int .i64 1)] none <|
 .out [(0, .s 0), (2, .s 2), (3, .s 3), (4, .s 4), (21, .r 0)]
def e116l7 : EC := (.seq (.reg e116r3 [0, 2, 3, 4, 21] 0) (.seq (.cond (.s 22) .skip (.exit 0)) (.seq (.block 1 (.seq (.reg e116r4 [0, 2, 3, 4, 21] 0) (.reg e116r5 [0, 2, 3, 4, 5, 21] 0))) (.reg e116r6 [0, 2, 3, 4, 21] 0))))
def e116r8 : EE := .q 1 .lss [.s 4, .c (.int .i64 8)] none <|
 .out [(0, .s 0), (2, .s 2), (36, .r 1)]
def e116r9 : EE := .q 1 .nl [.s 0] none <|
 .q 2 (.fld 4) [.r 1] none <|
 .q 3 .ld [.r 2] none <|
 .q 4 (.lda 7) [.s 2] none <|
 .x 5 (.call 198) [.r 3, .r 4] none [] <|
 .out [(0, .s 0)]
def e116r10 : EE := .q 1 .nl [.s 0] none <|
 .q 2 (.fld 4) [.r 1] none <|
 .q 3 .ld [.r 2] none <|
 .x 4 (.call 197) [.r 3] none [] <|
 .x 5 (.call 38) [.r 4] none [] <|
 .x 6 (.bsl 103 1 [.nsl] [(0, 1)]) [.r 5] none [] <|
 .out [(0, .s 0), (6, .r 6)]
def e116r11 : EE := .q 1 .nl [.s 0] none <|
 .q 2 (.fld 4) [.r 1] none <|
 .q 3 .ld [.r 2] none <|
 .x 4 (.call 119) [.r 3] none [] <|
 .q 5 .len [.r 4] none <|
 .out [(0, .s 0), (6, .s 6), (54, .r 4), (55, .r 5), (56, .c z)]
def e116r12 : EE := .q 0 .lss [.s 56, .s 55] none <|
 .out [(0, .s 0), (6, .s 6), (54, .s 54), (55, .s 55), (56, .s 56), (57, .r 0)]
def e116r13 : EE := .q 0 (.ixs 2) [.s 54, .s 56] none <|
 .q 1 (.lda 2) [.r 0] none <|
 .x 2 (.alc [z, z] 40) [] none [] <|
 .x 3 (.st 2) [.r 2, .r 1] none [] <|
 .out [(0, .s 0), (6, .s 6), (8, .r 2), (54, .s 54), (55, .s 55), (56, .s 56)]
def e116r14 : EE := .q 1 .nl [.s 0] none <|
 .q 2 (.fld 4) [.r 1] none <|
 .q 3 .ld [.r 2] none <|
 .q 4 (.lda 2) [.s 8] none <|
 .both false
 (.x 5 (.call 120) [.r 3, .r 4] none [] <|
 .q 7 (.ext 0) [.r 5] none <|
 .q 8 (.ext 1) [.r 5] none <|
 .x 9 (.alc [z, z, z, z, z, z, z, z, zs, zs, zs, zs, z, z, z, z, z, z, z, z, (.bool false)] 48) [] none [⟨3, .ld, [.r 2], none⟩, ⟨4, (.lda 2), [.s 8], none⟩] <|
 .x 10 (.st 21) [.r 9, .r 7] none [] <|
 .out [(0, .s 0), (6, .s 6), (8, .s 8), (9, .r 9), (10, .r 8), (54, .s 54), (55, .s 55), (56, .s 56)])
 (.x 9 (.alc [z, z, z, z, z, z, z, z, zs, zs, zs, zs, z, z, z, z, z, z, z, z, (.bool false)] 48) [] none [⟨3, .ld, [.r 2], none⟩, ⟨4, (.lda 2), [.s 8], none⟩] <|
 .x 5 (.call 120) [.r 3, .r 4] none [] <|
 .q 7 (.ext 0) [.r 5] none <|
 .q 8 (.ext 1) [.r 5] none <|
 .x 10 (.st 21) [.r 9, .r 7] none [] <|
 .out [(0, .s 0), (6, .s 6), (8, .s 8), (9, .r 9), (10, .r 8), (54, .s 54), (55, .s 55), (56, .s 56)])
def e116r15 : EE := .out [(0, .s 0), (6, .s 6), (8, .s 8), (9, .s 9), (54, .s 54), (55, .s 55), (56, .s 56), (69, .s 10)]
def e116r16 : EE := .q 1 (.lda 2) [.s 8] none <|
 .q 2 (.lda 21) [.s 9] none <|
 .x 3 (.call 199) [.r 1, .r 2] none [] <|
 .x 4 (.call 188) [.r 3] none [] <|
 .x 5 (.bsl 103 1 [.nsl] [(0, 1)]) [.r 4] none [] <|
 .x 6 (.app 103 1 24 [.nsl]) [.s 6, .r 5] none [] <|
 .out [(0, .s 0), (6, .r 6), (54, .s 54), (55, .s 55), (56, .s 56)]
def e116r17 : EE := .q 0 .add [.s 56, .c (.int .i64 1)] none <|
 .out [(0, .s 0), (6, .s 6), (54, .s 54), (55, .s 55), (56, .r 0)]
def e116l18 : EC := (.seq (.reg e116r12 [0, 6, 54, 55, 56] 0) (.seq (.cond (.s 57) .skip (.exit 2)) (.seq (.block 3 (.seq (.reg e116r13 [0, 6, 54, 55, 56] 0) (.seq (.reg e116r14 [0, 6, 8, 54, 55, 56] 11) (.seq (.reg e116r15 [0, 6, 8, 9, 10, 54, 55, 56] 0) (.cond (.s 69) (.reg e116r16 [0, 6, 8, 9, 54, 55, 56] 0) .skip))))) (.reg e116r17 [0, 6, 54, 55, 56] 0))))
def e116r19 : EE := .q 1 .nl [.s 0] none <|
 .q 2 (.fld 3) [.r 1] none <|
 .q 3 .ld [.r 2] none <|
 .x 5 (.call 37) [.r 3, .s 6] none [] <|
 .q 6 .neq [.r 5, .c z] none <|
 .out [(0, .s 0), (84, .r 6)]
def e116r20 : EE := .x 1 (.call 190) [.s 0] none [] <|
 .out []
def e116 : EFn := ⟨(.seq (.reg e116r0 [0] 14) (.seq (.reg e116r1 [0, 2, 3] 0) (.seq (.seq (.reg e116r2 [0, 2, 3, 4] 0) (.block 0 (.loop [0, 2, 3, 4, 21] e116l7))) (.seq (.seq (.reg e116r8 [0, 2, 4] 0) (.cond (.s 36) .ret .skip)) (.seq (.reg e116r9 [0, 2] 0) (.seq (.reg e116r10 [0] 0) (.seq (.seq (.reg e116r11 [0, 6] 0) (.block 2 (.loop [0, 6, 54, 55, 56] e116l18))) (.seq (.reg e116r19 [0, 6] 0) (.cond (.s 84) (.reg e116r20 [0] 0) .skip))))))))), [], 87, 0⟩
theorem g116 : Good Tryz.prog 116 e116 := ⟨Tryz.f116, Tryz.func116, by kernel_rfl, by kernel_rfl, by kernel_rfl, by kernel_rfl⟩
/-! concord/cmd.within -/
def e117r0 : EE := .out [(0, .s 0), (1, .s 1)]
def e117r1 : EE := .q 1 .geq [.s 0, .c (.int .i64 1)] none <|
 .q 3 .mv [.s 0] (some (.r 1, true)) <|
 .q 4 .mv [.s 1] (some (.r 1, true)) <|
 .q 5 .leq [.r 3, .r 4] (some (.r 1, true)) <|
 .q 6 .pick [.r 1, .r 5, .c (.bool false)] none <|
 .out [(4, .r 6)]
def e117 : EFn := ⟨(.seq (.reg e117r0 [0, 1] 0) (.seq (.reg e117r1 [0, 1] 0) .ret)), [.slot 4], 12, 0⟩
theorem g117 : Good Tryz.prog 117 e117 := ⟨Tryz.f117, Tryz.func117, by kernel_rfl, by kernel_rfl, by kernel_rfl, by kernel_rfl⟩
/-! concord/cmd.bare -/
def e118r0 : EE := .x 0 (.box 33) [.s 0] none [] <|
 .x 1 (.alc [z, z, z, zs, zs, zs, zs] 33) [] none [] <|
 .out [(1, .r 0), (2, .r 1)]
def e118r1 : EE := .q 0 (.fld 0) [.s 1] none <|
 .q 1 .ld [.r 0] none <|
 .q 2 (.fld 1) [.s 1] none <|
 .q 3 .ld [.r 2] none <|
 .q 4 (.fld 2) [.s 1] none <|
 .q 5 .ld [.r 4] none <|
 .q 6 (.fld 3) [.s 1] none <|
 .q 7 .ld [.r 6] none <|
 .q 8 (.bld [z, z, z, zs, zs, zs, zs] [(0, 1), (1, 1), (2, 1), (3, 1)]) [.r 1, .r 3, .r 5, .r 7] none <|
 .x 9 (.alc [z, z, z, zs, zs, zs, zs] 33) [] none [] <|
 .x 10 (.st 7) [.r 9, .r 8] none [] <|
 .out [(1, .s 1), (2, .s 2), (3, .r 9)]
def e118r2 : EE := .q 0 (.fld 0) [.s 1] none <|
 .q 1 .ld [.r 0] none <|
 .out [(1, .s 1), (2, .s 2), (3, .s 3), (14, .r 1)]
def e118r3 : EE := .q 0 .eql [.s 14, .c (.int .i64 2)] none <|
 .out [(1, .s 1), (2, .s 2), (3, .s 3), (14, .s 14), (15, .r 0)]
def e118r4 : EE := .q 0 (.fld 6) [.s 1] none <|
 .q 1 .ld [.r 0] none <|
 .q 2 (.fld 6) [.s 3] none <|
 .x 3 (.st 1) [.r 2, .r 1] none [] <|
 .out [(2, .s 2), (3, .s 3)]
def e118r5 : EE := .q 0 .eql [.s 14, .c (.int .i64 4)] none <|
 .out [(1, .s 1), (2, .s 2), (3, .s 3), (14, .s 14), (20, .r 0)]
def e118r6 : EE := .q 0 (.fld 5) [.s 1] none <|
 .q 1 .ld [.r 0] none <|
 .q 2 (.fld 6) [.s 1] none <|
 .q 3 .ld [.r 2] none <|
 .q 4 (.fld 5) [.s 3] none <|
 .x 5 (.st 1) [.r 4, .r 1] none [⟨3, .ld, [.r 2], none⟩] <|
 .q 6 (.fld 6) [.s 3] none <|
 .x 7 (.st 1) [.r 6, .r 3] none [] <|
 .out [(2, .s 2), (3, .s 3)]
def e118r7 : EE := .q 0 .eql [.s 14, .c (.int .i64 5)] none <|
 .out [(1, .s 1), (2, .s 2), (3, .s 3), (28, .r 0)]
def e118r8 : EE := .q 0 (.fld 4) [.s 1] none <|
 .q 1 .ld [.r 0] none <|
 .q 2 (.fld 4) [.s 3] none <|
 .x 3 (.st 1) [.r 2, .r 1] none [] <|
 .out [(2, .s 2), (3, .s 3)]
def e118r9 : EE := .q 0 (.lda 7) [.s 3] none <|
 .x 1 (.st 7) [.s 2, .r 0] none [] <|
 .out [(2, .s 2)]
def e118 : EFn := ⟨(.seq (.reg e118r0 [0] 0) (.seq (.reg e118r1 [1, 2] 0) (.seq (.seq (.reg e118r2 [1, 2, 3] 0) (.block 0 (.seq (.reg e118r3 [1, 2, 3, 14] 0) (.cond (.s 15) (.reg e118r4 [1, 2, 3] 0) (.seq (.reg e118r5 [1, 2, 3, 14] 0) (.cond (.s 20) (.reg e118r6 [1, 2, 3] 0) (.seq (.reg e118r7 [1, 2, 3, 14] 0) (.cond (.s 28) (.reg e118r8 [1, 2, 3] 0) .skip)))))))) (.seq (.reg e118r9 [2, 3] 0) .ret)))), [.cells 2 7], 34, 0⟩
theorem g118 : Good Tryz.prog 118 e118 := ⟨Tryz.f118, Tryz.func118, by kernel_rfl, by kernel_rfl, by kernel_rfl, by kernel_rfl⟩
/-! (*concord/core.Core).Cells -/
def e119r0 : EE := .out [(0, .s 0)]
def e119r1 : EE := .q 1 .nl [.s 0] none <|
 .q 2 (.fld 2) [.r 1] none <|
 .q 3 .ld [.r 2] none <|
 .x 4 (.call 200) [.r 3] none [] <|
 .out [(2, .r 4)]
def e119 : EFn := ⟨(.seq (.reg e119r0 [0] 0) (.seq (.reg e119r1 [0] 0) .ret)), [.slot 2], 8, 0⟩
theorem g119 : Good Tryz.prog 119 e119 := ⟨Tryz.f119, Tryz.func119, by kernel_rfl, by kernel_rfl, by kernel_rfl, by kernel_rfl⟩
/-! (*concord/core.Core).Cell -/
def e120r0 : EE := .x 0 (.box 40) [.s 1] none [] <|
 .x 1 (.alc [z, z, z, z, z, z, z, z, zs, zs, zs, zs, z, z, z, z, z, z, z, z, (.bool false)] 48) [] none [] <|
 .out [(0, .s 0), (3, .r 0), (4, .r 1)]
def e120r1 : EE := .q 1 .nl [.s 0] none <|
 .q 2 (.fld 2) [.r 1] none <|
 .q 3 .ld [.r 2] none <|
 .q 4 (.lda 2) [.s 3] none <|
 .x 5 (.call 201) [.r 3, .r 4] none [] <|
 .q 6 (.ext 0) [.r 5] none <|
 .q 7 (.ext 1) [.r 5] none <|
 .x 8 (.st 21) [.s 4, .r 6] none [] <|
 .out [(4, .s 4), (5, .r 7)]
def e120 : EFn := ⟨(.seq (.reg e120r0 [0, 1] 0) (.seq (.reg e120r1 [0, 3, 4] 0) .ret)), [.cells 4 21, .slot 5], 14, 0⟩
theorem g120 : Good Tryz.prog 120 e120 := ⟨Tryz.f120, Tryz.func120, by kernel_rfl, by kernel_rfl, by kernel_rfl, by kernel_rfl⟩
/-! (*concord/log.Log).Top -/
def e121r0 : EE := .x 0 (.alc [z, z, z, z, z, z, z] 44) [] none [] <|
 .out [(0, .s 0), (2, .r 0)]
def e121r1 : EE := .q 1 .nl [.s 0] none <|
 .q 2 (.fld 1) [.r 1] none <|
 .q 3 (.lda 7) [.r 2] none <|
 .x 4 (.alc [z, z, z, z, z, z, z] 44) [] none [] <|
 .x 5 (.st 7) [.r 4, .r 3] none [] <|
 .out [(0, .s 0), (2, .s 2), (3, .r 4)]
def e121r2 : EE := .q 1 .nl [.s 0] none <|
 .q 2 (.fld 0) [.r 1] none <|
 .q 3 .ld [.r 2] none <|
 .x 4 .rng [.r 3] none [] <|
 .out [(2, .s 2), (3, .s 3), (13, .r 4)]
def e121r3 : EE := .x 0 .nxt [.s 13] none [] <|
 .q 1 (.ext 0) [.r 0] none <|
 .out [(2, .s 2), (3, .s 3), (13, .s 13), (15, .r 1)]
def e121r4 : EE := .q 0 .ent [.s 13] none <|
 .q 1 (.ext 0) [.r 0] none <|
 .x 2 (.alc [z, z] 40) [] none [] <|
 .x 3 (.st 2) [.r 2, .r 1] none [] <|
 .out [(2, .s 2), (3, .s 3), (4, .r 2), (13, .s 13)]
def e121r5 : EE := .q 0 (.fld 0) [.s 4] none <|
 .q 1 .ld [.r 0] none <|
 .q 2 (.fld 0) [.s 4] none <|
 .q 3 .ld [.r 2] none <|
 .q 4 (.ixa 7 1) [.s 3, .r 3] none <|
 .q 5 .ld [.r 4] none <|
 .q 6 (.fld 1) [.s 4] none <|
 .q 7 .ld [.r 6] none <|
 .q 8 .mx [.r 5, .r 7] none <|
 .q 9 (.ixa 7 1) [.s 3, .r 1] none <|
 .x 10 (.st 1) [.r 9, .r 8] none [] <|
 .out [(2, .s 2), (3, .s 3), (13, .s 13)]
def e121l6 : EC := (.seq (.reg e121r3 [2, 3, 13] 0) (.seq (.cond (.s 15) .skip (.exit 0)) (.block 1 (.seq (.reg e121r4 [2, 3, 13] 0) (.reg e121r5 [2, 3, 4, 13] 0)))))
def e121r7 : EE := .q 0 (.lda 7) [.s 3] none <|
 .x 1 (.st 7) [.s 2, .r 0] none [] <|
 .out [(2, .s 2)]
def e121 : EFn := ⟨(.seq (.reg e121r0 [0] 0) (.seq (.reg e121r1 [0, 2] 0) (.seq (.seq (.reg e121r2 [0, 2, 3] 0) (.block 0 (.loop [2, 3, 13] e121l6))) (.seq (.reg e121r7 [2, 3] 0) .ret)))), [.cells 2 7], 29, 0⟩
theorem g121 : Good Tryz.prog 121 e121 := ⟨Tryz.f121, Tryz.func121, by kernel_rfl, by kernel_rfl, by kernel_rfl, by kernel_rfl⟩
end Go.Ev
