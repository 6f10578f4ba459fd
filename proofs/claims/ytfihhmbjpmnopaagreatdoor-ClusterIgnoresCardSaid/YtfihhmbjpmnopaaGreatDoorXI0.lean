import Derived.Test.YtfihhmbjpmnopaaGreatDoorEvB
import Derived.Test.YtfihhmbjpmnopaaGreatDoorProg
set_option linter.unusedVariables false
set_option linter.unusedSimpArgs false
namespace Go.Ev
open Go.Fw Go.Proofs
/-! concord/concordlaw25.ClusterIgnores -/
def e3r0 : EE := .out [(0, .s 0), (1, .s 1)]
def e3r1 : EE := .x 0 (.bsl 3 3 [z, z, z] [(0, 1), (1, 1), (2, 1)]) [.c (.int .i64 3), .c (.int .i64 5), .c (.int .i64 7)] none [] <|
 .x 2 (.call 5) [.s 0, .c z, .c (.int .i64 2)] none [] <|
 .q 3 (.ixs 1) [.r 0, .r 2] none <|
 .q 4 .ld [.r 3] none <|
 .x 5 (.call 4) [.r 4] none [] <|
 .q 7 (.ext 0) [.r 5] none <|
 .q 8 (.ext 1) [.r 5] none <|
 .out [(1, .s 1), (5, .r 7), (6, .r 8)]
def e3r2 : EE := .q 1 (.eqp false) [.s 5, .c .nptr] none <|
 .q 3 .mv [.s 6] (some (.r 1, false)) <|
 .q 4 .neq [.r 3, .c z] (some (.r 1, false)) <|
 .q 5 .pick [.r 1, .c (.bool true), .r 4] none <|
 .out [(1, .s 1), (5, .s 5), (25, .r 5)]
def e3r3 : EE := .out [(4, .c (.bool false))]
def e3r4 : EE := .out [(1, .s 1), (5, .s 5), (7, .c z)]
def e3r5 : EE := .q 2 .len [.s 1] none <|
 .q 3 .lss [.s 7, .r 2] none <|
 .q 5 .mv [.s 7] (some (.r 3, true)) <|
 .q 6 .lss [.r 5, .c (.int .i64 40)] (some (.r 3, true)) <|
 .q 7 .pick [.r 3, .r 6, .c (.bool false)] none <|
 .out [(1, .s 1), (5, .s 5), (7, .s 7), (33, .r 7)]
def e3r6 : EE := .q 2 (.ixs 12) [.s 1, .s 7] none <|
 .q 3 (.lda 12) [.r 2] none <|
 .x 4 (.alc [z, z, z, z, z, z, z, zs, zs, zs, zs, .nsl] 32) [] none [] <|
 .x 5 (.st 12) [.r 4, .r 3] none [] <|
 .out [(1, .s 1), (5, .s 5), (7, .s 7), (8, .r 4)]
def e3r7 : EE := .q 0 (.lda 12) [.s 8] none <|
 .x 1 (.call 6) [.r 0] none [] <|
 .q 2 .not [.r 1] none <|
 .out [(1, .s 1), (5, .s 5), (7, .s 7), (8, .s 8), (42, .r 2)]
def e3r8 : EE := .q 0 (.fld 0) [.s 8] none <|
 .q 1 .ld [.r 0] none <|
 .out [(1, .s 1), (5, .s 5), (7, .s 7), (8, .s 8), (44, .r 1)]
def e3r9 : EE := .q 0 .eql [.s 44, .c (.int .i64 1)] none <|
 .out [(1, .s 1), (5, .s 5), (7, .s 7), (8, .s 8), (44, .s 44), (45, .r 0)]
def e3r10 : EE := .q 0 (.fld 3) [.s 8] none <|
 .q 1 .ld [.r 0] none <|
 .x 2 (.call 5) [.r 1, .c z, .c (.int .i64 9)] none [] <|
 .q 3 .neg [.r 2] none <|
 .q 4 (.fld 3) [.s 8] none <|
 .x 5 (.st 1) [.r 4, .r 3] none [] <|
 .out [(1, .s 1), (5, .s 5), (7, .s 7), (8, .s 8)]
def e3r11 : EE := .q 0 .eql [.s 44, .c (.int .i64 5)] none <|
 .out [(1, .s 1), (5, .s 5), (7, .s 7), (8, .s 8), (44, .s 44), (52, .r 0)]
def e3r12 : EE := .q 0 .eql [.s 44, .c (.int .i64 7)] none <|
 .out [(1, .s 1), (5, .s 5), (7, .s 7), (8, .s 8), (44, .s 44), (52, .r 0)]
def e3r13 : EE := .q 0 .eql [.s 44, .c (.int .i64 8)] none <|
 .out [(1, .s 1), (5, .s 5), (7, .s 7), (8, .s 8), (44, .s 44), (52, .r 0)]
def e3r14 : EE := .q 2 (.fld 1) [.s 8] none <|
 .q 3 .ld [.r 2] none <|
 .x 1 (.call 7) [.s 5] none [⟨3, .ld, [.r 2], none⟩] <|
 .x 4 (.call 5) [.r 3, .c z, .c (.int .i64 9)] none [] <|
 .q 5 .add [.r 1, .r 4] none <|
 .q 6 (.fld 1) [.s 8] none <|
 .x 7 (.st 1) [.r 6, .r 5] none [] <|
 .out [(1, .s 1), (5, .s 5), (7, .s 7), (8, .s 8)]
def e3r15 : EE := .q 0 .eql [.s 44, .c (.int .i64 9)] none <|
 .out [(1, .s 1), (5, .s 5), (7, .s 7), (8, .s 8), (44, .s 44), (63, .r 0)]
def e3r16 : EE := .q 0 (.fld 1) [.s 8] none <|
 .q 1 .ld [.r 0] none <|
 .x 3 (.call 7) [.s 5] none [⟨1, .ld, [.r 0], none⟩] <|
 .q 4 .sub [.r 3, .c (.int .i64 1)] none <|
 .x 5 (.call 5) [.r 1, .c z, .r 4] none [] <|
 .q 6 (.fld 1) [.s 8] none <|
 .x 7 (.st 1) [.r 6, .r 5] none [] <|
 .out [(1, .s 1), (5, .s 5), (7, .s 7), (8, .s 8)]
def e3r17 : EE := .q 0 .eql [.s 44, .c (.int .i64 6)] none <|
 .out [(1, .s 1), (5, .s 5), (7, .s 7), (8, .s 8), (44, .s 44), (72, .r 0)]
def e3r18 : EE := .q 0 (.fld 1) [.s 8] none <|
 .q 1 .ld [.r 0] none <|
 .x 2 (.call 5) [.r 1, .c z, .c (.int .i64 9)] none [] <|
 .q 3 .neg [.r 2] none <|
 .q 4 (.fld 1) [.s 8] none <|
 .x 5 (.st 1) [.r 4, .r 3] none [] <|
 .out [(1, .s 1), (5, .s 5), (7, .s 7), (8, .s 8)]
def e3r19 : EE := .q 0 .eql [.s 44, .c (.int .i64 2)] none <|
 .out [(1, .s 1), (5, .s 5), (7, .s 7), (8, .s 8), (44, .s 44), (79, .r 0)]
def e3r20 : EE := .q 0 .eql [.s 44, .c (.int .i64 3)] none <|
 .out [(1, .s 1), (5, .s 5), (7, .s 7), (8, .s 8), (44, .s 44), (79, .r 0)]
def e3r21 : EE := .q 0 .eql [.s 44, .c (.int .i64 4)] none <|
 .out [(1, .s 1), (5, .s 5), (7, .s 7), (8, .s 8), (79, .r 0)]
def e3r22 : EE := .q 0 (.fld 1) [.s 8] none <|
 .q 1 .ld [.r 0] none <|
 .x 2 (.call 5) [.r 1, .c z, .c (.int .i64 9)] none [] <|
 .q 3 (.fld 1) [.s 8] none <|
 .x 4 (.st 1) [.r 3, .r 2] none [] <|
 .out [(1, .s 1), (5, .s 5), (7, .s 7), (8, .s 8)]
def e3r23 : EE := .q 1 (.lda 12) [.s 8] none <|
 .x 2 (.call 8) [.s 5, .r 1] none [] <|
 .out [(1, .s 1), (5, .s 5), (7, .s 7), (89, .r 2)]
def e3r24 : EE := .out [(4, .c (.bool false))]
def e3r25 : EE := .q 1 .add [.s 7, .c (.int .i64 1)] none <|
 .out [(1, .s 1), (5, .s 5), (7, .r 1)]
def e3l26 : EC := (.seq (.seq (.reg e3r5 [1, 5, 7] 0) (.cond (.s 33) .skip (.exit 0))) (.seq (.block 1 (.seq (.reg e3r6 [1, 5, 7] 0) (.seq (.seq (.reg e3r7 [1, 5, 7, 8] 0) (.cond (.s 42) (.exit 1) .skip)) (.seq (.seq (.reg e3r8 [1, 5, 7, 8] 0) (.block 2 (.seq (.reg e3r9 [1, 5, 7, 8, 44] 0) (.cond (.s 45) (.reg e3r10 [1, 5, 7, 8] 0) (.seq (.seq (.reg e3r11 [1, 5, 7, 8, 44] 0) (.cond (.s 52) .skip (.seq (.reg e3r12 [1, 5, 7, 8, 44] 0) (.cond (.s 52) .skip (.reg e3r13 [1, 5, 7, 8, 44] 0))))) (.cond (.s 52) (.reg e3r14 [1, 5, 7, 8] 0) (.seq (.reg e3r15 [1, 5, 7, 8, 44] 0) (.cond (.s 63) (.reg e3r16 [1, 5, 7, 8] 0) (.seq (.reg e3r17 [1, 5, 7, 8, 44] 0) (.cond (.s 72) (.reg e3r18 [1, 5, 7, 8] 0) (.seq (.seq (.reg e3r19 [1, 5, 7, 8, 44] 0) (.cond (.s 79) .skip (.seq (.reg e3r20 [1, 5, 7, 8, 44] 0) (.cond (.s 79) .skip (.reg e3r21 [1, 5, 7, 8, 44] 0))))) (.cond (.s 79) (.reg e3r22 [1, 5, 7, 8] 0) .skip)))))))))))) (.seq (.reg e3r23 [1, 5, 7, 8] 0) (.cond (.s 89) (.seq (.reg e3r24 [] 0) .ret) .skip)))))) (.reg e3r25 [1, 5, 7] 0)))
def e3r27 : EE := .out [(5, .s 5), (9, .c z)]
def e3r28 : EE := .x 2 (.call 7) [.s 5] none [] <|
 .q 3 .lss [.s 9, .r 2] none <|
 .out [(5, .s 5), (9, .s 9), (93, .r 3)]
def e3r29 : EE := .x 2 (.call 9) [.s 5, .s 9] none [] <|
 .out [(5, .s 5), (9, .s 9), (10, .r 2)]
def e3r30 : EE := .q 1 (.eqp false) [.s 10, .c .nptr] none <|
 .q 3 .mv [.s 10] (some (.r 1, false)) <|
 .x 4 (.call 10) [.r 3] (some (.r 1, false)) [] <|
 .q 5 (.bld [z, z, z, z, z, z, z] []) [] (some (.r 1, false)) <|
 .q 6 (.eqc true [(.i .i64), (.i .i64), (.i .i64), (.i .i64), (.i .i64), (.i .i64), (.i .i64)]) [.r 4, .r 5] (some (.r 1, false)) <|
 .q 7 .pick [.r 1, .c (.bool true), .r 6] none <|
 .q 9 .mv [.s 10] (some (.r 7, false)) <|
 .x 10 (.call 11) [.r 9] (some (.r 7, false)) [] <|
 .q 11 (.bld [z, z, z, z, z, z, z] []) [] (some (.r 7, false)) <|
 .q 12 (.eqc true [(.i .i64), (.i .i64), (.i .i64), (.i .i64), (.i .i64), (.i .i64), (.i .i64)]) [.r 10, .r 11] (some (.r 7, false)) <|
 .q 13 .pick [.r 7, .c (.bool true), .r 12] none <|
 .out [(5, .s 5), (9, .s 9), (112, .r 13)]
def e3r31 : EE := .out [(4, .c (.bool false))]
def e3r32 : EE := .q 1 .add [.s 9, .c (.int .i64 1)] none <|
 .out [(5, .s 5), (9, .r 1)]
def e3l33 : EC := (.seq (.seq (.reg e3r28 [5, 9] 0) (.cond (.s 93) .skip (.exit 3))) (.seq (.block 4 (.seq (.reg e3r29 [5, 9] 0) (.seq (.reg e3r30 [5, 9, 10] 0) (.cond (.s 112) (.seq (.reg e3r31 [] 0) .ret) .skip)))) (.reg e3r32 [5, 9] 0)))
def e3r34 : EE := .x 1 (.call 12) [.s 5] none [] <|
 .q 2 .len [.r 1] none <|
 .q 3 .eql [.r 2, .c z] none <|
 .q 5 .mv [.s 5] (some (.r 3, true)) <|
 .x 6 (.call 13) [.r 5] (some (.r 3, true)) [] <|
 .q 7 .len [.r 6] (some (.r 3, true)) <|
 .q 8 .eql [.r 7, .c z] (some (.r 3, true)) <|
 .q 9 .pick [.r 3, .r 8, .c (.bool false)] none <|
 .x 11 (.call 14) [] (some (.r 9, true)) [] <|
 .q 12 .pick [.r 9, .r 11, .c (.bool false)] none <|
 .out [(4, .r 12)]
def e3 : EFn := ⟨(.seq (.reg e3r0 [0, 1] 0) (.seq (.reg e3r1 [0, 1] 0) (.seq (.seq (.reg e3r2 [1, 5, 6] 0) (.cond (.s 25) (.seq (.reg e3r3 [] 0) .ret) .skip)) (.seq (.seq (.reg e3r4 [1, 5] 0) (.block 0 (.loop [1, 5, 7] e3l26))) (.seq (.seq (.reg e3r27 [5] 0) (.block 3 (.loop [5, 9] e3l33))) (.seq (.reg e3r34 [5] 0) .ret)))))), [.slot 4], 126, 0⟩
theorem g3 : Good Tryz.prog 3 e3 := ⟨Tryz.f3, Tryz.func3, by kernel_rfl, by kernel_rfl, by kernel_rfl, by kernel_rfl⟩
/-! concord/cluster.New -/
def e4r0 : EE := .out [(0, .s 0)]
def e4r1 : EE := .q 1 (.bld [z, .nsl, .nsl, .nsl, .nsl, .nsl, .nsl] [(0, 1)]) [.s 0] none <|
 .x 2 (.box 51) [.r 1] none [] <|
 .out [(0, .s 0), (4, .r 2)]
def e4r2 : EE := .q 1 .mx [.s 0, .c (.int .i64 1)] none <|
 .q 2 .mn [.r 1, .c (.int .i64 8)] none <|
 .out [(0, .s 0), (4, .s 4), (19, .r 2), (20, .c z)]
def e4r3 : EE := .q 0 .lss [.s 20, .s 19] none <|
 .out [(0, .s 0), (4, .s 4), (19, .s 19), (20, .s 20), (21, .r 0)]
def e4r4 : EE := .out [(0, .s 0), (4, .s 4), (5, .s 20), (19, .s 19), (20, .s 20)]
def e4r5 : EE := .x 0 (.call 15) [.c (.int .i64 524288)] none [] <|
 .q 2 (.ext 0) [.r 0] none <|
 .q 3 (.ext 1) [.r 0] none <|
 .out [(0, .s 0), (4, .s 4), (5, .s 5), (6, .r 2), (19, .s 19), (20, .s 20)]
def e4r6 : EE := .x 3 (.call 16) [.s 0, .s 5, .s 6] none [] <|
 .q 5 (.ext 0) [.r 3] none <|
 .q 6 (.ext 1) [.r 3] none <|
 .out [(0, .s 0), (4, .s 4), (6, .s 6), (8, .r 5), (9, .r 6), (19, .s 19), (20, .s 20)]
def e4r7 : EE := .q 1 .neq [.s 9, .c z] none <|
 .out [(0, .s 0), (4, .s 4), (6, .s 6), (8, .s 8), (9, .s 9), (19, .s 19), (20, .s 20), (35, .r 1)]
def e4r8 : EE := .out [(2, .c .nptr), (3, .s 9)]
def e4r9 : EE := .q 3 .nl [.s 4] none <|
 .q 4 (.fld 1) [.r 3] none <|
 .q 5 .ld [.r 4] none <|
 .q 10 .nl [.s 4] none <|
 .q 11 (.fld 2) [.r 10] none <|
 .q 12 .ld [.r 11] none <|
 .both false
 (.x 7 (.bsl 52 1 [.nptr] [(0, 1)]) [.s 6] none [⟨5, .ld, [.r 4], none⟩, ⟨12, .ld, [.r 11], none⟩] <|
 .both false
 (.x 8 (.app 52 1 8 [.nptr]) [.r 5, .r 7] none [⟨12, .ld, [.r 11], none⟩] <|
 .x 14 (.bsl 35 1 [.nptr] [(0, 1)]) [.s 8] none [⟨5, .ld, [.r 4], none⟩, ⟨12, .ld, [.r 11], none⟩] <|
 .x 15 (.app 35 1 8 [.nptr]) [.r 12, .r 14] none [] <|
 .q 16 .nl [.s 4] none <|
 .q 17 (.fld 1) [.r 16] none <|
 .x 18 (.st 1) [.r 17, .r 8] none [] <|
 .q 19 .nl [.s 4] none <|
 .q 20 (.fld 2) [.r 19] none <|
 .x 21 (.st 1) [.r 20, .r 15] none [] <|
 .out [(0, .s 0), (4, .s 4), (19, .s 19), (20, .s 20)])
 (.x 14 (.bsl 35 1 [.nptr] [(0, 1)]) [.s 8] none [⟨5, .ld, [.r 4], none⟩, ⟨12, .ld, [.r 11], none⟩] <|
 .x 8 (.app 52 1 8 [.nptr]) [.r 5, .r 7] none [⟨12, .ld, [.r 11], none⟩] <|
 .x 15 (.app 35 1 8 [.nptr]) [.r 12, .r 14] none [] <|
 .q 16 .nl [.s 4] none <|
 .q 17 (.fld 1) [.r 16] none <|
 .x 18 (.st 1) [.r 17, .r 8] none [] <|
 .q 19 .nl [.s 4] none <|
 .q 20 (.fld 2) [.r 19] none <|
 .x 21 (.st 1) [.r 20, .r 15] none [] <|
 .out [(0, .s 0), (4, .s 4), (19, .s 19), (20, .s 20)]))
 (.x 14 (.bsl 35 1 [.nptr] [(0, 1)]) [.s 8] none [⟨5, .ld, [.r 4], none⟩, ⟨12, .ld, [.r 11], none⟩] <|
 .x 7 (.bsl 52 1 [.nptr] [(0, 1)]) [.s 6] none [⟨5, .ld, [.r 4], none⟩, ⟨12, .ld, [.r 11], none⟩] <|
 .x 8 (.app 52 1 8 [.nptr]) [.r 5, .r 7] none [⟨12, .ld, [.r 11], none⟩] <|
 .x 15 (.app 35 1 8 [.nptr]) [.r 12, .r 14] none [] <|
 .q 16 .nl [.s 4] none <|
 .q 17 (.fld 1) [.r 16] none <|
 .x 18 (.st 1) [.r 17, .r 8] none [] <|
 .q 19 .nl [.s 4] none <|
 .q 20 (.fld 2) [.r 19] none <|
 .x 21 (.st 1) [.r 20, .r 15] none [] <|
 .out [(0, .s 0), (4, .s 4), (19, .s 19), (20, .s 20)])
def e4r10 : EE := .q 0 .add [.s 20, .c (.int .i64 1)] none <|
 .out [(0, .s 0), (4, .s 4), (19, .s 19), (20, .r 0)]
def e4l11 : EC := (.seq (.reg e4r3 [0, 4, 19, 20] 0) (.seq (.cond (.s 21) .skip (.exit 0)) (.seq (.block 1 (.seq (.reg e4r4 [0, 4, 19, 20] 0) (.seq (.reg e4r5 [0, 4, 5, 19, 20] 0) (.seq (.reg e4r6 [0, 4, 5, 6, 19, 20] 0) (.seq (.seq (.reg e4r7 [0, 4, 6, 8, 9, 19, 20] 0) (.cond (.s 35) (.seq (.reg e4r8 [9] 0) .ret) .skip)) (.reg e4r9 [0, 4, 6, 8, 19, 20] 22)))))) (.reg e4r10 [0, 4, 19, 20] 0))))
def e4r12 : EE := .out [(0, .s 0), (4, .s 4), (10, .c (.int .i64 1))]
def e4r13 : EE := .q 1 .leq [.s 10, .c (.int .i64 8)] none <|
 .out [(0, .s 0), (4, .s 4), (10, .s 10), (59, .r 1)]
def e4r14 : EE := .x 1 (.call 17) [.s 10] none [] <|
 .q 3 (.ext 0) [.r 1] none <|
 .q 4 (.ext 1) [.r 1] none <|
 .out [(0, .s 0), (4, .s 4), (10, .s 10), (11, .r 3)]
def e4r15 : EE := .q 2 .nl [.s 4] none <|
 .q 3 (.fld 3) [.r 2] none <|
 .q 4 .ld [.r 3] none <|
 .x 6 (.bsl 57 1 [.nptr] [(0, 1)]) [.s 11] none [] <|
 .x 7 (.app 57 1 8 [.nptr]) [.r 4, .r 6] none [] <|
 .q 8 .nl [.s 4] none <|
 .q 9 (.fld 3) [.r 8] none <|
 .x 10 (.st 1) [.r 9, .r 7] none [] <|
 .out [(0, .s 0), (4, .s 4), (10, .s 10)]
def e4r16 : EE := .q 1 .add [.s 10, .c (.int .i64 1)] none <|
 .out [(0, .s 0), (4, .s 4), (10, .r 1)]
def e4l17 : EC := (.seq (.seq (.reg e4r13 [0, 4, 10] 0) (.cond (.s 59) .skip (.exit 2))) (.seq (.block 3 (.seq (.reg e4r14 [0, 4, 10] 0) (.reg e4r15 [0, 4, 10, 11] 0))) (.reg e4r16 [0, 4, 10] 0)))
def e4r18 : EE := .x 1 (.mks 30 88 [z, z, z, zs, zs, zs, zs]) [.c (.int .i64 8), .c (.int .i64 8)] none [] <|
 .q 2 .nl [.s 4] none <|
 .q 3 (.fld 4) [.r 2] none <|
 .x 4 (.st 1) [.r 3, .r 1] none [] <|
 .out [(0, .s 0), (4, .s 4)]
def e4r19 : EE := .out [(4, .s 4), (81, .s 0), (82, .c z)]
def e4r20 : EE := .q 0 .lss [.s 82, .s 81] none <|
 .out [(4, .s 4), (81, .s 81), (82, .s 82), (83, .r 0)]
def e4r21 : EE := .out [(4, .s 4), (13, .s 82), (81, .s 81), (82, .s 82)]
def e4r22 : EE := .x 2 (.call 18) [.s 4, .s 13] none [] <|
 .out [(4, .s 4), (81, .s 81), (82, .s 82)]
def e4r23 : EE := .q 0 .add [.s 82, .c (.int .i64 1)] none <|
 .out [(4, .s 4), (81, .s 81), (82, .r 0)]
def e4l24 : EC := (.seq (.reg e4r20 [4, 81, 82] 0) (.seq (.cond (.s 83) .skip (.exit 4)) (.seq (.block 5 (.seq (.reg e4r21 [4, 81, 82] 0) (.reg e4r22 [4, 13, 81, 82] 0))) (.reg e4r23 [4, 81, 82] 0))))
def e4r25 : EE := .out [(2, .s 4), (3, .c z)]
def e4 : EFn := ⟨(.seq (.reg e4r0 [0] 0) (.seq (.reg e4r1 [0] 0) (.seq (.seq (.reg e4r2 [0, 4] 0) (.block 0 (.loop [0, 4, 19, 20] e4l11))) (.seq (.seq (.reg e4r12 [0, 4] 0) (.block 2 (.loop [0, 4, 10] e4l17))) (.seq (.reg e4r18 [0, 4] 0) (.seq (.seq (.reg e4r19 [0, 4] 0) (.block 4 (.loop [4, 81, 82] e4l24))) (.seq (.reg e4r25 [4] 0) .ret))))))), [.slot 2, .slot 3], 90, 0⟩
theorem g4 : Good Tryz.prog 4 e4 := ⟨Tryz.f4, Tryz.func4, by kernel_rfl, by kernel_rfl, by kernel_rfl, by kernel_rfl⟩
/-! (*concord/cluster.Cluster).Nodes -/
def e7r0 : EE := .out [(0, .s 0)]
def e7r1 : EE := .q 1 .nl [.s 0] none <|
 .q 2 (.fld 0) [.r 1] none <|
 .q 3 .ld [.r 2] none <|
 .out [(2, .r 3)]
def e7 : EFn := ⟨(.seq (.reg e7r0 [0] 0) (.seq (.reg e7r1 [0] 0) .ret)), [.slot 2], 7, 0⟩
theorem g7 : Good Tryz.prog 7 e7 := ⟨Tryz.f7, Tryz.func7, by kernel_rfl, by kernel_rfl, by kernel_rfl, by kernel_rfl⟩
/-! (*concord/cluster.Cluster).Do -/
def e8r0 : EE := .x 0 (.box 32) [.s 1] none [] <|
 .out [(0, .s 0), (3, .r 0)]
def e8r1 : EE := .q 0 (.fld 0) [.s 3] none <|
 .q 1 .ld [.r 0] none <|
 .out [(0, .s 0), (3, .s 3), (7, .r 1)]
def e8r2 : EE := .q 0 .eql [.s 7, .c (.int .i64 1)] none <|
 .out [(0, .s 0), (3, .s 3), (7, .s 7), (8, .r 0)]
def e8r3 : EE := .q 1 (.lda 12) [.s 3] none <|
 .x 2 (.call 19) [.s 0, .r 1] none [] <|
 .out [(4, .r 2)]
def e8r4 : EE := .q 0 .eql [.s 7, .c (.int .i64 2)] none <|
 .out [(0, .s 0), (3, .s 3), (7, .s 7), (13, .r 0)]
def e8r5 : EE := .q 0 .eql [.s 7, .c (.int .i64 3)] none <|
 .out [(0, .s 0), (3, .s 3), (7, .s 7), (13, .r 0)]
def e8r6 : EE := .q 0 .eql [.s 7, .c (.int .i64 4)] none <|
 .out [(0, .s 0), (3, .s 3), (7, .s 7), (13, .r 0)]
def e8r7 : EE := .q 1 (.lda 12) [.s 3] none <|
 .x 2 (.call 20) [.s 0, .r 1] none [] <|
 .out [(4, .r 2)]
def e8r8 : EE := .q 0 .eql [.s 7, .c (.int .i64 6)] none <|
 .out [(0, .s 0), (3, .s 3), (7, .s 7), (20, .r 0)]
def e8r9 : EE := .q 1 (.fld 1) [.s 3] none <|
 .q 2 .ld [.r 1] none <|
 .x 3 (.call 21) [.s 0, .r 2] none [] <|
 .out [(4, .r 3)]
def e8r10 : EE := .q 0 .eql [.s 7, .c (.int .i64 9)] none <|
 .out [(0, .s 0), (3, .s 3), (26, .r 0)]
def e8r11 : EE := .q 1 (.fld 1) [.s 3] none <|
 .q 2 .ld [.r 1] none <|
 .x 3 (.call 22) [.s 0, .r 2] none [] <|
 .out [(4, .r 3)]
def e8r12 : EE := .q 1 (.fld 1) [.s 3] none <|
 .q 2 .ld [.r 1] none <|
 .x 3 (.call 9) [.s 0, .r 2] none [] <|
 .out [(0, .s 0), (3, .s 3), (5, .r 3)]
def e8r13 : EE := .q 1 (.eqp false) [.s 5, .c .nptr] none <|
 .out [(0, .s 0), (3, .s 3), (5, .s 5), (37, .r 1)]
def e8r14 : EE := .out [(4, .c (.bool false))]
def e8r15 : EE := .q 0 (.fld 0) [.s 3] none <|
 .q 1 .ld [.r 0] none <|
 .out [(0, .s 0), (3, .s 3), (5, .s 5), (39, .r 1)]
def e8r16 : EE := .q 0 .eql [.s 39, .c (.int .i64 5)] none <|
 .out [(0, .s 0), (3, .s 3), (5, .s 5), (39, .s 39), (40, .r 0)]
def e8r17 : EE := .x 1 (.call 23) [.s 5] none [] <|
 .out [(0, .s 0), (3, .s 3)]
def e8r18 : EE := .q 1 (.fld 1) [.s 3] none <|
 .q 2 .ld [.r 1] none <|
 .x 3 (.call 18) [.s 0, .r 2] none [] <|
 .out []
def e8r19 : EE := .q 0 .eql [.s 39, .c (.int .i64 7)] none <|
 .out [(0, .s 0), (3, .s 3), (39, .s 39), (48, .r 0)]
def e8r20 : EE := .q 1 .nl [.s 0] none <|
 .q 2 (.fld 1) [.r 1] none <|
 .q 3 .ld [.r 2] none <|
 .q 4 (.fld 1) [.s 3] none <|
 .q 5 .ld [.r 4] none <|
 .q 6 (.ixs 1) [.r 3, .r 5] none <|
 .q 7 .ld [.r 6] none <|
 .q 8 (.fld 2) [.s 3] none <|
 .q 9 .ld [.r 8] none <|
 .x 10 (.call 24) [.r 7, .r 9] none [] <|
 .out []
def e8r21 : EE := .q 0 .eql [.s 39, .c (.int .i64 8)] none <|
 .out [(0, .s 0), (3, .s 3), (61, .r 0)]
def e8r22 : EE := .q 1 .nl [.s 0] none <|
 .q 2 (.fld 2) [.r 1] none <|
 .q 3 .ld [.r 2] none <|
 .q 4 (.fld 1) [.s 3] none <|
 .q 5 .ld [.r 4] none <|
 .q 6 (.ixs 1) [.r 3, .r 5] none <|
 .x 7 (.st 1) [.r 6, .c .nptr] none [] <|
 .out [(0, .s 0), (3, .s 3)]
def e8r23 : EE := .q 1 .nl [.s 0] none <|
 .q 2 (.fld 1) [.r 1] none <|
 .q 3 .ld [.r 2] none <|
 .q 4 (.fld 1) [.s 3] none <|
 .q 5 .ld [.r 4] none <|
 .q 6 (.ixs 1) [.r 3, .r 5] none <|
 .q 7 .ld [.r 6] none <|
 .q 8 (.fld 11) [.s 3] none <|
 .q 9 .ld [.r 8] none <|
 .x 10 (.call 25) [.r 7, .r 9] none [] <|
 .out []
def e8r24 : EE := .out [(4, .c (.bool false))]
def e8r25 : EE := .out [(4, .c (.bool true))]
def e8 : EFn := ⟨(.seq (.reg e8r0 [0, 1] 0) (.seq (.seq (.reg e8r1 [0, 3] 0) (.block 0 (.seq (.reg e8r2 [0, 3, 7] 0) (.cond (.s 8) (.seq (.reg e8r3 [0, 3] 0) .ret) (.seq (.seq (.reg e8r4 [0, 3, 7] 0) (.cond (.s 13) .skip (.seq (.reg e8r5 [0, 3, 7] 0) (.cond (.s 13) .skip (.reg e8r6 [0, 3, 7] 0))))) (.cond (.s 13) (.seq (.reg e8r7 [0, 3] 0) .ret) (.seq (.reg e8r8 [0, 3, 7] 0) (.cond (.s 20) (.seq (.reg e8r9 [0, 3] 0) .ret) (.seq (.reg e8r10 [0, 3, 7] 0) (.cond (.s 26) (.seq (.reg e8r11 [0, 3] 0) .ret) .skip)))))))))) (.seq (.reg e8r12 [0, 3] 0) (.seq (.seq (.reg e8r13 [0, 3, 5] 0) (.cond (.s 37) (.seq (.reg e8r14 [] 0) .ret) .skip)) (.seq (.seq (.reg e8r15 [0, 3, 5] 0) (.block 1 (.seq (.reg e8r16 [0, 3, 5, 39] 0) (.cond (.s 40) (.seq (.reg e8r17 [0, 3, 5] 0) (.reg e8r18 [0, 3] 0)) (.seq (.reg e8r19 [0, 3, 39] 0) (.cond (.s 48) (.reg e8r20 [0, 3] 0) (.seq (.reg e8r21 [0, 3, 39] 0) (.cond (.s 61) (.seq (.reg e8r22 [0, 3] 0) (.reg e8r23 [0, 3] 0)) (.seq (.reg e8r24 [] 0) .ret))))))))) (.seq (.reg e8r25 [] 0) .ret)))))), [.slot 4], 81, 0⟩
theorem g8 : Good Tryz.prog 8 e8 := ⟨Tryz.f8, Tryz.func8, by kernel_rfl, by kernel_rfl, by kernel_rfl, by kernel_rfl⟩
/-! (*concord/cluster.Cluster).Node -/
def e9r0 : EE := .out [(0, .s 0), (1, .s 1)]
def e9r1 : EE := .q 1 .lss [.s 1, .c z] none <|
 .q 3 .mv [.s 1] (some (.r 1, false)) <|
 .q 4 .mv [.s 0] (some (.r 1, false)) <|
 .q 5 .nl [.r 4] (some (.r 1, false)) <|
 .q 6 (.fld 0) [.r 5] (some (.r 1, false)) <|
 .q 7 .ld [.r 6] (some (.r 1, false)) <|
 .q 8 .geq [.r 3, .r 7] (some (.r 1, false)) <|
 .q 9 .pick [.r 1, .c (.bool true), .r 8] none <|
 .out [(0, .s 0), (1, .s 1), (14, .r 9)]
def e9r2 : EE := .out [(4, .c .nptr)]
def e9r3 : EE := .q 1 .nl [.s 0] none <|
 .q 2 (.fld 2) [.r 1] none <|
 .q 3 .ld [.r 2] none <|
 .q 5 (.ixs 1) [.r 3, .s 1] none <|
 .q 6 .ld [.r 5] none <|
 .out [(4, .r 6)]
def e9 : EFn := ⟨(.seq (.reg e9r0 [0, 1] 0) (.seq (.seq (.reg e9r1 [0, 1] 0) (.cond (.s 14) (.seq (.reg e9r2 [] 0) .ret) .skip)) (.seq (.reg e9r3 [0, 1] 0) .ret))), [.slot 4], 22, 0⟩
theorem g9 : Good Tryz.prog 9 e9 := ⟨Tryz.f9, Tryz.func9, by kernel_rfl, by kernel_rfl, by kernel_rfl, by kernel_rfl⟩
/-! (*concord/node.Node).Done -/
def e10r0 : EE := .x 0 (.alc [z, z, z, z, z, z, z] 38) [] none [] <|
 .out [(0, .s 0), (2, .r 0)]
def e10r1 : EE := .q 1 .nl [.s 0] none <|
 .q 2 (.fld 55) [.r 1] none <|
 .q 3 (.lda 7) [.r 2] none <|
 .x 4 (.st 7) [.s 2, .r 3] none [] <|
 .out [(2, .s 2)]
def e10 : EFn := ⟨(.seq (.reg e10r0 [0] 0) (.seq (.reg e10r1 [0, 2] 0) .ret)), [.cells 2 7], 7, 0⟩
theorem g10 : Good Tryz.prog 10 e10 := ⟨Tryz.f10, Tryz.func10, by kernel_rfl, by kernel_rfl, by kernel_rfl, by kernel_rfl⟩
/-! (*concord/node.Node).Top -/
def e11r0 : EE := .x 0 (.alc [z, z, z, z, z, z, z] 38) [] none [] <|
 .out [(0, .s 0), (2, .r 0)]
def e11r1 : EE := .q 1 .nl [.s 0] none <|
 .q 2 (.fld 4) [.r 1] none <|
 .q 3 .ld [.r 2] none <|
 .x 4 (.call 26) [.r 3] none [] <|
 .x 5 (.st 7) [.s 2, .r 4] none [] <|
 .out [(2, .s 2)]
def e11 : EFn := ⟨(.seq (.reg e11r0 [0] 0) (.seq (.reg e11r1 [0, 2] 0) .ret)), [.cells 2 7], 8, 0⟩
theorem g11 : Good Tryz.prog 11 e11 := ⟨Tryz.f11, Tryz.func11, by kernel_rfl, by kernel_rfl, by kernel_rfl, by kernel_rfl⟩
/-! (*concord/cluster.Cluster).Letters -/
def e12r0 : EE := .out [(0, .s 0)]
def e12r1 : EE := .q 1 .nl [.s 0] none <|
 .q 2 (.fld 5) [.r 1] none <|
 .q 3 .ld [.r 2] none <|
 .x 4 (.call 27) [.r 3] none [] <|
 .out [(2, .r 4)]
def e12 : EFn := ⟨(.seq (.reg e12r0 [0] 0) (.seq (.reg e12r1 [0] 0) .ret)), [.slot 2], 8, 0⟩
theorem g12 : Good Tryz.prog 12 e12 := ⟨Tryz.f12, Tryz.func12, by kernel_rfl, by kernel_rfl, by kernel_rfl, by kernel_rfl⟩
/-! (*concord/cluster.Cluster).History -/
def e13r0 : EE := .out [(0, .s 0)]
def e13r1 : EE := .q 1 .nl [.s 0] none <|
 .q 2 (.fld 6) [.r 1] none <|
 .q 3 .ld [.r 2] none <|
 .x 4 (.call 28) [.r 3] none [] <|
 .out [(3, .r 4)]
def e13r2 : EE := .q 1 .len [.s 3] none <|
 .out [(3, .s 3), (11, .r 1), (12, .c z)]
def e13r3 : EE := .q 0 .lss [.s 12, .s 11] none <|
 .out [(3, .s 3), (11, .s 11), (12, .s 12), (13, .r 0)]
def e13r4 : EE := .out [(3, .s 3), (4, .s 12), (11, .s 11), (12, .s 12)]
def e13r5 : EE := .q 4 (.ixs 14) [.s 3, .s 4] none <|
 .q 5 (.fld 9) [.r 4] none <|
 .q 6 (.fld 4) [.r 5] none <|
 .q 7 .ld [.r 6] none <|
 .x 8 (.call 29) [.r 7] none [] <|
 .q 9 (.ixs 14) [.s 3, .s 4] none <|
 .q 10 (.fld 9) [.r 9] none <|
 .q 11 (.fld 4) [.r 10] none <|
 .x 12 (.st 1) [.r 11, .r 8] none [] <|
 .out [(3, .s 3), (11, .s 11), (12, .s 12)]
def e13r6 : EE := .q 0 .add [.s 12, .c (.int .i64 1)] none <|
 .out [(3, .s 3), (11, .s 11), (12, .r 0)]
def e13l7 : EC := (.seq (.reg e13r3 [3, 11, 12] 0) (.seq (.cond (.s 13) .skip (.exit 0)) (.seq (.block 1 (.seq (.reg e13r4 [3, 11, 12] 0) (.reg e13r5 [3, 4, 11, 12] 0))) (.reg e13r6 [3, 11, 12] 0))))
def e13r8 : EE := .out [(2, .s 3)]
def e13 : EFn := ⟨(.seq (.reg e13r0 [0] 0) (.seq (.reg e13r1 [0] 0) (.seq (.seq (.reg e13r2 [3] 0) (.block 0 (.loop [3, 11, 12] e13l7))) (.seq (.reg e13r8 [3] 0) .ret)))), [.slot 2], 29, 0⟩
theorem g13 : Good Tryz.prog 13 e13 := ⟨Tryz.f13, Tryz.func13, by kernel_rfl, by kernel_rfl, by kernel_rfl, by kernel_rfl⟩
/-! concord/concordlaw25.ClusterRuns -/
def e14r0 : EE := .out []
def e14r1 : EE := .x 0 (.call 4) [.c (.int .i64 3)] none [] <|
 .q 2 (.ext 0) [.r 0] none <|
 .q 3 (.ext 1) [.r 0] none <|
 .out [(1, .r 2), (2, .r 3)]
def e14r2 : EE := .x 0 (.call 4) [.c (.int .i64 4)] none [] <|
 .q 2 (.ext 0) [.r 0] none <|
 .q 3 (.ext 1) [.r 0] none <|
 .out [(1, .s 1), (2, .s 2), (4, .r 3)]
def e14r3 : EE := .q 1 (.eqp false) [.s 1, .c .nptr] none <|
 .q 3 .mv [.s 2] (some (.r 1, false)) <|
 .q 4 .neq [.r 3, .c z] (some (.r 1, false)) <|
 .q 5 .pick [.r 1, .c (.bool true), .r 4] none <|
 .q 7 .mv [.s 4] (some (.r 5, false)) <|
 .q 8 .neq [.r 7, .c (.int .i64 1)] (some (.r 5, false)) <|
 .q 9 .pick [.r 5, .c (.bool true), .r 8] none <|
 .q 11 .mv [.s 1] (some (.r 9, false)) <|
 .q 12 (.bld [z, z, z, z, z, z, z, zs, zs, zs, zs, .nsl] [(0, 1)]) [.c (.int .i64 2)] (some (.r 9, false)) <|
 .x 13 (.call 8) [.r 11, .r 12] (some (.r 9, false)) [] <|
 .q 14 .pick [.r 9, .c (.bool true), .r 13] none <|
 .out [(1, .s 1), (30, .r 14)]
def e14r4 : EE := .out [(0, .c (.bool false))]
def e14r5 : EE := .q 1 (.bld [z, z, z, zs, zs, zs, zs] [(0, 1), (3, 1)]) [.c (.int .i64 2), .c (.str [97])] none <|
 .q 2 (.bld [z, z, z, z, z, z, z, zs, zs, zs, zs, .nsl] [(0, 1), (3, 1), (4, 7)]) [.c (.int .i64 1), .c (.int .i64 1), .r 1] none <|
 .x 3 (.call 8) [.s 1, .r 2] none [] <|
 .out [(1, .s 1), (5, .r 3)]
def e14r6 : EE := .out [(1, .s 1), (5, .s 5), (6, .c z)]
def e14r7 : EE := .q 1 .lss [.s 6, .c (.int .i64 100)] none <|
 .q 3 .mv [.s 1] (some (.r 1, true)) <|
 .q 4 (.bld [z, z, z, z, z, z, z, zs, zs, zs, zs, .nsl] [(0, 1)]) [.c (.int .i64 2)] (some (.r 1, true)) <|
 .x 5 (.call 8) [.r 3, .r 4] (some (.r 1, true)) [] <|
 .q 6 .pick [.r 1, .r 5, .c (.bool false)] none <|
 .out [(1, .s 1), (5, .s 5), (6, .s 6), (41, .r 6)]
def e14r8 : EE := .q 1 .add [.s 6, .c (.int .i64 1)] none <|
 .out [(1, .s 1), (5, .s 5), (6, .r 1)]
def e14l9 : EC := (.seq (.seq (.reg e14r7 [1, 5, 6] 0) (.cond (.s 41) .skip (.exit 0))) (.seq (.block 1 .skip) (.reg e14r8 [1, 5, 6] 0)))
def e14r10 : EE := .x 1 (.call 13) [.s 1] none [] <|
 .out [(1, .s 1), (5, .s 5), (7, .r 1)]
def e14r11 : EE := .q 2 .mv [.s 7] (some (.s 5, true)) <|
 .q 3 .len [.r 2] (some (.s 5, true)) <|
 .q 4 .eql [.r 3, .c (.int .i64 2)] (some (.s 5, true)) <|
 .q 5 .pick [.s 5, .r 4, .c (.bool false)] none <|
 .q 7 .mv [.s 7] (some (.r 5, true)) <|
 .q 8 (.ixs 14) [.r 7, .c z] (some (.r 5, true)) <|
 .q 9 (.fld 0) [.r 8] (some (.r 5, true)) <|
 .q 10 .ld [.r 9] (some (.r 5, true)) <|
 .q 11 .eql [.r 10, .c (.int .i64 1)] (some (.r 5, true)) <|
 .q 12 .pick [.r 5, .r 11, .c (.bool false)] none <|
 .q 14 .mv [.s 7] (some (.r 12, true)) <|
 .q 15 (.ixs 14) [.r 14, .c (.int .i64 1)] (some (.r 12, true)) <|
 .q 16 (.fld 0) [.r 15] (some (.r 12, true)) <|
 .q 17 .ld [.r 16] (some (.r 12, true)) <|
 .q 18 .eql [.r 17, .c (.int .i64 2)] (some (.r 12, true)) <|
 .q 19 .pick [.r 12, .r 18, .c (.bool false)] none <|
 .q 21 .mv [.s 7] (some (.r 19, true)) <|
 .q 22 (.ixs 14) [.r 21, .c (.int .i64 1)] (some (.r 19, true)) <|
 .q 23 (.fld 1) [.r 22] (some (.r 19, true)) <|
 .q 24 .ld [.r 23] (some (.r 19, true)) <|
 .q 25 .eql [.r 24, .c (.int .i64 1)] (some (.r 19, true)) <|
 .q 26 .pick [.r 19, .r 25, .c (.bool false)] none <|
 .q 28 .mv [.s 7] (some (.r 26, true)) <|
 .q 29 (.ixs 14) [.r 28, .c (.int .i64 1)] (some (.r 26, true)) <|
 .q 30 (.fld 9) [.r 29] (some (.r 26, true)) <|
 .q 31 (.fld 3) [.r 30] (some (.r 26, true)) <|
 .q 32 .ld [.r 31] (some (.r 26, true)) <|
 .q 33 .eql [.r 32, .c (.int .i64 1)] (some (.r 26, true)) <|
 .q 34 .pick [.r 26, .r 33, .c (.bool false)] none <|
 .q 36 .mv [.s 7] (some (.r 34, true)) <|
 .q 37 (.ixs 14) [.r 36, .c (.int .i64 1)] (some (.r 34, true)) <|
 .q 38 (.fld 2) [.r 37] (some (.r 34, true)) <|
 .q 39 (.fld 2) [.r 38] (some (.r 34, true)) <|
 .q 40 .ld [.r 39] (some (.r 34, true)) <|
 .q 41 .eql [.r 40, .c (.int .i64 1)] (some (.r 34, true)) <|
 .q 42 .pick [.r 34, .r 41, .c (.bool false)] none <|
 .q 44 .mv [.s 1] (some (.r 42, true)) <|
 .x 45 (.call 30) [.r 44, .c (.int .i64 1)] (some (.r 42, true)) [] <|
 .q 46 .not [.r 45] (some (.r 42, true)) <|
 .q 47 .pick [.r 42, .r 46, .c (.bool false)] none <|
 .out [(0, .r 47)]
def e14 : EFn := ⟨(.seq (.reg e14r0 [] 0) (.seq (.reg e14r1 [] 0) (.seq (.reg e14r2 [1, 2] 0) (.seq (.seq (.reg e14r3 [1, 2, 4] 0) (.cond (.s 30) (.seq (.reg e14r4 [] 0) .ret) .skip)) (.seq (.reg e14r5 [1] 0) (.seq (.seq (.reg e14r6 [1, 5] 0) (.block 0 (.loop [1, 5, 6] e14l9))) (.seq (.reg e14r10 [1, 5] 0) (.seq (.reg e14r11 [1, 5, 7] 0) .ret)))))))), [.slot 0], 94, 0⟩
theorem g14 : Good Tryz.prog 14 e14 := ⟨Tryz.f14, Tryz.func14, by kernel_rfl, by kernel_rfl, by kernel_rfl, by kernel_rfl⟩
/-! concord/disk.New -/
def e15r0 : EE := .out [(0, .s 0)]
def e15r1 : EE := .q 1 .lss [.s 0, .c z] none <|
 .q 3 .mv [.s 0] (some (.r 1, false)) <|
 .q 4 .gtr [.r 3, .c (.int .i64 1048576)] (some (.r 1, false)) <|
 .q 5 .pick [.r 1, .c (.bool true), .r 4] none <|
 .out [(0, .s 0), (9, .r 5)]
def e15r2 : EE := .out [(2, .c .nptr), (3, .c (.int .i64 1))]
def e15r3 : EE := .q 1 (.bld [z, .nsl, (.bool false), (.bool false), z] [(0, 1)]) [.s 0] none <|
 .x 2 (.box 97) [.r 1] none [] <|
 .out [(2, .r 2), (3, .c z)]
def e15 : EFn := ⟨(.seq (.reg e15r0 [0] 0) (.seq (.seq (.reg e15r1 [0] 0) (.cond (.s 9) (.seq (.reg e15r2 [] 0) .ret) .skip)) (.seq (.reg e15r3 [0] 0) .ret))), [.slot 2, .slot 3], 13, 0⟩
theorem g15 : Good Tryz.prog 15 e15 := ⟨Tryz.f15, Tryz.func15, by kernel_rfl, by kernel_rfl, by kernel_rfl, by kernel_rfl⟩
/-! concord/node.New -/
def e16r0 : EE := .out [(0, .s 0), (1, .s 1), (2, .s 2)]
def e16r1 : EE := .x 1 (.call 31) [.s 0] none [] <|
 .q 2 .not [.r 1] none <|
 .q 4 .mv [.s 1] (some (.r 2, false)) <|
 .q 5 .lss [.r 4, .c z] (some (.r 2, false)) <|
 .q 6 .pick [.r 2, .c (.bool true), .r 5] none <|
 .q 8 .mv [.s 1] (some (.r 6, false)) <|
 .q 9 .mv [.s 0] (some (.r 6, false)) <|
 .q 10 .geq [.r 8, .r 9] (some (.r 6, false)) <|
 .q 11 .pick [.r 6, .c (.bool true), .r 10] none <|
 .q 13 .mv [.s 2] (some (.r 11, false)) <|
 .q 14 (.eqp false) [.r 13, .c .nptr] (some (.r 11, false)) <|
 .q 15 .pick [.r 11, .c (.bool true), .r 14] none <|
 .out [(0, .s 0), (1, .s 1), (2, .s 2), (37, .r 15)]
def e16r2 : EE := .out [(6, .c .nptr), (7, .c (.int .i64 1))]
def e16r3 : EE := .q 3 (.bld [z, z, .nptr, .nptr, .nptr, .nptr, .nsl, z, z, (.bool false), zs, z, .nsl, z, z, (.bool false), zs, z, .nsl, z, z, (.bool false), zs, z, .nsl, z, z, (.bool false), zs, z, .nsl, z, z, (.bool false), zs, z, .nsl, z, z, (.bool false), zs, z, .nsl, z, z, (.bool false), zs, z, .nsl, z, z, (.bool false), zs, z, .nsl, z, z, z, z, z, z, z, z, z, z, z, z, z, z, z, z, .nsl, .nsl, .nsl, (.bool false)] [(0, 1), (1, 1), (2, 1)]) [.s 0, .s 1, .s 2] none <|
 .x 4 (.box 77) [.r 3] none [] <|
 .out [(0, .s 0), (1, .s 1), (2, .s 2), (8, .r 4)]
def e16r4 : EE := .x 3 (.call 32) [.s 0, .s 1] none [] <|
 .q 5 (.ext 0) [.r 3] none <|
 .q 6 (.ext 1) [.r 3] none <|
 .q 7 .nl [.s 8] none <|
 .q 8 (.fld 5) [.r 7] none <|
 .x 9 (.st 1) [.r 8, .r 5] none [] <|
 .out [(0, .s 0), (1, .s 1), (2, .s 2), (8, .s 8)]
def e16r5 : EE := .x 1 (.call 33) [.s 8] none [] <|
 .out [(0, .s 0), (1, .s 1), (2, .s 2), (8, .s 8), (9, .r 1)]
def e16r6 : EE := .q 1 .neq [.s 9, .c z] none <|
 .out [(0, .s 0), (1, .s 1), (2, .s 2), (8, .s 8), (9, .s 9), (55, .r 1)]
def e16r7 : EE := .out [(6, .c .nptr), (7, .s 9)]
def e16r8 : EE := .x 1 (.call 34) [.s 2] none [] <|
 .q 3 (.ext 0) [.r 1] none <|
 .q 4 (.ext 1) [.r 1] none <|
 .q 5 (.ext 2) [.r 1] none <|
 .out [(0, .s 0), (1, .s 1), (8, .s 8), (10, .r 3), (11, .r 4), (12, .r 5)]
def e16r9 : EE := .q 1 .neq [.s 12, .c z] none <|
 .out [(0, .s 0), (1, .s 1), (8, .s 8), (10, .s 10), (11, .s 11), (12, .s 12), (64, .r 1)]
def e16r10 : EE := .out [(6, .c .nptr), (7, .s 12)]
def e16r11 : EE := .q 2 .nl [.s 8] none <|
 .q 3 (.fld 3) [.r 2] none <|
 .x 4 (.st 1) [.r 3, .s 10] none [] <|
 .out [(0, .s 0), (1, .s 1), (8, .s 8), (10, .s 10), (11, .s 11)]
def e16r12 : EE := .x 0 (.alc [z, z, z, z, z, z, z] 38) [] none [] <|
 .out [(0, .s 0), (1, .s 1), (8, .s 8), (10, .s 10), (11, .s 11), (13, .r 0)]
def e16r13 : EE := .out [(0, .s 0), (1, .s 1), (8, .s 8), (10, .s 10), (11, .s 11), (13, .s 13), (14, .c .nsl)]
def e16r14 : EE := .q 1 .len [.s 11] none <|
 .out [(0, .s 0), (1, .s 1), (8, .s 8), (10, .s 10), (13, .s 13), (14, .s 14), (70, .s 11), (71, .r 1), (72, .c z)]
def e16r15 : EE := .q 0 .lss [.s 72, .s 71] none <|
 .out [(0, .s 0), (1, .s 1), (8, .s 8), (10, .s 10), (13, .s 13), (14, .s 14), (70, .s 70), (71, .s 71), (72, .s 72), (73, .r 0)]
def e16r16 : EE := .q 0 (.ixs 1) [.s 70, .s 72] none <|
 .q 1 .ld [.r 0] none <|
 .out [(0, .s 0), (1, .s 1), (8, .s 8), (10, .s 10), (13, .s 13), (14, .s 14), (16, .r 1), (70, .s 70), (71, .s 71), (72, .s 72)]
def e16r17 : EE := .x 1 (.call 35) [.s 16] none [] <|
 .q 3 (.ext 0) [.r 1] none <|
 .q 4 (.ext 1) [.r 1] none <|
 .x 5 (.alc [z, z, z, z, z, z, z] 38) [] none [] <|
 .x 6 (.st 7) [.r 5, .r 3] none [] <|
 .out [(0, .s 0), (1, .s 1), (8, .s 8), (10, .s 10), (13, .s 13), (14, .s 14), (16, .s 16), (17, .r 5), (18, .r 4), (70, .s 70), (71, .s 71), (72, .s 72)]
def e16r18 : EE := .out [(0, .s 0), (1, .s 1), (8, .s 8), (10, .s 10), (13, .s 13), (14, .s 14), (16, .s 16), (17, .s 17), (70, .s 70), (71, .s 71), (72, .s 72), (81, .s 18)]
def e16r19 : EE := .q 0 (.lda 7) [.s 17] none <|
 .x 1 (.st 7) [.s 13, .r 0] none [] <|
 .out [(0, .s 0), (1, .s 1), (8, .s 8), (10, .s 10), (13, .s 13), (14, .s 14), (70, .s 70), (71, .s 71), (72, .s 72)]
def e16r20 : EE := .q 1 .len [.s 16] none <|
 .q 2 .gtr [.r 1, .c z] none <|
 .q 4 .mv [.s 16] (some (.r 2, true)) <|
 .q 5 (.ixs 1) [.r 4, .c z] (some (.r 2, true)) <|
 .q 6 .ld [.r 5] (some (.r 2, true)) <|
 .q 7 .eql [.r 6, .c (.int .u8 2)] (some (.r 2, true)) <|
 .q 8 .pick [.r 2, .r 7, .c (.bool false)] none <|
 .out [(0, .s 0), (1, .s 1), (8, .s 8), (10, .s 10), (13, .s 13), (14, .s 14), (16, .s 16), (70, .s 70), (71, .s 71), (72, .s 72), (91, .r 8)]
def e16r21 : EE := .q 2 (.slc 1 true false) [.s 16, .c (.int .i64 1)] none <|
 .x 3 (.bsl 104 1 [.nsl] [(0, 1)]) [.r 2] none [] <|
 .x 4 (.app 104 1 24 [.nsl]) [.s 14, .r 3] none [] <|
 .out [(0, .s 0), (1, .s 1), (8, .s 8), (10, .s 10), (13, .s 13), (14, .r 4), (70, .s 70), (71, .s 71), (72, .s 72)]
def e16r22 : EE := .q 0 .add [.s 72, .c (.int .i64 1)] none <|
 .out [(0, .s 0), (1, .s 1), (8, .s 8), (10, .s 10), (13, .s 13), (14, .s 14), (70, .s 70), (71, .s 71), (72, .r 0)]
def e16l23 : EC := (.seq (.reg e16r15 [0, 1, 8, 10, 13, 14, 70, 71, 72] 0) (.seq (.cond (.s 73) .skip (.exit 0)) (.seq (.block 1 (.seq (.reg e16r16 [0, 1, 8, 10, 13, 14, 70, 71, 72] 0) (.seq (.reg e16r17 [0, 1, 8, 10, 13, 14, 16, 70, 71, 72] 0) (.seq (.reg e16r18 [0, 1, 8, 10, 13, 14, 16, 17, 18, 70, 71, 72] 0) (.cond (.s 81) (.reg e16r19 [0, 1, 8, 10, 13, 14, 17, 70, 71, 72] 0) (.seq (.reg e16r20 [0, 1, 8, 10, 13, 14, 16, 70, 71, 72] 0) (.cond (.s 91) (.reg e16r21 [0, 1, 8, 10, 13, 14, 16, 70, 71, 72] 0) .skip))))))) (.reg e16r22 [0, 1, 8, 10, 13, 14, 70, 71, 72] 0))))
def e16r24 : EE := .q 3 (.lda 7) [.s 13] none <|
 .x 5 (.call 36) [.s 0, .s 1, .r 3, .s 14] none [] <|
 .q 7 (.ext 0) [.r 5] none <|
 .q 8 (.ext 1) [.r 5] none <|
 .q 9 .nl [.s 8] none <|
 .q 10 (.fld 4) [.r 9] none <|
 .x 11 (.st 1) [.r 10, .r 7] none [] <|
 .out [(1, .s 1), (8, .s 8), (10, .s 10), (12, .r 8), (13, .s 13)]
def e16r25 : EE := .q 1 .neq [.s 12, .c z] none <|
 .out [(1, .s 1), (8, .s 8), (10, .s 10), (12, .s 12), (13, .s 13), (110, .r 1)]
def e16r26 : EE := .out [(6, .c .nptr), (7, .s 12)]
def e16r27 : EE := .x 1 (.call 37) [.s 10] none [] <|
 .q 3 (.ext 0) [.r 1] none <|
 .q 4 (.ext 1) [.r 1] none <|
 .out [(1, .s 1), (8, .s 8), (10, .s 10), (13, .s 13), (19, .r 3)]
def e16r28 : EE := .q 1 .eql [.s 19, .c z] none <|
 .out [(1, .s 1), (8, .s 8), (10, .s 10), (13, .s 13), (118, .r 1)]
def e16r29 : EE := .q 1 (.lda 7) [.s 13] none <|
 .x 2 (.call 39) [.r 1] none [] <|
 .x 3 (.bsl 104 1 [.nsl] [(0, 1)]) [.r 2] none [] <|
 .x 4 (.call 38) [.s 10, .r 3] none [] <|
 .out [(1, .s 1), (8, .s 8), (21, .r 4)]
def e16r30 : EE := .q 1 .neq [.s 21, .c z] none <|
 .out [(1, .s 1), (8, .s 8), (21, .s 21), (125, .r 1)]
def e16r31 : EE := .out [(6, .c .nptr), (7, .s 21)]
def e16r32 : EE := .q 1 .nl [.s 8] none <|
 .q 2 (.fld 5) [.r 1] none <|
 .q 3 .ld [.r 2] none <|
 .q 6 .nl [.s 8] none <|
 .q 7 (.fld 62) [.r 6] none <|
 .q 8 (.lda 7) [.r 7] none <|
 .x 9 (.call 40) [.r 3, .s 1, .r 8] none [] <|
 .out [(8, .s 8)]
def e16r33 : EE := .x 1 (.call 41) [.s 8] none [] <|
 .out [(8, .s 8)]
def e16r34 : EE := .out [(6, .s 8), (7, .c z)]
def e16 : EFn := ⟨(.seq (.reg e16r0 [0, 1, 2] 0) (.seq (.seq (.reg e16r1 [0, 1, 2] 0) (.cond (.s 37) (.seq (.reg e16r2 [] 0) .ret) .skip)) (.seq (.reg e16r3 [0, 1, 2] 0) (.seq (.reg e16r4 [0, 1, 2, 8] 0) (.seq (.seq (.reg e16r5 [0, 1, 2, 8] 0) (.seq (.reg e16r6 [0, 1, 2, 8, 9] 0) (.cond (.s 55) (.seq (.reg e16r7 [9] 0) .ret) .skip))) (.seq (.reg e16r8 [0, 1, 2, 8] 0) (.seq (.seq (.reg e16r9 [0, 1, 8, 10, 11, 12] 0) (.cond (.s 64) (.seq (.reg e16r10 [12] 0) .ret) .skip)) (.seq (.reg e16r11 [0, 1, 8, 10, 11] 0) (.seq (.reg e16r12 [0, 1, 8, 10, 11] 0) (.seq (.reg e16r13 [0, 1, 8, 10, 11, 13] 0) (.seq (.seq (.reg e16r14 [0, 1, 8, 10, 11, 13, 14] 0) (.block 0 (.loop [0, 1, 8, 10, 13, 14, 70, 71, 72] e16l23))) (.seq (.seq (.reg e16r24 [0, 1, 8, 10, 13, 14] 0) (.seq (.reg e16r25 [1, 8, 10, 12, 13] 0) (.cond (.s 110) (.seq (.reg e16r26 [12] 0) .ret) .skip))) (.seq (.seq (.reg e16r27 [1, 8, 10, 13] 0) (.seq (.reg e16r28 [1, 8, 10, 13, 19] 0) (.cond (.s 118) (.seq (.reg e16r29 [1, 8, 10, 13] 0) (.seq (.reg e16r30 [1, 8, 21] 0) (.cond (.s 125) (.seq (.reg e16r31 [21] 0) .ret) .skip))) .skip))) (.seq (.reg e16r32 [1, 8] 0) (.seq (.reg e16r33 [8] 0) (.seq (.reg e16r34 [8] 0) .ret)))))))))))))))), [.slot 6, .slot 7], 140, 0⟩
theorem g16 : Good Tryz.prog 16 e16 := ⟨Tryz.f16, Tryz.func16, by kernel_rfl, by kernel_rfl, by kernel_rfl, by kernel_rfl⟩
/-! concord/client.New -/
def e17r0 : EE := .out [(0, .s 0)]
def e17r1 : EE := .q 1 .lss [.s 0, .c (.int .i64 1)] none <|
 .q 3 .mv [.s 0] (some (.r 1, false)) <|
 .q 4 .gtr [.r 3, .c (.int .i64 8)] (some (.r 1, false)) <|
 .q 5 .pick [.r 1, .c (.bool true), .r 4] none <|
 .out [(0, .s 0), (9, .r 5)]
def e17r2 : EE := .out [(2, .c .nptr), (3, .c (.int .i64 1))]
def e17r3 : EE := .q 1 (.bld [z, z, z, z, z, zs, zs, zs, zs, (.bool false), z, z] [(0, 1)]) [.s 0] none <|
 .x 2 (.box 115) [.r 1] none [] <|
 .out [(2, .r 2), (3, .c z)]
def e17 : EFn := ⟨(.seq (.reg e17r0 [0] 0) (.seq (.seq (.reg e17r1 [0] 0) (.cond (.s 9) (.seq (.reg e17r2 [] 0) .ret) .skip)) (.seq (.reg e17r3 [0] 0) .ret))), [.slot 2, .slot 3], 13, 0⟩
theorem g17 : Good Tryz.prog 17 e17 := ⟨Tryz.f17, Tryz.func17, by kernel_rfl, by kernel_rfl, by kernel_rfl, by kernel_rfl⟩
/-! (*concord/cluster.Cluster).out -/
def e18r0 : EE := .q 1 .nl [.s 0] none <|
 .q 2 (.fld 2) [.r 1] none <|
 .q 3 .ld [.r 2] none <|
 .q 5 (.ixs 1) [.r 3, .s 1] none <|
 .q 6 .ld [.r 5] none <|
 .x 7 (.call 42) [.r 6] none [] <|
 .q 9 (.ext 0) [.r 7] none <|
 .q 10 (.ext 1) [.r 7] none <|
 .out [(0, .s 0), (4, .r 9), (5, .r 10)]
def e18r1 : EE := .q 1 .len [.s 4] none <|
 .out [(0, .s 0), (5, .s 5), (21, .s 4), (22, .r 1), (23, .c z)]
def e18r2 : EE := .q 0 .lss [.s 23, .s 22] none <|
 .out [(0, .s 0), (5, .s 5), (21, .s 21), (22, .s 22), (23, .s 23), (24, .r 0)]
def e18r3 : EE := .q 0 (.ixs 51) [.s 21, .s 23] none <|
 .q 1 (.lda 51) [.r 0] none <|
 .x 2 (.alc [z, z, z, z, z, z, z, z, z, z, zs, zs, zs, zs, z, z, z, z, z, z, z, z, z, z, z, z, z, z, z, z, zs, zs, zs, zs, z, z, z, z, z, z, z, z, (.bool false), z, z, z, z, z, z, z, zs] 88) [] none [] <|
 .x 3 (.st 51) [.r 2, .r 1] none [] <|
 .out [(0, .s 0), (5, .s 5), (7, .r 2), (21, .s 21), (22, .s 22), (23, .s 23)]
def e18r4 : EE := .q 0 (.fld 2) [.s 7] none <|
 .q 1 .ld [.r 0] none <|
 .q 3 .nl [.s 0] none <|
 .q 4 (.fld 0) [.r 3] none <|
 .q 5 .ld [.r 4] none <|
 .q 6 .lss [.r 1, .r 5] none <|
 .q 8 .mv [.s 0] (some (.r 6, true)) <|
 .q 9 .nl [.r 8] (some (.r 6, true)) <|
 .q 10 (.fld 5) [.r 9] (some (.r 6, true)) <|
 .q 11 .ld [.r 10] (some (.r 6, true)) <|
 .q 12 .len [.r 11] (some (.r 6, true)) <|
 .q 13 .lss [.r 12, .c (.int .i64 4000)] (some (.r 6, true)) <|
 .q 14 .pick [.r 6, .r 13, .c (.bool false)] none <|
 .out [(0, .s 0), (5, .s 5), (7, .s 7), (21, .s 21), (22, .s 22), (23, .s 23), (41, .r 14)]
def e18r5 : EE := .q 2 .nl [.s 0] none <|
 .q 3 (.fld 5) [.r 2] none <|
 .q 4 .ld [.r 3] none <|
 .q 5 (.lda 51) [.s 7] none <|
 .x 6 (.bsl 88 1 [z, z, z, z, z, z, z, z, z, z, zs, zs, zs, zs, z, z, z, z, z, z, z, z, z, z, z, z, z, z, z, z, zs, zs, zs, zs, z, z, z, z, z, z, z, z, (.bool false), z, z, z, z, z, z, z, zs] [(0, 51)]) [.r 5] none [⟨4, .ld, [.r 3], none⟩] <|
 .x 7 (.app 88 51 480 [z, z, z, z, z, z, z, z, z, z, zs, zs, zs, zs, z, z, z, z, z, z, z, z, z, z, z, z, z, z, z, z, zs, zs, zs, zs, z, z, z, z, z, z, z, z, (.bool false), z, z, z, z, z, z, z, zs]) [.r 4, .r 6] none [] <|
 .q 8 .nl [.s 0] none <|
 .q 9 (.fld 5) [.r 8] none <|
 .x 10 (.st 1) [.r 9, .r 7] none [] <|
 .out [(0, .s 0), (5, .s 5), (21, .s 21), (22, .s 22), (23, .s 23)]
def e18r6 : EE := .q 0 .add [.s 23, .c (.int .i64 1)] none <|
 .out [(0, .s 0), (5, .s 5), (21, .s 21), (22, .s 22), (23, .r 0)]
def e18l7 : EC := (.seq (.reg e18r2 [0, 5, 21, 22, 23] 0) (.seq (.cond (.s 24) .skip (.exit 0)) (.seq (.block 1 (.seq (.reg e18r3 [0, 5, 21, 22, 23] 0) (.seq (.reg e18r4 [0, 5, 7, 21, 22, 23] 0) (.cond (.s 41) (.reg e18r5 [0, 5, 7, 21, 22, 23] 0) .skip)))) (.reg e18r6 [0, 5, 21, 22, 23] 0))))
def e18r8 : EE := .q 1 .len [.s 5] none <|
 .out [(0, .s 0), (53, .s 5), (54, .r 1), (55, .c z)]
def e18r9 : EE := .q 0 .lss [.s 55, .s 54] none <|
 .out [(0, .s 0), (53, .s 53), (54, .s 54), (55, .s 55), (56, .r 0)]
def e18r10 : EE := .q 0 (.ixs 7) [.s 53, .s 55] none <|
 .q 1 (.lda 7) [.r 0] none <|
 .x 2 (.alc [z, z, z, (.bool false), zs, z, .nsl] 119) [] none [] <|
 .x 3 (.st 7) [.r 2, .r 1] none [] <|
 .out [(0, .s 0), (9, .r 2), (53, .s 53), (54, .s 54), (55, .s 55)]
def e18r11 : EE := .q 0 (.fld 0) [.s 9] none <|
 .q 1 .ld [.r 0] none <|
 .x 2 (.call 43) [.r 1] none [] <|
 .q 4 .mv [.s 0] (some (.r 2, true)) <|
 .q 5 .nl [.r 4] (some (.r 2, true)) <|
 .q 6 (.fld 3) [.r 5] (some (.r 2, true)) <|
 .q 7 .ld [.r 6] (some (.r 2, true)) <|
 .q 8 (.fld 0) [.s 9] (some (.r 2, true)) <|
 .q 9 .ld [.r 8] (some (.r 2, true)) <|
 .q 10 .sub [.r 9, .c (.int .i64 1)] (some (.r 2, true)) <|
 .q 11 (.ixs 1) [.r 7, .r 10] (some (.r 2, true)) <|
 .q 12 .ld [.r 11] (some (.r 2, true)) <|
 .q 13 (.lda 7) [.s 9] (some (.r 2, true)) <|
 .x 14 (.call 44) [.r 12, .r 13] (some (.r 2, true)) [] <|
 .q 15 .pick [.r 2, .r 14, .c (.bool false)] none <|
 .out [(0, .s 0), (9, .s 9), (53, .s 53), (54, .s 54), (55, .s 55), (74, .r 15)]
def e18r12 : EE := .q 0 (.fld 2) [.s 9] none <|
 .q 1 (.fld 4) [.r 0] none <|
 .q 2 .ld [.r 1] none <|
 .x 3 (.call 29) [.r 2] none [] <|
 .q 4 (.fld 2) [.s 9] none <|
 .q 5 (.fld 4) [.r 4] none <|
 .x 6 (.st 1) [.r 5, .r 3] none [] <|
 .out [(0, .s 0), (9, .s 9), (53, .s 53), (54, .s 54), (55, .s 55)]
def e18r13 : EE := .q 2 .nl [.s 0] none <|
 .q 3 (.fld 6) [.r 2] none <|
 .q 4 .ld [.r 3] none <|
 .q 5 (.fld 0) [.s 9] none <|
 .q 6 .ld [.r 5] none <|
 .q 8 .nl [.s 0] none <|
 .q 9 (.fld 4) [.r 8] none <|
 .q 10 .ld [.r 9] none <|
 .q 11 (.fld 0) [.s 9] none <|
 .q 12 .ld [.r 11] none <|
 .q 13 .sub [.r 12, .c (.int .i64 1)] none <|
 .q 14 (.ixs 7) [.r 10, .r 13] none <|
 .q 15 (.lda 7) [.r 14] none <|
 .q 16 (.fld 2) [.s 9] none <|
 .q 17 (.lda 5) [.r 16] none <|
 .q 18 (.bld [z, z, z, z, z, zs, zs, zs, zs, z, (.bool false), zs, z, .nsl] [(0, 1), (1, 1), (2, 7), (9, 5)]) [.c (.int .i64 2), .r 6, .r 15, .r 17] none <|
 .x 19 (.bsl 91 1 [z, z, z, z, z, zs, zs, zs, zs, z, (.bool false), zs, z, .nsl] [(0, 14)]) [.r 18] none [⟨4, .ld, [.r 3], none⟩] <|
 .x 20 (.app 91 14 168 [z, z, z, z, z, zs, zs, zs, zs, z, (.bool false), zs, z, .nsl]) [.r 4, .r 19] none [] <|
 .q 21 .nl [.s 0] none <|
 .q 22 (.fld 6) [.r 21] none <|
 .x 23 (.st 1) [.r 22, .r 20] none [] <|
 .out [(0, .s 0), (53, .s 53), (54, .s 54), (55, .s 55)]
def e18r14 : EE := .q 0 .add [.s 55, .c (.int .i64 1)] none <|
 .out [(0, .s 0), (53, .s 53), (54, .s 54), (55, .r 0)]
def e18l15 : EC := (.seq (.reg e18r9 [0, 53, 54, 55] 0) (.seq (.cond (.s 56) .skip (.exit 2)) (.seq (.block 3 (.seq (.reg e18r10 [0, 53, 54, 55] 0) (.seq (.reg e18r11 [0, 9, 53, 54, 55] 0) (.cond (.s 74) (.seq (.reg e18r12 [0, 9, 53, 54, 55] 0) (.reg e18r13 [0, 9, 53, 54, 55] 0)) .skip)))) (.reg e18r14 [0, 53, 54, 55] 0))))
def e18 : EFn := ⟨(.seq (.reg e18r0 [0, 1] 0) (.seq (.seq (.reg e18r1 [0, 4, 5] 0) (.block 0 (.loop [0, 5, 21, 22, 23] e18l7))) (.seq (.reg e18r8 [0, 5] 0) (.block 2 (.loop [0, 53, 54, 55] e18l15))))), [], 105, 0⟩
theorem g18 : Good Tryz.prog 18 e18 := ⟨Tryz.f18, Tryz.func18, by kernel_rfl, by kernel_rfl, by kernel_rfl, by kernel_rfl⟩
/-! (*concord/cluster.Cluster).call -/
def e19r0 : EE := .x 0 (.box 32) [.s 1] none [] <|
 .out [(0, .s 0), (3, .r 0)]
def e19r1 : EE := .q 0 (.fld 3) [.s 3] none <|
 .q 1 .ld [.r 0] none <|
 .x 2 (.call 43) [.r 1] none [] <|
 .q 3 .not [.r 2] none <|
 .q 5 (.fld 1) [.s 3] (some (.r 3, false)) <|
 .q 6 .ld [.r 5] (some (.r 3, false)) <|
 .q 7 .lss [.r 6, .c z] (some (.r 3, false)) <|
 .q 8 .pick [.r 3, .c (.bool true), .r 7] none <|
 .q 10 (.fld 1) [.s 3] (some (.r 8, false)) <|
 .q 11 .ld [.r 10] (some (.r 8, false)) <|
 .q 12 .mv [.s 0] (some (.r 8, false)) <|
 .q 13 .nl [.r 12] (some (.r 8, false)) <|
 .q 14 (.fld 0) [.r 13] (some (.r 8, false)) <|
 .q 15 .ld [.r 14] (some (.r 8, false)) <|
 .q 16 .geq [.r 11, .r 15] (some (.r 8, false)) <|
 .q 17 .pick [.r 8, .c (.bool true), .r 16] none <|
 .out [(0, .s 0), (3, .s 3), (24, .r 17)]
def e19r2 : EE := .out [(4, .c (.bool false))]
def e19r3 : EE := .q 1 .nl [.s 0] none <|
 .q 2 (.fld 3) [.r 1] none <|
 .q 3 .ld [.r 2] none <|
 .q 4 (.fld 3) [.s 3] none <|
 .q 5 .ld [.r 4] none <|
 .q 6 .sub [.r 5, .c (.int .i64 1)] none <|
 .q 7 (.ixs 1) [.r 3, .r 6] none <|
 .q 8 .ld [.r 7] none <|
 .q 9 (.fld 4) [.s 3] none <|
 .q 10 (.lda 7) [.r 9] none <|
 .q 11 (.fld 1) [.s 3] none <|
 .q 12 .ld [.r 11] none <|
 .both false
 (.x 13 (.call 45) [.r 8, .r 10, .r 12] none [] <|
 .q 15 (.ext 0) [.r 13] none <|
 .q 16 (.ext 1) [.r 13] none <|
 .x 17 (.alc [z, z, z, zs, zs, zs, zs] 30) [] none [⟨3, .ld, [.r 2], none⟩, ⟨5, .ld, [.r 4], none⟩, ⟨8, .ld, [.r 7], none⟩, ⟨10, (.lda 7), [.r 9], none⟩, ⟨12, .ld, [.r 11], none⟩] <|
 .x 18 (.st 7) [.r 17, .r 15] none [] <|
 .out [(0, .s 0), (3, .s 3), (5, .r 17), (6, .r 16)])
 (.x 17 (.alc [z, z, z, zs, zs, zs, zs] 30) [] none [⟨3, .ld, [.r 2], none⟩, ⟨5, .ld, [.r 4], none⟩, ⟨8, .ld, [.r 7], none⟩, ⟨10, (.lda 7), [.r 9], none⟩, ⟨12, .ld, [.r 11], none⟩] <|
 .x 13 (.call 45) [.r 8, .r 10, .r 12] none [] <|
 .q 15 (.ext 0) [.r 13] none <|
 .q 16 (.ext 1) [.r 13] none <|
 .x 18 (.st 7) [.r 17, .r 15] none [] <|
 .out [(0, .s 0), (3, .s 3), (5, .r 17), (6, .r 16)])
def e19r4 : EE := .q 1 .not [.s 6] none <|
 .out [(0, .s 0), (3, .s 3), (5, .s 5), (43, .r 1)]
def e19r5 : EE := .out [(4, .c (.bool false))]
def e19r6 : EE := .q 1 .nl [.s 0] none <|
 .q 2 (.fld 4) [.r 1] none <|
 .q 3 .ld [.r 2] none <|
 .q 4 (.fld 3) [.s 3] none <|
 .q 5 .ld [.r 4] none <|
 .q 6 .sub [.r 5, .c (.int .i64 1)] none <|
 .q 7 (.lda 7) [.s 5] none <|
 .q 8 (.ixs 7) [.r 3, .r 6] none <|
 .x 9 (.st 7) [.r 8, .r 7] none [] <|
 .out [(0, .s 0), (3, .s 3), (5, .s 5)]
def e19r7 : EE := .q 2 .nl [.s 0] none <|
 .q 3 (.fld 6) [.r 2] none <|
 .q 4 .ld [.r 3] none <|
 .q 5 (.fld 3) [.s 3] none <|
 .q 6 .ld [.r 5] none <|
 .q 7 (.lda 7) [.s 5] none <|
 .q 8 (.bld [z, z, z, z, z, zs, zs, zs, zs, z, (.bool false), zs, z, .nsl] [(0, 1), (1, 1), (2, 7)]) [.c (.int .i64 1), .r 6, .r 7] none <|
 .x 9 (.bsl 91 1 [z, z, z, z, z, zs, zs, zs, zs, z, (.bool false), zs, z, .nsl] [(0, 14)]) [.r 8] none [⟨4, .ld, [.r 3], none⟩] <|
 .x 10 (.app 91 14 168 [z, z, z, z, z, zs, zs, zs, zs, z, (.bool false), zs, z, .nsl]) [.r 4, .r 9] none [] <|
 .q 11 .nl [.s 0] none <|
 .q 12 (.fld 6) [.r 11] none <|
 .x 13 (.st 1) [.r 12, .r 10] none [] <|
 .out [(0, .s 0), (3, .s 3), (5, .s 5)]
def e19r8 : EE := .q 1 (.lda 7) [.s 5] none <|
 .q 2 (.fld 1) [.s 3] none <|
 .q 3 .ld [.r 2] none <|
 .x 4 (.call 46) [.s 0, .r 1, .r 3] none [] <|
 .out []
def e19r9 : EE := .out [(4, .c (.bool true))]
def e19 : EFn := ⟨(.seq (.reg e19r0 [0, 1] 0) (.seq (.seq (.reg e19r1 [0, 3] 0) (.cond (.s 24) (.seq (.reg e19r2 [] 0) .ret) .skip)) (.seq (.reg e19r3 [0, 3] 19) (.seq (.seq (.reg e19r4 [0, 3, 5, 6] 0) (.cond (.s 43) (.seq (.reg e19r5 [] 0) .ret) .skip)) (.seq (.reg e19r6 [0, 3, 5] 0) (.seq (.reg e19r7 [0, 3, 5] 0) (.seq (.reg e19r8 [0, 3, 5] 0) (.seq (.reg e19r9 [] 0) .ret)))))))), [.slot 4], 71, 0⟩
theorem g19 : Good Tryz.prog 19 e19 := ⟨Tryz.f19, Tryz.func19, by kernel_rfl, by kernel_rfl, by kernel_rfl, by kernel_rfl⟩
/-! (*concord/cluster.Cluster).letter -/
def e20r0 : EE := .x 0 (.box 32) [.s 1] none [] <|
 .out [(0, .s 0), (3, .r 0)]
def e20r1 : EE := .q 0 (.fld 1) [.s 3] none <|
 .q 1 .ld [.r 0] none <|
 .q 2 .lss [.r 1, .c z] none <|
 .q 4 (.fld 1) [.s 3] (some (.r 2, false)) <|
 .q 5 .ld [.r 4] (some (.r 2, false)) <|
 .q 6 .mv [.s 0] (some (.r 2, false)) <|
 .q 7 .nl [.r 6] (some (.r 2, false)) <|
 .q 8 (.fld 5) [.r 7] (some (.r 2, false)) <|
 .q 9 .ld [.r 8] (some (.r 2, false)) <|
 .q 10 .len [.r 9] (some (.r 2, false)) <|
 .q 11 .geq [.r 5, .r 10] (some (.r 2, false)) <|
 .q 12 .pick [.r 2, .c (.bool true), .r 11] none <|
 .out [(0, .s 0), (3, .s 3), (19, .r 12)]
def e20r2 : EE := .out [(4, .c (.bool false))]
def e20r3 : EE := .q 1 .nl [.s 0] none <|
 .q 2 (.fld 5) [.r 1] none <|
 .q 3 .ld [.r 2] none <|
 .q 4 (.fld 1) [.s 3] none <|
 .q 5 .ld [.r 4] none <|
 .q 6 (.ixs 51) [.r 3, .r 5] none <|
 .q 7 (.lda 51) [.r 6] none <|
 .x 8 (.alc [z, z, z, z, z, z, z, z, z, z, zs, zs, zs, zs, z, z, z, z, z, z, z, z, z, z, z, z, z, z, z, z, zs, zs, zs, zs, z, z, z, z, z, z, z, z, (.bool false), z, z, z, z, z, z, z, zs] 88) [] none [⟨3, .ld, [.r 2], none⟩, ⟨5, .ld, [.r 4], none⟩, ⟨7, (.lda 51), [.r 6], none⟩] <|
 .x 9 (.st 51) [.r 8, .r 7] none [] <|
 .out [(0, .s 0), (3, .s 3), (5, .r 8)]
def e20r4 : EE := .q 0 (.fld 0) [.s 3] none <|
 .q 1 .ld [.r 0] none <|
 .q 2 .neq [.r 1, .c (.int .i64 3)] none <|
 .out [(0, .s 0), (3, .s 3), (5, .s 5), (30, .r 2)]
def e20r5 : EE := .q 2 .nl [.s 0] none <|
 .q 3 (.fld 5) [.r 2] none <|
 .q 4 .ld [.r 3] none <|
 .q 5 (.fld 1) [.s 3] none <|
 .q 6 .ld [.r 5] none <|
 .q 7 (.fld 1) [.s 3] none <|
 .q 8 .ld [.r 7] none <|
 .q 9 .add [.r 8, .c (.int .i64 1)] none <|
 .x 10 (.call 47) [.r 4, .r 6, .r 9] none [] <|
 .q 11 .nl [.s 0] none <|
 .q 12 (.fld 5) [.r 11] none <|
 .x 13 (.st 1) [.r 12, .r 10] none [] <|
 .out [(0, .s 0), (3, .s 3), (5, .s 5)]
def e20r6 : EE := .q 1 (.fld 2) [.s 5] none <|
 .q 2 .ld [.r 1] none <|
 .x 3 (.call 9) [.s 0, .r 2] none [] <|
 .out [(0, .s 0), (3, .s 3), (5, .s 5), (6, .r 3)]
def e20r7 : EE := .q 0 (.fld 0) [.s 3] none <|
 .q 1 .ld [.r 0] none <|
 .q 2 .neq [.r 1, .c (.int .i64 4)] none <|
 .q 4 .mv [.s 6] (some (.r 2, true)) <|
 .q 5 (.eqp true) [.r 4, .c .nptr] (some (.r 2, true)) <|
 .q 6 .pick [.r 2, .r 5, .c (.bool false)] none <|
 .out [(0, .s 0), (5, .s 5), (6, .s 6), (54, .r 6)]
def e20r8 : EE := .q 1 (.lda 51) [.s 5] none <|
 .x 2 (.call 48) [.s 6, .r 1] none [] <|
 .out [(0, .s 0), (5, .s 5)]
def e20r9 : EE := .q 1 (.fld 2) [.s 5] none <|
 .q 2 .ld [.r 1] none <|
 .x 3 (.call 18) [.s 0, .r 2] none [] <|
 .out []
def e20r10 : EE := .out [(4, .c (.bool true))]
def e20 : EFn := ⟨(.seq (.reg e20r0 [0, 1] 0) (.seq (.seq (.reg e20r1 [0, 3] 0) (.cond (.s 19) (.seq (.reg e20r2 [] 0) .ret) .skip)) (.seq (.reg e20r3 [0, 3] 0) (.seq (.seq (.reg e20r4 [0, 3, 5] 0) (.cond (.s 30) (.reg e20r5 [0, 3, 5] 0) .skip)) (.seq (.seq (.reg e20r6 [0, 3, 5] 0) (.seq (.reg e20r7 [0, 3, 5, 6] 0) (.cond (.s 54) (.seq (.reg e20r8 [0, 5, 6] 0) (.reg e20r9 [0, 5] 0)) .skip))) (.seq (.reg e20r10 [] 0) .ret)))))), [.slot 4], 62, 0⟩
theorem g20 : Good Tryz.prog 20 e20 := ⟨Tryz.f20, Tryz.func20, by kernel_rfl, by kernel_rfl, by kernel_rfl, by kernel_rfl⟩
/-! (*concord/core.Core).Top -/
def e26r0 : EE := .x 0 (.alc [z, z, z, z, z, z, z] 38) [] none [] <|
 .out [(0, .s 0), (2, .r 0)]
def e26r1 : EE := .q 1 .nl [.s 0] none <|
 .q 2 (.fld 2) [.r 1] none <|
 .q 3 .ld [.r 2] none <|
 .x 4 (.call 52) [.r 3] none [] <|
 .x 5 (.st 7) [.s 2, .r 4] none [] <|
 .out [(2, .s 2)]
def e26 : EFn := ⟨(.seq (.reg e26r0 [0] 0) (.seq (.reg e26r1 [0, 2] 0) .ret)), [.cells 2 7], 8, 0⟩
theorem g26 : Good Tryz.prog 26 e26 := ⟨Tryz.f26, Tryz.func26, by kernel_rfl, by kernel_rfl, by kernel_rfl, by kernel_rfl⟩
/-! slices.Clone[[]concord/api.Letter,concord/api.Letter] -/
def e27r0 : EE := .out [(0, .s 0)]
def e27r1 : EE := .q 1 (.eqs false) [.s 0, .c .nsl] none <|
 .out [(0, .s 0), (4, .r 1)]
def e27r2 : EE := .out [(2, .c .nsl)]
def e27r3 : EE := .x 0 (.bsl 88 0 [] []) [] none [] <|
 .x 2 (.app 88 51 480 [z, z, z, z, z, z, z, z, z, z, zs, zs, zs, zs, z, z, z, z, z, z, z, z, z, z, z, z, z, z, z, z, zs, zs, zs, zs, z, z, z, z, z, z, z, z, (.bool false), z, z, z, z, z, z, z, zs]) [.r 0, .s 0] none [] <|
 .out [(2, .r 2)]
def e27 : EFn := ⟨(.seq (.reg e27r0 [0] 0) (.seq (.seq (.reg e27r1 [0] 0) (.cond (.s 4) (.seq (.reg e27r2 [] 0) .ret) .skip)) (.seq (.reg e27r3 [0] 0) .ret))), [.slot 2], 8, 0⟩
theorem g27 : Good Tryz.prog 27 e27 := ⟨Tryz.f27, Tryz.func27, by kernel_rfl, by kernel_rfl, by kernel_rfl, by kernel_rfl⟩
/-! slices.Clone[[]concord/api.Event,concord/api.Event] -/
def e28r0 : EE := .out [(0, .s 0)]
def e28r1 : EE := .q 1 (.eqs false) [.s 0, .c .nsl] none <|
 .out [(0, .s 0), (4, .r 1)]
def e28r2 : EE := .out [(2, .c .nsl)]
def e28r3 : EE := .x 0 (.bsl 91 0 [] []) [] none [] <|
 .x 2 (.app 91 14 168 [z, z, z, z, z, zs, zs, zs, zs, z, (.bool false), zs, z, .nsl]) [.r 0, .s 0] none [] <|
 .out [(2, .r 2)]
def e28 : EFn := ⟨(.seq (.reg e28r0 [0] 0) (.seq (.seq (.reg e28r1 [0] 0) (.cond (.s 4) (.seq (.reg e28r2 [] 0) .ret) .skip)) (.seq (.reg e28r3 [0] 0) .ret))), [.slot 2], 8, 0⟩
theorem g28 : Good Tryz.prog 28 e28 := ⟨Tryz.f28, Tryz.func28, by kernel_rfl, by kernel_rfl, by kernel_rfl, by kernel_rfl⟩
/-! slices.Clone[[]concord/api.Pair,concord/api.Pair] -/
def e29r0 : EE := .out [(0, .s 0)]
def e29r1 : EE := .q 1 (.eqs false) [.s 0, .c .nsl] none <|
 .out [(0, .s 0), (4, .r 1)]
def e29r2 : EE := .out [(2, .c .nsl)]
def e29r3 : EE := .x 0 (.bsl 94 0 [] []) [] none [] <|
 .x 2 (.app 94 3 40 [zs, zs, z]) [.r 0, .s 0] none [] <|
 .out [(2, .r 2)]
def e29 : EFn := ⟨(.seq (.reg e29r0 [0] 0) (.seq (.seq (.reg e29r1 [0] 0) (.cond (.s 4) (.seq (.reg e29r2 [] 0) .ret) .skip)) (.seq (.reg e29r3 [0] 0) .ret))), [.slot 2], 8, 0⟩
theorem g29 : Good Tryz.prog 29 e29 := ⟨Tryz.f29, Tryz.func29, by kernel_rfl, by kernel_rfl, by kernel_rfl, by kernel_rfl⟩
/-! (*concord/cluster.Cluster).Waits -/
def e30r0 : EE := .out [(0, .s 0), (1, .s 1)]
def e30r1 : EE := .x 1 (.call 43) [.s 1] none [] <|
 .q 3 .mv [.s 0] (some (.r 1, true)) <|
 .q 4 .nl [.r 3] (some (.r 1, true)) <|
 .q 5 (.fld 3) [.r 4] (some (.r 1, true)) <|
 .q 6 .ld [.r 5] (some (.r 1, true)) <|
 .q 7 .mv [.s 1] (some (.r 1, true)) <|
 .q 8 .sub [.r 7, .c (.int .i64 1)] (some (.r 1, true)) <|
 .q 9 (.ixs 1) [.r 6, .r 8] (some (.r 1, true)) <|
 .q 10 .ld [.r 9] (some (.r 1, true)) <|
 .x 11 (.call 53) [.r 10] (some (.r 1, true)) [] <|
 .q 12 .pick [.r 1, .r 11, .c (.bool false)] none <|
 .out [(4, .r 12)]
def e30 : EFn := ⟨(.seq (.reg e30r0 [0, 1] 0) (.seq (.reg e30r1 [0, 1] 0) .ret)), [.slot 4], 18, 0⟩
theorem g30 : Good Tryz.prog 30 e30 := ⟨Tryz.f30, Tryz.func30, by kernel_rfl, by kernel_rfl, by kernel_rfl, by kernel_rfl⟩
/-! concord/quorum.Fits -/
def e31r0 : EE := .out [(0, .s 0)]
def e31r1 : EE := .q 1 .eql [.s 0, .c (.int .i64 3)] none <|
 .q 3 .mv [.s 0] (some (.r 1, false)) <|
 .q 4 .eql [.r 3, .c (.int .i64 5)] (some (.r 1, false)) <|
 .q 5 .pick [.r 1, .c (.bool true), .r 4] none <|
 .q 7 .mv [.s 0] (some (.r 5, false)) <|
 .q 8 .eql [.r 7, .c (.int .i64 7)] (some (.r 5, false)) <|
 .q 9 .pick [.r 5, .c (.bool true), .r 8] none <|
 .out [(2, .r 9)]
def e31 : EFn := ⟨(.seq (.reg e31r0 [0] 0) (.seq (.reg e31r1 [0] 0) .ret)), [.slot 2], 13, 0⟩
theorem g31 : Good Tryz.prog 31 e31 := ⟨Tryz.f31, Tryz.func31, by kernel_rfl, by kernel_rfl, by kernel_rfl, by kernel_rfl⟩
/-! concord/front.New -/
def e32r0 : EE := .out [(0, .s 0), (1, .s 1)]
def e32r1 : EE := .q 1 .neq [.s 0, .c (.int .i64 3)] none <|
 .q 3 .mv [.s 0] (some (.r 1, true)) <|
 .q 4 .neq [.r 3, .c (.int .i64 5)] (some (.r 1, true)) <|
 .q 5 .pick [.r 1, .r 4, .c (.bool false)] none <|
 .q 7 .mv [.s 0] (some (.r 5, true)) <|
 .q 8 .neq [.r 7, .c (.int .i64 7)] (some (.r 5, true)) <|
 .q 9 .pick [.r 5, .r 8, .c (.bool false)] none <|
 .q 11 .mv [.s 1] (some (.r 9, false)) <|
 .q 12 .lss [.r 11, .c z] (some (.r 9, false)) <|
 .q 13 .pick [.r 9, .c (.bool true), .r 12] none <|
 .q 15 .mv [.s 1] (some (.r 13, false)) <|
 .q 16 .mv [.s 0] (some (.r 13, false)) <|
 .q 17 .geq [.r 15, .r 16] (some (.r 13, false)) <|
 .q 18 .pick [.r 13, .c (.bool true), .r 17] none <|
 .out [(0, .s 0), (1, .s 1), (24, .r 18)]
def e32r2 : EE := .out [(4, .c .nptr), (5, .c (.int .i64 1))]
def e32r3 : EE := .q 2 (.bld [z, z, z, z, z, z, z, z, z, z, z, z, z, z, z, z, z, z, z, z, z, z, z, z, z, z, z, z, z, z, z, z, z, z, z, z, z, z, z, z, z, z, z, z, z, z, z, z, z, z, z] [(0, 1), (1, 1)]) [.s 0, .s 1] none <|
 .x 3 (.box 140) [.r 2] none [] <|
 .out [(4, .r 3), (5, .c z)]
def e32 : EFn := ⟨(.seq (.reg e32r0 [0, 1] 0) (.seq (.seq (.reg e32r1 [0, 1] 0) (.cond (.s 24) (.seq (.reg e32r2 [] 0) .ret) .skip)) (.seq (.reg e32r3 [0, 1] 0) .ret))), [.slot 4, .slot 5], 29, 0⟩
theorem g32 : Good Tryz.prog 32 e32 := ⟨Tryz.f32, Tryz.func32, by kernel_rfl, by kernel_rfl, by kernel_rfl, by kernel_rfl⟩
/-! (*concord/node.Node).load -/
def e33r0 : EE := .out [(0, .s 0)]
def e33r1 : EE := .q 1 .nl [.s 0] none <|
 .q 2 (.fld 2) [.r 1] none <|
 .q 3 .ld [.r 2] none <|
 .x 4 (.call 54) [.r 3, .c (.str [105, 109, 97, 103, 101])] none [] <|
 .q 6 (.ext 0) [.r 4] none <|
 .q 7 (.ext 1) [.r 4] none <|
 .out [(0, .s 0), (3, .r 6), (4, .r 7)]
def e33r2 : EE := .out [(0, .s 0), (3, .s 3), (18, .s 4)]
def e33r3 : EE := .x 1 (.call 55) [.s 3] none [] <|
 .q 3 (.ext 0) [.r 1] none <|
 .q 4 (.ext 1) [.r 1] none <|
 .q 5 (.ext 2) [.r 1] none <|
 .x 6 (.alc [z, z, z, z, z, z, z] 38) [] none [] <|
 .x 7 (.alc [.nsl, z, z, (.bool false), zs, z, .nsl, z, z, (.bool false), zs, z, .nsl, z, z, (.bool false), zs, z, .nsl, z, z, (.bool false), zs, z, .nsl, z, z, (.bool false), zs, z, .nsl, z, z, (.bool false), zs, z, .nsl, z, z, (.bool false), zs, z, .nsl, z, z, (.bool false), zs, z, .nsl] 73) [] none [] <|
 .x 8 (.st 7) [.r 6, .r 3] none [] <|
 .x 9 (.st 49) [.r 7, .r 4] none [] <|
 .out [(0, .s 0), (5, .r 6), (6, .r 7), (7, .r 5)]
def e33r4 : EE := .q 1 .neq [.s 7, .c z] none <|
 .out [(0, .s 0), (5, .s 5), (6, .s 6), (7, .s 7), (26, .r 1)]
def e33r5 : EE := .out [(2, .s 7)]
def e33r6 : EE := .q 3 (.lda 7) [.s 5] none <|
 .q 4 (.lda 7) [.s 5] none <|
 .q 5 (.lda 49) [.s 6] none <|
 .q 6 .nl [.s 0] none <|
 .q 7 (.fld 55) [.r 6] none <|
 .x 8 (.st 7) [.r 7, .r 3] none [⟨4, (.lda 7), [.s 5], none⟩, ⟨5, (.lda 49), [.s 6], none⟩] <|
 .q 9 .nl [.s 0] none <|
 .q 10 (.fld 62) [.r 9] none <|
 .x 11 (.st 7) [.r 10, .r 4] none [⟨5, (.lda 49), [.s 6], none⟩] <|
 .q 12 .nl [.s 0] none <|
 .q 13 (.fld 6) [.r 12] none <|
 .x 14 (.st 49) [.r 13, .r 5] none [] <|
 .out [(0, .s 0)]
def e33r7 : EE := .q 1 .nl [.s 0] none <|
 .q 2 (.fld 2) [.r 1] none <|
 .q 3 .ld [.r 2] none <|
 .x 4 (.call 54) [.r 3, .c (.str [105, 109, 97, 103, 101, 46, 110, 101, 119])] none [] <|
 .q 6 (.ext 0) [.r 4] none <|
 .q 7 (.ext 1) [.r 4] none <|
 .out [(0, .s 0), (9, .r 7)]
def e33r8 : EE := .out [(0, .s 0), (48, .s 9)]
def e33r9 : EE := .q 1 .nl [.s 0] none <|
 .q 2 (.fld 2) [.r 1] none <|
 .q 3 .ld [.r 2] none <|
 .x 4 (.call 56) [.r 3, .c (.str [105, 109, 97, 103, 101, 46, 110, 101, 119])] none [] <|
 .out [(2, .r 4)]
def e33r10 : EE := .out [(2, .c z)]
def e33 : EFn := ⟨(.seq (.reg e33r0 [0] 0) (.seq (.seq (.reg e33r1 [0] 0) (.seq (.reg e33r2 [0, 3, 4] 0) (.cond (.s 18) (.seq (.reg e33r3 [0, 3] 0) (.seq (.seq (.reg e33r4 [0, 5, 6, 7] 0) (.cond (.s 26) (.seq (.reg e33r5 [7] 0) .ret) .skip)) (.reg e33r6 [0, 5, 6] 0))) .skip))) (.seq (.seq (.reg e33r7 [0] 0) (.seq (.reg e33r8 [0, 9] 0) (.cond (.s 48) (.seq (.reg e33r9 [0] 0) .ret) .skip))) (.seq (.reg e33r10 [] 0) .ret)))), [.slot 2], 54, 0⟩
theorem g33 : Good Tryz.prog 33 e33 := ⟨Tryz.f33, Tryz.func33, by kernel_rfl, by kernel_rfl, by kernel_rfl, by kernel_rfl⟩
/-! concord/wal.Open -/
def e34r0 : EE := .out [(0, .s 0)]
def e34r1 : EE := .q 1 (.eqp false) [.s 0, .c .nptr] none <|
 .out [(0, .s 0), (17, .r 1)]
def e34r2 : EE := .out [(2, .c .nptr), (3, .c .nsl), (4, .c (.int .i64 1))]
def e34r3 : EE := .x 1 (.call 57) [.s 0] none [] <|
 .out [(0, .s 0), (5, .r 1)]
def e34r4 : EE := .q 1 .eql [.s 5, .c z] none <|
 .out [(0, .s 0), (5, .s 5), (21, .r 1)]
def e34r5 : EE := .q 1 (.bld [z, z] []) [] none <|
 .x 2 (.call 58) [.s 0, .r 1] none [] <|
 .out [(0, .s 0), (6, .r 2)]
def e34r6 : EE := .q 1 .neq [.s 6, .c z] none <|
 .out [(0, .s 0), (6, .s 6), (26, .r 1)]
def e34r7 : EE := .out [(2, .c .nptr), (3, .c .nsl), (4, .s 6)]
def e34r8 : EE := .q 1 (.bld [.nptr, z, z, (.bool false)] [(0, 1)]) [.s 0] none <|
 .x 2 (.box 151) [.r 1] none [] <|
 .out [(2, .r 2), (3, .c .nsl), (4, .c z)]
def e34r9 : EE := .x 2 (.call 59) [.s 0, .s 5] none [] <|
 .q 4 (.ext 0) [.r 2] none <|
 .q 5 (.ext 1) [.r 2] none <|
 .q 6 (.ext 2) [.r 2] none <|
 .q 7 (.ext 3) [.r 2] none <|
 .x 8 (.alc [z, z] 149) [] none [] <|
 .x 10 (.st 2) [.r 8, .r 5] none [] <|
 .out [(0, .s 0), (7, .r 4), (8, .r 8), (9, .r 6)]
def e34r10 : EE := .q 1 (.lda 2) [.s 8] none <|
 .x 2 (.call 60) [.r 1] none [] <|
 .x 3 (.call 54) [.s 0, .r 2] none [] <|
 .q 5 (.ext 0) [.r 3] none <|
 .q 6 (.ext 1) [.r 3] none <|
 .out [(0, .s 0), (7, .s 7), (8, .s 8), (9, .s 9), (11, .r 5)]
def e34r11 : EE := .q 1 .len [.s 11] none <|
 .q 3 .gtr [.r 1, .s 9] none <|
 .out [(0, .s 0), (7, .s 7), (8, .s 8), (9, .s 9), (49, .r 3)]
def e34r12 : EE := .q 1 (.lda 2) [.s 8] none <|
 .x 2 (.call 60) [.r 1] none [] <|
 .x 4 (.call 61) [.s 0, .r 2, .s 9] none [] <|
 .out [(0, .s 0), (7, .s 7), (8, .s 8), (13, .r 4)]
def e34r13 : EE := .q 1 .neq [.s 13, .c z] none <|
 .out [(0, .s 0), (7, .s 7), (8, .s 8), (13, .s 13), (56, .r 1)]
def e34r14 : EE := .out [(2, .c .nptr), (3, .c .nsl), (4, .s 13)]
def e34r15 : EE := .q 1 (.lda 2) [.s 8] none <|
 .x 2 (.call 58) [.s 0, .r 1] none [] <|
 .out [(0, .s 0), (7, .s 7), (8, .s 8), (14, .r 2)]
def e34r16 : EE := .q 1 .neq [.s 14, .c z] none <|
 .out [(0, .s 0), (7, .s 7), (8, .s 8), (14, .s 14), (62, .r 1)]
def e34r17 : EE := .out [(2, .c .nptr), (3, .c .nsl), (4, .s 14)]
def e34r18 : EE := .q 1 (.lda 2) [.s 8] none <|
 .x 2 (.call 60) [.r 1] none [] <|
 .x 3 (.call 62) [.s 0, .r 2] none [] <|
 .out [(0, .s 0), (7, .s 7), (8, .s 8), (15, .r 3)]
def e34r19 : EE := .q 1 .neq [.s 15, .c z] none <|
 .out [(0, .s 0), (7, .s 7), (8, .s 8), (15, .s 15), (69, .r 1)]
def e34r20 : EE := .out [(2, .c .nptr), (3, .c .nsl), (4, .s 15)]
def e34r21 : EE := .q 1 (.lda 2) [.s 8] none <|
 .q 2 (.bld [.nptr, z, z, (.bool false)] [(0, 1), (1, 2)]) [.s 0, .r 1] none <|
 .x 3 (.box 151) [.r 2] none [] <|
 .out [(2, .r 3), (3, .s 7), (4, .c z)]
def e34 : EFn := ⟨(.seq (.reg e34r0 [0] 0) (.seq (.seq (.reg e34r1 [0] 0) (.cond (.s 17) (.seq (.reg e34r2 [] 0) .ret) .skip)) (.seq (.reg e34r3 [0] 0) (.seq (.seq (.reg e34r4 [0, 5] 0) (.cond (.s 21) (.seq (.seq (.reg e34r5 [0] 0) (.seq (.reg e34r6 [0, 6] 0) (.cond (.s 26) (.seq (.reg e34r7 [6] 0) .ret) .skip))) (.seq (.reg e34r8 [0] 0) .ret)) .skip)) (.seq (.reg e34r9 [0, 5] 0) (.seq (.seq (.reg e34r10 [0, 7, 8, 9] 0) (.seq (.reg e34r11 [0, 7, 8, 9, 11] 0) (.cond (.s 49) (.seq (.reg e34r12 [0, 7, 8, 9] 0) (.seq (.reg e34r13 [0, 7, 8, 13] 0) (.cond (.s 56) (.seq (.reg e34r14 [13] 0) .ret) .skip))) .skip))) (.seq (.seq (.reg e34r15 [0, 7, 8] 0) (.seq (.reg e34r16 [0, 7, 8, 14] 0) (.cond (.s 62) (.seq (.reg e34r17 [14] 0) .ret) .skip))) (.seq (.seq (.reg e34r18 [0, 7, 8] 0) (.seq (.reg e34r19 [0, 7, 8, 15] 0) (.cond (.s 69) (.seq (.reg e34r20 [15] 0) .ret) .skip))) (.seq (.reg e34r21 [0, 7, 8] 0) .ret))))))))), [.slot 2, .slot 3, .slot 4], 76, 0⟩
theorem g34 : Good Tryz.prog 34 e34 := ⟨Tryz.f34, Tryz.func34, by kernel_rfl, by kernel_rfl, by kernel_rfl, by kernel_rfl⟩
/-! concord/core.New -/
def e36r0 : EE := .x 0 (.box 38) [.s 2] none [] <|
 .out [(0, .s 0), (1, .s 1), (3, .s 3), (6, .r 0)]
def e36r1 : EE := .x 1 (.call 31) [.s 0] none [] <|
 .q 2 .not [.r 1] none <|
 .q 4 .mv [.s 1] (some (.r 2, false)) <|
 .q 5 .lss [.r 4, .c z] (some (.r 2, false)) <|
 .q 6 .pick [.r 2, .c (.bool true), .r 5] none <|
 .q 8 .mv [.s 1] (some (.r 6, false)) <|
 .q 9 .mv [.s 0] (some (.r 6, false)) <|
 .q 10 .geq [.r 8, .r 9] (some (.r 6, false)) <|
 .q 11 .pick [.r 6, .c (.bool true), .r 10] none <|
 .q 13 (.lda 7) [.s 6] (some (.r 11, false)) <|
 .q 14 (.bld [z, z, z, z, z, z, z, z] [(1, 7)]) [.r 13] (some (.r 11, false)) <|
 .x 15 (.call 66) [.r 14] (some (.r 11, false)) [] <|
 .q 16 .not [.r 15] (some (.r 11, false)) <|
 .q 17 .pick [.r 11, .c (.bool true), .r 16] none <|
 .out [(0, .s 0), (1, .s 1), (3, .s 3), (6, .s 6), (33, .r 17)]
def e36r2 : EE := .out [(8, .c .nptr), (9, .c (.int .i64 1))]
def e36r3 : EE := .q 2 (.lda 7) [.s 6] none <|
 .x 3 (.call 67) [.r 2] none [] <|
 .x 4 (.call 68) [] none [] <|
 .q 5 (.bld [z, z, .nptr, .nptr, .nsl, .nsl, .nsl, .nsl] [(0, 1), (1, 1), (2, 1), (3, 1)]) [.s 0, .s 1, .r 3, .r 4] none <|
 .x 6 (.box 137) [.r 5] none [] <|
 .out [(3, .s 3), (6, .s 6), (10, .r 6)]
def e36r4 : EE := .q 1 .nl [.s 10] none <|
 .q 2 (.fld 3) [.r 1] none <|
 .q 3 .ld [.r 2] none <|
 .q 4 (.lda 7) [.s 6] none <|
 .x 5 (.call 69) [.r 3, .r 4] none [] <|
 .out [(3, .s 3), (10, .s 10)]
def e36r5 : EE := .q 1 .len [.s 3] none <|
 .out [(10, .s 10), (47, .s 3), (48, .r 1), (49, .c z)]
def e36r6 : EE := .q 0 .lss [.s 49, .s 48] none <|
 .out [(10, .s 10), (47, .s 47), (48, .s 48), (49, .s 49), (50, .r 0)]
def e36r7 : EE := .q 0 (.ixs 1) [.s 47, .s 49] none <|
 .q 1 .ld [.r 0] none <|
 .out [(10, .s 10), (12, .r 1), (47, .s 47), (48, .s 48), (49, .s 49)]
def e36r8 : EE := .x 1 (.call 70) [.s 12] none [] <|
 .q 3 (.ext 0) [.r 1] none <|
 .q 4 (.ext 1) [.r 1] none <|
 .q 5 (.ext 2) [.r 1] none <|
 .x 6 (.alc [z, z] 80) [] none [] <|
 .x 7 (.alc [z, z, z, z, z, z, z, z, zs, zs, zs, zs, z, z, z, z, z, z, z, z, (.bool false)] 86) [] none [] <|
 .x 8 (.st 2) [.r 6, .r 3] none [] <|
 .x 9 (.st 21) [.r 7, .r 4] none [] <|
 .out [(10, .s 10), (13, .r 6), (14, .r 7), (15, .r 5), (47, .s 47), (48, .s 48), (49, .s 49)]
def e36r9 : EE := .q 1 .eql [.s 15, .c z] none <|
 .q 3 .mv [.s 10] (some (.r 1, true)) <|
 .q 4 .nl [.r 3] (some (.r 1, true)) <|
 .q 5 (.fld 2) [.r 4] (some (.r 1, true)) <|
 .q 6 .ld [.r 5] (some (.r 1, true)) <|
 .q 7 (.lda 2) [.s 13] (some (.r 1, true)) <|
 .q 8 (.lda 21) [.s 14] (some (.r 1, true)) <|
 .x 9 (.call 71) [.r 6, .r 7, .r 8] (some (.r 1, true)) [] <|
 .q 10 .pick [.r 1, .r 9, .c (.bool false)] none <|
 .out [(10, .s 10), (13, .s 13), (14, .s 14), (47, .s 47), (48, .s 48), (49, .s 49), (69, .r 10)]
def e36r10 : EE := .q 1 (.lda 2) [.s 13] none <|
 .q 2 (.lda 21) [.s 14] none <|
 .x 3 (.call 72) [.s 10, .r 1, .r 2] none [] <|
 .out [(10, .s 10), (47, .s 47), (48, .s 48), (49, .s 49)]
def e36r11 : EE := .q 0 .add [.s 49, .c (.int .i64 1)] none <|
 .out [(10, .s 10), (47, .s 47), (48, .s 48), (49, .r 0)]
def e36l12 : EC := (.seq (.reg e36r6 [10, 47, 48, 49] 0) (.seq (.cond (.s 50) .skip (.exit 0)) (.seq (.block 1 (.seq (.reg e36r7 [10, 47, 48, 49] 0) (.seq (.reg e36r8 [10, 12, 47, 48, 49] 0) (.seq (.reg e36r9 [10, 13, 14, 15, 47, 48, 49] 0) (.cond (.s 69) (.reg e36r10 [10, 13, 14, 47, 48, 49] 0) .skip))))) (.reg e36r11 [10, 47, 48, 49] 0))))
def e36r13 : EE := .out [(8, .s 10), (9, .c z)]
def e36 : EFn := ⟨(.seq (.reg e36r0 [0, 1, 2, 3] 0) (.seq (.seq (.reg e36r1 [0, 1, 3, 6] 0) (.cond (.s 33) (.seq (.reg e36r2 [] 0) .ret) .skip)) (.seq (.reg e36r3 [0, 1, 3, 6] 0) (.seq (.reg e36r4 [3, 6, 10] 0) (.seq (.seq (.reg e36r5 [3, 10] 0) (.block 0 (.loop [10, 47, 48, 49] e36l12))) (.seq (.reg e36r13 [10] 0) .ret)))))), [.slot 8, .slot 9], 76, 0⟩
theorem g36 : Good Tryz.prog 36 e36 := ⟨Tryz.f36, Tryz.func36, by kernel_rfl, by kernel_rfl, by kernel_rfl, by kernel_rfl⟩
/-! (*concord/wal.Wal).Where -/
def e37r0 : EE := .out [(0, .s 0)]
def e37r1 : EE := .q 1 .nl [.s 0] none <|
 .q 2 (.fld 1) [.r 1] none <|
 .q 3 (.fld 0) [.r 2] none <|
 .q 4 .ld [.r 3] none <|
 .q 6 .nl [.s 0] none <|
 .q 7 (.fld 1) [.r 6] none <|
 .q 8 (.fld 1) [.r 7] none <|
 .q 9 .ld [.r 8] none <|
 .out [(2, .r 4), (3, .r 9)]
def e37 : EFn := ⟨(.seq (.reg e37r0 [0] 0) (.seq (.reg e37r1 [0] 0) .ret)), [.slot 2, .slot 3], 14, 0⟩
theorem g37 : Good Tryz.prog 37 e37 := ⟨Tryz.f37, Tryz.func37, by kernel_rfl, by kernel_rfl, by kernel_rfl, by kernel_rfl⟩
/-! (*concord/wal.Wal).Anew -/
def e38r0 : EE := .out [(0, .s 0), (1, .s 1)]
def e38r1 : EE := .q 1 .nl [.s 0] none <|
 .q 2 (.fld 3) [.r 1] none <|
 .q 3 .ld [.r 2] none <|
 .out [(0, .s 0), (1, .s 1), (14, .r 3)]
def e38r2 : EE := .out [(4, .c (.int .i64 10))]
def e38r3 : EE := .q 1 .len [.s 1] none <|
 .x 2 (.call 75) [.c .nsl, .r 1] none [] <|
 .x 3 (.call 74) [.c .nsl, .r 2] none [] <|
 .x 5 (.call 73) [.r 3, .s 1] none [] <|
 .q 7 (.ext 0) [.r 5] none <|
 .q 8 (.ext 1) [.r 5] none <|
 .out [(0, .s 0), (5, .r 7), (6, .r 8)]
def e38r4 : EE := .q 1 .not [.s 6] none <|
 .out [(0, .s 0), (5, .s 5), (25, .r 1)]
def e38r5 : EE := .out [(4, .c (.int .i64 1))]
def e38r6 : EE := .q 1 .nl [.s 0] none <|
 .q 2 (.fld 1) [.r 1] none <|
 .q 3 (.fld 0) [.r 2] none <|
 .q 4 .ld [.r 3] none <|
 .q 5 .geq [.r 4, .c (.int .i64 999999999)] none <|
 .out [(0, .s 0), (5, .s 5), (31, .r 5)]
def e38r7 : EE := .out [(4, .c (.int .i64 7))]
def e38r8 : EE := .q 1 .nl [.s 0] none <|
 .q 2 (.fld 1) [.r 1] none <|
 .q 3 (.fld 0) [.r 2] none <|
 .q 4 .ld [.r 3] none <|
 .q 5 .add [.r 4, .c (.int .i64 1)] none <|
 .q 6 (.bld [z, z] [(0, 1), (1, 1)]) [.r 5, .c (.int .i64 1)] none <|
 .x 7 (.alc [z, z] 149) [] none [] <|
 .x 8 (.st 2) [.r 7, .r 6] none [] <|
 .out [(0, .s 0), (5, .s 5), (7, .r 7)]
def e38r9 : EE := .q 1 (.lda 2) [.s 7] none <|
 .x 3 (.call 76) [.s 0, .r 1, .s 5] none [] <|
 .out [(0, .s 0), (7, .s 7), (8, .r 3)]
def e38r10 : EE := .q 1 .neq [.s 8, .c z] none <|
 .out [(0, .s 0), (7, .s 7), (8, .s 8), (44, .r 1)]
def e38r11 : EE := .out [(4, .s 8)]
def e38r12 : EE := .out [(0, .s 0), (7, .s 7), (9, .c (.int .i64 1))]
def e38r13 : EE := .q 2 .nl [.s 0] none <|
 .q 3 (.fld 1) [.r 2] none <|
 .q 4 (.fld 1) [.r 3] none <|
 .q 5 .ld [.r 4] none <|
 .q 6 .leq [.s 9, .r 5] none <|
 .out [(0, .s 0), (7, .s 7), (9, .s 9), (52, .r 6)]
def e38r14 : EE := .q 1 .nl [.s 0] none <|
 .q 2 (.fld 0) [.r 1] none <|
 .q 3 .ld [.r 2] none <|
 .q 5 .nl [.s 0] none <|
 .q 6 (.fld 1) [.r 5] none <|
 .q 7 (.fld 0) [.r 6] none <|
 .q 8 .ld [.r 7] none <|
 .q 10 (.bld [z, z] [(0, 1), (1, 1)]) [.r 8, .s 9] none <|
 .x 11 (.call 60) [.r 10] none [⟨3, .ld, [.r 2], none⟩] <|
 .x 12 (.call 56) [.r 3, .r 11] none [] <|
 .out [(0, .s 0), (7, .s 7), (9, .s 9), (10, .r 12)]
def e38r15 : EE := .q 1 .neq [.s 10, .c z] none <|
 .out [(0, .s 0), (7, .s 7), (9, .s 9), (10, .s 10), (69, .r 1)]
def e38r16 : EE := .q 1 .nl [.s 0] none <|
 .q 2 (.fld 3) [.r 1] none <|
 .x 3 (.st 1) [.r 2, .c (.bool true)] none [] <|
 .out [(10, .s 10)]
def e38r17 : EE := .out [(4, .s 10)]
def e38r18 : EE := .q 1 .add [.s 9, .c (.int .i64 1)] none <|
 .out [(0, .s 0), (7, .s 7), (9, .r 1)]
def e38l19 : EC := (.seq (.seq (.reg e38r13 [0, 7, 9] 0) (.cond (.s 52) .skip (.exit 0))) (.seq (.block 1 (.seq (.reg e38r14 [0, 7, 9] 0) (.seq (.reg e38r15 [0, 7, 9, 10] 0) (.cond (.s 69) (.seq (.reg e38r16 [0, 10] 0) (.seq (.reg e38r17 [10] 0) .ret)) .skip)))) (.reg e38r18 [0, 7, 9] 0)))
def e38r20 : EE := .q 1 (.lda 2) [.s 7] none <|
 .q 2 .nl [.s 0] none <|
 .q 3 (.fld 1) [.r 2] none <|
 .x 4 (.st 2) [.r 3, .r 1] none [] <|
 .out []
def e38r21 : EE := .out [(4, .c z)]
def e38 : EFn := ⟨(.seq (.reg e38r0 [0, 1] 0) (.seq (.seq (.reg e38r1 [0, 1] 0) (.cond (.s 14) (.seq (.reg e38r2 [] 0) .ret) .skip)) (.seq (.reg e38r3 [0, 1] 0) (.seq (.seq (.reg e38r4 [0, 5, 6] 0) (.cond (.s 25) (.seq (.reg e38r5 [] 0) .ret) .skip)) (.seq (.seq (.reg e38r6 [0, 5] 0) (.cond (.s 31) (.seq (.reg e38r7 [] 0) .ret) .skip)) (.seq (.reg e38r8 [0, 5] 0) (.seq (.seq (.reg e38r9 [0, 5, 7] 0) (.seq (.reg e38r10 [0, 7, 8] 0) (.cond (.s 44) (.seq (.reg e38r11 [8] 0) .ret) .skip))) (.seq (.seq (.reg e38r12 [0, 7] 0) (.block 0 (.loop [0, 7, 9] e38l19))) (.seq (.reg e38r20 [0, 7] 0) (.seq (.reg e38r21 [] 0) .ret)))))))))), [.slot 4], 78, 0⟩
theorem g38 : Good Tryz.prog 38 e38 := ⟨Tryz.f38, Tryz.func38, by kernel_rfl, by kernel_rfl, by kernel_rfl, by kernel_rfl⟩
/-! concord/node.cutRecord -/
def e39r0 : EE := .x 0 (.box 38) [.s 0] none [] <|
 .out [(1, .r 0)]
def e39r1 : EE := .x 0 (.bsl 5 1 [(.int .u8 0)] [(0, 1)]) [.c (.int .u8 1)] none [] <|
 .out [(1, .s 1), (3, .r 0)]
def e39r2 : EE := .q 0 (.lda 7) [.s 1] none <|
 .out [(3, .s 3), (7, .r 0), (8, .c z)]
def e39r3 : EE := .q 0 .lss [.s 8, .c (.int .i64 7)] none <|
 .out [(3, .s 3), (7, .s 7), (8, .s 8), (9, .r 0)]
def e39r4 : EE := .q 0 (.idx 7 1) [.s 7, .s 8] none <|
 .out [(3, .s 3), (5, .r 0), (7, .s 7), (8, .s 8)]
def e39r5 : EE := .x 2 (.call 75) [.s 3, .s 5] none [] <|
 .out [(3, .r 2), (7, .s 7), (8, .s 8)]
def e39r6 : EE := .q 0 .add [.s 8, .c (.int .i64 1)] none <|
 .out [(3, .s 3), (7, .s 7), (8, .r 0)]
def e39l7 : EC := (.seq (.reg e39r3 [3, 7, 8] 0) (.seq (.cond (.s 9) .skip (.exit 0)) (.seq (.block 1 (.seq (.reg e39r4 [3, 7, 8] 0) (.reg e39r5 [3, 5, 7, 8] 0))) (.reg e39r6 [3, 7, 8] 0))))
def e39r8 : EE := .out [(2, .s 3)]
def e39 : EFn := ⟨(.seq (.reg e39r0 [0] 0) (.seq (.reg e39r1 [1] 0) (.seq (.seq (.reg e39r2 [1, 3] 0) (.block 0 (.loop [3, 7, 8] e39l7))) (.seq (.reg e39r8 [3] 0) .ret)))), [.slot 2], 16, 0⟩
theorem g39 : Good Tryz.prog 39 e39 := ⟨Tryz.f39, Tryz.func39, by kernel_rfl, by kernel_rfl, by kernel_rfl, by kernel_rfl⟩
/-! (*concord/front.Fronts).Hear -/
def e40r0 : EE := .x 0 (.box 38) [.s 2] none [] <|
 .out [(0, .s 0), (1, .s 1), (5, .r 0)]
def e40r1 : EE := .q 1 .lss [.s 1, .c z] none <|
 .q 3 .mv [.s 1] (some (.r 1, false)) <|
 .q 4 .mv [.s 0] (some (.r 1, false)) <|
 .q 5 .nl [.r 4] (some (.r 1, false)) <|
 .q 6 (.fld 0) [.r 5] (some (.r 1, false)) <|
 .q 7 .ld [.r 6] (some (.r 1, false)) <|
 .q 8 .geq [.r 3, .r 7] (some (.r 1, false)) <|
 .q 9 .pick [.r 1, .c (.bool true), .r 8] none <|
 .q 11 (.lda 7) [.s 5] (some (.r 9, false)) <|
 .q 12 (.bld [z, z, z, z, z, z, z, z] [(1, 7)]) [.r 11] (some (.r 9, false)) <|
 .x 13 (.call 66) [.r 12] (some (.r 9, false)) [] <|
 .q 14 .not [.r 13] (some (.r 9, false)) <|
 .q 15 .pick [.r 9, .c (.bool true), .r 14] none <|
 .out [(0, .s 0), (1, .s 1), (5, .s 5), (24, .r 15)]
def e40r2 : EE := .out [(6, .c (.bool false))]
def e40r3 : EE := .q 0 (.lda 7) [.s 5] none <|
 .out [(0, .s 0), (1, .s 1), (25, .r 0), (26, .c z)]
def e40r4 : EE := .q 0 .lss [.s 26, .c (.int .i64 7)] none <|
 .out [(0, .s 0), (1, .s 1), (25, .s 25), (26, .s 26), (27, .r 0)]
def e40r5 : EE := .q 1 (.idx 7 1) [.s 25, .s 26] none <|
 .out [(0, .s 0), (1, .s 1), (7, .s 26), (8, .r 1), (25, .s 25), (26, .s 26)]
def e40r6 : EE := .q 6 .nl [.s 0] none <|
 .q 7 (.fld 2) [.r 6] none <|
 .q 8 (.ixa 7 7) [.r 7, .s 1] none <|
 .q 9 (.ixa 7 1) [.r 8, .s 7] none <|
 .q 10 .ld [.r 9] none <|
 .q 12 .mx [.r 10, .s 8] none <|
 .q 13 .nl [.s 0] none <|
 .q 14 (.fld 2) [.r 13] none <|
 .q 15 (.ixa 7 7) [.r 14, .s 1] none <|
 .q 16 (.ixa 7 1) [.r 15, .s 7] none <|
 .x 17 (.st 1) [.r 16, .r 12] none [] <|
 .out [(0, .s 0), (1, .s 1), (25, .s 25), (26, .s 26)]
def e40r7 : EE := .q 0 .add [.s 26, .c (.int .i64 1)] none <|
 .out [(0, .s 0), (1, .s 1), (25, .s 25), (26, .r 0)]
def e40l8 : EC := (.seq (.reg e40r4 [0, 1, 25, 26] 0) (.seq (.cond (.s 27) .skip (.exit 0)) (.seq (.block 1 (.seq (.reg e40r5 [0, 1, 25, 26] 0) (.reg e40r6 [0, 1, 7, 8, 25, 26] 0))) (.reg e40r7 [0, 1, 25, 26] 0))))
def e40r9 : EE := .out [(6, .c (.bool true))]
def e40 : EFn := ⟨(.seq (.reg e40r0 [0, 1, 2] 0) (.seq (.seq (.reg e40r1 [0, 1, 5] 0) (.cond (.s 24) (.seq (.reg e40r2 [] 0) .ret) .skip)) (.seq (.seq (.reg e40r3 [0, 1, 5] 0) (.block 0 (.loop [0, 1, 25, 26] e40l8))) (.seq (.reg e40r9 [] 0) .ret)))), [.slot 6], 48, 0⟩
theorem g40 : Good Tryz.prog 40 e40 := ⟨Tryz.f40, Tryz.func40, by kernel_rfl, by kernel_rfl, by kernel_rfl, by kernel_rfl⟩
/-! (*concord/node.Node).settle -/
def e41r0 : EE := .q 1 .nl [.s 0] none <|
 .q 2 (.fld 74) [.r 1] none <|
 .q 3 .ld [.r 2] none <|
 .q 5 .mv [.s 0] (some (.r 3, false)) <|
 .x 6 (.call 77) [.r 5] (some (.r 3, false)) [] <|
 .q 7 .not [.r 6] (some (.r 3, false)) <|
 .q 8 .pick [.r 3, .c (.bool true), .r 7] none <|
 .out [(0, .s 0), (10, .r 8)]
def e41r1 : EE := .x 1 (.call 78) [.s 0] none [] <|
 .out [(0, .s 0)]
def e41r2 : EE := .x 1 (.call 79) [.s 0] none [] <|
 .out [(0, .s 0)]
def e41r3 : EE := .q 1 .nl [.s 0] none <|
 .q 2 (.fld 69) [.r 1] none <|
 .q 3 .ld [.r 2] none <|
 .q 4 .geq [.r 3, .c (.int .i64 8)] none <|
 .q 6 .mv [.s 0] (some (.r 4, true)) <|
 .q 7 .mv [.s 0] (some (.r 4, true)) <|
 .q 8 .nl [.r 7] (some (.r 4, true)) <|
 .q 9 (.fld 55) [.r 8] (some (.r 4, true)) <|
 .q 10 (.lda 7) [.r 9] (some (.r 4, true)) <|
 .q 11 .mv [.s 0] (some (.r 4, true)) <|
 .q 12 .nl [.r 11] (some (.r 4, true)) <|
 .q 13 (.fld 6) [.r 12] (some (.r 4, true)) <|
 .q 14 (.lda 49) [.r 13] (some (.r 4, true)) <|
 .x 15 (.call 81) [.r 10, .r 14] (some (.r 4, true)) [] <|
 .x 16 (.call 80) [.r 6, .r 15] (some (.r 4, true)) [] <|
 .q 17 .not [.r 16] (some (.r 4, true)) <|
 .q 18 .pick [.r 4, .r 17, .c (.bool false)] none <|
 .out [(0, .s 0), (33, .r 18)]
def e41r4 : EE := .x 1 (.call 82) [.s 0] none [] <|
 .out []
def e41 : EFn := ⟨(.seq (.seq (.reg e41r0 [0] 0) (.cond (.s 10) .ret .skip)) (.seq (.reg e41r1 [0] 0) (.seq (.reg e41r2 [0] 0) (.seq (.seq (.reg e41r3 [0] 0) (.cond (.s 33) .ret .skip)) (.reg e41r4 [0] 0))))), [], 36, 0⟩
theorem g41 : Good Tryz.prog 41 e41 := ⟨Tryz.f41, Tryz.func41, by kernel_rfl, by kernel_rfl, by kernel_rfl, by kernel_rfl⟩
/-! (*concord/node.Node).Out -/
def e42r0 : EE := .out [(0, .s 0)]
def e42r1 : EE := .q 1 .nl [.s 0] none <|
 .q 2 (.fld 72) [.r 1] none <|
 .q 3 .ld [.r 2] none <|
 .q 5 .nl [.s 0] none <|
 .q 6 (.fld 73) [.r 5] none <|
 .q 7 .ld [.r 6] none <|
 .out [(0, .s 0), (4, .r 3), (5, .r 7)]
def e42r2 : EE := .q 2 .nl [.s 0] none <|
 .q 3 (.fld 72) [.r 2] none <|
 .x 4 (.st 1) [.r 3, .c .nsl] none [] <|
 .q 5 .nl [.s 0] none <|
 .q 6 (.fld 73) [.r 5] none <|
 .x 7 (.st 1) [.r 6, .c .nsl] none [] <|
 .out [(4, .s 4), (5, .s 5)]
def e42r3 : EE := .out [(2, .s 4), (3, .s 5)]
def e42 : EFn := ⟨(.seq (.reg e42r0 [0] 0) (.seq (.reg e42r1 [0] 0) (.seq (.reg e42r2 [0, 4, 5] 0) (.seq (.reg e42r3 [4, 5] 0) .ret)))), [.slot 2, .slot 3], 22, 0⟩
theorem g42 : Good Tryz.prog 42 e42 := ⟨Tryz.f42, Tryz.func42, by kernel_rfl, by kernel_rfl, by kernel_rfl, by kernel_rfl⟩
/-! concord/cluster.known -/
def e43r0 : EE := .out [(0, .s 0)]
def e43r1 : EE := .q 1 .geq [.s 0, .c (.int .i64 1)] none <|
 .q 3 .mv [.s 0] (some (.r 1, true)) <|
 .q 4 .leq [.r 3, .c (.int .i64 8)] (some (.r 1, true)) <|
 .q 5 .pick [.r 1, .r 4, .c (.bool false)] none <|
 .out [(2, .r 5)]
def e43 : EFn := ⟨(.seq (.reg e43r0 [0] 0) (.seq (.reg e43r1 [0] 0) .ret)), [.slot 2], 9, 0⟩
theorem g43 : Good Tryz.prog 43 e43 := ⟨Tryz.f43, Tryz.func43, by kernel_rfl, by kernel_rfl, by kernel_rfl, by kernel_rfl⟩
/-! (*concord/client.Client).Tell -/
def e44r0 : EE := .x 0 (.box 119) [.s 1] none [] <|
 .out [(0, .s 0), (3, .r 0)]
def e44r1 : EE := .q 1 .nl [.s 0] none <|
 .q 2 (.fld 9) [.r 1] none <|
 .q 3 .ld [.r 2] none <|
 .q 4 .not [.r 3] none <|
 .q 6 (.fld 0) [.s 3] (some (.r 4, false)) <|
 .q 7 .ld [.r 6] (some (.r 4, false)) <|
 .q 8 .mv [.s 0] (some (.r 4, false)) <|
 .q 9 .nl [.r 8] (some (.r 4, false)) <|
 .q 10 (.fld 0) [.r 9] (some (.r 4, false)) <|
 .q 11 .ld [.r 10] (some (.r 4, false)) <|
 .q 12 .neq [.r 7, .r 11] (some (.r 4, false)) <|
 .q 13 .pick [.r 4, .c (.bool true), .r 12] none <|
 .q 15 (.fld 1) [.s 3] (some (.r 13, false)) <|
 .q 16 .ld [.r 15] (some (.r 13, false)) <|
 .q 17 .mv [.s 0] (some (.r 13, false)) <|
 .q 18 .nl [.r 17] (some (.r 13, false)) <|
 .q 19 (.fld 1) [.r 18] (some (.r 13, false)) <|
 .q 20 .ld [.r 19] (some (.r 13, false)) <|
 .q 21 .neq [.r 16, .r 20] (some (.r 13, false)) <|
 .q 22 .pick [.r 13, .c (.bool true), .r 21] none <|
 .out [(0, .s 0), (27, .r 22)]
def e44r2 : EE := .out [(4, .c (.bool false))]
def e44r3 : EE := .q 1 .nl [.s 0] none <|
 .q 2 (.fld 9) [.r 1] none <|
 .x 3 (.st 1) [.r 2, .c (.bool false)] none [] <|
 .out []
def e44r4 : EE := .out [(4, .c (.bool true))]
def e44 : EFn := ⟨(.seq (.reg e44r0 [0, 1] 0) (.seq (.seq (.reg e44r1 [0, 3] 0) (.cond (.s 27) (.seq (.reg e44r2 [] 0) .ret) .skip)) (.seq (.reg e44r3 [0] 0) (.seq (.reg e44r4 [] 0) .ret)))), [.slot 4], 31, 0⟩
theorem g44 : Good Tryz.prog 44 e44 := ⟨Tryz.f44, Tryz.func44, by kernel_rfl, by kernel_rfl, by kernel_rfl, by kernel_rfl⟩
/-! (*concord/client.Client).Begin -/
def e45r0 : EE := .x 0 (.box 30) [.s 1] none [] <|
 .x 1 (.alc [z, z, z, zs, zs, zs, zs] 30) [] none [] <|
 .out [(0, .s 0), (2, .s 2), (4, .r 0), (6, .r 1)]
def e45r1 : EE := .q 1 .nl [.s 0] none <|
 .q 2 (.fld 0) [.r 1] none <|
 .q 3 .ld [.r 2] none <|
 .q 5 .nl [.s 0] none <|
 .q 6 (.fld 1) [.r 5] none <|
 .q 7 .ld [.r 6] none <|
 .q 8 .add [.r 7, .c (.int .i64 1)] none <|
 .q 9 (.fld 1) [.s 4] none <|
 .x 10 (.st 1) [.r 9, .r 3] none [⟨7, .ld, [.r 6], none⟩] <|
 .q 11 (.fld 2) [.s 4] none <|
 .x 12 (.st 1) [.r 11, .r 8] none [] <|
 .out [(0, .s 0), (2, .s 2), (4, .s 4), (6, .s 6)]
def e45r2 : EE := .q 1 .nl [.s 0] none <|
 .q 2 (.fld 9) [.r 1] none <|
 .q 3 .ld [.r 2] none <|
 .q 5 (.lda 7) [.s 4] (some (.r 3, false)) <|
 .x 6 (.call 83) [.r 5] (some (.r 3, false)) [] <|
 .q 7 .not [.r 6] (some (.r 3, false)) <|
 .q 8 .pick [.r 3, .c (.bool true), .r 7] none <|
 .q 10 (.fld 0) [.s 4] (some (.r 8, false)) <|
 .q 11 .ld [.r 10] (some (.r 8, false)) <|
 .q 12 .eql [.r 11, .c z] (some (.r 8, false)) <|
 .q 13 .pick [.r 8, .c (.bool true), .r 12] none <|
 .q 15 .mv [.s 2] (some (.r 13, false)) <|
 .q 16 .lss [.r 15, .c z] (some (.r 13, false)) <|
 .q 17 .pick [.r 13, .c (.bool true), .r 16] none <|
 .q 19 .mv [.s 2] (some (.r 17, false)) <|
 .q 20 .geq [.r 19, .c (.int .i64 7)] (some (.r 17, false)) <|
 .q 21 .pick [.r 17, .c (.bool true), .r 20] none <|
 .out [(0, .s 0), (2, .s 2), (4, .s 4), (6, .s 6), (40, .r 21)]
def e45r3 : EE := .q 0 (.bld [z, z, z, zs, zs, zs, zs] []) [] none <|
 .x 1 (.st 7) [.s 6, .r 0] none [] <|
 .out [(6, .s 6), (7, .c (.bool false))]
def e45r4 : EE := .q 5 (.fld 2) [.s 4] none <|
 .q 6 .ld [.r 5] none <|
 .q 7 (.lda 7) [.s 4] none <|
 .q 9 .nl [.s 0] none <|
 .q 10 (.fld 1) [.r 9] none <|
 .x 11 (.st 1) [.r 10, .r 6] none [⟨7, (.lda 7), [.s 4], none⟩] <|
 .q 12 .nl [.s 0] none <|
 .q 13 (.fld 2) [.r 12] none <|
 .x 14 (.st 7) [.r 13, .r 7] none [] <|
 .q 15 .nl [.s 0] none <|
 .q 16 (.fld 9) [.r 15] none <|
 .x 17 (.st 1) [.r 16, .c (.bool true)] none [] <|
 .q 18 .nl [.s 0] none <|
 .q 19 (.fld 10) [.r 18] none <|
 .x 20 (.st 1) [.r 19, .s 2] none [] <|
 .q 21 .nl [.s 0] none <|
 .q 22 (.fld 11) [.r 21] none <|
 .x 23 (.st 1) [.r 22, .c z] none [] <|
 .out [(4, .s 4), (6, .s 6)]
def e45r5 : EE := .q 0 (.lda 7) [.s 4] none <|
 .x 1 (.st 7) [.s 6, .r 0] none [] <|
 .out [(6, .s 6), (7, .c (.bool true))]
def e45 : EFn := ⟨(.seq (.reg e45r0 [0, 1, 2] 0) (.seq (.reg e45r1 [0, 2, 4, 6] 0) (.seq (.seq (.reg e45r2 [0, 2, 4, 6] 0) (.cond (.s 40) (.seq (.reg e45r3 [6] 0) .ret) .skip)) (.seq (.reg e45r4 [0, 2, 4, 6] 0) (.seq (.reg e45r5 [4, 6] 0) .ret))))), [.cells 6 7, .slot 7], 62, 0⟩
theorem g45 : Good Tryz.prog 45 e45 := ⟨Tryz.f45, Tryz.func45, by kernel_rfl, by kernel_rfl, by kernel_rfl, by kernel_rfl⟩
/-! (*concord/cluster.Cluster).comes -/
def e46r0 : EE := .x 0 (.box 30) [.s 1] none [] <|
 .out [(0, .s 0), (2, .s 2), (4, .r 0)]
def e46r1 : EE := .x 2 (.call 9) [.s 0, .s 2] none [] <|
 .out [(0, .s 0), (2, .s 2), (4, .s 4), (6, .r 2)]
def e46r2 : EE := .q 1 (.eqp true) [.s 6, .c .nptr] none <|
 .out [(0, .s 0), (2, .s 2), (4, .s 4), (6, .s 6), (11, .r 1)]
def e46r3 : EE := .q 1 (.lda 7) [.s 4] none <|
 .x 2 (.call 84) [.s 6, .r 1] none [] <|
 .out [(0, .s 0), (2, .s 2)]
def e46r4 : EE := .x 2 (.call 18) [.s 0, .s 2] none [] <|
 .out []
def e46 : EFn := ⟨(.seq (.reg e46r0 [0, 1, 2] 0) (.seq (.reg e46r1 [0, 2, 4] 0) (.seq (.reg e46r2 [0, 2, 4, 6] 0) (.cond (.s 11) (.seq (.reg e46r3 [0, 2, 4, 6] 0) (.reg e46r4 [0, 2] 0)) .skip)))), [], 18, 0⟩
theorem g46 : Good Tryz.prog 46 e46 := ⟨Tryz.f46, Tryz.func46, by kernel_rfl, by kernel_rfl, by kernel_rfl, by kernel_rfl⟩
/-! slices.Delete[[]concord/api.Letter,concord/api.Letter] -/
def e47r0 : EE := .out [(0, .s 0), (1, .s 1), (2, .s 2)]
def e47r1 : EE := .q 4 .len [.s 0] none <|
 .q 5 (.slc3 51 true) [.s 0, .s 1, .s 2, .r 4] none <|
 .out [(0, .s 0), (1, .s 1), (2, .s 2)]
def e47r2 : EE := .q 2 .eql [.s 1, .s 2] none <|
 .out [(0, .s 0), (1, .s 1), (2, .s 2), (16, .r 2)]
def e47r3 : EE := .out [(6, .s 0)]
def e47r4 : EE := .q 1 .len [.s 0] none <|
 .out [(0, .s 0), (1, .s 1), (2, .s 2), (7, .r 1)]
def e47r5 : EE := .q 2 (.slc 51 false true) [.s 0, .s 1] none <|
 .q 5 (.slc 51 true false) [.s 0, .s 2] none <|
 .x 6 (.app 88 51 480 [z, z, z, z, z, z, z, z, z, z, zs, zs, zs, zs, z, z, z, z, z, z, z, z, z, z, z, z, z, z, z, z, zs, zs, zs, zs, z, z, z, z, z, z, z, z, (.bool false), z, z, z, z, z, z, z, zs]) [.r 2, .r 5] none [] <|
 .out [(0, .r 6), (7, .s 7)]
def e47r6 : EE := .q 2 .len [.s 0] none <|
 .q 4 (.slc 51 true true) [.s 0, .r 2, .s 7] none <|
 .x 5 (.clr [z, z, z, z, z, z, z, z, z, z, zs, zs, zs, zs, z, z, z, z, z, z, z, z, z, z, z, z, z, z, z, z, zs, zs, zs, zs, z, z, z, z, z, z, z, z, (.bool false), z, z, z, z, z, z, z, zs]) [.r 4] none [] <|
 .out [(0, .s 0)]
def e47r7 : EE := .out [(6, .s 0)]
def e47 : EFn := ⟨(.seq (.reg e47r0 [0, 1, 2] 0) (.seq (.reg e47r1 [0, 1, 2] 0) (.seq (.seq (.reg e47r2 [0, 1, 2] 0) (.cond (.s 16) (.seq (.reg e47r3 [0] 0) .ret) .skip)) (.seq (.reg e47r4 [0, 1, 2] 0) (.seq (.reg e47r5 [0, 1, 2, 7] 0) (.seq (.reg e47r6 [0, 7] 0) (.seq (.reg e47r7 [0] 0) .ret))))))), [.slot 6], 33, 0⟩
theorem g47 : Good Tryz.prog 47 e47 := ⟨Tryz.f47, Tryz.func47, by kernel_rfl, by kernel_rfl, by kernel_rfl, by kernel_rfl⟩
/-! (*concord/node.Node).Take -/
def e48r0 : EE := .x 0 (.box 88) [.s 1] none [] <|
 .out [(0, .s 0), (3, .r 0)]
def e48r1 : EE := .q 1 .nl [.s 0] none <|
 .q 2 (.fld 74) [.r 1] none <|
 .q 3 .ld [.r 2] none <|
 .q 5 (.lda 51) [.s 3] (some (.r 3, false)) <|
 .x 6 (.call 85) [.r 5] (some (.r 3, false)) [] <|
 .q 7 .not [.r 6] (some (.r 3, false)) <|
 .q 8 .pick [.r 3, .c (.bool true), .r 7] none <|
 .q 10 (.fld 2) [.s 3] (some (.r 8, false)) <|
 .q 11 .ld [.r 10] (some (.r 8, false)) <|
 .q 12 .mv [.s 0] (some (.r 8, false)) <|
 .q 13 .nl [.r 12] (some (.r 8, false)) <|
 .q 14 (.fld 1) [.r 13] (some (.r 8, false)) <|
 .q 15 .ld [.r 14] (some (.r 8, false)) <|
 .q 16 .neq [.r 11, .r 15] (some (.r 8, false)) <|
 .q 17 .pick [.r 8, .c (.bool true), .r 16] none <|
 .q 19 (.fld 1) [.s 3] (some (.r 17, false)) <|
 .q 20 .ld [.r 19] (some (.r 17, false)) <|
 .q 21 .mv [.s 0] (some (.r 17, false)) <|
 .q 22 .nl [.r 21] (some (.r 17, false)) <|
 .q 23 (.fld 0) [.r 22] (some (.r 17, false)) <|
 .q 24 .ld [.r 23] (some (.r 17, false)) <|
 .q 25 .geq [.r 20, .r 24] (some (.r 17, false)) <|
 .q 26 .pick [.r 17, .c (.bool true), .r 25] none <|
 .out [(0, .s 0), (3, .s 3), (31, .r 26)]
def e48r2 : EE := .out [(4, .c (.bool false))]
def e48r3 : EE := .q 0 (.fld 0) [.s 3] none <|
 .q 1 .ld [.r 0] none <|
 .out [(0, .s 0), (3, .s 3), (33, .r 1)]
def e48r4 : EE := .q 0 .eql [.s 33, .c (.int .i64 9)] none <|
 .out [(0, .s 0), (3, .s 3), (33, .s 33), (44, .r 0)]
def e48r5 : EE := .q 1 .nl [.s 0] none <|
 .q 2 (.fld 5) [.r 1] none <|
 .q 3 .ld [.r 2] none <|
 .q 4 (.fld 1) [.s 3] none <|
 .q 5 .ld [.r 4] none <|
 .q 6 (.fld 43) [.s 3] none <|
 .q 7 (.lda 7) [.r 6] none <|
 .x 8 (.call 40) [.r 3, .r 5, .r 7] none [] <|
 .out [(0, .s 0)]
def e48r6 : EE := .q 0 .eql [.s 33, .c (.int .i64 11)] none <|
 .out [(0, .s 0), (3, .s 3), (33, .s 33), (55, .r 0)]
def e48r7 : EE := .q 1 (.lda 51) [.s 3] none <|
 .x 2 (.call 86) [.s 0, .r 1] none [] <|
 .out [(0, .s 0)]
def e48r8 : EE := .q 0 .eql [.s 33, .c (.int .i64 10)] none <|
 .out [(0, .s 0), (3, .s 3), (60, .r 0)]
def e48r9 : EE := .q 1 (.fld 50) [.s 3] none <|
 .q 2 .ld [.r 1] none <|
 .x 3 (.s2b 5) [.r 2] none [] <|
 .x 4 (.call 87) [.s 0, .r 3] none [] <|
 .out [(0, .s 0)]
def e48r10 : EE := .q 1 .nl [.s 0] none <|
 .q 2 (.fld 4) [.r 1] none <|
 .q 3 .ld [.r 2] none <|
 .q 4 (.lda 51) [.s 3] none <|
 .x 5 (.call 88) [.r 3, .r 4] none [] <|
 .out [(0, .s 0), (3, .s 3), (39, .r 5)]
def e48r11 : EE := .q 1 (.fld 1) [.s 3] none <|
 .q 2 .ld [.r 1] none <|
 .x 3 (.call 89) [.s 0, .r 2] none [] <|
 .out [(0, .s 0)]
def e48r12 : EE := .x 1 (.call 41) [.s 0] none [] <|
 .out []
def e48r13 : EE := .out [(4, .c (.bool true))]
def e48 : EFn := ⟨(.seq (.reg e48r0 [0, 1] 0) (.seq (.seq (.reg e48r1 [0, 3] 0) (.cond (.s 31) (.seq (.reg e48r2 [] 0) .ret) .skip)) (.seq (.seq (.reg e48r3 [0, 3] 0) (.block 0 (.seq (.reg e48r4 [0, 3, 33] 0) (.cond (.s 44) (.reg e48r5 [0, 3] 0) (.seq (.reg e48r6 [0, 3, 33] 0) (.cond (.s 55) (.reg e48r7 [0, 3] 0) (.seq (.reg e48r8 [0, 3, 33] 0) (.cond (.s 60) (.reg e48r9 [0, 3] 0) (.seq (.reg e48r10 [0, 3] 0) (.cond (.s 39) (.reg e48r11 [0, 3] 0) .skip)))))))))) (.seq (.reg e48r12 [0] 0) (.seq (.reg e48r13 [] 0) .ret))))), [.slot 4], 69, 0⟩
theorem g48 : Good Tryz.prog 48 e48 := ⟨Tryz.f48, Tryz.func48, by kernel_rfl, by kernel_rfl, by kernel_rfl, by kernel_rfl⟩
/-! slices.Clone[[]byte,byte] -/
def e51r0 : EE := .out [(0, .s 0)]
def e51r1 : EE := .q 1 (.eqs false) [.s 0, .c .nsl] none <|
 .out [(0, .s 0), (4, .r 1)]
def e51r2 : EE := .out [(2, .c .nsl)]
def e51r3 : EE := .x 0 (.bsl 5 0 [] []) [] none [] <|
 .x 2 (.app 5 1 1 [(.int .u8 0)]) [.r 0, .s 0] none [] <|
 .out [(2, .r 2)]
def e51 : EFn := ⟨(.seq (.reg e51r0 [0] 0) (.seq (.seq (.reg e51r1 [0] 0) (.cond (.s 4) (.seq (.reg e51r2 [] 0) .ret) .skip)) (.seq (.reg e51r3 [0] 0) .ret))), [.slot 2], 8, 0⟩
theorem g51 : Good Tryz.prog 51 e51 := ⟨Tryz.f51, Tryz.func51, by kernel_rfl, by kernel_rfl, by kernel_rfl, by kernel_rfl⟩
end Go.Ev
