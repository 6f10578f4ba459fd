import Derived.Test.YtnaphfnckjjmiaaGreatEvB
import Derived.Test.YtnaphfnckjjmiaaGreatProg
set_option linter.unusedVariables false
namespace Go.Ev
open Go.Fw Go.Proofs
/-! concord/concordlaw18.CoreRuns -/
def e3r0 : EE := .out []
def e3r1 : EE := .x 0 (.call 4) [] none [] <|
 .out [(1, .r 0)]
def e3r2 : EE := .q 1 (.eqs false) [.s 1, .c .nsl] none <|
 .out [(1, .s 1), (17, .r 1)]
def e3r3 : EE := .out [(0, .c (.bool false))]
def e3r4 : EE := .q 1 (.ixs 1) [.s 1, .c z] none <|
 .q 2 .ld [.r 1] none <|
 .both false
 (.x 3 (.call 6) [.c (.int .i64 1), .c (.int .i64 1), .c (.str [97])] none [⟨2, .ld, [.r 1], none⟩] <|
 .both false
 (.x 4 (.call 5) [.r 2, .r 3] none [] <|
 .q 6 (.ext 0) [.r 4] none <|
 .q 7 (.ext 1) [.r 4] none <|
 .x 8 (.alc [z, z] 25) [] none [⟨2, .ld, [.r 1], none⟩] <|
 .x 9 (.st 2) [.r 8, .r 6] none [] <|
 .out [(1, .s 1), (2, .r 8), (3, .r 7)])
 (.x 8 (.alc [z, z] 25) [] none [⟨2, .ld, [.r 1], none⟩] <|
 .x 4 (.call 5) [.r 2, .r 3] none [] <|
 .q 6 (.ext 0) [.r 4] none <|
 .q 7 (.ext 1) [.r 4] none <|
 .x 9 (.st 2) [.r 8, .r 6] none [] <|
 .out [(1, .s 1), (2, .r 8), (3, .r 7)]))
 (.x 8 (.alc [z, z] 25) [] none [⟨2, .ld, [.r 1], none⟩] <|
 .x 3 (.call 6) [.c (.int .i64 1), .c (.int .i64 1), .c (.str [97])] none [⟨2, .ld, [.r 1], none⟩] <|
 .x 4 (.call 5) [.r 2, .r 3] none [] <|
 .q 6 (.ext 0) [.r 4] none <|
 .q 7 (.ext 1) [.r 4] none <|
 .x 9 (.st 2) [.r 8, .r 6] none [] <|
 .out [(1, .s 1), (2, .r 8), (3, .r 7)])
def e3r5 : EE := .q 1 (.ixs 1) [.s 1, .c z] none <|
 .q 2 .ld [.r 1] none <|
 .q 4 (.ixs 1) [.s 1, .c (.int .i64 1)] none <|
 .q 5 .ld [.r 4] none <|
 .x 6 (.call 7) [.r 2, .r 5, .c (.int .i64 1)] none [] <|
 .out [(1, .s 1), (2, .s 2), (3, .s 3)]
def e3r6 : EE := .q 1 (.ixs 1) [.s 1, .c (.int .i64 1)] none <|
 .q 2 .ld [.r 1] none <|
 .q 4 (.ixs 1) [.s 1, .c z] none <|
 .q 5 .ld [.r 4] none <|
 .x 6 (.call 7) [.r 2, .r 5, .c z] none [] <|
 .out [(1, .s 1), (2, .s 2), (3, .s 3)]
def e3r7 : EE := .q 1 (.ixs 1) [.s 1, .c z] none <|
 .q 2 .ld [.r 1] none <|
 .q 3 (.lda 2) [.s 2] none <|
 .both false
 (.x 4 (.call 8) [.r 2, .r 3] none [] <|
 .q 6 (.ext 0) [.r 4] none <|
 .q 7 (.ext 1) [.r 4] none <|
 .x 8 (.alc [z, z, z, z, z, z, z, z, zs, zs, zs, zs, z, z, z, z, z, z, z, z, (.bool false)] 41) [] none [⟨2, .ld, [.r 1], none⟩, ⟨3, (.lda 2), [.s 2], none⟩] <|
 .x 9 (.st 21) [.r 8, .r 6] none [] <|
 .out [(1, .s 1), (2, .s 2), (3, .s 3), (4, .r 8)])
 (.x 8 (.alc [z, z, z, z, z, z, z, z, zs, zs, zs, zs, z, z, z, z, z, z, z, z, (.bool false)] 41) [] none [⟨2, .ld, [.r 1], none⟩, ⟨3, (.lda 2), [.s 2], none⟩] <|
 .x 4 (.call 8) [.r 2, .r 3] none [] <|
 .q 6 (.ext 0) [.r 4] none <|
 .q 7 (.ext 1) [.r 4] none <|
 .x 9 (.st 21) [.r 8, .r 6] none [] <|
 .out [(1, .s 1), (2, .s 2), (3, .s 3), (4, .r 8)])
def e3r8 : EE := .q 1 (.ixs 1) [.s 1, .c (.int .i64 1)] none <|
 .q 2 .ld [.r 1] none <|
 .q 3 (.lda 2) [.s 2] none <|
 .both false
 (.x 4 (.call 8) [.r 2, .r 3] none [] <|
 .q 6 (.ext 0) [.r 4] none <|
 .q 7 (.ext 1) [.r 4] none <|
 .x 8 (.alc [z, z, z, z, z, z, z, z, zs, zs, zs, zs, z, z, z, z, z, z, z, z, (.bool false)] 41) [] none [⟨2, .ld, [.r 1], none⟩, ⟨3, (.lda 2), [.s 2], none⟩] <|
 .x 9 (.st 21) [.r 8, .r 6] none [] <|
 .out [(1, .s 1), (2, .s 2), (3, .s 3), (4, .s 4), (6, .r 8)])
 (.x 8 (.alc [z, z, z, z, z, z, z, z, zs, zs, zs, zs, z, z, z, z, z, z, z, z, (.bool false)] 41) [] none [⟨2, .ld, [.r 1], none⟩, ⟨3, (.lda 2), [.s 2], none⟩] <|
 .x 4 (.call 8) [.r 2, .r 3] none [] <|
 .q 6 (.ext 0) [.r 4] none <|
 .q 7 (.ext 1) [.r 4] none <|
 .x 9 (.st 21) [.r 8, .r 6] none [] <|
 .out [(1, .s 1), (2, .s 2), (3, .s 3), (4, .s 4), (6, .r 8)])
def e3r9 : EE := .q 1 (.ixs 1) [.s 1, .c z] none <|
 .q 2 .ld [.r 1] none <|
 .q 4 (.ixs 1) [.s 1, .c z] none <|
 .q 5 .ld [.r 4] none <|
 .x 6 (.call 7) [.r 2, .r 5, .c z] none [] <|
 .out [(1, .s 1), (2, .s 2), (3, .s 3), (4, .s 4), (6, .s 6), (8, .r 6)]
def e3r10 : EE := .q 1 .not [.s 3] none <|
 .q 3 (.lda 2) [.s 2] (some (.r 1, false)) <|
 .q 4 (.bld [z, z] [(1, 1)]) [.c (.int .i64 1)] (some (.r 1, false)) <|
 .q 5 (.eqc true [(.i .i64), (.i .i64)]) [.r 3, .r 4] (some (.r 1, false)) <|
 .q 6 .pick [.r 1, .c (.bool true), .r 5] none <|
 .q 8 (.fld 0) [.s 4] (some (.r 6, false)) <|
 .q 9 .ld [.r 8] (some (.r 6, false)) <|
 .q 10 .neq [.r 9, .c (.int .i64 3)] (some (.r 6, false)) <|
 .q 11 .pick [.r 6, .c (.bool true), .r 10] none <|
 .q 13 (.fld 0) [.s 6] (some (.r 11, false)) <|
 .q 14 .ld [.r 13] (some (.r 11, false)) <|
 .q 15 .neq [.r 14, .c (.int .i64 1)] (some (.r 11, false)) <|
 .q 16 .pick [.r 11, .c (.bool true), .r 15] none <|
 .q 18 (.fld 20) [.s 6] (some (.r 16, false)) <|
 .q 19 .ld [.r 18] (some (.r 16, false)) <|
 .q 20 .not [.r 19] (some (.r 16, false)) <|
 .q 21 .pick [.r 16, .c (.bool true), .r 20] none <|
 .q 23 .mv [.s 8] (some (.r 21, false)) <|
 .q 24 .len [.r 23] (some (.r 21, false)) <|
 .q 25 .neq [.r 24, .c (.int .i64 2)] (some (.r 21, false)) <|
 .q 26 .pick [.r 21, .c (.bool true), .r 25] none <|
 .q 28 .mv [.s 8] (some (.r 26, false)) <|
 .q 29 (.ixs 51) [.r 28, .c z] (some (.r 26, false)) <|
 .q 30 (.fld 0) [.r 29] (some (.r 26, false)) <|
 .q 31 .ld [.r 30] (some (.r 26, false)) <|
 .q 32 .neq [.r 31, .c (.int .i64 5)] (some (.r 26, false)) <|
 .q 33 .pick [.r 26, .c (.bool true), .r 32] none <|
 .q 35 .mv [.s 8] (some (.r 33, false)) <|
 .q 36 (.ixs 51) [.r 35, .c (.int .i64 1)] (some (.r 33, false)) <|
 .q 37 (.fld 2) [.r 36] (some (.r 33, false)) <|
 .q 38 .ld [.r 37] (some (.r 33, false)) <|
 .q 39 .neq [.r 38, .c (.int .i64 2)] (some (.r 33, false)) <|
 .q 40 .pick [.r 33, .c (.bool true), .r 39] none <|
 .out [(1, .s 1), (2, .s 2), (4, .s 4), (103, .r 40)]
def e3r11 : EE := .out [(0, .c (.bool false))]
def e3r12 : EE := .q 1 (.ixs 1) [.s 1, .c (.int .i64 1)] none <|
 .q 2 .ld [.r 1] none <|
 .q 3 (.lda 2) [.s 2] none <|
 .x 4 (.call 9) [.r 2, .r 3] none [] <|
 .out [(1, .s 1), (2, .s 2), (4, .s 4)]
def e3r13 : EE := .q 1 (.ixs 1) [.s 1, .c (.int .i64 1)] none <|
 .q 2 .ld [.r 1] none <|
 .q 4 (.ixs 1) [.s 1, .c (.int .i64 2)] none <|
 .q 5 .ld [.r 4] none <|
 .x 6 (.call 7) [.r 2, .r 5, .c (.int .i64 2)] none [] <|
 .out [(1, .s 1), (2, .s 2), (4, .s 4)]
def e3r14 : EE := .q 1 (.ixs 1) [.s 1, .c (.int .i64 2)] none <|
 .q 2 .ld [.r 1] none <|
 .q 4 (.ixs 1) [.s 1, .c (.int .i64 1)] none <|
 .q 5 .ld [.r 4] none <|
 .x 6 (.call 7) [.r 2, .r 5, .c (.int .i64 1)] none [] <|
 .out [(1, .s 1), (2, .s 2), (4, .s 4)]
def e3r15 : EE := .q 1 (.ixs 1) [.s 1, .c (.int .i64 1)] none <|
 .q 2 .ld [.r 1] none <|
 .q 3 (.lda 2) [.s 2] none <|
 .both false
 (.x 4 (.call 8) [.r 2, .r 3] none [] <|
 .q 6 (.ext 0) [.r 4] none <|
 .q 7 (.ext 1) [.r 4] none <|
 .x 8 (.alc [z, z, z, z, z, z, z, z, zs, zs, zs, zs, z, z, z, z, z, z, z, z, (.bool false)] 41) [] none [⟨2, .ld, [.r 1], none⟩, ⟨3, (.lda 2), [.s 2], none⟩] <|
 .x 9 (.st 21) [.r 8, .r 6] none [] <|
 .out [(1, .s 1), (4, .s 4), (9, .r 8)])
 (.x 8 (.alc [z, z, z, z, z, z, z, z, zs, zs, zs, zs, z, z, z, z, z, z, z, z, (.bool false)] 41) [] none [⟨2, .ld, [.r 1], none⟩, ⟨3, (.lda 2), [.s 2], none⟩] <|
 .x 4 (.call 8) [.r 2, .r 3] none [] <|
 .q 6 (.ext 0) [.r 4] none <|
 .q 7 (.ext 1) [.r 4] none <|
 .x 9 (.st 21) [.r 8, .r 6] none [] <|
 .out [(1, .s 1), (4, .s 4), (9, .r 8)])
def e3r16 : EE := .q 0 (.bld [z, z] [(1, 1)]) [.c (.int .i64 5)] none <|
 .x 1 (.alc [z, z] 25) [] none [] <|
 .x 2 (.st 2) [.r 1, .r 0] none [] <|
 .out [(1, .s 1), (4, .s 4), (9, .s 9), (11, .r 1)]
def e3r17 : EE := .q 1 (.ixs 1) [.s 1, .c (.int .i64 1)] none <|
 .q 2 .ld [.r 1] none <|
 .x 3 (.call 10) [.r 2] none [] <|
 .out [(1, .s 1), (4, .s 4), (9, .s 9), (11, .s 11)]
def e3r18 : EE := .q 1 (.ixs 1) [.s 1, .c (.int .i64 1)] none <|
 .q 2 .ld [.r 1] none <|
 .q 3 (.lda 2) [.s 11] none <|
 .x 4 (.call 9) [.r 2, .r 3] none [] <|
 .out [(1, .s 1), (4, .s 4), (9, .s 9), (11, .s 11)]
def e3r19 : EE := .out [(1, .s 1), (4, .s 4), (9, .s 9), (11, .s 11), (12, .c z)]
def e3r20 : EE := .q 1 .lss [.s 12, .c (.int .i64 2)] none <|
 .out [(1, .s 1), (4, .s 4), (9, .s 9), (11, .s 11), (12, .s 12), (142, .r 1)]
def e3r21 : EE := .q 1 (.ixs 1) [.s 1, .c (.int .i64 1)] none <|
 .q 2 .ld [.r 1] none <|
 .q 4 (.ixs 1) [.s 1, .c (.int .i64 2)] none <|
 .q 5 .ld [.r 4] none <|
 .x 6 (.call 7) [.r 2, .r 5, .c (.int .i64 2)] none [] <|
 .out [(1, .s 1), (4, .s 4), (9, .s 9), (11, .s 11), (12, .s 12)]
def e3r22 : EE := .q 1 (.ixs 1) [.s 1, .c (.int .i64 2)] none <|
 .q 2 .ld [.r 1] none <|
 .q 4 (.ixs 1) [.s 1, .c (.int .i64 1)] none <|
 .q 5 .ld [.r 4] none <|
 .x 6 (.call 7) [.r 2, .r 5, .c (.int .i64 1)] none [] <|
 .out [(1, .s 1), (4, .s 4), (9, .s 9), (11, .s 11), (12, .s 12)]
def e3r23 : EE := .q 1 .add [.s 12, .c (.int .i64 1)] none <|
 .out [(1, .s 1), (4, .s 4), (9, .s 9), (11, .s 11), (12, .r 1)]
def e3l24 : EC := (.seq (.seq (.reg e3r20 [1, 4, 9, 11, 12] 0) (.cond (.s 142) .skip (.exit 0))) (.seq (.block 1 (.seq (.reg e3r21 [1, 4, 9, 11, 12] 0) (.reg e3r22 [1, 4, 9, 11, 12] 0))) (.reg e3r23 [1, 4, 9, 11, 12] 0)))
def e3r25 : EE := .q 1 (.ixs 1) [.s 1, .c (.int .i64 1)] none <|
 .q 2 .ld [.r 1] none <|
 .q 3 (.lda 2) [.s 11] none <|
 .both false
 (.x 4 (.call 8) [.r 2, .r 3] none [] <|
 .q 6 (.ext 0) [.r 4] none <|
 .q 7 (.ext 1) [.r 4] none <|
 .x 8 (.alc [z, z, z, z, z, z, z, z, zs, zs, zs, zs, z, z, z, z, z, z, z, z, (.bool false)] 41) [] none [⟨2, .ld, [.r 1], none⟩, ⟨3, (.lda 2), [.s 11], none⟩] <|
 .x 9 (.st 21) [.r 8, .r 6] none [] <|
 .out [(4, .s 4), (9, .s 9), (13, .r 8)])
 (.x 8 (.alc [z, z, z, z, z, z, z, z, zs, zs, zs, zs, z, z, z, z, z, z, z, z, (.bool false)] 41) [] none [⟨2, .ld, [.r 1], none⟩, ⟨3, (.lda 2), [.s 11], none⟩] <|
 .x 4 (.call 8) [.r 2, .r 3] none [] <|
 .q 6 (.ext 0) [.r 4] none <|
 .q 7 (.ext 1) [.r 4] none <|
 .x 9 (.st 21) [.r 8, .r 6] none [] <|
 .out [(4, .s 4), (9, .s 9), (13, .r 8)])
def e3r26 : EE := .q 0 (.fld 0) [.s 9] none <|
 .q 1 .ld [.r 0] none <|
 .q 2 .eql [.r 1, .c (.int .i64 2)] none <|
 .q 4 (.fld 5) [.s 9] (some (.r 2, true)) <|
 .q 5 (.lda 7) [.r 4] (some (.r 2, true)) <|
 .q 6 (.fld 5) [.s 4] (some (.r 2, true)) <|
 .q 7 (.lda 7) [.r 6] (some (.r 2, true)) <|
 .q 8 (.eqc false [(.i .i64), (.i .i64), (.i .i64), .s, .s, .s, .s]) [.r 5, .r 7] (some (.r 2, true)) <|
 .q 9 .pick [.r 2, .r 8, .c (.bool false)] none <|
 .q 11 (.fld 12) [.s 9] (some (.r 9, true)) <|
 .q 12 (.lda 8) [.r 11] (some (.r 9, true)) <|
 .q 13 (.fld 12) [.s 4] (some (.r 9, true)) <|
 .q 14 (.lda 8) [.r 13] (some (.r 9, true)) <|
 .q 15 (.eqc false [(.i .i64), (.i .i64), (.i .i64), (.i .i64), (.i .i64), (.i .i64), (.i .i64), (.i .i64)]) [.r 12, .r 14] (some (.r 9, true)) <|
 .q 16 .pick [.r 9, .r 15, .c (.bool false)] none <|
 .q 18 (.fld 0) [.s 13] (some (.r 16, true)) <|
 .q 19 .ld [.r 18] (some (.r 16, true)) <|
 .q 20 .eql [.r 19, .c (.int .i64 3)] (some (.r 16, true)) <|
 .q 21 .pick [.r 16, .r 20, .c (.bool false)] none <|
 .q 23 (.fld 5) [.s 13] (some (.r 21, true)) <|
 .q 24 (.lda 7) [.r 23] (some (.r 21, true)) <|
 .q 25 (.bld [z, z, z, zs, zs, zs, zs] []) [] (some (.r 21, true)) <|
 .q 26 (.eqc false [(.i .i64), (.i .i64), (.i .i64), .s, .s, .s, .s]) [.r 24, .r 25] (some (.r 21, true)) <|
 .q 27 .pick [.r 21, .r 26, .c (.bool false)] none <|
 .q 29 (.fld 12) [.s 13] (some (.r 27, true)) <|
 .q 30 (.lda 8) [.r 29] (some (.r 27, true)) <|
 .q 31 (.bld [z, z, z, z, z, z, z] [(0, 1)]) [.c (.int .i64 4)] (some (.r 27, true)) <|
 .q 32 (.bld [z, z, z, z, z, z, z, z] [(1, 7)]) [.r 31] (some (.r 27, true)) <|
 .q 33 (.eqc false [(.i .i64), (.i .i64), (.i .i64), (.i .i64), (.i .i64), (.i .i64), (.i .i64), (.i .i64)]) [.r 30, .r 32] (some (.r 27, true)) <|
 .q 34 .pick [.r 27, .r 33, .c (.bool false)] none <|
 .out [(0, .r 34)]
def e3 : EFn := ⟨(.seq (.reg e3r0 [] 0) (.seq (.reg e3r1 [] 0) (.seq (.seq (.reg e3r2 [1] 0) (.cond (.s 17) (.seq (.reg e3r3 [] 0) .ret) .skip)) (.seq (.reg e3r4 [1] 10) (.seq (.reg e3r5 [1, 2, 3] 0) (.seq (.reg e3r6 [1, 2, 3] 0) (.seq (.reg e3r7 [1, 2, 3] 10) (.seq (.reg e3r8 [1, 2, 3, 4] 10) (.seq (.reg e3r9 [1, 2, 3, 4, 6] 0) (.seq (.seq (.reg e3r10 [1, 2, 3, 4, 6, 8] 0) (.cond (.s 103) (.seq (.reg e3r11 [] 0) .ret) .skip)) (.seq (.reg e3r12 [1, 2, 4] 0) (.seq (.reg e3r13 [1, 2, 4] 0) (.seq (.reg e3r14 [1, 2, 4] 0) (.seq (.reg e3r15 [1, 2, 4] 10) (.seq (.reg e3r16 [1, 4, 9] 0) (.seq (.reg e3r17 [1, 4, 9, 11] 0) (.seq (.reg e3r18 [1, 4, 9, 11] 0) (.seq (.seq (.reg e3r19 [1, 4, 9, 11] 0) (.block 0 (.loop [1, 4, 9, 11, 12] e3l24))) (.seq (.reg e3r25 [1, 4, 9, 11] 10) (.seq (.reg e3r26 [4, 9, 13] 0) .ret)))))))))))))))))))), [.slot 0], 202, 0⟩
theorem g3 : Good Tryz.prog 3 e3 := ⟨Tryz.f3, Tryz.func3, by kernel_rfl, by kernel_rfl, by kernel_rfl, by kernel_rfl⟩
/-! concord/concordlaw18.three -/
def e4r0 : EE := .out []
def e4r1 : EE := .out [(1, .c .nsl)]
def e4r2 : EE := .out [(1, .s 1), (2, .c z)]
def e4r3 : EE := .q 1 .lss [.s 2, .c (.int .i64 3)] none <|
 .out [(1, .s 1), (2, .s 2), (6, .r 1)]
def e4r4 : EE := .q 1 (.bld [z, z, z, z, z, z, z] []) [] none <|
 .x 2 (.call 11) [.c (.int .i64 3), .s 2, .r 1, .c .nsl] none [] <|
 .q 4 (.ext 0) [.r 2] none <|
 .q 5 (.ext 1) [.r 2] none <|
 .out [(1, .s 1), (2, .s 2), (3, .r 4), (4, .r 5)]
def e4r5 : EE := .q 1 (.eqp false) [.s 3, .c .nptr] none <|
 .q 3 .mv [.s 4] (some (.r 1, false)) <|
 .q 4 .neq [.r 3, .c z] (some (.r 1, false)) <|
 .q 5 .pick [.r 1, .c (.bool true), .r 4] none <|
 .out [(1, .s 1), (2, .s 2), (3, .s 3), (20, .r 5)]
def e4r6 : EE := .out [(0, .c .nsl)]
def e4r7 : EE := .x 2 (.bsl 27 1 [.nptr] [(0, 1)]) [.s 3] none [] <|
 .x 3 (.app 27 1 8 [.nptr]) [.s 1, .r 2] none [] <|
 .out [(1, .r 3), (2, .s 2)]
def e4r8 : EE := .q 1 .add [.s 2, .c (.int .i64 1)] none <|
 .out [(1, .s 1), (2, .r 1)]
def e4l9 : EC := (.seq (.seq (.reg e4r3 [1, 2] 0) (.cond (.s 6) .skip (.exit 0))) (.seq (.block 1 (.seq (.reg e4r4 [1, 2] 0) (.seq (.seq (.reg e4r5 [1, 2, 3, 4] 0) (.cond (.s 20) (.seq (.reg e4r6 [] 0) .ret) .skip)) (.reg e4r7 [1, 2, 3] 0)))) (.reg e4r8 [1, 2] 0)))
def e4r10 : EE := .out [(0, .s 1)]
def e4 : EFn := ⟨(.seq (.reg e4r0 [] 0) (.seq (.reg e4r1 [] 0) (.seq (.seq (.reg e4r2 [1] 0) (.block 0 (.loop [1, 2] e4l9))) (.seq (.reg e4r10 [1] 0) .ret)))), [.slot 0], 26, 0⟩
theorem g4 : Good Tryz.prog 4 e4 := ⟨Tryz.f4, Tryz.func4, by kernel_rfl, by kernel_rfl, by kernel_rfl, by kernel_rfl⟩
/-! (*concord/core.Core).Propose -/
def e5r0 : EE := .x 0 (.box 30) [.s 1] none [] <|
 .x 1 (.alc [z, z] 25) [] none [] <|
 .out [(0, .s 0), (3, .r 0), (4, .r 1)]
def e5r1 : EE := .q 1 .nl [.s 0] none <|
 .q 2 (.fld 1) [.r 1] none <|
 .q 3 .ld [.r 2] none <|
 .q 5 .nl [.s 0] none <|
 .q 6 (.fld 2) [.r 5] none <|
 .q 7 .ld [.r 6] none <|
 .q 10 .nl [.s 0] none <|
 .q 11 (.fld 1) [.r 10] none <|
 .q 12 .ld [.r 11] none <|
 .both false
 (.x 8 (.call 12) [.r 7] none [⟨3, .ld, [.r 2], none⟩, ⟨12, .ld, [.r 11], none⟩] <|
 .q 13 (.idx 7 1) [.r 8, .r 12] none <|
 .q 14 .add [.r 13, .c (.int .i64 1)] none <|
 .q 15 (.bld [z, z] [(0, 1), (1, 1)]) [.r 3, .r 14] none <|
 .x 16 (.alc [z, z] 25) [] none [⟨3, .ld, [.r 2], none⟩, ⟨7, .ld, [.r 6], none⟩, ⟨12, .ld, [.r 11], none⟩] <|
 .x 17 (.st 2) [.r 16, .r 15] none [] <|
 .out [(0, .s 0), (3, .s 3), (4, .s 4), (6, .r 16)])
 (.x 16 (.alc [z, z] 25) [] none [⟨3, .ld, [.r 2], none⟩, ⟨7, .ld, [.r 6], none⟩, ⟨12, .ld, [.r 11], none⟩] <|
 .x 8 (.call 12) [.r 7] none [⟨3, .ld, [.r 2], none⟩, ⟨12, .ld, [.r 11], none⟩] <|
 .q 13 (.idx 7 1) [.r 8, .r 12] none <|
 .q 14 .add [.r 13, .c (.int .i64 1)] none <|
 .q 15 (.bld [z, z] [(0, 1), (1, 1)]) [.r 3, .r 14] none <|
 .x 17 (.st 2) [.r 16, .r 15] none [] <|
 .out [(0, .s 0), (3, .s 3), (4, .s 4), (6, .r 16)])
def e5r2 : EE := .q 0 (.lda 7) [.s 3] none <|
 .x 1 (.call 13) [.r 0] none [] <|
 .q 2 .not [.r 1] none <|
 .q 4 (.fld 0) [.s 3] (some (.r 2, false)) <|
 .q 5 .ld [.r 4] (some (.r 2, false)) <|
 .q 6 .eql [.r 5, .c z] (some (.r 2, false)) <|
 .q 7 .pick [.r 2, .c (.bool true), .r 6] none <|
 .q 9 (.fld 1) [.s 6] (some (.r 7, false)) <|
 .q 10 .ld [.r 9] (some (.r 7, false)) <|
 .q 11 .gtr [.r 10, .c (.int .i64 1073741824)] (some (.r 7, false)) <|
 .q 12 .pick [.r 7, .c (.bool true), .r 11] none <|
 .q 14 .mv [.s 0] (some (.r 12, false)) <|
 .q 15 .nl [.r 14] (some (.r 12, false)) <|
 .q 16 (.fld 4) [.r 15] (some (.r 12, false)) <|
 .q 17 .ld [.r 16] (some (.r 12, false)) <|
 .q 18 .len [.r 17] (some (.r 12, false)) <|
 .q 19 .geq [.r 18, .c (.int .i64 256)] (some (.r 12, false)) <|
 .q 20 .pick [.r 12, .c (.bool true), .r 19] none <|
 .out [(0, .s 0), (3, .s 3), (4, .s 4), (6, .s 6), (44, .r 20)]
def e5r3 : EE := .q 0 (.bld [z, z] []) [] none <|
 .x 1 (.st 2) [.s 4, .r 0] none [] <|
 .out [(4, .s 4), (5, .c (.bool false))]
def e5r4 : EE := .q 1 .nl [.s 0] none <|
 .q 2 (.fld 3) [.r 1] none <|
 .q 3 .ld [.r 2] none <|
 .q 4 (.lda 2) [.s 6] none <|
 .q 5 (.lda 7) [.s 3] none <|
 .both false
 (.x 6 (.call 14) [.r 3, .r 4, .r 5] none [] <|
 .x 7 (.alc [z, z, z, z, z, z, z, z] 39) [] none [⟨3, .ld, [.r 2], none⟩, ⟨4, (.lda 2), [.s 6], none⟩, ⟨5, (.lda 7), [.s 3], none⟩] <|
 .x 8 (.st 8) [.r 7, .r 6] none [] <|
 .out [(0, .s 0), (3, .s 3), (4, .s 4), (6, .s 6), (7, .r 7)])
 (.x 7 (.alc [z, z, z, z, z, z, z, z] 39) [] none [⟨3, .ld, [.r 2], none⟩, ⟨4, (.lda 2), [.s 6], none⟩, ⟨5, (.lda 7), [.s 3], none⟩] <|
 .x 6 (.call 14) [.r 3, .r 4, .r 5] none [] <|
 .x 8 (.st 8) [.r 7, .r 6] none [] <|
 .out [(0, .s 0), (3, .s 3), (4, .s 4), (6, .s 6), (7, .r 7)])
def e5r5 : EE := .q 0 (.lda 8) [.s 7] none <|
 .x 1 (.call 15) [.r 0] none [] <|
 .q 2 .not [.r 1] none <|
 .out [(0, .s 0), (3, .s 3), (4, .s 4), (6, .s 6), (7, .s 7), (55, .r 2)]
def e5r6 : EE := .q 0 (.bld [z, z] []) [] none <|
 .x 1 (.st 2) [.s 4, .r 0] none [] <|
 .out [(4, .s 4), (5, .c (.bool false))]
def e5r7 : EE := .q 1 (.lda 2) [.s 6] none <|
 .q 2 (.lda 7) [.s 3] none <|
 .q 3 (.lda 8) [.s 7] none <|
 .q 4 (.bld [z, z, z, z, z, z, z, z, zs, zs, zs, zs, z, z, z, z, z, z, z, z, (.bool false)] [(0, 1), (5, 7), (12, 8), (20, 1)]) [.c (.int .i64 1), .r 2, .r 3, .c (.bool true)] none <|
 .x 5 (.call 16) [.s 0, .r 1, .r 4] none [] <|
 .out [(0, .s 0), (3, .s 3), (4, .s 4), (6, .s 6), (7, .s 7)]
def e5r8 : EE := .q 1 (.lda 2) [.s 6] none <|
 .q 2 (.lda 7) [.s 3] none <|
 .q 3 (.lda 8) [.s 7] none <|
 .q 4 (.bld [z, z, z, z, z, (.bool false), z, z, z, zs, zs, zs, zs, z, z, z, z, z, z, z, z, z, z, z, z, z, z, z, .nsl, .nsl, z, z] [(0, 2), (2, 1), (5, 1), (6, 7), (13, 8)]) [.r 1, .c z, .c (.bool true), .r 2, .r 3] none <|
 .x 5 (.box 70) [.r 4] none [] <|
 .x 6 (.call 17) [.s 0, .r 5] none [] <|
 .out [(4, .s 4), (6, .s 6)]
def e5r9 : EE := .q 0 (.lda 2) [.s 6] none <|
 .x 1 (.st 2) [.s 4, .r 0] none [] <|
 .out [(4, .s 4), (5, .c (.bool true))]
def e5 : EFn := ⟨(.seq (.reg e5r0 [0, 1] 0) (.seq (.reg e5r1 [0, 3, 4] 18) (.seq (.seq (.reg e5r2 [0, 3, 4, 6] 0) (.cond (.s 44) (.seq (.reg e5r3 [4] 0) .ret) .skip)) (.seq (.reg e5r4 [0, 3, 4, 6] 9) (.seq (.seq (.reg e5r5 [0, 3, 4, 6, 7] 0) (.cond (.s 55) (.seq (.reg e5r6 [4] 0) .ret) .skip)) (.seq (.reg e5r7 [0, 3, 4, 6, 7] 0) (.seq (.reg e5r8 [0, 3, 4, 6, 7] 0) (.seq (.reg e5r9 [4, 6] 0) .ret)))))))), [.cells 4 2, .slot 5], 71, 0⟩
theorem g5 : Good Tryz.prog 5 e5 := ⟨Tryz.f5, Tryz.func5, by kernel_rfl, by kernel_rfl, by kernel_rfl, by kernel_rfl⟩
/-! concord/concordlaw18.put -/
def e6r0 : EE := .x 0 (.alc [z, z, z, zs, zs, zs, zs] 30) [] none [] <|
 .out [(0, .s 0), (1, .s 1), (2, .s 2), (6, .r 0)]
def e6r1 : EE := .q 3 (.bld [z, z, z, zs, zs, zs, zs] [(0, 1), (1, 1), (2, 1), (3, 1)]) [.c (.int .i64 2), .s 0, .s 1, .s 2] none <|
 .x 4 (.st 7) [.s 6, .r 3] none [] <|
 .out [(6, .s 6)]
def e6 : EFn := ⟨(.seq (.reg e6r0 [0, 1, 2] 0) (.seq (.reg e6r1 [0, 1, 2, 6] 0) .ret)), [.cells 6 7], 11, 0⟩
theorem g6 : Good Tryz.prog 6 e6 := ⟨Tryz.f6, Tryz.func6, by kernel_rfl, by kernel_rfl, by kernel_rfl, by kernel_rfl⟩
/-! concord/concordlaw18.give -/
def e7r0 : EE := .out [(0, .s 0), (1, .s 1), (2, .s 2)]
def e7r1 : EE := .x 1 (.call 10) [.s 0] none [] <|
 .q 3 (.ext 0) [.r 1] none <|
 .q 4 (.ext 1) [.r 1] none <|
 .out [(1, .s 1), (2, .s 2), (8, .r 4)]
def e7r2 : EE := .out [(1, .s 1), (2, .s 2), (8, .s 8), (9, .c z)]
def e7r3 : EE := .q 2 .len [.s 8] none <|
 .q 3 .lss [.s 9, .r 2] none <|
 .out [(1, .s 1), (2, .s 2), (8, .s 8), (9, .s 9), (18, .r 3)]
def e7r4 : EE := .q 2 (.ixs 51) [.s 8, .s 9] none <|
 .q 3 (.fld 2) [.r 2] none <|
 .q 4 .ld [.r 3] none <|
 .q 6 .eql [.r 4, .s 2] none <|
 .out [(1, .s 1), (2, .s 2), (8, .s 8), (9, .s 9), (27, .r 6)]
def e7r5 : EE := .q 3 (.ixs 51) [.s 8, .s 9] none <|
 .q 4 (.lda 51) [.r 3] none <|
 .x 5 (.call 18) [.s 1, .r 4] none [] <|
 .out [(1, .s 1), (2, .s 2), (8, .s 8), (9, .s 9)]
def e7r6 : EE := .q 1 .add [.s 9, .c (.int .i64 1)] none <|
 .out [(1, .s 1), (2, .s 2), (8, .s 8), (9, .r 1)]
def e7l7 : EC := (.seq (.seq (.reg e7r3 [1, 2, 8, 9] 0) (.cond (.s 18) .skip (.exit 0))) (.seq (.block 1 (.seq (.reg e7r4 [1, 2, 8, 9] 0) (.cond (.s 27) (.reg e7r5 [1, 2, 8, 9] 0) .skip))) (.reg e7r6 [1, 2, 8, 9] 0)))
def e7r8 : EE := .out [(6, .s 8)]
def e7 : EFn := ⟨(.seq (.reg e7r0 [0, 1, 2] 0) (.seq (.reg e7r1 [0, 1, 2] 0) (.seq (.seq (.reg e7r2 [1, 2, 8] 0) (.block 0 (.loop [1, 2, 8, 9] e7l7))) (.seq (.reg e7r8 [8] 0) .ret)))), [.slot 6], 35, 0⟩
theorem g7 : Good Tryz.prog 7 e7 := ⟨Tryz.f7, Tryz.func7, by kernel_rfl, by kernel_rfl, by kernel_rfl, by kernel_rfl⟩
/-! (*concord/core.Core).Cell -/
def e8r0 : EE := .x 0 (.box 25) [.s 1] none [] <|
 .x 1 (.alc [z, z, z, z, z, z, z, z, zs, zs, zs, zs, z, z, z, z, z, z, z, z, (.bool false)] 41) [] none [] <|
 .out [(0, .s 0), (3, .r 0), (4, .r 1)]
def e8r1 : EE := .q 1 .nl [.s 0] none <|
 .q 2 (.fld 2) [.r 1] none <|
 .q 3 .ld [.r 2] none <|
 .q 4 (.lda 2) [.s 3] none <|
 .x 5 (.call 19) [.r 3, .r 4] none [] <|
 .q 6 (.ext 0) [.r 5] none <|
 .q 7 (.ext 1) [.r 5] none <|
 .x 8 (.st 21) [.s 4, .r 6] none [] <|
 .out [(4, .s 4), (5, .r 7)]
def e8 : EFn := ⟨(.seq (.reg e8r0 [0, 1] 0) (.seq (.reg e8r1 [0, 3, 4] 0) .ret)), [.cells 4 21, .slot 5], 14, 0⟩
theorem g8 : Good Tryz.prog 8 e8 := ⟨Tryz.f8, Tryz.func8, by kernel_rfl, by kernel_rfl, by kernel_rfl, by kernel_rfl⟩
/-! (*concord/core.Core).Recover -/
def e9r0 : EE := .x 0 (.box 25) [.s 1] none [] <|
 .out [(0, .s 0), (3, .r 0)]
def e9r1 : EE := .q 1 (.lda 2) [.s 3] none <|
 .x 2 (.call 20) [.s 0, .r 1] none [] <|
 .q 3 .not [.r 2] none <|
 .q 5 .mv [.s 0] (some (.r 3, false)) <|
 .q 6 .nl [.r 5] (some (.r 3, false)) <|
 .q 7 (.fld 4) [.r 6] (some (.r 3, false)) <|
 .q 8 .ld [.r 7] (some (.r 3, false)) <|
 .q 9 .len [.r 8] (some (.r 3, false)) <|
 .q 10 .geq [.r 9, .c (.int .i64 256)] (some (.r 3, false)) <|
 .q 11 .mv [.r 10] (some (.r 3, false)) <|
 .q 12 .mv [.s 0] (some (.r 11, true)) <|
 .q 13 (.lda 2) [.s 3] (some (.r 11, true)) <|
 .x 14 (.call 21) [.r 12, .r 13] (some (.r 11, true)) [] <|
 .q 15 (.eqp false) [.r 14, .c .nptr] (some (.r 11, true)) <|
 .q 16 .pick [.r 11, .r 15, .c (.bool false)] (some (.r 3, false)) <|
 .q 17 .pick [.r 3, .c (.bool true), .r 16] none <|
 .out [(0, .s 0), (3, .s 3), (26, .r 17)]
def e9r2 : EE := .out [(4, .c (.bool false))]
def e9r3 : EE := .q 1 .nl [.s 0] none <|
 .q 2 (.fld 2) [.r 1] none <|
 .q 3 .ld [.r 2] none <|
 .q 4 (.lda 2) [.s 3] none <|
 .both false
 (.x 5 (.call 19) [.r 3, .r 4] none [] <|
 .q 7 (.ext 0) [.r 5] none <|
 .q 8 (.ext 1) [.r 5] none <|
 .x 9 (.alc [z, z, z, z, z, z, z, z, zs, zs, zs, zs, z, z, z, z, z, z, z, z, (.bool false)] 41) [] none [⟨3, .ld, [.r 2], none⟩, ⟨4, (.lda 2), [.s 3], none⟩] <|
 .x 10 (.st 21) [.r 9, .r 7] none [] <|
 .out [(0, .s 0), (3, .s 3), (5, .r 9)])
 (.x 9 (.alc [z, z, z, z, z, z, z, z, zs, zs, zs, zs, z, z, z, z, z, z, z, z, (.bool false)] 41) [] none [⟨3, .ld, [.r 2], none⟩, ⟨4, (.lda 2), [.s 3], none⟩] <|
 .x 5 (.call 19) [.r 3, .r 4] none [] <|
 .q 7 (.ext 0) [.r 5] none <|
 .q 8 (.ext 1) [.r 5] none <|
 .x 10 (.st 21) [.r 9, .r 7] none [] <|
 .out [(0, .s 0), (3, .s 3), (5, .r 9)])
def e9r4 : EE := .q 0 (.fld 1) [.s 5] none <|
 .q 1 (.lda 2) [.r 0] none <|
 .x 2 (.alc [z, z] 35) [] none [] <|
 .x 3 (.st 2) [.r 2, .r 1] none [] <|
 .out [(0, .s 0), (3, .s 3), (5, .s 5), (7, .r 2)]
def e9r5 : EE := .q 1 (.lda 2) [.s 3] none <|
 .x 2 (.call 22) [.s 0, .r 1] none [] <|
 .out [(0, .s 0), (3, .s 3), (5, .s 5), (7, .s 7), (8, .r 2)]
def e9r6 : EE := .q 1 (.eqp true) [.s 8, .c .nptr] none <|
 .q 3 (.lda 2) [.s 7] (some (.r 1, true)) <|
 .q 4 .mv [.s 8] (some (.r 1, true)) <|
 .q 5 .nl [.r 4] (some (.r 1, true)) <|
 .q 6 (.fld 3) [.r 5] (some (.r 1, true)) <|
 .q 7 (.lda 2) [.r 6] (some (.r 1, true)) <|
 .x 8 (.call 23) [.r 3, .r 7] (some (.r 1, true)) [] <|
 .q 9 .pick [.r 1, .r 8, .c (.bool false)] none <|
 .out [(0, .s 0), (3, .s 3), (5, .s 5), (7, .s 7), (8, .s 8), (50, .r 9)]
def e9r7 : EE := .q 1 .nl [.s 8] none <|
 .q 2 (.fld 3) [.r 1] none <|
 .q 3 (.lda 2) [.r 2] none <|
 .x 4 (.st 2) [.s 7, .r 3] none [] <|
 .out [(0, .s 0), (3, .s 3), (5, .s 5), (7, .s 7)]
def e9r8 : EE := .q 0 (.lda 2) [.s 7] none <|
 .q 2 .nl [.s 0] none <|
 .q 3 (.fld 1) [.r 2] none <|
 .q 4 .ld [.r 3] none <|
 .x 5 (.call 24) [.r 0, .r 4] none [] <|
 .q 6 (.fld 1) [.s 5] none <|
 .x 7 (.st 2) [.r 6, .r 5] none [] <|
 .out [(0, .s 0), (3, .s 3), (5, .s 5)]
def e9r9 : EE := .q 0 (.fld 1) [.s 5] none <|
 .q 1 (.lda 2) [.r 0] none <|
 .x 2 (.call 25) [.r 1] none [] <|
 .q 3 .not [.r 2] none <|
 .q 5 .mv [.s 0] (some (.r 3, false)) <|
 .q 6 (.lda 2) [.s 3] (some (.r 3, false)) <|
 .q 7 (.lda 21) [.s 5] (some (.r 3, false)) <|
 .x 8 (.call 16) [.r 5, .r 6, .r 7] (some (.r 3, false)) [] <|
 .q 9 .not [.r 8] (some (.r 3, false)) <|
 .q 10 .pick [.r 3, .c (.bool true), .r 9] none <|
 .out [(0, .s 0), (3, .s 3), (5, .s 5), (72, .r 10)]
def e9r10 : EE := .out [(4, .c (.bool false))]
def e9r11 : EE := .q 1 (.lda 2) [.s 3] none <|
 .q 2 (.fld 1) [.s 5] none <|
 .q 3 (.lda 2) [.r 2] none <|
 .q 5 .nl [.s 0] none <|
 .q 6 (.fld 1) [.r 5] none <|
 .q 7 .ld [.r 6] none <|
 .q 8 (.lda 21) [.s 5] none <|
 .q 9 (.bld [z, z, z, z, z, z, z, z, z, zs, zs, zs, zs, z, z, z, z, z, z, z, z, (.bool false)] [(0, 1), (1, 21)]) [.r 7, .r 8] none <|
 .x 10 (.bsl 81 1 [z, z, z, z, z, z, z, z, z, zs, zs, zs, zs, z, z, z, z, z, z, z, z, (.bool false)] [(0, 22)]) [.r 9] none [⟨1, (.lda 2), [.s 3], none⟩, ⟨3, (.lda 2), [.r 2], none⟩] <|
 .q 11 (.bld [z, z, z, z, z, (.bool false), z, z, z, zs, zs, zs, zs, z, z, z, z, z, z, z, z, z, z, z, z, z, z, z, .nsl, .nsl, z, z] [(0, 2), (2, 1), (3, 2), (29, 1)]) [.r 1, .c (.int .i64 2), .r 3, .r 10] none <|
 .x 12 (.box 70) [.r 11] none [] <|
 .x 13 (.call 17) [.s 0, .r 12] none [] <|
 .out []
def e9r12 : EE := .out [(4, .c (.bool true))]
def e9 : EFn := ⟨(.seq (.reg e9r0 [0, 1] 0) (.seq (.seq (.reg e9r1 [0, 3] 0) (.cond (.s 26) (.seq (.reg e9r2 [] 0) .ret) .skip)) (.seq (.reg e9r3 [0, 3] 11) (.seq (.reg e9r4 [0, 3, 5] 0) (.seq (.seq (.reg e9r5 [0, 3, 5, 7] 0) (.seq (.reg e9r6 [0, 3, 5, 7, 8] 0) (.cond (.s 50) (.reg e9r7 [0, 3, 5, 7, 8] 0) .skip))) (.seq (.reg e9r8 [0, 3, 5, 7] 0) (.seq (.seq (.reg e9r9 [0, 3, 5] 0) (.cond (.s 72) (.seq (.reg e9r10 [] 0) .ret) .skip)) (.seq (.reg e9r11 [0, 3, 5] 0) (.seq (.reg e9r12 [] 0) .ret))))))))), [.slot 4], 87, 0⟩
theorem g9 : Good Tryz.prog 9 e9 := ⟨Tryz.f9, Tryz.func9, by kernel_rfl, by kernel_rfl, by kernel_rfl, by kernel_rfl⟩
/-! (*concord/core.Core).Drain -/
def e10r0 : EE := .out [(0, .s 0)]
def e10r1 : EE := .q 1 .nl [.s 0] none <|
 .q 2 (.fld 6) [.r 1] none <|
 .q 3 .ld [.r 2] none <|
 .q 5 .nl [.s 0] none <|
 .q 6 (.fld 7) [.r 5] none <|
 .q 7 .ld [.r 6] none <|
 .out [(0, .s 0), (4, .r 3), (5, .r 7)]
def e10r2 : EE := .q 2 .nl [.s 0] none <|
 .q 3 (.fld 6) [.r 2] none <|
 .x 4 (.st 1) [.r 3, .c .nsl] none [] <|
 .q 5 .nl [.s 0] none <|
 .q 6 (.fld 7) [.r 5] none <|
 .x 7 (.st 1) [.r 6, .c .nsl] none [] <|
 .out [(4, .s 4), (5, .s 5)]
def e10r3 : EE := .out [(2, .s 4), (3, .s 5)]
def e10 : EFn := ⟨(.seq (.reg e10r0 [0] 0) (.seq (.reg e10r1 [0] 0) (.seq (.reg e10r2 [0, 4, 5] 0) (.seq (.reg e10r3 [4, 5] 0) .ret)))), [.slot 2, .slot 3], 22, 0⟩
theorem g10 : Good Tryz.prog 10 e10 := ⟨Tryz.f10, Tryz.func10, by kernel_rfl, by kernel_rfl, by kernel_rfl, by kernel_rfl⟩
/-! concord/core.New -/
def e11r0 : EE := .x 0 (.box 37) [.s 2] none [] <|
 .out [(0, .s 0), (1, .s 1), (3, .s 3), (6, .r 0)]
def e11r1 : EE := .x 1 (.call 26) [.s 0] none [] <|
 .q 2 .not [.r 1] none <|
 .q 4 .mv [.s 1] (some (.r 2, false)) <|
 .q 5 .lss [.r 4, .c z] (some (.r 2, false)) <|
 .q 6 .pick [.r 2, .c (.bool true), .r 5] none <|
 .q 8 .mv [.s 1] (some (.r 6, false)) <|
 .q 9 .mv [.s 0] (some (.r 6, false)) <|
 .q 10 .geq [.r 8, .r 9] (some (.r 6, false)) <|
 .q 11 .pick [.r 6, .c (.bool true), .r 10] none <|
 .q 13 (.lda 7) [.s 6] (some (.r 11, false)) <|
 .q 14 (.bld [z, z, z, z, z, z, z, z] [(1, 7)]) [.r 13] (some (.r 11, false)) <|
 .x 15 (.call 15) [.r 14] (some (.r 11, false)) [] <|
 .q 16 .not [.r 15] (some (.r 11, false)) <|
 .q 17 .pick [.r 11, .c (.bool true), .r 16] none <|
 .out [(0, .s 0), (1, .s 1), (3, .s 3), (6, .s 6), (33, .r 17)]
def e11r2 : EE := .out [(8, .c .nptr), (9, .c (.int .i64 1))]
def e11r3 : EE := .q 2 (.lda 7) [.s 6] none <|
 .x 3 (.call 27) [.r 2] none [] <|
 .x 4 (.call 28) [] none [] <|
 .q 5 (.bld [z, z, .nptr, .nptr, .nsl, .nsl, .nsl, .nsl] [(0, 1), (1, 1), (2, 1), (3, 1)]) [.s 0, .s 1, .r 3, .r 4] none <|
 .x 6 (.box 59) [.r 5] none [] <|
 .out [(3, .s 3), (6, .s 6), (10, .r 6)]
def e11r4 : EE := .q 1 .nl [.s 10] none <|
 .q 2 (.fld 3) [.r 1] none <|
 .q 3 .ld [.r 2] none <|
 .q 4 (.lda 7) [.s 6] none <|
 .x 5 (.call 29) [.r 3, .r 4] none [] <|
 .out [(3, .s 3), (10, .s 10)]
def e11r5 : EE := .q 1 .len [.s 3] none <|
 .out [(10, .s 10), (47, .s 3), (48, .r 1), (49, .c z)]
def e11r6 : EE := .q 0 .lss [.s 49, .s 48] none <|
 .out [(10, .s 10), (47, .s 47), (48, .s 48), (49, .s 49), (50, .r 0)]
def e11r7 : EE := .q 0 (.ixs 1) [.s 47, .s 49] none <|
 .q 1 .ld [.r 0] none <|
 .out [(10, .s 10), (12, .r 1), (47, .s 47), (48, .s 48), (49, .s 49)]
def e11r8 : EE := .x 1 (.call 30) [.s 12] none [] <|
 .q 3 (.ext 0) [.r 1] none <|
 .q 4 (.ext 1) [.r 1] none <|
 .q 5 (.ext 2) [.r 1] none <|
 .x 6 (.alc [z, z] 25) [] none [] <|
 .x 7 (.alc [z, z, z, z, z, z, z, z, zs, zs, zs, zs, z, z, z, z, z, z, z, z, (.bool false)] 41) [] none [] <|
 .x 8 (.st 2) [.r 6, .r 3] none [] <|
 .x 9 (.st 21) [.r 7, .r 4] none [] <|
 .out [(10, .s 10), (13, .r 6), (14, .r 7), (15, .r 5), (47, .s 47), (48, .s 48), (49, .s 49)]
def e11r9 : EE := .q 1 .eql [.s 15, .c z] none <|
 .q 3 .mv [.s 10] (some (.r 1, true)) <|
 .q 4 .nl [.r 3] (some (.r 1, true)) <|
 .q 5 (.fld 2) [.r 4] (some (.r 1, true)) <|
 .q 6 .ld [.r 5] (some (.r 1, true)) <|
 .q 7 (.lda 2) [.s 13] (some (.r 1, true)) <|
 .q 8 (.lda 21) [.s 14] (some (.r 1, true)) <|
 .x 9 (.call 31) [.r 6, .r 7, .r 8] (some (.r 1, true)) [] <|
 .q 10 .pick [.r 1, .r 9, .c (.bool false)] none <|
 .out [(10, .s 10), (13, .s 13), (14, .s 14), (47, .s 47), (48, .s 48), (49, .s 49), (69, .r 10)]
def e11r10 : EE := .q 1 (.lda 2) [.s 13] none <|
 .q 2 (.lda 21) [.s 14] none <|
 .x 3 (.call 32) [.s 10, .r 1, .r 2] none [] <|
 .out [(10, .s 10), (47, .s 47), (48, .s 48), (49, .s 49)]
def e11r11 : EE := .q 0 .add [.s 49, .c (.int .i64 1)] none <|
 .out [(10, .s 10), (47, .s 47), (48, .s 48), (49, .r 0)]
def e11l12 : EC := (.seq (.reg e11r6 [10, 47, 48, 49] 0) (.seq (.cond (.s 50) .skip (.exit 0)) (.seq (.block 1 (.seq (.reg e11r7 [10, 47, 48, 49] 0) (.seq (.reg e11r8 [10, 12, 47, 48, 49] 0) (.seq (.reg e11r9 [10, 13, 14, 15, 47, 48, 49] 0) (.cond (.s 69) (.reg e11r10 [10, 13, 14, 47, 48, 49] 0) .skip))))) (.reg e11r11 [10, 47, 48, 49] 0))))
def e11r13 : EE := .out [(8, .s 10), (9, .c z)]
def e11 : EFn := ⟨(.seq (.reg e11r0 [0, 1, 2, 3] 0) (.seq (.seq (.reg e11r1 [0, 1, 3, 6] 0) (.cond (.s 33) (.seq (.reg e11r2 [] 0) .ret) .skip)) (.seq (.reg e11r3 [0, 1, 3, 6] 0) (.seq (.reg e11r4 [3, 6, 10] 0) (.seq (.seq (.reg e11r5 [3, 10] 0) (.block 0 (.loop [10, 47, 48, 49] e11l12))) (.seq (.reg e11r13 [10] 0) .ret)))))), [.slot 8, .slot 9], 76, 0⟩
theorem g11 : Good Tryz.prog 11 e11 := ⟨Tryz.f11, Tryz.func11, by kernel_rfl, by kernel_rfl, by kernel_rfl, by kernel_rfl⟩
/-! (*concord/log.Log).Top -/
def e12r0 : EE := .x 0 (.alc [z, z, z, z, z, z, z] 37) [] none [] <|
 .out [(0, .s 0), (2, .r 0)]
def e12r1 : EE := .q 1 .nl [.s 0] none <|
 .q 2 (.fld 1) [.r 1] none <|
 .q 3 (.lda 7) [.r 2] none <|
 .x 4 (.alc [z, z, z, z, z, z, z] 37) [] none [] <|
 .x 5 (.st 7) [.r 4, .r 3] none [] <|
 .out [(0, .s 0), (2, .s 2), (3, .r 4)]
def e12r2 : EE := .q 1 .nl [.s 0] none <|
 .q 2 (.fld 0) [.r 1] none <|
 .q 3 .ld [.r 2] none <|
 .x 4 .rng [.r 3] none [] <|
 .out [(2, .s 2), (3, .s 3), (13, .r 4)]
def e12r3 : EE := .x 0 .nxt [.s 13] none [] <|
 .q 1 (.ext 0) [.r 0] none <|
 .out [(2, .s 2), (3, .s 3), (13, .s 13), (15, .r 1)]
def e12r4 : EE := .q 0 .ent [.s 13] none <|
 .q 1 (.ext 0) [.r 0] none <|
 .x 2 (.alc [z, z] 25) [] none [] <|
 .x 3 (.st 2) [.r 2, .r 1] none [] <|
 .out [(2, .s 2), (3, .s 3), (4, .r 2), (13, .s 13)]
def e12r5 : EE := .q 0 (.fld 0) [.s 4] none <|
 .q 1 .ld [.r 0] none <|
 .q 2 (.fld 0) [.s 4] none <|
 .q 3 .ld [.r 2] none <|
 .q 4 (.ixa 7 1) [.s 3, .r 3] none <|
 .q 5 .ld [.r 4] none <|
 .q 6 (.fld 1) [.s 4] none <|
 .q 7 .ld [.r 6] none <|
 .q 8 .mx [.r 5, .r 7] none <|
 .q 9 (.ixa 7 1) [.s 3, .r 1] none <|
 .x 10 (.st 1) [.r 9, .r 8] none [] <|
 .out [(2, .s 2), (3, .s 3), (13, .s 13)]
def e12l6 : EC := (.seq (.reg e12r3 [2, 3, 13] 0) (.seq (.cond (.s 15) .skip (.exit 0)) (.block 1 (.seq (.reg e12r4 [2, 3, 13] 0) (.reg e12r5 [2, 3, 4, 13] 0)))))
def e12r7 : EE := .q 0 (.lda 7) [.s 3] none <|
 .x 1 (.st 7) [.s 2, .r 0] none [] <|
 .out [(2, .s 2)]
def e12 : EFn := ⟨(.seq (.reg e12r0 [0] 0) (.seq (.reg e12r1 [0, 2] 0) (.seq (.seq (.reg e12r2 [0, 2, 3] 0) (.block 0 (.loop [2, 3, 13] e12l6))) (.seq (.reg e12r7 [2, 3] 0) .ret)))), [.cells 2 7], 29, 0⟩
theorem g12 : Good Tryz.prog 12 e12 := ⟨Tryz.f12, Tryz.func12, by kernel_rfl, by kernel_rfl, by kernel_rfl, by kernel_rfl⟩
/-! concord/cmd.Right -/
def e13r0 : EE := .x 0 (.box 30) [.s 0] none [] <|
 .out [(1, .r 0)]
def e13r1 : EE := .q 0 (.lda 7) [.s 1] none <|
 .q 1 (.bld [z, z, z, zs, zs, zs, zs] []) [] none <|
 .q 2 (.eqc false [(.i .i64), (.i .i64), (.i .i64), .s, .s, .s, .s]) [.r 0, .r 1] none <|
 .out [(1, .s 1), (6, .r 2)]
def e13r2 : EE := .out [(2, .c (.bool true))]
def e13r3 : EE := .q 0 (.fld 0) [.s 1] none <|
 .q 1 .ld [.r 0] none <|
 .x 2 (.call 33) [.r 1, .c (.int .i64 5)] none [] <|
 .q 3 .not [.r 2] none <|
 .q 5 (.fld 1) [.s 1] (some (.r 3, false)) <|
 .q 6 .ld [.r 5] (some (.r 3, false)) <|
 .x 7 (.call 33) [.r 6, .c (.int .i64 8)] (some (.r 3, false)) [] <|
 .q 8 .not [.r 7] (some (.r 3, false)) <|
 .q 9 .pick [.r 3, .c (.bool true), .r 8] none <|
 .q 11 (.fld 2) [.s 1] (some (.r 9, false)) <|
 .q 12 .ld [.r 11] (some (.r 9, false)) <|
 .x 13 (.call 33) [.r 12, .c (.int .i64 1099511627776)] (some (.r 9, false)) [] <|
 .q 14 .not [.r 13] (some (.r 9, false)) <|
 .q 15 .pick [.r 9, .c (.bool true), .r 14] none <|
 .q 17 (.lda 7) [.s 1] (some (.r 15, false)) <|
 .q 18 (.lda 7) [.s 1] (some (.r 15, false)) <|
 .x 19 (.call 34) [.r 18] (some (.r 15, false)) [⟨17, (.lda 7), [.s 1], (some (.r 15, false))⟩] <|
 .q 20 (.eqc true [(.i .i64), (.i .i64), (.i .i64), .s, .s, .s, .s]) [.r 17, .r 19] (some (.r 15, false)) <|
 .q 21 .pick [.r 15, .c (.bool true), .r 20] none <|
 .out [(1, .s 1), (28, .r 21)]
def e13r4 : EE := .out [(2, .c (.bool false))]
def e13r5 : EE := .q 0 (.fld 3) [.s 1] none <|
 .q 1 .ld [.r 0] none <|
 .q 2 .lenz [.r 1] none <|
 .q 3 .gtr [.r 2, .c (.int .i64 16)] none <|
 .q 5 (.fld 4) [.s 1] (some (.r 3, false)) <|
 .q 6 .ld [.r 5] (some (.r 3, false)) <|
 .q 7 .lenz [.r 6] (some (.r 3, false)) <|
 .q 8 .gtr [.r 7, .c (.int .i64 16)] (some (.r 3, false)) <|
 .q 9 .pick [.r 3, .c (.bool true), .r 8] none <|
 .q 11 (.fld 5) [.s 1] (some (.r 9, false)) <|
 .q 12 .ld [.r 11] (some (.r 9, false)) <|
 .q 13 .lenz [.r 12] (some (.r 9, false)) <|
 .q 14 .gtr [.r 13, .c (.int .i64 64)] (some (.r 9, false)) <|
 .q 15 .pick [.r 9, .c (.bool true), .r 14] none <|
 .q 17 (.fld 6) [.s 1] (some (.r 15, false)) <|
 .q 18 .ld [.r 17] (some (.r 15, false)) <|
 .q 19 .lenz [.r 18] (some (.r 15, false)) <|
 .q 20 .gtr [.r 19, .c (.int .i64 64)] (some (.r 15, false)) <|
 .q 21 .pick [.r 15, .c (.bool true), .r 20] none <|
 .out [(1, .s 1), (3, .r 21)]
def e13r6 : EE := .q 1 .not [.s 3] none <|
 .q 3 (.fld 3) [.s 1] (some (.r 1, true)) <|
 .q 4 .ld [.r 3] (some (.r 1, true)) <|
 .q 5 .sneq [.r 4, .c zs] (some (.r 1, true)) <|
 .q 6 .mv [.r 5] (some (.r 1, true)) <|
 .q 7 (.fld 0) [.s 1] (some (.r 6, false)) <|
 .q 8 .ld [.r 7] (some (.r 6, false)) <|
 .q 9 .eql [.r 8, .c (.int .i64 5)] (some (.r 6, false)) <|
 .q 10 .pick [.r 6, .c (.bool true), .r 9] (some (.r 1, true)) <|
 .q 11 .pick [.r 1, .r 10, .c (.bool false)] none <|
 .out [(2, .r 11)]
def e13 : EFn := ⟨(.seq (.reg e13r0 [0] 0) (.seq (.seq (.reg e13r1 [1] 0) (.cond (.s 6) (.seq (.reg e13r2 [] 0) .ret) .skip)) (.seq (.seq (.reg e13r3 [1] 0) (.cond (.s 28) (.seq (.reg e13r4 [] 0) .ret) .skip)) (.seq (.reg e13r5 [1] 0) (.seq (.reg e13r6 [1, 3] 0) .ret))))), [.slot 2], 63, 0⟩
theorem g13 : Good Tryz.prog 13 e13 := ⟨Tryz.f13, Tryz.func13, by kernel_rfl, by kernel_rfl, by kernel_rfl, by kernel_rfl⟩
/-! (*concord/interf.Index).Attr -/
def e14r0 : EE := .x 0 (.box 25) [.s 1] none [] <|
 .x 1 (.box 30) [.s 2] none [] <|
 .x 2 (.alc [z, z, z, z, z, z, z, z] 39) [] none [] <|
 .out [(0, .s 0), (4, .r 0), (5, .r 1), (6, .r 2)]
def e14r1 : EE := .x 0 (.alc [z, z, z, z, z, z, z, z] 39) [] none [] <|
 .out [(0, .s 0), (4, .s 4), (5, .s 5), (6, .s 6), (7, .r 0)]
def e14r2 : EE := .q 1 .nl [.s 0] none <|
 .q 2 (.fld 0) [.r 1] none <|
 .q 3 .ld [.r 2] none <|
 .x 4 .rng [.r 3] none [] <|
 .out [(0, .s 0), (4, .s 4), (5, .s 5), (6, .s 6), (7, .s 7), (15, .r 4)]
def e14r3 : EE := .x 0 .nxt [.s 15] none [] <|
 .q 1 (.ext 0) [.r 0] none <|
 .out [(0, .s 0), (4, .s 4), (5, .s 5), (6, .s 6), (7, .s 7), (15, .s 15), (17, .r 1)]
def e14r4 : EE := .q 0 .ent [.s 15] none <|
 .q 1 (.ext 0) [.r 0] none <|
 .q 2 (.ext 1) [.r 0] none <|
 .x 3 (.alc [z, z] 25) [] none [] <|
 .x 4 (.alc [z, z, z, zs, zs, zs, zs, z] 99) [] none [] <|
 .x 5 (.st 2) [.r 3, .r 1] none [] <|
 .x 6 (.st 8) [.r 4, .r 2] none [] <|
 .out [(0, .s 0), (4, .s 4), (5, .s 5), (6, .s 6), (7, .s 7), (8, .r 3), (9, .r 4), (15, .s 15)]
def e14r5 : EE := .q 0 (.fld 0) [.s 8] none <|
 .q 1 .ld [.r 0] none <|
 .q 2 (.fld 0) [.s 4] none <|
 .q 3 .ld [.r 2] none <|
 .q 4 .eql [.r 1, .r 3] none <|
 .q 6 (.fld 1) [.s 8] (some (.r 4, true)) <|
 .q 7 .ld [.r 6] (some (.r 4, true)) <|
 .q 8 (.fld 1) [.s 4] (some (.r 4, true)) <|
 .q 9 .ld [.r 8] (some (.r 4, true)) <|
 .q 10 .geq [.r 7, .r 9] (some (.r 4, true)) <|
 .q 11 .pick [.r 4, .r 10, .c (.bool false)] none <|
 .q 13 (.fld 0) [.s 9] (some (.r 11, false)) <|
 .q 14 (.lda 7) [.r 13] (some (.r 11, false)) <|
 .q 15 (.lda 7) [.s 5] (some (.r 11, false)) <|
 .x 16 (.call 35) [.r 14, .r 15] (some (.r 11, false)) [] <|
 .q 17 .not [.r 16] (some (.r 11, false)) <|
 .q 18 .pick [.r 11, .c (.bool true), .r 17] none <|
 .out [(0, .s 0), (4, .s 4), (5, .s 5), (6, .s 6), (7, .s 7), (8, .s 8), (9, .s 9), (15, .s 15), (39, .r 18)]
def e14r6 : EE := .q 0 (.fld 0) [.s 7] none <|
 .q 1 .ld [.r 0] none <|
 .q 2 (.fld 7) [.s 9] none <|
 .q 3 .ld [.r 2] none <|
 .q 4 .add [.r 3, .c (.int .i64 1)] none <|
 .q 5 .mx [.r 1, .r 4] none <|
 .q 6 (.fld 0) [.s 7] none <|
 .x 7 (.st 1) [.r 6, .r 5] none [] <|
 .out [(0, .s 0), (4, .s 4), (5, .s 5), (6, .s 6), (7, .s 7), (8, .s 8), (15, .s 15)]
def e14r7 : EE := .q 0 (.fld 0) [.s 8] none <|
 .q 1 .ld [.r 0] none <|
 .q 2 (.fld 0) [.s 8] none <|
 .q 3 .ld [.r 2] none <|
 .q 4 (.fld 1) [.s 7] none <|
 .q 5 (.ixa 7 1) [.r 4, .r 3] none <|
 .q 6 .ld [.r 5] none <|
 .q 7 (.fld 1) [.s 8] none <|
 .q 8 .ld [.r 7] none <|
 .q 9 .mx [.r 6, .r 8] none <|
 .q 10 (.fld 1) [.s 7] none <|
 .q 11 (.ixa 7 1) [.r 10, .r 1] none <|
 .x 12 (.st 1) [.r 11, .r 9] none [] <|
 .out [(0, .s 0), (4, .s 4), (5, .s 5), (6, .s 6), (7, .s 7), (15, .s 15)]
def e14l8 : EC := (.seq (.reg e14r3 [0, 4, 5, 6, 7, 15] 0) (.seq (.cond (.s 17) .skip (.exit 0)) (.block 1 (.seq (.reg e14r4 [0, 4, 5, 6, 7, 15] 0) (.seq (.seq (.reg e14r5 [0, 4, 5, 6, 7, 8, 9, 15] 0) (.cond (.s 39) (.exit 1) .skip)) (.seq (.reg e14r6 [0, 4, 5, 6, 7, 8, 9, 15] 0) (.reg e14r7 [0, 4, 5, 6, 7, 8, 15] 0)))))))
def e14r9 : EE := .out [(0, .s 0), (4, .s 4), (6, .s 6), (7, .s 7), (59, .c z)]
def e14r10 : EE := .q 0 .lss [.s 59, .c (.int .i64 7)] none <|
 .out [(0, .s 0), (4, .s 4), (6, .s 6), (7, .s 7), (59, .s 59), (60, .r 0)]
def e14r11 : EE := .out [(0, .s 0), (4, .s 4), (6, .s 6), (7, .s 7), (10, .s 59), (59, .s 59)]
def e14r12 : EE := .q 1 (.fld 0) [.s 4] none <|
 .q 2 .ld [.r 1] none <|
 .q 3 .neq [.s 10, .r 2] none <|
 .out [(0, .s 0), (4, .s 4), (6, .s 6), (7, .s 7), (10, .s 10), (59, .s 59), (62, .r 3)]
def e14r13 : EE := .q 2 (.fld 1) [.s 7] none <|
 .q 3 (.ixa 7 1) [.r 2, .s 10] none <|
 .q 4 .ld [.r 3] none <|
 .q 7 .nl [.s 0] none <|
 .q 8 (.fld 1) [.r 7] none <|
 .q 9 (.ixa 7 1) [.r 8, .s 10] none <|
 .q 10 .ld [.r 9] none <|
 .q 11 .mx [.r 4, .r 10] none <|
 .q 12 (.fld 1) [.s 7] none <|
 .q 13 (.ixa 7 1) [.r 12, .s 10] none <|
 .x 14 (.st 1) [.r 13, .r 11] none [] <|
 .out [(0, .s 0), (4, .s 4), (6, .s 6), (7, .s 7), (59, .s 59)]
def e14r14 : EE := .q 0 (.lda 2) [.s 4] none <|
 .x 1 (.call 36) [.r 0] none [] <|
 .out [(0, .s 0), (4, .s 4), (6, .s 6), (7, .s 7), (10, .s 10), (59, .s 59), (81, .r 1)]
def e14r15 : EE := .q 2 (.fld 1) [.s 7] none <|
 .q 3 (.ixa 7 1) [.r 2, .s 10] none <|
 .q 4 .ld [.r 3] none <|
 .q 5 (.fld 1) [.s 4] none <|
 .q 6 .ld [.r 5] none <|
 .q 7 .sub [.r 6, .c (.int .i64 1)] none <|
 .q 8 .mx [.r 4, .r 7] none <|
 .q 9 (.fld 1) [.s 7] none <|
 .q 10 (.ixa 7 1) [.r 9, .s 10] none <|
 .x 11 (.st 1) [.r 10, .r 8] none [] <|
 .out [(0, .s 0), (4, .s 4), (6, .s 6), (7, .s 7), (59, .s 59)]
def e14r16 : EE := .q 0 .add [.s 59, .c (.int .i64 1)] none <|
 .out [(0, .s 0), (4, .s 4), (6, .s 6), (7, .s 7), (59, .r 0)]
def e14l17 : EC := (.seq (.reg e14r10 [0, 4, 6, 7, 59] 0) (.seq (.cond (.s 60) .skip (.exit 2)) (.seq (.block 3 (.seq (.reg e14r11 [0, 4, 6, 7, 59] 0) (.block 4 (.seq (.reg e14r12 [0, 4, 6, 7, 10, 59] 0) (.cond (.s 62) (.reg e14r13 [0, 4, 6, 7, 10, 59] 0) (.seq (.reg e14r14 [0, 4, 6, 7, 10, 59] 0) (.cond (.s 81) (.reg e14r15 [0, 4, 6, 7, 10, 59] 0) .skip))))))) (.reg e14r16 [0, 4, 6, 7, 59] 0))))
def e14r18 : EE := .q 0 (.lda 8) [.s 7] none <|
 .x 1 (.st 8) [.s 6, .r 0] none [] <|
 .out [(6, .s 6)]
def e14 : EFn := ⟨(.seq (.reg e14r0 [0, 1, 2] 0) (.seq (.reg e14r1 [0, 4, 5, 6] 0) (.seq (.seq (.reg e14r2 [0, 4, 5, 6, 7] 0) (.block 0 (.loop [0, 4, 5, 6, 7, 15] e14l8))) (.seq (.seq (.reg e14r9 [0, 4, 6, 7] 0) (.block 2 (.loop [0, 4, 6, 7, 59] e14l17))) (.seq (.reg e14r18 [6, 7] 0) .ret))))), [.cells 6 8], 97, 0⟩
theorem g14 : Good Tryz.prog 14 e14 := ⟨Tryz.f14, Tryz.func14, by kernel_rfl, by kernel_rfl, by kernel_rfl, by kernel_rfl⟩
/-! concord/deps.Right -/
def e15r0 : EE := .x 0 (.box 39) [.s 0] none [] <|
 .out [(1, .r 0)]
def e15r1 : EE := .q 0 (.fld 1) [.s 1] none <|
 .q 1 (.lda 7) [.r 0] none <|
 .out [(1, .s 1), (6, .r 1), (7, .c z)]
def e15r2 : EE := .q 0 .lss [.s 7, .c (.int .i64 7)] none <|
 .out [(1, .s 1), (6, .s 6), (7, .s 7), (8, .r 0)]
def e15r3 : EE := .q 0 (.idx 7 1) [.s 6, .s 7] none <|
 .out [(1, .s 1), (4, .r 0), (6, .s 6), (7, .s 7)]
def e15r4 : EE := .q 1 .lss [.s 4, .c z] none <|
 .q 3 .mv [.s 4] (some (.r 1, false)) <|
 .q 4 .gtr [.r 3, .c (.int .i64 1073741824)] (some (.r 1, false)) <|
 .q 5 .pick [.r 1, .c (.bool true), .r 4] none <|
 .out [(1, .s 1), (6, .s 6), (7, .s 7), (15, .r 5)]
def e15r5 : EE := .out [(2, .c (.bool false))]
def e15r6 : EE := .q 0 .add [.s 7, .c (.int .i64 1)] none <|
 .out [(1, .s 1), (6, .s 6), (7, .r 0)]
def e15l7 : EC := (.seq (.reg e15r2 [1, 6, 7] 0) (.seq (.cond (.s 8) .skip (.exit 0)) (.seq (.block 1 (.seq (.reg e15r3 [1, 6, 7] 0) (.seq (.reg e15r4 [1, 4, 6, 7] 0) (.cond (.s 15) (.seq (.reg e15r5 [] 0) .ret) .skip)))) (.reg e15r6 [1, 6, 7] 0))))
def e15r8 : EE := .q 0 (.fld 0) [.s 1] none <|
 .q 1 .ld [.r 0] none <|
 .q 2 .geq [.r 1, .c z] none <|
 .q 4 (.fld 0) [.s 1] (some (.r 2, true)) <|
 .q 5 .ld [.r 4] (some (.r 2, true)) <|
 .q 6 .leq [.r 5, .c (.int .i64 1099511627776)] (some (.r 2, true)) <|
 .q 7 .pick [.r 2, .r 6, .c (.bool false)] none <|
 .out [(2, .r 7)]
def e15 : EFn := ⟨(.seq (.reg e15r0 [0] 0) (.seq (.seq (.reg e15r1 [1] 0) (.block 0 (.loop [1, 6, 7] e15l7))) (.seq (.reg e15r8 [1] 0) .ret))), [.slot 2], 25, 0⟩
theorem g15 : Good Tryz.prog 15 e15 := ⟨Tryz.f15, Tryz.func15, by kernel_rfl, by kernel_rfl, by kernel_rfl, by kernel_rfl⟩
/-! (*concord/core.Core).set -/
def e16r0 : EE := .x 0 (.box 25) [.s 1] none [] <|
 .x 1 (.box 41) [.s 2] none [] <|
 .out [(0, .s 0), (4, .r 0), (5, .r 1)]
def e16r1 : EE := .q 1 .nl [.s 0] none <|
 .q 2 (.fld 2) [.r 1] none <|
 .q 3 .ld [.r 2] none <|
 .q 4 (.lda 2) [.s 4] none <|
 .q 5 (.lda 21) [.s 5] none <|
 .x 6 (.call 31) [.r 3, .r 4, .r 5] none [] <|
 .q 7 .not [.r 6] none <|
 .out [(0, .s 0), (4, .s 4), (5, .s 5), (14, .r 7)]
def e16r2 : EE := .out [(6, .c (.bool false))]
def e16r3 : EE := .q 2 .nl [.s 0] none <|
 .q 3 (.fld 6) [.r 2] none <|
 .q 4 .ld [.r 3] none <|
 .q 5 (.lda 2) [.s 4] none <|
 .q 6 (.lda 21) [.s 5] none <|
 .x 7 (.call 37) [.r 5, .r 6] none [⟨4, .ld, [.r 3], none⟩] <|
 .x 8 (.bsl 86 1 [.nsl] [(0, 1)]) [.r 7] none [⟨4, .ld, [.r 3], none⟩] <|
 .x 9 (.app 86 1 24 [.nsl]) [.r 4, .r 8] none [] <|
 .q 10 .nl [.s 0] none <|
 .q 11 (.fld 6) [.r 10] none <|
 .x 12 (.st 1) [.r 11, .r 9] none [] <|
 .out [(0, .s 0), (4, .s 4), (5, .s 5)]
def e16r4 : EE := .q 1 (.lda 2) [.s 4] none <|
 .q 2 (.lda 21) [.s 5] none <|
 .x 3 (.call 32) [.s 0, .r 1, .r 2] none [] <|
 .out []
def e16r5 : EE := .out [(6, .c (.bool true))]
def e16 : EFn := ⟨(.seq (.reg e16r0 [0, 1, 2] 0) (.seq (.seq (.reg e16r1 [0, 4, 5] 0) (.cond (.s 14) (.seq (.reg e16r2 [] 0) .ret) .skip)) (.seq (.reg e16r3 [0, 4, 5] 0) (.seq (.reg e16r4 [0, 4, 5] 0) (.seq (.reg e16r5 [] 0) .ret))))), [.slot 6], 31, 0⟩
theorem g16 : Good Tryz.prog 16 e16 := ⟨Tryz.f16, Tryz.func16, by kernel_rfl, by kernel_rfl, by kernel_rfl, by kernel_rfl⟩
/-! (*concord/core.Core).begin -/
def e17r0 : EE := .x 2 (.call 38) [.s 0, .s 1] none [] <|
 .out [(0, .s 0), (1, .s 1)]
def e17r1 : EE := .q 4 .nl [.s 1] none <|
 .q 5 (.fld 21) [.r 4] none <|
 .q 6 (.lda 7) [.r 5] none <|
 .x 2 (.call 40) [.s 1] none [⟨6, (.lda 7), [.r 5], none⟩] <|
 .x 7 (.call 39) [.s 0, .r 2, .r 6] none [] <|
 .out []
def e17 : EFn := ⟨(.seq (.reg e17r0 [0, 1] 0) (.reg e17r1 [0, 1] 0)), [], 15, 0⟩
theorem g17 : Good Tryz.prog 17 e17 := ⟨Tryz.f17, Tryz.func17, by kernel_rfl, by kernel_rfl, by kernel_rfl, by kernel_rfl⟩
/-! (*concord/core.Core).Take -/
def e18r0 : EE := .x 0 (.box 45) [.s 1] none [] <|
 .out [(0, .s 0), (3, .r 0)]
def e18r1 : EE := .q 0 (.lda 51) [.s 3] none <|
 .x 1 (.call 41) [.r 0] none [] <|
 .q 2 .not [.r 1] none <|
 .q 4 (.fld 2) [.s 3] (some (.r 2, false)) <|
 .q 5 .ld [.r 4] (some (.r 2, false)) <|
 .q 6 .mv [.s 0] (some (.r 2, false)) <|
 .q 7 .nl [.r 6] (some (.r 2, false)) <|
 .q 8 (.fld 1) [.r 7] (some (.r 2, false)) <|
 .q 9 .ld [.r 8] (some (.r 2, false)) <|
 .q 10 .neq [.r 5, .r 9] (some (.r 2, false)) <|
 .q 11 .pick [.r 2, .c (.bool true), .r 10] none <|
 .q 13 .mv [.s 0] (some (.r 11, false)) <|
 .q 14 (.fld 1) [.s 3] (some (.r 11, false)) <|
 .q 15 .ld [.r 14] (some (.r 11, false)) <|
 .x 16 (.call 42) [.r 13, .r 15] (some (.r 11, false)) [] <|
 .q 17 .not [.r 16] (some (.r 11, false)) <|
 .q 18 .pick [.r 11, .c (.bool true), .r 17] none <|
 .q 20 (.fld 0) [.s 3] (some (.r 18, false)) <|
 .q 21 .ld [.r 20] (some (.r 18, false)) <|
 .q 22 .geq [.r 21, .c (.int .i64 9)] (some (.r 18, false)) <|
 .q 23 .pick [.r 18, .c (.bool true), .r 22] none <|
 .q 25 .mv [.s 0] (some (.r 23, false)) <|
 .q 26 (.fld 3) [.s 3] (some (.r 23, false)) <|
 .q 27 (.fld 0) [.r 26] (some (.r 23, false)) <|
 .q 28 .ld [.r 27] (some (.r 23, false)) <|
 .x 29 (.call 42) [.r 25, .r 28] (some (.r 23, false)) [] <|
 .q 30 .not [.r 29] (some (.r 23, false)) <|
 .q 31 .pick [.r 23, .c (.bool true), .r 30] none <|
 .out [(0, .s 0), (3, .s 3), (37, .r 31)]
def e18r2 : EE := .out [(4, .c (.bool false))]
def e18r3 : EE := .q 0 (.fld 0) [.s 3] none <|
 .q 1 .ld [.r 0] none <|
 .q 2 .eql [.r 1, .c (.int .i64 1)] none <|
 .q 4 (.fld 0) [.s 3] (some (.r 2, false)) <|
 .q 5 .ld [.r 4] (some (.r 2, false)) <|
 .q 6 .eql [.r 5, .c (.int .i64 3)] (some (.r 2, false)) <|
 .q 7 .pick [.r 2, .c (.bool true), .r 6] none <|
 .q 9 (.fld 0) [.s 3] (some (.r 7, false)) <|
 .q 10 .ld [.r 9] (some (.r 7, false)) <|
 .q 11 .eql [.r 10, .c (.int .i64 6)] (some (.r 7, false)) <|
 .q 12 .pick [.r 7, .c (.bool true), .r 11] none <|
 .out [(0, .s 0), (3, .s 3), (5, .r 12)]
def e18r4 : EE := .q 1 .nl [.s 0] none <|
 .q 2 (.fld 2) [.r 1] none <|
 .q 3 .ld [.r 2] none <|
 .q 4 (.fld 3) [.s 3] none <|
 .q 5 (.lda 2) [.r 4] none <|
 .x 6 (.call 43) [.r 3, .r 5] none [] <|
 .out [(0, .s 0), (3, .s 3), (5, .s 5), (57, .r 6)]
def e18r5 : EE := .out [(4, .s 5)]
def e18r6 : EE := .out [(0, .s 0), (3, .s 3), (62, .s 5)]
def e18r7 : EE := .q 1 (.lda 51) [.s 3] none <|
 .x 2 (.call 44) [.s 0, .r 1] none [] <|
 .out []
def e18r8 : EE := .q 0 (.fld 0) [.s 3] none <|
 .q 1 .ld [.r 0] none <|
 .q 2 .eql [.r 1, .c (.int .i64 5)] none <|
 .out [(0, .s 0), (3, .s 3), (67, .r 2)]
def e18r9 : EE := .q 1 (.lda 51) [.s 3] none <|
 .x 2 (.call 45) [.s 0, .r 1] none [] <|
 .out []
def e18r10 : EE := .q 0 (.fld 0) [.s 3] none <|
 .q 1 .ld [.r 0] none <|
 .q 2 .eql [.r 1, .c (.int .i64 8)] none <|
 .out [(0, .s 0), (3, .s 3), (74, .r 2)]
def e18r11 : EE := .q 1 (.lda 51) [.s 3] none <|
 .x 2 (.call 46) [.s 0, .r 1] none [] <|
 .out []
def e18r12 : EE := .q 1 (.lda 51) [.s 3] none <|
 .x 2 (.call 47) [.s 0, .r 1] none [] <|
 .out []
def e18r13 : EE := .out [(4, .c (.bool false))]
def e18 : EFn := ⟨(.seq (.reg e18r0 [0, 1] 0) (.seq (.seq (.reg e18r1 [0, 3] 0) (.cond (.s 37) (.seq (.reg e18r2 [] 0) .ret) .skip)) (.seq (.reg e18r3 [0, 3] 0) (.seq (.seq (.reg e18r4 [0, 3, 5] 0) (.cond (.s 57) (.seq (.reg e18r5 [5] 0) .ret) .skip)) (.seq (.block 0 (.seq (.reg e18r6 [0, 3, 5] 0) (.cond (.s 62) (.reg e18r7 [0, 3] 0) (.seq (.reg e18r8 [0, 3] 0) (.cond (.s 67) (.reg e18r9 [0, 3] 0) (.seq (.reg e18r10 [0, 3] 0) (.cond (.s 74) (.reg e18r11 [0, 3] 0) (.reg e18r12 [0, 3] 0)))))))) (.seq (.reg e18r13 [] 0) .ret)))))), [.slot 4], 81, 0⟩
theorem g18 : Good Tryz.prog 18 e18 := ⟨Tryz.f18, Tryz.func18, by kernel_rfl, by kernel_rfl, by kernel_rfl, by kernel_rfl⟩
/-! (*concord/log.Log).Cell -/
def e19r0 : EE := .x 0 (.box 25) [.s 1] none [] <|
 .x 1 (.alc [z, z, z, z, z, z, z, z, zs, zs, zs, zs, z, z, z, z, z, z, z, z, (.bool false)] 41) [] none [] <|
 .out [(0, .s 0), (3, .r 0), (4, .r 1)]
def e19r1 : EE := .q 1 .nl [.s 0] none <|
 .q 2 (.fld 0) [.r 1] none <|
 .q 3 .ld [.r 2] none <|
 .q 4 (.lda 2) [.s 3] none <|
 .q 5 (.lkp true [(.i .i64), (.i .i64)] (.agg [z, z, z, z, z, z, z, z, zs, zs, zs, zs, z, z, z, z, z, z, z, z, (.bool false)]) true) [.r 3, .r 4] none <|
 .q 7 (.ext 0) [.r 5] none <|
 .q 8 (.ext 1) [.r 5] none <|
 .x 9 (.alc [z, z, z, z, z, z, z, z, zs, zs, zs, zs, z, z, z, z, z, z, z, z, (.bool false)] 41) [] none [⟨3, .ld, [.r 2], none⟩, ⟨4, (.lda 2), [.s 3], none⟩, ⟨5, (.lkp true [(.i .i64), (.i .i64)] (.agg [z, z, z, z, z, z, z, z, zs, zs, zs, zs, z, z, z, z, z, z, z, z, (.bool false)]) true), [.r 3, .r 4], none⟩] <|
 .x 10 (.st 21) [.r 9, .r 7] none [] <|
 .out [(4, .s 4), (6, .r 9), (7, .r 8)]
def e19r2 : EE := .q 1 .not [.s 7] none <|
 .out [(4, .s 4), (6, .s 6), (18, .r 1)]
def e19r3 : EE := .q 0 (.bld [z, z, z, z, z, z, z, z, zs, zs, zs, zs, z, z, z, z, z, z, z, z, (.bool false)] []) [] none <|
 .x 1 (.st 21) [.s 4, .r 0] none [] <|
 .out [(4, .s 4), (5, .c (.bool false))]
def e19r4 : EE := .q 0 (.lda 21) [.s 6] none <|
 .x 1 (.st 21) [.s 4, .r 0] none [] <|
 .out [(4, .s 4), (5, .c (.bool true))]
def e19 : EFn := ⟨(.seq (.reg e19r0 [0, 1] 0) (.seq (.reg e19r1 [0, 3, 4] 0) (.seq (.seq (.reg e19r2 [4, 6, 7] 0) (.cond (.s 18) (.seq (.reg e19r3 [4] 0) .ret) .skip)) (.seq (.reg e19r4 [4, 6] 0) .ret)))), [.cells 4 21, .slot 5], 21, 0⟩
theorem g19 : Good Tryz.prog 19 e19 := ⟨Tryz.f19, Tryz.func19, by kernel_rfl, by kernel_rfl, by kernel_rfl, by kernel_rfl⟩
/-! (*concord/core.Core).open -/
def e20r0 : EE := .x 0 (.box 25) [.s 1] none [] <|
 .out [(0, .s 0), (3, .r 0)]
def e20r1 : EE := .q 0 (.lda 2) [.s 3] none <|
 .x 1 (.call 36) [.r 0] none [] <|
 .q 2 .not [.r 1] none <|
 .q 4 .mv [.s 0] (some (.r 2, false)) <|
 .q 5 (.fld 0) [.s 3] (some (.r 2, false)) <|
 .q 6 .ld [.r 5] (some (.r 2, false)) <|
 .x 7 (.call 42) [.r 4, .r 6] (some (.r 2, false)) [] <|
 .q 8 .not [.r 7] (some (.r 2, false)) <|
 .q 9 .pick [.r 2, .c (.bool true), .r 8] none <|
 .q 11 .mv [.s 0] (some (.r 9, false)) <|
 .q 12 .nl [.r 11] (some (.r 9, false)) <|
 .q 13 (.fld 2) [.r 12] (some (.r 9, false)) <|
 .q 14 .ld [.r 13] (some (.r 9, false)) <|
 .q 15 (.lda 2) [.s 3] (some (.r 9, false)) <|
 .x 16 (.call 43) [.r 14, .r 15] (some (.r 9, false)) [] <|
 .q 17 .pick [.r 9, .c (.bool true), .r 16] none <|
 .out [(0, .s 0), (3, .s 3), (24, .r 17)]
def e20r2 : EE := .out [(4, .c (.bool false))]
def e20r3 : EE := .q 1 .nl [.s 0] none <|
 .q 2 (.fld 2) [.r 1] none <|
 .q 3 .ld [.r 2] none <|
 .q 4 (.lda 2) [.s 3] none <|
 .both false
 (.x 5 (.call 19) [.r 3, .r 4] none [] <|
 .q 7 (.ext 0) [.r 5] none <|
 .q 8 (.ext 1) [.r 5] none <|
 .x 9 (.alc [z, z, z, z, z, z, z, z, zs, zs, zs, zs, z, z, z, z, z, z, z, z, (.bool false)] 41) [] none [⟨3, .ld, [.r 2], none⟩, ⟨4, (.lda 2), [.s 3], none⟩] <|
 .x 10 (.st 21) [.r 9, .r 7] none [] <|
 .out [(5, .r 9)])
 (.x 9 (.alc [z, z, z, z, z, z, z, z, zs, zs, zs, zs, z, z, z, z, z, z, z, z, (.bool false)] 41) [] none [⟨3, .ld, [.r 2], none⟩, ⟨4, (.lda 2), [.s 3], none⟩] <|
 .x 5 (.call 19) [.r 3, .r 4] none [] <|
 .q 7 (.ext 0) [.r 5] none <|
 .q 8 (.ext 1) [.r 5] none <|
 .x 10 (.st 21) [.r 9, .r 7] none [] <|
 .out [(5, .r 9)])
def e20r4 : EE := .q 0 (.fld 0) [.s 5] none <|
 .q 1 .ld [.r 0] none <|
 .q 2 .neq [.r 1, .c (.int .i64 3)] none <|
 .out [(4, .r 2)]
def e20 : EFn := ⟨(.seq (.reg e20r0 [0, 1] 0) (.seq (.seq (.reg e20r1 [0, 3] 0) (.cond (.s 24) (.seq (.reg e20r2 [] 0) .ret) .skip)) (.seq (.reg e20r3 [0, 3] 11) (.seq (.reg e20r4 [5] 0) .ret)))), [.slot 4], 37, 0⟩
theorem g20 : Good Tryz.prog 20 e20 := ⟨Tryz.f20, Tryz.func20, by kernel_rfl, by kernel_rfl, by kernel_rfl, by kernel_rfl⟩
/-! (*concord/core.Core).find -/
def e21r0 : EE := .x 0 (.box 25) [.s 1] none [] <|
 .out [(0, .s 0), (3, .r 0)]
def e21r1 : EE := .q 1 .nl [.s 0] none <|
 .q 2 (.fld 4) [.r 1] none <|
 .q 3 .ld [.r 2] none <|
 .q 4 .len [.r 3] none <|
 .out [(3, .s 3), (10, .r 3), (11, .r 4), (12, .c z)]
def e21r2 : EE := .q 0 .lss [.s 12, .s 11] none <|
 .out [(3, .s 3), (10, .s 10), (11, .s 11), (12, .s 12), (13, .r 0)]
def e21r3 : EE := .q 0 (.ixs 1) [.s 10, .s 12] none <|
 .q 1 .ld [.r 0] none <|
 .out [(3, .s 3), (6, .r 1), (10, .s 10), (11, .s 11), (12, .s 12)]
def e21r4 : EE := .q 1 .nl [.s 6] none <|
 .q 2 (.fld 0) [.r 1] none <|
 .q 3 (.lda 2) [.r 2] none <|
 .q 4 (.lda 2) [.s 3] none <|
 .q 5 (.eqc false [(.i .i64), (.i .i64)]) [.r 3, .r 4] none <|
 .out [(3, .s 3), (6, .s 6), (10, .s 10), (11, .s 11), (12, .s 12), (21, .r 5)]
def e21r5 : EE := .out [(4, .s 6)]
def e21r6 : EE := .q 0 .add [.s 12, .c (.int .i64 1)] none <|
 .out [(3, .s 3), (10, .s 10), (11, .s 11), (12, .r 0)]
def e21l7 : EC := (.seq (.reg e21r2 [3, 10, 11, 12] 0) (.seq (.cond (.s 13) .skip (.exit 0)) (.seq (.block 1 (.seq (.reg e21r3 [3, 10, 11, 12] 0) (.seq (.reg e21r4 [3, 6, 10, 11, 12] 0) (.cond (.s 21) (.seq (.reg e21r5 [6] 0) .ret) .skip)))) (.reg e21r6 [3, 10, 11, 12] 0))))
def e21r8 : EE := .out [(4, .c .nptr)]
def e21 : EFn := ⟨(.seq (.reg e21r0 [0, 1] 0) (.seq (.seq (.reg e21r1 [0, 3] 0) (.block 0 (.loop [3, 10, 11, 12] e21l7))) (.seq (.reg e21r8 [] 0) .ret))), [.slot 4], 24, 0⟩
theorem g21 : Good Tryz.prog 21 e21 := ⟨Tryz.f21, Tryz.func21, by kernel_rfl, by kernel_rfl, by kernel_rfl, by kernel_rfl⟩
/-! (*concord/core.Core).wished -/
def e22r0 : EE := .x 0 (.box 25) [.s 1] none [] <|
 .out [(0, .s 0), (3, .r 0)]
def e22r1 : EE := .q 1 .nl [.s 0] none <|
 .q 2 (.fld 5) [.r 1] none <|
 .q 3 .ld [.r 2] none <|
 .q 4 .len [.r 3] none <|
 .out [(3, .s 3), (10, .r 3), (11, .r 4), (12, .c z)]
def e22r2 : EE := .q 0 .lss [.s 12, .s 11] none <|
 .out [(3, .s 3), (10, .s 10), (11, .s 11), (12, .s 12), (13, .r 0)]
def e22r3 : EE := .q 0 (.ixs 1) [.s 10, .s 12] none <|
 .q 1 .ld [.r 0] none <|
 .out [(3, .s 3), (6, .r 1), (10, .s 10), (11, .s 11), (12, .s 12)]
def e22r4 : EE := .q 1 .nl [.s 6] none <|
 .q 2 (.fld 0) [.r 1] none <|
 .q 3 (.lda 2) [.r 2] none <|
 .q 4 (.lda 2) [.s 3] none <|
 .q 5 (.eqc false [(.i .i64), (.i .i64)]) [.r 3, .r 4] none <|
 .out [(3, .s 3), (6, .s 6), (10, .s 10), (11, .s 11), (12, .s 12), (21, .r 5)]
def e22r5 : EE := .out [(4, .s 6)]
def e22r6 : EE := .q 0 .add [.s 12, .c (.int .i64 1)] none <|
 .out [(3, .s 3), (10, .s 10), (11, .s 11), (12, .r 0)]
def e22l7 : EC := (.seq (.reg e22r2 [3, 10, 11, 12] 0) (.seq (.cond (.s 13) .skip (.exit 0)) (.seq (.block 1 (.seq (.reg e22r3 [3, 10, 11, 12] 0) (.seq (.reg e22r4 [3, 6, 10, 11, 12] 0) (.cond (.s 21) (.seq (.reg e22r5 [6] 0) .ret) .skip)))) (.reg e22r6 [3, 10, 11, 12] 0))))
def e22r8 : EE := .out [(4, .c .nptr)]
def e22 : EFn := ⟨(.seq (.reg e22r0 [0, 1] 0) (.seq (.seq (.reg e22r1 [0, 3] 0) (.block 0 (.loop [3, 10, 11, 12] e22l7))) (.seq (.reg e22r8 [] 0) .ret))), [.slot 4], 24, 0⟩
theorem g22 : Good Tryz.prog 22 e22 := ⟨Tryz.f22, Tryz.func22, by kernel_rfl, by kernel_rfl, by kernel_rfl, by kernel_rfl⟩
/-! concord/inst.Below -/
def e23r0 : EE := .x 0 (.box 35) [.s 0] none [] <|
 .x 1 (.box 35) [.s 1] none [] <|
 .out [(2, .r 0), (3, .r 1)]
def e23r1 : EE := .q 0 (.fld 0) [.s 2] none <|
 .q 1 .ld [.r 0] none <|
 .q 2 (.fld 0) [.s 3] none <|
 .q 3 .ld [.r 2] none <|
 .q 4 .lss [.r 1, .r 3] none <|
 .q 6 (.fld 0) [.s 2] (some (.r 4, false)) <|
 .q 7 .ld [.r 6] (some (.r 4, false)) <|
 .q 8 (.fld 0) [.s 3] (some (.r 4, false)) <|
 .q 9 .ld [.r 8] (some (.r 4, false)) <|
 .q 10 .eql [.r 7, .r 9] (some (.r 4, false)) <|
 .q 11 .mv [.r 10] (some (.r 4, false)) <|
 .q 12 (.fld 1) [.s 2] (some (.r 11, true)) <|
 .q 13 .ld [.r 12] (some (.r 11, true)) <|
 .q 14 (.fld 1) [.s 3] (some (.r 11, true)) <|
 .q 15 .ld [.r 14] (some (.r 11, true)) <|
 .q 16 .lss [.r 13, .r 15] (some (.r 11, true)) <|
 .q 17 .pick [.r 11, .r 16, .c (.bool false)] (some (.r 4, false)) <|
 .q 18 .pick [.r 4, .c (.bool true), .r 17] none <|
 .out [(4, .r 18)]
def e23 : EFn := ⟨(.seq (.reg e23r0 [0, 1] 0) (.seq (.reg e23r1 [2, 3] 0) .ret)), [.slot 4], 24, 0⟩
theorem g23 : Good Tryz.prog 23 e23 := ⟨Tryz.f23, Tryz.func23, by kernel_rfl, by kernel_rfl, by kernel_rfl, by kernel_rfl⟩
/-! concord/inst.Next -/
def e24r0 : EE := .x 0 (.box 35) [.s 0] none [] <|
 .x 1 (.alc [z, z] 35) [] none [] <|
 .out [(1, .s 1), (2, .r 0), (4, .r 1)]
def e24r1 : EE := .q 0 (.fld 0) [.s 2] none <|
 .q 1 .ld [.r 0] none <|
 .q 2 .add [.r 1, .c (.int .i64 1)] none <|
 .q 4 (.bld [z, z] [(0, 1), (1, 1)]) [.r 2, .s 1] none <|
 .x 5 (.st 2) [.s 4, .r 4] none [] <|
 .out [(4, .s 4)]
def e24 : EFn := ⟨(.seq (.reg e24r0 [0, 1] 0) (.seq (.reg e24r1 [1, 2, 4] 0) .ret)), [.cells 4 2], 10, 0⟩
theorem g24 : Good Tryz.prog 24 e24 := ⟨Tryz.f24, Tryz.func24, by kernel_rfl, by kernel_rfl, by kernel_rfl, by kernel_rfl⟩
/-! concord/inst.RightBallot -/
def e25r0 : EE := .x 0 (.box 35) [.s 0] none [] <|
 .out [(1, .r 0)]
def e25r1 : EE := .q 0 (.fld 0) [.s 1] none <|
 .q 1 .ld [.r 0] none <|
 .q 2 .geq [.r 1, .c z] none <|
 .q 4 (.fld 0) [.s 1] (some (.r 2, true)) <|
 .q 5 .ld [.r 4] (some (.r 2, true)) <|
 .q 6 .leq [.r 5, .c (.int .i64 1073741824)] (some (.r 2, true)) <|
 .q 7 .pick [.r 2, .r 6, .c (.bool false)] none <|
 .q 9 (.fld 1) [.s 1] (some (.r 7, true)) <|
 .q 10 .ld [.r 9] (some (.r 7, true)) <|
 .q 11 .geq [.r 10, .c z] (some (.r 7, true)) <|
 .q 12 .pick [.r 7, .r 11, .c (.bool false)] none <|
 .q 14 (.fld 1) [.s 1] (some (.r 12, true)) <|
 .q 15 .ld [.r 14] (some (.r 12, true)) <|
 .q 16 .lss [.r 15, .c (.int .i64 7)] (some (.r 12, true)) <|
 .q 17 .pick [.r 12, .r 16, .c (.bool false)] none <|
 .out [(2, .r 17)]
def e25 : EFn := ⟨(.seq (.reg e25r0 [0] 0) (.seq (.reg e25r1 [1] 0) .ret)), [.slot 2], 21, 0⟩
theorem g25 : Good Tryz.prog 25 e25 := ⟨Tryz.f25, Tryz.func25, by kernel_rfl, by kernel_rfl, by kernel_rfl, by kernel_rfl⟩
/-! concord/quorum.Fits -/
def e26r0 : EE := .out [(0, .s 0)]
def e26r1 : EE := .q 1 .eql [.s 0, .c (.int .i64 3)] none <|
 .q 3 .mv [.s 0] (some (.r 1, false)) <|
 .q 4 .eql [.r 3, .c (.int .i64 5)] (some (.r 1, false)) <|
 .q 5 .pick [.r 1, .c (.bool true), .r 4] none <|
 .q 7 .mv [.s 0] (some (.r 5, false)) <|
 .q 8 .eql [.r 7, .c (.int .i64 7)] (some (.r 5, false)) <|
 .q 9 .pick [.r 5, .c (.bool true), .r 8] none <|
 .out [(2, .r 9)]
def e26 : EFn := ⟨(.seq (.reg e26r0 [0] 0) (.seq (.reg e26r1 [0] 0) .ret)), [.slot 2], 13, 0⟩
theorem g26 : Good Tryz.prog 26 e26 := ⟨Tryz.f26, Tryz.func26, by kernel_rfl, by kernel_rfl, by kernel_rfl, by kernel_rfl⟩
/-! concord/log.New -/
def e27r0 : EE := .x 0 (.box 37) [.s 0] none [] <|
 .out [(1, .r 0)]
def e27r1 : EE := .x 0 .mkm [] none [] <|
 .q 1 (.bld [.nmap, z, z, z, z, z, z, z] [(0, 1)]) [.r 0] none <|
 .x 2 (.box 92) [.r 1] none [] <|
 .out [(1, .s 1), (3, .r 2)]
def e27r2 : EE := .q 1 (.lda 7) [.s 1] none <|
 .x 2 (.call 48) [.s 3, .r 1] none [] <|
 .out [(3, .s 3)]
def e27r3 : EE := .out [(2, .s 3)]
def e27 : EFn := ⟨(.seq (.reg e27r0 [0] 0) (.seq (.reg e27r1 [1] 0) (.seq (.reg e27r2 [1, 3] 0) (.seq (.reg e27r3 [3] 0) .ret)))), [.slot 2], 11, 0⟩
theorem g27 : Good Tryz.prog 27 e27 := ⟨Tryz.f27, Tryz.func27, by kernel_rfl, by kernel_rfl, by kernel_rfl, by kernel_rfl⟩
/-! concord/interf.New -/
def e28r0 : EE := .out []
def e28r1 : EE := .x 0 .mkm [] none [] <|
 .q 1 (.bld [.nmap, z, z, z, z, z, z, z] [(0, 1)]) [.r 0] none <|
 .x 2 (.box 97) [.r 1] none [] <|
 .out [(0, .r 2)]
def e28 : EFn := ⟨(.seq (.reg e28r0 [] 0) (.seq (.reg e28r1 [] 0) .ret)), [.slot 0], 4, 0⟩
theorem g28 : Good Tryz.prog 28 e28 := ⟨Tryz.f28, Tryz.func28, by kernel_rfl, by kernel_rfl, by kernel_rfl, by kernel_rfl⟩
/-! (*concord/interf.Index).Prune -/
def e29r0 : EE := .x 0 (.box 37) [.s 1] none [] <|
 .out [(0, .s 0), (3, .r 0)]
def e29r1 : EE := .q 0 (.lda 7) [.s 3] none <|
 .out [(0, .s 0), (7, .r 0), (8, .c z)]
def e29r2 : EE := .q 0 .lss [.s 8, .c (.int .i64 7)] none <|
 .out [(0, .s 0), (7, .s 7), (8, .s 8), (9, .r 0)]
def e29r3 : EE := .q 1 (.idx 7 1) [.s 7, .s 8] none <|
 .out [(0, .s 0), (4, .s 8), (5, .r 1), (7, .s 7), (8, .s 8)]
def e29r4 : EE := .q 4 .nl [.s 0] none <|
 .q 5 (.fld 1) [.r 4] none <|
 .q 6 (.ixa 7 1) [.r 5, .s 4] none <|
 .q 7 .ld [.r 6] none <|
 .q 9 .mx [.s 5, .c z] none <|
 .q 10 .mn [.r 9, .c (.int .i64 1073741824)] none <|
 .q 11 .mx [.r 7, .r 10] none <|
 .q 12 .nl [.s 0] none <|
 .q 13 (.fld 1) [.r 12] none <|
 .q 14 (.ixa 7 1) [.r 13, .s 4] none <|
 .x 15 (.st 1) [.r 14, .r 11] none [] <|
 .out [(0, .s 0), (7, .s 7), (8, .s 8)]
def e29r5 : EE := .q 0 .add [.s 8, .c (.int .i64 1)] none <|
 .out [(0, .s 0), (7, .s 7), (8, .r 0)]
def e29l6 : EC := (.seq (.reg e29r2 [0, 7, 8] 0) (.seq (.cond (.s 9) .skip (.exit 0)) (.seq (.block 1 (.seq (.reg e29r3 [0, 7, 8] 0) (.reg e29r4 [0, 4, 5, 7, 8] 0))) (.reg e29r5 [0, 7, 8] 0))))
def e29r7 : EE := .q 1 .nl [.s 0] none <|
 .q 2 (.fld 0) [.r 1] none <|
 .q 3 .ld [.r 2] none <|
 .x 4 .rng [.r 3] none [] <|
 .out [(0, .s 0), (32, .r 4)]
def e29r8 : EE := .x 0 .nxt [.s 32] none [] <|
 .q 1 (.ext 0) [.r 0] none <|
 .out [(0, .s 0), (32, .s 32), (34, .r 1)]
def e29r9 : EE := .q 0 .ent [.s 32] none <|
 .q 1 (.ext 0) [.r 0] none <|
 .x 2 (.alc [z, z] 25) [] none [] <|
 .x 3 (.st 2) [.r 2, .r 1] none [] <|
 .out [(0, .s 0), (6, .r 2), (32, .s 32)]
def e29r10 : EE := .q 0 (.fld 1) [.s 6] none <|
 .q 1 .ld [.r 0] none <|
 .q 3 (.fld 0) [.s 6] none <|
 .q 4 .ld [.r 3] none <|
 .q 5 .nl [.s 0] none <|
 .q 6 (.fld 1) [.r 5] none <|
 .q 7 (.ixa 7 1) [.r 6, .r 4] none <|
 .q 8 .ld [.r 7] none <|
 .q 9 .leq [.r 1, .r 8] none <|
 .out [(0, .s 0), (6, .s 6), (32, .s 32), (46, .r 9)]
def e29r11 : EE := .q 1 .nl [.s 0] none <|
 .q 2 (.fld 0) [.r 1] none <|
 .q 3 .ld [.r 2] none <|
 .q 4 (.lda 2) [.s 6] none <|
 .x 5 (.dlt true [(.i .i64), (.i .i64)]) [.r 3, .r 4] none [] <|
 .out [(0, .s 0), (32, .s 32)]
def e29l12 : EC := (.seq (.reg e29r8 [0, 32] 0) (.seq (.cond (.s 34) .skip (.exit 2)) (.block 3 (.seq (.reg e29r9 [0, 32] 0) (.seq (.reg e29r10 [0, 6, 32] 0) (.cond (.s 46) (.reg e29r11 [0, 6, 32] 0) .skip))))))
def e29 : EFn := ⟨(.seq (.reg e29r0 [0, 1] 0) (.seq (.seq (.reg e29r1 [0, 3] 0) (.block 0 (.loop [0, 7, 8] e29l6))) (.seq (.reg e29r7 [0] 0) (.block 2 (.loop [0, 32] e29l12))))), [], 52, 0⟩
theorem g29 : Good Tryz.prog 29 e29 := ⟨Tryz.f29, Tryz.func29, by kernel_rfl, by kernel_rfl, by kernel_rfl, by kernel_rfl⟩
/-! concord/log.Replay -/
def e30r0 : EE := .x 0 (.alc [z, z] 25) [] none [] <|
 .x 1 (.alc [z, z, z, z, z, z, z, z, zs, zs, zs, zs, z, z, z, z, z, z, z, z, (.bool false)] 41) [] none [] <|
 .out [(0, .s 0), (2, .r 0), (3, .r 1)]
def e30r1 : EE := .x 1 (.call 49) [.s 0] none [] <|
 .out [(2, .s 2), (3, .s 3), (5, .r 1)]
def e30r2 : EE := .x 0 (.alc [z, z] 25) [] none [] <|
 .out [(2, .s 2), (3, .s 3), (5, .s 5), (6, .r 0)]
def e30r3 : EE := .x 1 (.call 50) [.s 5] none [] <|
 .q 2 (.fld 0) [.s 6] none <|
 .x 3 (.st 1) [.r 2, .r 1] none [] <|
 .out [(2, .s 2), (3, .s 3), (5, .s 5), (6, .s 6)]
def e30r4 : EE := .x 1 (.call 50) [.s 5] none [] <|
 .q 2 (.fld 1) [.s 6] none <|
 .x 3 (.st 1) [.r 2, .r 1] none [] <|
 .out [(2, .s 2), (3, .s 3), (5, .s 5), (6, .s 6)]
def e30r5 : EE := .x 1 (.call 51) [.s 5] none [] <|
 .x 2 (.alc [z, z, z, z, z, z, z, z, zs, zs, zs, zs, z, z, z, z, z, z, z, z, (.bool false)] 41) [] none [] <|
 .x 3 (.st 21) [.r 2, .r 1] none [] <|
 .out [(2, .s 2), (3, .s 3), (5, .s 5), (6, .s 6), (7, .r 2)]
def e30r6 : EE := .x 1 (.call 52) [.s 5] none [] <|
 .out [(2, .s 2), (3, .s 3), (6, .s 6), (7, .s 7), (8, .r 1)]
def e30r7 : EE := .q 1 .neq [.s 8, .c z] none <|
 .out [(2, .s 2), (3, .s 3), (6, .s 6), (7, .s 7), (8, .s 8), (22, .r 1)]
def e30r8 : EE := .q 0 (.bld [z, z] []) [] none <|
 .q 1 (.bld [z, z, z, z, z, z, z, z, zs, zs, zs, zs, z, z, z, z, z, z, z, z, (.bool false)] []) [] none <|
 .x 3 (.st 2) [.s 2, .r 0] none [] <|
 .x 4 (.st 21) [.s 3, .r 1] none [] <|
 .out [(2, .s 2), (3, .s 3), (4, .s 8)]
def e30r9 : EE := .q 0 (.lda 2) [.s 6] none <|
 .x 1 (.call 36) [.r 0] none [] <|
 .q 2 .not [.r 1] none <|
 .out [(2, .s 2), (3, .s 3), (6, .s 6), (7, .s 7), (28, .r 2)]
def e30r10 : EE := .q 0 (.bld [z, z] []) [] none <|
 .q 1 (.bld [z, z, z, z, z, z, z, z, zs, zs, zs, zs, z, z, z, z, z, z, z, z, (.bool false)] []) [] none <|
 .x 2 (.st 2) [.s 2, .r 0] none [] <|
 .x 3 (.st 21) [.s 3, .r 1] none [] <|
 .out [(2, .s 2), (3, .s 3), (4, .c (.int .i64 4))]
def e30r11 : EE := .q 0 (.lda 2) [.s 6] none <|
 .q 1 (.lda 21) [.s 7] none <|
 .x 2 (.st 2) [.s 2, .r 0] none [⟨1, (.lda 21), [.s 7], none⟩] <|
 .x 3 (.st 21) [.s 3, .r 1] none [] <|
 .out [(2, .s 2), (3, .s 3), (4, .c z)]
def e30 : EFn := ⟨(.seq (.reg e30r0 [0] 0) (.seq (.reg e30r1 [0, 2, 3] 0) (.seq (.reg e30r2 [2, 3, 5] 0) (.seq (.reg e30r3 [2, 3, 5, 6] 0) (.seq (.reg e30r4 [2, 3, 5, 6] 0) (.seq (.reg e30r5 [2, 3, 5, 6] 0) (.seq (.seq (.reg e30r6 [2, 3, 5, 6, 7] 0) (.seq (.reg e30r7 [2, 3, 6, 7, 8] 0) (.cond (.s 22) (.seq (.reg e30r8 [2, 3, 8] 0) .ret) .skip))) (.seq (.seq (.reg e30r9 [2, 3, 6, 7] 0) (.cond (.s 28) (.seq (.reg e30r10 [2, 3] 0) .ret) .skip)) (.seq (.reg e30r11 [2, 3, 6, 7] 0) .ret))))))))), [.cells 2 2, .cells 3 21, .slot 4], 33, 0⟩
theorem g30 : Good Tryz.prog 30 e30 := ⟨Tryz.f30, Tryz.func30, by kernel_rfl, by kernel_rfl, by kernel_rfl, by kernel_rfl⟩
/-! (*concord/log.Log).Set -/
def e31r0 : EE := .x 0 (.box 25) [.s 1] none [] <|
 .x 1 (.box 41) [.s 2] none [] <|
 .out [(0, .s 0), (4, .r 0), (5, .r 1)]
def e31r1 : EE := .q 0 (.lda 2) [.s 4] none <|
 .x 1 (.call 36) [.r 0] none [] <|
 .q 2 .not [.r 1] none <|
 .q 4 .mv [.s 0] (some (.r 2, false)) <|
 .q 5 (.lda 2) [.s 4] (some (.r 2, false)) <|
 .x 6 (.call 43) [.r 4, .r 5] (some (.r 2, false)) [] <|
 .q 7 .pick [.r 2, .c (.bool true), .r 6] none <|
 .q 9 (.lda 21) [.s 5] (some (.r 7, false)) <|
 .x 10 (.call 53) [.r 9] (some (.r 7, false)) [] <|
 .q 11 .not [.r 10] (some (.r 7, false)) <|
 .q 12 .pick [.r 7, .c (.bool true), .r 11] none <|
 .out [(0, .s 0), (4, .s 4), (5, .s 5), (21, .r 12)]
def e31r2 : EE := .out [(6, .c (.bool false))]
def e31r3 : EE := .q 1 .nl [.s 0] none <|
 .q 2 (.fld 0) [.r 1] none <|
 .q 3 .ld [.r 2] none <|
 .q 4 (.lda 2) [.s 4] none <|
 .q 5 (.lkp true [(.i .i64), (.i .i64)] (.agg [z, z, z, z, z, z, z, z, zs, zs, zs, zs, z, z, z, z, z, z, z, z, (.bool false)]) true) [.r 3, .r 4] none <|
 .q 7 (.ext 0) [.r 5] none <|
 .q 8 (.ext 1) [.r 5] none <|
 .x 9 (.alc [z, z, z, z, z, z, z, z, zs, zs, zs, zs, z, z, z, z, z, z, z, z, (.bool false)] 41) [] none [⟨3, .ld, [.r 2], none⟩, ⟨4, (.lda 2), [.s 4], none⟩, ⟨5, (.lkp true [(.i .i64), (.i .i64)] (.agg [z, z, z, z, z, z, z, z, zs, zs, zs, zs, z, z, z, z, z, z, z, z, (.bool false)]) true), [.r 3, .r 4], none⟩] <|
 .x 10 (.st 21) [.r 9, .r 7] none [] <|
 .out [(0, .s 0), (4, .s 4), (5, .s 5), (7, .r 9), (8, .r 8)]
def e31r4 : EE := .q 2 (.lda 21) [.s 7] (some (.s 8, true)) <|
 .q 3 (.lda 21) [.s 5] (some (.s 8, true)) <|
 .x 4 (.call 54) [.r 2, .r 3] (some (.s 8, true)) [] <|
 .q 5 .not [.r 4] (some (.s 8, true)) <|
 .q 6 .pick [.s 8, .r 5, .c (.bool false)] none <|
 .out [(0, .s 0), (4, .s 4), (5, .s 5), (37, .r 6)]
def e31r5 : EE := .out [(6, .c (.bool false))]
def e31r6 : EE := .q 1 .nl [.s 0] none <|
 .q 2 (.fld 0) [.r 1] none <|
 .q 3 .ld [.r 2] none <|
 .q 4 (.lda 2) [.s 4] none <|
 .q 5 (.lda 21) [.s 5] none <|
 .x 6 (.mup true [(.i .i64), (.i .i64)]) [.r 3, .r 4, .r 5] none [] <|
 .out []
def e31r7 : EE := .out [(6, .c (.bool true))]
def e31 : EFn := ⟨(.seq (.reg e31r0 [0, 1, 2] 0) (.seq (.seq (.reg e31r1 [0, 4, 5] 0) (.cond (.s 21) (.seq (.reg e31r2 [] 0) .ret) .skip)) (.seq (.seq (.reg e31r3 [0, 4, 5] 0) (.seq (.reg e31r4 [0, 4, 5, 7, 8] 0) (.cond (.s 37) (.seq (.reg e31r5 [] 0) .ret) .skip))) (.seq (.reg e31r6 [0, 4, 5] 0) (.seq (.reg e31r7 [] 0) .ret))))), [.slot 6], 44, 0⟩
theorem g31 : Good Tryz.prog 31 e31 := ⟨Tryz.f31, Tryz.func31, by kernel_rfl, by kernel_rfl, by kernel_rfl, by kernel_rfl⟩
/-! (*concord/core.Core).note -/
def e32r0 : EE := .x 0 (.box 25) [.s 1] none [] <|
 .x 1 (.box 41) [.s 2] none [] <|
 .out [(0, .s 0), (4, .r 0), (5, .r 1)]
def e32r1 : EE := .q 0 (.fld 0) [.s 5] none <|
 .q 1 .ld [.r 0] none <|
 .q 2 .neq [.r 1, .c z] none <|
 .out [(0, .s 0), (4, .s 4), (5, .s 5), (8, .r 2)]
def e32r2 : EE := .q 1 .nl [.s 0] none <|
 .q 2 (.fld 3) [.r 1] none <|
 .q 3 .ld [.r 2] none <|
 .q 4 (.lda 2) [.s 4] none <|
 .q 5 (.fld 5) [.s 5] none <|
 .q 6 (.lda 7) [.r 5] none <|
 .q 7 (.fld 12) [.s 5] none <|
 .q 8 (.fld 0) [.r 7] none <|
 .q 9 .ld [.r 8] none <|
 .x 10 (.call 55) [.r 3, .r 4, .r 6, .r 9] none [] <|
 .out []
def e32 : EFn := ⟨(.seq (.reg e32r0 [0, 1, 2] 0) (.seq (.reg e32r1 [0, 4, 5] 0) (.cond (.s 8) (.reg e32r2 [0, 4, 5] 0) .skip))), [], 20, 0⟩
theorem g32 : Good Tryz.prog 32 e32 := ⟨Tryz.f32, Tryz.func32, by kernel_rfl, by kernel_rfl, by kernel_rfl, by kernel_rfl⟩
/-! concord/cmd.within -/
def e33r0 : EE := .out [(0, .s 0), (1, .s 1)]
def e33r1 : EE := .q 1 .geq [.s 0, .c (.int .i64 1)] none <|
 .q 3 .mv [.s 0] (some (.r 1, true)) <|
 .q 4 .mv [.s 1] (some (.r 1, true)) <|
 .q 5 .leq [.r 3, .r 4] (some (.r 1, true)) <|
 .q 6 .pick [.r 1, .r 5, .c (.bool false)] none <|
 .out [(4, .r 6)]
def e33 : EFn := ⟨(.seq (.reg e33r0 [0, 1] 0) (.seq (.reg e33r1 [0, 1] 0) .ret)), [.slot 4], 12, 0⟩
theorem g33 : Good Tryz.prog 33 e33 := ⟨Tryz.f33, Tryz.func33, by kernel_rfl, by kernel_rfl, by kernel_rfl, by kernel_rfl⟩
/-! concord/cmd.bare -/
def e34r0 : EE := .x 0 (.box 30) [.s 0] none [] <|
 .x 1 (.alc [z, z, z, zs, zs, zs, zs] 30) [] none [] <|
 .out [(1, .r 0), (2, .r 1)]
def e34r1 : EE := .q 0 (.fld 0) [.s 1] none <|
 .q 1 .ld [.r 0] none <|
 .q 2 (.fld 1) [.s 1] none <|
 .q 3 .ld [.r 2] none <|
 .q 4 (.fld 2) [.s 1] none <|
 .q 5 .ld [.r 4] none <|
 .q 6 (.fld 3) [.s 1] none <|
 .q 7 .ld [.r 6] none <|
 .q 8 (.bld [z, z, z, zs, zs, zs, zs] [(0, 1), (1, 1), (2, 1), (3, 1)]) [.r 1, .r 3, .r 5, .r 7] none <|
 .x 9 (.alc [z, z, z, zs, zs, zs, zs] 30) [] none [] <|
 .x 10 (.st 7) [.r 9, .r 8] none [] <|
 .out [(1, .s 1), (2, .s 2), (3, .r 9)]
def e34r2 : EE := .q 0 (.fld 0) [.s 1] none <|
 .q 1 .ld [.r 0] none <|
 .out [(1, .s 1), (2, .s 2), (3, .s 3), (14, .r 1)]
def e34r3 : EE := .q 0 .eql [.s 14, .c (.int .i64 2)] none <|
 .out [(1, .s 1), (2, .s 2), (3, .s 3), (14, .s 14), (15, .r 0)]
def e34r4 : EE := .q 0 (.fld 6) [.s 1] none <|
 .q 1 .ld [.r 0] none <|
 .q 2 (.fld 6) [.s 3] none <|
 .x 3 (.st 1) [.r 2, .r 1] none [] <|
 .out [(2, .s 2), (3, .s 3)]
def e34r5 : EE := .q 0 .eql [.s 14, .c (.int .i64 4)] none <|
 .out [(1, .s 1), (2, .s 2), (3, .s 3), (14, .s 14), (20, .r 0)]
def e34r6 : EE := .q 0 (.fld 5) [.s 1] none <|
 .q 1 .ld [.r 0] none <|
 .q 2 (.fld 6) [.s 1] none <|
 .q 3 .ld [.r 2] none <|
 .q 4 (.fld 5) [.s 3] none <|
 .x 5 (.st 1) [.r 4, .r 1] none [⟨3, .ld, [.r 2], none⟩] <|
 .q 6 (.fld 6) [.s 3] none <|
 .x 7 (.st 1) [.r 6, .r 3] none [] <|
 .out [(2, .s 2), (3, .s 3)]
def e34r7 : EE := .q 0 .eql [.s 14, .c (.int .i64 5)] none <|
 .out [(1, .s 1), (2, .s 2), (3, .s 3), (28, .r 0)]
def e34r8 : EE := .q 0 (.fld 4) [.s 1] none <|
 .q 1 .ld [.r 0] none <|
 .q 2 (.fld 4) [.s 3] none <|
 .x 3 (.st 1) [.r 2, .r 1] none [] <|
 .out [(2, .s 2), (3, .s 3)]
def e34r9 : EE := .q 0 (.lda 7) [.s 3] none <|
 .x 1 (.st 7) [.s 2, .r 0] none [] <|
 .out [(2, .s 2)]
def e34 : EFn := ⟨(.seq (.reg e34r0 [0] 0) (.seq (.reg e34r1 [1, 2] 0) (.seq (.seq (.reg e34r2 [1, 2, 3] 0) (.block 0 (.seq (.reg e34r3 [1, 2, 3, 14] 0) (.cond (.s 15) (.reg e34r4 [1, 2, 3] 0) (.seq (.reg e34r5 [1, 2, 3, 14] 0) (.cond (.s 20) (.reg e34r6 [1, 2, 3] 0) (.seq (.reg e34r7 [1, 2, 3, 14] 0) (.cond (.s 28) (.reg e34r8 [1, 2, 3] 0) .skip)))))))) (.seq (.reg e34r9 [2, 3] 0) .ret)))), [.cells 2 7], 34, 0⟩
theorem g34 : Good Tryz.prog 34 e34 := ⟨Tryz.f34, Tryz.func34, by kernel_rfl, by kernel_rfl, by kernel_rfl, by kernel_rfl⟩
/-! concord/cmd.Clash -/
def e35r0 : EE := .x 0 (.box 30) [.s 0] none [] <|
 .x 1 (.box 30) [.s 1] none [] <|
 .out [(2, .r 0), (3, .r 1)]
def e35r1 : EE := .q 0 (.lda 7) [.s 2] none <|
 .x 1 (.call 56) [.r 0] none [] <|
 .q 3 (.ext 0) [.r 1] none <|
 .q 4 (.ext 1) [.r 1] none <|
 .x 5 (.alc [zs, zs] 114) [] none [] <|
 .x 6 (.st 2) [.r 5, .r 3] none [] <|
 .out [(2, .s 2), (3, .s 3), (5, .r 5), (6, .r 4)]
def e35r2 : EE := .q 0 (.lda 7) [.s 3] none <|
 .x 1 (.call 56) [.r 0] none [] <|
 .q 3 (.ext 0) [.r 1] none <|
 .q 4 (.ext 1) [.r 1] none <|
 .x 5 (.alc [zs, zs] 114) [] none [] <|
 .x 6 (.st 2) [.r 5, .r 3] none [] <|
 .out [(2, .s 2), (3, .s 3), (5, .s 5), (6, .s 6), (7, .r 5), (8, .r 4)]
def e35r3 : EE := .q 1 .not [.s 6] none <|
 .q 3 .mv [.s 8] (some (.r 1, false)) <|
 .q 4 .not [.r 3] (some (.r 1, false)) <|
 .q 5 .pick [.r 1, .c (.bool true), .r 4] none <|
 .out [(2, .s 2), (3, .s 3), (5, .s 5), (7, .s 7), (24, .r 5)]
def e35r4 : EE := .out [(4, .c (.bool false))]
def e35r5 : EE := .q 0 (.fld 1) [.s 2] none <|
 .q 1 .ld [.r 0] none <|
 .q 2 (.fld 1) [.s 3] none <|
 .q 3 .ld [.r 2] none <|
 .q 4 .eql [.r 1, .r 3] none <|
 .q 6 (.lda 7) [.s 2] (some (.r 4, false)) <|
 .x 7 (.call 57) [.r 6] (some (.r 4, false)) [] <|
 .q 8 .mv [.r 7] (some (.r 4, false)) <|
 .q 9 (.lda 7) [.s 3] (some (.r 8, false)) <|
 .x 10 (.call 57) [.r 9] (some (.r 8, false)) [] <|
 .q 11 .pick [.r 8, .c (.bool true), .r 10] (some (.r 4, false)) <|
 .q 12 .mv [.r 11] (some (.r 4, false)) <|
 .q 13 (.lda 2) [.s 5] (some (.r 12, true)) <|
 .q 14 (.lda 2) [.s 7] (some (.r 12, true)) <|
 .x 15 (.call 58) [.r 13, .r 14] (some (.r 12, true)) [] <|
 .q 16 .pick [.r 12, .r 15, .c (.bool false)] (some (.r 4, false)) <|
 .q 17 .pick [.r 4, .c (.bool true), .r 16] none <|
 .out [(4, .r 17)]
def e35 : EFn := ⟨(.seq (.reg e35r0 [0, 1] 0) (.seq (.reg e35r1 [2, 3] 0) (.seq (.reg e35r2 [2, 3, 5, 6] 0) (.seq (.seq (.reg e35r3 [2, 3, 5, 6, 7, 8] 0) (.cond (.s 24) (.seq (.reg e35r4 [] 0) .ret) .skip)) (.seq (.reg e35r5 [2, 3, 5, 7] 0) .ret))))), [.slot 4], 43, 0⟩
theorem g35 : Good Tryz.prog 35 e35 := ⟨Tryz.f35, Tryz.func35, by kernel_rfl, by kernel_rfl, by kernel_rfl, by kernel_rfl⟩
/-! concord/inst.Right -/
def e36r0 : EE := .x 0 (.box 25) [.s 0] none [] <|
 .out [(1, .r 0)]
def e36r1 : EE := .q 0 (.fld 0) [.s 1] none <|
 .q 1 .ld [.r 0] none <|
 .q 2 .geq [.r 1, .c z] none <|
 .q 4 (.fld 0) [.s 1] (some (.r 2, true)) <|
 .q 5 .ld [.r 4] (some (.r 2, true)) <|
 .q 6 .lss [.r 5, .c (.int .i64 7)] (some (.r 2, true)) <|
 .q 7 .pick [.r 2, .r 6, .c (.bool false)] none <|
 .q 9 (.fld 1) [.s 1] (some (.r 7, true)) <|
 .q 10 .ld [.r 9] (some (.r 7, true)) <|
 .q 11 .geq [.r 10, .c (.int .i64 1)] (some (.r 7, true)) <|
 .q 12 .pick [.r 7, .r 11, .c (.bool false)] none <|
 .q 14 (.fld 1) [.s 1] (some (.r 12, true)) <|
 .q 15 .ld [.r 14] (some (.r 12, true)) <|
 .q 16 .leq [.r 15, .c (.int .i64 1073741824)] (some (.r 12, true)) <|
 .q 17 .pick [.r 12, .r 16, .c (.bool false)] none <|
 .out [(2, .r 17)]
def e36 : EFn := ⟨(.seq (.reg e36r0 [0] 0) (.seq (.reg e36r1 [1] 0) .ret)), [.slot 2], 21, 0⟩
theorem g36 : Good Tryz.prog 36 e36 := ⟨Tryz.f36, Tryz.func36, by kernel_rfl, by kernel_rfl, by kernel_rfl, by kernel_rfl⟩
/-! concord/log.Record -/
def e37r0 : EE := .x 0 (.box 25) [.s 0] none [] <|
 .x 1 (.box 41) [.s 1] none [] <|
 .out [(2, .r 0), (3, .r 1)]
def e37r1 : EE := .q 0 (.fld 0) [.s 2] none <|
 .q 1 .ld [.r 0] none <|
 .q 3 (.fld 1) [.s 2] none <|
 .q 4 .ld [.r 3] none <|
 .q 6 (.lda 21) [.s 3] none <|
 .x 2 (.call 60) [.c .nsl, .r 1] none [⟨4, .ld, [.r 3], none⟩, ⟨6, (.lda 21), [.s 3], none⟩] <|
 .x 5 (.call 60) [.r 2, .r 4] none [⟨6, (.lda 21), [.s 3], none⟩] <|
 .x 7 (.call 59) [.r 5, .r 6] none [] <|
 .out [(4, .r 7)]
def e37 : EFn := ⟨(.seq (.reg e37r0 [0, 1] 0) (.seq (.reg e37r1 [2, 3] 0) .ret)), [.slot 4], 13, 0⟩
theorem g37 : Good Tryz.prog 37 e37 := ⟨Tryz.f37, Tryz.func37, by kernel_rfl, by kernel_rfl, by kernel_rfl, by kernel_rfl⟩
/-! (*concord/core.Core).take -/
def e38r0 : EE := .q 2 .nl [.s 1] none <|
 .q 3 (.fld 0) [.r 2] none <|
 .q 4 (.lda 2) [.r 3] none <|
 .x 5 (.call 61) [.s 0, .r 4] none [] <|
 .out [(0, .s 0), (1, .s 1)]
def e38r1 : EE := .out [(0, .s 0), (1, .s 1), (4, .c z)]
def e38r2 : EE := .q 2 .nl [.s 0] none <|
 .q 3 (.fld 4) [.r 2] none <|
 .q 4 .ld [.r 3] none <|
 .q 5 .len [.r 4] none <|
 .q 6 .lss [.s 4, .r 5] none <|
 .q 8 .mv [.s 0] (some (.r 6, true)) <|
 .q 9 .nl [.r 8] (some (.r 6, true)) <|
 .q 10 (.fld 4) [.r 9] (some (.r 6, true)) <|
 .q 11 .ld [.r 10] (some (.r 6, true)) <|
 .q 12 .mv [.s 4] (some (.r 6, true)) <|
 .q 13 (.ixs 1) [.r 11, .r 12] (some (.r 6, true)) <|
 .q 14 .ld [.r 13] (some (.r 6, true)) <|
 .q 15 .nl [.r 14] (some (.r 6, true)) <|
 .q 16 (.fld 0) [.r 15] (some (.r 6, true)) <|
 .q 17 (.lda 2) [.r 16] (some (.r 6, true)) <|
 .q 18 .mv [.s 1] (some (.r 6, true)) <|
 .q 19 .nl [.r 18] (some (.r 6, true)) <|
 .q 20 (.fld 0) [.r 19] (some (.r 6, true)) <|
 .q 21 (.lda 2) [.r 20] (some (.r 6, true)) <|
 .x 22 (.call 62) [.r 17, .r 21] (some (.r 6, true)) [] <|
 .q 23 .pick [.r 6, .r 22, .c (.bool false)] none <|
 .out [(0, .s 0), (1, .s 1), (4, .s 4), (34, .r 23)]
def e38r3 : EE := .q 1 .add [.s 4, .c (.int .i64 1)] none <|
 .out [(0, .s 0), (1, .s 1), (4, .r 1)]
def e38l4 : EC := (.seq (.seq (.reg e38r2 [0, 1, 4] 0) (.cond (.s 34) .skip (.exit 0))) (.block 1 (.reg e38r3 [0, 1, 4] 0)))
def e38r5 : EE := .q 2 .nl [.s 0] none <|
 .q 3 (.fld 4) [.r 2] none <|
 .q 4 .ld [.r 3] none <|
 .x 7 (.bsl 66 1 [.nptr] [(0, 1)]) [.s 1] none [] <|
 .x 8 (.call 63) [.r 4, .s 4, .r 7] none [] <|
 .q 9 .nl [.s 0] none <|
 .q 10 (.fld 4) [.r 9] none <|
 .x 11 (.st 1) [.r 10, .r 8] none [] <|
 .out []
def e38 : EFn := ⟨(.seq (.reg e38r0 [0, 1] 0) (.seq (.reg e38r1 [0, 1] 0) (.seq (.block 0 (.loop [0, 1, 4] e38l4)) (.reg e38r5 [0, 1, 4] 0)))), [], 48, 0⟩
theorem g38 : Good Tryz.prog 38 e38 := ⟨Tryz.f38, Tryz.func38, by kernel_rfl, by kernel_rfl, by kernel_rfl, by kernel_rfl⟩
/-! (*concord/core.Core).all -/
def e39r0 : EE := .x 0 (.box 45) [.s 1] none [] <|
 .x 1 (.box 36) [.s 2] none [] <|
 .out [(0, .s 0), (4, .r 0), (5, .r 1)]
def e39r1 : EE := .q 1 .nl [.s 0] none <|
 .q 2 (.fld 0) [.r 1] none <|
 .q 3 .ld [.r 2] none <|
 .out [(0, .s 0), (4, .s 4), (5, .s 5), (10, .r 3), (11, .c z)]
def e39r2 : EE := .q 0 .lss [.s 11, .s 10] none <|
 .out [(0, .s 0), (4, .s 4), (5, .s 5), (10, .s 10), (11, .s 11), (12, .r 0)]
def e39r3 : EE := .out [(0, .s 0), (4, .s 4), (5, .s 5), (6, .s 11), (10, .s 10), (11, .s 11)]
def e39r4 : EE := .q 2 .nl [.s 0] none <|
 .q 3 (.fld 1) [.r 2] none <|
 .q 4 .ld [.r 3] none <|
 .q 5 .neq [.s 6, .r 4] none <|
 .q 7 .mv [.s 6] (some (.r 5, true)) <|
 .q 8 (.ixa 7 1) [.s 5, .r 7] (some (.r 5, true)) <|
 .q 9 .ld [.r 8] (some (.r 5, true)) <|
 .q 10 .eql [.r 9, .c z] (some (.r 5, true)) <|
 .q 11 .pick [.r 5, .r 10, .c (.bool false)] none <|
 .out [(0, .s 0), (4, .s 4), (5, .s 5), (6, .s 6), (10, .s 10), (11, .s 11), (25, .r 11)]
def e39r5 : EE := .q 2 (.lda 51) [.s 4] none <|
 .x 3 (.call 64) [.s 0, .s 6, .r 2] none [] <|
 .out [(0, .s 0), (4, .s 4), (5, .s 5), (10, .s 10), (11, .s 11)]
def e39r6 : EE := .q 0 .add [.s 11, .c (.int .i64 1)] none <|
 .out [(0, .s 0), (4, .s 4), (5, .s 5), (10, .s 10), (11, .r 0)]
def e39l7 : EC := (.seq (.reg e39r2 [0, 4, 5, 10, 11] 0) (.seq (.cond (.s 12) .skip (.exit 0)) (.seq (.block 1 (.seq (.reg e39r3 [0, 4, 5, 10, 11] 0) (.seq (.reg e39r4 [0, 4, 5, 6, 10, 11] 0) (.cond (.s 25) (.reg e39r5 [0, 4, 5, 6, 10, 11] 0) .skip)))) (.reg e39r6 [0, 4, 5, 10, 11] 0))))
def e39 : EFn := ⟨(.seq (.reg e39r0 [0, 1, 2] 0) (.seq (.reg e39r1 [0, 4, 5] 0) (.block 0 (.loop [0, 4, 5, 10, 11] e39l7)))), [], 31, 0⟩
theorem g39 : Good Tryz.prog 39 e39 := ⟨Tryz.f39, Tryz.func39, by kernel_rfl, by kernel_rfl, by kernel_rfl, by kernel_rfl⟩
/-! (*concord/core.lead).ask -/
def e40r0 : EE := .x 0 (.alc [z, z, z, z, z, z, z, z, z, z, zs, zs, zs, zs, z, z, z, z, z, z, z, z, z, z, z, z, z, z, z, z, zs, zs, zs, zs, z, z, z, z, z, z, z, z, (.bool false), z, z, z, z, z, z, z, zs] 45) [] none [] <|
 .out [(0, .s 0), (2, .r 0)]
def e40r1 : EE := .q 1 .nl [.s 0] none <|
 .q 2 (.fld 0) [.r 1] none <|
 .q 3 (.lda 2) [.r 2] none <|
 .q 5 .nl [.s 0] none <|
 .q 6 (.fld 3) [.r 5] none <|
 .q 7 (.lda 2) [.r 6] none <|
 .q 8 (.bld [z, z, z, z, z, z, z, z, z, z, zs, zs, zs, zs, z, z, z, z, z, z, z, z, z, z, z, z, z, z, z, z, zs, zs, zs, zs, z, z, z, z, z, z, z, z, (.bool false), z, z, z, z, z, z, z, zs] [(3, 2), (5, 2)]) [.r 3, .r 7] none <|
 .x 9 (.alc [z, z, z, z, z, z, z, z, z, z, zs, zs, zs, zs, z, z, z, z, z, z, z, z, z, z, z, z, z, z, z, z, zs, zs, zs, zs, z, z, z, z, z, z, z, z, (.bool false), z, z, z, z, z, z, z, zs] 45) [] none [⟨3, (.lda 2), [.r 2], none⟩, ⟨7, (.lda 2), [.r 6], none⟩] <|
 .x 10 (.st 51) [.r 9, .r 8] none [] <|
 .out [(0, .s 0), (2, .s 2), (3, .r 9)]
def e40r2 : EE := .q 1 .nl [.s 0] none <|
 .q 2 (.fld 2) [.r 1] none <|
 .q 3 .ld [.r 2] none <|
 .out [(0, .s 0), (2, .s 2), (3, .s 3), (16, .r 3)]
def e40r3 : EE := .q 0 .eql [.s 16, .c z] none <|
 .out [(0, .s 0), (2, .s 2), (3, .s 3), (16, .s 16), (18, .r 0)]
def e40r4 : EE := .q 1 .nl [.s 0] none <|
 .q 2 (.fld 6) [.r 1] none <|
 .q 3 (.lda 7) [.r 2] none <|
 .q 5 .nl [.s 0] none <|
 .q 6 (.fld 13) [.r 5] none <|
 .q 7 (.lda 8) [.r 6] none <|
 .q 8 (.fld 0) [.s 3] none <|
 .x 9 (.st 1) [.r 8, .c (.int .i64 1)] none [⟨3, (.lda 7), [.r 2], none⟩, ⟨7, (.lda 8), [.r 6], none⟩] <|
 .q 10 (.fld 7) [.s 3] none <|
 .x 11 (.st 7) [.r 10, .r 3] none [⟨7, (.lda 8), [.r 6], none⟩] <|
 .q 12 (.fld 14) [.s 3] none <|
 .x 13 (.st 8) [.r 12, .r 7] none [] <|
 .out [(2, .s 2), (3, .s 3)]
def e40r5 : EE := .q 0 .eql [.s 16, .c (.int .i64 1)] none <|
 .out [(0, .s 0), (2, .s 2), (3, .s 3), (31, .r 0)]
def e40r6 : EE := .q 1 .nl [.s 0] none <|
 .q 2 (.fld 6) [.r 1] none <|
 .q 3 (.lda 7) [.r 2] none <|
 .q 5 .nl [.s 0] none <|
 .q 6 (.fld 13) [.r 5] none <|
 .q 7 (.lda 8) [.r 6] none <|
 .q 8 (.fld 0) [.s 3] none <|
 .x 9 (.st 1) [.r 8, .c (.int .i64 3)] none [⟨3, (.lda 7), [.r 2], none⟩, ⟨7, (.lda 8), [.r 6], none⟩] <|
 .q 10 (.fld 7) [.s 3] none <|
 .x 11 (.st 7) [.r 10, .r 3] none [⟨7, (.lda 8), [.r 6], none⟩] <|
 .q 12 (.fld 14) [.s 3] none <|
 .x 13 (.st 8) [.r 12, .r 7] none [] <|
 .out [(2, .s 2), (3, .s 3)]
def e40r7 : EE := .q 0 (.fld 0) [.s 3] none <|
 .x 1 (.st 1) [.r 0, .c (.int .i64 6)] none [] <|
 .out [(2, .s 2), (3, .s 3)]
def e40r8 : EE := .q 0 (.lda 51) [.s 3] none <|
 .x 1 (.st 51) [.s 2, .r 0] none [] <|
 .out [(2, .s 2)]
def e40 : EFn := ⟨(.seq (.reg e40r0 [0] 0) (.seq (.reg e40r1 [0, 2] 0) (.seq (.seq (.reg e40r2 [0, 2, 3] 0) (.block 0 (.seq (.reg e40r3 [0, 2, 3, 16] 0) (.cond (.s 18) (.reg e40r4 [0, 2, 3] 0) (.seq (.reg e40r5 [0, 2, 3, 16] 0) (.cond (.s 31) (.reg e40r6 [0, 2, 3] 0) (.reg e40r7 [2, 3] 0))))))) (.seq (.reg e40r8 [2, 3] 0) .ret)))), [.cells 2 51], 45, 0⟩
theorem g40 : Good Tryz.prog 40 e40 := ⟨Tryz.f40, Tryz.func40, by kernel_rfl, by kernel_rfl, by kernel_rfl, by kernel_rfl⟩
/-! concord/letter.Right -/
def e41r0 : EE := .x 0 (.box 45) [.s 0] none [] <|
 .out [(1, .r 0)]
def e41r1 : EE := .q 0 (.fld 0) [.s 1] none <|
 .q 1 .ld [.r 0] none <|
 .x 2 (.call 65) [.r 1] none [] <|
 .q 4 (.ext 0) [.r 2] none <|
 .q 5 (.ext 1) [.r 2] none <|
 .x 6 (.alc [(.bool false), (.bool false), (.bool false), (.bool false), (.bool false), (.bool false), (.bool false)] 125) [] none [] <|
 .x 7 (.st 7) [.r 6, .r 4] none [] <|
 .out [(1, .s 1), (3, .r 6), (4, .r 5)]
def e41r2 : EE := .q 1 .not [.s 4] none <|
 .q 3 (.fld 1) [.s 1] (some (.r 1, false)) <|
 .q 4 .ld [.r 3] (some (.r 1, false)) <|
 .x 5 (.call 66) [.r 4] (some (.r 1, false)) [] <|
 .q 6 .not [.r 5] (some (.r 1, false)) <|
 .q 7 .pick [.r 1, .c (.bool true), .r 6] none <|
 .q 9 (.fld 2) [.s 1] (some (.r 7, false)) <|
 .q 10 .ld [.r 9] (some (.r 7, false)) <|
 .x 11 (.call 66) [.r 10] (some (.r 7, false)) [] <|
 .q 12 .not [.r 11] (some (.r 7, false)) <|
 .q 13 .pick [.r 7, .c (.bool true), .r 12] none <|
 .q 15 (.fld 1) [.s 1] (some (.r 13, false)) <|
 .q 16 .ld [.r 15] (some (.r 13, false)) <|
 .q 17 (.fld 2) [.s 1] (some (.r 13, false)) <|
 .q 18 .ld [.r 17] (some (.r 13, false)) <|
 .q 19 .eql [.r 16, .r 18] (some (.r 13, false)) <|
 .q 20 .pick [.r 13, .c (.bool true), .r 19] none <|
 .q 22 (.lda 51) [.s 1] (some (.r 20, false)) <|
 .q 23 (.lda 51) [.s 1] (some (.r 20, false)) <|
 .q 24 (.lda 7) [.s 3] (some (.r 20, false)) <|
 .x 25 (.call 67) [.r 23, .r 24] (some (.r 20, false)) [⟨22, (.lda 51), [.s 1], (some (.r 20, false))⟩] <|
 .q 26 (.eqc true [(.i .i64), (.i .i64), (.i .i64), (.i .i64), (.i .i64), (.i .i64), (.i .i64), (.i .i64), (.i .i64), (.i .i64), .s, .s, .s, .s, (.i .i64), (.i .i64), (.i .i64), (.i .i64), (.i .i64), (.i .i64), (.i .i64), (.i .i64), (.i .i64), (.i .i64), (.i .i64), (.i .i64), (.i .i64), (.i .i64), (.i .i64), (.i .i64), .s, .s, .s, .s, (.i .i64), (.i .i64), (.i .i64), (.i .i64), (.i .i64), (.i .i64), (.i .i64), (.i .i64), .b, (.i .i64), (.i .i64), (.i .i64), (.i .i64), (.i .i64), (.i .i64), (.i .i64), .s]) [.r 22, .r 25] (some (.r 20, false)) <|
 .q 27 .pick [.r 20, .c (.bool true), .r 26] none <|
 .out [(1, .s 1), (3, .s 3), (38, .r 27)]
def e41r3 : EE := .out [(2, .c (.bool false))]
def e41r4 : EE := .q 0 (.fld 0) [.s 3] none <|
 .q 1 .ld [.r 0] none <|
 .q 3 (.fld 3) [.s 1] (some (.r 1, true)) <|
 .q 4 (.lda 2) [.r 3] (some (.r 1, true)) <|
 .x 5 (.call 36) [.r 4] (some (.r 1, true)) [] <|
 .q 6 .not [.r 5] (some (.r 1, true)) <|
 .q 7 .pick [.r 1, .r 6, .c (.bool false)] none <|
 .q 9 (.fld 5) [.s 1] (some (.r 7, false)) <|
 .q 10 (.lda 2) [.r 9] (some (.r 7, false)) <|
 .x 11 (.call 25) [.r 10] (some (.r 7, false)) [] <|
 .q 12 .not [.r 11] (some (.r 7, false)) <|
 .q 13 .pick [.r 7, .c (.bool true), .r 12] none <|
 .q 15 (.fld 7) [.s 1] (some (.r 13, false)) <|
 .q 16 (.lda 7) [.r 15] (some (.r 13, false)) <|
 .x 17 (.call 13) [.r 16] (some (.r 13, false)) [] <|
 .q 18 .not [.r 17] (some (.r 13, false)) <|
 .q 19 .pick [.r 13, .c (.bool true), .r 18] none <|
 .q 21 (.fld 14) [.s 1] (some (.r 19, false)) <|
 .q 22 (.lda 8) [.r 21] (some (.r 19, false)) <|
 .x 23 (.call 15) [.r 22] (some (.r 19, false)) [] <|
 .q 24 .not [.r 23] (some (.r 19, false)) <|
 .q 25 .pick [.r 19, .c (.bool true), .r 24] none <|
 .q 27 (.fld 22) [.s 1] (some (.r 25, false)) <|
 .q 28 (.lda 21) [.r 27] (some (.r 25, false)) <|
 .x 29 (.call 53) [.r 28] (some (.r 25, false)) [] <|
 .q 30 .not [.r 29] (some (.r 25, false)) <|
 .q 31 .pick [.r 25, .c (.bool true), .r 30] none <|
 .out [(1, .s 1), (70, .r 31)]
def e41r5 : EE := .out [(2, .c (.bool false))]
def e41r6 : EE := .q 0 (.fld 43) [.s 1] none <|
 .q 1 (.lda 7) [.r 0] none <|
 .q 2 (.bld [z, z, z, z, z, z, z, z] [(1, 7)]) [.r 1] none <|
 .x 3 (.call 15) [.r 2] none [] <|
 .q 5 (.fld 50) [.s 1] (some (.r 3, true)) <|
 .q 6 .ld [.r 5] (some (.r 3, true)) <|
 .q 7 .lenz [.r 6] (some (.r 3, true)) <|
 .q 8 .leq [.r 7, .c (.int .i64 16384)] (some (.r 3, true)) <|
 .q 9 .pick [.r 3, .r 8, .c (.bool false)] none <|
 .out [(2, .r 9)]
def e41 : EFn := ⟨(.seq (.reg e41r0 [0] 0) (.seq (.reg e41r1 [1] 0) (.seq (.seq (.reg e41r2 [1, 3, 4] 0) (.cond (.s 38) (.seq (.reg e41r3 [] 0) .ret) .skip)) (.seq (.seq (.reg e41r4 [1, 3] 0) (.cond (.s 70) (.seq (.reg e41r5 [] 0) .ret) .skip)) (.seq (.reg e41r6 [1] 0) .ret))))), [.slot 2], 81, 0⟩
theorem g41 : Good Tryz.prog 41 e41 := ⟨Tryz.f41, Tryz.func41, by kernel_rfl, by kernel_rfl, by kernel_rfl, by kernel_rfl⟩
end Go.Ev
