import Derived.Test.YtnaphfnckjjmiaaGreatEvB
import Derived.Test.YtnaphfnckjjmiaaGreatProg
set_option linter.unusedVariables false
namespace Go.Ev
open Go.Fw Go.Proofs
/-! (*concord/core.Core).one -/
def e42r0 : EE := .out [(0, .s 0), (1, .s 1)]
def e42r1 : EE := .q 1 .geq [.s 1, .c z] none <|
 .q 3 .mv [.s 1] (some (.r 1, true)) <|
 .q 4 .mv [.s 0] (some (.r 1, true)) <|
 .q 5 .nl [.r 4] (some (.r 1, true)) <|
 .q 6 (.fld 0) [.r 5] (some (.r 1, true)) <|
 .q 7 .ld [.r 6] (some (.r 1, true)) <|
 .q 8 .lss [.r 3, .r 7] (some (.r 1, true)) <|
 .q 9 .pick [.r 1, .r 8, .c (.bool false)] none <|
 .out [(4, .r 9)]
def e42 : EFn := ⟨(.seq (.reg e42r0 [0, 1] 0) (.seq (.reg e42r1 [0, 1] 0) .ret)), [.slot 4], 15, 0⟩
theorem g42 : Good Tryz.prog 42 e42 := ⟨Tryz.f42, Tryz.func42, by kernel_rfl, by kernel_rfl, by kernel_rfl, by kernel_rfl⟩
/-! (*concord/log.Log).Gone -/
def e43r0 : EE := .x 0 (.box 25) [.s 1] none [] <|
 .out [(0, .s 0), (3, .r 0)]
def e43r1 : EE := .q 0 (.lda 2) [.s 3] none <|
 .x 1 (.call 36) [.r 0] none [] <|
 .q 3 (.fld 1) [.s 3] (some (.r 1, true)) <|
 .q 4 .ld [.r 3] (some (.r 1, true)) <|
 .q 5 .mv [.s 0] (some (.r 1, true)) <|
 .q 6 (.fld 0) [.s 3] (some (.r 1, true)) <|
 .q 7 .ld [.r 6] (some (.r 1, true)) <|
 .q 8 .nl [.r 5] (some (.r 1, true)) <|
 .q 9 (.fld 1) [.r 8] (some (.r 1, true)) <|
 .q 10 (.ixa 7 1) [.r 9, .r 7] (some (.r 1, true)) <|
 .q 11 .ld [.r 10] (some (.r 1, true)) <|
 .q 12 .leq [.r 4, .r 11] (some (.r 1, true)) <|
 .q 13 .pick [.r 1, .r 12, .c (.bool false)] none <|
 .out [(4, .r 13)]
def e43 : EFn := ⟨(.seq (.reg e43r0 [0, 1] 0) (.seq (.reg e43r1 [0, 3] 0) .ret)), [.slot 4], 19, 0⟩
theorem g43 : Good Tryz.prog 43 e43 := ⟨Tryz.f43, Tryz.func43, by kernel_rfl, by kernel_rfl, by kernel_rfl, by kernel_rfl⟩
/-! (*concord/core.Core).asked -/
def e44r0 : EE := .x 0 (.box 45) [.s 1] none [] <|
 .out [(0, .s 0), (3, .r 0)]
def e44r1 : EE := .q 1 .nl [.s 0] none <|
 .q 2 (.fld 2) [.r 1] none <|
 .q 3 .ld [.r 2] none <|
 .q 4 (.fld 3) [.s 3] none <|
 .q 5 (.lda 2) [.r 4] none <|
 .both false
 (.x 6 (.call 19) [.r 3, .r 5] none [] <|
 .q 8 (.ext 0) [.r 6] none <|
 .q 9 (.ext 1) [.r 6] none <|
 .x 10 (.alc [z, z, z, z, z, z, z, z, zs, zs, zs, zs, z, z, z, z, z, z, z, z, (.bool false)] 41) [] none [⟨3, .ld, [.r 2], none⟩, ⟨5, (.lda 2), [.r 4], none⟩] <|
 .x 11 (.st 21) [.r 10, .r 8] none [] <|
 .out [(0, .s 0), (3, .s 3), (4, .r 10)])
 (.x 10 (.alc [z, z, z, z, z, z, z, z, zs, zs, zs, zs, z, z, z, z, z, z, z, z, (.bool false)] 41) [] none [⟨3, .ld, [.r 2], none⟩, ⟨5, (.lda 2), [.r 4], none⟩] <|
 .x 6 (.call 19) [.r 3, .r 5] none [] <|
 .q 8 (.ext 0) [.r 6] none <|
 .q 9 (.ext 1) [.r 6] none <|
 .x 11 (.st 21) [.r 10, .r 8] none [] <|
 .out [(0, .s 0), (3, .s 3), (4, .r 10)])
def e44r2 : EE := .q 0 (.fld 0) [.s 4] none <|
 .q 1 .ld [.r 0] none <|
 .q 2 .eql [.r 1, .c (.int .i64 3)] none <|
 .out [(0, .s 0), (3, .s 3), (4, .s 4), (21, .r 2)]
def e44r3 : EE := .q 1 (.fld 1) [.s 3] none <|
 .q 2 .ld [.r 1] none <|
 .q 3 (.fld 3) [.s 3] none <|
 .q 4 (.lda 2) [.r 3] none <|
 .q 5 (.fld 5) [.s 4] none <|
 .q 6 (.lda 7) [.r 5] none <|
 .q 7 (.fld 12) [.s 4] none <|
 .q 8 (.lda 8) [.r 7] none <|
 .q 9 (.bld [z, z, z, z, z, z, z, z, z, z, zs, zs, zs, zs, z, z, z, z, z, z, z, z, z, z, z, z, z, z, z, z, zs, zs, zs, zs, z, z, z, z, z, z, z, z, (.bool false), z, z, z, z, z, z, z, zs] [(0, 1), (3, 2), (7, 7), (14, 8)]) [.c (.int .i64 5), .r 4, .r 6, .r 8] none <|
 .x 10 (.call 64) [.s 0, .r 2, .r 9] none [] <|
 .out []
def e44r4 : EE := .q 0 (.fld 5) [.s 3] none <|
 .q 1 (.lda 2) [.r 0] none <|
 .q 2 (.fld 1) [.s 4] none <|
 .q 3 (.lda 2) [.r 2] none <|
 .x 4 (.call 23) [.r 1, .r 3] none [] <|
 .out [(0, .s 0), (3, .s 3), (4, .s 4), (37, .r 4)]
def e44r5 : EE := .q 1 (.fld 1) [.s 3] none <|
 .q 2 .ld [.r 1] none <|
 .q 3 (.fld 3) [.s 3] none <|
 .q 4 (.lda 2) [.r 3] none <|
 .q 5 (.fld 1) [.s 4] none <|
 .q 6 (.lda 2) [.r 5] none <|
 .q 7 (.bld [z, z, z, z, z, z, z, z, z, z, zs, zs, zs, zs, z, z, z, z, z, z, z, z, z, z, z, z, z, z, z, z, zs, zs, zs, zs, z, z, z, z, z, z, z, z, (.bool false), z, z, z, z, z, z, z, zs] [(0, 1), (3, 2), (5, 2)]) [.c (.int .i64 8), .r 4, .r 6] none <|
 .x 8 (.call 64) [.s 0, .r 2, .r 7] none [] <|
 .out []
def e44r6 : EE := .q 1 (.fld 3) [.s 3] none <|
 .q 2 (.lda 2) [.r 1] none <|
 .x 3 (.call 21) [.s 0, .r 2] none [] <|
 .out [(0, .s 0), (3, .s 3), (4, .s 4), (6, .r 3)]
def e44r7 : EE := .q 1 (.eqp true) [.s 6, .c .nptr] none <|
 .q 3 .mv [.s 6] (some (.r 1, true)) <|
 .q 4 .nl [.r 3] (some (.r 1, true)) <|
 .q 5 (.fld 3) [.r 4] (some (.r 1, true)) <|
 .q 6 (.lda 2) [.r 5] (some (.r 1, true)) <|
 .q 7 (.fld 5) [.s 3] (some (.r 1, true)) <|
 .q 8 (.lda 2) [.r 7] (some (.r 1, true)) <|
 .x 9 (.call 23) [.r 6, .r 8] (some (.r 1, true)) [] <|
 .q 10 .pick [.r 1, .r 9, .c (.bool false)] none <|
 .out [(0, .s 0), (3, .s 3), (4, .s 4), (61, .r 10)]
def e44r8 : EE := .q 1 (.fld 3) [.s 3] none <|
 .q 2 (.lda 2) [.r 1] none <|
 .x 3 (.call 61) [.s 0, .r 2] none [] <|
 .out [(0, .s 0), (3, .s 3), (4, .s 4)]
def e44r9 : EE := .q 0 (.fld 0) [.s 4] none <|
 .q 1 .ld [.r 0] none <|
 .q 2 .neq [.r 1, .c z] none <|
 .q 4 (.fld 3) [.s 4] (some (.r 2, true)) <|
 .q 5 (.lda 2) [.r 4] (some (.r 2, true)) <|
 .q 6 (.fld 5) [.s 3] (some (.r 2, true)) <|
 .q 7 (.lda 2) [.r 6] (some (.r 2, true)) <|
 .q 8 (.eqc false [(.i .i64), (.i .i64)]) [.r 5, .r 7] (some (.r 2, true)) <|
 .q 9 .pick [.r 2, .r 8, .c (.bool false)] none <|
 .out [(0, .s 0), (3, .s 3), (4, .s 4), (7, .r 9)]
def e44r10 : EE := .q 0 (.fld 0) [.s 3] none <|
 .q 1 .ld [.r 0] none <|
 .out [(0, .s 0), (3, .s 3), (4, .s 4), (7, .s 7), (77, .r 1)]
def e44r11 : EE := .q 0 .eql [.s 77, .c (.int .i64 1)] none <|
 .out [(0, .s 0), (3, .s 3), (4, .s 4), (7, .s 7), (77, .s 77), (78, .r 0)]
def e44r12 : EE := .q 1 (.lda 51) [.s 3] none <|
 .q 2 (.lda 21) [.s 4] none <|
 .x 4 (.call 68) [.s 0, .r 1, .r 2, .s 7] none [] <|
 .out []
def e44r13 : EE := .q 0 .eql [.s 77, .c (.int .i64 3)] none <|
 .out [(0, .s 0), (3, .s 3), (4, .s 4), (7, .s 7), (77, .s 77), (85, .r 0)]
def e44r14 : EE := .q 2 (.fld 0) [.s 4] (some (.s 7, true)) <|
 .q 3 .ld [.r 2] (some (.s 7, true)) <|
 .q 4 .eql [.r 3, .c (.int .i64 2)] (some (.s 7, true)) <|
 .q 5 .pick [.s 7, .r 4, .c (.bool false)] none <|
 .out [(0, .s 0), (3, .s 3), (8, .r 5)]
def e44r15 : EE := .q 2 .mv [.s 0] (some (.s 8, false)) <|
 .q 3 (.fld 3) [.s 3] (some (.s 8, false)) <|
 .q 4 (.lda 2) [.r 3] (some (.s 8, false)) <|
 .q 5 (.fld 5) [.s 3] (some (.s 8, false)) <|
 .q 6 (.lda 2) [.r 5] (some (.s 8, false)) <|
 .q 7 (.fld 5) [.s 3] (some (.s 8, false)) <|
 .q 8 (.lda 2) [.r 7] (some (.s 8, false)) <|
 .q 9 (.fld 7) [.s 3] (some (.s 8, false)) <|
 .q 10 (.lda 7) [.r 9] (some (.s 8, false)) <|
 .q 11 (.fld 14) [.s 3] (some (.s 8, false)) <|
 .q 12 (.lda 8) [.r 11] (some (.s 8, false)) <|
 .q 13 (.bld [z, z, z, z, z, z, z, z, zs, zs, zs, zs, z, z, z, z, z, z, z, z, (.bool false)] [(0, 1), (1, 2), (3, 2), (5, 7), (12, 8)]) [.c (.int .i64 2), .r 6, .r 8, .r 10, .r 12] (some (.s 8, false)) <|
 .x 14 (.call 16) [.r 2, .r 4, .r 13] (some (.s 8, false)) [] <|
 .q 15 .pick [.s 8, .c (.bool true), .r 14] none <|
 .out [(0, .s 0), (3, .s 3), (108, .r 15)]
def e44r16 : EE := .q 1 (.fld 1) [.s 3] none <|
 .q 2 .ld [.r 1] none <|
 .q 3 (.fld 3) [.s 3] none <|
 .q 4 (.lda 2) [.r 3] none <|
 .q 5 (.fld 5) [.s 3] none <|
 .q 6 (.lda 2) [.r 5] none <|
 .q 7 (.bld [z, z, z, z, z, z, z, z, z, z, zs, zs, zs, zs, z, z, z, z, z, z, z, z, z, z, z, z, z, z, z, z, zs, zs, zs, zs, z, z, z, z, z, z, z, z, (.bool false), z, z, z, z, z, z, z, zs] [(0, 1), (3, 2), (5, 2)]) [.c (.int .i64 4), .r 4, .r 6] none <|
 .x 8 (.call 64) [.s 0, .r 2, .r 7] none [] <|
 .out []
def e44r17 : EE := .q 0 .eql [.s 77, .c (.int .i64 6)] none <|
 .out [(0, .s 0), (3, .s 3), (4, .s 4), (118, .r 0)]
def e44r18 : EE := .q 0 (.fld 1) [.s 4] none <|
 .q 1 (.lda 2) [.r 0] none <|
 .q 2 (.fld 5) [.s 3] none <|
 .q 3 (.lda 2) [.r 2] none <|
 .q 4 (.eqc true [(.i .i64), (.i .i64)]) [.r 1, .r 3] none <|
 .out [(0, .s 0), (3, .s 3), (4, .s 4), (124, .r 4)]
def e44r19 : EE := .q 0 (.fld 5) [.s 3] none <|
 .q 1 (.lda 2) [.r 0] none <|
 .q 2 (.fld 1) [.s 4] none <|
 .x 3 (.st 2) [.r 2, .r 1] none [] <|
 .out [(0, .s 0), (3, .s 3), (4, .s 4)]
def e44r20 : EE := .q 1 (.fld 3) [.s 3] none <|
 .q 2 (.lda 2) [.r 1] none <|
 .q 3 (.lda 21) [.s 4] none <|
 .x 4 (.call 16) [.s 0, .r 2, .r 3] none [] <|
 .q 5 .not [.r 4] none <|
 .out [(0, .s 0), (3, .s 3), (4, .s 4), (133, .r 5)]
def e44r21 : EE := .q 1 (.fld 1) [.s 3] none <|
 .q 2 .ld [.r 1] none <|
 .q 3 (.fld 3) [.s 3] none <|
 .q 4 (.lda 2) [.r 3] none <|
 .q 5 (.fld 5) [.s 3] none <|
 .q 6 (.lda 2) [.r 5] none <|
 .q 7 (.lda 21) [.s 4] none <|
 .q 8 (.bld [z, z, z, z, z, z, z, z, z, z, zs, zs, zs, zs, z, z, z, z, z, z, z, z, z, z, z, z, z, z, z, z, zs, zs, zs, zs, z, z, z, z, z, z, z, z, (.bool false), z, z, z, z, z, z, z, zs] [(0, 1), (3, 2), (5, 2), (22, 21)]) [.c (.int .i64 7), .r 4, .r 6, .r 7] none <|
 .x 9 (.call 64) [.s 0, .r 2, .r 8] none [] <|
 .out []
def e44 : EFn := ⟨(.seq (.reg e44r0 [0, 1] 0) (.seq (.reg e44r1 [0, 3] 12) (.seq (.seq (.reg e44r2 [0, 3, 4] 0) (.cond (.s 21) (.seq (.reg e44r3 [0, 3, 4] 0) .ret) .skip)) (.seq (.seq (.reg e44r4 [0, 3, 4] 0) (.cond (.s 37) (.seq (.reg e44r5 [0, 3, 4] 0) .ret) .skip)) (.seq (.seq (.reg e44r6 [0, 3, 4] 0) (.seq (.reg e44r7 [0, 3, 4, 6] 0) (.cond (.s 61) (.reg e44r8 [0, 3, 4] 0) .skip))) (.seq (.reg e44r9 [0, 3, 4] 0) (.seq (.reg e44r10 [0, 3, 4, 7] 0) (.block 0 (.seq (.reg e44r11 [0, 3, 4, 7, 77] 0) (.cond (.s 78) (.reg e44r12 [0, 3, 4, 7] 0) (.seq (.reg e44r13 [0, 3, 4, 7, 77] 0) (.cond (.s 85) (.seq (.reg e44r14 [0, 3, 4, 7] 0) (.seq (.reg e44r15 [0, 3, 8] 0) (.cond (.s 108) (.reg e44r16 [0, 3] 0) .skip))) (.seq (.reg e44r17 [0, 3, 4, 77] 0) (.cond (.s 118) (.seq (.seq (.reg e44r18 [0, 3, 4] 0) (.cond (.s 124) (.seq (.reg e44r19 [0, 3, 4] 0) (.seq (.reg e44r20 [0, 3, 4] 0) (.cond (.s 133) .ret .skip))) .skip)) (.reg e44r21 [0, 3, 4] 0)) .skip)))))))))))))), [], 144, 0⟩
theorem g44 : Good Tryz.prog 44 e44 := ⟨Tryz.f44, Tryz.func44, by kernel_rfl, by kernel_rfl, by kernel_rfl, by kernel_rfl⟩
/-! (*concord/core.Core).told -/
def e45r0 : EE := .x 0 (.box 45) [.s 1] none [] <|
 .out [(0, .s 0), (3, .r 0)]
def e45r1 : EE := .q 1 .nl [.s 0] none <|
 .q 2 (.fld 2) [.r 1] none <|
 .q 3 .ld [.r 2] none <|
 .q 4 (.fld 3) [.s 3] none <|
 .q 5 (.lda 2) [.r 4] none <|
 .both false
 (.x 6 (.call 19) [.r 3, .r 5] none [] <|
 .q 8 (.ext 0) [.r 6] none <|
 .q 9 (.ext 1) [.r 6] none <|
 .x 10 (.alc [z, z, z, z, z, z, z, z, zs, zs, zs, zs, z, z, z, z, z, z, z, z, (.bool false)] 41) [] none [⟨3, .ld, [.r 2], none⟩, ⟨5, (.lda 2), [.r 4], none⟩] <|
 .x 11 (.st 21) [.r 10, .r 8] none [] <|
 .out [(0, .s 0), (3, .s 3), (4, .r 10)])
 (.x 10 (.alc [z, z, z, z, z, z, z, z, zs, zs, zs, zs, z, z, z, z, z, z, z, z, (.bool false)] 41) [] none [⟨3, .ld, [.r 2], none⟩, ⟨5, (.lda 2), [.r 4], none⟩] <|
 .x 6 (.call 19) [.r 3, .r 5] none [] <|
 .q 8 (.ext 0) [.r 6] none <|
 .q 9 (.ext 1) [.r 6] none <|
 .x 11 (.st 21) [.r 10, .r 8] none [] <|
 .out [(0, .s 0), (3, .s 3), (4, .r 10)])
def e45r2 : EE := .q 0 (.fld 0) [.s 4] none <|
 .q 1 .ld [.r 0] none <|
 .q 2 .eql [.r 1, .c (.int .i64 3)] none <|
 .out [(0, .s 0), (3, .s 3), (4, .s 4), (18, .r 2)]
def e45r3 : EE := .q 1 (.fld 3) [.s 3] none <|
 .q 2 (.lda 2) [.r 1] none <|
 .x 3 (.call 61) [.s 0, .r 2] none [] <|
 .out [(0, .s 0), (3, .s 3), (4, .s 4)]
def e45r4 : EE := .q 1 (.fld 3) [.s 3] none <|
 .q 2 (.lda 2) [.r 1] none <|
 .q 3 (.fld 1) [.s 4] none <|
 .q 4 (.lda 2) [.r 3] none <|
 .q 5 (.fld 3) [.s 4] none <|
 .q 6 (.lda 2) [.r 5] none <|
 .q 7 (.fld 7) [.s 3] none <|
 .q 8 (.lda 7) [.r 7] none <|
 .q 9 (.fld 14) [.s 3] none <|
 .q 10 (.lda 8) [.r 9] none <|
 .q 11 (.bld [z, z, z, z, z, z, z, z, zs, zs, zs, zs, z, z, z, z, z, z, z, z, (.bool false)] [(0, 1), (1, 2), (3, 2), (5, 7), (12, 8)]) [.c (.int .i64 3), .r 4, .r 6, .r 8, .r 10] none <|
 .x 12 (.call 16) [.s 0, .r 2, .r 11] none [] <|
 .out []
def e45 : EFn := ⟨(.seq (.reg e45r0 [0, 1] 0) (.seq (.reg e45r1 [0, 3] 12) (.seq (.seq (.reg e45r2 [0, 3, 4] 0) (.cond (.s 18) .ret .skip)) (.seq (.reg e45r3 [0, 3, 4] 0) (.reg e45r4 [0, 3, 4] 0))))), [], 36, 0⟩
theorem g45 : Good Tryz.prog 45 e45 := ⟨Tryz.f45, Tryz.func45, by kernel_rfl, by kernel_rfl, by kernel_rfl, by kernel_rfl⟩
/-! (*concord/core.Core).refused -/
def e46r0 : EE := .x 0 (.box 45) [.s 1] none [] <|
 .out [(0, .s 0), (3, .r 0)]
def e46r1 : EE := .q 1 (.fld 3) [.s 3] none <|
 .q 2 (.lda 2) [.r 1] none <|
 .x 3 (.call 21) [.s 0, .r 2] none [] <|
 .out [(0, .s 0), (3, .s 3), (4, .r 3)]
def e46r2 : EE := .q 1 (.eqp false) [.s 4, .c .nptr] none <|
 .q 3 .mv [.s 4] (some (.r 1, false)) <|
 .q 4 .nl [.r 3] (some (.r 1, false)) <|
 .q 5 (.fld 3) [.r 4] (some (.r 1, false)) <|
 .q 6 (.lda 2) [.r 5] (some (.r 1, false)) <|
 .q 7 (.fld 5) [.s 3] (some (.r 1, false)) <|
 .q 8 (.lda 2) [.r 7] (some (.r 1, false)) <|
 .x 9 (.call 23) [.r 6, .r 8] (some (.r 1, false)) [] <|
 .q 10 .not [.r 9] (some (.r 1, false)) <|
 .q 11 .pick [.r 1, .c (.bool true), .r 10] none <|
 .out [(0, .s 0), (3, .s 3), (21, .r 11)]
def e46r3 : EE := .q 1 (.fld 3) [.s 3] none <|
 .q 2 (.lda 2) [.r 1] none <|
 .x 3 (.call 61) [.s 0, .r 2] none [] <|
 .out [(0, .s 0), (3, .s 3)]
def e46r4 : EE := .q 1 (.fld 3) [.s 3] none <|
 .q 2 (.lda 2) [.r 1] none <|
 .x 3 (.call 69) [.s 0, .r 2] none [] <|
 .out [(0, .s 0), (3, .s 3)]
def e46r5 : EE := .q 1 (.fld 3) [.s 3] none <|
 .q 2 (.lda 2) [.r 1] none <|
 .x 3 (.call 22) [.s 0, .r 2] none [] <|
 .out [(3, .s 3), (5, .r 3)]
def e46r6 : EE := .q 1 (.eqp true) [.s 5, .c .nptr] none <|
 .out [(3, .s 3), (5, .s 5), (35, .r 1)]
def e46r7 : EE := .q 1 .nl [.s 5] none <|
 .q 2 (.fld 2) [.r 1] none <|
 .x 3 (.st 1) [.r 2, .c z] none [] <|
 .out [(3, .s 3), (5, .s 5)]
def e46r8 : EE := .q 1 .nl [.s 5] none <|
 .q 2 (.fld 3) [.r 1] none <|
 .q 3 (.lda 2) [.r 2] none <|
 .q 4 (.fld 5) [.s 3] none <|
 .q 5 (.lda 2) [.r 4] none <|
 .x 6 (.call 23) [.r 3, .r 5] none [] <|
 .out [(3, .s 3), (5, .s 5), (45, .r 6)]
def e46r9 : EE := .q 1 (.fld 5) [.s 3] none <|
 .q 2 (.lda 2) [.r 1] none <|
 .q 3 .nl [.s 5] none <|
 .q 4 (.fld 3) [.r 3] none <|
 .x 5 (.st 2) [.r 4, .r 2] none [] <|
 .out []
def e46 : EFn := ⟨(.seq (.reg e46r0 [0, 1] 0) (.seq (.reg e46r1 [0, 3] 0) (.seq (.seq (.reg e46r2 [0, 3, 4] 0) (.cond (.s 21) .ret .skip)) (.seq (.reg e46r3 [0, 3] 0) (.seq (.reg e46r4 [0, 3] 0) (.seq (.reg e46r5 [0, 3] 0) (.seq (.reg e46r6 [3, 5] 0) (.cond (.s 35) (.seq (.reg e46r7 [3, 5] 0) (.seq (.reg e46r8 [3, 5] 0) (.cond (.s 45) (.reg e46r9 [3, 5] 0) .skip))) .skip)))))))), [], 51, 0⟩
theorem g46 : Good Tryz.prog 46 e46 := ⟨Tryz.f46, Tryz.func46, by kernel_rfl, by kernel_rfl, by kernel_rfl, by kernel_rfl⟩
/-! (*concord/core.Core).answered -/
def e47r0 : EE := .x 0 (.box 45) [.s 1] none [] <|
 .out [(0, .s 0), (3, .r 0)]
def e47r1 : EE := .q 1 (.fld 3) [.s 3] none <|
 .q 2 (.lda 2) [.r 1] none <|
 .x 3 (.call 21) [.s 0, .r 2] none [] <|
 .out [(0, .s 0), (3, .s 3), (4, .r 3)]
def e47r2 : EE := .q 1 (.eqp false) [.s 4, .c .nptr] none <|
 .q 3 .mv [.s 4] (some (.r 1, false)) <|
 .q 4 .nl [.r 3] (some (.r 1, false)) <|
 .q 5 (.fld 3) [.r 4] (some (.r 1, false)) <|
 .q 6 (.lda 2) [.r 5] (some (.r 1, false)) <|
 .q 7 (.fld 5) [.s 3] (some (.r 1, false)) <|
 .q 8 (.lda 2) [.r 7] (some (.r 1, false)) <|
 .q 9 (.eqc true [(.i .i64), (.i .i64)]) [.r 6, .r 8] (some (.r 1, false)) <|
 .q 10 .pick [.r 1, .c (.bool true), .r 9] none <|
 .q 12 .mv [.s 4] (some (.r 10, false)) <|
 .q 13 (.fld 1) [.s 3] (some (.r 10, false)) <|
 .q 14 .ld [.r 13] (some (.r 10, false)) <|
 .q 15 .nl [.r 12] (some (.r 10, false)) <|
 .q 16 (.fld 21) [.r 15] (some (.r 10, false)) <|
 .q 17 (.ixa 7 1) [.r 16, .r 14] (some (.r 10, false)) <|
 .q 18 .ld [.r 17] (some (.r 10, false)) <|
 .q 19 .neq [.r 18, .c z] (some (.r 10, false)) <|
 .q 20 .pick [.r 10, .c (.bool true), .r 19] none <|
 .out [(0, .s 0), (3, .s 3), (4, .s 4), (30, .r 20)]
def e47r3 : EE := .x 0 .mkm [] none [] <|
 .x 1 (.mup false [(.i .i64)]) [.r 0, .c (.int .i64 2), .c z] none [] <|
 .x 2 (.mup false [(.i .i64)]) [.r 0, .c (.int .i64 4), .c (.int .i64 1)] none [] <|
 .x 3 (.mup false [(.i .i64)]) [.r 0, .c (.int .i64 7), .c (.int .i64 2)] none [] <|
 .q 5 (.fld 0) [.s 3] none <|
 .q 6 .ld [.r 5] none <|
 .q 7 (.lkp false [(.i .i64)] z false) [.r 0, .r 6] none <|
 .out [(0, .s 0), (3, .s 3), (4, .s 4), (5, .r 7)]
def e47r4 : EE := .q 1 .nl [.s 4] none <|
 .q 2 (.fld 2) [.r 1] none <|
 .q 3 .ld [.r 2] none <|
 .q 5 .neq [.r 3, .s 5] none <|
 .out [(0, .s 0), (3, .s 3), (4, .s 4), (5, .s 5), (41, .r 5)]
def e47r5 : EE := .q 1 (.fld 1) [.s 3] none <|
 .q 2 .ld [.r 1] none <|
 .q 3 .nl [.s 4] none <|
 .q 4 (.fld 21) [.r 3] none <|
 .q 5 (.ixa 7 1) [.r 4, .r 2] none <|
 .x 6 (.st 1) [.r 5, .c (.int .i64 1)] none [] <|
 .out [(0, .s 0), (3, .s 3), (4, .s 4), (5, .s 5)]
def e47r6 : EE := .q 1 .nl [.s 4] none <|
 .q 2 (.fld 30) [.r 1] none <|
 .q 3 .ld [.r 2] none <|
 .q 4 .add [.r 3, .c (.int .i64 1)] none <|
 .q 5 .nl [.s 4] none <|
 .q 6 (.fld 30) [.r 5] none <|
 .x 7 (.st 1) [.r 6, .r 4] none [] <|
 .out [(0, .s 0), (3, .s 3), (4, .s 4), (5, .s 5)]
def e47r7 : EE := .out [(0, .s 0), (3, .s 3), (4, .s 4), (55, .s 5)]
def e47r8 : EE := .q 0 .eql [.s 55, .c z] none <|
 .out [(0, .s 0), (3, .s 3), (4, .s 4), (55, .s 55), (73, .r 0)]
def e47r9 : EE := .q 2 .nl [.s 4] none <|
 .q 3 (.fld 28) [.r 2] none <|
 .q 4 .ld [.r 3] none <|
 .q 5 (.fld 14) [.s 3] none <|
 .q 6 (.lda 8) [.r 5] none <|
 .x 7 (.bsl 39 1 [z, z, z, z, z, z, z, z] [(0, 8)]) [.r 6] none [⟨4, .ld, [.r 3], none⟩] <|
 .x 8 (.app 39 8 64 [z, z, z, z, z, z, z, z]) [.r 4, .r 7] none [] <|
 .q 9 .nl [.s 4] none <|
 .q 10 (.fld 28) [.r 9] none <|
 .x 11 (.st 1) [.r 10, .r 8] none [] <|
 .out [(0, .s 0), (4, .s 4)]
def e47r10 : EE := .x 2 (.call 70) [.s 0, .s 4, .c (.bool false)] none [] <|
 .out []
def e47r11 : EE := .q 0 .eql [.s 55, .c (.int .i64 1)] none <|
 .out [(0, .s 0), (3, .s 3), (4, .s 4), (89, .r 0)]
def e47r12 : EE := .q 1 .nl [.s 4] none <|
 .q 2 (.fld 30) [.r 1] none <|
 .q 3 .ld [.r 2] none <|
 .q 4 .add [.r 3, .c (.int .i64 1)] none <|
 .q 6 .nl [.s 0] none <|
 .q 7 (.fld 0) [.r 6] none <|
 .q 8 .ld [.r 7] none <|
 .x 9 (.call 71) [.r 8] none [⟨3, .ld, [.r 2], none⟩] <|
 .q 10 .geq [.r 4, .r 9] none <|
 .out [(0, .s 0), (4, .s 4), (101, .r 10)]
def e47r13 : EE := .q 2 .nl [.s 4] none <|
 .q 3 (.fld 0) [.r 2] none <|
 .q 4 (.lda 2) [.r 3] none <|
 .q 6 .nl [.s 4] none <|
 .q 7 (.fld 6) [.r 6] none <|
 .q 8 (.lda 7) [.r 7] none <|
 .q 10 .nl [.s 4] none <|
 .q 11 (.fld 13) [.r 10] none <|
 .q 12 (.lda 8) [.r 11] none <|
 .x 13 (.call 72) [.s 0, .r 4, .r 8, .r 12] none [] <|
 .out []
def e47r14 : EE := .q 2 .nl [.s 4] none <|
 .q 3 (.fld 29) [.r 2] none <|
 .q 4 .ld [.r 3] none <|
 .q 5 (.fld 1) [.s 3] none <|
 .q 6 .ld [.r 5] none <|
 .q 7 (.fld 22) [.s 3] none <|
 .q 8 (.lda 21) [.r 7] none <|
 .q 9 (.bld [z, z, z, z, z, z, z, z, z, zs, zs, zs, zs, z, z, z, z, z, z, z, z, (.bool false)] [(0, 1), (1, 21)]) [.r 6, .r 8] none <|
 .x 10 (.bsl 81 1 [z, z, z, z, z, z, z, z, z, zs, zs, zs, zs, z, z, z, z, z, z, z, z, (.bool false)] [(0, 22)]) [.r 9] none [⟨4, .ld, [.r 3], none⟩] <|
 .x 11 (.app 81 22 208 [z, z, z, z, z, z, z, z, z, zs, zs, zs, zs, z, z, z, z, z, z, z, z, (.bool false)]) [.r 4, .r 10] none [] <|
 .q 12 .nl [.s 4] none <|
 .q 13 (.fld 29) [.r 12] none <|
 .x 14 (.st 1) [.r 13, .r 11] none [] <|
 .out [(0, .s 0), (4, .s 4)]
def e47r15 : EE := .x 2 (.call 73) [.s 0, .s 4] none [] <|
 .out []
def e47 : EFn := ⟨(.seq (.reg e47r0 [0, 1] 0) (.seq (.reg e47r1 [0, 3] 0) (.seq (.seq (.reg e47r2 [0, 3, 4] 0) (.cond (.s 30) .ret .skip)) (.seq (.reg e47r3 [0, 3, 4] 0) (.seq (.seq (.reg e47r4 [0, 3, 4, 5] 0) (.cond (.s 41) .ret .skip)) (.seq (.reg e47r5 [0, 3, 4, 5] 0) (.seq (.reg e47r6 [0, 3, 4, 5] 0) (.seq (.reg e47r7 [0, 3, 4, 5] 0) (.block 0 (.seq (.reg e47r8 [0, 3, 4, 55] 0) (.cond (.s 73) (.seq (.reg e47r9 [0, 3, 4] 0) (.reg e47r10 [0, 4] 0)) (.seq (.reg e47r11 [0, 3, 4, 55] 0) (.cond (.s 89) (.seq (.reg e47r12 [0, 4] 0) (.cond (.s 101) (.reg e47r13 [0, 4] 0) .skip)) (.seq (.reg e47r14 [0, 3, 4] 0) (.reg e47r15 [0, 4] 0))))))))))))))), [], 116, 0⟩
theorem g47 : Good Tryz.prog 47 e47 := ⟨Tryz.f47, Tryz.func47, by kernel_rfl, by kernel_rfl, by kernel_rfl, by kernel_rfl⟩
/-! (*concord/log.Log).Trim -/
def e48r0 : EE := .x 0 (.box 37) [.s 1] none [] <|
 .out [(0, .s 0), (3, .r 0)]
def e48r1 : EE := .q 0 (.lda 7) [.s 3] none <|
 .out [(0, .s 0), (7, .r 0), (8, .c z)]
def e48r2 : EE := .q 0 .lss [.s 8, .c (.int .i64 7)] none <|
 .out [(0, .s 0), (7, .s 7), (8, .s 8), (9, .r 0)]
def e48r3 : EE := .q 1 (.idx 7 1) [.s 7, .s 8] none <|
 .out [(0, .s 0), (4, .s 8), (5, .r 1), (7, .s 7), (8, .s 8)]
def e48r4 : EE := .q 4 .nl [.s 0] none <|
 .q 5 (.fld 1) [.r 4] none <|
 .q 6 (.ixa 7 1) [.r 5, .s 4] none <|
 .q 7 .ld [.r 6] none <|
 .q 9 .mx [.s 5, .c z] none <|
 .q 10 .mn [.r 9, .c (.int .i64 1073741824)] none <|
 .q 11 .mx [.r 7, .r 10] none <|
 .q 12 .nl [.s 0] none <|
 .q 13 (.fld 1) [.r 12] none <|
 .q 14 (.ixa 7 1) [.r 13, .s 4] none <|
 .x 15 (.st 1) [.r 14, .r 11] none [] <|
 .out [(0, .s 0), (7, .s 7), (8, .s 8)]
def e48r5 : EE := .q 0 .add [.s 8, .c (.int .i64 1)] none <|
 .out [(0, .s 0), (7, .s 7), (8, .r 0)]
def e48l6 : EC := (.seq (.reg e48r2 [0, 7, 8] 0) (.seq (.cond (.s 9) .skip (.exit 0)) (.seq (.block 1 (.seq (.reg e48r3 [0, 7, 8] 0) (.reg e48r4 [0, 4, 5, 7, 8] 0))) (.reg e48r5 [0, 7, 8] 0))))
def e48r7 : EE := .q 1 .nl [.s 0] none <|
 .q 2 (.fld 0) [.r 1] none <|
 .q 3 .ld [.r 2] none <|
 .x 4 .rng [.r 3] none [] <|
 .out [(0, .s 0), (32, .r 4)]
def e48r8 : EE := .x 0 .nxt [.s 32] none [] <|
 .q 1 (.ext 0) [.r 0] none <|
 .out [(0, .s 0), (32, .s 32), (34, .r 1)]
def e48r9 : EE := .q 0 .ent [.s 32] none <|
 .q 1 (.ext 0) [.r 0] none <|
 .x 2 (.alc [z, z] 25) [] none [] <|
 .x 3 (.st 2) [.r 2, .r 1] none [] <|
 .out [(0, .s 0), (6, .r 2), (32, .s 32)]
def e48r10 : EE := .q 1 (.lda 2) [.s 6] none <|
 .x 2 (.call 43) [.s 0, .r 1] none [] <|
 .out [(0, .s 0), (6, .s 6), (32, .s 32), (39, .r 2)]
def e48r11 : EE := .q 1 .nl [.s 0] none <|
 .q 2 (.fld 0) [.r 1] none <|
 .q 3 .ld [.r 2] none <|
 .q 4 (.lda 2) [.s 6] none <|
 .x 5 (.dlt true [(.i .i64), (.i .i64)]) [.r 3, .r 4] none [] <|
 .out [(0, .s 0), (32, .s 32)]
def e48l12 : EC := (.seq (.reg e48r8 [0, 32] 0) (.seq (.cond (.s 34) .skip (.exit 2)) (.block 3 (.seq (.reg e48r9 [0, 32] 0) (.seq (.reg e48r10 [0, 6, 32] 0) (.cond (.s 39) (.reg e48r11 [0, 6, 32] 0) .skip))))))
def e48 : EFn := ⟨(.seq (.reg e48r0 [0, 1] 0) (.seq (.seq (.reg e48r1 [0, 3] 0) (.block 0 (.loop [0, 7, 8] e48l6))) (.seq (.reg e48r7 [0] 0) (.block 2 (.loop [0, 32] e48l12))))), [], 45, 0⟩
theorem g48 : Good Tryz.prog 48 e48 := ⟨Tryz.f48, Tryz.func48, by kernel_rfl, by kernel_rfl, by kernel_rfl, by kernel_rfl⟩
/-! concord/pack.Read -/
def e49r0 : EE := .out [(0, .s 0)]
def e49r1 : EE := .x 1 (.call 74) [.s 0, .c z] none [] <|
 .q 2 (.bld [.nsl, z, z] [(0, 1)]) [.r 1] none <|
 .x 3 (.box 135) [.r 2] none [] <|
 .out [(2, .r 3)]
def e49 : EFn := ⟨(.seq (.reg e49r0 [0] 0) (.seq (.reg e49r1 [0] 0) .ret)), [.slot 2], 7, 0⟩
theorem g49 : Good Tryz.prog 49 e49 := ⟨Tryz.f49, Tryz.func49, by kernel_rfl, by kernel_rfl, by kernel_rfl, by kernel_rfl⟩
/-! (*concord/pack.Reader).Num -/
def e50r0 : EE := .out [(0, .s 0)]
def e50r1 : EE := .q 1 .nl [.s 0] none <|
 .q 2 (.fld 2) [.r 1] none <|
 .q 3 .ld [.r 2] none <|
 .q 4 .neq [.r 3, .c z] none <|
 .out [(0, .s 0), (11, .r 4)]
def e50r2 : EE := .out [(2, .c z)]
def e50r3 : EE := .q 1 .nl [.s 0] none <|
 .q 2 (.fld 1) [.r 1] none <|
 .q 3 .ld [.r 2] none <|
 .out [(0, .s 0), (3, .r 3), (4, .c (.int .u64 0))]
def e50r4 : EE := .out [(0, .s 0), (3, .s 3), (4, .s 4), (5, .c z)]
def e50r5 : EE := .q 1 .nl [.s 0] none <|
 .q 2 (.fld 1) [.r 1] none <|
 .q 3 .ld [.r 2] none <|
 .q 5 .nl [.s 0] none <|
 .q 6 (.fld 0) [.r 5] none <|
 .q 7 .ld [.r 6] none <|
 .q 8 .len [.r 7] none <|
 .q 9 .eql [.r 3, .r 8] none <|
 .out [(0, .s 0), (3, .s 3), (4, .s 4), (5, .s 5), (27, .r 9)]
def e50r6 : EE := .x 2 (.call 75) [.s 0, .s 3, .c (.int .i64 3)] none [] <|
 .out []
def e50r7 : EE := .out [(2, .c z)]
def e50r8 : EE := .q 1 .nl [.s 0] none <|
 .q 2 (.fld 0) [.r 1] none <|
 .q 3 .ld [.r 2] none <|
 .q 5 .nl [.s 0] none <|
 .q 6 (.fld 1) [.r 5] none <|
 .q 7 .ld [.r 6] none <|
 .q 8 (.ixs 1) [.r 3, .r 7] none <|
 .q 9 .ld [.r 8] none <|
 .out [(0, .s 0), (3, .s 3), (4, .s 4), (5, .s 5), (6, .r 9)]
def e50r9 : EE := .q 1 .gtr [.s 5, .c z] none <|
 .q 3 .mv [.s 6] (some (.r 1, true)) <|
 .q 4 .eql [.r 3, .c (.int .u8 0)] (some (.r 1, true)) <|
 .q 5 .pick [.r 1, .r 4, .c (.bool false)] none <|
 .q 7 .mv [.s 5] (some (.r 5, false)) <|
 .q 8 .eql [.r 7, .c (.int .i64 9)] (some (.r 5, false)) <|
 .q 9 .mv [.r 8] (some (.r 5, false)) <|
 .q 10 .mv [.s 6] (some (.r 9, true)) <|
 .q 11 .gtr [.r 10, .c (.int .u8 1)] (some (.r 9, true)) <|
 .q 12 .pick [.r 9, .r 11, .c (.bool false)] (some (.r 5, false)) <|
 .q 13 .pick [.r 5, .c (.bool true), .r 12] none <|
 .out [(0, .s 0), (3, .s 3), (4, .s 4), (5, .s 5), (6, .s 6), (54, .r 13)]
def e50r10 : EE := .x 2 (.call 75) [.s 0, .s 3, .c (.int .i64 4)] none [] <|
 .out []
def e50r11 : EE := .out [(2, .c z)]
def e50r12 : EE := .q 1 .nl [.s 0] none <|
 .q 2 (.fld 1) [.r 1] none <|
 .q 3 .ld [.r 2] none <|
 .q 4 .add [.r 3, .c (.int .i64 1)] none <|
 .q 5 .nl [.s 0] none <|
 .q 6 (.fld 1) [.r 5] none <|
 .x 7 (.st 1) [.r 6, .r 4] none [] <|
 .out [(0, .s 0), (3, .s 3), (4, .s 4), (5, .s 5), (6, .s 6)]
def e50r13 : EE := .q 2 .and [.s 6, .c (.int .u8 127)] none <|
 .q 3 (.conv .u64) [.r 2] none <|
 .q 5 .mul [.c (.int .i64 7), .s 5] none <|
 .q 6 (.conv .u64) [.r 5] none <|
 .q 7 .shl [.r 3, .r 6] none <|
 .q 8 .or [.s 4, .r 7] none <|
 .out [(0, .s 0), (3, .s 3), (4, .r 8), (5, .s 5), (6, .s 6)]
def e50r14 : EE := .q 1 .lss [.s 6, .c (.int .u8 128)] none <|
 .out [(0, .s 0), (3, .s 3), (4, .s 4), (5, .s 5), (75, .r 1)]
def e50r15 : EE := .x 1 (.call 76) [.s 4] none [] <|
 .out [(2, .r 1)]
def e50r16 : EE := .q 1 .add [.s 5, .c (.int .i64 1)] none <|
 .out [(0, .s 0), (3, .s 3), (4, .s 4), (5, .r 1)]
def e50l17 : EC := (.seq (.block 1 (.seq (.seq (.reg e50r5 [0, 3, 4, 5] 0) (.cond (.s 27) (.seq (.reg e50r6 [0, 3] 0) (.seq (.reg e50r7 [] 0) .ret)) .skip)) (.seq (.reg e50r8 [0, 3, 4, 5] 0) (.seq (.seq (.reg e50r9 [0, 3, 4, 5, 6] 0) (.cond (.s 54) (.seq (.reg e50r10 [0, 3] 0) (.seq (.reg e50r11 [] 0) .ret)) .skip)) (.seq (.reg e50r12 [0, 3, 4, 5, 6] 0) (.seq (.reg e50r13 [0, 3, 4, 5, 6] 0) (.seq (.reg e50r14 [0, 3, 4, 5, 6] 0) (.cond (.s 75) (.seq (.reg e50r15 [4] 0) .ret) .skip)))))))) (.reg e50r16 [0, 3, 4, 5] 0))
def e50 : EFn := ⟨(.seq (.reg e50r0 [0] 0) (.seq (.seq (.reg e50r1 [0] 0) (.cond (.s 11) (.seq (.reg e50r2 [] 0) .ret) .skip)) (.seq (.reg e50r3 [0] 0) (.seq (.reg e50r4 [0, 3, 4] 0) (.block 0 (.loop [0, 3, 4, 5] e50l17)))))), [.slot 2], 78, 0⟩
theorem g50 : Good Tryz.prog 50 e50 := ⟨Tryz.f50, Tryz.func50, by kernel_rfl, by kernel_rfl, by kernel_rfl, by kernel_rfl⟩
/-! concord/letter.GetCell -/
def e51r0 : EE := .x 0 (.alc [z, z, z, z, z, z, z, z, zs, zs, zs, zs, z, z, z, z, z, z, z, z, (.bool false)] 41) [] none [] <|
 .out [(0, .s 0), (2, .r 0)]
def e51r1 : EE := .x 1 (.call 50) [.s 0] none [] <|
 .q 2 (.bld [z, z, z, z, z, z, z, z, zs, zs, zs, zs, z, z, z, z, z, z, z, z, (.bool false)] [(0, 1)]) [.r 1] none <|
 .x 3 (.alc [z, z, z, z, z, z, z, z, zs, zs, zs, zs, z, z, z, z, z, z, z, z, (.bool false)] 41) [] none [] <|
 .x 4 (.st 21) [.r 3, .r 2] none [] <|
 .out [(0, .s 0), (2, .s 2), (3, .r 3)]
def e51r2 : EE := .x 1 (.call 77) [.s 0] none [] <|
 .q 2 (.fld 1) [.s 3] none <|
 .x 3 (.st 2) [.r 2, .r 1] none [] <|
 .out [(0, .s 0), (2, .s 2), (3, .s 3)]
def e51r3 : EE := .q 0 (.fld 0) [.s 3] none <|
 .q 1 .ld [.r 0] none <|
 .q 2 .neq [.r 1, .c z] none <|
 .out [(0, .s 0), (2, .s 2), (3, .s 3), (12, .r 2)]
def e51r4 : EE := .x 1 (.call 77) [.s 0] none [] <|
 .q 2 (.fld 3) [.s 3] none <|
 .x 3 (.st 2) [.r 2, .r 1] none [] <|
 .out [(0, .s 0), (2, .s 2), (3, .s 3)]
def e51r5 : EE := .x 1 (.call 78) [.s 0] none [] <|
 .q 2 (.fld 5) [.s 3] none <|
 .x 3 (.st 7) [.r 2, .r 1] none [] <|
 .out [(0, .s 0), (2, .s 2), (3, .s 3)]
def e51r6 : EE := .x 1 (.call 79) [.s 0] none [] <|
 .q 2 (.fld 12) [.s 3] none <|
 .x 3 (.st 8) [.r 2, .r 1] none [] <|
 .out [(0, .s 0), (2, .s 2), (3, .s 3)]
def e51r7 : EE := .x 1 (.call 80) [.s 0] none [] <|
 .q 2 (.fld 20) [.s 3] none <|
 .x 3 (.st 1) [.r 2, .r 1] none [] <|
 .out [(0, .s 0), (2, .s 2), (3, .s 3)]
def e51r8 : EE := .x 1 (.call 81) [.s 0] none [] <|
 .q 2 .eql [.r 1, .c z] none <|
 .q 4 (.lda 21) [.s 3] (some (.r 2, true)) <|
 .x 5 (.call 53) [.r 4] (some (.r 2, true)) [] <|
 .q 6 .not [.r 5] (some (.r 2, true)) <|
 .q 7 .pick [.r 2, .r 6, .c (.bool false)] none <|
 .out [(0, .s 0), (2, .s 2), (3, .s 3), (32, .r 7)]
def e51r9 : EE := .x 1 (.call 82) [.s 0] none [] <|
 .out [(0, .s 0), (2, .s 2), (3, .s 3)]
def e51r10 : EE := .x 1 (.call 81) [.s 0] none [] <|
 .q 2 .neq [.r 1, .c z] none <|
 .out [(2, .s 2), (3, .s 3), (37, .r 2)]
def e51r11 : EE := .q 0 (.bld [z, z, z, z, z, z, z, z, zs, zs, zs, zs, z, z, z, z, z, z, z, z, (.bool false)] []) [] none <|
 .x 1 (.st 21) [.s 2, .r 0] none [] <|
 .out [(2, .s 2)]
def e51r12 : EE := .q 0 (.lda 21) [.s 3] none <|
 .x 1 (.st 21) [.s 2, .r 0] none [] <|
 .out [(2, .s 2)]
def e51 : EFn := ⟨(.seq (.reg e51r0 [0] 0) (.seq (.reg e51r1 [0, 2] 0) (.seq (.reg e51r2 [0, 2, 3] 0) (.seq (.seq (.reg e51r3 [0, 2, 3] 0) (.cond (.s 12) (.seq (.reg e51r4 [0, 2, 3] 0) (.seq (.reg e51r5 [0, 2, 3] 0) (.seq (.reg e51r6 [0, 2, 3] 0) (.reg e51r7 [0, 2, 3] 0)))) .skip)) (.seq (.seq (.reg e51r8 [0, 2, 3] 0) (.cond (.s 32) (.reg e51r9 [0, 2, 3] 0) .skip)) (.seq (.seq (.reg e51r10 [0, 2, 3] 0) (.cond (.s 37) (.seq (.reg e51r11 [2] 0) .ret) .skip)) (.seq (.reg e51r12 [2, 3] 0) .ret))))))), [.cells 2 21], 40, 0⟩
theorem g51 : Good Tryz.prog 51 e51 := ⟨Tryz.f51, Tryz.func51, by kernel_rfl, by kernel_rfl, by kernel_rfl, by kernel_rfl⟩
/-! (*concord/pack.Reader).End -/
def e52r0 : EE := .out [(0, .s 0)]
def e52r1 : EE := .q 1 .nl [.s 0] none <|
 .q 2 (.fld 2) [.r 1] none <|
 .q 3 .ld [.r 2] none <|
 .q 4 .eql [.r 3, .c z] none <|
 .q 6 .mv [.s 0] (some (.r 4, true)) <|
 .q 7 .nl [.r 6] (some (.r 4, true)) <|
 .q 8 (.fld 1) [.r 7] (some (.r 4, true)) <|
 .q 9 .ld [.r 8] (some (.r 4, true)) <|
 .q 10 .mv [.s 0] (some (.r 4, true)) <|
 .q 11 .nl [.r 10] (some (.r 4, true)) <|
 .q 12 (.fld 0) [.r 11] (some (.r 4, true)) <|
 .q 13 .ld [.r 12] (some (.r 4, true)) <|
 .q 14 .len [.r 13] (some (.r 4, true)) <|
 .q 15 .lss [.r 9, .r 14] (some (.r 4, true)) <|
 .q 16 .pick [.r 4, .r 15, .c (.bool false)] none <|
 .out [(0, .s 0), (19, .r 16)]
def e52r2 : EE := .q 1 .nl [.s 0] none <|
 .q 2 (.fld 2) [.r 1] none <|
 .x 3 (.st 1) [.r 2, .c (.int .i64 5)] none [] <|
 .out [(0, .s 0)]
def e52r3 : EE := .q 1 .nl [.s 0] none <|
 .q 2 (.fld 2) [.r 1] none <|
 .q 3 .ld [.r 2] none <|
 .out [(2, .r 3)]
def e52 : EFn := ⟨(.seq (.reg e52r0 [0] 0) (.seq (.seq (.reg e52r1 [0] 0) (.cond (.s 19) (.reg e52r2 [0] 0) .skip)) (.seq (.reg e52r3 [0] 0) .ret))), [.slot 2], 27, 0⟩
theorem g52 : Good Tryz.prog 52 e52 := ⟨Tryz.f52, Tryz.func52, by kernel_rfl, by kernel_rfl, by kernel_rfl, by kernel_rfl⟩
/-! concord/letter.RightCell -/
def e53r0 : EE := .x 0 (.box 41) [.s 0] none [] <|
 .out [(1, .r 0)]
def e53r1 : EE := .q 0 (.fld 0) [.s 1] none <|
 .q 1 .ld [.r 0] none <|
 .q 2 .lss [.r 1, .c z] none <|
 .q 4 (.fld 0) [.s 1] (some (.r 2, false)) <|
 .q 5 .ld [.r 4] (some (.r 2, false)) <|
 .q 6 .gtr [.r 5, .c (.int .i64 3)] (some (.r 2, false)) <|
 .q 7 .pick [.r 2, .c (.bool true), .r 6] none <|
 .q 9 (.fld 1) [.s 1] (some (.r 7, false)) <|
 .q 10 (.lda 2) [.r 9] (some (.r 7, false)) <|
 .x 11 (.call 25) [.r 10] (some (.r 7, false)) [] <|
 .q 12 .not [.r 11] (some (.r 7, false)) <|
 .q 13 .pick [.r 7, .c (.bool true), .r 12] none <|
 .q 15 (.fld 3) [.s 1] (some (.r 13, false)) <|
 .q 16 (.lda 2) [.r 15] (some (.r 13, false)) <|
 .x 17 (.call 25) [.r 16] (some (.r 13, false)) [] <|
 .q 18 .not [.r 17] (some (.r 13, false)) <|
 .q 19 .pick [.r 13, .c (.bool true), .r 18] none <|
 .q 21 (.fld 1) [.s 1] (some (.r 19, false)) <|
 .q 22 (.lda 2) [.r 21] (some (.r 19, false)) <|
 .q 23 (.fld 3) [.s 1] (some (.r 19, false)) <|
 .q 24 (.lda 2) [.r 23] (some (.r 19, false)) <|
 .x 25 (.call 23) [.r 22, .r 24] (some (.r 19, false)) [] <|
 .q 26 .pick [.r 19, .c (.bool true), .r 25] none <|
 .out [(1, .s 1), (29, .r 26)]
def e53r2 : EE := .out [(2, .c (.bool false))]
def e53r3 : EE := .q 0 (.fld 20) [.s 1] none <|
 .q 1 .ld [.r 0] none <|
 .q 3 (.fld 0) [.s 1] (some (.r 1, true)) <|
 .q 4 .ld [.r 3] (some (.r 1, true)) <|
 .q 5 .neq [.r 4, .c (.int .i64 1)] (some (.r 1, true)) <|
 .q 6 .mv [.r 5] (some (.r 1, true)) <|
 .q 7 (.fld 3) [.s 1] (some (.r 6, false)) <|
 .q 8 (.lda 2) [.r 7] (some (.r 6, false)) <|
 .q 9 (.bld [z, z] []) [] (some (.r 6, false)) <|
 .q 10 (.eqc true [(.i .i64), (.i .i64)]) [.r 8, .r 9] (some (.r 6, false)) <|
 .q 11 .pick [.r 6, .c (.bool true), .r 10] (some (.r 1, true)) <|
 .q 12 .pick [.r 1, .r 11, .c (.bool false)] none <|
 .q 14 (.fld 0) [.s 1] (some (.r 12, false)) <|
 .q 15 .ld [.r 14] (some (.r 12, false)) <|
 .q 16 .eql [.r 15, .c z] (some (.r 12, false)) <|
 .q 17 .mv [.r 16] (some (.r 12, false)) <|
 .q 18 (.lda 21) [.s 1] (some (.r 17, true)) <|
 .q 19 (.fld 1) [.s 1] (some (.r 17, true)) <|
 .q 20 (.lda 2) [.r 19] (some (.r 17, true)) <|
 .q 21 (.bld [z, z, z, z, z, z, z, z, zs, zs, zs, zs, z, z, z, z, z, z, z, z, (.bool false)] [(1, 2)]) [.r 20] (some (.r 17, true)) <|
 .q 22 (.eqc true [(.i .i64), (.i .i64), (.i .i64), (.i .i64), (.i .i64), (.i .i64), (.i .i64), (.i .i64), .s, .s, .s, .s, (.i .i64), (.i .i64), (.i .i64), (.i .i64), (.i .i64), (.i .i64), (.i .i64), (.i .i64), .b]) [.r 18, .r 21] (some (.r 17, true)) <|
 .q 23 .pick [.r 17, .r 22, .c (.bool false)] (some (.r 12, false)) <|
 .q 24 .pick [.r 12, .c (.bool true), .r 23] none <|
 .out [(1, .s 1), (54, .r 24)]
def e53r4 : EE := .out [(2, .c (.bool false))]
def e53r5 : EE := .q 0 (.fld 5) [.s 1] none <|
 .q 1 (.lda 7) [.r 0] none <|
 .x 2 (.call 13) [.r 1] none [] <|
 .q 4 (.fld 12) [.s 1] (some (.r 2, true)) <|
 .q 5 (.lda 8) [.r 4] (some (.r 2, true)) <|
 .x 6 (.call 15) [.r 5] (some (.r 2, true)) [] <|
 .q 7 .pick [.r 2, .r 6, .c (.bool false)] none <|
 .out [(2, .r 7)]
def e53 : EFn := ⟨(.seq (.reg e53r0 [0] 0) (.seq (.seq (.reg e53r1 [1] 0) (.cond (.s 29) (.seq (.reg e53r2 [] 0) .ret) .skip)) (.seq (.seq (.reg e53r3 [1] 0) (.cond (.s 54) (.seq (.reg e53r4 [] 0) .ret) .skip)) (.seq (.reg e53r5 [1] 0) .ret)))), [.slot 2], 63, 0⟩
theorem g53 : Good Tryz.prog 53 e53 := ⟨Tryz.f53, Tryz.func53, by kernel_rfl, by kernel_rfl, by kernel_rfl, by kernel_rfl⟩
/-! concord/log.may -/
def e54r0 : EE := .x 0 (.box 41) [.s 0] none [] <|
 .x 1 (.box 41) [.s 1] none [] <|
 .out [(2, .r 0), (3, .r 1)]
def e54r1 : EE := .q 0 (.fld 0) [.s 2] none <|
 .q 1 .ld [.r 0] none <|
 .q 2 .eql [.r 1, .c (.int .i64 3)] none <|
 .q 4 (.fld 0) [.s 3] (some (.r 2, true)) <|
 .q 5 .ld [.r 4] (some (.r 2, true)) <|
 .q 6 .neq [.r 5, .c (.int .i64 3)] (some (.r 2, true)) <|
 .q 7 .mv [.r 6] (some (.r 2, true)) <|
 .q 8 (.fld 5) [.s 3] (some (.r 7, false)) <|
 .q 9 (.lda 7) [.r 8] (some (.r 7, false)) <|
 .q 10 (.fld 5) [.s 2] (some (.r 7, false)) <|
 .q 11 (.lda 7) [.r 10] (some (.r 7, false)) <|
 .q 12 (.eqc true [(.i .i64), (.i .i64), (.i .i64), .s, .s, .s, .s]) [.r 9, .r 11] (some (.r 7, false)) <|
 .q 13 .pick [.r 7, .c (.bool true), .r 12] (some (.r 2, true)) <|
 .q 14 .mv [.r 13] (some (.r 2, true)) <|
 .q 15 (.fld 12) [.s 3] (some (.r 14, false)) <|
 .q 16 (.lda 8) [.r 15] (some (.r 14, false)) <|
 .q 17 (.fld 12) [.s 2] (some (.r 14, false)) <|
 .q 18 (.lda 8) [.r 17] (some (.r 14, false)) <|
 .q 19 (.eqc true [(.i .i64), (.i .i64), (.i .i64), (.i .i64), (.i .i64), (.i .i64), (.i .i64), (.i .i64)]) [.r 16, .r 18] (some (.r 14, false)) <|
 .q 20 .pick [.r 14, .c (.bool true), .r 19] (some (.r 2, true)) <|
 .q 21 .pick [.r 2, .r 20, .c (.bool false)] none <|
 .out [(2, .s 2), (3, .s 3), (26, .r 21)]
def e54r2 : EE := .out [(4, .c (.bool false))]
def e54r3 : EE := .q 0 (.fld 1) [.s 3] none <|
 .q 1 (.lda 2) [.r 0] none <|
 .q 2 (.fld 1) [.s 2] none <|
 .q 3 (.lda 2) [.r 2] none <|
 .x 4 (.call 23) [.r 1, .r 3] none [] <|
 .q 6 (.fld 3) [.s 3] (some (.r 4, false)) <|
 .q 7 (.lda 2) [.r 6] (some (.r 4, false)) <|
 .q 8 (.fld 3) [.s 2] (some (.r 4, false)) <|
 .q 9 (.lda 2) [.r 8] (some (.r 4, false)) <|
 .x 10 (.call 23) [.r 7, .r 9] (some (.r 4, false)) [] <|
 .q 11 .pick [.r 4, .c (.bool true), .r 10] none <|
 .out [(2, .s 2), (3, .s 3), (38, .r 11)]
def e54r4 : EE := .out [(4, .c (.bool false))]
def e54r5 : EE := .q 0 (.fld 0) [.s 3] none <|
 .q 1 .ld [.r 0] none <|
 .q 2 (.fld 0) [.s 2] none <|
 .q 3 .ld [.r 2] none <|
 .q 4 .geq [.r 1, .r 3] none <|
 .q 6 (.fld 3) [.s 3] (some (.r 4, false)) <|
 .q 7 (.lda 2) [.r 6] (some (.r 4, false)) <|
 .q 8 (.fld 3) [.s 2] (some (.r 4, false)) <|
 .q 9 (.lda 2) [.r 8] (some (.r 4, false)) <|
 .q 10 (.eqc true [(.i .i64), (.i .i64)]) [.r 7, .r 9] (some (.r 4, false)) <|
 .q 11 .pick [.r 4, .c (.bool true), .r 10] none <|
 .out [(4, .r 11)]
def e54 : EFn := ⟨(.seq (.reg e54r0 [0, 1] 0) (.seq (.seq (.reg e54r1 [2, 3] 0) (.cond (.s 26) (.seq (.reg e54r2 [] 0) .ret) .skip)) (.seq (.seq (.reg e54r3 [2, 3] 0) (.cond (.s 38) (.seq (.reg e54r4 [] 0) .ret) .skip)) (.seq (.reg e54r5 [2, 3] 0) .ret)))), [.slot 4], 51, 0⟩
theorem g54 : Good Tryz.prog 54 e54 := ⟨Tryz.f54, Tryz.func54, by kernel_rfl, by kernel_rfl, by kernel_rfl, by kernel_rfl⟩
/-! (*concord/interf.Index).Note -/
def e55r0 : EE := .x 0 (.box 25) [.s 1] none [] <|
 .x 1 (.box 30) [.s 2] none [] <|
 .out [(0, .s 0), (3, .s 3), (5, .r 0), (6, .r 1)]
def e55r1 : EE := .q 0 (.lda 2) [.s 5] none <|
 .x 1 (.call 36) [.r 0] none [] <|
 .q 2 .not [.r 1] none <|
 .q 4 (.fld 1) [.s 5] (some (.r 2, false)) <|
 .q 5 .ld [.r 4] (some (.r 2, false)) <|
 .q 6 .mv [.s 0] (some (.r 2, false)) <|
 .q 7 (.fld 0) [.s 5] (some (.r 2, false)) <|
 .q 8 .ld [.r 7] (some (.r 2, false)) <|
 .q 9 .nl [.r 6] (some (.r 2, false)) <|
 .q 10 (.fld 1) [.r 9] (some (.r 2, false)) <|
 .q 11 (.ixa 7 1) [.r 10, .r 8] (some (.r 2, false)) <|
 .q 12 .ld [.r 11] (some (.r 2, false)) <|
 .q 13 .leq [.r 5, .r 12] (some (.r 2, false)) <|
 .q 14 .pick [.r 2, .c (.bool true), .r 13] none <|
 .q 16 (.lda 7) [.s 6] (some (.r 14, false)) <|
 .x 17 (.call 13) [.r 16] (some (.r 14, false)) [] <|
 .q 18 .not [.r 17] (some (.r 14, false)) <|
 .q 19 .pick [.r 14, .c (.bool true), .r 18] none <|
 .q 21 .mv [.s 3] (some (.r 19, false)) <|
 .q 22 .lss [.r 21, .c z] (some (.r 19, false)) <|
 .q 23 .pick [.r 19, .c (.bool true), .r 22] none <|
 .q 25 .mv [.s 3] (some (.r 23, false)) <|
 .q 26 .gtr [.r 25, .c (.int .i64 1099511627776)] (some (.r 23, false)) <|
 .q 27 .pick [.r 23, .c (.bool true), .r 26] none <|
 .out [(0, .s 0), (3, .s 3), (5, .s 5), (6, .s 6), (36, .r 27)]
def e55r2 : EE := .out [(8, .c (.bool false))]
def e55r3 : EE := .q 1 .nl [.s 0] none <|
 .q 2 (.fld 0) [.r 1] none <|
 .q 3 .ld [.r 2] none <|
 .q 4 (.lda 2) [.s 5] none <|
 .q 5 (.lda 7) [.s 6] none <|
 .q 7 (.bld [z, z, z, zs, zs, zs, zs, z] [(0, 7), (7, 1)]) [.r 5, .s 3] none <|
 .x 8 (.mup true [(.i .i64), (.i .i64)]) [.r 3, .r 4, .r 7] none [] <|
 .out []
def e55r4 : EE := .out [(8, .c (.bool true))]
def e55 : EFn := ⟨(.seq (.reg e55r0 [0, 1, 2, 3] 0) (.seq (.seq (.reg e55r1 [0, 3, 5, 6] 0) (.cond (.s 36) (.seq (.reg e55r2 [] 0) .ret) .skip)) (.seq (.reg e55r3 [0, 3, 5, 6] 0) (.seq (.reg e55r4 [] 0) .ret)))), [.slot 8], 45, 0⟩
theorem g55 : Good Tryz.prog 55 e55 := ⟨Tryz.f55, Tryz.func55, by kernel_rfl, by kernel_rfl, by kernel_rfl, by kernel_rfl⟩
/-! concord/cmd.Keys -/
def e56r0 : EE := .x 0 (.box 30) [.s 0] none [] <|
 .x 1 (.alc [zs, zs] 114) [] none [] <|
 .out [(1, .r 0), (2, .r 1)]
def e56r1 : EE := .q 0 (.fld 0) [.s 1] none <|
 .q 1 .ld [.r 0] none <|
 .out [(1, .s 1), (2, .s 2), (5, .r 1)]
def e56r2 : EE := .q 0 .eql [.s 5, .c (.int .i64 1)] none <|
 .out [(1, .s 1), (2, .s 2), (5, .s 5), (6, .r 0)]
def e56r3 : EE := .q 0 .eql [.s 5, .c (.int .i64 2)] none <|
 .out [(1, .s 1), (2, .s 2), (5, .s 5), (6, .r 0)]
def e56r4 : EE := .q 0 .eql [.s 5, .c (.int .i64 3)] none <|
 .out [(1, .s 1), (2, .s 2), (5, .s 5), (6, .r 0)]
def e56r5 : EE := .q 0 .eql [.s 5, .c (.int .i64 4)] none <|
 .out [(1, .s 1), (2, .s 2), (5, .s 5), (6, .r 0)]
def e56r6 : EE := .q 0 (.fld 3) [.s 1] none <|
 .q 1 .ld [.r 0] none <|
 .x 2 (.call 83) [.r 1] none [] <|
 .x 3 (.st 2) [.s 2, .r 2] none [] <|
 .out [(2, .s 2), (3, .c (.bool true))]
def e56r7 : EE := .q 0 .eql [.s 5, .c (.int .i64 5)] none <|
 .out [(1, .s 1), (2, .s 2), (14, .r 0)]
def e56r8 : EE := .q 0 (.fld 3) [.s 1] none <|
 .q 1 .ld [.r 0] none <|
 .q 2 (.fld 4) [.s 1] none <|
 .q 3 .ld [.r 2] none <|
 .q 4 (.bld [zs, zs] [(0, 1), (1, 1)]) [.r 1, .r 3] none <|
 .x 5 (.st 2) [.s 2, .r 4] none [] <|
 .out [(2, .s 2), (3, .c (.bool true))]
def e56r9 : EE := .q 0 (.bld [zs, zs] []) [] none <|
 .x 1 (.st 2) [.s 2, .r 0] none [] <|
 .out [(2, .s 2), (3, .c (.bool false))]
def e56 : EFn := ⟨(.seq (.reg e56r0 [0] 0) (.seq (.seq (.reg e56r1 [1, 2] 0) (.block 0 (.seq (.seq (.reg e56r2 [1, 2, 5] 0) (.cond (.s 6) .skip (.seq (.reg e56r3 [1, 2, 5] 0) (.cond (.s 6) .skip (.seq (.reg e56r4 [1, 2, 5] 0) (.cond (.s 6) .skip (.reg e56r5 [1, 2, 5] 0))))))) (.cond (.s 6) (.seq (.reg e56r6 [1, 2] 0) .ret) (.seq (.reg e56r7 [1, 2, 5] 0) (.cond (.s 14) (.seq (.reg e56r8 [1, 2] 0) .ret) .skip)))))) (.seq (.reg e56r9 [2] 0) .ret))), [.cells 2 2, .slot 3], 22, 0⟩
theorem g56 : Good Tryz.prog 56 e56 := ⟨Tryz.f56, Tryz.func56, by kernel_rfl, by kernel_rfl, by kernel_rfl, by kernel_rfl⟩
/-! concord/cmd.Writes -/
def e57r0 : EE := .x 0 (.box 30) [.s 0] none [] <|
 .out [(1, .r 0)]
def e57r1 : EE := .q 0 (.fld 0) [.s 1] none <|
 .q 1 .ld [.r 0] none <|
 .q 2 .eql [.r 1, .c (.int .i64 2)] none <|
 .q 4 (.fld 0) [.s 1] (some (.r 2, false)) <|
 .q 5 .ld [.r 4] (some (.r 2, false)) <|
 .q 6 .eql [.r 5, .c (.int .i64 3)] (some (.r 2, false)) <|
 .q 7 .pick [.r 2, .c (.bool true), .r 6] none <|
 .q 9 (.fld 0) [.s 1] (some (.r 7, false)) <|
 .q 10 .ld [.r 9] (some (.r 7, false)) <|
 .q 11 .eql [.r 10, .c (.int .i64 4)] (some (.r 7, false)) <|
 .q 12 .pick [.r 7, .c (.bool true), .r 11] none <|
 .out [(2, .r 12)]
def e57 : EFn := ⟨(.seq (.reg e57r0 [0] 0) (.seq (.reg e57r1 [1] 0) .ret)), [.slot 2], 16, 0⟩
theorem g57 : Good Tryz.prog 57 e57 := ⟨Tryz.f57, Tryz.func57, by kernel_rfl, by kernel_rfl, by kernel_rfl, by kernel_rfl⟩
/-! concord/span.Meets -/
def e58r0 : EE := .x 0 (.box 114) [.s 0] none [] <|
 .x 1 (.box 114) [.s 1] none [] <|
 .out [(2, .r 0), (3, .r 1)]
def e58r1 : EE := .q 0 (.lda 2) [.s 2] none <|
 .x 1 (.call 84) [.r 0] none [] <|
 .q 2 .not [.r 1] none <|
 .q 4 (.lda 2) [.s 3] (some (.r 2, true)) <|
 .x 5 (.call 84) [.r 4] (some (.r 2, true)) [] <|
 .q 6 .not [.r 5] (some (.r 2, true)) <|
 .q 7 .pick [.r 2, .r 6, .c (.bool false)] none <|
 .q 9 (.fld 0) [.s 2] (some (.r 7, true)) <|
 .q 10 .ld [.r 9] (some (.r 7, true)) <|
 .q 11 (.fld 1) [.s 3] (some (.r 7, true)) <|
 .q 12 .ld [.r 11] (some (.r 7, true)) <|
 .x 13 (.call 85) [.r 10, .r 12] (some (.r 7, true)) [] <|
 .q 14 .pick [.r 7, .r 13, .c (.bool false)] none <|
 .q 16 (.fld 0) [.s 3] (some (.r 14, true)) <|
 .q 17 .ld [.r 16] (some (.r 14, true)) <|
 .q 18 (.fld 1) [.s 2] (some (.r 14, true)) <|
 .q 19 .ld [.r 18] (some (.r 14, true)) <|
 .x 20 (.call 85) [.r 17, .r 19] (some (.r 14, true)) [] <|
 .q 21 .pick [.r 14, .r 20, .c (.bool false)] none <|
 .out [(4, .r 21)]
def e58 : EFn := ⟨(.seq (.reg e58r0 [0, 1] 0) (.seq (.reg e58r1 [2, 3] 0) .ret)), [.slot 4], 27, 0⟩
theorem g58 : Good Tryz.prog 58 e58 := ⟨Tryz.f58, Tryz.func58, by kernel_rfl, by kernel_rfl, by kernel_rfl, by kernel_rfl⟩
/-! concord/letter.PutCell -/
def e59r0 : EE := .x 0 (.box 41) [.s 1] none [] <|
 .out [(0, .s 0), (3, .r 0)]
def e59r1 : EE := .q 0 (.lda 21) [.s 3] none <|
 .x 1 (.call 53) [.r 0] none [] <|
 .q 2 .not [.r 1] none <|
 .out [(0, .s 0), (3, .s 3), (7, .r 2)]
def e59r2 : EE := .x 1 (.app 5 1 1 [(.int .u8 0)]) [.c .nsl, .s 0] none [] <|
 .out [(4, .r 1)]
def e59r3 : EE := .q 1 (.fld 0) [.s 3] none <|
 .q 2 .ld [.r 1] none <|
 .q 4 (.fld 1) [.s 3] none <|
 .q 5 (.lda 2) [.r 4] none <|
 .x 3 (.call 60) [.s 0, .r 2] none [⟨5, (.lda 2), [.r 4], none⟩] <|
 .x 6 (.call 86) [.r 3, .r 5] none [] <|
 .out [(0, .r 6), (3, .s 3)]
def e59r4 : EE := .q 0 (.fld 0) [.s 3] none <|
 .q 1 .ld [.r 0] none <|
 .q 2 .eql [.r 1, .c z] none <|
 .out [(0, .s 0), (3, .s 3), (19, .r 2)]
def e59r5 : EE := .out [(4, .s 0)]
def e59r6 : EE := .q 1 (.fld 3) [.s 3] none <|
 .q 2 (.lda 2) [.r 1] none <|
 .q 4 (.fld 5) [.s 3] none <|
 .q 5 (.lda 7) [.r 4] none <|
 .x 3 (.call 86) [.s 0, .r 2] none [⟨5, (.lda 7), [.r 4], none⟩] <|
 .x 6 (.call 87) [.r 3, .r 5] none [] <|
 .out [(0, .r 6), (3, .s 3)]
def e59r7 : EE := .q 1 (.fld 12) [.s 3] none <|
 .q 2 (.lda 8) [.r 1] none <|
 .q 4 (.fld 20) [.s 3] none <|
 .q 5 .ld [.r 4] none <|
 .x 3 (.call 89) [.s 0, .r 2] none [⟨5, .ld, [.r 4], none⟩] <|
 .x 6 (.call 88) [.r 3, .r 5] none [] <|
 .out [(4, .r 6)]
def e59 : EFn := ⟨(.seq (.reg e59r0 [0, 1] 0) (.seq (.seq (.reg e59r1 [0, 3] 0) (.cond (.s 7) (.seq (.reg e59r2 [0] 0) .ret) .skip)) (.seq (.reg e59r3 [0, 3] 0) (.seq (.seq (.reg e59r4 [0, 3] 0) (.cond (.s 19) (.seq (.reg e59r5 [0] 0) .ret) .skip)) (.seq (.reg e59r6 [0, 3] 0) (.seq (.reg e59r7 [0, 3] 0) .ret)))))), [.slot 4], 35, 0⟩
theorem g59 : Good Tryz.prog 59 e59 := ⟨Tryz.f59, Tryz.func59, by kernel_rfl, by kernel_rfl, by kernel_rfl, by kernel_rfl⟩
/-! concord/pack.Num -/
def e60r0 : EE := .out [(0, .s 0), (1, .s 1)]
def e60r1 : EE := .x 1 (.call 74) [.s 0, .c (.int .i64 10)] none [] <|
 .x 3 (.call 90) [.r 1, .s 1] none [] <|
 .out [(4, .r 3)]
def e60 : EFn := ⟨(.seq (.reg e60r0 [0, 1] 0) (.seq (.reg e60r1 [0, 1] 0) .ret)), [.slot 4], 9, 0⟩
theorem g60 : Good Tryz.prog 60 e60 := ⟨Tryz.f60, Tryz.func60, by kernel_rfl, by kernel_rfl, by kernel_rfl, by kernel_rfl⟩
/-! (*concord/core.Core).leave -/
def e61r0 : EE := .x 0 (.box 25) [.s 1] none [] <|
 .out [(0, .s 0), (3, .r 0)]
def e61r1 : EE := .q 2 .nl [.s 0] none <|
 .q 3 (.fld 4) [.r 2] none <|
 .q 4 .ld [.r 3] none <|
 .q 5 (.mkf 92 0) [.s 3] none <|
 .x 6 (.call 91) [.r 4, .r 5] none [] <|
 .q 7 .nl [.s 0] none <|
 .q 8 (.fld 4) [.r 7] none <|
 .x 9 (.st 1) [.r 8, .r 6] none [] <|
 .out []
def e61 : EFn := ⟨(.seq (.reg e61r0 [0, 1] 0) (.reg e61r1 [0, 3] 0)), [], 13, 0⟩
theorem g61 : Good Tryz.prog 61 e61 := ⟨Tryz.f61, Tryz.func61, by kernel_rfl, by kernel_rfl, by kernel_rfl, by kernel_rfl⟩
/-! concord/inst.Less -/
def e62r0 : EE := .x 0 (.box 25) [.s 0] none [] <|
 .x 1 (.box 25) [.s 1] none [] <|
 .out [(2, .r 0), (3, .r 1)]
def e62r1 : EE := .q 0 (.fld 0) [.s 2] none <|
 .q 1 .ld [.r 0] none <|
 .q 2 (.fld 0) [.s 3] none <|
 .q 3 .ld [.r 2] none <|
 .q 4 .lss [.r 1, .r 3] none <|
 .q 6 (.fld 0) [.s 2] (some (.r 4, false)) <|
 .q 7 .ld [.r 6] (some (.r 4, false)) <|
 .q 8 (.fld 0) [.s 3] (some (.r 4, false)) <|
 .q 9 .ld [.r 8] (some (.r 4, false)) <|
 .q 10 .eql [.r 7, .r 9] (some (.r 4, false)) <|
 .q 11 .mv [.r 10] (some (.r 4, false)) <|
 .q 12 (.fld 1) [.s 2] (some (.r 11, true)) <|
 .q 13 .ld [.r 12] (some (.r 11, true)) <|
 .q 14 (.fld 1) [.s 3] (some (.r 11, true)) <|
 .q 15 .ld [.r 14] (some (.r 11, true)) <|
 .q 16 .lss [.r 13, .r 15] (some (.r 11, true)) <|
 .q 17 .pick [.r 11, .r 16, .c (.bool false)] (some (.r 4, false)) <|
 .q 18 .pick [.r 4, .c (.bool true), .r 17] none <|
 .out [(4, .r 18)]
def e62 : EFn := ⟨(.seq (.reg e62r0 [0, 1] 0) (.seq (.reg e62r1 [2, 3] 0) .ret)), [.slot 4], 24, 0⟩
theorem g62 : Good Tryz.prog 62 e62 := ⟨Tryz.f62, Tryz.func62, by kernel_rfl, by kernel_rfl, by kernel_rfl, by kernel_rfl⟩
/-! slices.Insert[[]*concord/core.lead,*concord/core.lead] -/
def e63r0 : EE := .out [(0, .s 0), (1, .s 1), (2, .s 2)]
def e63r1 : EE := .q 2 (.slc 1 true false) [.s 0, .s 1] none <|
 .out [(0, .s 0), (1, .s 1), (2, .s 2)]
def e63r2 : EE := .q 1 .len [.s 2] none <|
 .out [(0, .s 0), (1, .s 1), (2, .s 2), (7, .r 1)]
def e63r3 : EE := .q 1 .eql [.s 7, .c z] none <|
 .out [(0, .s 0), (1, .s 1), (2, .s 2), (7, .s 7), (16, .r 1)]
def e63r4 : EE := .out [(6, .s 0)]
def e63r5 : EE := .q 1 .len [.s 0] none <|
 .out [(0, .s 0), (1, .s 1), (2, .s 2), (7, .s 7), (8, .r 1)]
def e63r6 : EE := .q 2 .eql [.s 1, .s 8] none <|
 .out [(0, .s 0), (1, .s 1), (2, .s 2), (7, .s 7), (8, .s 8), (22, .r 2)]
def e63r7 : EE := .x 2 (.app 66 1 8 [.nptr]) [.s 0, .s 2] none [] <|
 .out [(6, .r 2)]
def e63r8 : EE := .q 2 .add [.s 8, .s 7] none <|
 .x 4 .bad [] none [] <|
 .q 5 .gtr [.r 2, .r 4] none <|
 .out [(0, .s 0), (1, .s 1), (2, .s 2), (7, .s 7), (8, .s 8), (31, .r 5)]
def e63r9 : EE := .q 2 (.slc 1 false true) [.s 0, .s 1] none <|
 .q 5 .add [.s 8, .s 7] none <|
 .q 7 .sub [.r 5, .s 1] none <|
 .x 8 .bad [] none [] <|
 .out [(0, .s 0), (1, .s 1), (2, .s 2), (7, .s 7), (9, .r 8)]
def e63r10 : EE := .q 2 (.slc 1 true false) [.s 9, .s 1] none <|
 .x 4 (.cpy 1) [.r 2, .s 2] none [] <|
 .out [(0, .s 0), (1, .s 1), (7, .s 7), (9, .s 9)]
def e63r11 : EE := .q 3 .add [.s 1, .s 7] none <|
 .q 4 (.slc 1 true false) [.s 9, .r 3] none <|
 .q 7 (.slc 1 true false) [.s 0, .s 1] none <|
 .x 8 (.cpy 1) [.r 4, .r 7] none [] <|
 .out [(9, .s 9)]
def e63r12 : EE := .out [(6, .s 9)]
def e63r13 : EE := .q 3 .add [.s 8, .s 7] none <|
 .q 4 (.slc 1 false true) [.s 0, .r 3] none <|
 .out [(0, .r 4), (1, .s 1), (2, .s 2), (7, .s 7), (8, .s 8)]
def e63r14 : EE := .q 4 .add [.s 1, .s 7] none <|
 .q 5 (.slc 1 true false) [.s 0, .r 4] none <|
 .x 6 .bad [] none [] <|
 .q 7 .not [.r 6] none <|
 .out [(0, .s 0), (1, .s 1), (2, .s 2), (7, .s 7), (8, .s 8), (68, .r 7)]
def e63r15 : EE := .q 3 .add [.s 1, .s 7] none <|
 .q 4 (.slc 1 true false) [.s 0, .r 3] none <|
 .q 7 (.slc 1 true false) [.s 0, .s 1] none <|
 .x 8 (.cpy 1) [.r 4, .r 7] none [] <|
 .out [(0, .s 0), (1, .s 1), (2, .s 2)]
def e63r16 : EE := .q 2 (.slc 1 true false) [.s 0, .s 1] none <|
 .x 4 (.cpy 1) [.r 2, .s 2] none [] <|
 .out [(0, .s 0)]
def e63r17 : EE := .out [(6, .s 0)]
def e63r18 : EE := .q 2 (.slc 1 true false) [.s 0, .s 8] none <|
 .x 4 (.cpy 1) [.r 2, .s 2] none [] <|
 .out [(0, .s 0), (1, .s 1), (7, .s 7)]
def e63r19 : EE := .q 2 (.slc 1 true false) [.s 0, .s 1] none <|
 .x 4 (.call 94) [.r 2, .s 7] none [] <|
 .out [(0, .s 0)]
def e63r20 : EE := .out [(6, .s 0)]
def e63 : EFn := ⟨(.seq (.reg e63r0 [0, 1, 2] 0) (.seq (.reg e63r1 [0, 1, 2] 0) (.seq (.reg e63r2 [0, 1, 2] 0) (.seq (.seq (.reg e63r3 [0, 1, 2, 7] 0) (.cond (.s 16) (.seq (.reg e63r4 [0] 0) .ret) .skip)) (.seq (.reg e63r5 [0, 1, 2, 7] 0) (.seq (.seq (.reg e63r6 [0, 1, 2, 7, 8] 0) (.cond (.s 22) (.seq (.reg e63r7 [0, 2] 0) .ret) .skip)) (.seq (.seq (.reg e63r8 [0, 1, 2, 7, 8] 0) (.cond (.s 31) (.seq (.reg e63r9 [0, 1, 2, 7, 8] 0) (.seq (.reg e63r10 [0, 1, 2, 7, 9] 0) (.seq (.reg e63r11 [0, 1, 7, 9] 0) (.seq (.reg e63r12 [9] 0) .ret)))) .skip)) (.seq (.reg e63r13 [0, 1, 2, 7, 8] 0) (.seq (.seq (.reg e63r14 [0, 1, 2, 7, 8] 0) (.cond (.s 68) (.seq (.reg e63r15 [0, 1, 2, 7] 0) (.seq (.reg e63r16 [0, 1, 2] 0) (.seq (.reg e63r17 [0] 0) .ret))) .skip)) (.seq (.reg e63r18 [0, 1, 2, 7, 8] 0) (.seq (.reg e63r19 [0, 1, 7] 0) (.seq (.reg e63r20 [0] 0) .ret)))))))))))), [.slot 6], 95, 0⟩
theorem g63 : Good Tryz.prog 63 e63 := ⟨Tryz.f63, Tryz.func63, by kernel_rfl, by kernel_rfl, by kernel_rfl, by kernel_rfl⟩
/-! (*concord/core.Core).send -/
def e64r0 : EE := .x 0 (.box 45) [.s 2] none [] <|
 .out [(0, .s 0), (1, .s 1), (5, .r 0)]
def e64r1 : EE := .q 1 .nl [.s 0] none <|
 .q 2 (.fld 1) [.r 1] none <|
 .q 3 .ld [.r 2] none <|
 .q 5 (.fld 1) [.s 5] none <|
 .x 6 (.st 1) [.r 5, .r 3] none [] <|
 .q 7 (.fld 2) [.s 5] none <|
 .x 8 (.st 1) [.r 7, .s 1] none [] <|
 .out [(0, .s 0), (5, .s 5)]
def e64r2 : EE := .q 2 .nl [.s 0] none <|
 .q 3 (.fld 7) [.r 2] none <|
 .q 4 .ld [.r 3] none <|
 .q 5 (.lda 51) [.s 5] none <|
 .x 6 (.bsl 45 1 [z, z, z, z, z, z, z, z, z, z, zs, zs, zs, zs, z, z, z, z, z, z, z, z, z, z, z, z, z, z, z, z, zs, zs, zs, zs, z, z, z, z, z, z, z, z, (.bool false), z, z, z, z, z, z, z, zs] [(0, 51)]) [.r 5] none [⟨4, .ld, [.r 3], none⟩] <|
 .x 7 (.app 45 51 480 [z, z, z, z, z, z, z, z, z, z, zs, zs, zs, zs, z, z, z, z, z, z, z, z, z, z, z, z, z, z, z, z, zs, zs, zs, zs, z, z, z, z, z, z, z, z, (.bool false), z, z, z, z, z, z, z, zs]) [.r 4, .r 6] none [] <|
 .q 8 .nl [.s 0] none <|
 .q 9 (.fld 7) [.r 8] none <|
 .x 10 (.st 1) [.r 9, .r 7] none [] <|
 .out []
def e64 : EFn := ⟨(.seq (.reg e64r0 [0, 1, 2] 0) (.seq (.reg e64r1 [0, 1, 5] 0) (.reg e64r2 [0, 5] 0))), [], 23, 0⟩
theorem g64 : Good Tryz.prog 64 e64 := ⟨Tryz.f64, Tryz.func64, by kernel_rfl, by kernel_rfl, by kernel_rfl, by kernel_rfl⟩
/-! concord/letter.named -/
def e65r0 : EE := .x 0 (.alc [(.bool false), (.bool false), (.bool false), (.bool false), (.bool false), (.bool false), (.bool false)] 125) [] none [] <|
 .out [(0, .s 0), (2, .r 0)]
def e65r1 : EE := .out [(2, .s 2), (4, .s 0)]
def e65r2 : EE := .q 0 .eql [.s 4, .c (.int .i64 1)] none <|
 .out [(2, .s 2), (4, .s 4), (5, .r 0)]
def e65r3 : EE := .q 0 .eql [.s 4, .c (.int .i64 3)] none <|
 .out [(2, .s 2), (4, .s 4), (5, .r 0)]
def e65r4 : EE := .q 0 (.bld [(.bool false), (.bool false), (.bool false), (.bool false), (.bool false), (.bool false), (.bool false)] [(0, 1), (1, 1), (2, 1), (3, 1)]) [.c (.bool true), .c (.bool true), .c (.bool true), .c (.bool true)] none <|
 .x 1 (.st 7) [.s 2, .r 0] none [] <|
 .out [(2, .s 2), (3, .c (.bool true))]
def e65r5 : EE := .q 0 .eql [.s 4, .c (.int .i64 2)] none <|
 .out [(2, .s 2), (4, .s 4), (9, .r 0)]
def e65r6 : EE := .q 0 (.bld [(.bool false), (.bool false), (.bool false), (.bool false), (.bool false), (.bool false), (.bool false)] [(0, 1), (1, 1), (3, 1)]) [.c (.bool true), .c (.bool true), .c (.bool true)] none <|
 .x 1 (.st 7) [.s 2, .r 0] none [] <|
 .out [(2, .s 2), (3, .c (.bool true))]
def e65r7 : EE := .q 0 .eql [.s 4, .c (.int .i64 4)] none <|
 .out [(2, .s 2), (4, .s 4), (12, .r 0)]
def e65r8 : EE := .q 0 .eql [.s 4, .c (.int .i64 6)] none <|
 .out [(2, .s 2), (4, .s 4), (12, .r 0)]
def e65r9 : EE := .q 0 .eql [.s 4, .c (.int .i64 8)] none <|
 .out [(2, .s 2), (4, .s 4), (12, .r 0)]
def e65r10 : EE := .q 0 (.bld [(.bool false), (.bool false), (.bool false), (.bool false), (.bool false), (.bool false), (.bool false)] [(0, 1), (1, 1)]) [.c (.bool true), .c (.bool true)] none <|
 .x 1 (.st 7) [.s 2, .r 0] none [] <|
 .out [(2, .s 2), (3, .c (.bool true))]
def e65r11 : EE := .q 0 .eql [.s 4, .c (.int .i64 5)] none <|
 .out [(2, .s 2), (4, .s 4), (17, .r 0)]
def e65r12 : EE := .q 0 (.bld [(.bool false), (.bool false), (.bool false), (.bool false), (.bool false), (.bool false), (.bool false)] [(0, 1), (2, 1), (3, 1)]) [.c (.bool true), .c (.bool true), .c (.bool true)] none <|
 .x 1 (.st 7) [.s 2, .r 0] none [] <|
 .out [(2, .s 2), (3, .c (.bool true))]
def e65r13 : EE := .q 0 .eql [.s 4, .c (.int .i64 7)] none <|
 .out [(2, .s 2), (4, .s 4), (20, .r 0)]
def e65r14 : EE := .q 0 (.bld [(.bool false), (.bool false), (.bool false), (.bool false), (.bool false), (.bool false), (.bool false)] [(0, 1), (1, 1), (4, 1)]) [.c (.bool true), .c (.bool true), .c (.bool true)] none <|
 .x 1 (.st 7) [.s 2, .r 0] none [] <|
 .out [(2, .s 2), (3, .c (.bool true))]
def e65r15 : EE := .q 0 .eql [.s 4, .c (.int .i64 9)] none <|
 .out [(2, .s 2), (4, .s 4), (23, .r 0)]
def e65r16 : EE := .q 0 .eql [.s 4, .c (.int .i64 11)] none <|
 .out [(2, .s 2), (4, .s 4), (23, .r 0)]
def e65r17 : EE := .q 0 (.bld [(.bool false), (.bool false), (.bool false), (.bool false), (.bool false), (.bool false), (.bool false)] [(5, 1)]) [.c (.bool true)] none <|
 .x 1 (.st 7) [.s 2, .r 0] none [] <|
 .out [(2, .s 2), (3, .c (.bool true))]
def e65r18 : EE := .q 0 .eql [.s 4, .c (.int .i64 10)] none <|
 .out [(2, .s 2), (27, .r 0)]
def e65r19 : EE := .q 0 (.bld [(.bool false), (.bool false), (.bool false), (.bool false), (.bool false), (.bool false), (.bool false)] [(6, 1)]) [.c (.bool true)] none <|
 .x 1 (.st 7) [.s 2, .r 0] none [] <|
 .out [(2, .s 2), (3, .c (.bool true))]
def e65r20 : EE := .q 0 (.bld [(.bool false), (.bool false), (.bool false), (.bool false), (.bool false), (.bool false), (.bool false)] []) [] none <|
 .x 1 (.st 7) [.s 2, .r 0] none [] <|
 .out [(2, .s 2), (3, .c (.bool false))]
def e65 : EFn := ⟨(.seq (.reg e65r0 [0] 0) (.seq (.seq (.reg e65r1 [0, 2] 0) (.block 0 (.seq (.seq (.reg e65r2 [2, 4] 0) (.cond (.s 5) .skip (.reg e65r3 [2, 4] 0))) (.cond (.s 5) (.seq (.reg e65r4 [2] 0) .ret) (.seq (.reg e65r5 [2, 4] 0) (.cond (.s 9) (.seq (.reg e65r6 [2] 0) .ret) (.seq (.seq (.reg e65r7 [2, 4] 0) (.cond (.s 12) .skip (.seq (.reg e65r8 [2, 4] 0) (.cond (.s 12) .skip (.reg e65r9 [2, 4] 0))))) (.cond (.s 12) (.seq (.reg e65r10 [2] 0) .ret) (.seq (.reg e65r11 [2, 4] 0) (.cond (.s 17) (.seq (.reg e65r12 [2] 0) .ret) (.seq (.reg e65r13 [2, 4] 0) (.cond (.s 20) (.seq (.reg e65r14 [2] 0) .ret) (.seq (.seq (.reg e65r15 [2, 4] 0) (.cond (.s 23) .skip (.reg e65r16 [2, 4] 0))) (.cond (.s 23) (.seq (.reg e65r17 [2] 0) .ret) (.seq (.reg e65r18 [2, 4] 0) (.cond (.s 27) (.seq (.reg e65r19 [2] 0) .ret) .skip)))))))))))))))) (.seq (.reg e65r20 [2] 0) .ret))), [.cells 2 7, .slot 3], 31, 0⟩
theorem g65 : Good Tryz.prog 65 e65 := ⟨Tryz.f65, Tryz.func65, by kernel_rfl, by kernel_rfl, by kernel_rfl, by kernel_rfl⟩
/-! concord/letter.place -/
def e66r0 : EE := .out [(0, .s 0)]
def e66r1 : EE := .q 1 .geq [.s 0, .c z] none <|
 .q 3 .mv [.s 0] (some (.r 1, true)) <|
 .q 4 .lss [.r 3, .c (.int .i64 7)] (some (.r 1, true)) <|
 .q 5 .pick [.r 1, .r 4, .c (.bool false)] none <|
 .out [(2, .r 5)]
def e66 : EFn := ⟨(.seq (.reg e66r0 [0] 0) (.seq (.reg e66r1 [0] 0) .ret)), [.slot 2], 9, 0⟩
theorem g66 : Good Tryz.prog 66 e66 := ⟨Tryz.f66, Tryz.func66, by kernel_rfl, by kernel_rfl, by kernel_rfl, by kernel_rfl⟩
/-! concord/letter.bare -/
def e67r0 : EE := .x 0 (.box 45) [.s 0] none [] <|
 .x 1 (.box 125) [.s 1] none [] <|
 .x 2 (.alc [z, z, z, z, z, z, z, z, z, z, zs, zs, zs, zs, z, z, z, z, z, z, z, z, z, z, z, z, z, z, z, z, zs, zs, zs, zs, z, z, z, z, z, z, z, z, (.bool false), z, z, z, z, z, z, z, zs] 45) [] none [] <|
 .out [(2, .r 0), (3, .r 1), (4, .r 2)]
def e67r1 : EE := .q 0 (.fld 0) [.s 2] none <|
 .q 1 .ld [.r 0] none <|
 .q 2 (.fld 1) [.s 2] none <|
 .q 3 .ld [.r 2] none <|
 .q 4 (.fld 2) [.s 2] none <|
 .q 5 .ld [.r 4] none <|
 .q 6 (.bld [z, z, z, z, z, z, z, z, z, z, zs, zs, zs, zs, z, z, z, z, z, z, z, z, z, z, z, z, z, z, z, z, zs, zs, zs, zs, z, z, z, z, z, z, z, z, (.bool false), z, z, z, z, z, z, z, zs] [(0, 1), (1, 1), (2, 1)]) [.r 1, .r 3, .r 5] none <|
 .x 7 (.alc [z, z, z, z, z, z, z, z, z, z, zs, zs, zs, zs, z, z, z, z, z, z, z, z, z, z, z, z, z, z, z, z, zs, zs, zs, zs, z, z, z, z, z, z, z, z, (.bool false), z, z, z, z, z, z, z, zs] 45) [] none [] <|
 .x 8 (.st 51) [.r 7, .r 6] none [] <|
 .out [(2, .s 2), (3, .s 3), (4, .s 4), (5, .r 7)]
def e67r2 : EE := .q 0 (.fld 0) [.s 3] none <|
 .q 1 .ld [.r 0] none <|
 .out [(2, .s 2), (3, .s 3), (4, .s 4), (5, .s 5), (14, .r 1)]
def e67r3 : EE := .q 0 (.fld 3) [.s 2] none <|
 .q 1 (.lda 2) [.r 0] none <|
 .q 2 (.fld 3) [.s 5] none <|
 .x 3 (.st 2) [.r 2, .r 1] none [] <|
 .out [(2, .s 2), (3, .s 3), (4, .s 4), (5, .s 5)]
def e67r4 : EE := .q 0 (.fld 1) [.s 3] none <|
 .q 1 .ld [.r 0] none <|
 .out [(2, .s 2), (3, .s 3), (4, .s 4), (5, .s 5), (19, .r 1)]
def e67r5 : EE := .q 0 (.fld 5) [.s 2] none <|
 .q 1 (.lda 2) [.r 0] none <|
 .q 2 (.fld 5) [.s 5] none <|
 .x 3 (.st 2) [.r 2, .r 1] none [] <|
 .out [(2, .s 2), (3, .s 3), (4, .s 4), (5, .s 5)]
def e67r6 : EE := .q 0 (.fld 2) [.s 3] none <|
 .q 1 .ld [.r 0] none <|
 .out [(2, .s 2), (3, .s 3), (4, .s 4), (5, .s 5), (24, .r 1)]
def e67r7 : EE := .q 0 (.fld 7) [.s 2] none <|
 .q 1 (.lda 7) [.r 0] none <|
 .q 2 (.fld 7) [.s 5] none <|
 .x 3 (.st 7) [.r 2, .r 1] none [] <|
 .out [(2, .s 2), (3, .s 3), (4, .s 4), (5, .s 5)]
def e67r8 : EE := .q 0 (.fld 3) [.s 3] none <|
 .q 1 .ld [.r 0] none <|
 .out [(2, .s 2), (3, .s 3), (4, .s 4), (5, .s 5), (29, .r 1)]
def e67r9 : EE := .q 0 (.fld 14) [.s 2] none <|
 .q 1 (.lda 8) [.r 0] none <|
 .q 2 (.fld 14) [.s 5] none <|
 .x 3 (.st 8) [.r 2, .r 1] none [] <|
 .out [(2, .s 2), (3, .s 3), (4, .s 4), (5, .s 5)]
def e67r10 : EE := .q 0 (.fld 4) [.s 3] none <|
 .q 1 .ld [.r 0] none <|
 .out [(2, .s 2), (3, .s 3), (4, .s 4), (5, .s 5), (34, .r 1)]
def e67r11 : EE := .q 0 (.fld 22) [.s 2] none <|
 .q 1 (.lda 21) [.r 0] none <|
 .q 2 (.fld 22) [.s 5] none <|
 .x 3 (.st 21) [.r 2, .r 1] none [] <|
 .out [(2, .s 2), (3, .s 3), (4, .s 4), (5, .s 5)]
def e67r12 : EE := .q 0 (.fld 5) [.s 3] none <|
 .q 1 .ld [.r 0] none <|
 .out [(2, .s 2), (3, .s 3), (4, .s 4), (5, .s 5), (39, .r 1)]
def e67r13 : EE := .q 0 (.fld 43) [.s 2] none <|
 .q 1 (.lda 7) [.r 0] none <|
 .q 2 (.fld 43) [.s 5] none <|
 .x 3 (.st 7) [.r 2, .r 1] none [] <|
 .out [(2, .s 2), (3, .s 3), (4, .s 4), (5, .s 5)]
def e67r14 : EE := .q 0 (.fld 6) [.s 3] none <|
 .q 1 .ld [.r 0] none <|
 .out [(2, .s 2), (4, .s 4), (5, .s 5), (44, .r 1)]
def e67r15 : EE := .q 0 (.fld 50) [.s 2] none <|
 .q 1 .ld [.r 0] none <|
 .q 2 (.fld 50) [.s 5] none <|
 .x 3 (.st 1) [.r 2, .r 1] none [] <|
 .out [(4, .s 4), (5, .s 5)]
def e67r16 : EE := .q 0 (.lda 51) [.s 5] none <|
 .x 1 (.st 51) [.s 4, .r 0] none [] <|
 .out [(4, .s 4)]
def e67 : EFn := ⟨(.seq (.reg e67r0 [0, 1] 0) (.seq (.reg e67r1 [2, 3, 4] 0) (.seq (.seq (.reg e67r2 [2, 3, 4, 5] 0) (.cond (.s 14) (.reg e67r3 [2, 3, 4, 5] 0) .skip)) (.seq (.seq (.reg e67r4 [2, 3, 4, 5] 0) (.cond (.s 19) (.reg e67r5 [2, 3, 4, 5] 0) .skip)) (.seq (.seq (.reg e67r6 [2, 3, 4, 5] 0) (.cond (.s 24) (.reg e67r7 [2, 3, 4, 5] 0) .skip)) (.seq (.seq (.reg e67r8 [2, 3, 4, 5] 0) (.cond (.s 29) (.reg e67r9 [2, 3, 4, 5] 0) .skip)) (.seq (.seq (.reg e67r10 [2, 3, 4, 5] 0) (.cond (.s 34) (.reg e67r11 [2, 3, 4, 5] 0) .skip)) (.seq (.seq (.reg e67r12 [2, 3, 4, 5] 0) (.cond (.s 39) (.reg e67r13 [2, 3, 4, 5] 0) .skip)) (.seq (.seq (.reg e67r14 [2, 3, 4, 5] 0) (.cond (.s 44) (.reg e67r15 [2, 4, 5] 0) .skip)) (.seq (.reg e67r16 [4, 5] 0) .ret)))))))))), [.cells 4 51], 49, 0⟩
theorem g67 : Good Tryz.prog 67 e67 := ⟨Tryz.f67, Tryz.func67, by kernel_rfl, by kernel_rfl, by kernel_rfl, by kernel_rfl⟩
/-! (*concord/core.Core).pre -/
def e68r0 : EE := .x 0 (.box 45) [.s 1] none [] <|
 .x 1 (.box 41) [.s 2] none [] <|
 .out [(0, .s 0), (3, .s 3), (5, .r 0), (6, .r 1)]
def e68r1 : EE := .q 0 (.fld 3) [.s 5] none <|
 .q 1 (.lda 2) [.r 0] none <|
 .q 2 (.fld 5) [.s 5] none <|
 .q 3 (.lda 2) [.r 2] none <|
 .q 4 (.fld 12) [.s 6] none <|
 .q 5 (.lda 8) [.r 4] none <|
 .q 6 (.bld [z, z, z, z, z, z, z, z, z, z, zs, zs, zs, zs, z, z, z, z, z, z, z, z, z, z, z, z, z, z, z, z, zs, zs, zs, zs, z, z, z, z, z, z, z, z, (.bool false), z, z, z, z, z, z, z, zs] [(0, 1), (3, 2), (5, 2), (14, 8)]) [.c (.int .i64 2), .r 1, .r 3, .r 5] none <|
 .x 7 (.alc [z, z, z, z, z, z, z, z, z, z, zs, zs, zs, zs, z, z, z, z, z, z, z, z, z, z, z, z, z, z, z, z, zs, zs, zs, zs, z, z, z, z, z, z, z, z, (.bool false), z, z, z, z, z, z, z, zs] 45) [] none [] <|
 .x 8 (.st 51) [.r 7, .r 6] none [] <|
 .out [(0, .s 0), (3, .s 3), (5, .s 5), (6, .s 6), (8, .r 7)]
def e68r2 : EE := .out [(0, .s 0), (5, .s 5), (6, .s 6), (8, .s 8), (18, .s 3)]
def e68r3 : EE := .q 0 (.fld 0) [.s 6] none <|
 .q 1 .ld [.r 0] none <|
 .q 2 .eql [.r 1, .c (.int .i64 1)] none <|
 .out [(0, .s 0), (5, .s 5), (8, .s 8), (21, .r 2)]
def e68r4 : EE := .q 1 (.fld 1) [.s 5] none <|
 .q 2 .ld [.r 1] none <|
 .q 3 (.lda 51) [.s 8] none <|
 .x 4 (.call 64) [.s 0, .r 2, .r 3] none [] <|
 .out []
def e68r5 : EE := .q 0 (.fld 14) [.s 5] none <|
 .q 1 (.lda 8) [.r 0] none <|
 .q 3 .nl [.s 0] none <|
 .q 4 (.fld 3) [.r 3] none <|
 .q 5 .ld [.r 4] none <|
 .q 6 (.fld 3) [.s 5] none <|
 .q 7 (.lda 2) [.r 6] none <|
 .q 8 (.fld 7) [.s 5] none <|
 .q 9 (.lda 7) [.r 8] none <|
 .both false
 (.x 10 (.call 14) [.r 5, .r 7, .r 9] none [⟨1, (.lda 8), [.r 0], none⟩] <|
 .both false
 (.x 11 (.bsl 39 2 [z, z, z, z, z, z, z, z, z, z, z, z, z, z, z, z] [(0, 8), (8, 8)]) [.r 1, .r 10] none [] <|
 .both false
 (.x 12 (.call 95) [.r 11] none [] <|
 .x 13 (.alc [z, z, z, z, z, z, z, z] 39) [] none [⟨1, (.lda 8), [.r 0], none⟩, ⟨5, .ld, [.r 4], none⟩, ⟨7, (.lda 2), [.r 6], none⟩, ⟨9, (.lda 7), [.r 8], none⟩] <|
 .x 14 (.st 8) [.r 13, .r 12] none [] <|
 .out [(0, .s 0), (5, .s 5), (8, .s 8), (9, .r 13)])
 (.x 13 (.alc [z, z, z, z, z, z, z, z] 39) [] none [⟨1, (.lda 8), [.r 0], none⟩, ⟨5, .ld, [.r 4], none⟩, ⟨7, (.lda 2), [.r 6], none⟩, ⟨9, (.lda 7), [.r 8], none⟩] <|
 .x 12 (.call 95) [.r 11] none [] <|
 .x 14 (.st 8) [.r 13, .r 12] none [] <|
 .out [(0, .s 0), (5, .s 5), (8, .s 8), (9, .r 13)]))
 (.x 13 (.alc [z, z, z, z, z, z, z, z] 39) [] none [⟨1, (.lda 8), [.r 0], none⟩, ⟨5, .ld, [.r 4], none⟩, ⟨7, (.lda 2), [.r 6], none⟩, ⟨9, (.lda 7), [.r 8], none⟩] <|
 .x 11 (.bsl 39 2 [z, z, z, z, z, z, z, z, z, z, z, z, z, z, z, z] [(0, 8), (8, 8)]) [.r 1, .r 10] none [] <|
 .x 12 (.call 95) [.r 11] none [] <|
 .x 14 (.st 8) [.r 13, .r 12] none [] <|
 .out [(0, .s 0), (5, .s 5), (8, .s 8), (9, .r 13)]))
 (.x 13 (.alc [z, z, z, z, z, z, z, z] 39) [] none [⟨1, (.lda 8), [.r 0], none⟩, ⟨5, .ld, [.r 4], none⟩, ⟨7, (.lda 2), [.r 6], none⟩, ⟨9, (.lda 7), [.r 8], none⟩] <|
 .x 10 (.call 14) [.r 5, .r 7, .r 9] none [⟨1, (.lda 8), [.r 0], none⟩] <|
 .x 11 (.bsl 39 2 [z, z, z, z, z, z, z, z, z, z, z, z, z, z, z, z] [(0, 8), (8, 8)]) [.r 1, .r 10] none [] <|
 .x 12 (.call 95) [.r 11] none [] <|
 .x 14 (.st 8) [.r 13, .r 12] none [] <|
 .out [(0, .s 0), (5, .s 5), (8, .s 8), (9, .r 13)])
def e68r6 : EE := .q 0 (.fld 5) [.s 5] none <|
 .q 1 (.lda 2) [.r 0] none <|
 .q 2 (.bld [z, z] []) [] none <|
 .q 3 (.eqc false [(.i .i64), (.i .i64)]) [.r 1, .r 2] none <|
 .q 5 (.lda 8) [.s 9] (some (.r 3, true)) <|
 .q 6 (.fld 14) [.s 5] (some (.r 3, true)) <|
 .q 7 (.lda 8) [.r 6] (some (.r 3, true)) <|
 .q 8 (.eqc false [(.i .i64), (.i .i64), (.i .i64), (.i .i64), (.i .i64), (.i .i64), (.i .i64), (.i .i64)]) [.r 5, .r 7] (some (.r 3, true)) <|
 .q 9 .pick [.r 3, .r 8, .c (.bool false)] none <|
 .out [(0, .s 0), (5, .s 5), (8, .s 8), (9, .s 9), (10, .r 9)]
def e68r7 : EE := .q 0 (.lda 8) [.s 9] none <|
 .x 1 (.call 15) [.r 0] none [] <|
 .q 2 .not [.r 1] none <|
 .q 4 .mv [.s 0] (some (.r 2, false)) <|
 .q 5 (.fld 3) [.s 5] (some (.r 2, false)) <|
 .q 6 (.lda 2) [.r 5] (some (.r 2, false)) <|
 .q 7 (.fld 5) [.s 5] (some (.r 2, false)) <|
 .q 8 (.lda 2) [.r 7] (some (.r 2, false)) <|
 .q 9 (.fld 5) [.s 5] (some (.r 2, false)) <|
 .q 10 (.lda 2) [.r 9] (some (.r 2, false)) <|
 .q 11 (.fld 7) [.s 5] (some (.r 2, false)) <|
 .q 12 (.lda 7) [.r 11] (some (.r 2, false)) <|
 .q 13 (.lda 8) [.s 9] (some (.r 2, false)) <|
 .q 14 .mv [.s 10] (some (.r 2, false)) <|
 .q 15 (.bld [z, z, z, z, z, z, z, z, zs, zs, zs, zs, z, z, z, z, z, z, z, z, (.bool false)] [(0, 1), (1, 2), (3, 2), (5, 7), (12, 8), (20, 1)]) [.c (.int .i64 1), .r 8, .r 10, .r 12, .r 13, .r 14] (some (.r 2, false)) <|
 .x 16 (.call 16) [.r 4, .r 6, .r 15] (some (.r 2, false)) [] <|
 .q 17 .not [.r 16] (some (.r 2, false)) <|
 .q 18 .pick [.r 2, .c (.bool true), .r 17] none <|
 .out [(0, .s 0), (5, .s 5), (8, .s 8), (9, .s 9), (68, .r 18)]
def e68r8 : EE := .q 0 (.lda 8) [.s 9] none <|
 .q 1 (.fld 14) [.s 8] none <|
 .x 2 (.st 8) [.r 1, .r 0] none [] <|
 .out [(0, .s 0), (5, .s 5), (8, .s 8)]
def e68r9 : EE := .q 1 (.fld 1) [.s 5] none <|
 .q 2 .ld [.r 1] none <|
 .q 3 (.lda 51) [.s 8] none <|
 .x 4 (.call 64) [.s 0, .r 2, .r 3] none [] <|
 .out []
def e68 : EFn := ⟨(.seq (.reg e68r0 [0, 1, 2, 3] 0) (.seq (.reg e68r1 [0, 3, 5, 6] 0) (.seq (.seq (.reg e68r2 [0, 3, 5, 6, 8] 0) (.cond (.s 18) (.seq (.seq (.reg e68r3 [0, 5, 6, 8] 0) (.cond (.s 21) (.reg e68r4 [0, 5, 8] 0) .skip)) .ret) .skip)) (.seq (.reg e68r5 [0, 5, 8] 15) (.seq (.reg e68r6 [0, 5, 8, 9] 0) (.seq (.seq (.reg e68r7 [0, 5, 8, 9, 10] 0) (.cond (.s 68) .ret .skip)) (.seq (.reg e68r8 [0, 5, 8, 9] 0) (.reg e68r9 [0, 5, 8] 0)))))))), [], 76, 0⟩
theorem g68 : Good Tryz.prog 68 e68 := ⟨Tryz.f68, Tryz.func68, by kernel_rfl, by kernel_rfl, by kernel_rfl, by kernel_rfl⟩
/-! (*concord/core.Core).Want -/
def e69r0 : EE := .x 0 (.box 25) [.s 1] none [] <|
 .out [(0, .s 0), (3, .r 0)]
def e69r1 : EE := .q 1 (.lda 2) [.s 3] none <|
 .x 2 (.call 20) [.s 0, .r 1] none [] <|
 .q 3 .not [.r 2] none <|
 .q 5 .mv [.s 0] (some (.r 3, false)) <|
 .q 6 (.lda 2) [.s 3] (some (.r 3, false)) <|
 .x 7 (.call 22) [.r 5, .r 6] (some (.r 3, false)) [] <|
 .q 8 (.eqp true) [.r 7, .c .nptr] (some (.r 3, false)) <|
 .q 9 .pick [.r 3, .c (.bool true), .r 8] none <|
 .q 11 .mv [.s 0] (some (.r 9, false)) <|
 .q 12 .nl [.r 11] (some (.r 9, false)) <|
 .q 13 (.fld 5) [.r 12] (some (.r 9, false)) <|
 .q 14 .ld [.r 13] (some (.r 9, false)) <|
 .q 15 .len [.r 14] (some (.r 9, false)) <|
 .q 16 .geq [.r 15, .c (.int .i64 256)] (some (.r 9, false)) <|
 .q 17 .pick [.r 9, .c (.bool true), .r 16] none <|
 .out [(0, .s 0), (3, .s 3), (23, .r 17)]
def e69r2 : EE := .out [(4, .c (.bool false))]
def e69r3 : EE := .out [(0, .s 0), (3, .s 3), (5, .c z)]
def e69r4 : EE := .q 2 .nl [.s 0] none <|
 .q 3 (.fld 5) [.r 2] none <|
 .q 4 .ld [.r 3] none <|
 .q 5 .len [.r 4] none <|
 .q 6 .lss [.s 5, .r 5] none <|
 .q 8 .mv [.s 0] (some (.r 6, true)) <|
 .q 9 .nl [.r 8] (some (.r 6, true)) <|
 .q 10 (.fld 5) [.r 9] (some (.r 6, true)) <|
 .q 11 .ld [.r 10] (some (.r 6, true)) <|
 .q 12 .mv [.s 5] (some (.r 6, true)) <|
 .q 13 (.ixs 1) [.r 11, .r 12] (some (.r 6, true)) <|
 .q 14 .ld [.r 13] (some (.r 6, true)) <|
 .q 15 .nl [.r 14] (some (.r 6, true)) <|
 .q 16 (.fld 0) [.r 15] (some (.r 6, true)) <|
 .q 17 (.lda 2) [.r 16] (some (.r 6, true)) <|
 .q 18 (.lda 2) [.s 3] (some (.r 6, true)) <|
 .x 19 (.call 62) [.r 17, .r 18] (some (.r 6, true)) [] <|
 .q 20 .pick [.r 6, .r 19, .c (.bool false)] none <|
 .out [(0, .s 0), (3, .s 3), (5, .s 5), (44, .r 20)]
def e69r5 : EE := .q 1 .add [.s 5, .c (.int .i64 1)] none <|
 .out [(0, .s 0), (3, .s 3), (5, .r 1)]
def e69l6 : EC := (.seq (.seq (.reg e69r4 [0, 3, 5] 0) (.cond (.s 44) .skip (.exit 0))) (.block 1 (.reg e69r5 [0, 3, 5] 0)))
def e69r7 : EE := .q 2 .nl [.s 0] none <|
 .q 3 (.fld 5) [.r 2] none <|
 .q 4 .ld [.r 3] none <|
 .q 6 (.lda 2) [.s 3] none <|
 .q 7 (.bld [z, z, z, z, z] [(0, 2)]) [.r 6] none <|
 .x 8 (.box 77) [.r 7] none [⟨4, .ld, [.r 3], none⟩] <|
 .x 9 (.bsl 73 1 [.nptr] [(0, 1)]) [.r 8] none [⟨4, .ld, [.r 3], none⟩] <|
 .x 10 (.call 96) [.r 4, .s 5, .r 9] none [] <|
 .q 11 .nl [.s 0] none <|
 .q 12 (.fld 5) [.r 11] none <|
 .x 13 (.st 1) [.r 12, .r 10] none [] <|
 .out []
def e69r8 : EE := .out [(4, .c (.bool true))]
def e69 : EFn := ⟨(.seq (.reg e69r0 [0, 1] 0) (.seq (.seq (.reg e69r1 [0, 3] 0) (.cond (.s 23) (.seq (.reg e69r2 [] 0) .ret) .skip)) (.seq (.reg e69r3 [0, 3] 0) (.seq (.block 0 (.loop [0, 3, 5] e69l6)) (.seq (.reg e69r7 [0, 3, 5] 0) (.seq (.reg e69r8 [] 0) .ret)))))), [.slot 4], 60, 0⟩
theorem g69 : Good Tryz.prog 69 e69 := ⟨Tryz.f69, Tryz.func69, by kernel_rfl, by kernel_rfl, by kernel_rfl, by kernel_rfl⟩
/-! (*concord/core.Core).weigh -/
def e70r0 : EE := .out [(0, .s 0), (1, .s 1), (2, .s 2)]
def e70r1 : EE := .q 1 .nl [.s 0] none <|
 .q 2 (.fld 0) [.r 1] none <|
 .q 3 .ld [.r 2] none <|
 .q 5 .nl [.s 1] none <|
 .q 6 (.fld 5) [.r 5] none <|
 .q 7 .ld [.r 6] none <|
 .q 9 .nl [.s 1] none <|
 .q 10 (.fld 13) [.r 9] none <|
 .q 11 (.lda 8) [.r 10] none <|
 .q 13 .nl [.s 1] none <|
 .q 14 (.fld 28) [.r 13] none <|
 .q 15 .ld [.r 14] none <|
 .both false
 (.x 17 (.call 97) [.r 3, .r 7, .r 11, .r 15, .s 2] none [] <|
 .q 19 (.ext 0) [.r 17] none <|
 .q 20 (.ext 1) [.r 17] none <|
 .x 21 (.alc [z, z, z, z, z, z, z, z] 39) [] none [⟨3, .ld, [.r 2], none⟩, ⟨7, .ld, [.r 6], none⟩, ⟨11, (.lda 8), [.r 10], none⟩, ⟨15, .ld, [.r 14], none⟩] <|
 .x 23 (.st 8) [.r 21, .r 20] none [] <|
 .out [(0, .s 0), (1, .s 1), (7, .r 19), (8, .r 21)])
 (.x 21 (.alc [z, z, z, z, z, z, z, z] 39) [] none [⟨3, .ld, [.r 2], none⟩, ⟨7, .ld, [.r 6], none⟩, ⟨11, (.lda 8), [.r 10], none⟩, ⟨15, .ld, [.r 14], none⟩] <|
 .x 17 (.call 97) [.r 3, .r 7, .r 11, .r 15, .s 2] none [] <|
 .q 19 (.ext 0) [.r 17] none <|
 .q 20 (.ext 1) [.r 17] none <|
 .x 23 (.st 8) [.r 21, .r 20] none [] <|
 .out [(0, .s 0), (1, .s 1), (7, .r 19), (8, .r 21)])
def e70r2 : EE := .out [(0, .s 0), (1, .s 1), (8, .s 8), (30, .s 7)]
def e70r3 : EE := .q 0 .eql [.s 30, .c (.int .i64 1)] none <|
 .out [(0, .s 0), (1, .s 1), (8, .s 8), (30, .s 30), (31, .r 0)]
def e70r4 : EE := .q 2 .nl [.s 1] none <|
 .q 3 (.fld 0) [.r 2] none <|
 .q 4 (.lda 2) [.r 3] none <|
 .q 6 .nl [.s 1] none <|
 .q 7 (.fld 6) [.r 6] none <|
 .q 8 (.lda 7) [.r 7] none <|
 .q 9 (.lda 8) [.s 8] none <|
 .x 10 (.call 72) [.s 0, .r 4, .r 8, .r 9] none [] <|
 .out []
def e70r5 : EE := .q 0 .eql [.s 30, .c (.int .i64 2)] none <|
 .out [(0, .s 0), (1, .s 1), (8, .s 8), (44, .r 0)]
def e70r6 : EE := .q 3 .nl [.s 1] none <|
 .q 4 (.fld 6) [.r 3] none <|
 .q 5 (.lda 7) [.r 4] none <|
 .q 6 (.lda 8) [.s 8] none <|
 .x 7 (.call 98) [.s 0, .s 1, .r 5, .r 6] none [] <|
 .out []
def e70r7 : EE := .out [(6, .c (.bool false))]
def e70r8 : EE := .out [(6, .c (.bool true))]
def e70 : EFn := ⟨(.seq (.reg e70r0 [0, 1, 2] 0) (.seq (.reg e70r1 [0, 1, 2] 24) (.seq (.seq (.reg e70r2 [0, 1, 7, 8] 0) (.block 0 (.seq (.reg e70r3 [0, 1, 8, 30] 0) (.cond (.s 31) (.reg e70r4 [0, 1, 8] 0) (.seq (.reg e70r5 [0, 1, 8, 30] 0) (.cond (.s 44) (.reg e70r6 [0, 1, 8] 0) (.seq (.reg e70r7 [] 0) .ret))))))) (.seq (.reg e70r8 [] 0) .ret)))), [.slot 6], 54, 0⟩
theorem g70 : Good Tryz.prog 70 e70 := ⟨Tryz.f70, Tryz.func70, by kernel_rfl, by kernel_rfl, by kernel_rfl, by kernel_rfl⟩
/-! concord/quorum.Slow -/
def e71r0 : EE := .out [(0, .s 0)]
def e71r1 : EE := .q 1 .quo [.s 0, .c (.int .i64 2)] none <|
 .q 2 .add [.r 1, .c (.int .i64 1)] none <|
 .out [(2, .r 2)]
def e71 : EFn := ⟨(.seq (.reg e71r0 [0] 0) (.seq (.reg e71r1 [0] 0) .ret)), [.slot 2], 6, 0⟩
theorem g71 : Good Tryz.prog 71 e71 := ⟨Tryz.f71, Tryz.func71, by kernel_rfl, by kernel_rfl, by kernel_rfl, by kernel_rfl⟩
/-! (*concord/core.Core).commit -/
def e72r0 : EE := .x 0 (.box 25) [.s 1] none [] <|
 .x 1 (.box 30) [.s 2] none [] <|
 .x 2 (.box 39) [.s 3] none [] <|
 .out [(0, .s 0), (5, .r 0), (6, .r 1), (7, .r 2)]
def e72r1 : EE := .q 1 (.lda 2) [.s 5] none <|
 .x 2 (.call 61) [.s 0, .r 1] none [] <|
 .out [(0, .s 0), (5, .s 5), (6, .s 6), (7, .s 7)]
def e72r2 : EE := .q 1 .nl [.s 0] none <|
 .q 2 (.fld 2) [.r 1] none <|
 .q 3 .ld [.r 2] none <|
 .q 4 (.lda 2) [.s 5] none <|
 .both false
 (.x 5 (.call 19) [.r 3, .r 4] none [] <|
 .q 7 (.ext 0) [.r 5] none <|
 .q 8 (.ext 1) [.r 5] none <|
 .x 9 (.alc [z, z, z, z, z, z, z, z, zs, zs, zs, zs, z, z, z, z, z, z, z, z, (.bool false)] 41) [] none [⟨3, .ld, [.r 2], none⟩, ⟨4, (.lda 2), [.s 5], none⟩] <|
 .x 10 (.st 21) [.r 9, .r 7] none [] <|
 .out [(0, .s 0), (5, .s 5), (6, .s 6), (7, .s 7), (8, .r 9)])
 (.x 9 (.alc [z, z, z, z, z, z, z, z, zs, zs, zs, zs, z, z, z, z, z, z, z, z, (.bool false)] 41) [] none [⟨3, .ld, [.r 2], none⟩, ⟨4, (.lda 2), [.s 5], none⟩] <|
 .x 5 (.call 19) [.r 3, .r 4] none [] <|
 .q 7 (.ext 0) [.r 5] none <|
 .q 8 (.ext 1) [.r 5] none <|
 .x 10 (.st 21) [.r 9, .r 7] none [] <|
 .out [(0, .s 0), (5, .s 5), (6, .s 6), (7, .s 7), (8, .r 9)])
def e72r3 : EE := .q 1 (.lda 2) [.s 5] none <|
 .q 2 (.fld 1) [.s 8] none <|
 .q 3 (.lda 2) [.r 2] none <|
 .q 4 (.fld 3) [.s 8] none <|
 .q 5 (.lda 2) [.r 4] none <|
 .q 6 (.lda 7) [.s 6] none <|
 .q 7 (.lda 8) [.s 7] none <|
 .q 8 (.bld [z, z, z, z, z, z, z, z, zs, zs, zs, zs, z, z, z, z, z, z, z, z, (.bool false)] [(0, 1), (1, 2), (3, 2), (5, 7), (12, 8)]) [.c (.int .i64 3), .r 3, .r 5, .r 6, .r 7] none <|
 .x 9 (.call 16) [.s 0, .r 1, .r 8] none [] <|
 .out [(0, .s 0), (5, .s 5), (6, .s 6), (7, .s 7), (31, .r 9)]
def e72r4 : EE := .q 1 (.lda 2) [.s 5] none <|
 .q 2 (.lda 7) [.s 6] none <|
 .q 3 (.lda 8) [.s 7] none <|
 .q 4 (.bld [z, z, z, z, z, z, z, z, z, z, zs, zs, zs, zs, z, z, z, z, z, z, z, z, z, z, z, z, z, z, z, z, zs, zs, zs, zs, z, z, z, z, z, z, z, z, (.bool false), z, z, z, z, z, z, z, zs] [(0, 1), (3, 2), (7, 7), (14, 8)]) [.c (.int .i64 5), .r 1, .r 2, .r 3] none <|
 .q 5 (.bld [z, z, z, z, z, z, z] []) [] none <|
 .x 6 (.call 39) [.s 0, .r 4, .r 5] none [] <|
 .out []
def e72 : EFn := ⟨(.seq (.reg e72r0 [0, 1, 2, 3] 0) (.seq (.reg e72r1 [0, 5, 6, 7] 0) (.seq (.reg e72r2 [0, 5, 6, 7] 11) (.seq (.reg e72r3 [0, 5, 6, 7, 8] 0) (.cond (.s 31) (.reg e72r4 [0, 5, 6, 7] 0) .skip))))), [], 39, 0⟩
theorem g72 : Good Tryz.prog 72 e72 := ⟨Tryz.f72, Tryz.func72, by kernel_rfl, by kernel_rfl, by kernel_rfl, by kernel_rfl⟩
/-! (*concord/core.Core).prepared -/
def e73r0 : EE := .q 1 .nl [.s 0] none <|
 .q 2 (.fld 0) [.r 1] none <|
 .q 3 .ld [.r 2] none <|
 .q 5 .nl [.s 1] none <|
 .q 6 (.fld 0) [.r 5] none <|
 .q 7 (.fld 0) [.r 6] none <|
 .q 8 .ld [.r 7] none <|
 .q 10 .nl [.s 1] none <|
 .q 11 (.fld 29) [.r 10] none <|
 .q 12 .ld [.r 11] none <|
 .both false
 (.x 13 (.call 99) [.r 3, .r 8, .r 12] none [] <|
 .q 15 (.ext 0) [.r 13] none <|
 .q 16 (.ext 1) [.r 13] none <|
 .q 17 (.ext 2) [.r 13] none <|
 .both false
 (.x 18 (.alc [z, z, z, zs, zs, zs, zs] 30) [] none [⟨3, .ld, [.r 2], none⟩, ⟨8, .ld, [.r 7], none⟩, ⟨12, .ld, [.r 11], none⟩] <|
 .x 19 (.alc [z, z, z, z, z, z, z, z] 39) [] none [⟨3, .ld, [.r 2], none⟩, ⟨8, .ld, [.r 7], none⟩, ⟨12, .ld, [.r 11], none⟩] <|
 .x 21 (.st 7) [.r 18, .r 16] none [] <|
 .x 22 (.st 8) [.r 19, .r 17] none [] <|
 .out [(0, .s 0), (1, .s 1), (4, .r 15), (5, .r 18), (6, .r 19)])
 (.x 19 (.alc [z, z, z, z, z, z, z, z] 39) [] none [⟨3, .ld, [.r 2], none⟩, ⟨8, .ld, [.r 7], none⟩, ⟨12, .ld, [.r 11], none⟩] <|
 .x 18 (.alc [z, z, z, zs, zs, zs, zs] 30) [] none [⟨3, .ld, [.r 2], none⟩, ⟨8, .ld, [.r 7], none⟩, ⟨12, .ld, [.r 11], none⟩] <|
 .x 21 (.st 7) [.r 18, .r 16] none [] <|
 .x 22 (.st 8) [.r 19, .r 17] none [] <|
 .out [(0, .s 0), (1, .s 1), (4, .r 15), (5, .r 18), (6, .r 19)]))
 (.both false
 (.x 18 (.alc [z, z, z, zs, zs, zs, zs] 30) [] none [⟨3, .ld, [.r 2], none⟩, ⟨8, .ld, [.r 7], none⟩, ⟨12, .ld, [.r 11], none⟩] <|
 .both false
 (.x 13 (.call 99) [.r 3, .r 8, .r 12] none [] <|
 .q 15 (.ext 0) [.r 13] none <|
 .q 16 (.ext 1) [.r 13] none <|
 .q 17 (.ext 2) [.r 13] none <|
 .x 19 (.alc [z, z, z, z, z, z, z, z] 39) [] none [⟨3, .ld, [.r 2], none⟩, ⟨8, .ld, [.r 7], none⟩, ⟨12, .ld, [.r 11], none⟩] <|
 .x 21 (.st 7) [.r 18, .r 16] none [] <|
 .x 22 (.st 8) [.r 19, .r 17] none [] <|
 .out [(0, .s 0), (1, .s 1), (4, .r 15), (5, .r 18), (6, .r 19)])
 (.x 19 (.alc [z, z, z, z, z, z, z, z] 39) [] none [⟨3, .ld, [.r 2], none⟩, ⟨8, .ld, [.r 7], none⟩, ⟨12, .ld, [.r 11], none⟩] <|
 .x 13 (.call 99) [.r 3, .r 8, .r 12] none [] <|
 .q 15 (.ext 0) [.r 13] none <|
 .q 16 (.ext 1) [.r 13] none <|
 .q 17 (.ext 2) [.r 13] none <|
 .x 21 (.st 7) [.r 18, .r 16] none [] <|
 .x 22 (.st 8) [.r 19, .r 17] none [] <|
 .out [(0, .s 0), (1, .s 1), (4, .r 15), (5, .r 18), (6, .r 19)]))
 (.x 19 (.alc [z, z, z, z, z, z, z, z] 39) [] none [⟨3, .ld, [.r 2], none⟩, ⟨8, .ld, [.r 7], none⟩, ⟨12, .ld, [.r 11], none⟩] <|
 .both false
 (.x 13 (.call 99) [.r 3, .r 8, .r 12] none [] <|
 .q 15 (.ext 0) [.r 13] none <|
 .q 16 (.ext 1) [.r 13] none <|
 .q 17 (.ext 2) [.r 13] none <|
 .x 18 (.alc [z, z, z, zs, zs, zs, zs] 30) [] none [⟨3, .ld, [.r 2], none⟩, ⟨8, .ld, [.r 7], none⟩, ⟨12, .ld, [.r 11], none⟩] <|
 .x 21 (.st 7) [.r 18, .r 16] none [] <|
 .x 22 (.st 8) [.r 19, .r 17] none [] <|
 .out [(0, .s 0), (1, .s 1), (4, .r 15), (5, .r 18), (6, .r 19)])
 (.x 18 (.alc [z, z, z, zs, zs, zs, zs] 30) [] none [⟨3, .ld, [.r 2], none⟩, ⟨8, .ld, [.r 7], none⟩, ⟨12, .ld, [.r 11], none⟩] <|
 .x 13 (.call 99) [.r 3, .r 8, .r 12] none [] <|
 .q 15 (.ext 0) [.r 13] none <|
 .q 16 (.ext 1) [.r 13] none <|
 .q 17 (.ext 2) [.r 13] none <|
 .x 21 (.st 7) [.r 18, .r 16] none [] <|
 .x 22 (.st 8) [.r 19, .r 17] none [] <|
 .out [(0, .s 0), (1, .s 1), (4, .r 15), (5, .r 18), (6, .r 19)])))
def e73r1 : EE := .out [(0, .s 0), (1, .s 1), (5, .s 5), (6, .s 6), (25, .s 4)]
def e73r2 : EE := .q 0 .eql [.s 25, .c (.int .i64 1)] none <|
 .out [(0, .s 0), (1, .s 1), (5, .s 5), (6, .s 6), (25, .s 25), (26, .r 0)]
def e73r3 : EE := .q 2 .nl [.s 1] none <|
 .q 3 (.fld 0) [.r 2] none <|
 .q 4 (.lda 2) [.r 3] none <|
 .q 5 (.lda 7) [.s 5] none <|
 .q 6 (.lda 8) [.s 6] none <|
 .x 7 (.call 72) [.s 0, .r 4, .r 5, .r 6] none [] <|
 .out []
def e73r4 : EE := .q 0 .eql [.s 25, .c (.int .i64 2)] none <|
 .out [(0, .s 0), (1, .s 1), (5, .s 5), (6, .s 6), (25, .s 25), (36, .r 0)]
def e73r5 : EE := .q 2 (.lda 7) [.s 5] none <|
 .q 3 (.lda 8) [.s 6] none <|
 .x 4 (.call 98) [.s 0, .s 1, .r 2, .r 3] none [] <|
 .out []
def e73r6 : EE := .q 0 .eql [.s 25, .c (.int .i64 4)] none <|
 .out [(0, .s 0), (1, .s 1), (5, .s 5), (6, .s 6), (25, .s 25), (43, .r 0)]
def e73r7 : EE := .q 2 (.bld [z, z, z, zs, zs, zs, zs] []) [] none <|
 .q 4 .nl [.s 1] none <|
 .q 5 (.fld 0) [.r 4] none <|
 .q 6 (.lda 2) [.r 5] none <|
 .x 7 (.call 100) [.r 6] none [] <|
 .x 8 (.call 98) [.s 0, .s 1, .r 2, .r 7] none [] <|
 .out []
def e73r8 : EE := .q 0 .eql [.s 25, .c (.int .i64 3)] none <|
 .out [(0, .s 0), (1, .s 1), (5, .s 5), (6, .s 6), (54, .r 0)]
def e73r9 : EE := .q 2 (.lda 7) [.s 5] none <|
 .q 3 (.lda 8) [.s 6] none <|
 .x 4 (.call 101) [.s 0, .s 1, .r 2, .r 3] none [] <|
 .out []
def e73 : EFn := ⟨(.seq (.reg e73r0 [0, 1] 23) (.seq (.reg e73r1 [0, 1, 4, 5, 6] 0) (.block 0 (.seq (.reg e73r2 [0, 1, 5, 6, 25] 0) (.cond (.s 26) (.reg e73r3 [0, 1, 5, 6] 0) (.seq (.reg e73r4 [0, 1, 5, 6, 25] 0) (.cond (.s 36) (.reg e73r5 [0, 1, 5, 6] 0) (.seq (.reg e73r6 [0, 1, 5, 6, 25] 0) (.cond (.s 43) (.reg e73r7 [0, 1] 0) (.seq (.reg e73r8 [0, 1, 5, 6, 25] 0) (.cond (.s 54) (.reg e73r9 [0, 1, 5, 6] 0) .skip))))))))))), [], 61, 0⟩
theorem g73 : Good Tryz.prog 73 e73 := ⟨Tryz.f73, Tryz.func73, by kernel_rfl, by kernel_rfl, by kernel_rfl, by kernel_rfl⟩
/-! concord/pack.grown -/
def e74r0 : EE := .out [(0, .s 0), (1, .s 1)]
def e74r1 : EE := .q 1 .len [.s 0] none <|
 .q 3 .add [.r 1, .s 1] none <|
 .x 4 (.mks 5 1 [(.int .u8 0)]) [.c z, .r 3] none [] <|
 .x 6 (.app 5 1 1 [(.int .u8 0)]) [.r 4, .s 0] none [] <|
 .out [(4, .r 6)]
def e74 : EFn := ⟨(.seq (.reg e74r0 [0, 1] 0) (.seq (.reg e74r1 [0, 1] 0) .ret)), [.slot 4], 12, 0⟩
theorem g74 : Good Tryz.prog 74 e74 := ⟨Tryz.f74, Tryz.func74, by kernel_rfl, by kernel_rfl, by kernel_rfl, by kernel_rfl⟩
/-! (*concord/pack.Reader).fail -/
def e75r0 : EE := .q 4 .nl [.s 0] none <|
 .q 5 (.fld 1) [.r 4] none <|
 .x 6 (.st 1) [.r 5, .s 1] none [] <|
 .q 7 .nl [.s 0] none <|
 .q 8 (.fld 2) [.r 7] none <|
 .x 9 (.st 1) [.r 8, .s 2] none [] <|
 .out []
def e75 : EFn := ⟨(.reg e75r0 [0, 1, 2] 0), [], 14, 0⟩
theorem g75 : Good Tryz.prog 75 e75 := ⟨Tryz.f75, Tryz.func75, by kernel_rfl, by kernel_rfl, by kernel_rfl, by kernel_rfl⟩
/-! concord/word.Zag -/
def e76r0 : EE := .out [(0, .s 0)]
def e76r1 : EE := .q 1 .shr [.s 0, .c (.int .u64 1)] none <|
 .q 2 (.conv .i64) [.r 1] none <|
 .q 4 .and [.s 0, .c (.int .u64 1)] none <|
 .q 5 (.conv .i64) [.r 4] none <|
 .q 6 .neg [.r 5] none <|
 .q 7 .xor [.r 2, .r 6] none <|
 .out [(2, .r 7)]
def e76 : EFn := ⟨(.seq (.reg e76r0 [0] 0) (.seq (.reg e76r1 [0] 0) .ret)), [.slot 2], 11, 0⟩
theorem g76 : Good Tryz.prog 76 e76 := ⟨Tryz.f76, Tryz.func76, by kernel_rfl, by kernel_rfl, by kernel_rfl, by kernel_rfl⟩
/-! concord/letter.getBallot -/
def e77r0 : EE := .x 0 (.alc [z, z] 35) [] none [] <|
 .out [(0, .s 0), (2, .r 0)]
def e77r1 : EE := .x 1 (.call 50) [.s 0] none [] <|
 .out [(0, .s 0), (2, .s 2), (3, .r 1)]
def e77r2 : EE := .x 2 (.call 50) [.s 0] none [] <|
 .q 3 (.bld [z, z] [(0, 1), (1, 1)]) [.s 3, .r 2] none <|
 .x 4 (.st 2) [.s 2, .r 3] none [] <|
 .out [(2, .s 2)]
def e77 : EFn := ⟨(.seq (.reg e77r0 [0] 0) (.seq (.reg e77r1 [0, 2] 0) (.seq (.reg e77r2 [0, 2, 3] 0) .ret))), [.cells 2 2], 10, 0⟩
theorem g77 : Good Tryz.prog 77 e77 := ⟨Tryz.f77, Tryz.func77, by kernel_rfl, by kernel_rfl, by kernel_rfl, by kernel_rfl⟩
/-! concord/cmd.Get -/
def e78r0 : EE := .x 0 (.alc [z, z, z, zs, zs, zs, zs] 30) [] none [] <|
 .out [(0, .s 0), (2, .r 0)]
def e78r1 : EE := .x 1 (.call 50) [.s 0] none [] <|
 .q 2 (.bld [z, z, z, zs, zs, zs, zs] [(0, 1)]) [.r 1] none <|
 .x 3 (.alc [z, z, z, zs, zs, zs, zs] 30) [] none [] <|
 .x 4 (.st 7) [.r 3, .r 2] none [] <|
 .out [(0, .s 0), (2, .s 2), (3, .r 3)]
def e78r2 : EE := .q 0 (.fld 0) [.s 3] none <|
 .q 1 .ld [.r 0] none <|
 .q 2 .neq [.r 1, .c z] none <|
 .out [(0, .s 0), (2, .s 2), (3, .s 3), (9, .r 2)]
def e78r3 : EE := .x 1 (.call 50) [.s 0] none [] <|
 .q 2 (.fld 1) [.s 3] none <|
 .x 3 (.st 1) [.r 2, .r 1] none [] <|
 .out [(0, .s 0), (2, .s 2), (3, .s 3)]
def e78r4 : EE := .x 1 (.call 50) [.s 0] none [] <|
 .q 2 (.fld 2) [.s 3] none <|
 .x 3 (.st 1) [.r 2, .r 1] none [] <|
 .out [(0, .s 0), (2, .s 2), (3, .s 3)]
def e78r5 : EE := .x 1 (.call 102) [.s 0, .c (.int .i64 16)] none [] <|
 .q 2 (.fld 3) [.s 3] none <|
 .x 3 (.st 1) [.r 2, .r 1] none [] <|
 .out [(0, .s 0), (2, .s 2), (3, .s 3)]
def e78r6 : EE := .q 0 (.fld 0) [.s 3] none <|
 .q 1 .ld [.r 0] none <|
 .out [(0, .s 0), (2, .s 2), (3, .s 3), (20, .r 1)]
def e78r7 : EE := .q 0 .eql [.s 20, .c (.int .i64 2)] none <|
 .out [(0, .s 0), (2, .s 2), (3, .s 3), (20, .s 20), (21, .r 0)]
def e78r8 : EE := .x 1 (.call 102) [.s 0, .c (.int .i64 64)] none [] <|
 .q 2 (.fld 6) [.s 3] none <|
 .x 3 (.st 1) [.r 2, .r 1] none [] <|
 .out [(0, .s 0), (2, .s 2), (3, .s 3)]
def e78r9 : EE := .q 0 .eql [.s 20, .c (.int .i64 4)] none <|
 .out [(0, .s 0), (2, .s 2), (3, .s 3), (20, .s 20), (26, .r 0)]
def e78r10 : EE := .x 1 (.call 102) [.s 0, .c (.int .i64 64)] none [] <|
 .q 2 (.fld 5) [.s 3] none <|
 .x 3 (.st 1) [.r 2, .r 1] none [] <|
 .out [(0, .s 0), (2, .s 2), (3, .s 3)]
def e78r11 : EE := .x 1 (.call 102) [.s 0, .c (.int .i64 64)] none [] <|
 .q 2 (.fld 6) [.s 3] none <|
 .x 3 (.st 1) [.r 2, .r 1] none [] <|
 .out [(0, .s 0), (2, .s 2), (3, .s 3)]
def e78r12 : EE := .q 0 .eql [.s 20, .c (.int .i64 5)] none <|
 .out [(0, .s 0), (2, .s 2), (3, .s 3), (34, .r 0)]
def e78r13 : EE := .x 1 (.call 102) [.s 0, .c (.int .i64 16)] none [] <|
 .q 2 (.fld 4) [.s 3] none <|
 .x 3 (.st 1) [.r 2, .r 1] none [] <|
 .out [(0, .s 0), (2, .s 2), (3, .s 3)]
def e78r14 : EE := .x 1 (.call 81) [.s 0] none [] <|
 .q 2 .eql [.r 1, .c z] none <|
 .q 4 (.lda 7) [.s 3] (some (.r 2, true)) <|
 .x 5 (.call 13) [.r 4] (some (.r 2, true)) [] <|
 .q 6 .not [.r 5] (some (.r 2, true)) <|
 .q 7 .pick [.r 2, .r 6, .c (.bool false)] none <|
 .out [(0, .s 0), (2, .s 2), (3, .s 3), (46, .r 7)]
def e78r15 : EE := .x 1 (.call 82) [.s 0] none [] <|
 .out [(0, .s 0), (2, .s 2), (3, .s 3)]
def e78r16 : EE := .x 1 (.call 81) [.s 0] none [] <|
 .q 2 .neq [.r 1, .c z] none <|
 .out [(2, .s 2), (3, .s 3), (51, .r 2)]
def e78r17 : EE := .q 0 (.bld [z, z, z, zs, zs, zs, zs] []) [] none <|
 .x 1 (.st 7) [.s 2, .r 0] none [] <|
 .out [(2, .s 2)]
def e78r18 : EE := .q 0 (.lda 7) [.s 3] none <|
 .x 1 (.st 7) [.s 2, .r 0] none [] <|
 .out [(2, .s 2)]
def e78 : EFn := ⟨(.seq (.reg e78r0 [0] 0) (.seq (.reg e78r1 [0, 2] 0) (.seq (.seq (.reg e78r2 [0, 2, 3] 0) (.cond (.s 9) (.seq (.reg e78r3 [0, 2, 3] 0) (.seq (.reg e78r4 [0, 2, 3] 0) (.reg e78r5 [0, 2, 3] 0))) .skip)) (.seq (.seq (.reg e78r6 [0, 2, 3] 0) (.block 0 (.seq (.reg e78r7 [0, 2, 3, 20] 0) (.cond (.s 21) (.reg e78r8 [0, 2, 3] 0) (.seq (.reg e78r9 [0, 2, 3, 20] 0) (.cond (.s 26) (.seq (.reg e78r10 [0, 2, 3] 0) (.reg e78r11 [0, 2, 3] 0)) (.seq (.reg e78r12 [0, 2, 3, 20] 0) (.cond (.s 34) (.reg e78r13 [0, 2, 3] 0) .skip)))))))) (.seq (.seq (.reg e78r14 [0, 2, 3] 0) (.cond (.s 46) (.reg e78r15 [0, 2, 3] 0) .skip)) (.seq (.seq (.reg e78r16 [0, 2, 3] 0) (.cond (.s 51) (.seq (.reg e78r17 [2] 0) .ret) .skip)) (.seq (.reg e78r18 [2, 3] 0) .ret))))))), [.cells 2 7], 54, 0⟩
theorem g78 : Good Tryz.prog 78 e78 := ⟨Tryz.f78, Tryz.func78, by kernel_rfl, by kernel_rfl, by kernel_rfl, by kernel_rfl⟩
end Go.Ev
