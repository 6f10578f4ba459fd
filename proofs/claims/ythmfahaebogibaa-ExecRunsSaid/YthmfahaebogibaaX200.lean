import Derived.Test.YthmfahaebogibaaEvB
import Derived.Test.YthmfahaebogibaaProg
set_option linter.unusedVariables false
namespace Go.Ev
open Go.Fw Go.Proofs
/-! concord/concordlaw20.ExecRuns -/
def e3r0 : EE := .out []
def e3r1 : EE := .out [(1, .f 9)]
def e3r2 : EE := .q 0 (.bld [z, z, z, z, z, z, z] []) [] none <|
 .x 1 (.bsl 3 2 [z, z] [(0, 1), (1, 1)]) [.c z, .c (.int .i64 1)] none [] <|
 .x 2 (.call 11) [.c z, .c (.int .i64 1), .c (.int .i64 2), .r 1] none [] <|
 .x 3 (.bsl 3 1 [z] [(0, 1)]) [.c (.int .i64 1)] none [] <|
 .x 4 (.call 11) [.c (.int .i64 1), .c (.int .i64 1), .c (.int .i64 1), .r 3] none [] <|
 .x 5 (.bsl 40 2 [z, z, z, z, z, z, z, z, z, z, zs, zs, zs, zs, z, z, z, z, z, z, z, z, (.bool false), z, z, z, z, z, z, z, z, z, z, zs, zs, zs, zs, z, z, z, z, z, z, z, z, (.bool false)] [(0, 23), (23, 23)]) [.r 2, .r 4] none [] <|
 .x 6 (.call 10) [.r 0, .r 5] none [] <|
 .q 8 (.ext 0) [.r 6] none <|
 .q 9 (.ext 1) [.r 6] none <|
 .out [(1, .s 1), (2, .r 8), (3, .r 9)]
def e3r3 : EE := .q 0 (.bld [z, z, z, z, z, z, z] []) [] none <|
 .x 1 (.bsl 3 2 [z, z] [(0, 1), (1, 1)]) [.c z, .c (.int .i64 1)] none [] <|
 .x 2 (.call 11) [.c z, .c (.int .i64 1), .c (.int .i64 2), .r 1] none [] <|
 .x 3 (.bsl 40 1 [z, z, z, z, z, z, z, z, z, z, zs, zs, zs, zs, z, z, z, z, z, z, z, z, (.bool false)] [(0, 23)]) [.r 2] none [] <|
 .x 4 (.call 10) [.r 0, .r 3] none [] <|
 .q 6 (.ext 0) [.r 4] none <|
 .q 7 (.ext 1) [.r 4] none <|
 .out [(1, .s 1), (2, .s 2), (3, .s 3), (4, .r 6), (5, .r 7)]
def e3r4 : EE := .q 0 (.bld [z, z, z, z, z, z, z] []) [] none <|
 .x 1 (.call 11) [.c z, .c (.int .i64 1), .c z, .c .nsl] none [] <|
 .x 2 (.bsl 3 2 [z, z] [(0, 1), (1, 1)]) [.c z, .c (.int .i64 1)] none [] <|
 .x 3 (.call 11) [.c z, .c (.int .i64 2), .c z, .r 2] none [] <|
 .x 4 (.bsl 3 3 [z, z, z] [(0, 1), (1, 1), (2, 1)]) [.c z, .c z, .c (.int .i64 1)] none [] <|
 .x 5 (.call 11) [.c (.int .i64 1), .c (.int .i64 1), .c z, .r 4] none [] <|
 .x 6 (.bsl 40 3 [z, z, z, z, z, z, z, z, z, z, zs, zs, zs, zs, z, z, z, z, z, z, z, z, (.bool false), z, z, z, z, z, z, z, z, z, z, zs, zs, zs, zs, z, z, z, z, z, z, z, z, (.bool false), z, z, z, z, z, z, z, z, z, z, zs, zs, zs, zs, z, z, z, z, z, z, z, z, (.bool false)] [(0, 23), (23, 23), (46, 23)]) [.r 1, .r 3, .r 5] none [] <|
 .x 7 (.call 10) [.r 0, .r 6] none [] <|
 .q 9 (.ext 0) [.r 7] none <|
 .q 10 (.ext 1) [.r 7] none <|
 .out [(1, .s 1), (2, .s 2), (3, .s 3), (4, .s 4), (5, .s 5), (6, .r 9), (7, .r 10)]
def e3r5 : EE := .x 1 (.call 13) [.s 2] none [] <|
 .x 3 .callv [.s 1, .c (.int .i64 1), .c (.int .i64 1)] none [] <|
 .x 5 .callv [.s 1, .c z, .c (.int .i64 1)] none [] <|
 .x 6 (.bsl 23 2 [z, z, z, z] [(0, 2), (2, 2)]) [.r 3, .r 5] none [] <|
 .x 7 (.call 12) [.r 1, .r 6] none [] <|
 .q 9 .mv [.s 3] (some (.r 7, true)) <|
 .q 10 .len [.r 9] (some (.r 7, true)) <|
 .q 11 .eql [.r 10, .c z] (some (.r 7, true)) <|
 .q 12 .pick [.r 7, .r 11, .c (.bool false)] none <|
 .q 14 .mv [.s 4] (some (.r 12, true)) <|
 .q 15 .len [.r 14] (some (.r 12, true)) <|
 .q 16 .eql [.r 15, .c z] (some (.r 12, true)) <|
 .q 17 .pick [.r 12, .r 16, .c (.bool false)] none <|
 .q 19 .mv [.s 5] (some (.r 17, true)) <|
 .q 20 .mv [.s 1] (some (.r 17, true)) <|
 .x 21 .callv [.r 20, .c (.int .i64 1), .c (.int .i64 1)] (some (.r 17, true)) [] <|
 .x 22 (.bsl 23 1 [z, z] [(0, 2)]) [.r 21] (some (.r 17, true)) [] <|
 .x 23 (.call 12) [.r 19, .r 22] (some (.r 17, true)) [] <|
 .q 24 .pick [.r 17, .r 23, .c (.bool false)] none <|
 .q 26 .mv [.s 6] (some (.r 24, true)) <|
 .x 27 (.call 13) [.r 26] (some (.r 24, true)) [] <|
 .q 28 .mv [.s 1] (some (.r 24, true)) <|
 .x 29 .callv [.r 28, .c z, .c (.int .i64 1)] (some (.r 24, true)) [] <|
 .x 30 (.bsl 23 1 [z, z] [(0, 2)]) [.r 29] (some (.r 24, true)) [] <|
 .x 31 (.call 12) [.r 27, .r 30] (some (.r 24, true)) [] <|
 .q 32 .pick [.r 24, .r 31, .c (.bool false)] none <|
 .q 34 .mv [.s 7] (some (.r 32, true)) <|
 .q 35 .mv [.s 1] (some (.r 32, true)) <|
 .x 36 .callv [.r 35, .c (.int .i64 2), .c (.int .i64 1)] (some (.r 32, true)) [] <|
 .x 37 (.bsl 23 1 [z, z] [(0, 2)]) [.r 36] (some (.r 32, true)) [] <|
 .x 38 (.call 12) [.r 34, .r 37] (some (.r 32, true)) [] <|
 .q 39 .pick [.r 32, .r 38, .c (.bool false)] none <|
 .out [(0, .r 39)]
def e3 : EFn := ⟨(.seq (.reg e3r0 [] 0) (.seq (.reg e3r1 [] 0) (.seq (.reg e3r2 [1] 0) (.seq (.reg e3r3 [1, 2, 3] 0) (.seq (.reg e3r4 [1, 2, 3, 4, 5] 0) (.seq (.reg e3r5 [1, 2, 3, 4, 5, 6, 7] 0) .ret)))))), [.slot 0], 77, 0⟩
theorem g3 : Good Try.prog 3 e3 := ⟨Try.f3, Try.func3, by kernel_rfl, by kernel_rfl, by kernel_rfl, by kernel_rfl⟩
/-! concord/concordlaw20.ExecRuns$1 -/
def e9r0 : EE := .x 0 (.alc [z, z] 23) [] none [] <|
 .out [(0, .s 0), (1, .s 1), (4, .r 0)]
def e9r1 : EE := .q 2 (.bld [z, z] [(0, 1), (1, 1)]) [.s 0, .s 1] none <|
 .x 3 (.st 2) [.s 4, .r 2] none [] <|
 .out [(4, .s 4)]
def e9 : EFn := ⟨(.seq (.reg e9r0 [0, 1] 0) (.seq (.reg e9r1 [0, 1, 4] 0) .ret)), [.cells 4 2], 8, 0⟩
theorem g9 : Good Try.prog 9 e9 := ⟨Try.f9, Try.func9, by kernel_rfl, by kernel_rfl, by kernel_rfl, by kernel_rfl⟩
/-! concord/exec.Plan -/
def e10r0 : EE := .x 0 (.box 30) [.s 0] none [] <|
 .out [(1, .s 1), (2, .r 0)]
def e10r1 : EE := .q 0 (.lda 7) [.s 2] none <|
 .x 1 .mkm [] none [] <|
 .q 2 (.bld [z, z, z, z, z, z, z, .nmap, .nsl] [(0, 7), (7, 1)]) [.r 0, .r 1] none <|
 .x 3 (.box 65) [.r 2] none [] <|
 .out [(1, .s 1), (6, .r 3)]
def e10r2 : EE := .q 1 .len [.s 1] none <|
 .out [(6, .s 6), (17, .s 1), (18, .r 1), (19, .c z)]
def e10r3 : EE := .q 0 .lss [.s 19, .s 18] none <|
 .out [(6, .s 6), (17, .s 17), (18, .s 18), (19, .s 19), (20, .r 0)]
def e10r4 : EE := .q 0 (.ixs 23) [.s 17, .s 19] none <|
 .q 1 (.lda 23) [.r 0] none <|
 .x 2 (.alc [z, z, z, z, z, z, z, z, z, z, zs, zs, zs, zs, z, z, z, z, z, z, z, z, (.bool false)] 40) [] none [] <|
 .x 3 (.st 23) [.r 2, .r 1] none [] <|
 .out [(6, .s 6), (8, .r 2), (17, .s 17), (18, .s 18), (19, .s 19)]
def e10r5 : EE := .q 1 .nl [.s 6] none <|
 .q 2 (.fld 7) [.r 1] none <|
 .q 3 .ld [.r 2] none <|
 .q 4 (.fld 0) [.s 8] none <|
 .q 5 (.lda 2) [.r 4] none <|
 .q 6 (.lkp true [(.i .i64), (.i .i64)] (.agg [z, z, z, z, z, z, z, z, zs, zs, zs, zs, z, z, z, z, z, z, z, z, (.bool false)]) true) [.r 3, .r 5] none <|
 .q 8 (.ext 0) [.r 6] none <|
 .q 9 (.ext 1) [.r 6] none <|
 .x 10 (.alc [z, z, z, z, z, z, z, z, zs, zs, zs, zs, z, z, z, z, z, z, z, z, (.bool false)] 38) [] none [⟨3, .ld, [.r 2], none⟩, ⟨5, (.lda 2), [.r 4], none⟩, ⟨6, (.lkp true [(.i .i64), (.i .i64)] (.agg [z, z, z, z, z, z, z, z, zs, zs, zs, zs, z, z, z, z, z, z, z, z, (.bool false)]) true), [.r 3, .r 5], none⟩] <|
 .x 11 (.st 21) [.r 10, .r 8] none [] <|
 .out [(6, .s 6), (8, .s 8), (10, .r 9), (17, .s 17), (18, .s 18), (19, .s 19)]
def e10r6 : EE := .q 2 (.fld 2) [.s 8] (some (.s 10, false)) <|
 .q 3 (.fld 0) [.r 2] (some (.s 10, false)) <|
 .q 4 .ld [.r 3] (some (.s 10, false)) <|
 .q 5 .neq [.r 4, .c (.int .i64 3)] (some (.s 10, false)) <|
 .q 6 .pick [.s 10, .c (.bool true), .r 5] none <|
 .out [(6, .s 6), (8, .s 8), (17, .s 17), (18, .s 18), (19, .s 19), (39, .r 6)]
def e10r7 : EE := .q 1 .nl [.s 6] none <|
 .q 2 (.fld 7) [.r 1] none <|
 .q 3 .ld [.r 2] none <|
 .q 4 (.fld 0) [.s 8] none <|
 .q 5 (.lda 2) [.r 4] none <|
 .q 6 (.fld 2) [.s 8] none <|
 .q 7 (.lda 21) [.r 6] none <|
 .x 8 (.mup true [(.i .i64), (.i .i64)]) [.r 3, .r 5, .r 7] none [] <|
 .out [(6, .s 6), (17, .s 17), (18, .s 18), (19, .s 19)]
def e10r8 : EE := .q 0 .add [.s 19, .c (.int .i64 1)] none <|
 .out [(6, .s 6), (17, .s 17), (18, .s 18), (19, .r 0)]
def e10l9 : EC := (.seq (.reg e10r3 [6, 17, 18, 19] 0) (.seq (.cond (.s 20) .skip (.exit 0)) (.seq (.block 1 (.seq (.reg e10r4 [6, 17, 18, 19] 0) (.seq (.seq (.reg e10r5 [6, 8, 17, 18, 19] 0) (.seq (.reg e10r6 [6, 8, 10, 17, 18, 19] 0) (.cond (.s 39) (.exit 1) .skip))) (.reg e10r7 [6, 8, 17, 18, 19] 0)))) (.reg e10r8 [6, 17, 18, 19] 0))))
def e10r10 : EE := .x 1 (.call 23) [.s 6] none [] <|
 .q 3 (.ext 0) [.r 1] none <|
 .q 4 (.ext 1) [.r 1] none <|
 .out [(6, .s 6), (11, .r 3), (12, .r 4)]
def e10r11 : EE := .q 1 .not [.s 11] none <|
 .out [(6, .s 6), (12, .s 12), (55, .r 1)]
def e10r12 : EE := .q 1 .nl [.s 6] none <|
 .q 2 (.fld 8) [.r 1] none <|
 .q 3 .ld [.r 2] none <|
 .x 5 (.call 24) [.s 12] none [⟨3, .ld, [.r 2], none⟩] <|
 .out [(4, .r 3), (5, .r 5)]
def e10l13 : EC := (.block 3 (.seq (.reg e10r10 [6] 0) (.seq (.reg e10r11 [6, 11, 12] 0) (.cond (.s 55) (.seq (.reg e10r12 [6, 12] 0) .ret) .skip))))
def e10 : EFn := ⟨(.seq (.reg e10r0 [0, 1] 0) (.seq (.reg e10r1 [1, 2] 0) (.seq (.seq (.reg e10r2 [1, 6] 0) (.block 0 (.loop [6, 17, 18, 19] e10l9))) (.block 2 (.loop [6] e10l13))))), [.slot 4, .slot 5], 62, 0⟩
theorem g10 : Good Try.prog 10 e10 := ⟨Try.f10, Try.func10, by kernel_rfl, by kernel_rfl, by kernel_rfl, by kernel_rfl⟩
/-! concord/concordlaw20.known -/
def e11r0 : EE := .x 0 (.alc [z, z, z, z, z, z, z, z, z, z, zs, zs, zs, zs, z, z, z, z, z, z, z, z, (.bool false)] 40) [] none [] <|
 .out [(0, .s 0), (1, .s 1), (2, .s 2), (3, .s 3), (8, .r 0)]
def e11r1 : EE := .q 1 (.bld [z, z, z, z, z, z, z, z] [(0, 1)]) [.s 2] none <|
 .x 2 (.alc [z, z, z, z, z, z, z, z] 36) [] none [] <|
 .x 3 (.st 8) [.r 2, .r 1] none [] <|
 .out [(0, .s 0), (1, .s 1), (3, .s 3), (8, .s 8), (9, .r 2)]
def e11r2 : EE := .out [(0, .s 0), (1, .s 1), (3, .s 3), (8, .s 8), (9, .s 9), (10, .c z)]
def e11r3 : EE := .q 2 .len [.s 3] none <|
 .q 3 .lss [.s 10, .r 2] none <|
 .q 5 .mv [.s 10] (some (.r 3, true)) <|
 .q 6 .lss [.r 5, .c (.int .i64 7)] (some (.r 3, true)) <|
 .q 7 .pick [.r 3, .r 6, .c (.bool false)] none <|
 .out [(0, .s 0), (1, .s 1), (3, .s 3), (8, .s 8), (9, .s 9), (10, .s 10), (20, .r 7)]
def e11r4 : EE := .q 3 (.ixs 1) [.s 3, .s 10] none <|
 .q 4 .ld [.r 3] none <|
 .q 5 (.fld 1) [.s 9] none <|
 .q 6 (.ixa 7 1) [.r 5, .s 10] none <|
 .x 7 (.st 1) [.r 6, .r 4] none [] <|
 .out [(0, .s 0), (1, .s 1), (3, .s 3), (8, .s 8), (9, .s 9), (10, .s 10)]
def e11r5 : EE := .q 1 .add [.s 10, .c (.int .i64 1)] none <|
 .out [(0, .s 0), (1, .s 1), (3, .s 3), (8, .s 8), (9, .s 9), (10, .r 1)]
def e11l6 : EC := (.seq (.seq (.reg e11r3 [0, 1, 3, 8, 9, 10] 0) (.cond (.s 20) .skip (.exit 0))) (.seq (.block 1 (.reg e11r4 [0, 1, 3, 8, 9, 10] 0)) (.reg e11r5 [0, 1, 3, 8, 9, 10] 0)))
def e11r7 : EE := .q 2 (.bld [z, z] [(0, 1), (1, 1)]) [.s 0, .s 1] none <|
 .q 3 (.lda 8) [.s 9] none <|
 .q 4 (.bld [z, z, z, z, z, z, z, z, zs, zs, zs, zs, z, z, z, z, z, z, z, z, (.bool false)] [(0, 1), (12, 8)]) [.c (.int .i64 3), .r 3] none <|
 .q 5 (.bld [z, z, z, z, z, z, z, z, z, z, zs, zs, zs, zs, z, z, z, z, z, z, z, z, (.bool false)] [(0, 2), (2, 21)]) [.r 2, .r 4] none <|
 .x 6 (.st 23) [.s 8, .r 5] none [] <|
 .out [(8, .s 8)]
def e11 : EFn := ⟨(.seq (.reg e11r0 [0, 1, 2, 3] 0) (.seq (.reg e11r1 [0, 1, 2, 3, 8] 0) (.seq (.seq (.reg e11r2 [0, 1, 3, 8, 9] 0) (.block 0 (.loop [0, 1, 3, 8, 9, 10] e11l6))) (.seq (.reg e11r7 [0, 1, 8, 9] 0) .ret)))), [.cells 8 23], 36, 0⟩
theorem g11 : Good Try.prog 11 e11 := ⟨Try.f11, Try.func11, by kernel_rfl, by kernel_rfl, by kernel_rfl, by kernel_rfl⟩
/-! concord/concordbook.Same[concord/api.Inst] -/
def e12r0 : EE := .out [(0, .s 0), (1, .s 1)]
def e12r1 : EE := .q 1 .len [.s 0] none <|
 .q 3 .len [.s 1] none <|
 .q 4 .neq [.r 1, .r 3] none <|
 .out [(0, .s 0), (1, .s 1), (10, .r 4)]
def e12r2 : EE := .out [(4, .c (.bool false))]
def e12r3 : EE := .out [(0, .s 0), (1, .s 1), (5, .c z)]
def e12r4 : EE := .q 2 .len [.s 0] none <|
 .q 3 .lss [.s 5, .r 2] none <|
 .out [(0, .s 0), (1, .s 1), (5, .s 5), (14, .r 3)]
def e12r5 : EE := .q 2 (.ixs 2) [.s 0, .s 5] none <|
 .q 3 (.lda 2) [.r 2] none <|
 .q 6 (.ixs 2) [.s 1, .s 5] none <|
 .q 7 (.lda 2) [.r 6] none <|
 .q 8 (.eqc true [(.i .i64), (.i .i64)]) [.r 3, .r 7] none <|
 .out [(0, .s 0), (1, .s 1), (5, .s 5), (25, .r 8)]
def e12r6 : EE := .out [(4, .c (.bool false))]
def e12r7 : EE := .q 1 .add [.s 5, .c (.int .i64 1)] none <|
 .out [(0, .s 0), (1, .s 1), (5, .r 1)]
def e12l8 : EC := (.seq (.seq (.reg e12r4 [0, 1, 5] 0) (.cond (.s 14) .skip (.exit 0))) (.seq (.block 1 (.seq (.reg e12r5 [0, 1, 5] 0) (.cond (.s 25) (.seq (.reg e12r6 [] 0) .ret) .skip))) (.reg e12r7 [0, 1, 5] 0)))
def e12r9 : EE := .out [(4, .c (.bool true))]
def e12 : EFn := ⟨(.seq (.reg e12r0 [0, 1] 0) (.seq (.seq (.reg e12r1 [0, 1] 0) (.cond (.s 10) (.seq (.reg e12r2 [] 0) .ret) .skip)) (.seq (.seq (.reg e12r3 [0, 1] 0) (.block 0 (.loop [0, 1, 5] e12l8))) (.seq (.reg e12r9 [] 0) .ret)))), [.slot 4], 26, 0⟩
theorem g12 : Good Try.prog 12 e12 := ⟨Try.f12, Try.func12, by kernel_rfl, by kernel_rfl, by kernel_rfl, by kernel_rfl⟩
/-! concord/concordlaw20.ids -/
def e13r0 : EE := .out [(0, .s 0)]
def e13r1 : EE := .out [(0, .s 0), (3, .c .nsl)]
def e13r2 : EE := .out [(0, .s 0), (3, .s 3), (4, .c z)]
def e13r3 : EE := .q 2 .len [.s 0] none <|
 .q 3 .lss [.s 4, .r 2] none <|
 .out [(0, .s 0), (3, .s 3), (4, .s 4), (8, .r 3)]
def e13r4 : EE := .q 3 (.ixs 23) [.s 0, .s 4] none <|
 .q 4 (.fld 0) [.r 3] none <|
 .q 5 (.lda 2) [.r 4] none <|
 .x 6 (.bsl 23 1 [z, z] [(0, 2)]) [.r 5] none [] <|
 .x 7 (.app 23 2 16 [z, z]) [.s 3, .r 6] none [] <|
 .out [(0, .s 0), (3, .r 7), (4, .s 4)]
def e13r5 : EE := .q 1 .add [.s 4, .c (.int .i64 1)] none <|
 .out [(0, .s 0), (3, .s 3), (4, .r 1)]
def e13l6 : EC := (.seq (.seq (.reg e13r3 [0, 3, 4] 0) (.cond (.s 8) .skip (.exit 0))) (.seq (.block 1 (.reg e13r4 [0, 3, 4] 0)) (.reg e13r5 [0, 3, 4] 0)))
def e13r7 : EE := .out [(2, .s 3)]
def e13 : EFn := ⟨(.seq (.reg e13r0 [0] 0) (.seq (.reg e13r1 [0] 0) (.seq (.seq (.reg e13r2 [0, 3] 0) (.block 0 (.loop [0, 3, 4] e13l6))) (.seq (.reg e13r7 [3] 0) .ret)))), [.slot 2], 20, 0⟩
theorem g13 : Good Try.prog 13 e13 := ⟨Try.f13, Try.func13, by kernel_rfl, by kernel_rfl, by kernel_rfl, by kernel_rfl⟩
/-! concord/deps.Reach -/
def e21r0 : EE := .x 0 (.box 30) [.s 0] none [] <|
 .x 1 (.box 23) [.s 1] none [] <|
 .out [(2, .r 0), (3, .r 1)]
def e21r1 : EE := .q 0 (.lda 2) [.s 3] none <|
 .x 1 (.call 31) [.r 0] none [] <|
 .q 3 (.fld 0) [.s 3] (some (.r 1, true)) <|
 .q 4 .ld [.r 3] (some (.r 1, true)) <|
 .q 5 (.ixa 7 1) [.s 2, .r 4] (some (.r 1, true)) <|
 .q 6 .ld [.r 5] (some (.r 1, true)) <|
 .q 7 (.fld 1) [.s 3] (some (.r 1, true)) <|
 .q 8 .ld [.r 7] (some (.r 1, true)) <|
 .q 9 .geq [.r 6, .r 8] (some (.r 1, true)) <|
 .q 10 .pick [.r 1, .r 9, .c (.bool false)] none <|
 .out [(4, .r 10)]
def e21 : EFn := ⟨(.seq (.reg e21r0 [0, 1] 0) (.seq (.reg e21r1 [2, 3] 0) .ret)), [.slot 4], 16, 0⟩
theorem g21 : Good Try.prog 21 e21 := ⟨Try.f21, Try.func21, by kernel_rfl, by kernel_rfl, by kernel_rfl, by kernel_rfl⟩
/-! (*concord/exec.plan).round -/
def e23r0 : EE := .out [(0, .s 0)]
def e23r1 : EE := .x 0 (.call 32) [.c .nsl] none [] <|
 .out [(0, .s 0), (4, .c (.bool false)), (5, .r 0)]
def e23r2 : EE := .out [(0, .s 0), (4, .s 4), (5, .s 5), (13, .c z)]
def e23r3 : EE := .q 0 .lss [.s 13, .c (.int .i64 7)] none <|
 .out [(0, .s 0), (4, .s 4), (5, .s 5), (13, .s 13), (14, .r 0)]
def e23r4 : EE := .out [(0, .s 0), (4, .s 4), (5, .s 5), (6, .s 13), (13, .s 13)]
def e23r5 : EE := .q 3 .nl [.s 0] none <|
 .q 4 (.fld 0) [.r 3] none <|
 .q 5 (.ixa 7 1) [.r 4, .s 6] none <|
 .q 6 .ld [.r 5] none <|
 .q 7 .add [.r 6, .c (.int .i64 1)] none <|
 .q 8 (.bld [z, z] [(0, 1), (1, 1)]) [.s 6, .r 7] none <|
 .x 9 (.alc [z, z] 23) [] none [] <|
 .x 10 (.st 2) [.r 9, .r 8] none [] <|
 .out [(0, .s 0), (4, .s 4), (5, .s 5), (7, .r 9), (13, .s 13)]
def e23r6 : EE := .q 1 .nl [.s 0] none <|
 .q 2 (.fld 7) [.r 1] none <|
 .q 3 .ld [.r 2] none <|
 .q 4 (.lda 2) [.s 7] none <|
 .q 5 (.lkp true [(.i .i64), (.i .i64)] (.agg [z, z, z, z, z, z, z, z, zs, zs, zs, zs, z, z, z, z, z, z, z, z, (.bool false)]) true) [.r 3, .r 4] none <|
 .q 7 (.ext 0) [.r 5] none <|
 .q 8 (.ext 1) [.r 5] none <|
 .x 9 (.alc [z, z, z, z, z, z, z, z, zs, zs, zs, zs, z, z, z, z, z, z, z, z, (.bool false)] 38) [] none [⟨3, .ld, [.r 2], none⟩, ⟨4, (.lda 2), [.s 7], none⟩, ⟨5, (.lkp true [(.i .i64), (.i .i64)] (.agg [z, z, z, z, z, z, z, z, zs, zs, zs, zs, z, z, z, z, z, z, z, z, (.bool false)]) true), [.r 3, .r 4], none⟩] <|
 .x 10 (.st 21) [.r 9, .r 7] none [] <|
 .out [(0, .s 0), (4, .s 4), (5, .s 5), (7, .s 7), (9, .r 8), (13, .s 13)]
def e23r7 : EE := .q 1 .not [.s 9] none <|
 .out [(0, .s 0), (4, .s 4), (5, .s 5), (7, .s 7), (13, .s 13), (35, .r 1)]
def e23r8 : EE := .q 1 (.lda 2) [.s 7] none <|
 .x 2 (.call 33) [.s 0, .r 1] none [] <|
 .out [(0, .s 0), (4, .s 4), (5, .s 5), (7, .s 7), (13, .s 13), (38, .r 2)]
def e23r9 : EE := .q 1 (.lda 2) [.s 7] none <|
 .x 2 (.call 34) [.s 5, .r 1] none [] <|
 .out [(0, .s 0), (4, .s 4), (5, .s 5), (13, .s 13)]
def e23r10 : EE := .q 1 (.lda 2) [.s 7] none <|
 .x 2 (.call 35) [.s 0, .r 1] none [] <|
 .q 4 (.ext 0) [.r 2] none <|
 .q 5 (.ext 1) [.r 2] none <|
 .x 6 (.alc [z, z] 23) [] none [] <|
 .x 8 (.st 2) [.r 6, .r 5] none [] <|
 .out [(0, .s 0), (4, .s 4), (5, .s 5), (10, .r 4), (11, .r 6), (13, .s 13)]
def e23r11 : EE := .q 1 .len [.s 10] none <|
 .q 2 .gtr [.r 1, .c z] none <|
 .out [(0, .s 0), (4, .s 4), (5, .s 5), (10, .s 10), (11, .s 11), (13, .s 13), (48, .r 2)]
def e23r12 : EE := .x 2 (.call 36) [.s 0, .s 10] none [] <|
 .out [(0, .s 0), (5, .s 5), (13, .s 13)]
def e23r13 : EE := .out [(0, .s 0), (4, .c (.bool true)), (5, .s 5), (13, .s 13)]
def e23r14 : EE := .q 0 (.lda 2) [.s 11] none <|
 .q 1 (.bld [z, z] []) [] none <|
 .q 2 (.eqc true [(.i .i64), (.i .i64)]) [.r 0, .r 1] none <|
 .out [(0, .s 0), (4, .s 4), (5, .s 5), (11, .s 11), (13, .s 13), (55, .r 2)]
def e23r15 : EE := .q 1 (.lda 2) [.s 11] none <|
 .x 2 (.call 34) [.s 5, .r 1] none [] <|
 .out [(0, .s 0), (4, .s 4), (5, .s 5), (13, .s 13)]
def e23r16 : EE := .q 0 .add [.s 13, .c (.int .i64 1)] none <|
 .out [(0, .s 0), (4, .s 4), (5, .s 5), (13, .r 0)]
def e23l17 : EC := (.seq (.reg e23r3 [0, 4, 5, 13] 0) (.seq (.cond (.s 14) .skip (.exit 0)) (.seq (.block 1 (.seq (.reg e23r4 [0, 4, 5, 13] 0) (.seq (.reg e23r5 [0, 4, 5, 6, 13] 0) (.seq (.seq (.reg e23r6 [0, 4, 5, 7, 13] 0) (.seq (.reg e23r7 [0, 4, 5, 7, 9, 13] 0) (.cond (.s 35) (.seq (.seq (.reg e23r8 [0, 4, 5, 7, 13] 0) (.cond (.s 38) (.reg e23r9 [0, 4, 5, 7, 13] 0) .skip)) (.exit 1)) .skip))) (.seq (.reg e23r10 [0, 4, 5, 7, 13] 0) (.block 2 (.seq (.reg e23r11 [0, 4, 5, 10, 11, 13] 0) (.cond (.s 48) (.seq (.reg e23r12 [0, 5, 10, 13] 0) (.reg e23r13 [0, 5, 13] 0)) (.seq (.reg e23r14 [0, 4, 5, 11, 13] 0) (.cond (.s 55) (.reg e23r15 [0, 4, 5, 11, 13] 0) .skip)))))))))) (.reg e23r16 [0, 4, 5, 13] 0))))
def e23r18 : EE := .out [(2, .s 4), (3, .s 5)]
def e23 : EFn := ⟨(.seq (.reg e23r0 [0] 0) (.seq (.reg e23r1 [0] 0) (.seq (.seq (.reg e23r2 [0, 4, 5] 0) (.block 0 (.loop [0, 4, 5, 13] e23l17))) (.seq (.reg e23r18 [4, 5] 0) .ret)))), [.slot 2, .slot 3], 65, 0⟩
theorem g23 : Good Try.prog 23 e23 := ⟨Try.f23, Try.func23, by kernel_rfl, by kernel_rfl, by kernel_rfl, by kernel_rfl⟩
/-! (*concord/inst.Set).List -/
def e24r0 : EE := .out [(0, .s 0)]
def e24r1 : EE := .out [(0, .s 0), (3, .c .nsl)]
def e24r2 : EE := .q 1 .nl [.s 0] none <|
 .q 2 (.fld 0) [.r 1] none <|
 .q 3 .ld [.r 2] none <|
 .x 4 .rng [.r 3] none [] <|
 .out [(3, .s 3), (9, .r 4)]
def e24r3 : EE := .x 0 .nxt [.s 9] none [] <|
 .q 1 (.ext 0) [.r 0] none <|
 .out [(3, .s 3), (9, .s 9), (11, .r 1)]
def e24r4 : EE := .q 0 .ent [.s 9] none <|
 .q 1 (.ext 0) [.r 0] none <|
 .x 2 (.alc [z, z] 23) [] none [] <|
 .x 3 (.st 2) [.r 2, .r 1] none [] <|
 .out [(3, .s 3), (4, .r 2), (9, .s 9)]
def e24r5 : EE := .q 1 (.lda 2) [.s 4] none <|
 .x 2 (.bsl 23 1 [z, z] [(0, 2)]) [.r 1] none [] <|
 .x 3 (.app 23 2 16 [z, z]) [.s 3, .r 2] none [] <|
 .out [(3, .r 3), (9, .s 9)]
def e24l6 : EC := (.seq (.reg e24r3 [3, 9] 0) (.seq (.cond (.s 11) .skip (.exit 0)) (.block 1 (.seq (.reg e24r4 [3, 9] 0) (.reg e24r5 [3, 4, 9] 0)))))
def e24r7 : EE := .x 1 (.call 37) [.s 3, .f 38] none [] <|
 .out [(3, .s 3)]
def e24r8 : EE := .out [(2, .s 3)]
def e24 : EFn := ⟨(.seq (.reg e24r0 [0] 0) (.seq (.reg e24r1 [0] 0) (.seq (.seq (.reg e24r2 [0, 3] 0) (.block 0 (.loop [3, 9] e24l6))) (.seq (.reg e24r7 [3] 0) (.seq (.reg e24r8 [3] 0) .ret))))), [.slot 2], 21, 0⟩
theorem g24 : Good Try.prog 24 e24 := ⟨Try.f24, Try.func24, by kernel_rfl, by kernel_rfl, by kernel_rfl, by kernel_rfl⟩
/-! concord/inst.Right -/
def e31r0 : EE := .x 0 (.box 23) [.s 0] none [] <|
 .out [(1, .r 0)]
def e31r1 : EE := .q 0 (.fld 0) [.s 1] none <|
 .q 1 .ld [.r 0] none <|
 .q 2 .geq [.r 1, .c z] none <|
 .q 4 (.fld 0) [.s 1] (some (.r 2, true)) <|
 .q 5 .ld [.r 4] (some (.r 2, true)) <|
 .q 6 .lss [.r 5, .c (.int .i64 7)] (some (.r 2, true)) <|
 .q 7 .pick [.r 2, .r 6, .c (.bool false)] none <|
 .q 9 (.fld 1) [.s 1] (some (.r 7, true)) <|
 .q 10 .ld [.r 9] (some (.r 7, true)) <|
 .q 11 .geq [.r 10, .c (.int .i64 1)] (some (.r 7, true)) <|
 .q 12 .pick [.r 7, .r 11, .c (.bool false)] none <|
 .q 14 (.fld 1) [.s 1] (some (.r 12, true)) <|
 .q 15 .ld [.r 14] (some (.r 12, true)) <|
 .q 16 .leq [.r 15, .c (.int .i64 1073741824)] (some (.r 12, true)) <|
 .q 17 .pick [.r 12, .r 16, .c (.bool false)] none <|
 .out [(2, .r 17)]
def e31 : EFn := ⟨(.seq (.reg e31r0 [0] 0) (.seq (.reg e31r1 [1] 0) .ret)), [.slot 2], 21, 0⟩
theorem g31 : Good Try.prog 31 e31 := ⟨Try.f31, Try.func31, by kernel_rfl, by kernel_rfl, by kernel_rfl, by kernel_rfl⟩
/-! concord/inst.New -/
def e32r0 : EE := .out [(0, .s 0)]
def e32r1 : EE := .x 0 .mkm [] none [] <|
 .q 1 (.bld [.nmap] [(0, 1)]) [.r 0] none <|
 .x 2 (.box 84) [.r 1] none [] <|
 .out [(0, .s 0), (3, .r 2)]
def e32r2 : EE := .q 1 .len [.s 0] none <|
 .out [(3, .s 3), (9, .s 0), (10, .r 1), (11, .c z)]
def e32r3 : EE := .q 0 .lss [.s 11, .s 10] none <|
 .out [(3, .s 3), (9, .s 9), (10, .s 10), (11, .s 11), (12, .r 0)]
def e32r4 : EE := .q 0 (.ixs 2) [.s 9, .s 11] none <|
 .q 1 (.lda 2) [.r 0] none <|
 .x 2 (.alc [z, z] 23) [] none [] <|
 .x 3 (.st 2) [.r 2, .r 1] none [] <|
 .out [(3, .s 3), (5, .r 2), (9, .s 9), (10, .s 10), (11, .s 11)]
def e32r5 : EE := .q 1 .nl [.s 3] none <|
 .q 2 (.fld 0) [.r 1] none <|
 .q 3 .ld [.r 2] none <|
 .q 4 (.lda 2) [.s 5] none <|
 .q 5 (.bld [] []) [] none <|
 .x 6 (.mup true [(.i .i64), (.i .i64)]) [.r 3, .r 4, .r 5] none [] <|
 .out [(3, .s 3), (9, .s 9), (10, .s 10), (11, .s 11)]
def e32r6 : EE := .q 0 .add [.s 11, .c (.int .i64 1)] none <|
 .out [(3, .s 3), (9, .s 9), (10, .s 10), (11, .r 0)]
def e32l7 : EC := (.seq (.reg e32r3 [3, 9, 10, 11] 0) (.seq (.cond (.s 12) .skip (.exit 0)) (.seq (.block 1 (.seq (.reg e32r4 [3, 9, 10, 11] 0) (.reg e32r5 [3, 5, 9, 10, 11] 0))) (.reg e32r6 [3, 9, 10, 11] 0))))
def e32r8 : EE := .out [(2, .s 3)]
def e32 : EFn := ⟨(.seq (.reg e32r0 [0] 0) (.seq (.reg e32r1 [0] 0) (.seq (.seq (.reg e32r2 [0, 3] 0) (.block 0 (.loop [3, 9, 10, 11] e32l7))) (.seq (.reg e32r8 [3] 0) .ret)))), [.slot 2], 23, 0⟩
theorem g32 : Good Try.prog 32 e32 := ⟨Try.f32, Try.func32, by kernel_rfl, by kernel_rfl, by kernel_rfl, by kernel_rfl⟩
/-! (*concord/exec.plan).beyond -/
def e33r0 : EE := .x 0 (.box 23) [.s 1] none [] <|
 .out [(0, .s 0), (3, .r 0)]
def e33r1 : EE := .q 1 .nl [.s 0] none <|
 .q 2 (.fld 7) [.r 1] none <|
 .q 3 .ld [.r 2] none <|
 .x 4 .rng [.r 3] none [] <|
 .out [(3, .s 3), (10, .r 4)]
def e33r2 : EE := .x 0 .nxt [.s 10] none [] <|
 .q 1 (.ext 0) [.r 0] none <|
 .out [(3, .s 3), (10, .s 10), (12, .r 1)]
def e33r3 : EE := .q 0 .ent [.s 10] none <|
 .q 1 (.ext 0) [.r 0] none <|
 .x 2 (.alc [z, z] 23) [] none [] <|
 .x 3 (.st 2) [.r 2, .r 1] none [] <|
 .out [(3, .s 3), (5, .r 2), (10, .s 10)]
def e33r4 : EE := .q 0 (.fld 0) [.s 5] none <|
 .q 1 .ld [.r 0] none <|
 .q 2 (.fld 0) [.s 3] none <|
 .q 3 .ld [.r 2] none <|
 .q 4 .eql [.r 1, .r 3] none <|
 .q 6 (.fld 1) [.s 5] (some (.r 4, true)) <|
 .q 7 .ld [.r 6] (some (.r 4, true)) <|
 .q 8 (.fld 1) [.s 3] (some (.r 4, true)) <|
 .q 9 .ld [.r 8] (some (.r 4, true)) <|
 .q 10 .gtr [.r 7, .r 9] (some (.r 4, true)) <|
 .q 11 .pick [.r 4, .r 10, .c (.bool false)] none <|
 .out [(3, .s 3), (10, .s 10), (26, .r 11)]
def e33r5 : EE := .out [(4, .c (.bool true))]
def e33l6 : EC := (.seq (.reg e33r2 [3, 10] 0) (.seq (.cond (.s 12) .skip (.exit 0)) (.block 1 (.seq (.reg e33r3 [3, 10] 0) (.seq (.reg e33r4 [3, 5, 10] 0) (.cond (.s 26) (.seq (.reg e33r5 [] 0) .ret) .skip))))))
def e33r7 : EE := .out [(4, .c (.bool false))]
def e33 : EFn := ⟨(.seq (.reg e33r0 [0, 1] 0) (.seq (.seq (.reg e33r1 [0, 3] 0) (.block 0 (.loop [3, 10] e33l6))) (.seq (.reg e33r7 [] 0) .ret))), [.slot 4], 27, 1⟩
theorem g33 : Good Try.prog 33 e33 := ⟨Try.f33, Try.func33, by kernel_rfl, by kernel_rfl, by kernel_rfl, by kernel_rfl⟩
/-! (*concord/inst.Set).Add -/
def e34r0 : EE := .x 0 (.box 23) [.s 1] none [] <|
 .out [(0, .s 0), (3, .r 0)]
def e34r1 : EE := .q 1 .nl [.s 0] none <|
 .q 2 (.fld 0) [.r 1] none <|
 .q 3 .ld [.r 2] none <|
 .q 4 .lenm [.r 3] none <|
 .out [(0, .s 0), (3, .s 3), (5, .r 4)]
def e34r2 : EE := .q 1 .nl [.s 0] none <|
 .q 2 (.fld 0) [.r 1] none <|
 .q 3 .ld [.r 2] none <|
 .q 4 (.lda 2) [.s 3] none <|
 .q 5 (.bld [] []) [] none <|
 .x 6 (.mup true [(.i .i64), (.i .i64)]) [.r 3, .r 4, .r 5] none [] <|
 .out [(0, .s 0), (5, .s 5)]
def e34r3 : EE := .q 1 .nl [.s 0] none <|
 .q 2 (.fld 0) [.r 1] none <|
 .q 3 .ld [.r 2] none <|
 .q 4 .lenm [.r 3] none <|
 .q 6 .gtr [.r 4, .s 5] none <|
 .out [(4, .r 6)]
def e34 : EFn := ⟨(.seq (.reg e34r0 [0, 1] 0) (.seq (.reg e34r1 [0, 3] 0) (.seq (.reg e34r2 [0, 3, 5] 0) (.seq (.reg e34r3 [0, 5] 0) .ret)))), [.slot 4], 24, 0⟩
theorem g34 : Good Try.prog 34 e34 := ⟨Try.f34, Try.func34, by kernel_rfl, by kernel_rfl, by kernel_rfl, by kernel_rfl⟩
/-! (*concord/exec.plan).hangs -/
def e35r0 : EE := .x 0 (.box 23) [.s 1] none [] <|
 .x 2 (.alc [z, z] 23) [] none [] <|
 .out [(0, .s 0), (3, .r 0), (5, .r 2)]
def e35r1 : EE := .q 0 (.lda 2) [.s 3] none <|
 .x 1 (.bsl 23 1 [z, z] [(0, 2)]) [.r 0] none [] <|
 .x 2 (.call 32) [.r 1] none [] <|
 .out [(0, .s 0), (3, .s 3), (5, .s 5), (6, .r 2)]
def e35r2 : EE := .q 0 (.lda 2) [.s 3] none <|
 .x 1 (.bsl 23 1 [z, z] [(0, 2)]) [.r 0] none [] <|
 .out [(0, .s 0), (5, .s 5), (6, .s 6), (7, .r 1)]
def e35r3 : EE := .out [(0, .s 0), (5, .s 5), (6, .s 6), (7, .s 7), (8, .c z)]
def e35r4 : EE := .q 2 .len [.s 7] none <|
 .q 3 .lss [.s 8, .r 2] none <|
 .out [(0, .s 0), (5, .s 5), (6, .s 6), (7, .s 7), (8, .s 8), (25, .r 3)]
def e35r5 : EE := .q 1 .eql [.s 8, .c (.int .i64 512)] none <|
 .out [(0, .s 0), (5, .s 5), (6, .s 6), (7, .s 7), (8, .s 8), (29, .r 1)]
def e35r6 : EE := .q 0 (.bld [z, z] []) [] none <|
 .x 2 (.st 2) [.s 5, .r 0] none [] <|
 .out [(4, .c .nsl), (5, .s 5)]
def e35r7 : EE := .q 2 (.ixs 2) [.s 7, .s 8] none <|
 .q 3 (.lda 2) [.r 2] none <|
 .x 4 (.alc [z, z] 23) [] none [] <|
 .x 5 (.st 2) [.r 4, .r 3] none [] <|
 .out [(0, .s 0), (5, .s 5), (6, .s 6), (7, .s 7), (8, .s 8), (9, .r 4)]
def e35r8 : EE := .q 1 .nl [.s 0] none <|
 .q 2 (.fld 7) [.r 1] none <|
 .q 3 .ld [.r 2] none <|
 .q 4 (.lda 2) [.s 9] none <|
 .q 5 (.lkp true [(.i .i64), (.i .i64)] (.agg [z, z, z, z, z, z, z, z, zs, zs, zs, zs, z, z, z, z, z, z, z, z, (.bool false)]) false) [.r 3, .r 4] none <|
 .x 6 (.alc [z, z, z, z, z, z, z, z, zs, zs, zs, zs, z, z, z, z, z, z, z, z, (.bool false)] 38) [] none [⟨3, .ld, [.r 2], none⟩, ⟨4, (.lda 2), [.s 9], none⟩, ⟨5, (.lkp true [(.i .i64), (.i .i64)] (.agg [z, z, z, z, z, z, z, z, zs, zs, zs, zs, z, z, z, z, z, z, z, z, (.bool false)]) false), [.r 3, .r 4], none⟩] <|
 .x 7 (.st 21) [.r 6, .r 5] none [] <|
 .out [(0, .s 0), (5, .s 5), (6, .s 6), (7, .s 7), (8, .s 8), (9, .s 9), (10, .r 6)]
def e35r9 : EE := .out [(0, .s 0), (5, .s 5), (6, .s 6), (7, .s 7), (8, .s 8), (9, .s 9), (10, .s 10), (41, .c z)]
def e35r10 : EE := .q 0 .lss [.s 41, .c (.int .i64 7)] none <|
 .out [(0, .s 0), (5, .s 5), (6, .s 6), (7, .s 7), (8, .s 8), (9, .s 9), (10, .s 10), (41, .s 41), (42, .r 0)]
def e35r11 : EE := .out [(0, .s 0), (5, .s 5), (6, .s 6), (7, .s 7), (8, .s 8), (9, .s 9), (10, .s 10), (11, .s 41), (41, .s 41)]
def e35r12 : EE := .q 0 (.lda 2) [.s 9] none <|
 .q 1 (.lda 21) [.s 10] none <|
 .x 3 (.call 43) [.r 0, .r 1, .s 11] none [] <|
 .out [(0, .s 0), (5, .s 5), (6, .s 6), (7, .s 7), (8, .s 8), (9, .s 9), (10, .s 10), (11, .s 11), (12, .r 3), (41, .s 41)]
def e35r13 : EE := .q 2 .nl [.s 0] none <|
 .q 3 (.fld 0) [.r 2] none <|
 .q 4 (.ixa 7 1) [.r 3, .s 11] none <|
 .q 5 .ld [.r 4] none <|
 .q 6 .add [.r 5, .c (.int .i64 1)] none <|
 .out [(0, .s 0), (5, .s 5), (6, .s 6), (7, .s 7), (8, .s 8), (9, .s 9), (10, .s 10), (11, .s 11), (12, .s 12), (13, .r 6), (41, .s 41)]
def e35r14 : EE := .q 2 .leq [.s 13, .s 12] none <|
 .out [(0, .s 0), (5, .s 5), (6, .s 6), (7, .s 7), (8, .s 8), (9, .s 9), (10, .s 10), (11, .s 11), (12, .s 12), (13, .s 13), (41, .s 41), (57, .r 2)]
def e35r15 : EE := .q 2 (.bld [z, z] [(0, 1), (1, 1)]) [.s 11, .s 13] none <|
 .x 3 (.alc [z, z] 23) [] none [] <|
 .x 4 (.st 2) [.r 3, .r 2] none [] <|
 .out [(0, .s 0), (5, .s 5), (6, .s 6), (7, .s 7), (8, .s 8), (9, .s 9), (10, .s 10), (11, .s 11), (12, .s 12), (13, .s 13), (14, .r 3), (41, .s 41)]
def e35r16 : EE := .q 1 .nl [.s 0] none <|
 .q 2 (.fld 7) [.r 1] none <|
 .q 3 .ld [.r 2] none <|
 .q 4 (.lda 2) [.s 14] none <|
 .q 5 (.lkp true [(.i .i64), (.i .i64)] (.agg [z, z, z, z, z, z, z, z, zs, zs, zs, zs, z, z, z, z, z, z, z, z, (.bool false)]) true) [.r 3, .r 4] none <|
 .q 7 (.ext 0) [.r 5] none <|
 .q 8 (.ext 1) [.r 5] none <|
 .x 9 (.alc [z, z, z, z, z, z, z, z, zs, zs, zs, zs, z, z, z, z, z, z, z, z, (.bool false)] 38) [] none [⟨3, .ld, [.r 2], none⟩, ⟨4, (.lda 2), [.s 14], none⟩, ⟨5, (.lkp true [(.i .i64), (.i .i64)] (.agg [z, z, z, z, z, z, z, z, zs, zs, zs, zs, z, z, z, z, z, z, z, z, (.bool false)]) true), [.r 3, .r 4], none⟩] <|
 .x 10 (.st 21) [.r 9, .r 7] none [] <|
 .out [(0, .s 0), (5, .s 5), (6, .s 6), (7, .s 7), (8, .s 8), (9, .s 9), (10, .s 10), (11, .s 11), (12, .s 12), (13, .s 13), (14, .s 14), (16, .r 8), (41, .s 41)]
def e35r17 : EE := .q 1 .not [.s 16] none <|
 .out [(0, .s 0), (5, .s 5), (6, .s 6), (7, .s 7), (8, .s 8), (9, .s 9), (10, .s 10), (11, .s 11), (12, .s 12), (13, .s 13), (14, .s 14), (41, .s 41), (73, .r 1)]
def e35r18 : EE := .q 0 (.lda 2) [.s 14] none <|
 .x 2 (.st 2) [.s 5, .r 0] none [] <|
 .out [(4, .c .nsl), (5, .s 5)]
def e35r19 : EE := .q 1 (.lda 2) [.s 14] none <|
 .x 2 (.call 34) [.s 6, .r 1] none [] <|
 .out [(0, .s 0), (5, .s 5), (6, .s 6), (7, .s 7), (8, .s 8), (9, .s 9), (10, .s 10), (11, .s 11), (12, .s 12), (13, .s 13), (14, .s 14), (41, .s 41), (77, .r 2)]
def e35r20 : EE := .q 1 (.lda 2) [.s 14] none <|
 .x 2 (.bsl 23 1 [z, z] [(0, 2)]) [.r 1] none [] <|
 .x 3 (.app 23 2 16 [z, z]) [.s 7, .r 2] none [] <|
 .out [(0, .s 0), (5, .s 5), (6, .s 6), (7, .r 3), (8, .s 8), (9, .s 9), (10, .s 10), (11, .s 11), (12, .s 12), (13, .s 13), (41, .s 41)]
def e35r21 : EE := .q 1 .add [.s 13, .c (.int .i64 1)] none <|
 .out [(0, .s 0), (5, .s 5), (6, .s 6), (7, .s 7), (8, .s 8), (9, .s 9), (10, .s 10), (11, .s 11), (12, .s 12), (13, .r 1), (41, .s 41)]
def e35l22 : EC := (.seq (.seq (.reg e35r14 [0, 5, 6, 7, 8, 9, 10, 11, 12, 13, 41] 0) (.cond (.s 57) .skip (.exit 4))) (.seq (.block 5 (.seq (.reg e35r15 [0, 5, 6, 7, 8, 9, 10, 11, 12, 13, 41] 0) (.seq (.seq (.reg e35r16 [0, 5, 6, 7, 8, 9, 10, 11, 12, 13, 14, 41] 0) (.seq (.reg e35r17 [0, 5, 6, 7, 8, 9, 10, 11, 12, 13, 14, 16, 41] 0) (.cond (.s 73) (.seq (.reg e35r18 [5, 14] 0) .ret) .skip))) (.seq (.reg e35r19 [0, 5, 6, 7, 8, 9, 10, 11, 12, 13, 14, 41] 0) (.cond (.s 77) (.reg e35r20 [0, 5, 6, 7, 8, 9, 10, 11, 12, 13, 14, 41] 0) .skip))))) (.reg e35r21 [0, 5, 6, 7, 8, 9, 10, 11, 12, 13, 41] 0)))
def e35r23 : EE := .q 0 .add [.s 41, .c (.int .i64 1)] none <|
 .out [(0, .s 0), (5, .s 5), (6, .s 6), (7, .s 7), (8, .s 8), (9, .s 9), (10, .s 10), (41, .r 0)]
def e35l24 : EC := (.seq (.reg e35r10 [0, 5, 6, 7, 8, 9, 10, 41] 0) (.seq (.cond (.s 42) .skip (.exit 2)) (.seq (.block 3 (.seq (.reg e35r11 [0, 5, 6, 7, 8, 9, 10, 41] 0) (.seq (.reg e35r12 [0, 5, 6, 7, 8, 9, 10, 11, 41] 0) (.seq (.reg e35r13 [0, 5, 6, 7, 8, 9, 10, 11, 12, 41] 0) (.block 4 (.loop [0, 5, 6, 7, 8, 9, 10, 11, 12, 13, 41] e35l22)))))) (.reg e35r23 [0, 5, 6, 7, 8, 9, 10, 41] 0))))
def e35r25 : EE := .q 1 .add [.s 8, .c (.int .i64 1)] none <|
 .out [(0, .s 0), (5, .s 5), (6, .s 6), (7, .s 7), (8, .r 1)]
def e35l26 : EC := (.seq (.seq (.reg e35r4 [0, 5, 6, 7, 8] 0) (.cond (.s 25) .skip (.exit 0))) (.seq (.block 1 (.seq (.seq (.reg e35r5 [0, 5, 6, 7, 8] 0) (.cond (.s 29) (.seq (.reg e35r6 [5] 0) .ret) .skip)) (.seq (.reg e35r7 [0, 5, 6, 7, 8] 0) (.seq (.reg e35r8 [0, 5, 6, 7, 8, 9] 0) (.seq (.reg e35r9 [0, 5, 6, 7, 8, 9, 10] 0) (.block 2 (.loop [0, 5, 6, 7, 8, 9, 10, 41] e35l24))))))) (.reg e35r25 [0, 5, 6, 7, 8] 0)))
def e35r27 : EE := .q 1 (.bld [z, z] []) [] none <|
 .x 3 (.st 2) [.s 5, .r 1] none [] <|
 .out [(4, .s 7), (5, .s 5)]
def e35 : EFn := ⟨(.seq (.reg e35r0 [0, 1] 0) (.seq (.reg e35r1 [0, 3, 5] 0) (.seq (.reg e35r2 [0, 3, 5, 6] 0) (.seq (.seq (.reg e35r3 [0, 5, 6, 7] 0) (.block 0 (.loop [0, 5, 6, 7, 8] e35l26))) (.seq (.reg e35r27 [5, 7] 0) .ret))))), [.slot 4, .cells 5 2], 85, 0⟩
theorem g35 : Good Try.prog 35 e35 := ⟨Try.f35, Try.func35, by kernel_rfl, by kernel_rfl, by kernel_rfl, by kernel_rfl⟩
/-! (*concord/exec.plan).do -/
def e36r0 : EE := .x 0 (.box 62) [.s 0] none [] <|
 .x 1 (.box 26) [.s 1] none [] <|
 .out [(2, .r 0), (3, .r 1)]
def e36r1 : EE := .q 0 .ld [.s 3] none <|
 .x 1 (.call 37) [.r 0, .f 44] none [] <|
 .out [(2, .s 2), (3, .s 3)]
def e36r2 : EE := .q 0 .ld [.s 2] none <|
 .q 1 .ld [.s 3] none <|
 .x 2 (.call 46) [.r 0, .r 1] none [] <|
 .x 3 (.call 45) [.r 2] none [] <|
 .q 5 (.ext 0) [.r 3] none <|
 .q 6 (.ext 1) [.r 3] none <|
 .out [(2, .s 2), (3, .s 3), (4, .r 5)]
def e36r3 : EE := .q 1 .len [.s 4] none <|
 .out [(2, .s 2), (3, .s 3), (20, .s 4), (21, .r 1), (22, .c z)]
def e36r4 : EE := .q 0 .lss [.s 22, .s 21] none <|
 .out [(2, .s 2), (3, .s 3), (20, .s 20), (21, .s 21), (22, .s 22), (23, .r 0)]
def e36r5 : EE := .q 0 (.ixs 1) [.s 20, .s 22] none <|
 .q 1 .ld [.r 0] none <|
 .out [(2, .s 2), (3, .s 3), (7, .r 1), (20, .s 20), (21, .s 21), (22, .s 22)]
def e36r6 : EE := .q 1 (.mkf 48 0) [.s 2, .s 3] none <|
 .x 2 (.call 47) [.s 7, .r 1] none [] <|
 .out [(2, .s 2), (3, .s 3), (7, .s 7), (20, .s 20), (21, .s 21), (22, .s 22)]
def e36r7 : EE := .q 1 .len [.s 7] none <|
 .out [(2, .s 2), (3, .s 3), (20, .s 20), (21, .s 21), (22, .s 22), (29, .s 7), (30, .r 1), (31, .c z)]
def e36r8 : EE := .q 0 .lss [.s 31, .s 30] none <|
 .out [(2, .s 2), (3, .s 3), (20, .s 20), (21, .s 21), (22, .s 22), (29, .s 29), (30, .s 30), (31, .s 31), (32, .r 0)]
def e36r9 : EE := .q 0 (.ixs 1) [.s 29, .s 31] none <|
 .q 1 .ld [.r 0] none <|
 .out [(2, .s 2), (3, .s 3), (9, .r 1), (20, .s 20), (21, .s 21), (22, .s 22), (29, .s 29), (30, .s 30), (31, .s 31)]
def e36r10 : EE := .q 0 .ld [.s 3] none <|
 .q 2 (.ixs 2) [.r 0, .s 9] none <|
 .q 3 (.lda 2) [.r 2] none <|
 .x 4 (.alc [z, z] 23) [] none [] <|
 .x 5 (.st 2) [.r 4, .r 3] none [] <|
 .out [(2, .s 2), (3, .s 3), (10, .r 4), (20, .s 20), (21, .s 21), (22, .s 22), (29, .s 29), (30, .s 30), (31, .s 31)]
def e36r11 : EE := .q 0 .ld [.s 2] none <|
 .q 1 .ld [.s 2] none <|
 .q 2 .nl [.r 1] none <|
 .q 3 (.fld 8) [.r 2] none <|
 .q 4 .ld [.r 3] none <|
 .q 5 (.lda 2) [.s 10] none <|
 .q 6 .ld [.s 2] none <|
 .q 7 .nl [.r 6] none <|
 .q 8 (.fld 7) [.r 7] none <|
 .q 9 .ld [.r 8] none <|
 .q 10 (.lda 2) [.s 10] none <|
 .q 11 (.lkp true [(.i .i64), (.i .i64)] (.agg [z, z, z, z, z, z, z, z, zs, zs, zs, zs, z, z, z, z, z, z, z, z, (.bool false)]) false) [.r 9, .r 10] none <|
 .q 12 (.bld [z, z, z, z, z, z, z, z, z, z, zs, zs, zs, zs, z, z, z, z, z, z, z, z, (.bool false)] [(0, 2), (2, 21)]) [.r 5, .r 11] none <|
 .x 13 (.bsl 40 1 [z, z, z, z, z, z, z, z, z, z, zs, zs, zs, zs, z, z, z, z, z, z, z, z, (.bool false)] [(0, 23)]) [.r 12] none [⟨0, .ld, [.s 2], none⟩, ⟨1, .ld, [.s 2], none⟩, ⟨4, .ld, [.r 3], none⟩] <|
 .x 14 (.app 40 23 216 [z, z, z, z, z, z, z, z, z, z, zs, zs, zs, zs, z, z, z, z, z, z, z, z, (.bool false)]) [.r 4, .r 13] none [⟨0, .ld, [.s 2], none⟩] <|
 .q 15 .nl [.r 0] none <|
 .q 16 (.fld 8) [.r 15] none <|
 .x 17 (.st 1) [.r 16, .r 14] none [] <|
 .out [(2, .s 2), (3, .s 3), (10, .s 10), (20, .s 20), (21, .s 21), (22, .s 22), (29, .s 29), (30, .s 30), (31, .s 31)]
def e36r12 : EE := .q 0 .ld [.s 2] none <|
 .q 1 (.fld 0) [.s 10] none <|
 .q 2 .ld [.r 1] none <|
 .q 3 .ld [.s 2] none <|
 .q 4 (.fld 0) [.s 10] none <|
 .q 5 .ld [.r 4] none <|
 .q 6 .nl [.r 3] none <|
 .q 7 (.fld 0) [.r 6] none <|
 .q 8 (.ixa 7 1) [.r 7, .r 5] none <|
 .q 9 .ld [.r 8] none <|
 .q 10 (.fld 1) [.s 10] none <|
 .q 11 .ld [.r 10] none <|
 .q 12 .mx [.r 9, .r 11] none <|
 .q 13 .nl [.r 0] none <|
 .q 14 (.fld 0) [.r 13] none <|
 .q 15 (.ixa 7 1) [.r 14, .r 2] none <|
 .x 16 (.st 1) [.r 15, .r 12] none [] <|
 .out [(2, .s 2), (3, .s 3), (20, .s 20), (21, .s 21), (22, .s 22), (29, .s 29), (30, .s 30), (31, .s 31)]
def e36r13 : EE := .q 0 .add [.s 31, .c (.int .i64 1)] none <|
 .out [(2, .s 2), (3, .s 3), (20, .s 20), (21, .s 21), (22, .s 22), (29, .s 29), (30, .s 30), (31, .r 0)]
def e36l14 : EC := (.seq (.reg e36r8 [2, 3, 20, 21, 22, 29, 30, 31] 0) (.seq (.cond (.s 32) .skip (.exit 2)) (.seq (.block 3 (.seq (.reg e36r9 [2, 3, 20, 21, 22, 29, 30, 31] 0) (.seq (.reg e36r10 [2, 3, 9, 20, 21, 22, 29, 30, 31] 0) (.seq (.reg e36r11 [2, 3, 10, 20, 21, 22, 29, 30, 31] 0) (.reg e36r12 [2, 3, 10, 20, 21, 22, 29, 30, 31] 0))))) (.reg e36r13 [2, 3, 20, 21, 22, 29, 30, 31] 0))))
def e36r15 : EE := .q 0 .add [.s 22, .c (.int .i64 1)] none <|
 .out [(2, .s 2), (3, .s 3), (20, .s 20), (21, .s 21), (22, .r 0)]
def e36l16 : EC := (.seq (.reg e36r4 [2, 3, 20, 21, 22] 0) (.seq (.cond (.s 23) .skip (.exit 0)) (.seq (.block 1 (.seq (.reg e36r5 [2, 3, 20, 21, 22] 0) (.seq (.reg e36r6 [2, 3, 7, 20, 21, 22] 0) (.seq (.reg e36r7 [2, 3, 7, 20, 21, 22] 0) (.block 2 (.loop [2, 3, 20, 21, 22, 29, 30, 31] e36l14)))))) (.reg e36r15 [2, 3, 20, 21, 22] 0))))
def e36 : EFn := ⟨(.seq (.reg e36r0 [0, 1] 0) (.seq (.reg e36r1 [2, 3] 0) (.seq (.reg e36r2 [2, 3] 0) (.seq (.reg e36r3 [2, 3, 4] 0) (.block 0 (.loop [2, 3, 20, 21, 22] e36l16)))))), [], 74, 0⟩
theorem g36 : Good Try.prog 36 e36 := ⟨Try.f36, Try.func36, by kernel_rfl, by kernel_rfl, by kernel_rfl, by kernel_rfl⟩
/-! slices.SortFunc[[]concord/api.Inst,concord/api.Inst] -/
def e37r0 : EE := .q 1 .len [.s 0] none <|
 .out [(0, .s 0), (1, .s 1), (4, .r 1)]
def e37r1 : EE := .q 3 (.conv .u64) [.s 4] none <|
 .x 4 (.call 51) [.r 3] none [] <|
 .x 6 (.call 50) [.s 0, .c z, .s 4, .r 4, .s 1] none [] <|
 .out []
def e37 : EFn := ⟨(.seq (.reg e37r0 [0, 1] 0) (.reg e37r1 [0, 1, 4] 0)), [], 14, 0⟩
theorem g37 : Good Try.prog 37 e37 := ⟨Try.f37, Try.func37, by kernel_rfl, by kernel_rfl, by kernel_rfl, by kernel_rfl⟩
/-! (*concord/inst.Set).List$1 -/
def e38r0 : EE := .x 0 (.box 23) [.s 0] none [] <|
 .x 1 (.box 23) [.s 1] none [] <|
 .out [(2, .r 0), (3, .r 1)]
def e38r1 : EE := .q 0 (.lda 2) [.s 2] none <|
 .q 1 (.lda 2) [.s 3] none <|
 .x 2 (.call 39) [.r 0, .r 1] none [] <|
 .out [(7, .r 2)]
def e38r2 : EE := .out [(4, .c (.int .i64 (-1)))]
def e38r3 : EE := .out [(4, .c (.int .i64 1))]
def e38 : EFn := ⟨(.seq (.reg e38r0 [0, 1] 0) (.seq (.seq (.reg e38r1 [2, 3] 0) (.cond (.s 7) (.seq (.reg e38r2 [] 0) .ret) .skip)) (.seq (.reg e38r3 [] 0) .ret))), [.slot 4], 8, 0⟩
theorem g38 : Good Try.prog 38 e38 := ⟨Try.f38, Try.func38, by kernel_rfl, by kernel_rfl, by kernel_rfl, by kernel_rfl⟩
/-! concord/inst.Less -/
def e39r0 : EE := .x 0 (.box 23) [.s 0] none [] <|
 .x 1 (.box 23) [.s 1] none [] <|
 .out [(2, .r 0), (3, .r 1)]
def e39r1 : EE := .q 0 (.fld 0) [.s 2] none <|
 .q 1 .ld [.r 0] none <|
 .q 2 (.fld 0) [.s 3] none <|
 .q 3 .ld [.r 2] none <|
 .q 4 .lss [.r 1, .r 3] none <|
 .q 6 (.fld 0) [.s 2] (some (.r 4, false)) <|
 .q 7 .ld [.r 6] (some (.r 4, false)) <|
 .q 8 (.fld 0) [.s 3] (some (.r 4, false)) <|
 .q 9 .ld [.r 8] (some (.r 4, false)) <|
 .q 10 .eql [.r 7, .r 9] (some (.r 4, false)) <|
 .q 11 .mv [.r 10] (some (.r 4, false)) <|
 .q 12 (.fld 1) [.s 2] (some (.r 11, true)) <|
 .q 13 .ld [.r 12] (some (.r 11, true)) <|
 .q 14 (.fld 1) [.s 3] (some (.r 11, true)) <|
 .q 15 .ld [.r 14] (some (.r 11, true)) <|
 .q 16 .lss [.r 13, .r 15] (some (.r 11, true)) <|
 .q 17 .pick [.r 11, .r 16, .c (.bool false)] (some (.r 4, false)) <|
 .q 18 .pick [.r 4, .c (.bool true), .r 17] none <|
 .out [(4, .r 18)]
def e39 : EFn := ⟨(.seq (.reg e39r0 [0, 1] 0) (.seq (.reg e39r1 [2, 3] 0) .ret)), [.slot 4], 24, 0⟩
theorem g39 : Good Try.prog 39 e39 := ⟨Try.f39, Try.func39, by kernel_rfl, by kernel_rfl, by kernel_rfl, by kernel_rfl⟩
/-! concord/exec.upto -/
def e43r0 : EE := .x 0 (.box 23) [.s 0] none [] <|
 .x 1 (.box 38) [.s 1] none [] <|
 .out [(2, .s 2), (3, .r 0), (4, .r 1)]
def e43r1 : EE := .q 1 (.fld 0) [.s 3] none <|
 .q 2 .ld [.r 1] none <|
 .q 3 .eql [.s 2, .r 2] none <|
 .out [(2, .s 2), (3, .s 3), (4, .s 4), (10, .r 3)]
def e43r2 : EE := .q 1 (.fld 12) [.s 4] none <|
 .q 2 (.fld 1) [.r 1] none <|
 .q 3 (.ixa 7 1) [.r 2, .s 2] none <|
 .q 4 .ld [.r 3] none <|
 .q 5 (.fld 1) [.s 3] none <|
 .q 6 .ld [.r 5] none <|
 .q 7 .sub [.r 6, .c (.int .i64 1)] none <|
 .q 8 .mx [.r 4, .r 7] none <|
 .out [(6, .r 8)]
def e43r3 : EE := .q 1 (.fld 12) [.s 4] none <|
 .q 2 (.fld 1) [.r 1] none <|
 .q 3 (.ixa 7 1) [.r 2, .s 2] none <|
 .q 4 .ld [.r 3] none <|
 .out [(6, .r 4)]
def e43 : EFn := ⟨(.seq (.reg e43r0 [0, 1, 2] 0) (.seq (.seq (.reg e43r1 [2, 3, 4] 0) (.cond (.s 10) (.seq (.reg e43r2 [2, 3, 4] 0) .ret) .skip)) (.seq (.reg e43r3 [2, 4] 0) .ret))), [.slot 6], 25, 0⟩
theorem g43 : Good Try.prog 43 e43 := ⟨Try.f43, Try.func43, by kernel_rfl, by kernel_rfl, by kernel_rfl, by kernel_rfl⟩
/-! (*concord/exec.plan).do$1 -/
def e44r0 : EE := .x 0 (.box 23) [.s 0] none [] <|
 .x 1 (.box 23) [.s 1] none [] <|
 .out [(2, .r 0), (3, .r 1)]
def e44r1 : EE := .q 0 (.lda 2) [.s 2] none <|
 .q 1 (.lda 2) [.s 3] none <|
 .x 2 (.call 39) [.r 0, .r 1] none [] <|
 .out [(7, .r 2)]
def e44r2 : EE := .out [(4, .c (.int .i64 (-1)))]
def e44r3 : EE := .out [(4, .c (.int .i64 1))]
def e44 : EFn := ⟨(.seq (.reg e44r0 [0, 1] 0) (.seq (.seq (.reg e44r1 [2, 3] 0) (.cond (.s 7) (.seq (.reg e44r2 [] 0) .ret) .skip)) (.seq (.reg e44r3 [] 0) .ret))), [.slot 4], 8, 0⟩
theorem g44 : Good Try.prog 44 e44 := ⟨Try.f44, Try.func44, by kernel_rfl, by kernel_rfl, by kernel_rfl, by kernel_rfl⟩
/-! concord/graph.Parts -/
def e45r0 : EE := .out [(0, .s 0)]
def e45r1 : EE := .q 1 .len [.s 0] none <|
 .out [(0, .s 0), (4, .r 1)]
def e45r2 : EE := .q 1 .gtr [.s 4, .c (.int .i64 512)] none <|
 .out [(0, .s 0), (4, .s 4), (13, .r 1)]
def e45r3 : EE := .out [(2, .c .nsl), (3, .c (.int .i64 2))]
def e45r4 : EE := .both false
 (.x 2 (.mks 3 8 [z]) [.s 4, .s 4] none [] <|
 .both false
 (.x 4 (.mks 3 8 [z]) [.s 4, .s 4] none [] <|
 .both false
 (.x 6 (.mks 4 1 [(.bool false)]) [.s 4, .s 4] none [] <|
 .x 8 (.mks 3 8 [z]) [.s 4, .s 4] none [] <|
 .q 9 (.bld [.nsl, .nsl, .nsl, .nsl, .nsl, .nsl, z, z] [(0, 1), (1, 1), (2, 1), (3, 1), (5, 1)]) [.s 0, .r 2, .r 4, .r 6, .r 8] none <|
 .x 10 (.box 107) [.r 9] none [] <|
 .out [(0, .s 0), (4, .s 4), (5, .r 10)])
 (.x 8 (.mks 3 8 [z]) [.s 4, .s 4] none [] <|
 .x 6 (.mks 4 1 [(.bool false)]) [.s 4, .s 4] none [] <|
 .q 9 (.bld [.nsl, .nsl, .nsl, .nsl, .nsl, .nsl, z, z] [(0, 1), (1, 1), (2, 1), (3, 1), (5, 1)]) [.s 0, .r 2, .r 4, .r 6, .r 8] none <|
 .x 10 (.box 107) [.r 9] none [] <|
 .out [(0, .s 0), (4, .s 4), (5, .r 10)]))
 (.both false
 (.x 6 (.mks 4 1 [(.bool false)]) [.s 4, .s 4] none [] <|
 .both false
 (.x 4 (.mks 3 8 [z]) [.s 4, .s 4] none [] <|
 .x 8 (.mks 3 8 [z]) [.s 4, .s 4] none [] <|
 .q 9 (.bld [.nsl, .nsl, .nsl, .nsl, .nsl, .nsl, z, z] [(0, 1), (1, 1), (2, 1), (3, 1), (5, 1)]) [.s 0, .r 2, .r 4, .r 6, .r 8] none <|
 .x 10 (.box 107) [.r 9] none [] <|
 .out [(0, .s 0), (4, .s 4), (5, .r 10)])
 (.x 8 (.mks 3 8 [z]) [.s 4, .s 4] none [] <|
 .x 4 (.mks 3 8 [z]) [.s 4, .s 4] none [] <|
 .q 9 (.bld [.nsl, .nsl, .nsl, .nsl, .nsl, .nsl, z, z] [(0, 1), (1, 1), (2, 1), (3, 1), (5, 1)]) [.s 0, .r 2, .r 4, .r 6, .r 8] none <|
 .x 10 (.box 107) [.r 9] none [] <|
 .out [(0, .s 0), (4, .s 4), (5, .r 10)]))
 (.x 8 (.mks 3 8 [z]) [.s 4, .s 4] none [] <|
 .both false
 (.x 4 (.mks 3 8 [z]) [.s 4, .s 4] none [] <|
 .x 6 (.mks 4 1 [(.bool false)]) [.s 4, .s 4] none [] <|
 .q 9 (.bld [.nsl, .nsl, .nsl, .nsl, .nsl, .nsl, z, z] [(0, 1), (1, 1), (2, 1), (3, 1), (5, 1)]) [.s 0, .r 2, .r 4, .r 6, .r 8] none <|
 .x 10 (.box 107) [.r 9] none [] <|
 .out [(0, .s 0), (4, .s 4), (5, .r 10)])
 (.x 6 (.mks 4 1 [(.bool false)]) [.s 4, .s 4] none [] <|
 .x 4 (.mks 3 8 [z]) [.s 4, .s 4] none [] <|
 .q 9 (.bld [.nsl, .nsl, .nsl, .nsl, .nsl, .nsl, z, z] [(0, 1), (1, 1), (2, 1), (3, 1), (5, 1)]) [.s 0, .r 2, .r 4, .r 6, .r 8] none <|
 .x 10 (.box 107) [.r 9] none [] <|
 .out [(0, .s 0), (4, .s 4), (5, .r 10)]))))
 (.both false
 (.x 4 (.mks 3 8 [z]) [.s 4, .s 4] none [] <|
 .both false
 (.x 2 (.mks 3 8 [z]) [.s 4, .s 4] none [] <|
 .both false
 (.x 6 (.mks 4 1 [(.bool false)]) [.s 4, .s 4] none [] <|
 .x 8 (.mks 3 8 [z]) [.s 4, .s 4] none [] <|
 .q 9 (.bld [.nsl, .nsl, .nsl, .nsl, .nsl, .nsl, z, z] [(0, 1), (1, 1), (2, 1), (3, 1), (5, 1)]) [.s 0, .r 2, .r 4, .r 6, .r 8] none <|
 .x 10 (.box 107) [.r 9] none [] <|
 .out [(0, .s 0), (4, .s 4), (5, .r 10)])
 (.x 8 (.mks 3 8 [z]) [.s 4, .s 4] none [] <|
 .x 6 (.mks 4 1 [(.bool false)]) [.s 4, .s 4] none [] <|
 .q 9 (.bld [.nsl, .nsl, .nsl, .nsl, .nsl, .nsl, z, z] [(0, 1), (1, 1), (2, 1), (3, 1), (5, 1)]) [.s 0, .r 2, .r 4, .r 6, .r 8] none <|
 .x 10 (.box 107) [.r 9] none [] <|
 .out [(0, .s 0), (4, .s 4), (5, .r 10)]))
 (.both false
 (.x 6 (.mks 4 1 [(.bool false)]) [.s 4, .s 4] none [] <|
 .both false
 (.x 2 (.mks 3 8 [z]) [.s 4, .s 4] none [] <|
 .x 8 (.mks 3 8 [z]) [.s 4, .s 4] none [] <|
 .q 9 (.bld [.nsl, .nsl, .nsl, .nsl, .nsl, .nsl, z, z] [(0, 1), (1, 1), (2, 1), (3, 1), (5, 1)]) [.s 0, .r 2, .r 4, .r 6, .r 8] none <|
 .x 10 (.box 107) [.r 9] none [] <|
 .out [(0, .s 0), (4, .s 4), (5, .r 10)])
 (.x 8 (.mks 3 8 [z]) [.s 4, .s 4] none [] <|
 .x 2 (.mks 3 8 [z]) [.s 4, .s 4] none [] <|
 .q 9 (.bld [.nsl, .nsl, .nsl, .nsl, .nsl, .nsl, z, z] [(0, 1), (1, 1), (2, 1), (3, 1), (5, 1)]) [.s 0, .r 2, .r 4, .r 6, .r 8] none <|
 .x 10 (.box 107) [.r 9] none [] <|
 .out [(0, .s 0), (4, .s 4), (5, .r 10)]))
 (.x 8 (.mks 3 8 [z]) [.s 4, .s 4] none [] <|
 .both false
 (.x 2 (.mks 3 8 [z]) [.s 4, .s 4] none [] <|
 .x 6 (.mks 4 1 [(.bool false)]) [.s 4, .s 4] none [] <|
 .q 9 (.bld [.nsl, .nsl, .nsl, .nsl, .nsl, .nsl, z, z] [(0, 1), (1, 1), (2, 1), (3, 1), (5, 1)]) [.s 0, .r 2, .r 4, .r 6, .r 8] none <|
 .x 10 (.box 107) [.r 9] none [] <|
 .out [(0, .s 0), (4, .s 4), (5, .r 10)])
 (.x 6 (.mks 4 1 [(.bool false)]) [.s 4, .s 4] none [] <|
 .x 2 (.mks 3 8 [z]) [.s 4, .s 4] none [] <|
 .q 9 (.bld [.nsl, .nsl, .nsl, .nsl, .nsl, .nsl, z, z] [(0, 1), (1, 1), (2, 1), (3, 1), (5, 1)]) [.s 0, .r 2, .r 4, .r 6, .r 8] none <|
 .x 10 (.box 107) [.r 9] none [] <|
 .out [(0, .s 0), (4, .s 4), (5, .r 10)]))))
 (.both false
 (.x 6 (.mks 4 1 [(.bool false)]) [.s 4, .s 4] none [] <|
 .both false
 (.x 2 (.mks 3 8 [z]) [.s 4, .s 4] none [] <|
 .both false
 (.x 4 (.mks 3 8 [z]) [.s 4, .s 4] none [] <|
 .x 8 (.mks 3 8 [z]) [.s 4, .s 4] none [] <|
 .q 9 (.bld [.nsl, .nsl, .nsl, .nsl, .nsl, .nsl, z, z] [(0, 1), (1, 1), (2, 1), (3, 1), (5, 1)]) [.s 0, .r 2, .r 4, .r 6, .r 8] none <|
 .x 10 (.box 107) [.r 9] none [] <|
 .out [(0, .s 0), (4, .s 4), (5, .r 10)])
 (.x 8 (.mks 3 8 [z]) [.s 4, .s 4] none [] <|
 .x 4 (.mks 3 8 [z]) [.s 4, .s 4] none [] <|
 .q 9 (.bld [.nsl, .nsl, .nsl, .nsl, .nsl, .nsl, z, z] [(0, 1), (1, 1), (2, 1), (3, 1), (5, 1)]) [.s 0, .r 2, .r 4, .r 6, .r 8] none <|
 .x 10 (.box 107) [.r 9] none [] <|
 .out [(0, .s 0), (4, .s 4), (5, .r 10)]))
 (.both false
 (.x 4 (.mks 3 8 [z]) [.s 4, .s 4] none [] <|
 .both false
 (.x 2 (.mks 3 8 [z]) [.s 4, .s 4] none [] <|
 .x 8 (.mks 3 8 [z]) [.s 4, .s 4] none [] <|
 .q 9 (.bld [.nsl, .nsl, .nsl, .nsl, .nsl, .nsl, z, z] [(0, 1), (1, 1), (2, 1), (3, 1), (5, 1)]) [.s 0, .r 2, .r 4, .r 6, .r 8] none <|
 .x 10 (.box 107) [.r 9] none [] <|
 .out [(0, .s 0), (4, .s 4), (5, .r 10)])
 (.x 8 (.mks 3 8 [z]) [.s 4, .s 4] none [] <|
 .x 2 (.mks 3 8 [z]) [.s 4, .s 4] none [] <|
 .q 9 (.bld [.nsl, .nsl, .nsl, .nsl, .nsl, .nsl, z, z] [(0, 1), (1, 1), (2, 1), (3, 1), (5, 1)]) [.s 0, .r 2, .r 4, .r 6, .r 8] none <|
 .x 10 (.box 107) [.r 9] none [] <|
 .out [(0, .s 0), (4, .s 4), (5, .r 10)]))
 (.x 8 (.mks 3 8 [z]) [.s 4, .s 4] none [] <|
 .both false
 (.x 2 (.mks 3 8 [z]) [.s 4, .s 4] none [] <|
 .x 4 (.mks 3 8 [z]) [.s 4, .s 4] none [] <|
 .q 9 (.bld [.nsl, .nsl, .nsl, .nsl, .nsl, .nsl, z, z] [(0, 1), (1, 1), (2, 1), (3, 1), (5, 1)]) [.s 0, .r 2, .r 4, .r 6, .r 8] none <|
 .x 10 (.box 107) [.r 9] none [] <|
 .out [(0, .s 0), (4, .s 4), (5, .r 10)])
 (.x 4 (.mks 3 8 [z]) [.s 4, .s 4] none [] <|
 .x 2 (.mks 3 8 [z]) [.s 4, .s 4] none [] <|
 .q 9 (.bld [.nsl, .nsl, .nsl, .nsl, .nsl, .nsl, z, z] [(0, 1), (1, 1), (2, 1), (3, 1), (5, 1)]) [.s 0, .r 2, .r 4, .r 6, .r 8] none <|
 .x 10 (.box 107) [.r 9] none [] <|
 .out [(0, .s 0), (4, .s 4), (5, .r 10)]))))
 (.x 8 (.mks 3 8 [z]) [.s 4, .s 4] none [] <|
 .both false
 (.x 2 (.mks 3 8 [z]) [.s 4, .s 4] none [] <|
 .both false
 (.x 4 (.mks 3 8 [z]) [.s 4, .s 4] none [] <|
 .x 6 (.mks 4 1 [(.bool false)]) [.s 4, .s 4] none [] <|
 .q 9 (.bld [.nsl, .nsl, .nsl, .nsl, .nsl, .nsl, z, z] [(0, 1), (1, 1), (2, 1), (3, 1), (5, 1)]) [.s 0, .r 2, .r 4, .r 6, .r 8] none <|
 .x 10 (.box 107) [.r 9] none [] <|
 .out [(0, .s 0), (4, .s 4), (5, .r 10)])
 (.x 6 (.mks 4 1 [(.bool false)]) [.s 4, .s 4] none [] <|
 .x 4 (.mks 3 8 [z]) [.s 4, .s 4] none [] <|
 .q 9 (.bld [.nsl, .nsl, .nsl, .nsl, .nsl, .nsl, z, z] [(0, 1), (1, 1), (2, 1), (3, 1), (5, 1)]) [.s 0, .r 2, .r 4, .r 6, .r 8] none <|
 .x 10 (.box 107) [.r 9] none [] <|
 .out [(0, .s 0), (4, .s 4), (5, .r 10)]))
 (.both false
 (.x 4 (.mks 3 8 [z]) [.s 4, .s 4] none [] <|
 .both false
 (.x 2 (.mks 3 8 [z]) [.s 4, .s 4] none [] <|
 .x 6 (.mks 4 1 [(.bool false)]) [.s 4, .s 4] none [] <|
 .q 9 (.bld [.nsl, .nsl, .nsl, .nsl, .nsl, .nsl, z, z] [(0, 1), (1, 1), (2, 1), (3, 1), (5, 1)]) [.s 0, .r 2, .r 4, .r 6, .r 8] none <|
 .x 10 (.box 107) [.r 9] none [] <|
 .out [(0, .s 0), (4, .s 4), (5, .r 10)])
 (.x 6 (.mks 4 1 [(.bool false)]) [.s 4, .s 4] none [] <|
 .x 2 (.mks 3 8 [z]) [.s 4, .s 4] none [] <|
 .q 9 (.bld [.nsl, .nsl, .nsl, .nsl, .nsl, .nsl, z, z] [(0, 1), (1, 1), (2, 1), (3, 1), (5, 1)]) [.s 0, .r 2, .r 4, .r 6, .r 8] none <|
 .x 10 (.box 107) [.r 9] none [] <|
 .out [(0, .s 0), (4, .s 4), (5, .r 10)]))
 (.x 6 (.mks 4 1 [(.bool false)]) [.s 4, .s 4] none [] <|
 .both false
 (.x 2 (.mks 3 8 [z]) [.s 4, .s 4] none [] <|
 .x 4 (.mks 3 8 [z]) [.s 4, .s 4] none [] <|
 .q 9 (.bld [.nsl, .nsl, .nsl, .nsl, .nsl, .nsl, z, z] [(0, 1), (1, 1), (2, 1), (3, 1), (5, 1)]) [.s 0, .r 2, .r 4, .r 6, .r 8] none <|
 .x 10 (.box 107) [.r 9] none [] <|
 .out [(0, .s 0), (4, .s 4), (5, .r 10)])
 (.x 4 (.mks 3 8 [z]) [.s 4, .s 4] none [] <|
 .x 2 (.mks 3 8 [z]) [.s 4, .s 4] none [] <|
 .q 9 (.bld [.nsl, .nsl, .nsl, .nsl, .nsl, .nsl, z, z] [(0, 1), (1, 1), (2, 1), (3, 1), (5, 1)]) [.s 0, .r 2, .r 4, .r 6, .r 8] none <|
 .x 10 (.box 107) [.r 9] none [] <|
 .out [(0, .s 0), (4, .s 4), (5, .r 10)]))))))
def e45r5 : EE := .out [(0, .s 0), (5, .s 5), (25, .s 4), (26, .c z)]
def e45r6 : EE := .q 0 .lss [.s 26, .s 25] none <|
 .out [(0, .s 0), (5, .s 5), (25, .s 25), (26, .s 26), (27, .r 0)]
def e45r7 : EE := .out [(0, .s 0), (5, .s 5), (6, .s 26), (25, .s 25), (26, .s 26)]
def e45r8 : EE := .q 1 .nl [.s 5] none <|
 .q 2 (.fld 1) [.r 1] none <|
 .q 3 .ld [.r 2] none <|
 .q 5 (.ixs 1) [.r 3, .s 6] none <|
 .q 6 .ld [.r 5] none <|
 .q 7 .eql [.r 6, .c z] none <|
 .out [(0, .s 0), (5, .s 5), (6, .s 6), (25, .s 25), (26, .s 26), (36, .r 7)]
def e45r9 : EE := .x 2 (.call 53) [.s 5, .s 6] none [] <|
 .out [(0, .s 0), (5, .s 5), (25, .s 25), (26, .s 26)]
def e45r10 : EE := .q 0 .add [.s 26, .c (.int .i64 1)] none <|
 .out [(0, .s 0), (5, .s 5), (25, .s 25), (26, .r 0)]
def e45l11 : EC := (.seq (.reg e45r6 [0, 5, 25, 26] 0) (.seq (.cond (.s 27) .skip (.exit 0)) (.seq (.block 1 (.seq (.reg e45r7 [0, 5, 25, 26] 0) (.seq (.reg e45r8 [0, 5, 6, 25, 26] 0) (.cond (.s 36) (.reg e45r9 [0, 5, 6, 25, 26] 0) .skip)))) (.reg e45r10 [0, 5, 25, 26] 0))))
def e45r12 : EE := .q 1 .nl [.s 5] none <|
 .q 2 (.fld 6) [.r 1] none <|
 .q 3 .ld [.r 2] none <|
 .x 4 (.mks 55 24 [.nsl]) [.r 3, .r 3] none [] <|
 .out [(0, .s 0), (5, .s 5), (7, .r 4)]
def e45r13 : EE := .q 1 .nl [.s 5] none <|
 .q 2 (.fld 5) [.r 1] none <|
 .q 3 .ld [.r 2] none <|
 .q 4 .len [.r 3] none <|
 .out [(0, .s 0), (5, .s 5), (7, .s 7), (49, .r 3), (50, .r 4), (51, .c z)]
def e45r14 : EE := .q 0 .lss [.s 51, .s 50] none <|
 .out [(0, .s 0), (5, .s 5), (7, .s 7), (49, .s 49), (50, .s 50), (51, .s 51), (52, .r 0)]
def e45r15 : EE := .q 1 (.ixs 1) [.s 49, .s 51] none <|
 .q 2 .ld [.r 1] none <|
 .out [(0, .s 0), (5, .s 5), (7, .s 7), (8, .s 51), (9, .r 2), (49, .s 49), (50, .s 50), (51, .s 51)]
def e45r16 : EE := .q 4 (.ixs 1) [.s 7, .s 9] none <|
 .q 5 .ld [.r 4] none <|
 .x 7 (.bsl 3 1 [z] [(0, 1)]) [.s 8] none [] <|
 .x 8 (.app 3 1 8 [z]) [.r 5, .r 7] none [] <|
 .q 9 (.ixs 1) [.s 7, .s 9] none <|
 .x 10 (.st 1) [.r 9, .r 8] none [] <|
 .out [(0, .s 0), (5, .s 5), (7, .s 7), (49, .s 49), (50, .s 50), (51, .s 51)]
def e45r17 : EE := .q 0 .add [.s 51, .c (.int .i64 1)] none <|
 .out [(0, .s 0), (5, .s 5), (7, .s 7), (49, .s 49), (50, .s 50), (51, .r 0)]
def e45l18 : EC := (.seq (.reg e45r14 [0, 5, 7, 49, 50, 51] 0) (.seq (.cond (.s 52) .skip (.exit 2)) (.seq (.block 3 (.seq (.reg e45r15 [0, 5, 7, 49, 50, 51] 0) (.reg e45r16 [0, 5, 7, 8, 9, 49, 50, 51] 0))) (.reg e45r17 [0, 5, 7, 49, 50, 51] 0))))
def e45r19 : EE := .q 2 .nl [.s 5] none <|
 .q 3 (.fld 5) [.r 2] none <|
 .q 4 .ld [.r 3] none <|
 .x 6 (.call 54) [.s 0, .r 4, .s 7] none [] <|
 .out [(2, .r 6), (3, .c z)]
def e45 : EFn := ⟨(.seq (.reg e45r0 [0] 0) (.seq (.reg e45r1 [0] 0) (.seq (.seq (.reg e45r2 [0, 4] 0) (.cond (.s 13) (.seq (.reg e45r3 [] 0) .ret) .skip)) (.seq (.reg e45r4 [0, 4] 11) (.seq (.seq (.reg e45r5 [0, 4, 5] 0) (.block 0 (.loop [0, 5, 25, 26] e45l11))) (.seq (.reg e45r12 [0, 5] 0) (.seq (.seq (.reg e45r13 [0, 5, 7] 0) (.block 2 (.loop [0, 5, 7, 49, 50, 51] e45l18))) (.seq (.reg e45r19 [0, 5, 7] 0) .ret)))))))), [.slot 2, .slot 3], 74, 0⟩
theorem g45 : Good Try.prog 45 e45 := ⟨Try.f45, Try.func45, by kernel_rfl, by kernel_rfl, by kernel_rfl, by kernel_rfl⟩
/-! (*concord/exec.plan).edges -/
def e46r0 : EE := .out [(0, .s 0), (1, .s 1)]
def e46r1 : EE := .q 1 .len [.s 1] none <|
 .x 2 (.mks 55 24 [.nsl]) [.r 1, .r 1] none [] <|
 .out [(0, .s 0), (1, .s 1), (5, .r 2)]
def e46r2 : EE := .q 1 .len [.s 1] none <|
 .out [(0, .s 0), (1, .s 1), (5, .s 5), (14, .s 1), (15, .r 1), (16, .c z)]
def e46r3 : EE := .q 0 .lss [.s 16, .s 15] none <|
 .out [(0, .s 0), (1, .s 1), (5, .s 5), (14, .s 14), (15, .s 15), (16, .s 16), (17, .r 0)]
def e46r4 : EE := .q 1 (.ixs 2) [.s 14, .s 16] none <|
 .q 2 (.lda 2) [.r 1] none <|
 .x 3 (.alc [z, z] 23) [] none [] <|
 .x 5 (.st 2) [.r 3, .r 2] none [] <|
 .out [(0, .s 0), (1, .s 1), (5, .s 5), (6, .s 16), (7, .r 3), (14, .s 14), (15, .s 15), (16, .s 16)]
def e46r5 : EE := .q 1 .nl [.s 0] none <|
 .q 2 (.fld 7) [.r 1] none <|
 .q 3 .ld [.r 2] none <|
 .q 4 (.lda 2) [.s 7] none <|
 .q 5 (.lkp true [(.i .i64), (.i .i64)] (.agg [z, z, z, z, z, z, z, z, zs, zs, zs, zs, z, z, z, z, z, z, z, z, (.bool false)]) false) [.r 3, .r 4] none <|
 .q 6 (.prta 12 8) [.r 5] none <|
 .q 7 (.prta 1 7) [.r 6] none <|
 .x 8 (.alc [z, z, z, z, z, z, z] 30) [] none [⟨3, .ld, [.r 2], none⟩, ⟨4, (.lda 2), [.s 7], none⟩, ⟨5, (.lkp true [(.i .i64), (.i .i64)] (.agg [z, z, z, z, z, z, z, z, zs, zs, zs, zs, z, z, z, z, z, z, z, z, (.bool false)]) false), [.r 3, .r 4], none⟩] <|
 .x 9 (.st 7) [.r 8, .r 7] none [] <|
 .out [(0, .s 0), (1, .s 1), (5, .s 5), (6, .s 6), (7, .s 7), (8, .r 8), (14, .s 14), (15, .s 15), (16, .s 16)]
def e46r6 : EE := .q 1 .len [.s 1] none <|
 .out [(0, .s 0), (1, .s 1), (5, .s 5), (6, .s 6), (7, .s 7), (8, .s 8), (14, .s 14), (15, .s 15), (16, .s 16), (29, .s 1), (30, .r 1), (31, .c z)]
def e46r7 : EE := .q 0 .lss [.s 31, .s 30] none <|
 .out [(0, .s 0), (1, .s 1), (5, .s 5), (6, .s 6), (7, .s 7), (8, .s 8), (14, .s 14), (15, .s 15), (16, .s 16), (29, .s 29), (30, .s 30), (31, .s 31), (32, .r 0)]
def e46r8 : EE := .q 1 (.ixs 2) [.s 29, .s 31] none <|
 .q 2 (.lda 2) [.r 1] none <|
 .x 3 (.alc [z, z] 23) [] none [] <|
 .x 5 (.st 2) [.r 3, .r 2] none [] <|
 .out [(0, .s 0), (1, .s 1), (5, .s 5), (6, .s 6), (7, .s 7), (8, .s 8), (9, .s 31), (10, .r 3), (14, .s 14), (15, .s 15), (16, .s 16), (29, .s 29), (30, .s 30), (31, .s 31)]
def e46r9 : EE := .q 2 .neq [.s 6, .s 9] none <|
 .q 4 (.lda 7) [.s 8] (some (.r 2, true)) <|
 .q 5 (.lda 2) [.s 10] (some (.r 2, true)) <|
 .x 6 (.call 21) [.r 4, .r 5] (some (.r 2, true)) [] <|
 .q 7 .mv [.r 6] (some (.r 2, true)) <|
 .q 8 (.fld 0) [.s 10] (some (.r 7, false)) <|
 .q 9 .ld [.r 8] (some (.r 7, false)) <|
 .q 10 (.fld 0) [.s 7] (some (.r 7, false)) <|
 .q 11 .ld [.r 10] (some (.r 7, false)) <|
 .q 12 .eql [.r 9, .r 11] (some (.r 7, false)) <|
 .q 13 .mv [.r 12] (some (.r 7, false)) <|
 .q 14 (.fld 1) [.s 10] (some (.r 13, true)) <|
 .q 15 .ld [.r 14] (some (.r 13, true)) <|
 .q 16 (.fld 1) [.s 7] (some (.r 13, true)) <|
 .q 17 .ld [.r 16] (some (.r 13, true)) <|
 .q 18 .lss [.r 15, .r 17] (some (.r 13, true)) <|
 .q 19 .pick [.r 13, .r 18, .c (.bool false)] (some (.r 7, false)) <|
 .q 20 .pick [.r 7, .c (.bool true), .r 19] (some (.r 2, true)) <|
 .q 21 .pick [.r 2, .r 20, .c (.bool false)] none <|
 .out [(0, .s 0), (1, .s 1), (5, .s 5), (6, .s 6), (7, .s 7), (8, .s 8), (9, .s 9), (14, .s 14), (15, .s 15), (16, .s 16), (29, .s 29), (30, .s 30), (31, .s 31), (57, .r 21)]
def e46r10 : EE := .q 4 (.ixs 1) [.s 5, .s 6] none <|
 .q 5 .ld [.r 4] none <|
 .x 7 (.bsl 3 1 [z] [(0, 1)]) [.s 9] none [] <|
 .x 8 (.app 3 1 8 [z]) [.r 5, .r 7] none [] <|
 .q 9 (.ixs 1) [.s 5, .s 6] none <|
 .x 10 (.st 1) [.r 9, .r 8] none [] <|
 .out [(0, .s 0), (1, .s 1), (5, .s 5), (6, .s 6), (7, .s 7), (8, .s 8), (14, .s 14), (15, .s 15), (16, .s 16), (29, .s 29), (30, .s 30), (31, .s 31)]
def e46r11 : EE := .q 0 .add [.s 31, .c (.int .i64 1)] none <|
 .out [(0, .s 0), (1, .s 1), (5, .s 5), (6, .s 6), (7, .s 7), (8, .s 8), (14, .s 14), (15, .s 15), (16, .s 16), (29, .s 29), (30, .s 30), (31, .r 0)]
def e46l12 : EC := (.seq (.reg e46r7 [0, 1, 5, 6, 7, 8, 14, 15, 16, 29, 30, 31] 0) (.seq (.cond (.s 32) .skip (.exit 2)) (.seq (.block 3 (.seq (.reg e46r8 [0, 1, 5, 6, 7, 8, 14, 15, 16, 29, 30, 31] 0) (.seq (.reg e46r9 [0, 1, 5, 6, 7, 8, 9, 10, 14, 15, 16, 29, 30, 31] 0) (.cond (.s 57) (.reg e46r10 [0, 1, 5, 6, 7, 8, 9, 14, 15, 16, 29, 30, 31] 0) .skip)))) (.reg e46r11 [0, 1, 5, 6, 7, 8, 14, 15, 16, 29, 30, 31] 0))))
def e46r13 : EE := .q 0 .add [.s 16, .c (.int .i64 1)] none <|
 .out [(0, .s 0), (1, .s 1), (5, .s 5), (14, .s 14), (15, .s 15), (16, .r 0)]
def e46l14 : EC := (.seq (.reg e46r3 [0, 1, 5, 14, 15, 16] 0) (.seq (.cond (.s 17) .skip (.exit 0)) (.seq (.block 1 (.seq (.reg e46r4 [0, 1, 5, 14, 15, 16] 0) (.seq (.reg e46r5 [0, 1, 5, 6, 7, 14, 15, 16] 0) (.seq (.reg e46r6 [0, 1, 5, 6, 7, 8, 14, 15, 16] 0) (.block 2 (.loop [0, 1, 5, 6, 7, 8, 14, 15, 16, 29, 30, 31] e46l12)))))) (.reg e46r13 [0, 1, 5, 14, 15, 16] 0))))
def e46r15 : EE := .out [(4, .s 5)]
def e46 : EFn := ⟨(.seq (.reg e46r0 [0, 1] 0) (.seq (.reg e46r1 [0, 1] 0) (.seq (.seq (.reg e46r2 [0, 1, 5] 0) (.block 0 (.loop [0, 1, 5, 14, 15, 16] e46l14))) (.seq (.reg e46r15 [5] 0) .ret)))), [.slot 4], 71, 0⟩
theorem g46 : Good Try.prog 46 e46 := ⟨Try.f46, Try.func46, by kernel_rfl, by kernel_rfl, by kernel_rfl, by kernel_rfl⟩
/-! slices.SortStableFunc[[]int,int] -/
def e47r0 : EE := .q 2 .len [.s 0] none <|
 .x 4 (.call 55) [.s 0, .r 2, .s 1] none [] <|
 .out []
def e47 : EFn := ⟨(.reg e47r0 [0, 1] 0), [], 9, 0⟩
theorem g47 : Good Try.prog 47 e47 := ⟨Try.f47, Try.func47, by kernel_rfl, by kernel_rfl, by kernel_rfl, by kernel_rfl⟩
/-! (*concord/exec.plan).do$2 -/
def e48r0 : EE := .out [(0, .s 0), (1, .s 1), (2, .s 2), (3, .s 3)]
def e48r1 : EE := .q 0 .ld [.s 2] none <|
 .q 1 .nl [.r 0] none <|
 .q 2 (.fld 7) [.r 1] none <|
 .q 3 .ld [.r 2] none <|
 .q 4 .ld [.s 3] none <|
 .q 6 (.ixs 2) [.r 4, .s 0] none <|
 .q 7 (.lda 2) [.r 6] none <|
 .q 8 (.lkp true [(.i .i64), (.i .i64)] (.agg [z, z, z, z, z, z, z, z, zs, zs, zs, zs, z, z, z, z, z, z, z, z, (.bool false)]) false) [.r 3, .r 7] none <|
 .q 9 (.prta 12 8) [.r 8] none <|
 .q 10 (.prt 0) [.r 9] none <|
 .q 11 .ld [.s 2] none <|
 .q 12 .nl [.r 11] none <|
 .q 13 (.fld 7) [.r 12] none <|
 .q 14 .ld [.r 13] none <|
 .q 15 .ld [.s 3] none <|
 .q 17 (.ixs 2) [.r 15, .s 1] none <|
 .q 18 (.lda 2) [.r 17] none <|
 .q 19 (.lkp true [(.i .i64), (.i .i64)] (.agg [z, z, z, z, z, z, z, z, zs, zs, zs, zs, z, z, z, z, z, z, z, z, (.bool false)]) false) [.r 14, .r 18] none <|
 .q 20 (.prta 12 8) [.r 19] none <|
 .q 21 (.prt 0) [.r 20] none <|
 .x 22 (.call 49) [.r 10, .r 21] none [] <|
 .out [(6, .r 22)]
def e48 : EFn := ⟨(.seq (.reg e48r0 [0, 1, 2, 3] 0) (.seq (.reg e48r1 [0, 1, 2, 3] 0) .ret)), [.slot 6], 30, 0⟩
theorem g48 : Good Try.prog 48 e48 := ⟨Try.f48, Try.func48, by kernel_rfl, by kernel_rfl, by kernel_rfl, by kernel_rfl⟩
/-! cmp.Compare[int] -/
def e49r0 : EE := .out [(0, .s 0), (1, .s 1)]
def e49r1 : EE := .x 1 (.call 56) [.s 0] none [] <|
 .out [(0, .s 0), (1, .s 1), (5, .r 1)]
def e49r2 : EE := .x 1 (.call 56) [.s 1] none [] <|
 .out [(0, .s 0), (1, .s 1), (5, .s 5), (6, .r 1)]
def e49r3 : EE := .out [(0, .s 0), (1, .s 1), (6, .s 6), (11, .s 5)]
def e49r4 : EE := .out [(12, .s 6)]
def e49r5 : EE := .out [(4, .c z)]
def e49r6 : EE := .out [(4, .c (.int .i64 (-1)))]
def e49r7 : EE := .out [(0, .s 0), (1, .s 1), (13, .s 6)]
def e49r8 : EE := .out [(4, .c (.int .i64 1))]
def e49r9 : EE := .q 2 .lss [.s 0, .s 1] none <|
 .out [(0, .s 0), (1, .s 1), (16, .r 2)]
def e49r10 : EE := .out [(4, .c (.int .i64 (-1)))]
def e49r11 : EE := .q 2 .gtr [.s 0, .s 1] none <|
 .out [(19, .r 2)]
def e49r12 : EE := .out [(4, .c (.int .i64 1))]
def e49r13 : EE := .out [(4, .c z)]
def e49 : EFn := ⟨(.seq (.reg e49r0 [0, 1] 0) (.seq (.reg e49r1 [0, 1] 0) (.seq (.reg e49r2 [0, 1, 5] 0) (.seq (.seq (.reg e49r3 [0, 1, 5, 6] 0) (.cond (.s 11) (.seq (.seq (.reg e49r4 [6] 0) (.cond (.s 12) (.seq (.reg e49r5 [] 0) .ret) .skip)) (.seq (.reg e49r6 [] 0) .ret)) .skip)) (.seq (.seq (.reg e49r7 [0, 1, 6] 0) (.cond (.s 13) (.seq (.reg e49r8 [] 0) .ret) .skip)) (.seq (.seq (.reg e49r9 [0, 1] 0) (.cond (.s 16) (.seq (.reg e49r10 [] 0) .ret) .skip)) (.seq (.seq (.reg e49r11 [0, 1] 0) (.cond (.s 19) (.seq (.reg e49r12 [] 0) .ret) .skip)) (.seq (.reg e49r13 [] 0) .ret)))))))), [.slot 4], 20, 0⟩
theorem g49 : Good Try.prog 49 e49 := ⟨Try.f49, Try.func49, by kernel_rfl, by kernel_rfl, by kernel_rfl, by kernel_rfl⟩
/-! slices.pdqsortCmpFunc[concord/api.Inst] -/
def e50r0 : EE := .out [(0, .s 0), (1, .s 1), (2, .s 2), (3, .s 3), (4, .s 4), (10, .c (.bool true))]
def e50r1 : EE := .out [(0, .s 0), (1, .s 1), (2, .s 2), (3, .s 3), (4, .s 4), (10, .s 10), (11, .c (.bool true))]
def e50r2 : EE := .q 2 .sub [.s 2, .s 1] none <|
 .out [(0, .s 0), (1, .s 1), (2, .s 2), (3, .s 3), (4, .s 4), (10, .s 10), (11, .s 11), (12, .r 2)]
def e50r3 : EE := .q 1 .leq [.s 12, .c (.int .i64 12)] none <|
 .out [(0, .s 0), (1, .s 1), (2, .s 2), (3, .s 3), (4, .s 4), (10, .s 10), (11, .s 11), (12, .s 12), (25, .r 1)]
def e50r4 : EE := .x 4 (.call 57) [.s 0, .s 1, .s 2, .s 4] none [] <|
 .out []
def e50r5 : EE := .q 1 .eql [.s 3, .c z] none <|
 .out [(0, .s 0), (1, .s 1), (2, .s 2), (3, .s 3), (4, .s 4), (10, .s 10), (11, .s 11), (12, .s 12), (32, .r 1)]
def e50r6 : EE := .x 4 (.call 58) [.s 0, .s 1, .s 2, .s 4] none [] <|
 .out []
def e50r7 : EE := .q 1 .not [.s 10] none <|
 .out [(0, .s 0), (1, .s 1), (2, .s 2), (3, .s 3), (4, .s 4), (10, .s 10), (11, .s 11), (12, .s 12), (39, .r 1)]
def e50r8 : EE := .x 4 (.call 59) [.s 0, .s 1, .s 2, .s 4] none [] <|
 .out [(0, .s 0), (1, .s 1), (2, .s 2), (3, .s 3), (4, .s 4), (10, .s 10), (11, .s 11), (12, .s 12)]
def e50r9 : EE := .q 1 .sub [.s 3, .c (.int .i64 1)] none <|
 .out [(0, .s 0), (1, .s 1), (2, .s 2), (3, .r 1), (4, .s 4), (10, .s 10), (11, .s 11), (12, .s 12)]
def e50r10 : EE := .x 4 (.call 60) [.s 0, .s 1, .s 2, .s 4] none [] <|
 .q 6 (.ext 0) [.r 4] none <|
 .q 7 (.ext 1) [.r 4] none <|
 .out [(0, .s 0), (1, .s 1), (2, .s 2), (3, .s 3), (4, .s 4), (10, .s 10), (11, .s 11), (12, .s 12), (13, .r 6), (14, .r 7)]
def e50r11 : EE := .q 1 .eql [.s 14, .c (.int .i64 2)] none <|
 .out [(0, .s 0), (1, .s 1), (2, .s 2), (3, .s 3), (4, .s 4), (10, .s 10), (11, .s 11), (12, .s 12), (13, .s 13), (14, .s 14), (56, .r 1)]
def e50r12 : EE := .x 4 (.call 61) [.s 0, .s 1, .s 2, .s 4] none [] <|
 .out [(0, .s 0), (1, .s 1), (2, .s 2), (3, .s 3), (4, .s 4), (10, .s 10), (11, .s 11), (12, .s 12), (13, .s 13)]
def e50r13 : EE := .q 1 .sub [.s 2, .c (.int .i64 1)] none <|
 .q 4 .sub [.s 13, .s 1] none <|
 .q 5 .sub [.r 1, .r 4] none <|
 .out [(0, .s 0), (1, .s 1), (2, .s 2), (3, .s 3), (4, .s 4), (10, .s 10), (11, .s 11), (12, .s 12), (13, .r 5)]
def e50r14 : EE := .out [(0, .s 0), (1, .s 1), (2, .s 2), (3, .s 3), (4, .s 4), (10, .s 10), (11, .s 11), (12, .s 12), (13, .s 13), (14, .c (.int .i64 1))]
def e50r15 : EE := .q 2 .mv [.s 11] (some (.s 10, true)) <|
 .q 3 .pick [.s 10, .r 2, .c (.bool false)] none <|
 .q 5 .mv [.s 14] (some (.r 3, true)) <|
 .q 6 .eql [.r 5, .c (.int .i64 1)] (some (.r 3, true)) <|
 .q 7 .pick [.r 3, .r 6, .c (.bool false)] none <|
 .out [(0, .s 0), (1, .s 1), (2, .s 2), (3, .s 3), (4, .s 4), (10, .s 10), (11, .s 11), (12, .s 12), (13, .s 13), (75, .r 7)]
def e50r16 : EE := .x 4 (.call 62) [.s 0, .s 1, .s 2, .s 4] none [] <|
 .out [(0, .s 0), (1, .s 1), (2, .s 2), (3, .s 3), (4, .s 4), (10, .s 10), (11, .s 11), (12, .s 12), (13, .s 13), (80, .r 4)]
def e50r17 : EE := .q 1 .gtr [.s 1, .c z] none <|
 .q 3 .mv [.s 4] (some (.r 1, true)) <|
 .q 4 .mv [.s 0] (some (.r 1, true)) <|
 .q 5 .mv [.s 1] (some (.r 1, true)) <|
 .q 6 .sub [.r 5, .c (.int .i64 1)] (some (.r 1, true)) <|
 .q 7 (.ixs 2) [.r 4, .r 6] (some (.r 1, true)) <|
 .q 8 (.lda 2) [.r 7] (some (.r 1, true)) <|
 .q 9 .mv [.s 0] (some (.r 1, true)) <|
 .q 10 .mv [.s 13] (some (.r 1, true)) <|
 .q 11 (.ixs 2) [.r 9, .r 10] (some (.r 1, true)) <|
 .q 12 (.lda 2) [.r 11] (some (.r 1, true)) <|
 .x 13 .callv [.r 3, .r 8, .r 12] (some (.r 1, true)) [] <|
 .q 14 .lss [.r 13, .c z] (some (.r 1, true)) <|
 .q 15 .not [.r 14] (some (.r 1, true)) <|
 .q 16 .pick [.r 1, .r 15, .c (.bool false)] none <|
 .out [(0, .s 0), (1, .s 1), (2, .s 2), (3, .s 3), (4, .s 4), (10, .s 10), (11, .s 11), (12, .s 12), (13, .s 13), (97, .r 16)]
def e50r18 : EE := .x 5 (.call 63) [.s 0, .s 1, .s 2, .s 13, .s 4] none [] <|
 .out [(0, .s 0), (2, .s 2), (3, .s 3), (4, .s 4), (10, .s 10), (11, .s 11), (15, .r 5)]
def e50r19 : EE := .out [(0, .s 0), (1, .s 15), (2, .s 2), (3, .s 3), (4, .s 4), (10, .s 10), (11, .s 11)]
def e50r20 : EE := .x 5 (.call 64) [.s 0, .s 1, .s 2, .s 13, .s 4] none [] <|
 .q 7 (.ext 0) [.r 5] none <|
 .q 8 (.ext 1) [.r 5] none <|
 .out [(0, .s 0), (1, .s 1), (2, .s 2), (3, .s 3), (4, .s 4), (12, .s 12), (16, .r 7), (17, .r 8)]
def e50r21 : EE := .out [(0, .s 0), (1, .s 1), (2, .s 2), (3, .s 3), (4, .s 4), (11, .s 17), (12, .s 12), (16, .s 16)]
def e50r22 : EE := .q 2 .sub [.s 16, .s 1] none <|
 .q 5 .sub [.s 2, .s 16] none <|
 .out [(0, .s 0), (1, .s 1), (2, .s 2), (3, .s 3), (4, .s 4), (11, .s 11), (12, .s 12), (16, .s 16), (18, .r 2), (19, .r 5)]
def e50r23 : EE := .q 1 .quo [.s 12, .c (.int .i64 8)] none <|
 .out [(0, .s 0), (1, .s 1), (2, .s 2), (3, .s 3), (4, .s 4), (11, .s 11), (16, .s 16), (18, .s 18), (19, .s 19), (20, .r 1)]
def e50r24 : EE := .q 2 .lss [.s 18, .s 19] none <|
 .out [(0, .s 0), (1, .s 1), (2, .s 2), (3, .s 3), (4, .s 4), (11, .s 11), (16, .s 16), (18, .s 18), (19, .s 19), (20, .s 20), (125, .r 2)]
def e50r25 : EE := .q 2 .geq [.s 18, .s 20] none <|
 .out [(0, .s 0), (1, .s 1), (2, .s 2), (3, .s 3), (4, .s 4), (10, .r 2), (11, .s 11), (16, .s 16)]
def e50r26 : EE := .x 5 (.call 50) [.s 0, .s 1, .s 16, .s 3, .s 4] none [] <|
 .out [(0, .s 0), (2, .s 2), (3, .s 3), (4, .s 4), (10, .s 10), (11, .s 11), (16, .s 16)]
def e50r27 : EE := .q 1 .add [.s 16, .c (.int .i64 1)] none <|
 .out [(0, .s 0), (1, .r 1), (2, .s 2), (3, .s 3), (4, .s 4), (10, .s 10), (11, .s 11)]
def e50r28 : EE := .q 2 .geq [.s 19, .s 20] none <|
 .out [(0, .s 0), (1, .s 1), (2, .s 2), (3, .s 3), (4, .s 4), (10, .r 2), (11, .s 11), (16, .s 16)]
def e50r29 : EE := .q 2 .add [.s 16, .c (.int .i64 1)] none <|
 .x 6 (.call 50) [.s 0, .r 2, .s 2, .s 3, .s 4] none [] <|
 .out [(0, .s 0), (1, .s 1), (3, .s 3), (4, .s 4), (10, .s 10), (11, .s 11), (16, .s 16)]
def e50r30 : EE := .out [(0, .s 0), (1, .s 1), (2, .s 16), (3, .s 3), (4, .s 4), (10, .s 10), (11, .s 11)]
def e50l31 : EC := (.block 1 (.seq (.reg e50r2 [0, 1, 2, 3, 4, 10, 11] 0) (.seq (.seq (.reg e50r3 [0, 1, 2, 3, 4, 10, 11, 12] 0) (.cond (.s 25) (.seq (.reg e50r4 [0, 1, 2, 4] 0) .ret) .skip)) (.seq (.seq (.reg e50r5 [0, 1, 2, 3, 4, 10, 11, 12] 0) (.cond (.s 32) (.seq (.reg e50r6 [0, 1, 2, 4] 0) .ret) .skip)) (.seq (.seq (.reg e50r7 [0, 1, 2, 3, 4, 10, 11, 12] 0) (.cond (.s 39) (.seq (.reg e50r8 [0, 1, 2, 3, 4, 10, 11, 12] 0) (.reg e50r9 [0, 1, 2, 3, 4, 10, 11, 12] 0)) .skip)) (.seq (.reg e50r10 [0, 1, 2, 3, 4, 10, 11, 12] 0) (.seq (.seq (.reg e50r11 [0, 1, 2, 3, 4, 10, 11, 12, 13, 14] 0) (.cond (.s 56) (.seq (.reg e50r12 [0, 1, 2, 3, 4, 10, 11, 12, 13] 0) (.seq (.reg e50r13 [0, 1, 2, 3, 4, 10, 11, 12, 13] 0) (.reg e50r14 [0, 1, 2, 3, 4, 10, 11, 12, 13] 0))) .skip)) (.seq (.seq (.reg e50r15 [0, 1, 2, 3, 4, 10, 11, 12, 13, 14] 0) (.cond (.s 75) (.seq (.reg e50r16 [0, 1, 2, 3, 4, 10, 11, 12, 13] 0) (.cond (.s 80) .ret .skip)) .skip)) (.seq (.seq (.reg e50r17 [0, 1, 2, 3, 4, 10, 11, 12, 13] 0) (.cond (.s 97) (.seq (.reg e50r18 [0, 1, 2, 3, 4, 10, 11, 13] 0) (.seq (.reg e50r19 [0, 2, 3, 4, 10, 11, 15] 0) (.exit 1))) .skip)) (.seq (.reg e50r20 [0, 1, 2, 3, 4, 12, 13] 0) (.seq (.reg e50r21 [0, 1, 2, 3, 4, 12, 16, 17] 0) (.seq (.reg e50r22 [0, 1, 2, 3, 4, 11, 12, 16] 0) (.seq (.reg e50r23 [0, 1, 2, 3, 4, 11, 12, 16, 18, 19] 0) (.seq (.reg e50r24 [0, 1, 2, 3, 4, 11, 16, 18, 19, 20] 0) (.cond (.s 125) (.seq (.reg e50r25 [0, 1, 2, 3, 4, 11, 16, 18, 20] 0) (.seq (.reg e50r26 [0, 1, 2, 3, 4, 10, 11, 16] 0) (.reg e50r27 [0, 2, 3, 4, 10, 11, 16] 0))) (.seq (.reg e50r28 [0, 1, 2, 3, 4, 11, 16, 19, 20] 0) (.seq (.reg e50r29 [0, 1, 2, 3, 4, 10, 11, 16] 0) (.reg e50r30 [0, 1, 3, 4, 10, 11, 16] 0))))))))))))))))))
def e50 : EFn := ⟨(.seq (.reg e50r0 [0, 1, 2, 3, 4] 0) (.seq (.reg e50r1 [0, 1, 2, 3, 4, 10] 0) (.block 0 (.loop [0, 1, 2, 3, 4, 10, 11] e50l31)))), [], 148, 0⟩
theorem g50 : Good Try.prog 50 e50 := ⟨Try.f50, Try.func50, by kernel_rfl, by kernel_rfl, by kernel_rfl, by kernel_rfl⟩
/-! math/bits.Len -/
def e51r0 : EE := .out [(0, .s 0)]
def e51r1 : EE := .q 1 (.conv .u32) [.s 0] none <|
 .x 2 (.call 65) [.r 1] none [] <|
 .out [(2, .r 2)]
def e51r2 : EE := .x 1 (.call 66) [.s 0] none [] <|
 .out [(2, .r 1)]
def e51 : EFn := ⟨(.seq (.reg e51r0 [0] 0) (.seq (.cond (.c (.bool false)) (.seq (.reg e51r1 [0] 0) .ret) .skip) (.seq (.reg e51r2 [0] 0) .ret))), [.slot 2], 8, 0⟩
theorem g51 : Good Try.prog 51 e51 := ⟨Try.f51, Try.func51, by kernel_rfl, by kernel_rfl, by kernel_rfl, by kernel_rfl⟩
/-! (*concord/graph.walk).from -/
def e53r0 : EE := .x 2 (.call 67) [.s 0, .s 1] none [] <|
 .x 3 (.bsl 125 1 [z, z] [(0, 2)]) [.r 2] none [] <|
 .out [(0, .s 0), (4, .r 3)]
def e53r1 : EE := .q 1 .len [.s 4] none <|
 .q 2 .gtr [.r 1, .c z] none <|
 .out [(0, .s 0), (4, .s 4), (15, .r 2)]
def e53r2 : EE := .q 2 .len [.s 4] none <|
 .q 3 .sub [.r 2, .c (.int .i64 1)] none <|
 .q 4 (.ixs 2) [.s 4, .r 3] none <|
 .out [(0, .s 0), (4, .s 4), (5, .r 4)]
def e53r3 : EE := .q 1 .nl [.s 5] none <|
 .q 2 (.fld 1) [.r 1] none <|
 .q 3 .ld [.r 2] none <|
 .q 5 .nl [.s 0] none <|
 .q 6 (.fld 0) [.r 5] none <|
 .q 7 .ld [.r 6] none <|
 .q 9 .nl [.s 5] none <|
 .q 10 (.fld 0) [.r 9] none <|
 .q 11 .ld [.r 10] none <|
 .q 12 (.ixs 1) [.r 7, .r 11] none <|
 .q 13 .ld [.r 12] none <|
 .q 14 .len [.r 13] none <|
 .q 15 .eql [.r 3, .r 14] none <|
 .out [(0, .s 0), (4, .s 4), (5, .s 5), (36, .r 15)]
def e53r4 : EE := .q 1 .nl [.s 5] none <|
 .q 2 (.fld 0) [.r 1] none <|
 .q 3 .ld [.r 2] none <|
 .out [(0, .s 0), (4, .s 4), (6, .r 3)]
def e53r5 : EE := .x 2 (.call 68) [.s 0, .s 6] none [] <|
 .out [(0, .s 0), (4, .s 4), (6, .s 6)]
def e53r6 : EE := .q 2 .len [.s 4] none <|
 .q 3 .sub [.r 2, .c (.int .i64 1)] none <|
 .q 4 (.slc 2 false true) [.s 4, .r 3] none <|
 .out [(0, .s 0), (4, .r 4), (6, .s 6)]
def e53r7 : EE := .q 1 .len [.s 4] none <|
 .q 2 .gtr [.r 1, .c z] none <|
 .out [(0, .s 0), (4, .s 4), (6, .s 6), (51, .r 2)]
def e53r8 : EE := .q 2 .len [.s 4] none <|
 .q 3 .sub [.r 2, .c (.int .i64 1)] none <|
 .q 4 (.ixs 2) [.s 4, .r 3] none <|
 .q 5 (.fld 0) [.r 4] none <|
 .q 6 .ld [.r 5] none <|
 .out [(0, .s 0), (4, .s 4), (6, .s 6), (7, .r 6)]
def e53r9 : EE := .q 1 .nl [.s 0] none <|
 .q 2 (.fld 2) [.r 1] none <|
 .q 3 .ld [.r 2] none <|
 .q 6 .nl [.s 0] none <|
 .q 7 (.fld 2) [.r 6] none <|
 .q 8 .ld [.r 7] none <|
 .q 10 (.ixs 1) [.r 8, .s 7] none <|
 .q 11 .ld [.r 10] none <|
 .q 13 .nl [.s 0] none <|
 .q 14 (.fld 2) [.r 13] none <|
 .q 15 .ld [.r 14] none <|
 .q 17 (.ixs 1) [.r 15, .s 6] none <|
 .q 18 .ld [.r 17] none <|
 .q 19 .mn [.r 11, .r 18] none <|
 .q 20 (.ixs 1) [.r 3, .s 7] none <|
 .x 21 (.st 1) [.r 20, .r 19] none [] <|
 .out [(0, .s 0), (4, .s 4)]
def e53r10 : EE := .q 1 .nl [.s 0] none <|
 .q 2 (.fld 0) [.r 1] none <|
 .q 3 .ld [.r 2] none <|
 .q 5 .nl [.s 5] none <|
 .q 6 (.fld 0) [.r 5] none <|
 .q 7 .ld [.r 6] none <|
 .q 8 (.ixs 1) [.r 3, .r 7] none <|
 .q 9 .ld [.r 8] none <|
 .q 11 .nl [.s 5] none <|
 .q 12 (.fld 1) [.r 11] none <|
 .q 13 .ld [.r 12] none <|
 .q 14 (.ixs 1) [.r 9, .r 13] none <|
 .q 15 .ld [.r 14] none <|
 .out [(0, .s 0), (4, .s 4), (5, .s 5), (8, .r 15)]
def e53r11 : EE := .q 1 .nl [.s 5] none <|
 .q 2 (.fld 1) [.r 1] none <|
 .q 3 .ld [.r 2] none <|
 .q 4 .add [.r 3, .c (.int .i64 1)] none <|
 .q 5 .nl [.s 5] none <|
 .q 6 (.fld 1) [.r 5] none <|
 .x 7 (.st 1) [.r 6, .r 4] none [] <|
 .out [(0, .s 0), (4, .s 4), (5, .s 5), (8, .s 8)]
def e53r12 : EE := .q 1 .lss [.s 8, .c z] none <|
 .q 3 .mv [.s 8] (some (.r 1, false)) <|
 .q 4 .mv [.s 0] (some (.r 1, false)) <|
 .q 5 .nl [.r 4] (some (.r 1, false)) <|
 .q 6 (.fld 0) [.r 5] (some (.r 1, false)) <|
 .q 7 .ld [.r 6] (some (.r 1, false)) <|
 .q 8 .len [.r 7] (some (.r 1, false)) <|
 .q 9 .geq [.r 3, .r 8] (some (.r 1, false)) <|
 .q 10 .pick [.r 1, .c (.bool true), .r 9] none <|
 .out [(0, .s 0), (4, .s 4), (5, .s 5), (8, .s 8), (103, .r 10)]
def e53r13 : EE := .q 1 .nl [.s 0] none <|
 .q 2 (.fld 1) [.r 1] none <|
 .q 3 .ld [.r 2] none <|
 .q 5 (.ixs 1) [.r 3, .s 8] none <|
 .q 6 .ld [.r 5] none <|
 .q 7 .eql [.r 6, .c z] none <|
 .out [(0, .s 0), (4, .s 4), (5, .s 5), (8, .s 8), (115, .r 7)]
def e53r14 : EE := .x 3 (.call 67) [.s 0, .s 8] none [] <|
 .x 4 (.bsl 125 1 [z, z] [(0, 2)]) [.r 3] none [] <|
 .x 5 (.app 125 2 16 [z, z]) [.s 4, .r 4] none [] <|
 .out [(0, .s 0), (4, .r 5)]
def e53r15 : EE := .q 1 .nl [.s 0] none <|
 .q 2 (.fld 3) [.r 1] none <|
 .q 3 .ld [.r 2] none <|
 .q 5 (.ixs 1) [.r 3, .s 8] none <|
 .q 6 .ld [.r 5] none <|
 .out [(0, .s 0), (4, .s 4), (5, .s 5), (8, .s 8), (130, .r 6)]
def e53r16 : EE := .q 1 .nl [.s 0] none <|
 .q 2 (.fld 2) [.r 1] none <|
 .q 3 .ld [.r 2] none <|
 .q 5 .nl [.s 5] none <|
 .q 6 (.fld 0) [.r 5] none <|
 .q 7 .ld [.r 6] none <|
 .q 9 .nl [.s 0] none <|
 .q 10 (.fld 2) [.r 9] none <|
 .q 11 .ld [.r 10] none <|
 .q 13 .nl [.s 5] none <|
 .q 14 (.fld 0) [.r 13] none <|
 .q 15 .ld [.r 14] none <|
 .q 16 (.ixs 1) [.r 11, .r 15] none <|
 .q 17 .ld [.r 16] none <|
 .q 19 .nl [.s 0] none <|
 .q 20 (.fld 1) [.r 19] none <|
 .q 21 .ld [.r 20] none <|
 .q 23 (.ixs 1) [.r 21, .s 8] none <|
 .q 24 .ld [.r 23] none <|
 .q 25 .mn [.r 17, .r 24] none <|
 .q 26 (.ixs 1) [.r 3, .r 7] none <|
 .x 27 (.st 1) [.r 26, .r 25] none [] <|
 .out [(0, .s 0), (4, .s 4)]
def e53l17 : EC := (.seq (.seq (.reg e53r1 [0, 4] 0) (.cond (.s 15) .skip (.exit 0))) (.block 1 (.seq (.reg e53r2 [0, 4] 0) (.seq (.seq (.reg e53r3 [0, 4, 5] 0) (.cond (.s 36) (.seq (.reg e53r4 [0, 4, 5] 0) (.seq (.reg e53r5 [0, 4, 6] 0) (.seq (.reg e53r6 [0, 4, 6] 0) (.seq (.seq (.reg e53r7 [0, 4, 6] 0) (.cond (.s 51) (.seq (.reg e53r8 [0, 4, 6] 0) (.reg e53r9 [0, 4, 6, 7] 0)) .skip)) (.exit 1))))) .skip)) (.seq (.reg e53r10 [0, 4, 5] 0) (.seq (.reg e53r11 [0, 4, 5, 8] 0) (.block 2 (.seq (.reg e53r12 [0, 4, 5, 8] 0) (.cond (.s 103) .skip (.seq (.reg e53r13 [0, 4, 5, 8] 0) (.cond (.s 115) (.reg e53r14 [0, 4, 8] 0) (.seq (.reg e53r15 [0, 4, 5, 8] 0) (.cond (.s 130) (.reg e53r16 [0, 4, 5, 8] 0) .skip)))))))))))))
def e53 : EFn := ⟨(.seq (.reg e53r0 [0, 1] 0) (.block 0 (.loop [0, 4] e53l17))), [], 165, 0⟩
theorem g53 : Good Try.prog 53 e53 := ⟨Try.f53, Try.func53, by kernel_rfl, by kernel_rfl, by kernel_rfl, by kernel_rfl⟩
/-! concord/graph.order -/
def e54r0 : EE := .out [(0, .s 0), (1, .s 1), (2, .s 2)]
def e54r1 : EE := .q 1 .len [.s 2] none <|
 .x 2 (.mks 3 8 [z]) [.r 1, .r 1] none [] <|
 .out [(0, .s 0), (1, .s 1), (2, .s 2), (7, .r 2)]
def e54r2 : EE := .q 1 .len [.s 2] none <|
 .x 2 (.mks 55 24 [.nsl]) [.r 1, .r 1] none [] <|
 .out [(0, .s 0), (1, .s 1), (2, .s 2), (7, .s 7), (8, .r 2)]
def e54r3 : EE := .q 1 .len [.s 0] none <|
 .out [(0, .s 0), (1, .s 1), (2, .s 2), (7, .s 7), (8, .s 8), (25, .s 0), (26, .r 1), (27, .c z)]
def e54r4 : EE := .q 0 .lss [.s 27, .s 26] none <|
 .out [(0, .s 0), (1, .s 1), (2, .s 2), (7, .s 7), (8, .s 8), (25, .s 25), (26, .s 26), (27, .s 27), (28, .r 0)]
def e54r5 : EE := .q 1 (.ixs 1) [.s 25, .s 27] none <|
 .q 2 .ld [.r 1] none <|
 .out [(0, .s 0), (1, .s 1), (2, .s 2), (7, .s 7), (8, .s 8), (9, .s 27), (10, .r 2), (25, .s 25), (26, .s 26), (27, .s 27)]
def e54r6 : EE := .q 1 .len [.s 10] none <|
 .out [(0, .s 0), (1, .s 1), (2, .s 2), (7, .s 7), (8, .s 8), (9, .s 9), (25, .s 25), (26, .s 26), (27, .s 27), (32, .s 10), (33, .r 1), (34, .c z)]
def e54r7 : EE := .q 0 .lss [.s 34, .s 33] none <|
 .out [(0, .s 0), (1, .s 1), (2, .s 2), (7, .s 7), (8, .s 8), (9, .s 9), (25, .s 25), (26, .s 26), (27, .s 27), (32, .s 32), (33, .s 33), (34, .s 34), (35, .r 0)]
def e54r8 : EE := .q 0 (.ixs 1) [.s 32, .s 34] none <|
 .q 1 .ld [.r 0] none <|
 .out [(0, .s 0), (1, .s 1), (2, .s 2), (7, .s 7), (8, .s 8), (9, .s 9), (12, .r 1), (25, .s 25), (26, .s 26), (27, .s 27), (32, .s 32), (33, .s 33), (34, .s 34)]
def e54r9 : EE := .q 1 .geq [.s 12, .c z] none <|
 .q 3 .mv [.s 12] (some (.r 1, true)) <|
 .q 4 .mv [.s 0] (some (.r 1, true)) <|
 .q 5 .len [.r 4] (some (.r 1, true)) <|
 .q 6 .lss [.r 3, .r 5] (some (.r 1, true)) <|
 .q 7 .pick [.r 1, .r 6, .c (.bool false)] none <|
 .q 9 .mv [.s 1] (some (.r 7, true)) <|
 .q 10 .mv [.s 12] (some (.r 7, true)) <|
 .q 11 (.ixs 1) [.r 9, .r 10] (some (.r 7, true)) <|
 .q 12 .ld [.r 11] (some (.r 7, true)) <|
 .q 13 .mv [.s 1] (some (.r 7, true)) <|
 .q 14 .mv [.s 9] (some (.r 7, true)) <|
 .q 15 (.ixs 1) [.r 13, .r 14] (some (.r 7, true)) <|
 .q 16 .ld [.r 15] (some (.r 7, true)) <|
 .q 17 .neq [.r 12, .r 16] (some (.r 7, true)) <|
 .q 18 .pick [.r 7, .r 17, .c (.bool false)] none <|
 .out [(0, .s 0), (1, .s 1), (2, .s 2), (7, .s 7), (8, .s 8), (9, .s 9), (12, .s 12), (25, .s 25), (26, .s 26), (27, .s 27), (32, .s 32), (33, .s 33), (34, .s 34), (56, .r 18)]
def e54r10 : EE := .q 3 (.ixs 1) [.s 1, .s 9] none <|
 .q 4 .ld [.r 3] none <|
 .q 5 (.ixs 1) [.s 7, .r 4] none <|
 .q 6 .ld [.r 5] none <|
 .q 7 .add [.r 6, .c (.int .i64 1)] none <|
 .q 8 (.ixs 1) [.s 7, .r 4] none <|
 .x 9 (.st 1) [.r 8, .r 7] none [] <|
 .out [(0, .s 0), (1, .s 1), (2, .s 2), (7, .s 7), (8, .s 8), (9, .s 9), (12, .s 12), (25, .s 25), (26, .s 26), (27, .s 27), (32, .s 32), (33, .s 33), (34, .s 34)]
def e54r11 : EE := .q 3 (.ixs 1) [.s 1, .s 12] none <|
 .q 4 .ld [.r 3] none <|
 .q 8 (.ixs 1) [.s 1, .s 12] none <|
 .q 9 .ld [.r 8] none <|
 .q 10 (.ixs 1) [.s 8, .r 9] none <|
 .q 11 .ld [.r 10] none <|
 .q 14 (.ixs 1) [.s 1, .s 9] none <|
 .q 15 .ld [.r 14] none <|
 .x 16 (.bsl 3 1 [z] [(0, 1)]) [.r 15] none [⟨4, .ld, [.r 3], none⟩, ⟨9, .ld, [.r 8], none⟩, ⟨11, .ld, [.r 10], none⟩] <|
 .x 17 (.app 3 1 8 [z]) [.r 11, .r 16] none [⟨4, .ld, [.r 3], none⟩] <|
 .q 18 (.ixs 1) [.s 8, .r 4] none <|
 .x 19 (.st 1) [.r 18, .r 17] none [] <|
 .out [(0, .s 0), (1, .s 1), (2, .s 2), (7, .s 7), (8, .s 8), (9, .s 9), (25, .s 25), (26, .s 26), (27, .s 27), (32, .s 32), (33, .s 33), (34, .s 34)]
def e54r12 : EE := .q 0 .add [.s 34, .c (.int .i64 1)] none <|
 .out [(0, .s 0), (1, .s 1), (2, .s 2), (7, .s 7), (8, .s 8), (9, .s 9), (25, .s 25), (26, .s 26), (27, .s 27), (32, .s 32), (33, .s 33), (34, .r 0)]
def e54l13 : EC := (.seq (.reg e54r7 [0, 1, 2, 7, 8, 9, 25, 26, 27, 32, 33, 34] 0) (.seq (.cond (.s 35) .skip (.exit 2)) (.seq (.block 3 (.seq (.reg e54r8 [0, 1, 2, 7, 8, 9, 25, 26, 27, 32, 33, 34] 0) (.seq (.reg e54r9 [0, 1, 2, 7, 8, 9, 12, 25, 26, 27, 32, 33, 34] 0) (.cond (.s 56) (.seq (.reg e54r10 [0, 1, 2, 7, 8, 9, 12, 25, 26, 27, 32, 33, 34] 0) (.reg e54r11 [0, 1, 2, 7, 8, 9, 12, 25, 26, 27, 32, 33, 34] 0)) .skip)))) (.reg e54r12 [0, 1, 2, 7, 8, 9, 25, 26, 27, 32, 33, 34] 0))))
def e54r14 : EE := .q 0 .add [.s 27, .c (.int .i64 1)] none <|
 .out [(0, .s 0), (1, .s 1), (2, .s 2), (7, .s 7), (8, .s 8), (25, .s 25), (26, .s 26), (27, .r 0)]
def e54l15 : EC := (.seq (.reg e54r4 [0, 1, 2, 7, 8, 25, 26, 27] 0) (.seq (.cond (.s 28) .skip (.exit 0)) (.seq (.block 1 (.seq (.reg e54r5 [0, 1, 2, 7, 8, 25, 26, 27] 0) (.seq (.reg e54r6 [0, 1, 2, 7, 8, 9, 10, 25, 26, 27] 0) (.block 2 (.loop [0, 1, 2, 7, 8, 9, 25, 26, 27, 32, 33, 34] e54l13))))) (.reg e54r14 [0, 1, 2, 7, 8, 25, 26, 27] 0))))
def e54r16 : EE := .q 1 .len [.s 2] none <|
 .x 2 (.mks 3 8 [z]) [.r 1, .r 1] none [] <|
 .out [(2, .s 2), (7, .s 7), (8, .s 8), (13, .r 2)]
def e54r17 : EE := .out [(2, .s 2), (7, .s 7), (8, .s 8), (13, .s 13), (14, .c .nsl)]
def e54r18 : EE := .q 1 .len [.s 14] none <|
 .q 3 .len [.s 2] none <|
 .q 4 .lss [.r 1, .r 3] none <|
 .out [(2, .s 2), (7, .s 7), (8, .s 8), (13, .s 13), (14, .s 14), (94, .r 4)]
def e54r19 : EE := .out [(2, .s 2), (7, .s 7), (8, .s 8), (13, .s 13), (14, .s 14), (15, .c (.int .i64 (-1)))]
def e54r20 : EE := .q 1 .len [.s 2] none <|
 .out [(2, .s 2), (7, .s 7), (8, .s 8), (13, .s 13), (14, .s 14), (15, .s 15), (96, .r 1), (97, .c z)]
def e54r21 : EE := .q 0 .lss [.s 97, .s 96] none <|
 .out [(2, .s 2), (7, .s 7), (8, .s 8), (13, .s 13), (14, .s 14), (15, .s 15), (96, .s 96), (97, .s 97), (98, .r 0)]
def e54r22 : EE := .out [(2, .s 2), (7, .s 7), (8, .s 8), (13, .s 13), (14, .s 14), (15, .s 15), (16, .s 97), (96, .s 96), (97, .s 97)]
def e54r23 : EE := .q 2 (.ixs 1) [.s 13, .s 16] none <|
 .q 3 .ld [.r 2] none <|
 .q 4 .eql [.r 3, .c z] none <|
 .q 6 .mv [.s 7] (some (.r 4, true)) <|
 .q 7 .mv [.s 16] (some (.r 4, true)) <|
 .q 8 (.ixs 1) [.r 6, .r 7] (some (.r 4, true)) <|
 .q 9 .ld [.r 8] (some (.r 4, true)) <|
 .q 10 .eql [.r 9, .c z] (some (.r 4, true)) <|
 .q 11 .pick [.r 4, .r 10, .c (.bool false)] none <|
 .q 13 .mv [.s 15] (some (.r 11, true)) <|
 .q 14 .lss [.r 13, .c z] (some (.r 11, true)) <|
 .q 15 .mv [.r 14] (some (.r 11, true)) <|
 .q 16 .mv [.s 2] (some (.r 15, false)) <|
 .q 17 .mv [.s 16] (some (.r 15, false)) <|
 .q 18 (.ixs 1) [.r 16, .r 17] (some (.r 15, false)) <|
 .q 19 .ld [.r 18] (some (.r 15, false)) <|
 .q 20 (.ixs 1) [.r 19, .c z] (some (.r 15, false)) <|
 .q 21 .ld [.r 20] (some (.r 15, false)) <|
 .q 22 .mv [.s 2] (some (.r 15, false)) <|
 .q 23 .mv [.s 15] (some (.r 15, false)) <|
 .q 24 (.ixs 1) [.r 22, .r 23] (some (.r 15, false)) <|
 .q 25 .ld [.r 24] (some (.r 15, false)) <|
 .q 26 (.ixs 1) [.r 25, .c z] (some (.r 15, false)) <|
 .q 27 .ld [.r 26] (some (.r 15, false)) <|
 .q 28 .lss [.r 21, .r 27] (some (.r 15, false)) <|
 .q 29 .pick [.r 15, .c (.bool true), .r 28] (some (.r 11, true)) <|
 .q 30 .pick [.r 11, .r 29, .c (.bool false)] none <|
 .out [(2, .s 2), (7, .s 7), (8, .s 8), (13, .s 13), (14, .s 14), (15, .s 15), (16, .s 16), (96, .s 96), (97, .s 97), (130, .r 30)]
def e54r24 : EE := .out [(2, .s 2), (7, .s 7), (8, .s 8), (13, .s 13), (14, .s 14), (15, .s 16), (96, .s 96), (97, .s 97)]
def e54r25 : EE := .q 0 .add [.s 97, .c (.int .i64 1)] none <|
 .out [(2, .s 2), (7, .s 7), (8, .s 8), (13, .s 13), (14, .s 14), (15, .s 15), (96, .s 96), (97, .r 0)]
def e54l26 : EC := (.seq (.reg e54r21 [2, 7, 8, 13, 14, 15, 96, 97] 0) (.seq (.cond (.s 98) .skip (.exit 6)) (.seq (.block 7 (.seq (.reg e54r22 [2, 7, 8, 13, 14, 15, 96, 97] 0) (.seq (.reg e54r23 [2, 7, 8, 13, 14, 15, 16, 96, 97] 0) (.cond (.s 130) (.reg e54r24 [2, 7, 8, 13, 14, 16, 96, 97] 0) .skip)))) (.reg e54r25 [2, 7, 8, 13, 14, 15, 96, 97] 0))))
def e54r27 : EE := .q 2 (.ixs 1) [.s 13, .s 15] none <|
 .x 3 (.st 1) [.r 2, .c (.int .i64 1)] none [] <|
 .out [(2, .s 2), (7, .s 7), (8, .s 8), (13, .s 13), (14, .s 14), (15, .s 15)]
def e54r28 : EE := .q 3 (.ixs 1) [.s 2, .s 15] none <|
 .q 4 .ld [.r 3] none <|
 .x 5 (.bsl 55 1 [.nsl] [(0, 1)]) [.r 4] none [] <|
 .x 6 (.app 55 1 24 [.nsl]) [.s 14, .r 5] none [] <|
 .out [(2, .s 2), (7, .s 7), (8, .s 8), (13, .s 13), (14, .r 6), (15, .s 15)]
def e54r29 : EE := .q 2 (.ixs 1) [.s 8, .s 15] none <|
 .q 3 .ld [.r 2] none <|
 .q 4 .len [.r 3] none <|
 .out [(2, .s 2), (7, .s 7), (8, .s 8), (13, .s 13), (14, .s 14), (146, .r 3), (147, .r 4), (148, .c z)]
def e54r30 : EE := .q 0 .lss [.s 148, .s 147] none <|
 .out [(2, .s 2), (7, .s 7), (8, .s 8), (13, .s 13), (14, .s 14), (146, .s 146), (147, .s 147), (148, .s 148), (149, .r 0)]
def e54r31 : EE := .q 0 (.ixs 1) [.s 146, .s 148] none <|
 .q 1 .ld [.r 0] none <|
 .out [(2, .s 2), (7, .s 7), (8, .s 8), (13, .s 13), (14, .s 14), (18, .r 1), (146, .s 146), (147, .s 147), (148, .s 148)]
def e54r32 : EE := .q 2 (.ixs 1) [.s 7, .s 18] none <|
 .q 3 .ld [.r 2] none <|
 .q 4 .sub [.r 3, .c (.int .i64 1)] none <|
 .q 5 (.ixs 1) [.s 7, .s 18] none <|
 .x 6 (.st 1) [.r 5, .r 4] none [] <|
 .out [(2, .s 2), (7, .s 7), (8, .s 8), (13, .s 13), (14, .s 14), (146, .s 146), (147, .s 147), (148, .s 148)]
def e54r33 : EE := .q 0 .add [.s 148, .c (.int .i64 1)] none <|
 .out [(2, .s 2), (7, .s 7), (8, .s 8), (13, .s 13), (14, .s 14), (146, .s 146), (147, .s 147), (148, .r 0)]
def e54l34 : EC := (.seq (.reg e54r30 [2, 7, 8, 13, 14, 146, 147, 148] 0) (.seq (.cond (.s 149) .skip (.exit 8)) (.seq (.block 9 (.seq (.reg e54r31 [2, 7, 8, 13, 14, 146, 147, 148] 0) (.reg e54r32 [2, 7, 8, 13, 14, 18, 146, 147, 148] 0))) (.reg e54r33 [2, 7, 8, 13, 14, 146, 147, 148] 0))))
def e54l35 : EC := (.seq (.seq (.reg e54r18 [2, 7, 8, 13, 14] 0) (.cond (.s 94) .skip (.exit 4))) (.block 5 (.seq (.reg e54r19 [2, 7, 8, 13, 14] 0) (.seq (.seq (.reg e54r20 [2, 7, 8, 13, 14, 15] 0) (.block 6 (.loop [2, 7, 8, 13, 14, 15, 96, 97] e54l26))) (.seq (.reg e54r27 [2, 7, 8, 13, 14, 15] 0) (.seq (.reg e54r28 [2, 7, 8, 13, 14, 15] 0) (.seq (.reg e54r29 [2, 7, 8, 13, 14, 15] 0) (.block 8 (.loop [2, 7, 8, 13, 14, 146, 147, 148] e54l34)))))))))
def e54r36 : EE := .out [(6, .s 14)]
def e54 : EFn := ⟨(.seq (.reg e54r0 [0, 1, 2] 0) (.seq (.reg e54r1 [0, 1, 2] 0) (.seq (.reg e54r2 [0, 1, 2, 7] 0) (.seq (.seq (.reg e54r3 [0, 1, 2, 7, 8] 0) (.block 0 (.loop [0, 1, 2, 7, 8, 25, 26, 27] e54l15))) (.seq (.reg e54r16 [2, 7, 8] 0) (.seq (.reg e54r17 [2, 7, 8, 13] 0) (.seq (.block 4 (.loop [2, 7, 8, 13, 14] e54l35)) (.seq (.reg e54r36 [14] 0) .ret)))))))), [.slot 6], 160, 0⟩
theorem g54 : Good Try.prog 54 e54 := ⟨Try.f54, Try.func54, by kernel_rfl, by kernel_rfl, by kernel_rfl, by kernel_rfl⟩
end Go.Ev
