import Derived.Test.YtkdlojagpocnoaaGreatDoorEvB
import Derived.Test.YtkdlojagpocnoaaGreatDoorProg
set_option linter.unusedVariables false
namespace Go.Ev
open Go.Fw Go.Proofs
/-! (*concord/interf.Index).Attr -/
def e122r0 : EE := .x 0 (.box 40) [.s 1] none [] <|
 .x 1 (.box 33) [.s 2] none [] <|
 .x 2 (.alc [z, z, z, z, z, z, z, z] 46) [] none [] <|
 .out [(0, .s 0), (4, .r 0), (5, .r 1), (6, .r 2)]
def e122r1 : EE := .x 0 (.alc [z, z, z, z, z, z, z, z] 46) [] none [] <|
 .out [(0, .s 0), (4, .s 4), (5, .s 5), (6, .s 6), (7, .r 0)]
def e122r2 : EE := .q 1 .nl [.s 0] none <|
 .q 2 (.fld 0) [.r 1] none <|
 .q 3 .ld [.r 2] none <|
 .x 4 .rng [.r 3] none [] <|
 .out [(0, .s 0), (4, .s 4), (5, .s 5), (6, .s 6), (7, .s 7), (15, .r 4)]
def e122r3 : EE := .x 0 .nxt [.s 15] none [] <|
 .q 1 (.ext 0) [.r 0] none <|
 .out [(0, .s 0), (4, .s 4), (5, .s 5), (6, .s 6), (7, .s 7), (15, .s 15), (17, .r 1)]
def e122r4 : EE := .q 0 .ent [.s 15] none <|
 .q 1 (.ext 0) [.r 0] none <|
 .q 2 (.ext 1) [.r 0] none <|
 .x 3 (.alc [z, z] 40) [] none [] <|
 .x 4 (.alc [z, z, z, zs, zs, zs, zs, z] 317) [] none [] <|
 .x 5 (.st 2) [.r 3, .r 1] none [] <|
 .x 6 (.st 8) [.r 4, .r 2] none [] <|
 .out [(0, .s 0), (4, .s 4), (5, .s 5), (6, .s 6), (7, .s 7), (8, .r 3), (9, .r 4), (15, .s 15)]
def e122r5 : EE := .q 0 (.fld 0) [.s 8] none <|
 .q 1 .ld [.r 0] none <|
 .q 2 (.fld 0) [.s 4] none <|
 .q 3 .ld [.r 2] none <|
 .q 4 .eql [.r 1, .r 3] none <|
 .q 6 (.fld 1) [.s 8] (some (.r 4, true)) <|
 .q 7 .ld [.r 6] (some (.r 4, true)) <|
 .q 8 (.fld 1) [.s 4] (some (.r 4, true)) <|
 .q 9 .ld [.r 8] (some (.r 4, true)) <|
 .q 10 .geq [.r 7, .r 9] (some (.r 4, true)) <|
 .q 11 .pick [.r 4, .r 10, .c (.bool false)] none <|
 .q 13 (.fld 0) [.s 9] (some (.r 11, false)) <|
 .q 14 (.lda 7) [.r 13] (some (.r 11, false)) <|
 .q 15 (.lda 7) [.s 5] (some (.r 11, false)) <|
 .x 16 (.call 72) [.r 14, .r 15] (some (.r 11, false)) [] <|
 .q 17 .not [.r 16] (some (.r 11, false)) <|
 .q 18 .pick [.r 11, .c (.bool true), .r 17] none <|
 .out [(0, .s 0), (4, .s 4), (5, .s 5), (6, .s 6), (7, .s 7), (8, .s 8), (9, .s 9), (15, .s 15), (39, .r 18)]
def e122r6 : EE := .q 0 (.fld 0) [.s 7] none <|
 .q 1 .ld [.r 0] none <|
 .q 2 (.fld 7) [.s 9] none <|
 .q 3 .ld [.r 2] none <|
 .q 4 .add [.r 3, .c (.int .i64 1)] none <|
 .q 5 .mx [.r 1, .r 4] none <|
 .q 6 (.fld 0) [.s 7] none <|
 .x 7 (.st 1) [.r 6, .r 5] none [] <|
 .out [(0, .s 0), (4, .s 4), (5, .s 5), (6, .s 6), (7, .s 7), (8, .s 8), (15, .s 15)]
def e122r7 : EE := .q 0 (.fld 0) [.s 8] none <|
 .q 1 .ld [.r 0] none <|
 .q 2 (.fld 0) [.s 8] none <|
 .q 3 .ld [.r 2] none <|
 .q 4 (.fld 1) [.s 7] none <|
 .q 5 (.ixa 7 1) [.r 4, .r 3] none <|
 .q 6 .ld [.r 5] none <|
 .q 7 (.fld 1) [.s 8] none <|
 .q 8 .ld [.r 7] none <|
 .q 9 .mx [.r 6, .r 8] none <|
 .q 10 (.fld 1) [.s 7] none <|
 .q 11 (.ixa 7 1) [.r 10, .r 1] none <|
 .x 12 (.st 1) [.r 11, .r 9] none [] <|
 .out [(0, .s 0), (4, .s 4), (5, .s 5), (6, .s 6), (7, .s 7), (15, .s 15)]
def e122l8 : EC := (.seq (.reg e122r3 [0, 4, 5, 6, 7, 15] 0) (.seq (.cond (.s 17) .skip (.exit 0)) (.block 1 (.seq (.reg e122r4 [0, 4, 5, 6, 7, 15] 0) (.seq (.seq (.reg e122r5 [0, 4, 5, 6, 7, 8, 9, 15] 0) (.cond (.s 39) (.exit 1) .skip)) (.seq (.reg e122r6 [0, 4, 5, 6, 7, 8, 9, 15] 0) (.reg e122r7 [0, 4, 5, 6, 7, 8, 15] 0)))))))
def e122r9 : EE := .out [(0, .s 0), (4, .s 4), (6, .s 6), (7, .s 7), (59, .c z)]
def e122r10 : EE := .q 0 .lss [.s 59, .c (.int .i64 7)] none <|
 .out [(0, .s 0), (4, .s 4), (6, .s 6), (7, .s 7), (59, .s 59), (60, .r 0)]
def e122r11 : EE := .out [(0, .s 0), (4, .s 4), (6, .s 6), (7, .s 7), (10, .s 59), (59, .s 59)]
def e122r12 : EE := .q 1 (.fld 0) [.s 4] none <|
 .q 2 .ld [.r 1] none <|
 .q 3 .neq [.s 10, .r 2] none <|
 .out [(0, .s 0), (4, .s 4), (6, .s 6), (7, .s 7), (10, .s 10), (59, .s 59), (62, .r 3)]
def e122r13 : EE := .q 2 (.fld 1) [.s 7] none <|
 .q 3 (.ixa 7 1) [.r 2, .s 10] none <|
 .q 4 .ld [.r 3] none <|
 .q 7 .nl [.s 0] none <|
 .q 8 (.fld 1) [.r 7] none <|
 .q 9 (.ixa 7 1) [.r 8, .s 10] none <|
 .q 10 .ld [.r 9] none <|
 .q 11 .mx [.r 4, .r 10] none <|
 .q 12 (.fld 1) [.s 7] none <|
 .q 13 (.ixa 7 1) [.r 12, .s 10] none <|
 .x 14 (.st 1) [.r 13, .r 11] none [] <|
 .out [(0, .s 0), (4, .s 4), (6, .s 6), (7, .s 7), (59, .s 59)]
def e122r14 : EE := .q 0 (.lda 2) [.s 4] none <|
 .x 1 (.call 129) [.r 0] none [] <|
 .out [(0, .s 0), (4, .s 4), (6, .s 6), (7, .s 7), (10, .s 10), (59, .s 59), (81, .r 1)]
def e122r15 : EE := .q 2 (.fld 1) [.s 7] none <|
 .q 3 (.ixa 7 1) [.r 2, .s 10] none <|
 .q 4 .ld [.r 3] none <|
 .q 5 (.fld 1) [.s 4] none <|
 .q 6 .ld [.r 5] none <|
 .q 7 .sub [.r 6, .c (.int .i64 1)] none <|
 .q 8 .mx [.r 4, .r 7] none <|
 .q 9 (.fld 1) [.s 7] none <|
 .q 10 (.ixa 7 1) [.r 9, .s 10] none <|
 .x 11 (.st 1) [.r 10, .r 8] none [] <|
 .out [(0, .s 0), (4, .s 4), (6, .s 6), (7, .s 7), (59, .s 59)]
def e122r16 : EE := .q 0 .add [.s 59, .c (.int .i64 1)] none <|
 .out [(0, .s 0), (4, .s 4), (6, .s 6), (7, .s 7), (59, .r 0)]
def e122l17 : EC := (.seq (.reg e122r10 [0, 4, 6, 7, 59] 0) (.seq (.cond (.s 60) .skip (.exit 2)) (.seq (.block 3 (.seq (.reg e122r11 [0, 4, 6, 7, 59] 0) (.block 4 (.seq (.reg e122r12 [0, 4, 6, 7, 10, 59] 0) (.cond (.s 62) (.reg e122r13 [0, 4, 6, 7, 10, 59] 0) (.seq (.reg e122r14 [0, 4, 6, 7, 10, 59] 0) (.cond (.s 81) (.reg e122r15 [0, 4, 6, 7, 10, 59] 0) .skip))))))) (.reg e122r16 [0, 4, 6, 7, 59] 0))))
def e122r18 : EE := .q 0 (.lda 8) [.s 7] none <|
 .x 1 (.st 8) [.s 6, .r 0] none [] <|
 .out [(6, .s 6)]
def e122 : EFn := ⟨(.seq (.reg e122r0 [0, 1, 2] 0) (.seq (.reg e122r1 [0, 4, 5, 6] 0) (.seq (.seq (.reg e122r2 [0, 4, 5, 6, 7] 0) (.block 0 (.loop [0, 4, 5, 6, 7, 15] e122l8))) (.seq (.seq (.reg e122r9 [0, 4, 6, 7] 0) (.block 2 (.loop [0, 4, 6, 7, 59] e122l17))) (.seq (.reg e122r18 [6, 7] 0) .ret))))), [.cells 6 8], 97, 0⟩
theorem g122 : Good Tryz.prog 122 e122 := ⟨Tryz.f122, Tryz.func122, by kernel_rfl, by kernel_rfl, by kernel_rfl, by kernel_rfl⟩
/-! (*concord/core.Core).set -/
def e123r0 : EE := .x 0 (.box 40) [.s 1] none [] <|
 .x 1 (.box 48) [.s 2] none [] <|
 .out [(0, .s 0), (4, .r 0), (5, .r 1)]
def e123r1 : EE := .q 1 .nl [.s 0] none <|
 .q 2 (.fld 2) [.r 1] none <|
 .q 3 .ld [.r 2] none <|
 .q 4 (.lda 2) [.s 4] none <|
 .q 5 (.lda 21) [.s 5] none <|
 .x 6 (.call 105) [.r 3, .r 4, .r 5] none [] <|
 .q 7 .not [.r 6] none <|
 .out [(0, .s 0), (4, .s 4), (5, .s 5), (14, .r 7)]
def e123r2 : EE := .out [(6, .c (.bool false))]
def e123r3 : EE := .q 2 .nl [.s 0] none <|
 .q 3 (.fld 6) [.r 2] none <|
 .q 4 .ld [.r 3] none <|
 .q 5 (.lda 2) [.s 4] none <|
 .q 6 (.lda 21) [.s 5] none <|
 .x 7 (.call 199) [.r 5, .r 6] none [⟨4, .ld, [.r 3], none⟩] <|
 .x 8 (.bsl 103 1 [.nsl] [(0, 1)]) [.r 7] none [⟨4, .ld, [.r 3], none⟩] <|
 .x 9 (.app 103 1 24 [.nsl]) [.r 4, .r 8] none [] <|
 .q 10 .nl [.s 0] none <|
 .q 11 (.fld 6) [.r 10] none <|
 .x 12 (.st 1) [.r 11, .r 9] none [] <|
 .out [(0, .s 0), (4, .s 4), (5, .s 5)]
def e123r4 : EE := .q 1 (.lda 2) [.s 4] none <|
 .q 2 (.lda 21) [.s 5] none <|
 .x 3 (.call 106) [.s 0, .r 1, .r 2] none [] <|
 .out []
def e123r5 : EE := .out [(6, .c (.bool true))]
def e123 : EFn := ⟨(.seq (.reg e123r0 [0, 1, 2] 0) (.seq (.seq (.reg e123r1 [0, 4, 5] 0) (.cond (.s 14) (.seq (.reg e123r2 [] 0) .ret) .skip)) (.seq (.reg e123r3 [0, 4, 5] 0) (.seq (.reg e123r4 [0, 4, 5] 0) (.seq (.reg e123r5 [] 0) .ret))))), [.slot 6], 31, 0⟩
theorem g123 : Good Tryz.prog 123 e123 := ⟨Tryz.f123, Tryz.func123, by kernel_rfl, by kernel_rfl, by kernel_rfl, by kernel_rfl⟩
/-! (*concord/core.Core).begin -/
def e124r0 : EE := .x 2 (.call 202) [.s 0, .s 1] none [] <|
 .out [(0, .s 0), (1, .s 1)]
def e124r1 : EE := .q 4 .nl [.s 1] none <|
 .q 5 (.fld 21) [.r 4] none <|
 .q 6 (.lda 7) [.r 5] none <|
 .x 2 (.call 204) [.s 1] none [⟨6, (.lda 7), [.r 5], none⟩] <|
 .x 7 (.call 203) [.s 0, .r 2, .r 6] none [] <|
 .out []
def e124 : EFn := ⟨(.seq (.reg e124r0 [0, 1] 0) (.reg e124r1 [0, 1] 0)), [], 15, 0⟩
theorem g124 : Good Tryz.prog 124 e124 := ⟨Tryz.f124, Tryz.func124, by kernel_rfl, by kernel_rfl, by kernel_rfl, by kernel_rfl⟩
/-! slices.Index[[]concord/api.Inst,concord/api.Inst] -/
def e125r0 : EE := .x 0 (.box 40) [.s 1] none [] <|
 .out [(0, .s 0), (3, .r 0)]
def e125r1 : EE := .q 1 .len [.s 0] none <|
 .out [(0, .s 0), (3, .s 3), (7, .r 1), (8, .c z)]
def e125r2 : EE := .q 0 .lss [.s 8, .s 7] none <|
 .out [(0, .s 0), (3, .s 3), (7, .s 7), (8, .s 8), (9, .r 0)]
def e125r3 : EE := .out [(0, .s 0), (3, .s 3), (5, .s 8), (7, .s 7), (8, .s 8)]
def e125r4 : EE := .q 0 (.lda 2) [.s 3] none <|
 .q 3 (.ixs 2) [.s 0, .s 5] none <|
 .q 4 (.lda 2) [.r 3] none <|
 .q 5 (.eqc false [(.i .i64), (.i .i64)]) [.r 0, .r 4] none <|
 .out [(0, .s 0), (3, .s 3), (5, .s 5), (7, .s 7), (8, .s 8), (16, .r 5)]
def e125r5 : EE := .out [(4, .s 5)]
def e125r6 : EE := .q 0 .add [.s 8, .c (.int .i64 1)] none <|
 .out [(0, .s 0), (3, .s 3), (7, .s 7), (8, .r 0)]
def e125l7 : EC := (.seq (.reg e125r2 [0, 3, 7, 8] 0) (.seq (.cond (.s 9) .skip (.exit 0)) (.seq (.block 1 (.seq (.reg e125r3 [0, 3, 7, 8] 0) (.seq (.reg e125r4 [0, 3, 5, 7, 8] 0) (.cond (.s 16) (.seq (.reg e125r5 [5] 0) .ret) .skip)))) (.reg e125r6 [0, 3, 7, 8] 0))))
def e125r8 : EE := .out [(4, .c (.int .i64 (-1)))]
def e125 : EFn := ⟨(.seq (.reg e125r0 [0, 1] 0) (.seq (.seq (.reg e125r1 [0, 3] 0) (.block 0 (.loop [0, 3, 7, 8] e125l7))) (.seq (.reg e125r8 [] 0) .ret))), [.slot 4], 19, 0⟩
theorem g125 : Good Tryz.prog 125 e125 := ⟨Tryz.f125, Tryz.func125, by kernel_rfl, by kernel_rfl, by kernel_rfl, by kernel_rfl⟩
/-! concord/letter.named -/
def e126r0 : EE := .x 0 (.alc [(.bool false), (.bool false), (.bool false), (.bool false), (.bool false), (.bool false), (.bool false)] 232) [] none [] <|
 .out [(0, .s 0), (2, .r 0)]
def e126r1 : EE := .out [(2, .s 2), (4, .s 0)]
def e126r2 : EE := .q 0 .eql [.s 4, .c (.int .i64 1)] none <|
 .out [(2, .s 2), (4, .s 4), (5, .r 0)]
def e126r3 : EE := .q 0 .eql [.s 4, .c (.int .i64 3)] none <|
 .out [(2, .s 2), (4, .s 4), (5, .r 0)]
def e126r4 : EE := .q 0 (.bld [(.bool false), (.bool false), (.bool false), (.bool false), (.bool false), (.bool false), (.bool false)] [(0, 1), (1, 1), (2, 1), (3, 1)]) [.c (.bool true), .c (.bool true), .c (.bool true), .c (.bool true)] none <|
 .x 1 (.st 7) [.s 2, .r 0] none [] <|
 .out [(2, .s 2), (3, .c (.bool true))]
def e126r5 : EE := .q 0 .eql [.s 4, .c (.int .i64 2)] none <|
 .out [(2, .s 2), (4, .s 4), (9, .r 0)]
def e126r6 : EE := .q 0 (.bld [(.bool false), (.bool false), (.bool false), (.bool false), (.bool false), (.bool false), (.bool false)] [(0, 1), (1, 1), (3, 1)]) [.c (.bool true), .c (.bool true), .c (.bool true)] none <|
 .x 1 (.st 7) [.s 2, .r 0] none [] <|
 .out [(2, .s 2), (3, .c (.bool true))]
def e126r7 : EE := .q 0 .eql [.s 4, .c (.int .i64 4)] none <|
 .out [(2, .s 2), (4, .s 4), (12, .r 0)]
def e126r8 : EE := .q 0 .eql [.s 4, .c (.int .i64 6)] none <|
 .out [(2, .s 2), (4, .s 4), (12, .r 0)]
def e126r9 : EE := .q 0 .eql [.s 4, .c (.int .i64 8)] none <|
 .out [(2, .s 2), (4, .s 4), (12, .r 0)]
def e126r10 : EE := .q 0 (.bld [(.bool false), (.bool false), (.bool false), (.bool false), (.bool false), (.bool false), (.bool false)] [(0, 1), (1, 1)]) [.c (.bool true), .c (.bool true)] none <|
 .x 1 (.st 7) [.s 2, .r 0] none [] <|
 .out [(2, .s 2), (3, .c (.bool true))]
def e126r11 : EE := .q 0 .eql [.s 4, .c (.int .i64 5)] none <|
 .out [(2, .s 2), (4, .s 4), (17, .r 0)]
def e126r12 : EE := .q 0 (.bld [(.bool false), (.bool false), (.bool false), (.bool false), (.bool false), (.bool false), (.bool false)] [(0, 1), (2, 1), (3, 1)]) [.c (.bool true), .c (.bool true), .c (.bool true)] none <|
 .x 1 (.st 7) [.s 2, .r 0] none [] <|
 .out [(2, .s 2), (3, .c (.bool true))]
def e126r13 : EE := .q 0 .eql [.s 4, .c (.int .i64 7)] none <|
 .out [(2, .s 2), (4, .s 4), (20, .r 0)]
def e126r14 : EE := .q 0 (.bld [(.bool false), (.bool false), (.bool false), (.bool false), (.bool false), (.bool false), (.bool false)] [(0, 1), (1, 1), (4, 1)]) [.c (.bool true), .c (.bool true), .c (.bool true)] none <|
 .x 1 (.st 7) [.s 2, .r 0] none [] <|
 .out [(2, .s 2), (3, .c (.bool true))]
def e126r15 : EE := .q 0 .eql [.s 4, .c (.int .i64 9)] none <|
 .out [(2, .s 2), (4, .s 4), (23, .r 0)]
def e126r16 : EE := .q 0 .eql [.s 4, .c (.int .i64 11)] none <|
 .out [(2, .s 2), (4, .s 4), (23, .r 0)]
def e126r17 : EE := .q 0 (.bld [(.bool false), (.bool false), (.bool false), (.bool false), (.bool false), (.bool false), (.bool false)] [(5, 1)]) [.c (.bool true)] none <|
 .x 1 (.st 7) [.s 2, .r 0] none [] <|
 .out [(2, .s 2), (3, .c (.bool true))]
def e126r18 : EE := .q 0 .eql [.s 4, .c (.int .i64 10)] none <|
 .out [(2, .s 2), (27, .r 0)]
def e126r19 : EE := .q 0 (.bld [(.bool false), (.bool false), (.bool false), (.bool false), (.bool false), (.bool false), (.bool false)] [(6, 1)]) [.c (.bool true)] none <|
 .x 1 (.st 7) [.s 2, .r 0] none [] <|
 .out [(2, .s 2), (3, .c (.bool true))]
def e126r20 : EE := .q 0 (.bld [(.bool false), (.bool false), (.bool false), (.bool false), (.bool false), (.bool false), (.bool false)] []) [] none <|
 .x 1 (.st 7) [.s 2, .r 0] none [] <|
 .out [(2, .s 2), (3, .c (.bool false))]
def e126 : EFn := ⟨(.seq (.reg e126r0 [0] 0) (.seq (.seq (.reg e126r1 [0, 2] 0) (.block 0 (.seq (.seq (.reg e126r2 [2, 4] 0) (.cond (.s 5) .skip (.reg e126r3 [2, 4] 0))) (.cond (.s 5) (.seq (.reg e126r4 [2] 0) .ret) (.seq (.reg e126r5 [2, 4] 0) (.cond (.s 9) (.seq (.reg e126r6 [2] 0) .ret) (.seq (.seq (.reg e126r7 [2, 4] 0) (.cond (.s 12) .skip (.seq (.reg e126r8 [2, 4] 0) (.cond (.s 12) .skip (.reg e126r9 [2, 4] 0))))) (.cond (.s 12) (.seq (.reg e126r10 [2] 0) .ret) (.seq (.reg e126r11 [2, 4] 0) (.cond (.s 17) (.seq (.reg e126r12 [2] 0) .ret) (.seq (.reg e126r13 [2, 4] 0) (.cond (.s 20) (.seq (.reg e126r14 [2] 0) .ret) (.seq (.seq (.reg e126r15 [2, 4] 0) (.cond (.s 23) .skip (.reg e126r16 [2, 4] 0))) (.cond (.s 23) (.seq (.reg e126r17 [2] 0) .ret) (.seq (.reg e126r18 [2, 4] 0) (.cond (.s 27) (.seq (.reg e126r19 [2] 0) .ret) .skip)))))))))))))))) (.seq (.reg e126r20 [2] 0) .ret))), [.cells 2 7, .slot 3], 31, 0⟩
theorem g126 : Good Tryz.prog 126 e126 := ⟨Tryz.f126, Tryz.func126, by kernel_rfl, by kernel_rfl, by kernel_rfl, by kernel_rfl⟩
/-! concord/letter.place -/
def e127r0 : EE := .out [(0, .s 0)]
def e127r1 : EE := .q 1 .geq [.s 0, .c z] none <|
 .q 3 .mv [.s 0] (some (.r 1, true)) <|
 .q 4 .lss [.r 3, .c (.int .i64 7)] (some (.r 1, true)) <|
 .q 5 .pick [.r 1, .r 4, .c (.bool false)] none <|
 .out [(2, .r 5)]
def e127 : EFn := ⟨(.seq (.reg e127r0 [0] 0) (.seq (.reg e127r1 [0] 0) .ret)), [.slot 2], 9, 0⟩
theorem g127 : Good Tryz.prog 127 e127 := ⟨Tryz.f127, Tryz.func127, by kernel_rfl, by kernel_rfl, by kernel_rfl, by kernel_rfl⟩
/-! concord/letter.bare -/
def e128r0 : EE := .x 0 (.box 50) [.s 0] none [] <|
 .x 1 (.box 232) [.s 1] none [] <|
 .x 2 (.alc [z, z, z, z, z, z, z, z, z, z, zs, zs, zs, zs, z, z, z, z, z, z, z, z, z, z, z, z, z, z, z, z, zs, zs, zs, zs, z, z, z, z, z, z, z, z, (.bool false), z, z, z, z, z, z, z, zs] 50) [] none [] <|
 .out [(2, .r 0), (3, .r 1), (4, .r 2)]
def e128r1 : EE := .q 0 (.fld 0) [.s 2] none <|
 .q 1 .ld [.r 0] none <|
 .q 2 (.fld 1) [.s 2] none <|
 .q 3 .ld [.r 2] none <|
 .q 4 (.fld 2) [.s 2] none <|
 .q 5 .ld [.r 4] none <|
 .q 6 (.bld [z, z, z, z, z, z, z, z, z, z, zs, zs, zs, zs, z, z, z, z, z, z, z, z, z, z, z, z, z, z, z, z, zs, zs, zs, zs, z, z, z, z, z, z, z, z, (.bool false), z, z, z, z, z, z, z, zs] [(0, 1), (1, 1), (2, 1)]) [.r 1, .r 3, .r 5] none <|
 .x 7 (.alc [z, z, z, z, z, z, z, z, z, z, zs, zs, zs, zs, z, z, z, z, z, z, z, z, z, z, z, z, z, z, z, z, zs, zs, zs, zs, z, z, z, z, z, z, z, z, (.bool false), z, z, z, z, z, z, z, zs] 50) [] none [] <|
 .x 8 (.st 51) [.r 7, .r 6] none [] <|
 .out [(2, .s 2), (3, .s 3), (4, .s 4), (5, .r 7)]
def e128r2 : EE := .q 0 (.fld 0) [.s 3] none <|
 .q 1 .ld [.r 0] none <|
 .out [(2, .s 2), (3, .s 3), (4, .s 4), (5, .s 5), (14, .r 1)]
def e128r3 : EE := .q 0 (.fld 3) [.s 2] none <|
 .q 1 (.lda 2) [.r 0] none <|
 .q 2 (.fld 3) [.s 5] none <|
 .x 3 (.st 2) [.r 2, .r 1] none [] <|
 .out [(2, .s 2), (3, .s 3), (4, .s 4), (5, .s 5)]
def e128r4 : EE := .q 0 (.fld 1) [.s 3] none <|
 .q 1 .ld [.r 0] none <|
 .out [(2, .s 2), (3, .s 3), (4, .s 4), (5, .s 5), (19, .r 1)]
def e128r5 : EE := .q 0 (.fld 5) [.s 2] none <|
 .q 1 (.lda 2) [.r 0] none <|
 .q 2 (.fld 5) [.s 5] none <|
 .x 3 (.st 2) [.r 2, .r 1] none [] <|
 .out [(2, .s 2), (3, .s 3), (4, .s 4), (5, .s 5)]
def e128r6 : EE := .q 0 (.fld 2) [.s 3] none <|
 .q 1 .ld [.r 0] none <|
 .out [(2, .s 2), (3, .s 3), (4, .s 4), (5, .s 5), (24, .r 1)]
def e128r7 : EE := .q 0 (.fld 7) [.s 2] none <|
 .q 1 (.lda 7) [.r 0] none <|
 .q 2 (.fld 7) [.s 5] none <|
 .x 3 (.st 7) [.r 2, .r 1] none [] <|
 .out [(2, .s 2), (3, .s 3), (4, .s 4), (5, .s 5)]
def e128r8 : EE := .q 0 (.fld 3) [.s 3] none <|
 .q 1 .ld [.r 0] none <|
 .out [(2, .s 2), (3, .s 3), (4, .s 4), (5, .s 5), (29, .r 1)]
def e128r9 : EE := .q 0 (.fld 14) [.s 2] none <|
 .q 1 (.lda 8) [.r 0] none <|
 .q 2 (.fld 14) [.s 5] none <|
 .x 3 (.st 8) [.r 2, .r 1] none [] <|
 .out [(2, .s 2), (3, .s 3), (4, .s 4), (5, .s 5)]
def e128r10 : EE := .q 0 (.fld 4) [.s 3] none <|
 .q 1 .ld [.r 0] none <|
 .out [(2, .s 2), (3, .s 3), (4, .s 4), (5, .s 5), (34, .r 1)]
def e128r11 : EE := .q 0 (.fld 22) [.s 2] none <|
 .q 1 (.lda 21) [.r 0] none <|
 .q 2 (.fld 22) [.s 5] none <|
 .x 3 (.st 21) [.r 2, .r 1] none [] <|
 .out [(2, .s 2), (3, .s 3), (4, .s 4), (5, .s 5)]
def e128r12 : EE := .q 0 (.fld 5) [.s 3] none <|
 .q 1 .ld [.r 0] none <|
 .out [(2, .s 2), (3, .s 3), (4, .s 4), (5, .s 5), (39, .r 1)]
def e128r13 : EE := .q 0 (.fld 43) [.s 2] none <|
 .q 1 (.lda 7) [.r 0] none <|
 .q 2 (.fld 43) [.s 5] none <|
 .x 3 (.st 7) [.r 2, .r 1] none [] <|
 .out [(2, .s 2), (3, .s 3), (4, .s 4), (5, .s 5)]
def e128r14 : EE := .q 0 (.fld 6) [.s 3] none <|
 .q 1 .ld [.r 0] none <|
 .out [(2, .s 2), (4, .s 4), (5, .s 5), (44, .r 1)]
def e128r15 : EE := .q 0 (.fld 50) [.s 2] none <|
 .q 1 .ld [.r 0] none <|
 .q 2 (.fld 50) [.s 5] none <|
 .x 3 (.st 1) [.r 2, .r 1] none [] <|
 .out [(4, .s 4), (5, .s 5)]
def e128r16 : EE := .q 0 (.lda 51) [.s 5] none <|
 .x 1 (.st 51) [.s 4, .r 0] none [] <|
 .out [(4, .s 4)]
def e128 : EFn := ⟨(.seq (.reg e128r0 [0, 1] 0) (.seq (.reg e128r1 [2, 3, 4] 0) (.seq (.seq (.reg e128r2 [2, 3, 4, 5] 0) (.cond (.s 14) (.reg e128r3 [2, 3, 4, 5] 0) .skip)) (.seq (.seq (.reg e128r4 [2, 3, 4, 5] 0) (.cond (.s 19) (.reg e128r5 [2, 3, 4, 5] 0) .skip)) (.seq (.seq (.reg e128r6 [2, 3, 4, 5] 0) (.cond (.s 24) (.reg e128r7 [2, 3, 4, 5] 0) .skip)) (.seq (.seq (.reg e128r8 [2, 3, 4, 5] 0) (.cond (.s 29) (.reg e128r9 [2, 3, 4, 5] 0) .skip)) (.seq (.seq (.reg e128r10 [2, 3, 4, 5] 0) (.cond (.s 34) (.reg e128r11 [2, 3, 4, 5] 0) .skip)) (.seq (.seq (.reg e128r12 [2, 3, 4, 5] 0) (.cond (.s 39) (.reg e128r13 [2, 3, 4, 5] 0) .skip)) (.seq (.seq (.reg e128r14 [2, 3, 4, 5] 0) (.cond (.s 44) (.reg e128r15 [2, 4, 5] 0) .skip)) (.seq (.reg e128r16 [4, 5] 0) .ret)))))))))), [.cells 4 51], 49, 0⟩
theorem g128 : Good Tryz.prog 128 e128 := ⟨Tryz.f128, Tryz.func128, by kernel_rfl, by kernel_rfl, by kernel_rfl, by kernel_rfl⟩
/-! concord/inst.Right -/
def e129r0 : EE := .x 0 (.box 40) [.s 0] none [] <|
 .out [(1, .r 0)]
def e129r1 : EE := .q 0 (.fld 0) [.s 1] none <|
 .q 1 .ld [.r 0] none <|
 .q 2 .geq [.r 1, .c z] none <|
 .q 4 (.fld 0) [.s 1] (some (.r 2, true)) <|
 .q 5 .ld [.r 4] (some (.r 2, true)) <|
 .q 6 .lss [.r 5, .c (.int .i64 7)] (some (.r 2, true)) <|
 .q 7 .pick [.r 2, .r 6, .c (.bool false)] none <|
 .q 9 (.fld 1) [.s 1] (some (.r 7, true)) <|
 .q 10 .ld [.r 9] (some (.r 7, true)) <|
 .q 11 .geq [.r 10, .c (.int .i64 1)] (some (.r 7, true)) <|
 .q 12 .pick [.r 7, .r 11, .c (.bool false)] none <|
 .q 14 (.fld 1) [.s 1] (some (.r 12, true)) <|
 .q 15 .ld [.r 14] (some (.r 12, true)) <|
 .q 16 .leq [.r 15, .c (.int .i64 1073741824)] (some (.r 12, true)) <|
 .q 17 .pick [.r 12, .r 16, .c (.bool false)] none <|
 .out [(2, .r 17)]
def e129 : EFn := ⟨(.seq (.reg e129r0 [0] 0) (.seq (.reg e129r1 [1] 0) .ret)), [.slot 2], 21, 0⟩
theorem g129 : Good Tryz.prog 129 e129 := ⟨Tryz.f129, Tryz.func129, by kernel_rfl, by kernel_rfl, by kernel_rfl, by kernel_rfl⟩
/-! concord/inst.RightBallot -/
def e130r0 : EE := .x 0 (.box 42) [.s 0] none [] <|
 .out [(1, .r 0)]
def e130r1 : EE := .q 0 (.fld 0) [.s 1] none <|
 .q 1 .ld [.r 0] none <|
 .q 2 .geq [.r 1, .c z] none <|
 .q 4 (.fld 0) [.s 1] (some (.r 2, true)) <|
 .q 5 .ld [.r 4] (some (.r 2, true)) <|
 .q 6 .leq [.r 5, .c (.int .i64 1073741824)] (some (.r 2, true)) <|
 .q 7 .pick [.r 2, .r 6, .c (.bool false)] none <|
 .q 9 (.fld 1) [.s 1] (some (.r 7, true)) <|
 .q 10 .ld [.r 9] (some (.r 7, true)) <|
 .q 11 .geq [.r 10, .c z] (some (.r 7, true)) <|
 .q 12 .pick [.r 7, .r 11, .c (.bool false)] none <|
 .q 14 (.fld 1) [.s 1] (some (.r 12, true)) <|
 .q 15 .ld [.r 14] (some (.r 12, true)) <|
 .q 16 .lss [.r 15, .c (.int .i64 7)] (some (.r 12, true)) <|
 .q 17 .pick [.r 12, .r 16, .c (.bool false)] none <|
 .out [(2, .r 17)]
def e130 : EFn := ⟨(.seq (.reg e130r0 [0] 0) (.seq (.reg e130r1 [1] 0) .ret)), [.slot 2], 21, 0⟩
theorem g130 : Good Tryz.prog 130 e130 := ⟨Tryz.f130, Tryz.func130, by kernel_rfl, by kernel_rfl, by kernel_rfl, by kernel_rfl⟩
/-! concord/letter.RightCell -/
def e131r0 : EE := .x 0 (.box 48) [.s 0] none [] <|
 .out [(1, .r 0)]
def e131r1 : EE := .q 0 (.fld 0) [.s 1] none <|
 .q 1 .ld [.r 0] none <|
 .q 2 .lss [.r 1, .c z] none <|
 .q 4 (.fld 0) [.s 1] (some (.r 2, false)) <|
 .q 5 .ld [.r 4] (some (.r 2, false)) <|
 .q 6 .gtr [.r 5, .c (.int .i64 3)] (some (.r 2, false)) <|
 .q 7 .pick [.r 2, .c (.bool true), .r 6] none <|
 .q 9 (.fld 1) [.s 1] (some (.r 7, false)) <|
 .q 10 (.lda 2) [.r 9] (some (.r 7, false)) <|
 .x 11 (.call 130) [.r 10] (some (.r 7, false)) [] <|
 .q 12 .not [.r 11] (some (.r 7, false)) <|
 .q 13 .pick [.r 7, .c (.bool true), .r 12] none <|
 .q 15 (.fld 3) [.s 1] (some (.r 13, false)) <|
 .q 16 (.lda 2) [.r 15] (some (.r 13, false)) <|
 .x 17 (.call 130) [.r 16] (some (.r 13, false)) [] <|
 .q 18 .not [.r 17] (some (.r 13, false)) <|
 .q 19 .pick [.r 13, .c (.bool true), .r 18] none <|
 .q 21 (.fld 1) [.s 1] (some (.r 19, false)) <|
 .q 22 (.lda 2) [.r 21] (some (.r 19, false)) <|
 .q 23 (.fld 3) [.s 1] (some (.r 19, false)) <|
 .q 24 (.lda 2) [.r 23] (some (.r 19, false)) <|
 .x 25 (.call 205) [.r 22, .r 24] (some (.r 19, false)) [] <|
 .q 26 .pick [.r 19, .c (.bool true), .r 25] none <|
 .out [(1, .s 1), (29, .r 26)]
def e131r2 : EE := .out [(2, .c (.bool false))]
def e131r3 : EE := .q 0 (.fld 20) [.s 1] none <|
 .q 1 .ld [.r 0] none <|
 .q 3 (.fld 0) [.s 1] (some (.r 1, true)) <|
 .q 4 .ld [.r 3] (some (.r 1, true)) <|
 .q 5 .neq [.r 4, .c (.int .i64 1)] (some (.r 1, true)) <|
 .q 6 .mv [.r 5] (some (.r 1, true)) <|
 .q 7 (.fld 3) [.s 1] (some (.r 6, false)) <|
 .q 8 (.lda 2) [.r 7] (some (.r 6, false)) <|
 .q 9 (.bld [z, z] []) [] (some (.r 6, false)) <|
 .q 10 (.eqc true [(.i .i64), (.i .i64)]) [.r 8, .r 9] (some (.r 6, false)) <|
 .q 11 .pick [.r 6, .c (.bool true), .r 10] (some (.r 1, true)) <|
 .q 12 .pick [.r 1, .r 11, .c (.bool false)] none <|
 .q 14 (.fld 0) [.s 1] (some (.r 12, false)) <|
 .q 15 .ld [.r 14] (some (.r 12, false)) <|
 .q 16 .eql [.r 15, .c z] (some (.r 12, false)) <|
 .q 17 .mv [.r 16] (some (.r 12, false)) <|
 .q 18 (.lda 21) [.s 1] (some (.r 17, true)) <|
 .q 19 (.fld 1) [.s 1] (some (.r 17, true)) <|
 .q 20 (.lda 2) [.r 19] (some (.r 17, true)) <|
 .q 21 (.bld [z, z, z, z, z, z, z, z, zs, zs, zs, zs, z, z, z, z, z, z, z, z, (.bool false)] [(1, 2)]) [.r 20] (some (.r 17, true)) <|
 .q 22 (.eqc true [(.i .i64), (.i .i64), (.i .i64), (.i .i64), (.i .i64), (.i .i64), (.i .i64), (.i .i64), .s, .s, .s, .s, (.i .i64), (.i .i64), (.i .i64), (.i .i64), (.i .i64), (.i .i64), (.i .i64), (.i .i64), .b]) [.r 18, .r 21] (some (.r 17, true)) <|
 .q 23 .pick [.r 17, .r 22, .c (.bool false)] (some (.r 12, false)) <|
 .q 24 .pick [.r 12, .c (.bool true), .r 23] none <|
 .out [(1, .s 1), (54, .r 24)]
def e131r4 : EE := .out [(2, .c (.bool false))]
def e131r5 : EE := .q 0 (.fld 5) [.s 1] none <|
 .q 1 (.lda 7) [.r 0] none <|
 .x 2 (.call 41) [.r 1] none [] <|
 .q 4 (.fld 12) [.s 1] (some (.r 2, true)) <|
 .q 5 (.lda 8) [.r 4] (some (.r 2, true)) <|
 .x 6 (.call 100) [.r 5] (some (.r 2, true)) [] <|
 .q 7 .pick [.r 2, .r 6, .c (.bool false)] none <|
 .out [(2, .r 7)]
def e131 : EFn := ⟨(.seq (.reg e131r0 [0] 0) (.seq (.seq (.reg e131r1 [1] 0) (.cond (.s 29) (.seq (.reg e131r2 [] 0) .ret) .skip)) (.seq (.seq (.reg e131r3 [1] 0) (.cond (.s 54) (.seq (.reg e131r4 [] 0) .ret) .skip)) (.seq (.reg e131r5 [1] 0) .ret)))), [.slot 2], 63, 0⟩
theorem g131 : Good Tryz.prog 131 e131 := ⟨Tryz.f131, Tryz.func131, by kernel_rfl, by kernel_rfl, by kernel_rfl, by kernel_rfl⟩
/-! (*concord/core.Core).one -/
def e134r0 : EE := .out [(0, .s 0), (1, .s 1)]
def e134r1 : EE := .q 1 .geq [.s 1, .c z] none <|
 .q 3 .mv [.s 1] (some (.r 1, true)) <|
 .q 4 .mv [.s 0] (some (.r 1, true)) <|
 .q 5 .nl [.r 4] (some (.r 1, true)) <|
 .q 6 (.fld 0) [.r 5] (some (.r 1, true)) <|
 .q 7 .ld [.r 6] (some (.r 1, true)) <|
 .q 8 .lss [.r 3, .r 7] (some (.r 1, true)) <|
 .q 9 .pick [.r 1, .r 8, .c (.bool false)] none <|
 .out [(4, .r 9)]
def e134 : EFn := ⟨(.seq (.reg e134r0 [0, 1] 0) (.seq (.reg e134r1 [0, 1] 0) .ret)), [.slot 4], 15, 0⟩
theorem g134 : Good Tryz.prog 134 e134 := ⟨Tryz.f134, Tryz.func134, by kernel_rfl, by kernel_rfl, by kernel_rfl, by kernel_rfl⟩
/-! (*concord/log.Log).Gone -/
def e135r0 : EE := .x 0 (.box 40) [.s 1] none [] <|
 .out [(0, .s 0), (3, .r 0)]
def e135r1 : EE := .q 0 (.lda 2) [.s 3] none <|
 .x 1 (.call 129) [.r 0] none [] <|
 .q 3 (.fld 1) [.s 3] (some (.r 1, true)) <|
 .q 4 .ld [.r 3] (some (.r 1, true)) <|
 .q 5 .mv [.s 0] (some (.r 1, true)) <|
 .q 6 (.fld 0) [.s 3] (some (.r 1, true)) <|
 .q 7 .ld [.r 6] (some (.r 1, true)) <|
 .q 8 .nl [.r 5] (some (.r 1, true)) <|
 .q 9 (.fld 1) [.r 8] (some (.r 1, true)) <|
 .q 10 (.ixa 7 1) [.r 9, .r 7] (some (.r 1, true)) <|
 .q 11 .ld [.r 10] (some (.r 1, true)) <|
 .q 12 .leq [.r 4, .r 11] (some (.r 1, true)) <|
 .q 13 .pick [.r 1, .r 12, .c (.bool false)] none <|
 .out [(4, .r 13)]
def e135 : EFn := ⟨(.seq (.reg e135r0 [0, 1] 0) (.seq (.reg e135r1 [0, 3] 0) .ret)), [.slot 4], 19, 0⟩
theorem g135 : Good Tryz.prog 135 e135 := ⟨Tryz.f135, Tryz.func135, by kernel_rfl, by kernel_rfl, by kernel_rfl, by kernel_rfl⟩
/-! (*concord/core.Core).asked -/
def e136r0 : EE := .x 0 (.box 50) [.s 1] none [] <|
 .out [(0, .s 0), (3, .r 0)]
def e136r1 : EE := .q 1 .nl [.s 0] none <|
 .q 2 (.fld 2) [.r 1] none <|
 .q 3 .ld [.r 2] none <|
 .q 4 (.fld 3) [.s 3] none <|
 .q 5 (.lda 2) [.r 4] none <|
 .both false
 (.x 6 (.call 201) [.r 3, .r 5] none [] <|
 .q 8 (.ext 0) [.r 6] none <|
 .q 9 (.ext 1) [.r 6] none <|
 .x 10 (.alc [z, z, z, z, z, z, z, z, zs, zs, zs, zs, z, z, z, z, z, z, z, z, (.bool false)] 48) [] none [⟨3, .ld, [.r 2], none⟩, ⟨5, (.lda 2), [.r 4], none⟩] <|
 .x 11 (.st 21) [.r 10, .r 8] none [] <|
 .out [(0, .s 0), (3, .s 3), (4, .r 10)])
 (.x 10 (.alc [z, z, z, z, z, z, z, z, zs, zs, zs, zs, z, z, z, z, z, z, z, z, (.bool false)] 48) [] none [⟨3, .ld, [.r 2], none⟩, ⟨5, (.lda 2), [.r 4], none⟩] <|
 .x 6 (.call 201) [.r 3, .r 5] none [] <|
 .q 8 (.ext 0) [.r 6] none <|
 .q 9 (.ext 1) [.r 6] none <|
 .x 11 (.st 21) [.r 10, .r 8] none [] <|
 .out [(0, .s 0), (3, .s 3), (4, .r 10)])
def e136r2 : EE := .q 0 (.fld 0) [.s 4] none <|
 .q 1 .ld [.r 0] none <|
 .q 2 .eql [.r 1, .c (.int .i64 3)] none <|
 .out [(0, .s 0), (3, .s 3), (4, .s 4), (21, .r 2)]
def e136r3 : EE := .q 1 (.fld 1) [.s 3] none <|
 .q 2 .ld [.r 1] none <|
 .q 3 (.fld 3) [.s 3] none <|
 .q 4 (.lda 2) [.r 3] none <|
 .q 5 (.fld 5) [.s 4] none <|
 .q 6 (.lda 7) [.r 5] none <|
 .q 7 (.fld 12) [.s 4] none <|
 .q 8 (.lda 8) [.r 7] none <|
 .q 9 (.bld [z, z, z, z, z, z, z, z, z, z, zs, zs, zs, zs, z, z, z, z, z, z, z, z, z, z, z, z, z, z, z, z, zs, zs, zs, zs, z, z, z, z, z, z, z, z, (.bool false), z, z, z, z, z, z, z, zs] [(0, 1), (3, 2), (7, 7), (14, 8)]) [.c (.int .i64 5), .r 4, .r 6, .r 8] none <|
 .x 10 (.call 207) [.s 0, .r 2, .r 9] none [] <|
 .out []
def e136r4 : EE := .q 0 (.fld 5) [.s 3] none <|
 .q 1 (.lda 2) [.r 0] none <|
 .q 2 (.fld 1) [.s 4] none <|
 .q 3 (.lda 2) [.r 2] none <|
 .x 4 (.call 205) [.r 1, .r 3] none [] <|
 .out [(0, .s 0), (3, .s 3), (4, .s 4), (37, .r 4)]
def e136r5 : EE := .q 1 (.fld 1) [.s 3] none <|
 .q 2 .ld [.r 1] none <|
 .q 3 (.fld 3) [.s 3] none <|
 .q 4 (.lda 2) [.r 3] none <|
 .q 5 (.fld 1) [.s 4] none <|
 .q 6 (.lda 2) [.r 5] none <|
 .q 7 (.bld [z, z, z, z, z, z, z, z, z, z, zs, zs, zs, zs, z, z, z, z, z, z, z, z, z, z, z, z, z, z, z, z, zs, zs, zs, zs, z, z, z, z, z, z, z, z, (.bool false), z, z, z, z, z, z, z, zs] [(0, 1), (3, 2), (5, 2)]) [.c (.int .i64 8), .r 4, .r 6] none <|
 .x 8 (.call 207) [.s 0, .r 2, .r 7] none [] <|
 .out []
def e136r6 : EE := .q 1 (.fld 3) [.s 3] none <|
 .q 2 (.lda 2) [.r 1] none <|
 .x 3 (.call 208) [.s 0, .r 2] none [] <|
 .out [(0, .s 0), (3, .s 3), (4, .s 4), (6, .r 3)]
def e136r7 : EE := .q 1 (.eqp true) [.s 6, .c .nptr] none <|
 .q 3 .mv [.s 6] (some (.r 1, true)) <|
 .q 4 .nl [.r 3] (some (.r 1, true)) <|
 .q 5 (.fld 3) [.r 4] (some (.r 1, true)) <|
 .q 6 (.lda 2) [.r 5] (some (.r 1, true)) <|
 .q 7 (.fld 5) [.s 3] (some (.r 1, true)) <|
 .q 8 (.lda 2) [.r 7] (some (.r 1, true)) <|
 .x 9 (.call 205) [.r 6, .r 8] (some (.r 1, true)) [] <|
 .q 10 .pick [.r 1, .r 9, .c (.bool false)] none <|
 .out [(0, .s 0), (3, .s 3), (4, .s 4), (61, .r 10)]
def e136r8 : EE := .q 1 (.fld 3) [.s 3] none <|
 .q 2 (.lda 2) [.r 1] none <|
 .x 3 (.call 209) [.s 0, .r 2] none [] <|
 .out [(0, .s 0), (3, .s 3), (4, .s 4)]
def e136r9 : EE := .q 0 (.fld 0) [.s 4] none <|
 .q 1 .ld [.r 0] none <|
 .q 2 .neq [.r 1, .c z] none <|
 .q 4 (.fld 3) [.s 4] (some (.r 2, true)) <|
 .q 5 (.lda 2) [.r 4] (some (.r 2, true)) <|
 .q 6 (.fld 5) [.s 3] (some (.r 2, true)) <|
 .q 7 (.lda 2) [.r 6] (some (.r 2, true)) <|
 .q 8 (.eqc false [(.i .i64), (.i .i64)]) [.r 5, .r 7] (some (.r 2, true)) <|
 .q 9 .pick [.r 2, .r 8, .c (.bool false)] none <|
 .out [(0, .s 0), (3, .s 3), (4, .s 4), (7, .r 9)]
def e136r10 : EE := .q 0 (.fld 0) [.s 3] none <|
 .q 1 .ld [.r 0] none <|
 .out [(0, .s 0), (3, .s 3), (4, .s 4), (7, .s 7), (77, .r 1)]
def e136r11 : EE := .q 0 .eql [.s 77, .c (.int .i64 1)] none <|
 .out [(0, .s 0), (3, .s 3), (4, .s 4), (7, .s 7), (77, .s 77), (78, .r 0)]
def e136r12 : EE := .q 1 (.lda 51) [.s 3] none <|
 .q 2 (.lda 21) [.s 4] none <|
 .x 4 (.call 210) [.s 0, .r 1, .r 2, .s 7] none [] <|
 .out []
def e136r13 : EE := .q 0 .eql [.s 77, .c (.int .i64 3)] none <|
 .out [(0, .s 0), (3, .s 3), (4, .s 4), (7, .s 7), (77, .s 77), (85, .r 0)]
def e136r14 : EE := .q 2 (.fld 0) [.s 4] (some (.s 7, true)) <|
 .q 3 .ld [.r 2] (some (.s 7, true)) <|
 .q 4 .eql [.r 3, .c (.int .i64 2)] (some (.s 7, true)) <|
 .q 5 .pick [.s 7, .r 4, .c (.bool false)] none <|
 .out [(0, .s 0), (3, .s 3), (8, .r 5)]
def e136r15 : EE := .q 2 .mv [.s 0] (some (.s 8, false)) <|
 .q 3 (.fld 3) [.s 3] (some (.s 8, false)) <|
 .q 4 (.lda 2) [.r 3] (some (.s 8, false)) <|
 .q 5 (.fld 5) [.s 3] (some (.s 8, false)) <|
 .q 6 (.lda 2) [.r 5] (some (.s 8, false)) <|
 .q 7 (.fld 5) [.s 3] (some (.s 8, false)) <|
 .q 8 (.lda 2) [.r 7] (some (.s 8, false)) <|
 .q 9 (.fld 7) [.s 3] (some (.s 8, false)) <|
 .q 10 (.lda 7) [.r 9] (some (.s 8, false)) <|
 .q 11 (.fld 14) [.s 3] (some (.s 8, false)) <|
 .q 12 (.lda 8) [.r 11] (some (.s 8, false)) <|
 .q 13 (.bld [z, z, z, z, z, z, z, z, zs, zs, zs, zs, z, z, z, z, z, z, z, z, (.bool false)] [(0, 1), (1, 2), (3, 2), (5, 7), (12, 8)]) [.c (.int .i64 2), .r 6, .r 8, .r 10, .r 12] (some (.s 8, false)) <|
 .x 14 (.call 123) [.r 2, .r 4, .r 13] (some (.s 8, false)) [] <|
 .q 15 .pick [.s 8, .c (.bool true), .r 14] none <|
 .out [(0, .s 0), (3, .s 3), (108, .r 15)]
def e136r16 : EE := .q 1 (.fld 1) [.s 3] none <|
 .q 2 .ld [.r 1] none <|
 .q 3 (.fld 3) [.s 3] none <|
 .q 4 (.lda 2) [.r 3] none <|
 .q 5 (.fld 5) [.s 3] none <|
 .q 6 (.lda 2) [.r 5] none <|
 .q 7 (.bld [z, z, z, z, z, z, z, z, z, z, zs, zs, zs, zs, z, z, z, z, z, z, z, z, z, z, z, z, z, z, z, z, zs, zs, zs, zs, z, z, z, z, z, z, z, z, (.bool false), z, z, z, z, z, z, z, zs] [(0, 1), (3, 2), (5, 2)]) [.c (.int .i64 4), .r 4, .r 6] none <|
 .x 8 (.call 207) [.s 0, .r 2, .r 7] none [] <|
 .out []
def e136r17 : EE := .q 0 .eql [.s 77, .c (.int .i64 6)] none <|
 .out [(0, .s 0), (3, .s 3), (4, .s 4), (118, .r 0)]
def e136r18 : EE := .q 0 (.fld 1) [.s 4] none <|
 .q 1 (.lda 2) [.r 0] none <|
 .q 2 (.fld 5) [.s 3] none <|
 .q 3 (.lda 2) [.r 2] none <|
 .q 4 (.eqc true [(.i .i64), (.i .i64)]) [.r 1, .r 3] none <|
 .out [(0, .s 0), (3, .s 3), (4, .s 4), (124, .r 4)]
def e136r19 : EE := .q 0 (.fld 5) [.s 3] none <|
 .q 1 (.lda 2) [.r 0] none <|
 .q 2 (.fld 1) [.s 4] none <|
 .x 3 (.st 2) [.r 2, .r 1] none [] <|
 .out [(0, .s 0), (3, .s 3), (4, .s 4)]
def e136r20 : EE := .q 1 (.fld 3) [.s 3] none <|
 .q 2 (.lda 2) [.r 1] none <|
 .q 3 (.lda 21) [.s 4] none <|
 .x 4 (.call 123) [.s 0, .r 2, .r 3] none [] <|
 .q 5 .not [.r 4] none <|
 .out [(0, .s 0), (3, .s 3), (4, .s 4), (133, .r 5)]
def e136r21 : EE := .q 1 (.fld 1) [.s 3] none <|
 .q 2 .ld [.r 1] none <|
 .q 3 (.fld 3) [.s 3] none <|
 .q 4 (.lda 2) [.r 3] none <|
 .q 5 (.fld 5) [.s 3] none <|
 .q 6 (.lda 2) [.r 5] none <|
 .q 7 (.lda 21) [.s 4] none <|
 .q 8 (.bld [z, z, z, z, z, z, z, z, z, z, zs, zs, zs, zs, z, z, z, z, z, z, z, z, z, z, z, z, z, z, z, z, zs, zs, zs, zs, z, z, z, z, z, z, z, z, (.bool false), z, z, z, z, z, z, z, zs] [(0, 1), (3, 2), (5, 2), (22, 21)]) [.c (.int .i64 7), .r 4, .r 6, .r 7] none <|
 .x 9 (.call 207) [.s 0, .r 2, .r 8] none [] <|
 .out []
def e136 : EFn := ⟨(.seq (.reg e136r0 [0, 1] 0) (.seq (.reg e136r1 [0, 3] 12) (.seq (.seq (.reg e136r2 [0, 3, 4] 0) (.cond (.s 21) (.seq (.reg e136r3 [0, 3, 4] 0) .ret) .skip)) (.seq (.seq (.reg e136r4 [0, 3, 4] 0) (.cond (.s 37) (.seq (.reg e136r5 [0, 3, 4] 0) .ret) .skip)) (.seq (.seq (.reg e136r6 [0, 3, 4] 0) (.seq (.reg e136r7 [0, 3, 4, 6] 0) (.cond (.s 61) (.reg e136r8 [0, 3, 4] 0) .skip))) (.seq (.reg e136r9 [0, 3, 4] 0) (.seq (.reg e136r10 [0, 3, 4, 7] 0) (.block 0 (.seq (.reg e136r11 [0, 3, 4, 7, 77] 0) (.cond (.s 78) (.reg e136r12 [0, 3, 4, 7] 0) (.seq (.reg e136r13 [0, 3, 4, 7, 77] 0) (.cond (.s 85) (.seq (.reg e136r14 [0, 3, 4, 7] 0) (.seq (.reg e136r15 [0, 3, 8] 0) (.cond (.s 108) (.reg e136r16 [0, 3] 0) .skip))) (.seq (.reg e136r17 [0, 3, 4, 77] 0) (.cond (.s 118) (.seq (.seq (.reg e136r18 [0, 3, 4] 0) (.cond (.s 124) (.seq (.reg e136r19 [0, 3, 4] 0) (.seq (.reg e136r20 [0, 3, 4] 0) (.cond (.s 133) .ret .skip))) .skip)) (.reg e136r21 [0, 3, 4] 0)) .skip)))))))))))))), [], 144, 0⟩
theorem g136 : Good Tryz.prog 136 e136 := ⟨Tryz.f136, Tryz.func136, by kernel_rfl, by kernel_rfl, by kernel_rfl, by kernel_rfl⟩
/-! (*concord/core.Core).told -/
def e137r0 : EE := .x 0 (.box 50) [.s 1] none [] <|
 .out [(0, .s 0), (3, .r 0)]
def e137r1 : EE := .q 1 .nl [.s 0] none <|
 .q 2 (.fld 2) [.r 1] none <|
 .q 3 .ld [.r 2] none <|
 .q 4 (.fld 3) [.s 3] none <|
 .q 5 (.lda 2) [.r 4] none <|
 .both false
 (.x 6 (.call 201) [.r 3, .r 5] none [] <|
 .q 8 (.ext 0) [.r 6] none <|
 .q 9 (.ext 1) [.r 6] none <|
 .x 10 (.alc [z, z, z, z, z, z, z, z, zs, zs, zs, zs, z, z, z, z, z, z, z, z, (.bool false)] 48) [] none [⟨3, .ld, [.r 2], none⟩, ⟨5, (.lda 2), [.r 4], none⟩] <|
 .x 11 (.st 21) [.r 10, .r 8] none [] <|
 .out [(0, .s 0), (3, .s 3), (4, .r 10)])
 (.x 10 (.alc [z, z, z, z, z, z, z, z, zs, zs, zs, zs, z, z, z, z, z, z, z, z, (.bool false)] 48) [] none [⟨3, .ld, [.r 2], none⟩, ⟨5, (.lda 2), [.r 4], none⟩] <|
 .x 6 (.call 201) [.r 3, .r 5] none [] <|
 .q 8 (.ext 0) [.r 6] none <|
 .q 9 (.ext 1) [.r 6] none <|
 .x 11 (.st 21) [.r 10, .r 8] none [] <|
 .out [(0, .s 0), (3, .s 3), (4, .r 10)])
def e137r2 : EE := .q 0 (.fld 0) [.s 4] none <|
 .q 1 .ld [.r 0] none <|
 .q 2 .eql [.r 1, .c (.int .i64 3)] none <|
 .out [(0, .s 0), (3, .s 3), (4, .s 4), (18, .r 2)]
def e137r3 : EE := .q 1 (.fld 3) [.s 3] none <|
 .q 2 (.lda 2) [.r 1] none <|
 .x 3 (.call 209) [.s 0, .r 2] none [] <|
 .out [(0, .s 0), (3, .s 3), (4, .s 4)]
def e137r4 : EE := .q 1 (.fld 3) [.s 3] none <|
 .q 2 (.lda 2) [.r 1] none <|
 .q 3 (.fld 1) [.s 4] none <|
 .q 4 (.lda 2) [.r 3] none <|
 .q 5 (.fld 3) [.s 4] none <|
 .q 6 (.lda 2) [.r 5] none <|
 .q 7 (.fld 7) [.s 3] none <|
 .q 8 (.lda 7) [.r 7] none <|
 .q 9 (.fld 14) [.s 3] none <|
 .q 10 (.lda 8) [.r 9] none <|
 .q 11 (.bld [z, z, z, z, z, z, z, z, zs, zs, zs, zs, z, z, z, z, z, z, z, z, (.bool false)] [(0, 1), (1, 2), (3, 2), (5, 7), (12, 8)]) [.c (.int .i64 3), .r 4, .r 6, .r 8, .r 10] none <|
 .x 12 (.call 123) [.s 0, .r 2, .r 11] none [] <|
 .out []
def e137 : EFn := ⟨(.seq (.reg e137r0 [0, 1] 0) (.seq (.reg e137r1 [0, 3] 12) (.seq (.seq (.reg e137r2 [0, 3, 4] 0) (.cond (.s 18) .ret .skip)) (.seq (.reg e137r3 [0, 3, 4] 0) (.reg e137r4 [0, 3, 4] 0))))), [], 36, 0⟩
theorem g137 : Good Tryz.prog 137 e137 := ⟨Tryz.f137, Tryz.func137, by kernel_rfl, by kernel_rfl, by kernel_rfl, by kernel_rfl⟩
/-! (*concord/core.Core).answered -/
def e139r0 : EE := .x 0 (.box 50) [.s 1] none [] <|
 .out [(0, .s 0), (3, .r 0)]
def e139r1 : EE := .q 1 (.fld 3) [.s 3] none <|
 .q 2 (.lda 2) [.r 1] none <|
 .x 3 (.call 208) [.s 0, .r 2] none [] <|
 .out [(0, .s 0), (3, .s 3), (4, .r 3)]
def e139r2 : EE := .q 1 (.eqp false) [.s 4, .c .nptr] none <|
 .q 3 .mv [.s 4] (some (.r 1, false)) <|
 .q 4 .nl [.r 3] (some (.r 1, false)) <|
 .q 5 (.fld 3) [.r 4] (some (.r 1, false)) <|
 .q 6 (.lda 2) [.r 5] (some (.r 1, false)) <|
 .q 7 (.fld 5) [.s 3] (some (.r 1, false)) <|
 .q 8 (.lda 2) [.r 7] (some (.r 1, false)) <|
 .q 9 (.eqc true [(.i .i64), (.i .i64)]) [.r 6, .r 8] (some (.r 1, false)) <|
 .q 10 .pick [.r 1, .c (.bool true), .r 9] none <|
 .q 12 .mv [.s 4] (some (.r 10, false)) <|
 .q 13 (.fld 1) [.s 3] (some (.r 10, false)) <|
 .q 14 .ld [.r 13] (some (.r 10, false)) <|
 .q 15 .nl [.r 12] (some (.r 10, false)) <|
 .q 16 (.fld 21) [.r 15] (some (.r 10, false)) <|
 .q 17 (.ixa 7 1) [.r 16, .r 14] (some (.r 10, false)) <|
 .q 18 .ld [.r 17] (some (.r 10, false)) <|
 .q 19 .neq [.r 18, .c z] (some (.r 10, false)) <|
 .q 20 .pick [.r 10, .c (.bool true), .r 19] none <|
 .out [(0, .s 0), (3, .s 3), (4, .s 4), (30, .r 20)]
def e139r3 : EE := .x 0 .mkm [] none [] <|
 .x 1 (.mup false [(.i .i64)]) [.r 0, .c (.int .i64 2), .c z] none [] <|
 .x 2 (.mup false [(.i .i64)]) [.r 0, .c (.int .i64 4), .c (.int .i64 1)] none [] <|
 .x 3 (.mup false [(.i .i64)]) [.r 0, .c (.int .i64 7), .c (.int .i64 2)] none [] <|
 .q 5 (.fld 0) [.s 3] none <|
 .q 6 .ld [.r 5] none <|
 .q 7 (.lkp false [(.i .i64)] z false) [.r 0, .r 6] none <|
 .out [(0, .s 0), (3, .s 3), (4, .s 4), (5, .r 7)]
def e139r4 : EE := .q 1 .nl [.s 4] none <|
 .q 2 (.fld 2) [.r 1] none <|
 .q 3 .ld [.r 2] none <|
 .q 5 .neq [.r 3, .s 5] none <|
 .out [(0, .s 0), (3, .s 3), (4, .s 4), (5, .s 5), (41, .r 5)]
def e139r5 : EE := .q 1 (.fld 1) [.s 3] none <|
 .q 2 .ld [.r 1] none <|
 .q 3 .nl [.s 4] none <|
 .q 4 (.fld 21) [.r 3] none <|
 .q 5 (.ixa 7 1) [.r 4, .r 2] none <|
 .x 6 (.st 1) [.r 5, .c (.int .i64 1)] none [] <|
 .out [(0, .s 0), (3, .s 3), (4, .s 4), (5, .s 5)]
def e139r6 : EE := .q 1 .nl [.s 4] none <|
 .q 2 (.fld 30) [.r 1] none <|
 .q 3 .ld [.r 2] none <|
 .q 4 .add [.r 3, .c (.int .i64 1)] none <|
 .q 5 .nl [.s 4] none <|
 .q 6 (.fld 30) [.r 5] none <|
 .x 7 (.st 1) [.r 6, .r 4] none [] <|
 .out [(0, .s 0), (3, .s 3), (4, .s 4), (5, .s 5)]
def e139r7 : EE := .out [(0, .s 0), (3, .s 3), (4, .s 4), (55, .s 5)]
def e139r8 : EE := .q 0 .eql [.s 55, .c z] none <|
 .out [(0, .s 0), (3, .s 3), (4, .s 4), (55, .s 55), (73, .r 0)]
def e139r9 : EE := .q 2 .nl [.s 4] none <|
 .q 3 (.fld 28) [.r 2] none <|
 .q 4 .ld [.r 3] none <|
 .q 5 (.fld 14) [.s 3] none <|
 .q 6 (.lda 8) [.r 5] none <|
 .x 7 (.bsl 46 1 [z, z, z, z, z, z, z, z] [(0, 8)]) [.r 6] none [⟨4, .ld, [.r 3], none⟩] <|
 .x 8 (.app 46 8 64 [z, z, z, z, z, z, z, z]) [.r 4, .r 7] none [] <|
 .q 9 .nl [.s 4] none <|
 .q 10 (.fld 28) [.r 9] none <|
 .x 11 (.st 1) [.r 10, .r 8] none [] <|
 .out [(0, .s 0), (4, .s 4)]
def e139r10 : EE := .x 2 (.call 212) [.s 0, .s 4, .c (.bool false)] none [] <|
 .out []
def e139r11 : EE := .q 0 .eql [.s 55, .c (.int .i64 1)] none <|
 .out [(0, .s 0), (3, .s 3), (4, .s 4), (89, .r 0)]
def e139r12 : EE := .q 1 .nl [.s 4] none <|
 .q 2 (.fld 30) [.r 1] none <|
 .q 3 .ld [.r 2] none <|
 .q 4 .add [.r 3, .c (.int .i64 1)] none <|
 .q 6 .nl [.s 0] none <|
 .q 7 (.fld 0) [.r 6] none <|
 .q 8 .ld [.r 7] none <|
 .x 9 (.call 213) [.r 8] none [⟨3, .ld, [.r 2], none⟩] <|
 .q 10 .geq [.r 4, .r 9] none <|
 .out [(0, .s 0), (4, .s 4), (101, .r 10)]
def e139r13 : EE := .q 2 .nl [.s 4] none <|
 .q 3 (.fld 0) [.r 2] none <|
 .q 4 (.lda 2) [.r 3] none <|
 .q 6 .nl [.s 4] none <|
 .q 7 (.fld 6) [.r 6] none <|
 .q 8 (.lda 7) [.r 7] none <|
 .q 10 .nl [.s 4] none <|
 .q 11 (.fld 13) [.r 10] none <|
 .q 12 (.lda 8) [.r 11] none <|
 .x 13 (.call 214) [.s 0, .r 4, .r 8, .r 12] none [] <|
 .out []
def e139r14 : EE := .q 2 .nl [.s 4] none <|
 .q 3 (.fld 29) [.r 2] none <|
 .q 4 .ld [.r 3] none <|
 .q 5 (.fld 1) [.s 3] none <|
 .q 6 .ld [.r 5] none <|
 .q 7 (.fld 22) [.s 3] none <|
 .q 8 (.lda 21) [.r 7] none <|
 .q 9 (.bld [z, z, z, z, z, z, z, z, z, zs, zs, zs, zs, z, z, z, z, z, z, z, z, (.bool false)] [(0, 1), (1, 21)]) [.r 6, .r 8] none <|
 .x 10 (.bsl 334 1 [z, z, z, z, z, z, z, z, z, zs, zs, zs, zs, z, z, z, z, z, z, z, z, (.bool false)] [(0, 22)]) [.r 9] none [⟨4, .ld, [.r 3], none⟩] <|
 .x 11 (.app 334 22 208 [z, z, z, z, z, z, z, z, z, zs, zs, zs, zs, z, z, z, z, z, z, z, z, (.bool false)]) [.r 4, .r 10] none [] <|
 .q 12 .nl [.s 4] none <|
 .q 13 (.fld 29) [.r 12] none <|
 .x 14 (.st 1) [.r 13, .r 11] none [] <|
 .out [(0, .s 0), (4, .s 4)]
def e139r15 : EE := .x 2 (.call 215) [.s 0, .s 4] none [] <|
 .out []
def e139 : EFn := ⟨(.seq (.reg e139r0 [0, 1] 0) (.seq (.reg e139r1 [0, 3] 0) (.seq (.seq (.reg e139r2 [0, 3, 4] 0) (.cond (.s 30) .ret .skip)) (.seq (.reg e139r3 [0, 3, 4] 0) (.seq (.seq (.reg e139r4 [0, 3, 4, 5] 0) (.cond (.s 41) .ret .skip)) (.seq (.reg e139r5 [0, 3, 4, 5] 0) (.seq (.reg e139r6 [0, 3, 4, 5] 0) (.seq (.reg e139r7 [0, 3, 4, 5] 0) (.block 0 (.seq (.reg e139r8 [0, 3, 4, 55] 0) (.cond (.s 73) (.seq (.reg e139r9 [0, 3, 4] 0) (.reg e139r10 [0, 4] 0)) (.seq (.reg e139r11 [0, 3, 4, 55] 0) (.cond (.s 89) (.seq (.reg e139r12 [0, 4] 0) (.cond (.s 101) (.reg e139r13 [0, 4] 0) .skip)) (.seq (.reg e139r14 [0, 3, 4] 0) (.reg e139r15 [0, 4] 0))))))))))))))), [], 116, 0⟩
theorem g139 : Good Tryz.prog 139 e139 := ⟨Tryz.f139, Tryz.func139, by kernel_rfl, by kernel_rfl, by kernel_rfl, by kernel_rfl⟩
/-! concord/state.copied -/
def e140r0 : EE := .x 0 (.box 61) [.s 0] none [] <|
 .x 1 (.alc [.nsl, z, z, (.bool false), zs, z, .nsl, z, z, (.bool false), zs, z, .nsl, z, z, (.bool false), zs, z, .nsl, z, z, (.bool false), zs, z, .nsl, z, z, (.bool false), zs, z, .nsl, z, z, (.bool false), zs, z, .nsl, z, z, (.bool false), zs, z, .nsl, z, z, (.bool false), zs, z, .nsl] 61) [] none [] <|
 .out [(1, .r 0), (2, .r 1)]
def e140r1 : EE := .q 0 (.fld 0) [.s 1] none <|
 .q 1 .ld [.r 0] none <|
 .q 3 (.fld 1) [.s 1] none <|
 .q 4 (.lda 48) [.r 3] none <|
 .q 5 (.bld [z, (.bool false), zs, z, .nsl] []) [] none <|
 .x 2 (.call 64) [.r 1] none [⟨4, (.lda 48), [.r 3], none⟩] <|
 .x 6 (.call 216) [.r 4, .c z, .c z, .r 5] none [] <|
 .q 7 (.bld [.nsl, z, z, (.bool false), zs, z, .nsl, z, z, (.bool false), zs, z, .nsl, z, z, (.bool false), zs, z, .nsl, z, z, (.bool false), zs, z, .nsl, z, z, (.bool false), zs, z, .nsl, z, z, (.bool false), zs, z, .nsl, z, z, (.bool false), zs, z, .nsl, z, z, (.bool false), zs, z, .nsl] [(0, 1), (1, 48)]) [.r 2, .r 6] none <|
 .x 8 (.st 49) [.s 2, .r 7] none [] <|
 .out [(2, .s 2)]
def e140 : EFn := ⟨(.seq (.reg e140r0 [0] 0) (.seq (.reg e140r1 [1, 2] 0) .ret)), [.cells 2 49], 11, 0⟩
theorem g140 : Good Tryz.prog 140 e140 := ⟨Tryz.f140, Tryz.func140, by kernel_rfl, by kernel_rfl, by kernel_rfl, by kernel_rfl⟩
/-! concord/state.Apply -/
def e141r0 : EE := .x 0 (.box 61) [.s 0] none [] <|
 .x 1 (.box 33) [.s 1] none [] <|
 .x 2 (.alc [.nsl, z, z, (.bool false), zs, z, .nsl, z, z, (.bool false), zs, z, .nsl, z, z, (.bool false), zs, z, .nsl, z, z, (.bool false), zs, z, .nsl, z, z, (.bool false), zs, z, .nsl, z, z, (.bool false), zs, z, .nsl, z, z, (.bool false), zs, z, .nsl, z, z, (.bool false), zs, z, .nsl] 61) [] none [] <|
 .x 3 (.alc [z, (.bool false), zs, z, .nsl] 56) [] none [] <|
 .out [(2, .r 0), (3, .r 1), (4, .r 2), (5, .r 3)]
def e141r1 : EE := .q 0 (.lda 49) [.s 2] none <|
 .x 1 (.call 140) [.r 0] none [] <|
 .x 2 (.st 49) [.s 2, .r 1] none [] <|
 .out [(2, .s 2), (3, .s 3), (4, .s 4), (5, .s 5)]
def e141r2 : EE := .q 0 (.lda 7) [.s 3] none <|
 .q 1 (.bld [z, z, z, zs, zs, zs, zs] []) [] none <|
 .q 2 (.eqc false [(.i .i64), (.i .i64), (.i .i64), .s, .s, .s, .s]) [.r 0, .r 1] none <|
 .out [(2, .s 2), (3, .s 3), (4, .s 4), (5, .s 5), (14, .r 2)]
def e141r3 : EE := .q 0 (.lda 49) [.s 2] none <|
 .q 1 (.bld [z, (.bool false), zs, z, .nsl] []) [] none <|
 .x 2 (.st 49) [.s 4, .r 0] none [] <|
 .x 3 (.st 5) [.s 5, .r 1] none [] <|
 .out [(4, .s 4), (5, .s 5)]
def e141r4 : EE := .q 0 (.lda 7) [.s 3] none <|
 .x 1 (.call 41) [.r 0] none [] <|
 .q 2 .not [.r 1] none <|
 .out [(2, .s 2), (3, .s 3), (4, .s 4), (5, .s 5), (19, .r 2)]
def e141r5 : EE := .q 0 (.lda 49) [.s 2] none <|
 .q 1 (.bld [z, (.bool false), zs, z, .nsl] [(0, 1)]) [.c (.int .i64 1)] none <|
 .x 2 (.st 49) [.s 4, .r 0] none [] <|
 .x 3 (.st 5) [.s 5, .r 1] none [] <|
 .out [(4, .s 4), (5, .s 5)]
def e141r6 : EE := .q 0 (.fld 1) [.s 2] none <|
 .q 1 (.lda 48) [.r 0] none <|
 .q 2 (.fld 1) [.s 3] none <|
 .q 3 .ld [.r 2] none <|
 .q 4 (.fld 2) [.s 3] none <|
 .q 5 .ld [.r 4] none <|
 .x 6 (.call 217) [.r 1, .r 3, .r 5] none [] <|
 .q 8 (.ext 0) [.r 6] none <|
 .q 9 (.ext 1) [.r 6] none <|
 .x 10 (.alc [z, (.bool false), zs, z, .nsl] 56) [] none [] <|
 .x 12 (.st 5) [.r 10, .r 9] none [] <|
 .out [(2, .s 2), (3, .s 3), (4, .s 4), (5, .s 5), (6, .r 8), (7, .r 10)]
def e141r7 : EE := .out [(2, .s 2), (3, .s 3), (4, .s 4), (5, .s 5), (7, .s 7), (32, .s 6)]
def e141r8 : EE := .q 0 .eql [.s 32, .c (.int .i64 2)] none <|
 .out [(2, .s 2), (3, .s 3), (4, .s 4), (5, .s 5), (7, .s 7), (32, .s 32), (33, .r 0)]
def e141r9 : EE := .q 0 (.lda 49) [.s 2] none <|
 .q 1 (.lda 5) [.s 7] none <|
 .x 2 (.st 49) [.s 4, .r 0] none [⟨1, (.lda 5), [.s 7], none⟩] <|
 .x 3 (.st 5) [.s 5, .r 1] none [] <|
 .out [(4, .s 4), (5, .s 5)]
def e141r10 : EE := .q 0 .eql [.s 32, .c (.int .i64 3)] none <|
 .out [(2, .s 2), (3, .s 3), (4, .s 4), (5, .s 5), (37, .r 0)]
def e141r11 : EE := .q 0 (.lda 49) [.s 2] none <|
 .q 1 (.bld [z, (.bool false), zs, z, .nsl] [(0, 1)]) [.c (.int .i64 9)] none <|
 .x 2 (.st 49) [.s 4, .r 0] none [] <|
 .x 3 (.st 5) [.s 5, .r 1] none [] <|
 .out [(4, .s 4), (5, .s 5)]
def e141r12 : EE := .q 0 (.fld 0) [.s 2] none <|
 .q 1 .ld [.r 0] none <|
 .q 2 (.lda 7) [.s 3] none <|
 .x 3 (.call 218) [.r 1, .r 2] none [] <|
 .q 5 (.ext 0) [.r 3] none <|
 .q 6 (.ext 1) [.r 3] none <|
 .x 7 (.alc [z, (.bool false), zs, z, .nsl] 56) [] none [] <|
 .x 9 (.st 5) [.r 7, .r 6] none [] <|
 .out [(2, .s 2), (3, .s 3), (4, .s 4), (5, .s 5), (8, .r 5), (9, .r 7)]
def e141r13 : EE := .q 1 (.fld 1) [.s 2] none <|
 .q 2 (.lda 48) [.r 1] none <|
 .q 3 (.fld 1) [.s 3] none <|
 .q 4 .ld [.r 3] none <|
 .q 5 (.fld 2) [.s 3] none <|
 .q 6 .ld [.r 5] none <|
 .q 7 (.lda 5) [.s 9] none <|
 .q 10 (.lda 5) [.s 9] none <|
 .x 8 (.call 216) [.r 2, .r 4, .r 6, .r 7] none [⟨10, (.lda 5), [.s 9], none⟩] <|
 .q 9 (.bld [.nsl, z, z, (.bool false), zs, z, .nsl, z, z, (.bool false), zs, z, .nsl, z, z, (.bool false), zs, z, .nsl, z, z, (.bool false), zs, z, .nsl, z, z, (.bool false), zs, z, .nsl, z, z, (.bool false), zs, z, .nsl, z, z, (.bool false), zs, z, .nsl, z, z, (.bool false), zs, z, .nsl] [(0, 1), (1, 48)]) [.s 8, .r 8] none <|
 .x 11 (.st 49) [.s 4, .r 9] none [⟨10, (.lda 5), [.s 9], none⟩] <|
 .x 12 (.st 5) [.s 5, .r 10] none [] <|
 .out [(4, .s 4), (5, .s 5)]
def e141 : EFn := ⟨(.seq (.reg e141r0 [0, 1] 0) (.seq (.reg e141r1 [2, 3, 4, 5] 0) (.seq (.seq (.reg e141r2 [2, 3, 4, 5] 0) (.cond (.s 14) (.seq (.reg e141r3 [2, 4, 5] 0) .ret) .skip)) (.seq (.seq (.reg e141r4 [2, 3, 4, 5] 0) (.cond (.s 19) (.seq (.reg e141r5 [2, 4, 5] 0) .ret) .skip)) (.seq (.seq (.reg e141r6 [2, 3, 4, 5] 0) (.seq (.reg e141r7 [2, 3, 4, 5, 6, 7] 0) (.block 0 (.seq (.reg e141r8 [2, 3, 4, 5, 7, 32] 0) (.cond (.s 33) (.seq (.reg e141r9 [2, 4, 5, 7] 0) .ret) (.seq (.reg e141r10 [2, 3, 4, 5, 32] 0) (.cond (.s 37) (.seq (.reg e141r11 [2, 4, 5] 0) .ret) .skip))))))) (.seq (.reg e141r12 [2, 3, 4, 5] 0) (.seq (.reg e141r13 [2, 3, 4, 5, 8, 9] 0) .ret))))))), [.cells 4 49, .cells 5 5], 59, 0⟩
theorem g141 : Good Tryz.prog 141 e141 := ⟨Tryz.f141, Tryz.func141, by kernel_rfl, by kernel_rfl, by kernel_rfl, by kernel_rfl⟩
/-! (*concord/client.Client).Tell -/
def e142r0 : EE := .x 0 (.box 246) [.s 1] none [] <|
 .out [(0, .s 0), (3, .r 0)]
def e142r1 : EE := .q 1 .nl [.s 0] none <|
 .q 2 (.fld 9) [.r 1] none <|
 .q 3 .ld [.r 2] none <|
 .q 4 .not [.r 3] none <|
 .q 6 (.fld 0) [.s 3] (some (.r 4, false)) <|
 .q 7 .ld [.r 6] (some (.r 4, false)) <|
 .q 8 .mv [.s 0] (some (.r 4, false)) <|
 .q 9 .nl [.r 8] (some (.r 4, false)) <|
 .q 10 (.fld 0) [.r 9] (some (.r 4, false)) <|
 .q 11 .ld [.r 10] (some (.r 4, false)) <|
 .q 12 .neq [.r 7, .r 11] (some (.r 4, false)) <|
 .q 13 .pick [.r 4, .c (.bool true), .r 12] none <|
 .q 15 (.fld 1) [.s 3] (some (.r 13, false)) <|
 .q 16 .ld [.r 15] (some (.r 13, false)) <|
 .q 17 .mv [.s 0] (some (.r 13, false)) <|
 .q 18 .nl [.r 17] (some (.r 13, false)) <|
 .q 19 (.fld 1) [.r 18] (some (.r 13, false)) <|
 .q 20 .ld [.r 19] (some (.r 13, false)) <|
 .q 21 .neq [.r 16, .r 20] (some (.r 13, false)) <|
 .q 22 .pick [.r 13, .c (.bool true), .r 21] none <|
 .out [(0, .s 0), (27, .r 22)]
def e142r2 : EE := .out [(4, .c (.bool false))]
def e142r3 : EE := .q 1 .nl [.s 0] none <|
 .q 2 (.fld 9) [.r 1] none <|
 .x 3 (.st 1) [.r 2, .c (.bool false)] none [] <|
 .out []
def e142r4 : EE := .out [(4, .c (.bool true))]
def e142 : EFn := ⟨(.seq (.reg e142r0 [0, 1] 0) (.seq (.seq (.reg e142r1 [0, 3] 0) (.cond (.s 27) (.seq (.reg e142r2 [] 0) .ret) .skip)) (.seq (.reg e142r3 [0] 0) (.seq (.reg e142r4 [] 0) .ret)))), [.slot 4], 31, 0⟩
theorem g142 : Good Tryz.prog 142 e142 := ⟨Tryz.f142, Tryz.func142, by kernel_rfl, by kernel_rfl, by kernel_rfl, by kernel_rfl⟩
/-! (*concord/client.Client).Begin -/
def e143r0 : EE := .x 0 (.box 33) [.s 1] none [] <|
 .x 1 (.alc [z, z, z, zs, zs, zs, zs] 33) [] none [] <|
 .out [(0, .s 0), (2, .s 2), (4, .r 0), (6, .r 1)]
def e143r1 : EE := .q 1 .nl [.s 0] none <|
 .q 2 (.fld 0) [.r 1] none <|
 .q 3 .ld [.r 2] none <|
 .q 5 .nl [.s 0] none <|
 .q 6 (.fld 1) [.r 5] none <|
 .q 7 .ld [.r 6] none <|
 .q 8 .add [.r 7, .c (.int .i64 1)] none <|
 .q 9 (.fld 1) [.s 4] none <|
 .x 10 (.st 1) [.r 9, .r 3] none [⟨7, .ld, [.r 6], none⟩] <|
 .q 11 (.fld 2) [.s 4] none <|
 .x 12 (.st 1) [.r 11, .r 8] none [] <|
 .out [(0, .s 0), (2, .s 2), (4, .s 4), (6, .s 6)]
def e143r2 : EE := .q 1 .nl [.s 0] none <|
 .q 2 (.fld 9) [.r 1] none <|
 .q 3 .ld [.r 2] none <|
 .q 5 (.lda 7) [.s 4] (some (.r 3, false)) <|
 .x 6 (.call 41) [.r 5] (some (.r 3, false)) [] <|
 .q 7 .not [.r 6] (some (.r 3, false)) <|
 .q 8 .pick [.r 3, .c (.bool true), .r 7] none <|
 .q 10 (.fld 0) [.s 4] (some (.r 8, false)) <|
 .q 11 .ld [.r 10] (some (.r 8, false)) <|
 .q 12 .eql [.r 11, .c z] (some (.r 8, false)) <|
 .q 13 .pick [.r 8, .c (.bool true), .r 12] none <|
 .q 15 .mv [.s 2] (some (.r 13, false)) <|
 .q 16 .lss [.r 15, .c z] (some (.r 13, false)) <|
 .q 17 .pick [.r 13, .c (.bool true), .r 16] none <|
 .q 19 .mv [.s 2] (some (.r 17, false)) <|
 .q 20 .geq [.r 19, .c (.int .i64 7)] (some (.r 17, false)) <|
 .q 21 .pick [.r 17, .c (.bool true), .r 20] none <|
 .out [(0, .s 0), (2, .s 2), (4, .s 4), (6, .s 6), (40, .r 21)]
def e143r3 : EE := .q 0 (.bld [z, z, z, zs, zs, zs, zs] []) [] none <|
 .x 1 (.st 7) [.s 6, .r 0] none [] <|
 .out [(6, .s 6), (7, .c (.bool false))]
def e143r4 : EE := .q 5 (.fld 2) [.s 4] none <|
 .q 6 .ld [.r 5] none <|
 .q 7 (.lda 7) [.s 4] none <|
 .q 9 .nl [.s 0] none <|
 .q 10 (.fld 1) [.r 9] none <|
 .x 11 (.st 1) [.r 10, .r 6] none [⟨7, (.lda 7), [.s 4], none⟩] <|
 .q 12 .nl [.s 0] none <|
 .q 13 (.fld 2) [.r 12] none <|
 .x 14 (.st 7) [.r 13, .r 7] none [] <|
 .q 15 .nl [.s 0] none <|
 .q 16 (.fld 9) [.r 15] none <|
 .x 17 (.st 1) [.r 16, .c (.bool true)] none [] <|
 .q 18 .nl [.s 0] none <|
 .q 19 (.fld 10) [.r 18] none <|
 .x 20 (.st 1) [.r 19, .s 2] none [] <|
 .q 21 .nl [.s 0] none <|
 .q 22 (.fld 11) [.r 21] none <|
 .x 23 (.st 1) [.r 22, .c z] none [] <|
 .out [(4, .s 4), (6, .s 6)]
def e143r5 : EE := .q 0 (.lda 7) [.s 4] none <|
 .x 1 (.st 7) [.s 6, .r 0] none [] <|
 .out [(6, .s 6), (7, .c (.bool true))]
def e143 : EFn := ⟨(.seq (.reg e143r0 [0, 1, 2] 0) (.seq (.reg e143r1 [0, 2, 4, 6] 0) (.seq (.seq (.reg e143r2 [0, 2, 4, 6] 0) (.cond (.s 40) (.seq (.reg e143r3 [6] 0) .ret) .skip)) (.seq (.reg e143r4 [0, 2, 4, 6] 0) (.seq (.reg e143r5 [4, 6] 0) .ret))))), [.cells 6 7, .slot 7], 62, 0⟩
theorem g143 : Good Tryz.prog 143 e143 := ⟨Tryz.f143, Tryz.func143, by kernel_rfl, by kernel_rfl, by kernel_rfl, by kernel_rfl⟩
/-! (*concord/cluster.Cluster).comes -/
def e144r0 : EE := .x 0 (.box 33) [.s 1] none [] <|
 .out [(0, .s 0), (2, .s 2), (4, .r 0)]
def e144r1 : EE := .x 2 (.call 59) [.s 0, .s 2] none [] <|
 .out [(0, .s 0), (2, .s 2), (4, .s 4), (6, .r 2)]
def e144r2 : EE := .q 1 (.eqp true) [.s 6, .c .nptr] none <|
 .out [(0, .s 0), (2, .s 2), (4, .s 4), (6, .s 6), (11, .r 1)]
def e144r3 : EE := .q 1 (.lda 7) [.s 4] none <|
 .x 2 (.call 11) [.s 6, .r 1] none [] <|
 .out [(0, .s 0), (2, .s 2)]
def e144r4 : EE := .x 2 (.call 54) [.s 0, .s 2] none [] <|
 .out []
def e144 : EFn := ⟨(.seq (.reg e144r0 [0, 1, 2] 0) (.seq (.reg e144r1 [0, 2, 4] 0) (.seq (.reg e144r2 [0, 2, 4, 6] 0) (.cond (.s 11) (.seq (.reg e144r3 [0, 2, 4, 6] 0) (.reg e144r4 [0, 2] 0)) .skip)))), [], 18, 0⟩
theorem g144 : Good Tryz.prog 144 e144 := ⟨Tryz.f144, Tryz.func144, by kernel_rfl, by kernel_rfl, by kernel_rfl, by kernel_rfl⟩
/-! slices.Delete[[]concord/api.Letter,concord/api.Letter] -/
def e145r0 : EE := .out [(0, .s 0), (1, .s 1), (2, .s 2)]
def e145r1 : EE := .q 4 .len [.s 0] none <|
 .q 5 (.slc3 51 true) [.s 0, .s 1, .s 2, .r 4] none <|
 .out [(0, .s 0), (1, .s 1), (2, .s 2)]
def e145r2 : EE := .q 2 .eql [.s 1, .s 2] none <|
 .out [(0, .s 0), (1, .s 1), (2, .s 2), (16, .r 2)]
def e145r3 : EE := .out [(6, .s 0)]
def e145r4 : EE := .q 1 .len [.s 0] none <|
 .out [(0, .s 0), (1, .s 1), (2, .s 2), (7, .r 1)]
def e145r5 : EE := .q 2 (.slc 51 false true) [.s 0, .s 1] none <|
 .q 5 (.slc 51 true false) [.s 0, .s 2] none <|
 .x 6 (.app 50 51 480 [z, z, z, z, z, z, z, z, z, z, zs, zs, zs, zs, z, z, z, z, z, z, z, z, z, z, z, z, z, z, z, z, zs, zs, zs, zs, z, z, z, z, z, z, z, z, (.bool false), z, z, z, z, z, z, z, zs]) [.r 2, .r 5] none [] <|
 .out [(0, .r 6), (7, .s 7)]
def e145r6 : EE := .q 2 .len [.s 0] none <|
 .q 4 (.slc 51 true true) [.s 0, .r 2, .s 7] none <|
 .x 5 (.clr [z, z, z, z, z, z, z, z, z, z, zs, zs, zs, zs, z, z, z, z, z, z, z, z, z, z, z, z, z, z, z, z, zs, zs, zs, zs, z, z, z, z, z, z, z, z, (.bool false), z, z, z, z, z, z, z, zs]) [.r 4] none [] <|
 .out [(0, .s 0)]
def e145r7 : EE := .out [(6, .s 0)]
def e145 : EFn := ⟨(.seq (.reg e145r0 [0, 1, 2] 0) (.seq (.reg e145r1 [0, 1, 2] 0) (.seq (.seq (.reg e145r2 [0, 1, 2] 0) (.cond (.s 16) (.seq (.reg e145r3 [0] 0) .ret) .skip)) (.seq (.reg e145r4 [0, 1, 2] 0) (.seq (.reg e145r5 [0, 1, 2, 7] 0) (.seq (.reg e145r6 [0, 7] 0) (.seq (.reg e145r7 [0] 0) .ret))))))), [.slot 6], 33, 0⟩
theorem g145 : Good Tryz.prog 145 e145 := ⟨Tryz.f145, Tryz.func145, by kernel_rfl, by kernel_rfl, by kernel_rfl, by kernel_rfl⟩
/-! slices.Clone[[]byte,byte] -/
def e148r0 : EE := .out [(0, .s 0)]
def e148r1 : EE := .q 1 (.eqs false) [.s 0, .c .nsl] none <|
 .out [(0, .s 0), (4, .r 1)]
def e148r2 : EE := .out [(2, .c .nsl)]
def e148r3 : EE := .x 0 (.bsl 5 0 [] []) [] none [] <|
 .x 2 (.app 5 1 1 [(.int .u8 0)]) [.r 0, .s 0] none [] <|
 .out [(2, .r 2)]
def e148 : EFn := ⟨(.seq (.reg e148r0 [0] 0) (.seq (.seq (.reg e148r1 [0] 0) (.cond (.s 4) (.seq (.reg e148r2 [] 0) .ret) .skip)) (.seq (.reg e148r3 [0] 0) .ret))), [.slot 2], 8, 0⟩
theorem g148 : Good Tryz.prog 148 e148 := ⟨Tryz.f148, Tryz.func148, by kernel_rfl, by kernel_rfl, by kernel_rfl, by kernel_rfl⟩
/-! (*concord/node.Node).Top -/
def e150r0 : EE := .x 0 (.alc [z, z, z, z, z, z, z] 44) [] none [] <|
 .out [(0, .s 0), (2, .r 0)]
def e150r1 : EE := .q 1 .nl [.s 0] none <|
 .q 2 (.fld 4) [.r 1] none <|
 .q 3 .ld [.r 2] none <|
 .x 4 (.call 225) [.r 3] none [] <|
 .x 5 (.st 7) [.s 2, .r 4] none [] <|
 .out [(2, .s 2)]
def e150 : EFn := ⟨(.seq (.reg e150r0 [0] 0) (.seq (.reg e150r1 [0, 2] 0) .ret)), [.cells 2 7], 8, 0⟩
theorem g150 : Good Tryz.prog 150 e150 := ⟨Tryz.f150, Tryz.func150, by kernel_rfl, by kernel_rfl, by kernel_rfl, by kernel_rfl⟩
/-! (*concord/node.Node).Cut -/
def e151r0 : EE := .x 0 (.alc [z, z, z, z, z, z, z] 44) [] none [] <|
 .out [(0, .s 0), (2, .r 0)]
def e151r1 : EE := .q 1 .nl [.s 0] none <|
 .q 2 (.fld 4) [.r 1] none <|
 .q 3 .ld [.r 2] none <|
 .x 4 (.call 197) [.r 3] none [] <|
 .x 5 (.st 7) [.s 2, .r 4] none [] <|
 .out [(2, .s 2)]
def e151 : EFn := ⟨(.seq (.reg e151r0 [0] 0) (.seq (.reg e151r1 [0, 2] 0) .ret)), [.cells 2 7], 8, 0⟩
theorem g151 : Good Tryz.prog 151 e151 := ⟨Tryz.f151, Tryz.func151, by kernel_rfl, by kernel_rfl, by kernel_rfl, by kernel_rfl⟩
/-! (*concord/node.Node).Cell -/
def e152r0 : EE := .x 0 (.box 40) [.s 1] none [] <|
 .x 1 (.alc [z, z, z, z, z, z, z, z, zs, zs, zs, zs, z, z, z, z, z, z, z, z, (.bool false)] 48) [] none [] <|
 .out [(0, .s 0), (3, .r 0), (4, .r 1)]
def e152r1 : EE := .q 1 .nl [.s 0] none <|
 .q 2 (.fld 4) [.r 1] none <|
 .q 3 .ld [.r 2] none <|
 .q 4 (.lda 2) [.s 3] none <|
 .x 5 (.call 120) [.r 3, .r 4] none [] <|
 .q 6 (.ext 0) [.r 5] none <|
 .q 7 (.ext 1) [.r 5] none <|
 .x 8 (.st 21) [.s 4, .r 6] none [] <|
 .out [(4, .s 4), (5, .r 7)]
def e152 : EFn := ⟨(.seq (.reg e152r0 [0, 1] 0) (.seq (.reg e152r1 [0, 3, 4] 0) .ret)), [.cells 4 21, .slot 5], 14, 0⟩
theorem g152 : Good Tryz.prog 152 e152 := ⟨Tryz.f152, Tryz.func152, by kernel_rfl, by kernel_rfl, by kernel_rfl, by kernel_rfl⟩
/-! internal/strconv.Itoa -/
def e156r0 : EE := .out [(0, .s 0)]
def e156r1 : EE := .x 1 (.call 229) [.s 0, .c (.int .i64 10)] none [] <|
 .out [(2, .r 1)]
def e156 : EFn := ⟨(.seq (.reg e156r0 [0] 0) (.seq (.reg e156r1 [0] 0) .ret)), [.slot 2], 5, 0⟩
theorem g156 : Good Tryz.prog 156 e156 := ⟨Tryz.f156, Tryz.func156, by kernel_rfl, by kernel_rfl, by kernel_rfl, by kernel_rfl⟩
/-! (*concord/disk.Disk).find -/
def e164r0 : EE := .out [(0, .s 0), (1, .s 1)]
def e164r1 : EE := .q 1 .nl [.s 0] none <|
 .q 2 (.fld 1) [.r 1] none <|
 .q 3 .ld [.r 2] none <|
 .q 4 .len [.r 3] none <|
 .out [(0, .s 0), (1, .s 1), (11, .r 3), (12, .r 4), (13, .c z)]
def e164r2 : EE := .q 0 .lss [.s 13, .s 12] none <|
 .out [(0, .s 0), (1, .s 1), (11, .s 11), (12, .s 12), (13, .s 13), (14, .r 0)]
def e164r3 : EE := .q 1 (.ixs 3) [.s 11, .s 13] none <|
 .q 2 (.lda 3) [.r 1] none <|
 .x 3 (.alc [zs, .nsl, z] 256) [] none [] <|
 .x 5 (.st 3) [.r 3, .r 2] none [] <|
 .out [(0, .s 0), (1, .s 1), (6, .s 13), (7, .r 3), (11, .s 11), (12, .s 12), (13, .s 13)]
def e164r4 : EE := .q 0 (.fld 0) [.s 7] none <|
 .q 1 .ld [.r 0] none <|
 .q 3 .sgeq [.r 1, .s 1] none <|
 .out [(0, .s 0), (1, .s 1), (6, .s 6), (7, .s 7), (11, .s 11), (12, .s 12), (13, .s 13), (21, .r 3)]
def e164r5 : EE := .q 1 (.fld 0) [.s 7] none <|
 .q 2 .ld [.r 1] none <|
 .q 4 .seql [.r 2, .s 1] none <|
 .out [(4, .s 6), (5, .r 4)]
def e164r6 : EE := .q 0 .add [.s 13, .c (.int .i64 1)] none <|
 .out [(0, .s 0), (1, .s 1), (11, .s 11), (12, .s 12), (13, .r 0)]
def e164l7 : EC := (.seq (.reg e164r2 [0, 1, 11, 12, 13] 0) (.seq (.cond (.s 14) .skip (.exit 0)) (.seq (.block 1 (.seq (.reg e164r3 [0, 1, 11, 12, 13] 0) (.seq (.reg e164r4 [0, 1, 6, 7, 11, 12, 13] 0) (.cond (.s 21) (.seq (.reg e164r5 [1, 6, 7] 0) .ret) .skip)))) (.reg e164r6 [0, 1, 11, 12, 13] 0))))
def e164r8 : EE := .q 1 .nl [.s 0] none <|
 .q 2 (.fld 1) [.r 1] none <|
 .q 3 .ld [.r 2] none <|
 .q 4 .len [.r 3] none <|
 .out [(4, .r 4), (5, .c (.bool false))]
def e164 : EFn := ⟨(.seq (.reg e164r0 [0, 1] 0) (.seq (.seq (.reg e164r1 [0, 1] 0) (.block 0 (.loop [0, 1, 11, 12, 13] e164l7))) (.seq (.reg e164r8 [0] 0) .ret))), [.slot 4, .slot 5], 33, 0⟩
theorem g164 : Good Tryz.prog 164 e164 := ⟨Tryz.f164, Tryz.func164, by kernel_rfl, by kernel_rfl, by kernel_rfl, by kernel_rfl⟩
/-! concord/sum.Of -/
def e166r0 : EE := .out [(0, .s 0)]
def e166r1 : EE := .x 1 (.call 238) [.c (.int .u32 0), .s 0] none [] <|
 .out [(2, .r 1)]
def e166 : EFn := ⟨(.seq (.reg e166r0 [0] 0) (.seq (.reg e166r1 [0] 0) .ret)), [.slot 2], 5, 0⟩
theorem g166 : Good Tryz.prog 166 e166 := ⟨Tryz.f166, Tryz.func166, by kernel_rfl, by kernel_rfl, by kernel_rfl, by kernel_rfl⟩
/-! (*concord/disk.Disk).known -/
def e171r0 : EE := .out [(0, .s 0), (1, .s 1)]
def e171r1 : EE := .q 1 .nl [.s 0] none <|
 .q 2 (.fld 2) [.r 1] none <|
 .q 3 .ld [.r 2] none <|
 .out [(0, .s 0), (1, .s 1), (11, .r 3)]
def e171r2 : EE := .out [(4, .c z), (5, .c (.int .i64 10))]
def e171r3 : EE := .x 2 (.call 164) [.s 0, .s 1] none [] <|
 .q 4 (.ext 0) [.r 2] none <|
 .q 5 (.ext 1) [.r 2] none <|
 .out [(6, .r 4), (7, .r 5)]
def e171r4 : EE := .q 1 .not [.s 7] none <|
 .out [(6, .s 6), (19, .r 1)]
def e171r5 : EE := .out [(4, .c z), (5, .c (.int .i64 8))]
def e171r6 : EE := .out [(4, .s 6), (5, .c z)]
def e171 : EFn := ⟨(.seq (.reg e171r0 [0, 1] 0) (.seq (.seq (.reg e171r1 [0, 1] 0) (.cond (.s 11) (.seq (.reg e171r2 [] 0) .ret) .skip)) (.seq (.reg e171r3 [0, 1] 0) (.seq (.seq (.reg e171r4 [6, 7] 0) (.cond (.s 19) (.seq (.reg e171r5 [] 0) .ret) .skip)) (.seq (.reg e171r6 [6] 0) .ret))))), [.slot 4, .slot 5], 21, 0⟩
theorem g171 : Good Tryz.prog 171 e171 := ⟨Tryz.f171, Tryz.func171, by kernel_rfl, by kernel_rfl, by kernel_rfl, by kernel_rfl⟩
/-! (*concord/disk.Disk).power -/
def e172r0 : EE := .out [(0, .s 0)]
def e172r1 : EE := .q 1 .nl [.s 0] none <|
 .q 2 (.fld 3) [.r 1] none <|
 .q 3 .ld [.r 2] none <|
 .q 5 .mv [.s 0] (some (.r 3, true)) <|
 .q 6 .nl [.r 5] (some (.r 3, true)) <|
 .q 7 (.fld 4) [.r 6] (some (.r 3, true)) <|
 .q 8 .ld [.r 7] (some (.r 3, true)) <|
 .q 9 .eql [.r 8, .c z] (some (.r 3, true)) <|
 .q 10 .pick [.r 3, .r 9, .c (.bool false)] none <|
 .out [(0, .s 0), (13, .r 10)]
def e172r2 : EE := .q 1 .nl [.s 0] none <|
 .q 2 (.fld 2) [.r 1] none <|
 .x 3 (.st 1) [.r 2, .c (.bool true)] none [] <|
 .out []
def e172r3 : EE := .out [(2, .c (.int .i64 10))]
def e172r4 : EE := .q 1 .nl [.s 0] none <|
 .q 2 (.fld 3) [.r 1] none <|
 .q 3 .ld [.r 2] none <|
 .out [(0, .s 0), (20, .r 3)]
def e172r5 : EE := .q 1 .nl [.s 0] none <|
 .q 2 (.fld 4) [.r 1] none <|
 .q 3 .ld [.r 2] none <|
 .q 4 .sub [.r 3, .c (.int .i64 1)] none <|
 .q 5 .nl [.s 0] none <|
 .q 6 (.fld 4) [.r 5] none <|
 .x 7 (.st 1) [.r 6, .r 4] none [] <|
 .out []
def e172r6 : EE := .out [(2, .c z)]
def e172 : EFn := ⟨(.seq (.reg e172r0 [0] 0) (.seq (.seq (.reg e172r1 [0] 0) (.cond (.s 13) (.seq (.reg e172r2 [0] 0) (.seq (.reg e172r3 [] 0) .ret)) .skip)) (.seq (.seq (.reg e172r4 [0] 0) (.cond (.s 20) (.reg e172r5 [0] 0) .skip)) (.seq (.reg e172r6 [] 0) .ret)))), [.slot 2], 28, 0⟩
theorem g172 : Good Tryz.prog 172 e172 := ⟨Tryz.f172, Tryz.func172, by kernel_rfl, by kernel_rfl, by kernel_rfl, by kernel_rfl⟩
/-! (*concord/disk.Disk).Names -/
def e174r0 : EE := .out [(0, .s 0)]
def e174r1 : EE := .out [(0, .s 0), (3, .c .nsl)]
def e174r2 : EE := .q 1 .nl [.s 0] none <|
 .q 2 (.fld 1) [.r 1] none <|
 .q 3 .ld [.r 2] none <|
 .q 4 .len [.r 3] none <|
 .out [(3, .s 3), (9, .r 3), (10, .r 4), (11, .c z)]
def e174r3 : EE := .q 0 .lss [.s 11, .s 10] none <|
 .out [(3, .s 3), (9, .s 9), (10, .s 10), (11, .s 11), (12, .r 0)]
def e174r4 : EE := .q 0 (.ixs 3) [.s 9, .s 11] none <|
 .q 1 (.lda 3) [.r 0] none <|
 .x 2 (.alc [zs, .nsl, z] 256) [] none [] <|
 .x 3 (.st 3) [.r 2, .r 1] none [] <|
 .out [(3, .s 3), (5, .r 2), (9, .s 9), (10, .s 10), (11, .s 11)]
def e174r5 : EE := .q 1 (.fld 0) [.s 5] none <|
 .q 2 .ld [.r 1] none <|
 .x 3 (.bsl 9 1 [zs] [(0, 1)]) [.r 2] none [] <|
 .x 4 (.app 9 1 16 [zs]) [.s 3, .r 3] none [] <|
 .out [(3, .r 4), (9, .s 9), (10, .s 10), (11, .s 11)]
def e174r6 : EE := .q 0 .add [.s 11, .c (.int .i64 1)] none <|
 .out [(3, .s 3), (9, .s 9), (10, .s 10), (11, .r 0)]
def e174l7 : EC := (.seq (.reg e174r3 [3, 9, 10, 11] 0) (.seq (.cond (.s 12) .skip (.exit 0)) (.seq (.block 1 (.seq (.reg e174r4 [3, 9, 10, 11] 0) (.reg e174r5 [3, 5, 9, 10, 11] 0))) (.reg e174r6 [3, 9, 10, 11] 0))))
def e174r8 : EE := .out [(2, .s 3)]
def e174 : EFn := ⟨(.seq (.reg e174r0 [0] 0) (.seq (.reg e174r1 [0] 0) (.seq (.seq (.reg e174r2 [0, 3] 0) (.block 0 (.loop [3, 9, 10, 11] e174l7))) (.seq (.reg e174r8 [3] 0) .ret)))), [.slot 2], 22, 0⟩
theorem g174 : Good Tryz.prog 174 e174 := ⟨Tryz.f174, Tryz.func174, by kernel_rfl, by kernel_rfl, by kernel_rfl, by kernel_rfl⟩
/-! concord/pack.grown -/
def e177r0 : EE := .out [(0, .s 0), (1, .s 1)]
def e177r1 : EE := .q 1 .len [.s 0] none <|
 .q 3 .add [.r 1, .s 1] none <|
 .x 4 (.mks 5 1 [(.int .u8 0)]) [.c z, .r 3] none [] <|
 .x 6 (.app 5 1 1 [(.int .u8 0)]) [.r 4, .s 0] none [] <|
 .out [(4, .r 6)]
def e177 : EFn := ⟨(.seq (.reg e177r0 [0, 1] 0) (.seq (.reg e177r1 [0, 1] 0) .ret)), [.slot 4], 12, 0⟩
theorem g177 : Good Tryz.prog 177 e177 := ⟨Tryz.f177, Tryz.func177, by kernel_rfl, by kernel_rfl, by kernel_rfl, by kernel_rfl⟩
/-! (*concord/log.Log).Trim -/
def e180r0 : EE := .x 0 (.box 44) [.s 1] none [] <|
 .out [(0, .s 0), (3, .r 0)]
def e180r1 : EE := .q 0 (.lda 7) [.s 3] none <|
 .out [(0, .s 0), (7, .r 0), (8, .c z)]
def e180r2 : EE := .q 0 .lss [.s 8, .c (.int .i64 7)] none <|
 .out [(0, .s 0), (7, .s 7), (8, .s 8), (9, .r 0)]
def e180r3 : EE := .q 1 (.idx 7 1) [.s 7, .s 8] none <|
 .out [(0, .s 0), (4, .s 8), (5, .r 1), (7, .s 7), (8, .s 8)]
def e180r4 : EE := .q 4 .nl [.s 0] none <|
 .q 5 (.fld 1) [.r 4] none <|
 .q 6 (.ixa 7 1) [.r 5, .s 4] none <|
 .q 7 .ld [.r 6] none <|
 .q 9 .mx [.s 5, .c z] none <|
 .q 10 .mn [.r 9, .c (.int .i64 1073741824)] none <|
 .q 11 .mx [.r 7, .r 10] none <|
 .q 12 .nl [.s 0] none <|
 .q 13 (.fld 1) [.r 12] none <|
 .q 14 (.ixa 7 1) [.r 13, .s 4] none <|
 .x 15 (.st 1) [.r 14, .r 11] none [] <|
 .out [(0, .s 0), (7, .s 7), (8, .s 8)]
def e180r5 : EE := .q 0 .add [.s 8, .c (.int .i64 1)] none <|
 .out [(0, .s 0), (7, .s 7), (8, .r 0)]
def e180l6 : EC := (.seq (.reg e180r2 [0, 7, 8] 0) (.seq (.cond (.s 9) .skip (.exit 0)) (.seq (.block 1 (.seq (.reg e180r3 [0, 7, 8] 0) (.reg e180r4 [0, 4, 5, 7, 8] 0))) (.reg e180r5 [0, 7, 8] 0))))
def e180r7 : EE := .q 1 .nl [.s 0] none <|
 .q 2 (.fld 0) [.r 1] none <|
 .q 3 .ld [.r 2] none <|
 .x 4 .rng [.r 3] none [] <|
 .out [(0, .s 0), (32, .r 4)]
def e180r8 : EE := .x 0 .nxt [.s 32] none [] <|
 .q 1 (.ext 0) [.r 0] none <|
 .out [(0, .s 0), (32, .s 32), (34, .r 1)]
def e180r9 : EE := .q 0 .ent [.s 32] none <|
 .q 1 (.ext 0) [.r 0] none <|
 .x 2 (.alc [z, z] 40) [] none [] <|
 .x 3 (.st 2) [.r 2, .r 1] none [] <|
 .out [(0, .s 0), (6, .r 2), (32, .s 32)]
def e180r10 : EE := .q 1 (.lda 2) [.s 6] none <|
 .x 2 (.call 135) [.s 0, .r 1] none [] <|
 .out [(0, .s 0), (6, .s 6), (32, .s 32), (39, .r 2)]
def e180r11 : EE := .q 1 .nl [.s 0] none <|
 .q 2 (.fld 0) [.r 1] none <|
 .q 3 .ld [.r 2] none <|
 .q 4 (.lda 2) [.s 6] none <|
 .x 5 (.dlt true [(.i .i64), (.i .i64)]) [.r 3, .r 4] none [] <|
 .out [(0, .s 0), (32, .s 32)]
def e180l12 : EC := (.seq (.reg e180r8 [0, 32] 0) (.seq (.cond (.s 34) .skip (.exit 2)) (.block 3 (.seq (.reg e180r9 [0, 32] 0) (.seq (.reg e180r10 [0, 6, 32] 0) (.cond (.s 39) (.reg e180r11 [0, 6, 32] 0) .skip))))))
def e180 : EFn := ⟨(.seq (.reg e180r0 [0, 1] 0) (.seq (.seq (.reg e180r1 [0, 3] 0) (.block 0 (.loop [0, 7, 8] e180l6))) (.seq (.reg e180r7 [0] 0) (.block 2 (.loop [0, 32] e180l12))))), [], 45, 0⟩
theorem g180 : Good Tryz.prog 180 e180 := ⟨Tryz.f180, Tryz.func180, by kernel_rfl, by kernel_rfl, by kernel_rfl, by kernel_rfl⟩
/-! concord/log.may -/
def e182r0 : EE := .x 0 (.box 48) [.s 0] none [] <|
 .x 1 (.box 48) [.s 1] none [] <|
 .out [(2, .r 0), (3, .r 1)]
def e182r1 : EE := .q 0 (.fld 0) [.s 2] none <|
 .q 1 .ld [.r 0] none <|
 .q 2 .eql [.r 1, .c (.int .i64 3)] none <|
 .q 4 (.fld 0) [.s 3] (some (.r 2, true)) <|
 .q 5 .ld [.r 4] (some (.r 2, true)) <|
 .q 6 .neq [.r 5, .c (.int .i64 3)] (some (.r 2, true)) <|
 .q 7 .mv [.r 6] (some (.r 2, true)) <|
 .q 8 (.fld 5) [.s 3] (some (.r 7, false)) <|
 .q 9 (.lda 7) [.r 8] (some (.r 7, false)) <|
 .q 10 (.fld 5) [.s 2] (some (.r 7, false)) <|
 .q 11 (.lda 7) [.r 10] (some (.r 7, false)) <|
 .q 12 (.eqc true [(.i .i64), (.i .i64), (.i .i64), .s, .s, .s, .s]) [.r 9, .r 11] (some (.r 7, false)) <|
 .q 13 .pick [.r 7, .c (.bool true), .r 12] (some (.r 2, true)) <|
 .q 14 .mv [.r 13] (some (.r 2, true)) <|
 .q 15 (.fld 12) [.s 3] (some (.r 14, false)) <|
 .q 16 (.lda 8) [.r 15] (some (.r 14, false)) <|
 .q 17 (.fld 12) [.s 2] (some (.r 14, false)) <|
 .q 18 (.lda 8) [.r 17] (some (.r 14, false)) <|
 .q 19 (.eqc true [(.i .i64), (.i .i64), (.i .i64), (.i .i64), (.i .i64), (.i .i64), (.i .i64), (.i .i64)]) [.r 16, .r 18] (some (.r 14, false)) <|
 .q 20 .pick [.r 14, .c (.bool true), .r 19] (some (.r 2, true)) <|
 .q 21 .pick [.r 2, .r 20, .c (.bool false)] none <|
 .out [(2, .s 2), (3, .s 3), (26, .r 21)]
def e182r2 : EE := .out [(4, .c (.bool false))]
def e182r3 : EE := .q 0 (.fld 1) [.s 3] none <|
 .q 1 (.lda 2) [.r 0] none <|
 .q 2 (.fld 1) [.s 2] none <|
 .q 3 (.lda 2) [.r 2] none <|
 .x 4 (.call 205) [.r 1, .r 3] none [] <|
 .q 6 (.fld 3) [.s 3] (some (.r 4, false)) <|
 .q 7 (.lda 2) [.r 6] (some (.r 4, false)) <|
 .q 8 (.fld 3) [.s 2] (some (.r 4, false)) <|
 .q 9 (.lda 2) [.r 8] (some (.r 4, false)) <|
 .x 10 (.call 205) [.r 7, .r 9] (some (.r 4, false)) [] <|
 .q 11 .pick [.r 4, .c (.bool true), .r 10] none <|
 .out [(2, .s 2), (3, .s 3), (38, .r 11)]
def e182r4 : EE := .out [(4, .c (.bool false))]
def e182r5 : EE := .q 0 (.fld 0) [.s 3] none <|
 .q 1 .ld [.r 0] none <|
 .q 2 (.fld 0) [.s 2] none <|
 .q 3 .ld [.r 2] none <|
 .q 4 .geq [.r 1, .r 3] none <|
 .q 6 (.fld 3) [.s 3] (some (.r 4, false)) <|
 .q 7 (.lda 2) [.r 6] (some (.r 4, false)) <|
 .q 8 (.fld 3) [.s 2] (some (.r 4, false)) <|
 .q 9 (.lda 2) [.r 8] (some (.r 4, false)) <|
 .q 10 (.eqc true [(.i .i64), (.i .i64)]) [.r 7, .r 9] (some (.r 4, false)) <|
 .q 11 .pick [.r 4, .c (.bool true), .r 10] none <|
 .out [(4, .r 11)]
def e182 : EFn := ⟨(.seq (.reg e182r0 [0, 1] 0) (.seq (.seq (.reg e182r1 [2, 3] 0) (.cond (.s 26) (.seq (.reg e182r2 [] 0) .ret) .skip)) (.seq (.seq (.reg e182r3 [2, 3] 0) (.cond (.s 38) (.seq (.reg e182r4 [] 0) .ret) .skip)) (.seq (.reg e182r5 [2, 3] 0) .ret)))), [.slot 4], 51, 0⟩
theorem g182 : Good Tryz.prog 182 e182 := ⟨Tryz.f182, Tryz.func182, by kernel_rfl, by kernel_rfl, by kernel_rfl, by kernel_rfl⟩
/-! (*concord/interf.Index).Note -/
def e183r0 : EE := .x 0 (.box 40) [.s 1] none [] <|
 .x 1 (.box 33) [.s 2] none [] <|
 .out [(0, .s 0), (3, .s 3), (5, .r 0), (6, .r 1)]
def e183r1 : EE := .q 0 (.lda 2) [.s 5] none <|
 .x 1 (.call 129) [.r 0] none [] <|
 .q 2 .not [.r 1] none <|
 .q 4 (.fld 1) [.s 5] (some (.r 2, false)) <|
 .q 5 .ld [.r 4] (some (.r 2, false)) <|
 .q 6 .mv [.s 0] (some (.r 2, false)) <|
 .q 7 (.fld 0) [.s 5] (some (.r 2, false)) <|
 .q 8 .ld [.r 7] (some (.r 2, false)) <|
 .q 9 .nl [.r 6] (some (.r 2, false)) <|
 .q 10 (.fld 1) [.r 9] (some (.r 2, false)) <|
 .q 11 (.ixa 7 1) [.r 10, .r 8] (some (.r 2, false)) <|
 .q 12 .ld [.r 11] (some (.r 2, false)) <|
 .q 13 .leq [.r 5, .r 12] (some (.r 2, false)) <|
 .q 14 .pick [.r 2, .c (.bool true), .r 13] none <|
 .q 16 (.lda 7) [.s 6] (some (.r 14, false)) <|
 .x 17 (.call 41) [.r 16] (some (.r 14, false)) [] <|
 .q 18 .not [.r 17] (some (.r 14, false)) <|
 .q 19 .pick [.r 14, .c (.bool true), .r 18] none <|
 .q 21 .mv [.s 3] (some (.r 19, false)) <|
 .q 22 .lss [.r 21, .c z] (some (.r 19, false)) <|
 .q 23 .pick [.r 19, .c (.bool true), .r 22] none <|
 .q 25 .mv [.s 3] (some (.r 23, false)) <|
 .q 26 .gtr [.r 25, .c (.int .i64 1099511627776)] (some (.r 23, false)) <|
 .q 27 .pick [.r 23, .c (.bool true), .r 26] none <|
 .out [(0, .s 0), (3, .s 3), (5, .s 5), (6, .s 6), (36, .r 27)]
def e183r2 : EE := .out [(8, .c (.bool false))]
def e183r3 : EE := .q 1 .nl [.s 0] none <|
 .q 2 (.fld 0) [.r 1] none <|
 .q 3 .ld [.r 2] none <|
 .q 4 (.lda 2) [.s 5] none <|
 .q 5 (.lda 7) [.s 6] none <|
 .q 7 (.bld [z, z, z, zs, zs, zs, zs, z] [(0, 7), (7, 1)]) [.r 5, .s 3] none <|
 .x 8 (.mup true [(.i .i64), (.i .i64)]) [.r 3, .r 4, .r 7] none [] <|
 .out []
def e183r4 : EE := .out [(8, .c (.bool true))]
def e183 : EFn := ⟨(.seq (.reg e183r0 [0, 1, 2, 3] 0) (.seq (.seq (.reg e183r1 [0, 3, 5, 6] 0) (.cond (.s 36) (.seq (.reg e183r2 [] 0) .ret) .skip)) (.seq (.reg e183r3 [0, 3, 5, 6] 0) (.seq (.reg e183r4 [] 0) .ret)))), [.slot 8], 45, 0⟩
theorem g183 : Good Tryz.prog 183 e183 := ⟨Tryz.f183, Tryz.func183, by kernel_rfl, by kernel_rfl, by kernel_rfl, by kernel_rfl⟩
/-! concord/word.Put -/
def e184r0 : EE := .out [(0, .s 0), (1, .s 1), (2, .s 2)]
def e184r1 : EE := .q 1 .len [.s 0] none <|
 .q 2 .add [.r 1, .c (.int .i64 8)] none <|
 .x 3 (.mks 5 1 [(.int .u8 0)]) [.c z, .r 2] none [] <|
 .x 5 (.app 5 1 1 [(.int .u8 0)]) [.r 3, .s 0] none [] <|
 .out [(1, .s 1), (2, .s 2), (7, .r 5)]
def e184r2 : EE := .q 1 .mx [.s 1, .c z] none <|
 .q 2 .mn [.r 1, .c (.int .i64 8)] none <|
 .out [(2, .s 2), (7, .s 7), (16, .r 2), (17, .c z)]
def e184r3 : EE := .q 0 .lss [.s 17, .s 16] none <|
 .out [(2, .s 2), (7, .s 7), (16, .s 16), (17, .s 17), (18, .r 0)]
def e184r4 : EE := .q 2 (.conv .u8) [.s 2] none <|
 .x 3 (.bsl 5 1 [(.int .u8 0)] [(0, 1)]) [.r 2] none [] <|
 .x 4 (.app 5 1 1 [(.int .u8 0)]) [.s 7, .r 3] none [] <|
 .out [(2, .s 2), (7, .r 4), (16, .s 16), (17, .s 17)]
def e184r5 : EE := .q 1 .shr [.s 2, .c (.int .u64 8)] none <|
 .out [(2, .r 1), (7, .s 7), (16, .s 16), (17, .s 17)]
def e184r6 : EE := .q 0 .add [.s 17, .c (.int .i64 1)] none <|
 .out [(2, .s 2), (7, .s 7), (16, .s 16), (17, .r 0)]
def e184l7 : EC := (.seq (.reg e184r3 [2, 7, 16, 17] 0) (.seq (.cond (.s 18) .skip (.exit 0)) (.seq (.block 1 (.seq (.reg e184r4 [2, 7, 16, 17] 0) (.reg e184r5 [2, 7, 16, 17] 0))) (.reg e184r6 [2, 7, 16, 17] 0))))
def e184r8 : EE := .out [(6, .s 7)]
def e184 : EFn := ⟨(.seq (.reg e184r0 [0, 1, 2] 0) (.seq (.reg e184r1 [0, 1, 2] 0) (.seq (.seq (.reg e184r2 [1, 2, 7] 0) (.block 0 (.loop [2, 7, 16, 17] e184l7))) (.seq (.reg e184r8 [7] 0) .ret)))), [.slot 6], 28, 0⟩
theorem g184 : Good Tryz.prog 184 e184 := ⟨Tryz.f184, Tryz.func184, by kernel_rfl, by kernel_rfl, by kernel_rfl, by kernel_rfl⟩
/-! concord/pack.num -/
def e185r0 : EE := .out [(0, .s 0), (1, .s 1)]
def e185r1 : EE := .x 1 (.call 248) [.s 1] none [] <|
 .out [(0, .s 0), (5, .r 1)]
def e185r2 : EE := .q 1 .geq [.s 5, .c (.int .u64 128)] none <|
 .out [(0, .s 0), (5, .s 5), (9, .r 1)]
def e185r3 : EE := .q 2 (.conv .u8) [.s 5] none <|
 .q 3 .or [.r 2, .c (.int .u8 128)] none <|
 .x 4 (.bsl 5 1 [(.int .u8 0)] [(0, 1)]) [.r 3] none [] <|
 .x 5 (.app 5 1 1 [(.int .u8 0)]) [.s 0, .r 4] none [] <|
 .out [(0, .r 5), (5, .s 5)]
def e185r4 : EE := .q 1 .shr [.s 5, .c (.int .u64 7)] none <|
 .out [(0, .s 0), (5, .r 1)]
def e185l5 : EC := (.seq (.seq (.reg e185r2 [0, 5] 0) (.cond (.s 9) .skip (.exit 0))) (.block 1 (.seq (.reg e185r3 [0, 5] 0) (.reg e185r4 [0, 5] 0))))
def e185r6 : EE := .q 2 (.conv .u8) [.s 5] none <|
 .x 3 (.bsl 5 1 [(.int .u8 0)] [(0, 1)]) [.r 2] none [] <|
 .x 4 (.app 5 1 1 [(.int .u8 0)]) [.s 0, .r 3] none [] <|
 .out [(4, .r 4)]
def e185 : EFn := ⟨(.seq (.reg e185r0 [0, 1] 0) (.seq (.reg e185r1 [0, 1] 0) (.seq (.block 0 (.loop [0, 5] e185l5)) (.seq (.reg e185r6 [0, 5] 0) .ret)))), [.slot 4], 23, 0⟩
theorem g185 : Good Tryz.prog 185 e185 := ⟨Tryz.f185, Tryz.func185, by kernel_rfl, by kernel_rfl, by kernel_rfl, by kernel_rfl⟩
/-! (*concord/disk.Disk).Append -/
def e186r0 : EE := .out [(0, .s 0), (1, .s 1), (2, .s 2)]
def e186r1 : EE := .q 1 .nl [.s 0] none <|
 .q 2 (.fld 2) [.r 1] none <|
 .q 3 .ld [.r 2] none <|
 .out [(0, .s 0), (1, .s 1), (2, .s 2), (10, .r 3)]
def e186r2 : EE := .out [(6, .c (.int .i64 10))]
def e186r3 : EE := .x 1 (.call 249) [.s 1] none [] <|
 .q 2 .not [.r 1] none <|
 .out [(0, .s 0), (1, .s 1), (2, .s 2), (15, .r 2)]
def e186r4 : EE := .out [(6, .c (.int .i64 11))]
def e186r5 : EE := .q 1 .len [.s 2] none <|
 .x 3 (.call 250) [.s 0] none [] <|
 .q 4 .gtr [.r 1, .r 3] none <|
 .out [(0, .s 0), (1, .s 1), (2, .s 2), (19, .r 4)]
def e186r6 : EE := .out [(6, .c (.int .i64 7))]
def e186r7 : EE := .x 1 (.call 172) [.s 0] none [] <|
 .out [(0, .s 0), (1, .s 1), (2, .s 2), (7, .r 1)]
def e186r8 : EE := .q 1 .neq [.s 7, .c z] none <|
 .out [(0, .s 0), (1, .s 1), (2, .s 2), (7, .s 7), (28, .r 1)]
def e186r9 : EE := .out [(6, .s 7)]
def e186r10 : EE := .x 2 (.call 164) [.s 0, .s 1] none [] <|
 .q 4 (.ext 0) [.r 2] none <|
 .q 5 (.ext 1) [.r 2] none <|
 .out [(0, .s 0), (1, .s 1), (2, .s 2), (8, .r 4), (9, .r 5)]
def e186r11 : EE := .q 1 .not [.s 9] none <|
 .out [(0, .s 0), (1, .s 1), (2, .s 2), (8, .s 8), (37, .r 1)]
def e186r12 : EE := .q 2 .nl [.s 0] none <|
 .q 3 (.fld 1) [.r 2] none <|
 .q 4 .ld [.r 3] none <|
 .q 7 (.bld [zs, .nsl, z] [(0, 1)]) [.s 1] none <|
 .x 8 (.bsl 256 1 [zs, .nsl, z] [(0, 3)]) [.r 7] none [] <|
 .x 9 (.call 251) [.r 4, .s 8, .r 8] none [] <|
 .q 10 .nl [.s 0] none <|
 .q 11 (.fld 1) [.r 10] none <|
 .x 12 (.st 1) [.r 11, .r 9] none [] <|
 .out [(0, .s 0), (2, .s 2), (8, .s 8)]
def e186r13 : EE := .q 1 .nl [.s 0] none <|
 .q 2 (.fld 1) [.r 1] none <|
 .q 3 .ld [.r 2] none <|
 .q 6 .nl [.s 0] none <|
 .q 7 (.fld 1) [.r 6] none <|
 .q 8 .ld [.r 7] none <|
 .q 10 (.ixs 3) [.r 8, .s 8] none <|
 .q 11 (.fld 1) [.r 10] none <|
 .q 12 .ld [.r 11] none <|
 .x 14 (.bsl 103 2 [.nsl, .nsl] [(0, 1), (1, 1)]) [.r 12, .s 2] none [⟨3, .ld, [.r 2], none⟩] <|
 .x 15 (.call 252) [.r 14] none [⟨3, .ld, [.r 2], none⟩] <|
 .q 16 (.ixs 3) [.r 3, .s 8] none <|
 .q 17 (.fld 1) [.r 16] none <|
 .x 18 (.st 1) [.r 17, .r 15] none [] <|
 .out []
def e186r14 : EE := .out [(6, .c z)]
def e186 : EFn := ⟨(.seq (.reg e186r0 [0, 1, 2] 0) (.seq (.block 0 (.seq (.reg e186r1 [0, 1, 2] 0) (.cond (.s 10) (.seq (.reg e186r2 [] 0) .ret) (.seq (.reg e186r3 [0, 1, 2] 0) (.cond (.s 15) (.seq (.reg e186r4 [] 0) .ret) (.seq (.reg e186r5 [0, 1, 2] 0) (.cond (.s 19) (.seq (.reg e186r6 [] 0) .ret) .skip))))))) (.seq (.seq (.reg e186r7 [0, 1, 2] 0) (.seq (.reg e186r8 [0, 1, 2, 7] 0) (.cond (.s 28) (.seq (.reg e186r9 [7] 0) .ret) .skip))) (.seq (.reg e186r10 [0, 1, 2] 0) (.seq (.seq (.reg e186r11 [0, 1, 2, 8, 9] 0) (.cond (.s 37) (.reg e186r12 [0, 1, 2, 8] 0) .skip)) (.seq (.reg e186r13 [0, 2, 8] 0) (.seq (.reg e186r14 [] 0) .ret))))))), [.slot 6], 68, 0⟩
theorem g186 : Good Tryz.prog 186 e186 := ⟨Tryz.f186, Tryz.func186, by kernel_rfl, by kernel_rfl, by kernel_rfl, by kernel_rfl⟩
/-! (*concord/core.Core).Drain -/
def e187r0 : EE := .out [(0, .s 0)]
def e187r1 : EE := .q 1 .nl [.s 0] none <|
 .q 2 (.fld 6) [.r 1] none <|
 .q 3 .ld [.r 2] none <|
 .q 5 .nl [.s 0] none <|
 .q 6 (.fld 7) [.r 5] none <|
 .q 7 .ld [.r 6] none <|
 .out [(0, .s 0), (4, .r 3), (5, .r 7)]
def e187r2 : EE := .q 2 .nl [.s 0] none <|
 .q 3 (.fld 6) [.r 2] none <|
 .x 4 (.st 1) [.r 3, .c .nsl] none [] <|
 .q 5 .nl [.s 0] none <|
 .q 6 (.fld 7) [.r 5] none <|
 .x 7 (.st 1) [.r 6, .c .nsl] none [] <|
 .out [(4, .s 4), (5, .s 5)]
def e187r3 : EE := .out [(2, .s 4), (3, .s 5)]
def e187 : EFn := ⟨(.seq (.reg e187r0 [0] 0) (.seq (.reg e187r1 [0] 0) (.seq (.reg e187r2 [0, 4, 5] 0) (.seq (.reg e187r3 [4, 5] 0) .ret)))), [.slot 2, .slot 3], 22, 0⟩
theorem g187 : Good Tryz.prog 187 e187 := ⟨Tryz.f187, Tryz.func187, by kernel_rfl, by kernel_rfl, by kernel_rfl, by kernel_rfl⟩
/-! concord/node.cellRecord -/
def e188r0 : EE := .out [(0, .s 0)]
def e188r1 : EE := .x 0 (.bsl 5 1 [(.int .u8 0)] [(0, 1)]) [.c (.int .u8 2)] none [] <|
 .x 2 (.app 5 1 1 [(.int .u8 0)]) [.r 0, .s 0] none [] <|
 .out [(2, .r 2)]
def e188 : EFn := ⟨(.seq (.reg e188r0 [0] 0) (.seq (.reg e188r1 [0] 0) .ret)), [.slot 2], 6, 0⟩
theorem g188 : Good Tryz.prog 188 e188 := ⟨Tryz.f188, Tryz.func188, by kernel_rfl, by kernel_rfl, by kernel_rfl, by kernel_rfl⟩
/-! (*concord/wal.Wal).Add -/
def e189r0 : EE := .out [(0, .s 0), (1, .s 1)]
def e189r1 : EE := .q 1 .nl [.s 0] none <|
 .q 2 (.fld 3) [.r 1] none <|
 .q 3 .ld [.r 2] none <|
 .out [(0, .s 0), (1, .s 1), (14, .r 3)]
def e189r2 : EE := .out [(4, .c (.int .i64 10))]
def e189r3 : EE := .q 1 .nl [.s 0] none <|
 .q 2 (.fld 1) [.r 1] none <|
 .q 3 (.fld 0) [.r 2] none <|
 .q 4 .ld [.r 3] none <|
 .q 5 .eql [.r 4, .c z] none <|
 .out [(0, .s 0), (1, .s 1), (20, .r 5)]
def e189r4 : EE := .out [(4, .c (.int .i64 8))]
def e189r5 : EE := .x 1 (.call 107) [.c .nsl, .s 1] none [] <|
 .q 3 (.ext 0) [.r 1] none <|
 .q 4 (.ext 1) [.r 1] none <|
 .out [(0, .s 0), (1, .s 1), (5, .r 3), (6, .r 4)]
def e189r6 : EE := .q 1 .not [.s 6] none <|
 .out [(0, .s 0), (1, .s 1), (5, .s 5), (27, .r 1)]
def e189r7 : EE := .out [(4, .c (.int .i64 1))]
def e189r8 : EE := .q 1 .len [.s 1] none <|
 .q 2 .eql [.r 1, .c z] none <|
 .out [(0, .s 0), (5, .s 5), (30, .r 2)]
def e189r9 : EE := .out [(4, .c z)]
def e189r10 : EE := .q 1 .nl [.s 0] none <|
 .q 2 (.fld 1) [.r 1] none <|
 .q 3 (.lda 2) [.r 2] none <|
 .x 4 (.alc [z, z] 190) [] none [] <|
 .x 5 (.st 2) [.r 4, .r 3] none [] <|
 .out [(0, .s 0), (5, .s 5), (7, .r 4)]
def e189r11 : EE := .q 1 .nl [.s 0] none <|
 .q 2 (.fld 0) [.r 1] none <|
 .q 3 .ld [.r 2] none <|
 .q 4 (.lda 2) [.s 7] none <|
 .x 5 (.call 94) [.r 4] none [⟨3, .ld, [.r 2], none⟩] <|
 .x 6 (.call 88) [.r 3, .r 5] none [] <|
 .q 8 (.ext 0) [.r 6] none <|
 .q 9 (.ext 1) [.r 6] none <|
 .out [(0, .s 0), (5, .s 5), (7, .s 7), (8, .r 8)]
def e189r12 : EE := .q 1 .len [.s 8] none <|
 .q 2 .gtr [.r 1, .c (.int .i64 4096)] none <|
 .q 4 (.fld 1) [.s 7] (some (.r 2, true)) <|
 .q 5 .ld [.r 4] (some (.r 2, true)) <|
 .q 6 .lss [.r 5, .c (.int .i64 999999999)] (some (.r 2, true)) <|
 .q 7 .pick [.r 2, .r 6, .c (.bool false)] none <|
 .out [(0, .s 0), (5, .s 5), (7, .s 7), (52, .r 7)]
def e189r13 : EE := .q 0 (.fld 1) [.s 7] none <|
 .q 1 .ld [.r 0] none <|
 .q 2 .add [.r 1, .c (.int .i64 1)] none <|
 .q 3 (.fld 1) [.s 7] none <|
 .x 4 (.st 1) [.r 3, .r 2] none [] <|
 .out [(0, .s 0), (5, .s 5), (7, .s 7)]
def e189r14 : EE := .q 1 (.lda 2) [.s 7] none <|
 .x 3 (.call 110) [.s 0, .r 1, .s 5] none [] <|
 .out [(0, .s 0), (7, .s 7), (10, .r 3)]
def e189r15 : EE := .q 1 .neq [.s 10, .c z] none <|
 .out [(0, .s 0), (7, .s 7), (10, .s 10), (62, .r 1)]
def e189r16 : EE := .out [(4, .s 10)]
def e189r17 : EE := .q 1 (.lda 2) [.s 7] none <|
 .q 2 .nl [.s 0] none <|
 .q 3 (.fld 1) [.r 2] none <|
 .x 4 (.st 2) [.r 3, .r 1] none [] <|
 .out []
def e189r18 : EE := .out [(4, .c z)]
def e189 : EFn := ⟨(.seq (.reg e189r0 [0, 1] 0) (.seq (.seq (.reg e189r1 [0, 1] 0) (.cond (.s 14) (.seq (.reg e189r2 [] 0) .ret) .skip)) (.seq (.seq (.reg e189r3 [0, 1] 0) (.cond (.s 20) (.seq (.reg e189r4 [] 0) .ret) .skip)) (.seq (.reg e189r5 [0, 1] 0) (.seq (.seq (.reg e189r6 [0, 1, 5, 6] 0) (.cond (.s 27) (.seq (.reg e189r7 [] 0) .ret) .skip)) (.seq (.seq (.reg e189r8 [0, 1, 5] 0) (.cond (.s 30) (.seq (.reg e189r9 [] 0) .ret) .skip)) (.seq (.reg e189r10 [0, 5] 0) (.seq (.seq (.reg e189r11 [0, 5, 7] 0) (.seq (.reg e189r12 [0, 5, 7, 8] 0) (.cond (.s 52) (.reg e189r13 [0, 5, 7] 0) .skip))) (.seq (.seq (.reg e189r14 [0, 5, 7] 0) (.seq (.reg e189r15 [0, 7, 10] 0) (.cond (.s 62) (.seq (.reg e189r16 [10] 0) .ret) .skip))) (.seq (.reg e189r17 [0, 7] 0) (.seq (.reg e189r18 [] 0) .ret))))))))))), [.slot 4], 68, 0⟩
theorem g189 : Good Tryz.prog 189 e189 := ⟨Tryz.f189, Tryz.func189, by kernel_rfl, by kernel_rfl, by kernel_rfl, by kernel_rfl⟩
/-! concord/exec.Plan -/
def e191r0 : EE := .x 0 (.box 44) [.s 0] none [] <|
 .out [(1, .s 1), (2, .r 0)]
def e191r1 : EE := .q 0 (.lda 7) [.s 2] none <|
 .x 1 .mkm [] none [] <|
 .q 2 (.bld [z, z, z, z, z, z, z, .nmap, .nsl] [(0, 7), (7, 1)]) [.r 0, .r 1] none <|
 .x 3 (.box 368) [.r 2] none [] <|
 .out [(1, .s 1), (6, .r 3)]
def e191r2 : EE := .q 1 .len [.s 1] none <|
 .out [(6, .s 6), (17, .s 1), (18, .r 1), (19, .c z)]
def e191r3 : EE := .q 0 .lss [.s 19, .s 18] none <|
 .out [(6, .s 6), (17, .s 17), (18, .s 18), (19, .s 19), (20, .r 0)]
def e191r4 : EE := .q 0 (.ixs 23) [.s 17, .s 19] none <|
 .q 1 (.lda 23) [.r 0] none <|
 .x 2 (.alc [z, z, z, z, z, z, z, z, z, z, zs, zs, zs, zs, z, z, z, z, z, z, z, z, (.bool false)] 311) [] none [] <|
 .x 3 (.st 23) [.r 2, .r 1] none [] <|
 .out [(6, .s 6), (8, .r 2), (17, .s 17), (18, .s 18), (19, .s 19)]
def e191r5 : EE := .q 1 .nl [.s 6] none <|
 .q 2 (.fld 7) [.r 1] none <|
 .q 3 .ld [.r 2] none <|
 .q 4 (.fld 0) [.s 8] none <|
 .q 5 (.lda 2) [.r 4] none <|
 .q 6 (.lkp true [(.i .i64), (.i .i64)] (.agg [z, z, z, z, z, z, z, z, zs, zs, zs, zs, z, z, z, z, z, z, z, z, (.bool false)]) true) [.r 3, .r 5] none <|
 .q 8 (.ext 0) [.r 6] none <|
 .q 9 (.ext 1) [.r 6] none <|
 .x 10 (.alc [z, z, z, z, z, z, z, z, zs, zs, zs, zs, z, z, z, z, z, z, z, z, (.bool false)] 48) [] none [⟨3, .ld, [.r 2], none⟩, ⟨5, (.lda 2), [.r 4], none⟩, ⟨6, (.lkp true [(.i .i64), (.i .i64)] (.agg [z, z, z, z, z, z, z, z, zs, zs, zs, zs, z, z, z, z, z, z, z, z, (.bool false)]) true), [.r 3, .r 5], none⟩] <|
 .x 11 (.st 21) [.r 10, .r 8] none [] <|
 .out [(6, .s 6), (8, .s 8), (10, .r 9), (17, .s 17), (18, .s 18), (19, .s 19)]
def e191r6 : EE := .q 2 (.fld 2) [.s 8] (some (.s 10, false)) <|
 .q 3 (.fld 0) [.r 2] (some (.s 10, false)) <|
 .q 4 .ld [.r 3] (some (.s 10, false)) <|
 .q 5 .neq [.r 4, .c (.int .i64 3)] (some (.s 10, false)) <|
 .q 6 .pick [.s 10, .c (.bool true), .r 5] none <|
 .out [(6, .s 6), (8, .s 8), (17, .s 17), (18, .s 18), (19, .s 19), (39, .r 6)]
def e191r7 : EE := .q 1 .nl [.s 6] none <|
 .q 2 (.fld 7) [.r 1] none <|
 .q 3 .ld [.r 2] none <|
 .q 4 (.fld 0) [.s 8] none <|
 .q 5 (.lda 2) [.r 4] none <|
 .q 6 (.fld 2) [.s 8] none <|
 .q 7 (.lda 21) [.r 6] none <|
 .x 8 (.mup true [(.i .i64), (.i .i64)]) [.r 3, .r 5, .r 7] none [] <|
 .out [(6, .s 6), (17, .s 17), (18, .s 18), (19, .s 19)]
def e191r8 : EE := .q 0 .add [.s 19, .c (.int .i64 1)] none <|
 .out [(6, .s 6), (17, .s 17), (18, .s 18), (19, .r 0)]
def e191l9 : EC := (.seq (.reg e191r3 [6, 17, 18, 19] 0) (.seq (.cond (.s 20) .skip (.exit 0)) (.seq (.block 1 (.seq (.reg e191r4 [6, 17, 18, 19] 0) (.seq (.seq (.reg e191r5 [6, 8, 17, 18, 19] 0) (.seq (.reg e191r6 [6, 8, 10, 17, 18, 19] 0) (.cond (.s 39) (.exit 1) .skip))) (.reg e191r7 [6, 8, 17, 18, 19] 0)))) (.reg e191r8 [6, 17, 18, 19] 0))))
def e191r10 : EE := .x 1 (.call 253) [.s 6] none [] <|
 .q 3 (.ext 0) [.r 1] none <|
 .q 4 (.ext 1) [.r 1] none <|
 .out [(6, .s 6), (11, .r 3), (12, .r 4)]
def e191r11 : EE := .q 1 .not [.s 11] none <|
 .out [(6, .s 6), (12, .s 12), (55, .r 1)]
def e191r12 : EE := .q 1 .nl [.s 6] none <|
 .q 2 (.fld 8) [.r 1] none <|
 .q 3 .ld [.r 2] none <|
 .x 5 (.call 254) [.s 12] none [⟨3, .ld, [.r 2], none⟩] <|
 .out [(4, .r 3), (5, .r 5)]
def e191l13 : EC := (.block 3 (.seq (.reg e191r10 [6] 0) (.seq (.reg e191r11 [6, 11, 12] 0) (.cond (.s 55) (.seq (.reg e191r12 [6, 12] 0) .ret) .skip))))
def e191 : EFn := ⟨(.seq (.reg e191r0 [0, 1] 0) (.seq (.reg e191r1 [1, 2] 0) (.seq (.seq (.reg e191r2 [1, 6] 0) (.block 0 (.loop [6, 17, 18, 19] e191l9))) (.block 2 (.loop [6] e191l13))))), [.slot 4, .slot 5], 62, 0⟩
theorem g191 : Good Tryz.prog 191 e191 := ⟨Tryz.f191, Tryz.func191, by kernel_rfl, by kernel_rfl, by kernel_rfl, by kernel_rfl⟩
end Go.Ev
