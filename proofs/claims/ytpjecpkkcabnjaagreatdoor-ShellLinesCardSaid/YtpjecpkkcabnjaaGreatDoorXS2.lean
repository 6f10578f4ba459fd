import Derived.Test.YtpjecpkkcabnjaaGreatDoorEvB
import Derived.Test.YtpjecpkkcabnjaaGreatDoorProg
set_option linter.unusedVariables false
set_option linter.unusedSimpArgs false
namespace Go.Ev
open Go.Fw Go.Proofs
/-! (*concord/front.Fronts).Hear -/
def e95r0 : EE := .x 0 (.box 133) [.s 2] none [] <|
 .out [(0, .s 0), (1, .s 1), (5, .r 0)]
def e95r1 : EE := .q 1 .lss [.s 1, .c z] none <|
 .q 3 .mv [.s 1] (some (.r 1, false)) <|
 .q 4 .mv [.s 0] (some (.r 1, false)) <|
 .q 5 .nl [.r 4] (some (.r 1, false)) <|
 .q 6 (.fld 0) [.r 5] (some (.r 1, false)) <|
 .q 7 .ld [.r 6] (some (.r 1, false)) <|
 .q 8 .geq [.r 3, .r 7] (some (.r 1, false)) <|
 .q 9 .pick [.r 1, .c (.bool true), .r 8] none <|
 .q 11 (.lda 7) [.s 5] (some (.r 9, false)) <|
 .q 12 (.bld [z, z, z, z, z, z, z, z] [(1, 7)]) [.r 11] (some (.r 9, false)) <|
 .x 13 (.call 144) [.r 12] (some (.r 9, false)) [] <|
 .q 14 .not [.r 13] (some (.r 9, false)) <|
 .q 15 .pick [.r 9, .c (.bool true), .r 14] none <|
 .out [(0, .s 0), (1, .s 1), (5, .s 5), (24, .r 15)]
def e95r2 : EE := .out [(6, .c (.bool false))]
def e95r3 : EE := .q 0 (.lda 7) [.s 5] none <|
 .out [(0, .s 0), (1, .s 1), (25, .r 0), (26, .c z)]
def e95r4 : EE := .q 0 .lss [.s 26, .c (.int .i64 7)] none <|
 .out [(0, .s 0), (1, .s 1), (25, .s 25), (26, .s 26), (27, .r 0)]
def e95r5 : EE := .q 1 (.idx 7 1) [.s 25, .s 26] none <|
 .out [(0, .s 0), (1, .s 1), (7, .s 26), (8, .r 1), (25, .s 25), (26, .s 26)]
def e95r6 : EE := .q 6 .nl [.s 0] none <|
 .q 7 (.fld 2) [.r 6] none <|
 .q 8 (.ixa 7 7) [.r 7, .s 1] none <|
 .q 9 (.ixa 7 1) [.r 8, .s 7] none <|
 .q 10 .ld [.r 9] none <|
 .q 12 .mx [.r 10, .s 8] none <|
 .q 13 .nl [.s 0] none <|
 .q 14 (.fld 2) [.r 13] none <|
 .q 15 (.ixa 7 7) [.r 14, .s 1] none <|
 .q 16 (.ixa 7 1) [.r 15, .s 7] none <|
 .x 17 (.st 1) [.r 16, .r 12] none [] <|
 .out [(0, .s 0), (1, .s 1), (25, .s 25), (26, .s 26)]
def e95r7 : EE := .q 0 .add [.s 26, .c (.int .i64 1)] none <|
 .out [(0, .s 0), (1, .s 1), (25, .s 25), (26, .r 0)]
def e95l8 : EC := (.seq (.reg e95r4 [0, 1, 25, 26] 0) (.seq (.cond (.s 27) .skip (.exit 0)) (.seq (.block 1 (.seq (.reg e95r5 [0, 1, 25, 26] 0) (.reg e95r6 [0, 1, 7, 8, 25, 26] 0))) (.reg e95r7 [0, 1, 25, 26] 0))))
def e95r9 : EE := .out [(6, .c (.bool true))]
def e95 : EFn := ⟨(.seq (.reg e95r0 [0, 1, 2] 0) (.seq (.seq (.reg e95r1 [0, 1, 5] 0) (.cond (.s 24) (.seq (.reg e95r2 [] 0) .ret) .skip)) (.seq (.seq (.reg e95r3 [0, 1, 5] 0) (.block 0 (.loop [0, 1, 25, 26] e95l8))) (.seq (.reg e95r9 [] 0) .ret)))), [.slot 6], 48, 0⟩
theorem g95 : Good Tryz.prog 95 e95 := ⟨Tryz.f95, Tryz.func95, by kernel_rfl, by kernel_rfl, by kernel_rfl, by kernel_rfl⟩
/-! (*concord/node.Node).settle -/
def e96r0 : EE := .q 1 .nl [.s 0] none <|
 .q 2 (.fld 74) [.r 1] none <|
 .q 3 .ld [.r 2] none <|
 .q 5 .mv [.s 0] (some (.r 3, false)) <|
 .x 6 (.call 155) [.r 5] (some (.r 3, false)) [] <|
 .q 7 .not [.r 6] (some (.r 3, false)) <|
 .q 8 .pick [.r 3, .c (.bool true), .r 7] none <|
 .out [(0, .s 0), (10, .r 8)]
def e96r1 : EE := .x 1 (.call 156) [.s 0] none [] <|
 .out [(0, .s 0)]
def e96r2 : EE := .x 1 (.call 157) [.s 0] none [] <|
 .out [(0, .s 0)]
def e96r3 : EE := .q 1 .nl [.s 0] none <|
 .q 2 (.fld 69) [.r 1] none <|
 .q 3 .ld [.r 2] none <|
 .q 4 .geq [.r 3, .c (.int .i64 8)] none <|
 .q 6 .mv [.s 0] (some (.r 4, true)) <|
 .q 7 .mv [.s 0] (some (.r 4, true)) <|
 .q 8 .nl [.r 7] (some (.r 4, true)) <|
 .q 9 (.fld 55) [.r 8] (some (.r 4, true)) <|
 .q 10 (.lda 7) [.r 9] (some (.r 4, true)) <|
 .q 11 .mv [.s 0] (some (.r 4, true)) <|
 .q 12 .nl [.r 11] (some (.r 4, true)) <|
 .q 13 (.fld 6) [.r 12] (some (.r 4, true)) <|
 .q 14 (.lda 49) [.r 13] (some (.r 4, true)) <|
 .x 15 (.call 159) [.r 10, .r 14] (some (.r 4, true)) [] <|
 .x 16 (.call 158) [.r 6, .r 15] (some (.r 4, true)) [] <|
 .q 17 .not [.r 16] (some (.r 4, true)) <|
 .q 18 .pick [.r 4, .r 17, .c (.bool false)] none <|
 .out [(0, .s 0), (33, .r 18)]
def e96r4 : EE := .x 1 (.call 160) [.s 0] none [] <|
 .out []
def e96 : EFn := ⟨(.seq (.seq (.reg e96r0 [0] 0) (.cond (.s 10) .ret .skip)) (.seq (.reg e96r1 [0] 0) (.seq (.reg e96r2 [0] 0) (.seq (.seq (.reg e96r3 [0] 0) (.cond (.s 33) .ret .skip)) (.reg e96r4 [0] 0))))), [], 36, 0⟩
theorem g96 : Good Tryz.prog 96 e96 := ⟨Tryz.f96, Tryz.func96, by kernel_rfl, by kernel_rfl, by kernel_rfl, by kernel_rfl⟩
/-! (*concord/node.Node).Out -/
def e97r0 : EE := .out [(0, .s 0)]
def e97r1 : EE := .q 1 .nl [.s 0] none <|
 .q 2 (.fld 72) [.r 1] none <|
 .q 3 .ld [.r 2] none <|
 .q 5 .nl [.s 0] none <|
 .q 6 (.fld 73) [.r 5] none <|
 .q 7 .ld [.r 6] none <|
 .out [(0, .s 0), (4, .r 3), (5, .r 7)]
def e97r2 : EE := .q 2 .nl [.s 0] none <|
 .q 3 (.fld 72) [.r 2] none <|
 .x 4 (.st 1) [.r 3, .c .nsl] none [] <|
 .q 5 .nl [.s 0] none <|
 .q 6 (.fld 73) [.r 5] none <|
 .x 7 (.st 1) [.r 6, .c .nsl] none [] <|
 .out [(4, .s 4), (5, .s 5)]
def e97r3 : EE := .out [(2, .s 4), (3, .s 5)]
def e97 : EFn := ⟨(.seq (.reg e97r0 [0] 0) (.seq (.reg e97r1 [0] 0) (.seq (.reg e97r2 [0, 4, 5] 0) (.seq (.reg e97r3 [4, 5] 0) .ret)))), [.slot 2, .slot 3], 22, 0⟩
theorem g97 : Good Tryz.prog 97 e97 := ⟨Tryz.f97, Tryz.func97, by kernel_rfl, by kernel_rfl, by kernel_rfl, by kernel_rfl⟩
/-! (*concord/core.Core).Tick -/
def e105r0 : EE := .q 1 .nl [.s 0] none <|
 .q 2 (.fld 4) [.r 1] none <|
 .q 3 .ld [.r 2] none <|
 .x 4 (.call 168) [.r 3] none [] <|
 .q 5 .len [.r 4] none <|
 .out [(0, .s 0), (15, .r 4), (16, .r 5), (17, .c z)]
def e105r1 : EE := .q 0 .lss [.s 17, .s 16] none <|
 .out [(0, .s 0), (15, .s 15), (16, .s 16), (17, .s 17), (18, .r 0)]
def e105r2 : EE := .q 0 (.ixs 1) [.s 15, .s 17] none <|
 .q 1 .ld [.r 0] none <|
 .out [(0, .s 0), (3, .r 1), (15, .s 15), (16, .s 16), (17, .s 17)]
def e105r3 : EE := .q 1 .nl [.s 3] none <|
 .q 2 (.fld 31) [.r 1] none <|
 .q 3 .ld [.r 2] none <|
 .q 4 .add [.r 3, .c (.int .i64 1)] none <|
 .q 5 .nl [.s 3] none <|
 .q 6 (.fld 31) [.r 5] none <|
 .x 7 (.st 1) [.r 6, .r 4] none [] <|
 .out [(0, .s 0), (3, .s 3), (15, .s 15), (16, .s 16), (17, .s 17)]
def e105r4 : EE := .q 1 .nl [.s 3] none <|
 .q 2 (.fld 31) [.r 1] none <|
 .q 3 .ld [.r 2] none <|
 .q 4 .rem [.r 3, .c (.int .i64 4)] none <|
 .q 5 .neq [.r 4, .c z] none <|
 .q 7 .mv [.s 3] (some (.r 5, false)) <|
 .q 8 .nl [.r 7] (some (.r 5, false)) <|
 .q 9 (.fld 2) [.r 8] (some (.r 5, false)) <|
 .q 10 .ld [.r 9] (some (.r 5, false)) <|
 .q 11 .eql [.r 10, .c z] (some (.r 5, false)) <|
 .q 12 .mv [.r 11] (some (.r 5, false)) <|
 .q 13 .mv [.s 0] (some (.r 12, true)) <|
 .q 14 .mv [.s 3] (some (.r 12, true)) <|
 .x 15 (.call 169) [.r 13, .r 14, .c (.bool true)] (some (.r 12, true)) [] <|
 .q 16 .pick [.r 12, .r 15, .c (.bool false)] (some (.r 5, false)) <|
 .q 17 .pick [.r 5, .c (.bool true), .r 16] none <|
 .out [(0, .s 0), (3, .s 3), (15, .s 15), (16, .s 16), (17, .s 17), (45, .r 17)]
def e105r5 : EE := .q 4 .nl [.s 3] none <|
 .q 5 (.fld 21) [.r 4] none <|
 .q 6 (.lda 7) [.r 5] none <|
 .x 2 (.call 171) [.s 3] none [⟨6, (.lda 7), [.r 5], none⟩] <|
 .x 7 (.call 170) [.s 0, .r 2, .r 6] none [] <|
 .out [(0, .s 0), (15, .s 15), (16, .s 16), (17, .s 17)]
def e105r6 : EE := .q 0 .add [.s 17, .c (.int .i64 1)] none <|
 .out [(0, .s 0), (15, .s 15), (16, .s 16), (17, .r 0)]
def e105l7 : EC := (.seq (.reg e105r1 [0, 15, 16, 17] 0) (.seq (.cond (.s 18) .skip (.exit 0)) (.seq (.block 1 (.seq (.reg e105r2 [0, 15, 16, 17] 0) (.seq (.reg e105r3 [0, 3, 15, 16, 17] 0) (.seq (.seq (.reg e105r4 [0, 3, 15, 16, 17] 0) (.cond (.s 45) (.exit 1) .skip)) (.reg e105r5 [0, 3, 15, 16, 17] 0))))) (.reg e105r6 [0, 15, 16, 17] 0))))
def e105r8 : EE := .q 1 .nl [.s 0] none <|
 .q 2 (.fld 2) [.r 1] none <|
 .q 3 .ld [.r 2] none <|
 .x 4 (.call 172) [.r 3] none [] <|
 .q 5 .len [.r 4] none <|
 .out [(0, .s 0), (59, .r 4), (60, .r 5), (61, .c z)]
def e105r9 : EE := .q 0 .lss [.s 61, .s 60] none <|
 .out [(0, .s 0), (59, .s 59), (60, .s 60), (61, .s 61), (62, .r 0)]
def e105r10 : EE := .q 0 (.ixs 2) [.s 59, .s 61] none <|
 .q 1 (.lda 2) [.r 0] none <|
 .x 2 (.alc [z, z] 129) [] none [] <|
 .x 3 (.st 2) [.r 2, .r 1] none [] <|
 .out [(0, .s 0), (5, .r 2), (59, .s 59), (60, .s 60), (61, .s 61)]
def e105r11 : EE := .q 1 .nl [.s 0] none <|
 .q 2 (.fld 2) [.r 1] none <|
 .q 3 .ld [.r 2] none <|
 .q 4 (.lda 2) [.s 5] none <|
 .both false
 (.x 5 (.call 173) [.r 3, .r 4] none [] <|
 .q 7 (.ext 0) [.r 5] none <|
 .q 8 (.ext 1) [.r 5] none <|
 .x 9 (.alc [z, z, z, z, z, z, z, z, zs, zs, zs, zs, z, z, z, z, z, z, z, z, (.bool false)] 137) [] none [⟨3, .ld, [.r 2], none⟩, ⟨4, (.lda 2), [.s 5], none⟩] <|
 .x 10 (.st 21) [.r 9, .r 7] none [] <|
 .out [(0, .s 0), (5, .s 5), (6, .r 9), (59, .s 59), (60, .s 60), (61, .s 61)])
 (.x 9 (.alc [z, z, z, z, z, z, z, z, zs, zs, zs, zs, z, z, z, z, z, z, z, z, (.bool false)] 137) [] none [⟨3, .ld, [.r 2], none⟩, ⟨4, (.lda 2), [.s 5], none⟩] <|
 .x 5 (.call 173) [.r 3, .r 4] none [] <|
 .q 7 (.ext 0) [.r 5] none <|
 .q 8 (.ext 1) [.r 5] none <|
 .x 10 (.st 21) [.r 9, .r 7] none [] <|
 .out [(0, .s 0), (5, .s 5), (6, .r 9), (59, .s 59), (60, .s 60), (61, .s 61)])
def e105r12 : EE := .q 0 (.fld 0) [.s 6] none <|
 .q 1 .ld [.r 0] none <|
 .q 2 .neq [.r 1, .c (.int .i64 3)] none <|
 .q 4 .mv [.s 0] (some (.r 2, true)) <|
 .q 5 (.lda 2) [.s 5] (some (.r 2, true)) <|
 .x 6 (.call 174) [.r 4, .r 5] (some (.r 2, true)) [] <|
 .q 7 (.eqp false) [.r 6, .c .nptr] (some (.r 2, true)) <|
 .q 8 .pick [.r 2, .r 7, .c (.bool false)] none <|
 .out [(0, .s 0), (5, .s 5), (59, .s 59), (60, .s 60), (61, .s 61), (82, .r 8)]
def e105r13 : EE := .q 1 (.lda 2) [.s 5] none <|
 .x 2 (.call 175) [.s 0, .r 1] none [] <|
 .out [(0, .s 0), (59, .s 59), (60, .s 60), (61, .s 61)]
def e105r14 : EE := .q 0 .add [.s 61, .c (.int .i64 1)] none <|
 .out [(0, .s 0), (59, .s 59), (60, .s 60), (61, .r 0)]
def e105l15 : EC := (.seq (.reg e105r9 [0, 59, 60, 61] 0) (.seq (.cond (.s 62) .skip (.exit 2)) (.seq (.block 3 (.seq (.reg e105r10 [0, 59, 60, 61] 0) (.seq (.reg e105r11 [0, 5, 59, 60, 61] 11) (.seq (.reg e105r12 [0, 5, 6, 59, 60, 61] 0) (.cond (.s 82) (.reg e105r13 [0, 5, 59, 60, 61] 0) .skip))))) (.reg e105r14 [0, 59, 60, 61] 0))))
def e105r16 : EE := .q 1 .nl [.s 0] none <|
 .q 2 (.fld 5) [.r 1] none <|
 .q 3 .ld [.r 2] none <|
 .x 4 (.call 176) [.r 3] none [] <|
 .q 5 .len [.r 4] none <|
 .out [(0, .s 0), (91, .r 4), (92, .r 5), (93, .c z)]
def e105r17 : EE := .q 0 .lss [.s 93, .s 92] none <|
 .out [(0, .s 0), (91, .s 91), (92, .s 92), (93, .s 93), (94, .r 0)]
def e105r18 : EE := .q 0 (.ixs 1) [.s 91, .s 93] none <|
 .q 1 .ld [.r 0] none <|
 .x 2 (.alc [.nptr] 286) [] none [] <|
 .x 3 (.st 1) [.r 2, .r 1] none [] <|
 .out [(0, .s 0), (9, .r 2), (91, .s 91), (92, .s 92), (93, .s 93)]
def e105r19 : EE := .q 1 .ld [.s 9] none <|
 .q 2 .nl [.r 1] none <|
 .q 3 (.fld 0) [.r 2] none <|
 .q 4 (.lda 2) [.r 3] none <|
 .x 5 (.call 177) [.s 0, .r 4] none [] <|
 .q 6 .not [.r 5] none <|
 .out [(0, .s 0), (9, .s 9), (91, .s 91), (92, .s 92), (93, .s 93), (103, .r 6)]
def e105r20 : EE := .q 2 .nl [.s 0] none <|
 .q 3 (.fld 5) [.r 2] none <|
 .q 4 .ld [.r 3] none <|
 .q 5 (.mkf 179 0) [.s 9] none <|
 .x 6 (.call 178) [.r 4, .r 5] none [] <|
 .q 7 .nl [.s 0] none <|
 .q 8 (.fld 5) [.r 7] none <|
 .x 9 (.st 1) [.r 8, .r 6] none [] <|
 .out [(0, .s 0), (91, .s 91), (92, .s 92), (93, .s 93)]
def e105r21 : EE := .q 1 .ld [.s 9] none <|
 .q 2 .nl [.r 1] none <|
 .q 3 (.fld 0) [.r 2] none <|
 .q 4 (.lda 2) [.r 3] none <|
 .x 5 (.call 174) [.s 0, .r 4] none [] <|
 .q 6 (.eqp true) [.r 5, .c .nptr] none <|
 .out [(0, .s 0), (9, .s 9), (91, .s 91), (92, .s 92), (93, .s 93), (119, .r 6)]
def e105r22 : EE := .q 0 .ld [.s 9] none <|
 .q 1 .nl [.r 0] none <|
 .q 2 (.fld 2) [.r 1] none <|
 .q 3 .ld [.r 2] none <|
 .q 4 .add [.r 3, .c (.int .i64 1)] none <|
 .q 5 .nl [.r 0] none <|
 .q 6 (.fld 2) [.r 5] none <|
 .x 7 (.st 1) [.r 6, .r 4] none [] <|
 .out [(0, .s 0), (9, .s 9), (91, .s 91), (92, .s 92), (93, .s 93)]
def e105r23 : EE := .q 1 .nl [.s 0] none <|
 .q 2 (.fld 1) [.r 1] none <|
 .q 3 .ld [.r 2] none <|
 .q 4 .ld [.s 9] none <|
 .q 5 .nl [.r 4] none <|
 .q 6 (.fld 0) [.r 5] none <|
 .q 7 (.fld 0) [.r 6] none <|
 .q 8 .ld [.r 7] none <|
 .q 9 .sub [.r 3, .r 8] none <|
 .q 11 .nl [.s 0] none <|
 .q 12 (.fld 0) [.r 11] none <|
 .q 13 .ld [.r 12] none <|
 .q 14 .add [.r 9, .r 13] none <|
 .q 16 .nl [.s 0] none <|
 .q 17 (.fld 0) [.r 16] none <|
 .q 18 .ld [.r 17] none <|
 .q 19 .rem [.r 14, .r 18] none <|
 .out [(0, .s 0), (9, .s 9), (10, .r 19), (91, .s 91), (92, .s 92), (93, .s 93)]
def e105r24 : EE := .q 0 .ld [.s 9] none <|
 .q 1 .nl [.r 0] none <|
 .q 2 (.fld 2) [.r 1] none <|
 .q 3 .ld [.r 2] none <|
 .q 5 .mul [.c (.int .i64 6), .s 10] none <|
 .q 6 .add [.c (.int .i64 12), .r 5] none <|
 .q 7 .geq [.r 3, .r 6] none <|
 .q 9 .mv [.s 0] (some (.r 7, true)) <|
 .q 10 .ld [.s 9] (some (.r 7, true)) <|
 .q 11 .nl [.r 10] (some (.r 7, true)) <|
 .q 12 (.fld 0) [.r 11] (some (.r 7, true)) <|
 .q 13 (.lda 2) [.r 12] (some (.r 7, true)) <|
 .x 14 (.call 180) [.r 9, .r 13] (some (.r 7, true)) [] <|
 .q 15 .pick [.r 7, .r 14, .c (.bool false)] none <|
 .out [(0, .s 0), (9, .s 9), (91, .s 91), (92, .s 92), (93, .s 93), (162, .r 15)]
def e105r25 : EE := .q 0 .ld [.s 9] none <|
 .q 1 .nl [.r 0] none <|
 .q 2 (.fld 2) [.r 1] none <|
 .x 3 (.st 1) [.r 2, .c z] none [] <|
 .out [(0, .s 0), (91, .s 91), (92, .s 92), (93, .s 93)]
def e105r26 : EE := .q 0 .add [.s 93, .c (.int .i64 1)] none <|
 .out [(0, .s 0), (91, .s 91), (92, .s 92), (93, .r 0)]
def e105l27 : EC := (.seq (.reg e105r17 [0, 91, 92, 93] 0) (.seq (.cond (.s 94) .skip (.exit 4)) (.seq (.block 5 (.seq (.reg e105r18 [0, 91, 92, 93] 0) (.seq (.seq (.reg e105r19 [0, 9, 91, 92, 93] 0) (.cond (.s 103) (.seq (.reg e105r20 [0, 9, 91, 92, 93] 0) (.exit 5)) .skip)) (.seq (.seq (.reg e105r21 [0, 9, 91, 92, 93] 0) (.cond (.s 119) (.exit 5) .skip)) (.seq (.reg e105r22 [0, 9, 91, 92, 93] 0) (.seq (.reg e105r23 [0, 9, 91, 92, 93] 0) (.seq (.reg e105r24 [0, 9, 10, 91, 92, 93] 0) (.cond (.s 162) (.reg e105r25 [0, 9, 91, 92, 93] 0) .skip)))))))) (.reg e105r26 [0, 91, 92, 93] 0))))
def e105 : EFn := ⟨(.seq (.seq (.reg e105r0 [0] 0) (.block 0 (.loop [0, 15, 16, 17] e105l7))) (.seq (.seq (.reg e105r8 [0] 0) (.block 2 (.loop [0, 59, 60, 61] e105l15))) (.seq (.reg e105r16 [0] 0) (.block 4 (.loop [0, 91, 92, 93] e105l27))))), [], 167, 0⟩
theorem g105 : Good Tryz.prog 105 e105 := ⟨Tryz.f105, Tryz.func105, by kernel_rfl, by kernel_rfl, by kernel_rfl, by kernel_rfl⟩
/-! (*concord/node.Node).Top -/
def e107r0 : EE := .x 0 (.alc [z, z, z, z, z, z, z] 133) [] none [] <|
 .out [(0, .s 0), (2, .r 0)]
def e107r1 : EE := .q 1 .nl [.s 0] none <|
 .q 2 (.fld 4) [.r 1] none <|
 .q 3 .ld [.r 2] none <|
 .x 4 (.call 181) [.r 3] none [] <|
 .x 5 (.st 7) [.s 2, .r 4] none [] <|
 .out [(2, .s 2)]
def e107 : EFn := ⟨(.seq (.reg e107r0 [0] 0) (.seq (.reg e107r1 [0, 2] 0) .ret)), [.cells 2 7], 8, 0⟩
theorem g107 : Good Tryz.prog 107 e107 := ⟨Tryz.f107, Tryz.func107, by kernel_rfl, by kernel_rfl, by kernel_rfl, by kernel_rfl⟩
/-! (*concord/node.Node).Cut -/
def e108r0 : EE := .x 0 (.alc [z, z, z, z, z, z, z] 133) [] none [] <|
 .out [(0, .s 0), (2, .r 0)]
def e108r1 : EE := .q 1 .nl [.s 0] none <|
 .q 2 (.fld 4) [.r 1] none <|
 .q 3 .ld [.r 2] none <|
 .x 4 (.call 182) [.r 3] none [] <|
 .x 5 (.st 7) [.s 2, .r 4] none [] <|
 .out [(2, .s 2)]
def e108 : EFn := ⟨(.seq (.reg e108r0 [0] 0) (.seq (.reg e108r1 [0, 2] 0) .ret)), [.cells 2 7], 8, 0⟩
theorem g108 : Good Tryz.prog 108 e108 := ⟨Tryz.f108, Tryz.func108, by kernel_rfl, by kernel_rfl, by kernel_rfl, by kernel_rfl⟩
/-! concord/state.same -/
def e114r0 : EE := .x 0 (.box 84) [.s 0] none [] <|
 .x 1 (.box 84) [.s 1] none [] <|
 .out [(2, .r 0), (3, .r 1)]
def e114r1 : EE := .q 0 (.fld 0) [.s 2] none <|
 .q 1 .ld [.r 0] none <|
 .q 2 (.fld 0) [.s 3] none <|
 .q 3 .ld [.r 2] none <|
 .q 4 .eql [.r 1, .r 3] none <|
 .q 6 (.fld 1) [.s 2] (some (.r 4, true)) <|
 .q 7 .ld [.r 6] (some (.r 4, true)) <|
 .q 8 (.fld 1) [.s 3] (some (.r 4, true)) <|
 .q 9 .ld [.r 8] (some (.r 4, true)) <|
 .q 10 (.beq false) [.r 7, .r 9] (some (.r 4, true)) <|
 .q 11 .pick [.r 4, .r 10, .c (.bool false)] none <|
 .q 13 (.fld 2) [.s 2] (some (.r 11, true)) <|
 .q 14 .ld [.r 13] (some (.r 11, true)) <|
 .q 15 (.fld 2) [.s 3] (some (.r 11, true)) <|
 .q 16 .ld [.r 15] (some (.r 11, true)) <|
 .q 17 .seql [.r 14, .r 16] (some (.r 11, true)) <|
 .q 18 .pick [.r 11, .r 17, .c (.bool false)] none <|
 .q 20 (.fld 3) [.s 2] (some (.r 18, true)) <|
 .q 21 .ld [.r 20] (some (.r 18, true)) <|
 .q 22 (.fld 3) [.s 3] (some (.r 18, true)) <|
 .q 23 .ld [.r 22] (some (.r 18, true)) <|
 .q 24 .eql [.r 21, .r 23] (some (.r 18, true)) <|
 .q 25 .pick [.r 18, .r 24, .c (.bool false)] none <|
 .q 27 (.fld 4) [.s 2] (some (.r 25, true)) <|
 .q 28 .ld [.r 27] (some (.r 25, true)) <|
 .q 29 (.fld 4) [.s 3] (some (.r 25, true)) <|
 .q 30 .ld [.r 29] (some (.r 25, true)) <|
 .x 31 (.call 115) [.r 28, .r 30] (some (.r 25, true)) [] <|
 .q 32 .pick [.r 25, .r 31, .c (.bool false)] none <|
 .out [(4, .r 32)]
def e114 : EFn := ⟨(.seq (.reg e114r0 [0, 1] 0) (.seq (.reg e114r1 [2, 3] 0) .ret)), [.slot 4], 38, 0⟩
theorem g114 : Good Tryz.prog 114 e114 := ⟨Tryz.f114, Tryz.func114, by kernel_rfl, by kernel_rfl, by kernel_rfl, by kernel_rfl⟩
/-! slices.Equal[[]concord/api.Pair,concord/api.Pair] -/
def e115r0 : EE := .out [(0, .s 0), (1, .s 1)]
def e115r1 : EE := .q 1 .len [.s 0] none <|
 .q 3 .len [.s 1] none <|
 .q 4 .neq [.r 1, .r 3] none <|
 .out [(0, .s 0), (1, .s 1), (10, .r 4)]
def e115r2 : EE := .out [(4, .c (.bool false))]
def e115r3 : EE := .q 1 .len [.s 0] none <|
 .out [(0, .s 0), (1, .s 1), (12, .r 1), (13, .c z)]
def e115r4 : EE := .q 0 .lss [.s 13, .s 12] none <|
 .out [(0, .s 0), (1, .s 1), (12, .s 12), (13, .s 13), (14, .r 0)]
def e115r5 : EE := .out [(0, .s 0), (1, .s 1), (5, .s 13), (12, .s 12), (13, .s 13)]
def e115r6 : EE := .q 2 (.ixs 3) [.s 0, .s 5] none <|
 .q 3 (.lda 3) [.r 2] none <|
 .q 6 (.ixs 3) [.s 1, .s 5] none <|
 .q 7 (.lda 3) [.r 6] none <|
 .q 8 (.eqc true [.s, .s, (.i .i64)]) [.r 3, .r 7] none <|
 .out [(0, .s 0), (1, .s 1), (12, .s 12), (13, .s 13), (24, .r 8)]
def e115r7 : EE := .out [(4, .c (.bool false))]
def e115r8 : EE := .q 0 .add [.s 13, .c (.int .i64 1)] none <|
 .out [(0, .s 0), (1, .s 1), (12, .s 12), (13, .r 0)]
def e115l9 : EC := (.seq (.reg e115r4 [0, 1, 12, 13] 0) (.seq (.cond (.s 14) .skip (.exit 0)) (.seq (.block 1 (.seq (.reg e115r5 [0, 1, 12, 13] 0) (.seq (.reg e115r6 [0, 1, 5, 12, 13] 0) (.cond (.s 24) (.seq (.reg e115r7 [] 0) .ret) .skip)))) (.reg e115r8 [0, 1, 12, 13] 0))))
def e115r10 : EE := .out [(4, .c (.bool true))]
def e115 : EFn := ⟨(.seq (.reg e115r0 [0, 1] 0) (.seq (.seq (.reg e115r1 [0, 1] 0) (.cond (.s 10) (.seq (.reg e115r2 [] 0) .ret) .skip)) (.seq (.seq (.reg e115r3 [0, 1] 0) (.block 0 (.loop [0, 1, 12, 13] e115l9))) (.seq (.reg e115r10 [] 0) .ret)))), [.slot 4], 26, 0⟩
theorem g115 : Good Tryz.prog 115 e115 := ⟨Tryz.f115, Tryz.func115, by kernel_rfl, by kernel_rfl, by kernel_rfl, by kernel_rfl⟩
/-! concord/state.Play -/
def e116r0 : EE := .x 0 (.box 146) [.s 0] none [] <|
 .x 1 (.alc [.nsl, z, z, (.bool false), zs, z, .nsl, z, z, (.bool false), zs, z, .nsl, z, z, (.bool false), zs, z, .nsl, z, z, (.bool false), zs, z, .nsl, z, z, (.bool false), zs, z, .nsl, z, z, (.bool false), zs, z, .nsl, z, z, (.bool false), zs, z, .nsl, z, z, (.bool false), zs, z, .nsl] 146) [] none [] <|
 .out [(1, .s 1), (2, .r 0), (4, .r 1)]
def e116r1 : EE := .q 0 (.lda 49) [.s 2] none <|
 .x 1 (.call 187) [.r 0] none [] <|
 .x 2 (.st 49) [.s 2, .r 1] none [] <|
 .out [(1, .s 1), (2, .s 2), (4, .s 4)]
def e116r2 : EE := .out [(1, .s 1), (2, .s 2), (4, .s 4), (6, .c .nsl)]
def e116r3 : EE := .q 1 .len [.s 1] none <|
 .out [(2, .s 2), (4, .s 4), (6, .s 6), (12, .s 1), (13, .r 1), (14, .c z)]
def e116r4 : EE := .q 0 .lss [.s 14, .s 13] none <|
 .out [(2, .s 2), (4, .s 4), (6, .s 6), (12, .s 12), (13, .s 13), (14, .s 14), (15, .r 0)]
def e116r5 : EE := .q 0 (.ixs 7) [.s 12, .s 14] none <|
 .q 1 (.lda 7) [.r 0] none <|
 .x 2 (.alc [z, z, z, zs, zs, zs, zs] 23) [] none [] <|
 .x 3 (.st 7) [.r 2, .r 1] none [] <|
 .out [(2, .s 2), (4, .s 4), (6, .s 6), (8, .r 2), (12, .s 12), (13, .s 13), (14, .s 14)]
def e116r6 : EE := .x 0 (.alc [z, (.bool false), zs, z, .nsl] 84) [] none [] <|
 .out [(2, .s 2), (4, .s 4), (6, .s 6), (8, .s 8), (9, .r 0), (12, .s 12), (13, .s 13), (14, .s 14)]
def e116r7 : EE := .q 0 (.lda 49) [.s 2] none <|
 .q 1 (.lda 7) [.s 8] none <|
 .x 2 (.call 188) [.r 0, .r 1] none [] <|
 .q 4 (.ext 0) [.r 2] none <|
 .q 5 (.ext 1) [.r 2] none <|
 .x 6 (.st 49) [.s 2, .r 4] none [] <|
 .x 7 (.st 5) [.s 9, .r 5] none [] <|
 .out [(2, .s 2), (4, .s 4), (6, .s 6), (9, .s 9), (12, .s 12), (13, .s 13), (14, .s 14)]
def e116r8 : EE := .q 1 (.lda 5) [.s 9] none <|
 .x 2 (.bsl 84 1 [z, (.bool false), zs, z, .nsl] [(0, 5)]) [.r 1] none [] <|
 .x 3 (.app 84 5 64 [z, (.bool false), zs, z, .nsl]) [.s 6, .r 2] none [] <|
 .out [(2, .s 2), (4, .s 4), (6, .r 3), (12, .s 12), (13, .s 13), (14, .s 14)]
def e116r9 : EE := .q 0 .add [.s 14, .c (.int .i64 1)] none <|
 .out [(2, .s 2), (4, .s 4), (6, .s 6), (12, .s 12), (13, .s 13), (14, .r 0)]
def e116l10 : EC := (.seq (.reg e116r4 [2, 4, 6, 12, 13, 14] 0) (.seq (.cond (.s 15) .skip (.exit 0)) (.seq (.block 1 (.seq (.reg e116r5 [2, 4, 6, 12, 13, 14] 0) (.seq (.reg e116r6 [2, 4, 6, 8, 12, 13, 14] 0) (.seq (.reg e116r7 [2, 4, 6, 8, 9, 12, 13, 14] 0) (.reg e116r8 [2, 4, 6, 9, 12, 13, 14] 0))))) (.reg e116r9 [2, 4, 6, 12, 13, 14] 0))))
def e116r11 : EE := .q 0 (.lda 49) [.s 2] none <|
 .x 2 (.st 49) [.s 4, .r 0] none [] <|
 .out [(4, .s 4), (5, .s 6)]
def e116 : EFn := ⟨(.seq (.reg e116r0 [0, 1] 0) (.seq (.reg e116r1 [1, 2, 4] 0) (.seq (.reg e116r2 [1, 2, 4] 0) (.seq (.seq (.reg e116r3 [1, 2, 4, 6] 0) (.block 0 (.loop [2, 4, 6, 12, 13, 14] e116l10))) (.seq (.reg e116r11 [2, 4, 6] 0) .ret))))), [.cells 4 49, .slot 5], 31, 0⟩
theorem g116 : Good Tryz.prog 116 e116 := ⟨Tryz.f116, Tryz.func116, by kernel_rfl, by kernel_rfl, by kernel_rfl, by kernel_rfl⟩
/-! internal/strconv.log10Pow2 -/
def e117r0 : EE := .out [(0, .s 0)]
def e117r1 : EE := .q 1 .mul [.s 0, .c (.int .i64 78913)] none <|
 .q 2 .shr [.r 1, .c (.int .u64 18)] none <|
 .out [(2, .r 2)]
def e117 : EFn := ⟨(.seq (.reg e117r0 [0] 0) (.seq (.reg e117r1 [0] 0) .ret)), [.slot 2], 6, 0⟩
theorem g117 : Good Tryz.prog 117 e117 := ⟨Tryz.f117, Tryz.func117, by kernel_rfl, by kernel_rfl, by kernel_rfl, by kernel_rfl⟩
/-! math/bits.Len64 -/
def e118r0 : EE := .out [(0, .s 0), (2, .c z)]
def e118r1 : EE := .q 1 .geq [.s 0, .c (.int .u64 4294967296)] none <|
 .out [(0, .s 0), (2, .s 2), (4, .r 1)]
def e118r2 : EE := .q 1 .shr [.s 0, .c (.int .u64 32)] none <|
 .out [(0, .r 1)]
def e118r3 : EE := .out [(0, .s 0), (2, .c (.int .i64 32))]
def e118r4 : EE := .q 1 .geq [.s 0, .c (.int .u64 65536)] none <|
 .out [(0, .s 0), (2, .s 2), (8, .r 1)]
def e118r5 : EE := .q 1 .shr [.s 0, .c (.int .u64 16)] none <|
 .out [(0, .r 1), (2, .s 2)]
def e118r6 : EE := .q 1 .add [.s 2, .c (.int .i64 16)] none <|
 .out [(0, .s 0), (2, .r 1)]
def e118r7 : EE := .q 1 .geq [.s 0, .c (.int .u64 256)] none <|
 .out [(0, .s 0), (2, .s 2), (14, .r 1)]
def e118r8 : EE := .q 1 .shr [.s 0, .c (.int .u64 8)] none <|
 .out [(0, .r 1), (2, .s 2)]
def e118r9 : EE := .q 1 .add [.s 2, .c (.int .i64 8)] none <|
 .out [(0, .s 0), (2, .r 1)]
def e118r10 : EE := .q 2 (.conv .u8) [.s 0] none <|
 .q 3 .idxs [.c (.str [0, 1, 2, 2, 3, 3, 3, 3, 4, 4, 4, 4, 4, 4, 4, 4, 5, 5, 5, 5, 5, 5, 5, 5, 5, 5, 5, 5, 5, 5, 5, 5, 6, 6, 6, 6, 6, 6, 6, 6, 6, 6, 6, 6, 6, 6, 6, 6, 6, 6, 6, 6, 6, 6, 6, 6, 6, 6, 6, 6, 6, 6, 6, 6, 7, 7, 7, 7, 7, 7, 7, 7, 7, 7, 7, 7, 7, 7, 7, 7, 7, 7, 7, 7, 7, 7, 7, 7, 7, 7, 7, 7, 7, 7, 7, 7, 7, 7, 7, 7, 7, 7, 7, 7, 7, 7, 7, 7, 7, 7, 7, 7, 7, 7, 7, 7, 7, 7, 7, 7, 7, 7, 7, 7, 7, 7, 7, 7, 8, 8, 8, 8, 8, 8, 8, 8, 8, 8, 8, 8, 8, 8, 8, 8, 8, 8, 8, 8, 8, 8, 8, 8, 8, 8, 8, 8, 8, 8, 8, 8, 8, 8, 8, 8, 8, 8, 8, 8, 8, 8, 8, 8, 8, 8, 8, 8, 8, 8, 8, 8, 8, 8, 8, 8, 8, 8, 8, 8, 8, 8, 8, 8, 8, 8, 8, 8, 8, 8, 8, 8, 8, 8, 8, 8, 8, 8, 8, 8, 8, 8, 8, 8, 8, 8, 8, 8, 8, 8, 8, 8, 8, 8, 8, 8, 8, 8, 8, 8, 8, 8, 8, 8, 8, 8, 8, 8, 8, 8, 8, 8, 8, 8, 8, 8, 8, 8, 8, 8, 8, 8, 8, 8, 8, 8, 8, 8]), .r 2] none <|
 .q 4 (.conv .i64) [.r 3] none <|
 .q 5 .add [.s 2, .r 4] none <|
 .out [(2, .r 5)]
def e118 : EFn := ⟨(.seq (.reg e118r0 [0] 0) (.seq (.seq (.reg e118r1 [0, 2] 0) (.cond (.s 4) (.seq (.reg e118r2 [0] 0) (.reg e118r3 [0] 0)) .skip)) (.seq (.seq (.reg e118r4 [0, 2] 0) (.cond (.s 8) (.seq (.reg e118r5 [0, 2] 0) (.reg e118r6 [0, 2] 0)) .skip)) (.seq (.seq (.reg e118r7 [0, 2] 0) (.cond (.s 14) (.seq (.reg e118r8 [0, 2] 0) (.reg e118r9 [0, 2] 0)) .skip)) (.seq (.reg e118r10 [0, 2] 0) .ret))))), [.slot 2], 25, 0⟩
theorem g118 : Good Tryz.prog 118 e118 := ⟨Tryz.f118, Tryz.func118, by kernel_rfl, by kernel_rfl, by kernel_rfl, by kernel_rfl⟩
/-! internal/strconv.bool2[int] -/
def e119r0 : EE := .out [(0, .s 0)]
def e119r1 : EE := .out [(3, .s 0)]
def e119r2 : EE := .out [(2, .c (.int .i64 1))]
def e119r3 : EE := .out [(2, .c z)]
def e119 : EFn := ⟨(.seq (.reg e119r0 [0] 0) (.seq (.seq (.reg e119r1 [0] 0) (.cond (.s 3) (.seq (.reg e119r2 [] 0) .ret) .skip)) (.seq (.reg e119r3 [] 0) .ret))), [.slot 2], 4, 0⟩
theorem g119 : Good Tryz.prog 119 e119 := ⟨Tryz.f119, Tryz.func119, by kernel_rfl, by kernel_rfl, by kernel_rfl, by kernel_rfl⟩
/-! (*concord/disk.Disk).Read -/
def e132r0 : EE := .out [(0, .s 0), (1, .s 1)]
def e132r1 : EE := .x 2 (.call 195) [.s 0, .s 1] none [] <|
 .q 4 (.ext 0) [.r 2] none <|
 .q 5 (.ext 1) [.r 2] none <|
 .out [(0, .s 0), (6, .r 4), (7, .r 5)]
def e132r2 : EE := .q 1 .not [.s 7] none <|
 .out [(0, .s 0), (6, .s 6), (15, .r 1)]
def e132r3 : EE := .out [(4, .c .nsl), (5, .c (.bool false))]
def e132r4 : EE := .q 1 .nl [.s 0] none <|
 .q 2 (.fld 1) [.r 1] none <|
 .q 3 .ld [.r 2] none <|
 .q 5 (.ixs 3) [.r 3, .s 6] none <|
 .q 6 (.fld 1) [.r 5] none <|
 .q 7 .ld [.r 6] none <|
 .x 8 (.call 106) [.r 7] none [] <|
 .out [(4, .r 8), (5, .c (.bool true))]
def e132 : EFn := ⟨(.seq (.reg e132r0 [0, 1] 0) (.seq (.reg e132r1 [0, 1] 0) (.seq (.seq (.reg e132r2 [0, 6, 7] 0) (.cond (.s 15) (.seq (.reg e132r3 [] 0) .ret) .skip)) (.seq (.reg e132r4 [0, 6] 0) .ret)))), [.slot 4, .slot 5], 25, 0⟩
theorem g132 : Good Tryz.prog 132 e132 := ⟨Tryz.f132, Tryz.func132, by kernel_rfl, by kernel_rfl, by kernel_rfl, by kernel_rfl⟩
/-! concord/wal.greatest -/
def e135r0 : EE := .out [(0, .s 0)]
def e135r1 : EE := .out [(0, .s 0), (3, .c z)]
def e135r2 : EE := .x 1 (.call 205) [.s 0] none [] <|
 .q 2 .len [.r 1] none <|
 .out [(0, .s 0), (3, .s 3), (13, .r 1), (14, .r 2), (15, .c z)]
def e135r3 : EE := .q 0 .lss [.s 15, .s 14] none <|
 .out [(0, .s 0), (3, .s 3), (13, .s 13), (14, .s 14), (15, .s 15), (16, .r 0)]
def e135r4 : EE := .q 0 (.ixs 1) [.s 13, .s 15] none <|
 .q 1 .ld [.r 0] none <|
 .out [(0, .s 0), (3, .s 3), (5, .r 1), (13, .s 13), (14, .s 14), (15, .s 15)]
def e135r5 : EE := .x 1 (.call 206) [.s 5] none [] <|
 .q 3 (.ext 0) [.r 1] none <|
 .q 4 (.ext 1) [.r 1] none <|
 .x 5 (.alc [z, z] 243) [] none [] <|
 .x 6 (.st 2) [.r 5, .r 3] none [] <|
 .out [(0, .s 0), (3, .s 3), (6, .r 5), (7, .r 4), (13, .s 13), (14, .s 14), (15, .s 15)]
def e135r6 : EE := .q 1 .not [.s 7] none <|
 .q 3 (.fld 0) [.s 6] (some (.r 1, false)) <|
 .q 4 .ld [.r 3] (some (.r 1, false)) <|
 .q 5 .mv [.s 3] (some (.r 1, false)) <|
 .q 6 .leq [.r 4, .r 5] (some (.r 1, false)) <|
 .q 7 .pick [.r 1, .c (.bool true), .r 6] none <|
 .out [(0, .s 0), (3, .s 3), (6, .s 6), (13, .s 13), (14, .s 14), (15, .s 15), (31, .r 7)]
def e135r7 : EE := .q 1 (.fld 0) [.s 6] none <|
 .q 2 .ld [.r 1] none <|
 .x 3 (.call 137) [.s 0, .r 2] none [] <|
 .q 5 (.ext 0) [.r 3] none <|
 .q 6 (.ext 1) [.r 3] none <|
 .q 7 (.ext 2) [.r 3] none <|
 .q 8 (.ext 3) [.r 3] none <|
 .x 9 (.alc [z, z] 243) [] none [] <|
 .x 11 (.st 2) [.r 9, .r 6] none [] <|
 .out [(0, .s 0), (3, .s 3), (6, .s 6), (11, .r 8), (13, .s 13), (14, .s 14), (15, .s 15)]
def e135r8 : EE := .out [(0, .s 0), (3, .s 3), (6, .s 6), (13, .s 13), (14, .s 14), (15, .s 15), (41, .s 11)]
def e135r9 : EE := .q 0 (.fld 0) [.s 6] none <|
 .q 1 .ld [.r 0] none <|
 .out [(0, .s 0), (3, .r 1), (13, .s 13), (14, .s 14), (15, .s 15)]
def e135r10 : EE := .q 0 .add [.s 15, .c (.int .i64 1)] none <|
 .out [(0, .s 0), (3, .s 3), (13, .s 13), (14, .s 14), (15, .r 0)]
def e135l11 : EC := (.seq (.reg e135r3 [0, 3, 13, 14, 15] 0) (.seq (.cond (.s 16) .skip (.exit 0)) (.seq (.block 1 (.seq (.reg e135r4 [0, 3, 13, 14, 15] 0) (.seq (.reg e135r5 [0, 3, 5, 13, 14, 15] 0) (.seq (.seq (.reg e135r6 [0, 3, 6, 7, 13, 14, 15] 0) (.cond (.s 31) (.exit 1) .skip)) (.seq (.reg e135r7 [0, 3, 6, 13, 14, 15] 0) (.seq (.reg e135r8 [0, 3, 6, 11, 13, 14, 15] 0) (.cond (.s 41) (.reg e135r9 [0, 6, 13, 14, 15] 0) .skip))))))) (.reg e135r10 [0, 3, 13, 14, 15] 0))))
def e135r12 : EE := .out [(2, .s 3)]
def e135 : EFn := ⟨(.seq (.reg e135r0 [0] 0) (.seq (.reg e135r1 [0] 0) (.seq (.seq (.reg e135r2 [0, 3] 0) (.block 0 (.loop [0, 3, 13, 14, 15] e135l11))) (.seq (.reg e135r12 [3] 0) .ret)))), [.slot 2], 46, 0⟩
theorem g135 : Good Tryz.prog 135 e135 := ⟨Tryz.f135, Tryz.func135, by kernel_rfl, by kernel_rfl, by kernel_rfl, by kernel_rfl⟩
/-! concord/wal.clean -/
def e136r0 : EE := .x 0 (.box 243) [.s 1] none [] <|
 .out [(0, .s 0), (3, .r 0)]
def e136r1 : EE := .x 1 (.call 205) [.s 0] none [] <|
 .q 2 .len [.r 1] none <|
 .out [(0, .s 0), (3, .s 3), (11, .r 1), (12, .r 2), (13, .c z)]
def e136r2 : EE := .q 0 .lss [.s 13, .s 12] none <|
 .out [(0, .s 0), (3, .s 3), (11, .s 11), (12, .s 12), (13, .s 13), (14, .r 0)]
def e136r3 : EE := .q 0 (.ixs 1) [.s 11, .s 13] none <|
 .q 1 .ld [.r 0] none <|
 .out [(0, .s 0), (3, .s 3), (6, .r 1), (11, .s 11), (12, .s 12), (13, .s 13)]
def e136r4 : EE := .x 1 (.call 206) [.s 6] none [] <|
 .q 3 (.ext 0) [.r 1] none <|
 .q 4 (.ext 1) [.r 1] none <|
 .x 5 (.alc [z, z] 243) [] none [] <|
 .x 6 (.st 2) [.r 5, .r 3] none [] <|
 .out [(0, .s 0), (3, .s 3), (6, .s 6), (7, .r 5), (8, .r 4), (11, .s 11), (12, .s 12), (13, .s 13)]
def e136r5 : EE := .q 1 .not [.s 8] none <|
 .q 3 (.fld 0) [.s 7] (some (.r 1, false)) <|
 .q 4 .ld [.r 3] (some (.r 1, false)) <|
 .q 5 (.fld 0) [.s 3] (some (.r 1, false)) <|
 .q 6 .ld [.r 5] (some (.r 1, false)) <|
 .q 7 .eql [.r 4, .r 6] (some (.r 1, false)) <|
 .q 8 .mv [.r 7] (some (.r 1, false)) <|
 .q 9 (.fld 1) [.s 7] (some (.r 8, true)) <|
 .q 10 .ld [.r 9] (some (.r 8, true)) <|
 .q 11 (.fld 1) [.s 3] (some (.r 8, true)) <|
 .q 12 .ld [.r 11] (some (.r 8, true)) <|
 .q 13 .leq [.r 10, .r 12] (some (.r 8, true)) <|
 .q 14 .pick [.r 8, .r 13, .c (.bool false)] (some (.r 1, false)) <|
 .q 15 .pick [.r 1, .c (.bool true), .r 14] none <|
 .out [(0, .s 0), (3, .s 3), (6, .s 6), (11, .s 11), (12, .s 12), (13, .s 13), (37, .r 15)]
def e136r6 : EE := .x 2 (.call 134) [.s 0, .s 6] none [] <|
 .out [(0, .s 0), (3, .s 3), (9, .r 2), (11, .s 11), (12, .s 12), (13, .s 13)]
def e136r7 : EE := .q 1 .neq [.s 9, .c z] none <|
 .out [(0, .s 0), (3, .s 3), (9, .s 9), (11, .s 11), (12, .s 12), (13, .s 13), (42, .r 1)]
def e136r8 : EE := .out [(4, .s 9)]
def e136r9 : EE := .q 0 .add [.s 13, .c (.int .i64 1)] none <|
 .out [(0, .s 0), (3, .s 3), (11, .s 11), (12, .s 12), (13, .r 0)]
def e136l10 : EC := (.seq (.reg e136r2 [0, 3, 11, 12, 13] 0) (.seq (.cond (.s 14) .skip (.exit 0)) (.seq (.block 1 (.seq (.reg e136r3 [0, 3, 11, 12, 13] 0) (.seq (.reg e136r4 [0, 3, 6, 11, 12, 13] 0) (.seq (.seq (.reg e136r5 [0, 3, 6, 7, 8, 11, 12, 13] 0) (.cond (.s 37) (.exit 1) .skip)) (.seq (.reg e136r6 [0, 3, 6, 11, 12, 13] 0) (.seq (.reg e136r7 [0, 3, 9, 11, 12, 13] 0) (.cond (.s 42) (.seq (.reg e136r8 [9] 0) .ret) .skip))))))) (.reg e136r9 [0, 3, 11, 12, 13] 0))))
def e136r11 : EE := .out [(4, .c z)]
def e136 : EFn := ⟨(.seq (.reg e136r0 [0, 1] 0) (.seq (.seq (.reg e136r1 [0, 3] 0) (.block 0 (.loop [0, 3, 11, 12, 13] e136l10))) (.seq (.reg e136r11 [] 0) .ret))), [.slot 4], 45, 0⟩
theorem g136 : Good Tryz.prog 136 e136 := ⟨Tryz.f136, Tryz.func136, by kernel_rfl, by kernel_rfl, by kernel_rfl, by kernel_rfl⟩
/-! (concord/wal.place).name -/
def e138r0 : EE := .x 0 (.box 243) [.s 0] none [] <|
 .out [(1, .r 0)]
def e138r1 : EE := .q 0 (.fld 0) [.s 1] none <|
 .q 1 .ld [.r 0] none <|
 .q 5 (.fld 1) [.s 1] none <|
 .q 6 .ld [.r 5] none <|
 .x 2 (.call 17) [.r 1] none [⟨6, .ld, [.r 5], none⟩] <|
 .q 3 .sadd [.c (.str [108, 111, 103, 46]), .r 2] none <|
 .q 4 .sadd [.r 3, .c (.str [46])] none <|
 .x 7 (.call 17) [.r 6] none [] <|
 .q 8 .sadd [.r 4, .r 7] none <|
 .out [(2, .r 8)]
def e138 : EFn := ⟨(.seq (.reg e138r0 [0] 0) (.seq (.reg e138r1 [1] 0) .ret)), [.slot 2], 12, 0⟩
theorem g138 : Good Tryz.prog 138 e138 := ⟨Tryz.f138, Tryz.func138, by kernel_rfl, by kernel_rfl, by kernel_rfl, by kernel_rfl⟩
/-! (*concord/disk.Disk).Sync -/
def e140r0 : EE := .out [(0, .s 0), (1, .s 1)]
def e140r1 : EE := .x 2 (.call 202) [.s 0, .s 1] none [] <|
 .q 4 (.ext 0) [.r 2] none <|
 .q 5 (.ext 1) [.r 2] none <|
 .out [(0, .s 0), (5, .r 4), (6, .r 5)]
def e140r2 : EE := .q 1 .eql [.s 6, .c z] none <|
 .out [(0, .s 0), (5, .s 5), (6, .s 6), (14, .r 1)]
def e140r3 : EE := .x 1 (.call 203) [.s 0] none [] <|
 .out [(0, .s 0), (5, .s 5), (6, .r 1)]
def e140r4 : EE := .q 1 .eql [.s 6, .c z] none <|
 .out [(0, .s 0), (5, .s 5), (6, .s 6), (18, .r 1)]
def e140r5 : EE := .q 1 .nl [.s 0] none <|
 .q 2 (.fld 1) [.r 1] none <|
 .q 3 .ld [.r 2] none <|
 .q 6 .nl [.s 0] none <|
 .q 7 (.fld 1) [.r 6] none <|
 .q 8 .ld [.r 7] none <|
 .q 10 (.ixs 3) [.r 8, .s 5] none <|
 .q 11 (.fld 1) [.r 10] none <|
 .q 12 .ld [.r 11] none <|
 .q 13 .len [.r 12] none <|
 .q 14 (.ixs 3) [.r 3, .s 5] none <|
 .q 15 (.fld 2) [.r 14] none <|
 .x 16 (.st 1) [.r 15, .r 13] none [] <|
 .out [(6, .s 6)]
def e140r6 : EE := .out [(4, .s 6)]
def e140 : EFn := ⟨(.seq (.reg e140r0 [0, 1] 0) (.seq (.reg e140r1 [0, 1] 0) (.seq (.seq (.reg e140r2 [0, 5, 6] 0) (.cond (.s 14) (.reg e140r3 [0, 5] 0) .skip)) (.seq (.seq (.reg e140r4 [0, 5, 6] 0) (.cond (.s 18) (.reg e140r5 [0, 5, 6] 0) .skip)) (.seq (.reg e140r6 [6] 0) .ret))))), [.slot 4], 36, 0⟩
theorem g140 : Good Tryz.prog 140 e140 := ⟨Tryz.f140, Tryz.func140, by kernel_rfl, by kernel_rfl, by kernel_rfl, by kernel_rfl⟩
/-! concord/deps.Right -/
def e144r0 : EE := .x 0 (.box 135) [.s 0] none [] <|
 .out [(1, .r 0)]
def e144r1 : EE := .q 0 (.fld 1) [.s 1] none <|
 .q 1 (.lda 7) [.r 0] none <|
 .out [(1, .s 1), (6, .r 1), (7, .c z)]
def e144r2 : EE := .q 0 .lss [.s 7, .c (.int .i64 7)] none <|
 .out [(1, .s 1), (6, .s 6), (7, .s 7), (8, .r 0)]
def e144r3 : EE := .q 0 (.idx 7 1) [.s 6, .s 7] none <|
 .out [(1, .s 1), (4, .r 0), (6, .s 6), (7, .s 7)]
def e144r4 : EE := .q 1 .lss [.s 4, .c z] none <|
 .q 3 .mv [.s 4] (some (.r 1, false)) <|
 .q 4 .gtr [.r 3, .c (.int .i64 1073741824)] (some (.r 1, false)) <|
 .q 5 .pick [.r 1, .c (.bool true), .r 4] none <|
 .out [(1, .s 1), (6, .s 6), (7, .s 7), (15, .r 5)]
def e144r5 : EE := .out [(2, .c (.bool false))]
def e144r6 : EE := .q 0 .add [.s 7, .c (.int .i64 1)] none <|
 .out [(1, .s 1), (6, .s 6), (7, .r 0)]
def e144l7 : EC := (.seq (.reg e144r2 [1, 6, 7] 0) (.seq (.cond (.s 8) .skip (.exit 0)) (.seq (.block 1 (.seq (.reg e144r3 [1, 6, 7] 0) (.seq (.reg e144r4 [1, 4, 6, 7] 0) (.cond (.s 15) (.seq (.reg e144r5 [] 0) .ret) .skip)))) (.reg e144r6 [1, 6, 7] 0))))
def e144r8 : EE := .q 0 (.fld 0) [.s 1] none <|
 .q 1 .ld [.r 0] none <|
 .q 2 .geq [.r 1, .c z] none <|
 .q 4 (.fld 0) [.s 1] (some (.r 2, true)) <|
 .q 5 .ld [.r 4] (some (.r 2, true)) <|
 .q 6 .leq [.r 5, .c (.int .i64 1099511627776)] (some (.r 2, true)) <|
 .q 7 .pick [.r 2, .r 6, .c (.bool false)] none <|
 .out [(2, .r 7)]
def e144 : EFn := ⟨(.seq (.reg e144r0 [0] 0) (.seq (.seq (.reg e144r1 [1] 0) (.block 0 (.loop [1, 6, 7] e144l7))) (.seq (.reg e144r8 [1] 0) .ret))), [.slot 2], 25, 0⟩
theorem g144 : Good Tryz.prog 144 e144 := ⟨Tryz.f144, Tryz.func144, by kernel_rfl, by kernel_rfl, by kernel_rfl, by kernel_rfl⟩
/-! concord/log.New -/
def e145r0 : EE := .x 0 (.box 133) [.s 0] none [] <|
 .out [(1, .r 0)]
def e145r1 : EE := .x 0 .mkm [] none [] <|
 .q 1 (.bld [.nmap, z, z, z, z, z, z, z] [(0, 1)]) [.r 0] none <|
 .x 2 (.box 329) [.r 1] none [] <|
 .out [(1, .s 1), (3, .r 2)]
def e145r2 : EE := .q 1 (.lda 7) [.s 1] none <|
 .x 2 (.call 211) [.s 3, .r 1] none [] <|
 .out [(3, .s 3)]
def e145r3 : EE := .out [(2, .s 3)]
def e145 : EFn := ⟨(.seq (.reg e145r0 [0] 0) (.seq (.reg e145r1 [1] 0) (.seq (.reg e145r2 [1, 3] 0) (.seq (.reg e145r3 [3] 0) .ret)))), [.slot 2], 11, 0⟩
theorem g145 : Good Tryz.prog 145 e145 := ⟨Tryz.f145, Tryz.func145, by kernel_rfl, by kernel_rfl, by kernel_rfl, by kernel_rfl⟩
/-! concord/interf.New -/
def e146r0 : EE := .out []
def e146r1 : EE := .x 0 .mkm [] none [] <|
 .q 1 (.bld [.nmap, z, z, z, z, z, z, z] [(0, 1)]) [.r 0] none <|
 .x 2 (.box 332) [.r 1] none [] <|
 .out [(0, .r 2)]
def e146 : EFn := ⟨(.seq (.reg e146r0 [] 0) (.seq (.reg e146r1 [] 0) .ret)), [.slot 0], 4, 0⟩
theorem g146 : Good Tryz.prog 146 e146 := ⟨Tryz.f146, Tryz.func146, by kernel_rfl, by kernel_rfl, by kernel_rfl, by kernel_rfl⟩
/-! (*concord/interf.Index).Prune -/
def e147r0 : EE := .x 0 (.box 133) [.s 1] none [] <|
 .out [(0, .s 0), (3, .r 0)]
def e147r1 : EE := .q 0 (.lda 7) [.s 3] none <|
 .out [(0, .s 0), (7, .r 0), (8, .c z)]
def e147r2 : EE := .q 0 .lss [.s 8, .c (.int .i64 7)] none <|
 .out [(0, .s 0), (7, .s 7), (8, .s 8), (9, .r 0)]
def e147r3 : EE := .q 1 (.idx 7 1) [.s 7, .s 8] none <|
 .out [(0, .s 0), (4, .s 8), (5, .r 1), (7, .s 7), (8, .s 8)]
def e147r4 : EE := .q 4 .nl [.s 0] none <|
 .q 5 (.fld 1) [.r 4] none <|
 .q 6 (.ixa 7 1) [.r 5, .s 4] none <|
 .q 7 .ld [.r 6] none <|
 .q 9 .mx [.s 5, .c z] none <|
 .q 10 .mn [.r 9, .c (.int .i64 1073741824)] none <|
 .q 11 .mx [.r 7, .r 10] none <|
 .q 12 .nl [.s 0] none <|
 .q 13 (.fld 1) [.r 12] none <|
 .q 14 (.ixa 7 1) [.r 13, .s 4] none <|
 .x 15 (.st 1) [.r 14, .r 11] none [] <|
 .out [(0, .s 0), (7, .s 7), (8, .s 8)]
def e147r5 : EE := .q 0 .add [.s 8, .c (.int .i64 1)] none <|
 .out [(0, .s 0), (7, .s 7), (8, .r 0)]
def e147l6 : EC := (.seq (.reg e147r2 [0, 7, 8] 0) (.seq (.cond (.s 9) .skip (.exit 0)) (.seq (.block 1 (.seq (.reg e147r3 [0, 7, 8] 0) (.reg e147r4 [0, 4, 5, 7, 8] 0))) (.reg e147r5 [0, 7, 8] 0))))
def e147r7 : EE := .q 1 .nl [.s 0] none <|
 .q 2 (.fld 0) [.r 1] none <|
 .q 3 .ld [.r 2] none <|
 .x 4 .rng [.r 3] none [] <|
 .out [(0, .s 0), (32, .r 4)]
def e147r8 : EE := .x 0 .nxt [.s 32] none [] <|
 .q 1 (.ext 0) [.r 0] none <|
 .out [(0, .s 0), (32, .s 32), (34, .r 1)]
def e147r9 : EE := .q 0 .ent [.s 32] none <|
 .q 1 (.ext 0) [.r 0] none <|
 .x 2 (.alc [z, z] 129) [] none [] <|
 .x 3 (.st 2) [.r 2, .r 1] none [] <|
 .out [(0, .s 0), (6, .r 2), (32, .s 32)]
def e147r10 : EE := .q 0 (.fld 1) [.s 6] none <|
 .q 1 .ld [.r 0] none <|
 .q 3 (.fld 0) [.s 6] none <|
 .q 4 .ld [.r 3] none <|
 .q 5 .nl [.s 0] none <|
 .q 6 (.fld 1) [.r 5] none <|
 .q 7 (.ixa 7 1) [.r 6, .r 4] none <|
 .q 8 .ld [.r 7] none <|
 .q 9 .leq [.r 1, .r 8] none <|
 .out [(0, .s 0), (6, .s 6), (32, .s 32), (46, .r 9)]
def e147r11 : EE := .q 1 .nl [.s 0] none <|
 .q 2 (.fld 0) [.r 1] none <|
 .q 3 .ld [.r 2] none <|
 .q 4 (.lda 2) [.s 6] none <|
 .x 5 (.dlt true [(.i .i64), (.i .i64)]) [.r 3, .r 4] none [] <|
 .out [(0, .s 0), (32, .s 32)]
def e147l12 : EC := (.seq (.reg e147r8 [0, 32] 0) (.seq (.cond (.s 34) .skip (.exit 2)) (.block 3 (.seq (.reg e147r9 [0, 32] 0) (.seq (.reg e147r10 [0, 6, 32] 0) (.cond (.s 46) (.reg e147r11 [0, 6, 32] 0) .skip))))))
def e147 : EFn := ⟨(.seq (.reg e147r0 [0, 1] 0) (.seq (.seq (.reg e147r1 [0, 3] 0) (.block 0 (.loop [0, 7, 8] e147l6))) (.seq (.reg e147r7 [0] 0) (.block 2 (.loop [0, 32] e147l12))))), [], 52, 0⟩
theorem g147 : Good Tryz.prog 147 e147 := ⟨Tryz.f147, Tryz.func147, by kernel_rfl, by kernel_rfl, by kernel_rfl, by kernel_rfl⟩
/-! concord/wal.frames -/
def e151r0 : EE := .out [(0, .s 0), (1, .s 1)]
def e151r1 : EE := .q 1 .len [.s 1] none <|
 .out [(0, .s 0), (8, .s 1), (9, .r 1), (10, .c z)]
def e151r2 : EE := .q 0 .lss [.s 10, .s 9] none <|
 .out [(0, .s 0), (8, .s 8), (9, .s 9), (10, .s 10), (11, .r 0)]
def e151r3 : EE := .q 0 (.ixs 1) [.s 8, .s 10] none <|
 .q 1 .ld [.r 0] none <|
 .out [(0, .s 0), (7, .r 1), (8, .s 8), (9, .s 9), (10, .s 10)]
def e151r4 : EE := .q 1 .len [.s 7] none <|
 .q 2 .eql [.r 1, .c z] none <|
 .q 4 .mv [.s 7] (some (.r 2, false)) <|
 .q 5 .len [.r 4] (some (.r 2, false)) <|
 .q 6 .gtr [.r 5, .c (.int .i64 16384)] (some (.r 2, false)) <|
 .q 7 .pick [.r 2, .c (.bool true), .r 6] none <|
 .out [(0, .s 0), (7, .s 7), (8, .s 8), (9, .s 9), (10, .s 10), (21, .r 7)]
def e151r5 : EE := .out [(4, .c .nsl), (5, .c (.bool false))]
def e151r6 : EE := .x 2 (.call 152) [.s 0, .s 7] none [] <|
 .out [(0, .r 2), (8, .s 8), (9, .s 9), (10, .s 10)]
def e151r7 : EE := .q 0 .add [.s 10, .c (.int .i64 1)] none <|
 .out [(0, .s 0), (8, .s 8), (9, .s 9), (10, .r 0)]
def e151l8 : EC := (.seq (.reg e151r2 [0, 8, 9, 10] 0) (.seq (.cond (.s 11) .skip (.exit 0)) (.seq (.block 1 (.seq (.reg e151r3 [0, 8, 9, 10] 0) (.seq (.seq (.reg e151r4 [0, 7, 8, 9, 10] 0) (.cond (.s 21) (.seq (.reg e151r5 [] 0) .ret) .skip)) (.reg e151r6 [0, 7, 8, 9, 10] 0)))) (.reg e151r7 [0, 8, 9, 10] 0))))
def e151r9 : EE := .out [(4, .s 0), (5, .c (.bool true))]
def e151 : EFn := ⟨(.seq (.reg e151r0 [0, 1] 0) (.seq (.seq (.reg e151r1 [0, 1] 0) (.block 0 (.loop [0, 8, 9, 10] e151l8))) (.seq (.reg e151r9 [0] 0) .ret))), [.slot 4, .slot 5], 27, 0⟩
theorem g151 : Good Tryz.prog 151 e151 := ⟨Tryz.f151, Tryz.func151, by kernel_rfl, by kernel_rfl, by kernel_rfl, by kernel_rfl⟩
/-! concord/frame.Put -/
def e152r0 : EE := .out [(0, .s 0), (1, .s 1)]
def e152r1 : EE := .q 1 .len [.s 0] none <|
 .q 2 .add [.r 1, .c (.int .i64 2)] none <|
 .q 4 .len [.s 1] none <|
 .q 5 .add [.r 2, .r 4] none <|
 .q 6 .add [.r 5, .c (.int .i64 4)] none <|
 .x 7 (.mks 5 1 [(.int .u8 0)]) [.c z, .r 6] none [] <|
 .x 9 (.app 5 1 1 [(.int .u8 0)]) [.r 7, .s 0] none [] <|
 .out [(1, .s 1), (5, .r 9)]
def e152r2 : EE := .q 1 .len [.s 1] none <|
 .q 2 .eql [.r 1, .c z] none <|
 .q 4 .mv [.s 1] (some (.r 2, false)) <|
 .q 5 .len [.r 4] (some (.r 2, false)) <|
 .q 6 .gtr [.r 5, .c (.int .i64 16384)] (some (.r 2, false)) <|
 .q 7 .pick [.r 2, .c (.bool true), .r 6] none <|
 .out [(1, .s 1), (5, .s 5), (24, .r 7)]
def e152r3 : EE := .out [(4, .s 5)]
def e152r4 : EE := .q 1 .len [.s 1] none <|
 .q 2 (.conv .u64) [.r 1] none <|
 .x 3 (.call 217) [.c .nsl, .c (.int .i64 2), .r 2] none [] <|
 .x 5 (.app 5 1 1 [(.int .u8 0)]) [.r 3, .s 1] none [] <|
 .out [(5, .s 5), (6, .r 5)]
def e152r5 : EE := .x 2 (.app 5 1 1 [(.int .u8 0)]) [.s 5, .s 6] none [] <|
 .x 4 (.call 197) [.s 6] none [] <|
 .q 5 (.conv .u64) [.r 4] none <|
 .x 6 (.call 217) [.c .nsl, .c (.int .i64 4), .r 5] none [] <|
 .x 7 (.app 5 1 1 [(.int .u8 0)]) [.r 2, .r 6] none [] <|
 .out [(4, .r 7)]
def e152 : EFn := ⟨(.seq (.reg e152r0 [0, 1] 0) (.seq (.reg e152r1 [0, 1] 0) (.seq (.seq (.reg e152r2 [1, 5] 0) (.cond (.s 24) (.seq (.reg e152r3 [5] 0) .ret) .skip)) (.seq (.reg e152r4 [1, 5] 0) (.seq (.reg e152r5 [5, 6] 0) .ret))))), [.slot 4], 40, 0⟩
theorem g152 : Good Tryz.prog 152 e152 := ⟨Tryz.f152, Tryz.func152, by kernel_rfl, by kernel_rfl, by kernel_rfl, by kernel_rfl⟩
/-! concord/pack.Num -/
def e153r0 : EE := .out [(0, .s 0), (1, .s 1)]
def e153r1 : EE := .x 1 (.call 208) [.s 0, .c (.int .i64 10)] none [] <|
 .x 3 (.call 218) [.r 1, .s 1] none [] <|
 .out [(4, .r 3)]
def e153 : EFn := ⟨(.seq (.reg e153r0 [0, 1] 0) (.seq (.reg e153r1 [0, 1] 0) .ret)), [.slot 4], 9, 0⟩
theorem g153 : Good Tryz.prog 153 e153 := ⟨Tryz.f153, Tryz.func153, by kernel_rfl, by kernel_rfl, by kernel_rfl, by kernel_rfl⟩
/-! (*concord/wal.Wal).write -/
def e154r0 : EE := .x 0 (.box 243) [.s 1] none [] <|
 .out [(0, .s 0), (2, .s 2), (4, .r 0)]
def e154r1 : EE := .q 1 .nl [.s 0] none <|
 .q 2 (.fld 0) [.r 1] none <|
 .q 3 .ld [.r 2] none <|
 .q 4 (.lda 2) [.s 4] none <|
 .x 5 (.call 138) [.r 4] none [⟨3, .ld, [.r 2], none⟩] <|
 .x 7 (.call 219) [.r 3, .r 5, .s 2] none [] <|
 .out [(0, .s 0), (4, .s 4), (7, .r 7)]
def e154r2 : EE := .q 1 .eql [.s 7, .c (.int .i64 7)] none <|
 .out [(0, .s 0), (4, .s 4), (7, .s 7), (17, .r 1)]
def e154r3 : EE := .out [(6, .s 7)]
def e154r4 : EE := .q 1 .eql [.s 7, .c z] none <|
 .out [(0, .s 0), (4, .s 4), (7, .s 7), (20, .r 1)]
def e154r5 : EE := .q 1 .nl [.s 0] none <|
 .q 2 (.fld 0) [.r 1] none <|
 .q 3 .ld [.r 2] none <|
 .q 4 (.lda 2) [.s 4] none <|
 .x 5 (.call 138) [.r 4] none [⟨3, .ld, [.r 2], none⟩] <|
 .x 6 (.call 140) [.r 3, .r 5] none [] <|
 .out [(0, .s 0), (7, .r 6)]
def e154r6 : EE := .q 2 .neq [.s 7, .c z] none <|
 .q 3 .nl [.s 0] none <|
 .q 4 (.fld 3) [.r 3] none <|
 .x 5 (.st 1) [.r 4, .r 2] none [] <|
 .out [(7, .s 7)]
def e154r7 : EE := .out [(6, .s 7)]
def e154 : EFn := ⟨(.seq (.reg e154r0 [0, 1, 2] 0) (.seq (.reg e154r1 [0, 2, 4] 0) (.seq (.seq (.reg e154r2 [0, 4, 7] 0) (.cond (.s 17) (.seq (.reg e154r3 [7] 0) .ret) .skip)) (.seq (.seq (.reg e154r4 [0, 4, 7] 0) (.cond (.s 20) (.reg e154r5 [0, 4] 0) .skip)) (.seq (.reg e154r6 [0, 7] 0) (.seq (.reg e154r7 [7] 0) .ret)))))), [.slot 6], 34, 0⟩
theorem g154 : Good Tryz.prog 154 e154 := ⟨Tryz.f154, Tryz.func154, by kernel_rfl, by kernel_rfl, by kernel_rfl, by kernel_rfl⟩
/-! (*concord/node.Node).drain -/
def e155r0 : EE := .out [(0, .s 0)]
def e155r1 : EE := .q 1 .nl [.s 0] none <|
 .q 2 (.fld 4) [.r 1] none <|
 .q 3 .ld [.r 2] none <|
 .x 4 (.call 220) [.r 3] none [] <|
 .q 6 (.ext 0) [.r 4] none <|
 .q 7 (.ext 1) [.r 4] none <|
 .out [(0, .s 0), (3, .r 6), (4, .r 7)]
def e155r2 : EE := .q 1 .len [.s 3] none <|
 .out [(0, .s 0), (3, .s 3), (4, .s 4), (15, .s 3), (16, .r 1), (17, .c z)]
def e155r3 : EE := .q 0 .lss [.s 17, .s 16] none <|
 .out [(0, .s 0), (3, .s 3), (4, .s 4), (15, .s 15), (16, .s 16), (17, .s 17), (18, .r 0)]
def e155r4 : EE := .q 1 (.ixs 1) [.s 15, .s 17] none <|
 .q 2 .ld [.r 1] none <|
 .out [(0, .s 0), (3, .s 3), (4, .s 4), (5, .s 17), (6, .r 2), (15, .s 15), (16, .s 16), (17, .s 17)]
def e155r5 : EE := .x 3 (.call 221) [.s 6] none [] <|
 .q 4 (.ixs 1) [.s 3, .s 5] none <|
 .x 5 (.st 1) [.r 4, .r 3] none [] <|
 .out [(0, .s 0), (3, .s 3), (4, .s 4), (15, .s 15), (16, .s 16), (17, .s 17)]
def e155r6 : EE := .q 0 .add [.s 17, .c (.int .i64 1)] none <|
 .out [(0, .s 0), (3, .s 3), (4, .s 4), (15, .s 15), (16, .s 16), (17, .r 0)]
def e155l7 : EC := (.seq (.reg e155r3 [0, 3, 4, 15, 16, 17] 0) (.seq (.cond (.s 18) .skip (.exit 0)) (.seq (.block 1 (.seq (.reg e155r4 [0, 3, 4, 15, 16, 17] 0) (.reg e155r5 [0, 3, 4, 5, 6, 15, 16, 17] 0))) (.reg e155r6 [0, 3, 4, 15, 16, 17] 0))))
def e155r8 : EE := .q 1 .nl [.s 0] none <|
 .q 2 (.fld 3) [.r 1] none <|
 .q 3 .ld [.r 2] none <|
 .x 5 (.call 222) [.r 3, .s 3] none [] <|
 .q 6 .neq [.r 5, .c z] none <|
 .out [(0, .s 0), (4, .s 4), (34, .r 6)]
def e155r9 : EE := .x 1 (.call 223) [.s 0] none [] <|
 .out []
def e155r10 : EE := .out [(2, .c (.bool false))]
def e155r11 : EE := .q 2 .nl [.s 0] none <|
 .q 3 (.fld 72) [.r 2] none <|
 .q 4 .ld [.r 3] none <|
 .x 6 (.app 189 51 480 [z, z, z, z, z, z, z, z, z, z, zs, zs, zs, zs, z, z, z, z, z, z, z, z, z, z, z, z, z, z, z, z, zs, zs, zs, zs, z, z, z, z, z, z, z, z, (.bool false), z, z, z, z, z, z, z, zs]) [.r 4, .s 4] none [] <|
 .q 7 .nl [.s 0] none <|
 .q 8 (.fld 72) [.r 7] none <|
 .x 9 (.st 1) [.r 8, .r 6] none [] <|
 .out []
def e155r12 : EE := .out [(2, .c (.bool true))]
def e155 : EFn := ⟨(.seq (.reg e155r0 [0] 0) (.seq (.reg e155r1 [0] 0) (.seq (.seq (.reg e155r2 [0, 3, 4] 0) (.block 0 (.loop [0, 3, 4, 15, 16, 17] e155l7))) (.seq (.seq (.reg e155r8 [0, 3, 4] 0) (.cond (.s 34) (.seq (.reg e155r9 [0] 0) (.seq (.reg e155r10 [] 0) .ret)) .skip)) (.seq (.reg e155r11 [0, 4] 0) (.seq (.reg e155r12 [] 0) .ret)))))), [.slot 2], 46, 0⟩
theorem g155 : Good Tryz.prog 155 e155 := ⟨Tryz.f155, Tryz.func155, by kernel_rfl, by kernel_rfl, by kernel_rfl, by kernel_rfl⟩
/-! (*concord/node.Node).run -/
def e156r0 : EE := .q 1 .nl [.s 0] none <|
 .q 2 (.fld 55) [.r 1] none <|
 .q 3 (.lda 7) [.r 2] none <|
 .x 5 (.call 225) [.s 0] none [⟨3, (.lda 7), [.r 2], none⟩] <|
 .x 6 (.call 224) [.r 3, .r 5] none [] <|
 .q 8 (.ext 0) [.r 6] none <|
 .q 9 (.ext 1) [.r 6] none <|
 .out [(0, .s 0), (2, .r 8), (3, .r 9)]
def e156r1 : EE := .q 1 .len [.s 2] none <|
 .out [(0, .s 0), (3, .s 3), (18, .s 2), (19, .r 1), (20, .c z)]
def e156r2 : EE := .q 0 .lss [.s 20, .s 19] none <|
 .out [(0, .s 0), (3, .s 3), (18, .s 18), (19, .s 19), (20, .s 20), (21, .r 0)]
def e156r3 : EE := .q 0 (.ixs 23) [.s 18, .s 20] none <|
 .q 1 (.lda 23) [.r 0] none <|
 .x 2 (.alc [z, z, z, z, z, z, z, z, z, z, zs, zs, zs, zs, z, z, z, z, z, z, z, z, (.bool false)] 346) [] none [] <|
 .x 3 (.st 23) [.r 2, .r 1] none [] <|
 .out [(0, .s 0), (3, .s 3), (5, .r 2), (18, .s 18), (19, .s 19), (20, .s 20)]
def e156r4 : EE := .q 2 .nl [.s 0] none <|
 .q 3 (.fld 6) [.r 2] none <|
 .q 4 (.lda 49) [.r 3] none <|
 .q 5 (.fld 2) [.s 5] none <|
 .q 6 (.fld 5) [.r 5] none <|
 .q 7 (.lda 7) [.r 6] none <|
 .x 8 (.call 188) [.r 4, .r 7] none [] <|
 .q 10 (.ext 0) [.r 8] none <|
 .q 11 (.ext 1) [.r 8] none <|
 .q 12 .nl [.s 0] none <|
 .q 13 (.fld 6) [.r 12] none <|
 .x 14 (.st 49) [.r 13, .r 10] none [] <|
 .out [(0, .s 0), (3, .s 3), (5, .s 5), (18, .s 18), (19, .s 19), (20, .s 20)]
def e156r5 : EE := .q 1 (.fld 0) [.s 5] none <|
 .q 2 (.fld 0) [.r 1] none <|
 .q 3 .ld [.r 2] none <|
 .q 5 (.fld 0) [.s 5] none <|
 .q 6 (.fld 0) [.r 5] none <|
 .q 7 .ld [.r 6] none <|
 .q 8 .nl [.s 0] none <|
 .q 9 (.fld 55) [.r 8] none <|
 .q 10 (.ixa 7 1) [.r 9, .r 7] none <|
 .q 11 .ld [.r 10] none <|
 .q 12 (.fld 0) [.s 5] none <|
 .q 13 (.fld 1) [.r 12] none <|
 .q 14 .ld [.r 13] none <|
 .q 15 .mx [.r 11, .r 14] none <|
 .q 16 .nl [.s 0] none <|
 .q 17 (.fld 55) [.r 16] none <|
 .q 18 (.ixa 7 1) [.r 17, .r 3] none <|
 .x 19 (.st 1) [.r 18, .r 15] none [] <|
 .out [(0, .s 0), (3, .s 3), (18, .s 18), (19, .s 19), (20, .s 20)]
def e156r6 : EE := .q 1 .nl [.s 0] none <|
 .q 2 (.fld 69) [.r 1] none <|
 .q 3 .ld [.r 2] none <|
 .q 4 .add [.r 3, .c (.int .i64 1)] none <|
 .q 5 .nl [.s 0] none <|
 .q 6 (.fld 69) [.r 5] none <|
 .x 7 (.st 1) [.r 6, .r 4] none [] <|
 .out [(0, .s 0), (3, .s 3), (18, .s 18), (19, .s 19), (20, .s 20)]
def e156r7 : EE := .q 0 .add [.s 20, .c (.int .i64 1)] none <|
 .out [(0, .s 0), (3, .s 3), (18, .s 18), (19, .s 19), (20, .r 0)]
def e156l8 : EC := (.seq (.reg e156r2 [0, 3, 18, 19, 20] 0) (.seq (.cond (.s 21) .skip (.exit 0)) (.seq (.block 1 (.seq (.reg e156r3 [0, 3, 18, 19, 20] 0) (.seq (.reg e156r4 [0, 3, 5, 18, 19, 20] 0) (.seq (.reg e156r5 [0, 3, 5, 18, 19, 20] 0) (.reg e156r6 [0, 3, 18, 19, 20] 0))))) (.reg e156r7 [0, 3, 18, 19, 20] 0))))
def e156r9 : EE := .q 1 .len [.s 3] none <|
 .out [(0, .s 0), (65, .s 3), (66, .r 1), (67, .c z)]
def e156r10 : EE := .q 0 .lss [.s 67, .s 66] none <|
 .out [(0, .s 0), (65, .s 65), (66, .s 66), (67, .s 67), (68, .r 0)]
def e156r11 : EE := .q 0 (.ixs 2) [.s 65, .s 67] none <|
 .q 1 (.lda 2) [.r 0] none <|
 .x 2 (.alc [z, z] 129) [] none [] <|
 .x 3 (.st 2) [.r 2, .r 1] none [] <|
 .out [(0, .s 0), (7, .r 2), (65, .s 65), (66, .s 66), (67, .s 67)]
def e156r12 : EE := .q 1 (.fld 0) [.s 7] none <|
 .q 2 .ld [.r 1] none <|
 .q 3 (.fld 1) [.s 7] none <|
 .q 4 .ld [.r 3] none <|
 .x 5 (.call 226) [.s 0, .r 2, .r 4] none [] <|
 .out [(0, .s 0), (65, .s 65), (66, .s 66), (67, .s 67)]
def e156r13 : EE := .q 0 .add [.s 67, .c (.int .i64 1)] none <|
 .out [(0, .s 0), (65, .s 65), (66, .s 66), (67, .r 0)]
def e156l14 : EC := (.seq (.reg e156r10 [0, 65, 66, 67] 0) (.seq (.cond (.s 68) .skip (.exit 2)) (.seq (.block 3 (.seq (.reg e156r11 [0, 65, 66, 67] 0) (.reg e156r12 [0, 7, 65, 66, 67] 0))) (.reg e156r13 [0, 65, 66, 67] 0))))
def e156 : EFn := ⟨(.seq (.reg e156r0 [0] 0) (.seq (.seq (.reg e156r1 [0, 2, 3] 0) (.block 0 (.loop [0, 3, 18, 19, 20] e156l8))) (.seq (.reg e156r9 [0, 3] 0) (.block 2 (.loop [0, 65, 66, 67] e156l14))))), [], 78, 0⟩
theorem g156 : Good Tryz.prog 156 e156 := ⟨Tryz.f156, Tryz.func156, by kernel_rfl, by kernel_rfl, by kernel_rfl, by kernel_rfl⟩
/-! (*concord/node.Node).answer -/
def e157r0 : EE := .out [(0, .s 0), (2, .c .nsl)]
def e157r1 : EE := .q 1 .nl [.s 0] none <|
 .q 2 (.fld 71) [.r 1] none <|
 .q 3 .ld [.r 2] none <|
 .q 4 .len [.r 3] none <|
 .out [(0, .s 0), (2, .s 2), (10, .r 3), (11, .r 4), (12, .c z)]
def e157r2 : EE := .q 0 .lss [.s 12, .s 11] none <|
 .out [(0, .s 0), (2, .s 2), (10, .s 10), (11, .s 11), (12, .s 12), (13, .r 0)]
def e157r3 : EE := .q 0 (.ixs 2) [.s 10, .s 12] none <|
 .q 1 (.lda 2) [.r 0] none <|
 .x 2 (.alc [z, z] 129) [] none [] <|
 .x 3 (.st 2) [.r 2, .r 1] none [] <|
 .out [(0, .s 0), (2, .s 2), (4, .r 2), (10, .s 10), (11, .s 11), (12, .s 12)]
def e157r4 : EE := .q 1 (.fld 0) [.s 4] none <|
 .q 2 .ld [.r 1] none <|
 .q 3 .sub [.r 2, .c (.int .i64 1)] none <|
 .q 4 .nl [.s 0] none <|
 .q 5 (.fld 6) [.r 4] none <|
 .q 6 (.fld 1) [.r 5] none <|
 .q 7 (.ixa 8 6) [.r 6, .r 3] none <|
 .q 8 (.lda 6) [.r 7] none <|
 .x 9 (.alc [z, z, (.bool false), zs, z, .nsl] 143) [] none [⟨2, .ld, [.r 1], none⟩, ⟨8, (.lda 6), [.r 7], none⟩] <|
 .x 10 (.st 6) [.r 9, .r 8] none [] <|
 .out [(0, .s 0), (2, .s 2), (4, .s 4), (5, .r 9), (10, .s 10), (11, .s 11), (12, .s 12)]
def e157r5 : EE := .q 0 (.fld 0) [.s 5] none <|
 .q 1 .ld [.r 0] none <|
 .q 2 (.fld 1) [.s 4] none <|
 .q 3 .ld [.r 2] none <|
 .q 4 .eql [.r 1, .r 3] none <|
 .out [(0, .s 0), (2, .s 2), (4, .s 4), (5, .s 5), (10, .s 10), (11, .s 11), (12, .s 12), (25, .r 4)]
def e157r6 : EE := .q 0 (.fld 1) [.s 5] none <|
 .q 1 (.lda 5) [.r 0] none <|
 .x 2 (.alc [z, (.bool false), zs, z, .nsl] 84) [] none [] <|
 .x 3 (.st 5) [.r 2, .r 1] none [] <|
 .out [(0, .s 0), (2, .s 2), (4, .s 4), (6, .r 2), (10, .s 10), (11, .s 11), (12, .s 12)]
def e157r7 : EE := .q 0 (.fld 4) [.s 6] none <|
 .q 1 .ld [.r 0] none <|
 .x 2 (.call 63) [.r 1] none [] <|
 .q 3 (.fld 4) [.s 6] none <|
 .x 4 (.st 1) [.r 3, .r 2] none [] <|
 .out [(0, .s 0), (2, .s 2), (4, .s 4), (6, .s 6), (10, .s 10), (11, .s 11), (12, .s 12)]
def e157r8 : EE := .q 2 .nl [.s 0] none <|
 .q 3 (.fld 73) [.r 2] none <|
 .q 4 .ld [.r 3] none <|
 .q 5 (.fld 0) [.s 4] none <|
 .q 6 .ld [.r 5] none <|
 .q 7 (.fld 1) [.s 4] none <|
 .q 8 .ld [.r 7] none <|
 .q 9 (.lda 5) [.s 6] none <|
 .q 10 (.bld [z, z, z, (.bool false), zs, z, .nsl] [(0, 1), (1, 1), (2, 5)]) [.r 6, .r 8, .r 9] none <|
 .x 11 (.bsl 191 1 [z, z, z, (.bool false), zs, z, .nsl] [(0, 7)]) [.r 10] none [⟨4, .ld, [.r 3], none⟩] <|
 .x 12 (.app 191 7 80 [z, z, z, (.bool false), zs, z, .nsl]) [.r 4, .r 11] none [] <|
 .q 13 .nl [.s 0] none <|
 .q 14 (.fld 73) [.r 13] none <|
 .x 15 (.st 1) [.r 14, .r 12] none [] <|
 .out [(0, .s 0), (2, .s 2), (10, .s 10), (11, .s 11), (12, .s 12)]
def e157r9 : EE := .q 0 (.fld 0) [.s 5] none <|
 .q 1 .ld [.r 0] none <|
 .q 2 (.fld 1) [.s 4] none <|
 .q 3 .ld [.r 2] none <|
 .q 4 .lss [.r 1, .r 3] none <|
 .out [(0, .s 0), (2, .s 2), (4, .s 4), (10, .s 10), (11, .s 11), (12, .s 12), (52, .r 4)]
def e157r10 : EE := .q 1 (.lda 2) [.s 4] none <|
 .x 2 (.bsl 129 1 [z, z] [(0, 2)]) [.r 1] none [] <|
 .x 3 (.app 129 2 16 [z, z]) [.s 2, .r 2] none [] <|
 .out [(0, .s 0), (2, .r 3), (10, .s 10), (11, .s 11), (12, .s 12)]
def e157r11 : EE := .q 0 .add [.s 12, .c (.int .i64 1)] none <|
 .out [(0, .s 0), (2, .s 2), (10, .s 10), (11, .s 11), (12, .r 0)]
def e157l12 : EC := (.seq (.reg e157r2 [0, 2, 10, 11, 12] 0) (.seq (.cond (.s 13) .skip (.exit 0)) (.seq (.block 1 (.seq (.reg e157r3 [0, 2, 10, 11, 12] 0) (.seq (.reg e157r4 [0, 2, 4, 10, 11, 12] 0) (.block 2 (.seq (.reg e157r5 [0, 2, 4, 5, 10, 11, 12] 0) (.cond (.s 25) (.seq (.reg e157r6 [0, 2, 4, 5, 10, 11, 12] 0) (.seq (.reg e157r7 [0, 2, 4, 6, 10, 11, 12] 0) (.reg e157r8 [0, 2, 4, 6, 10, 11, 12] 0))) (.seq (.reg e157r9 [0, 2, 4, 5, 10, 11, 12] 0) (.cond (.s 52) (.reg e157r10 [0, 2, 4, 10, 11, 12] 0) .skip)))))))) (.reg e157r11 [0, 2, 10, 11, 12] 0))))
def e157r13 : EE := .q 2 .nl [.s 0] none <|
 .q 3 (.fld 71) [.r 2] none <|
 .x 4 (.st 1) [.r 3, .s 2] none [] <|
 .out []
def e157 : EFn := ⟨(.seq (.reg e157r0 [0] 0) (.seq (.seq (.reg e157r1 [0, 2] 0) (.block 0 (.loop [0, 2, 10, 11, 12] e157l12))) (.reg e157r13 [0, 2] 0))), [], 67, 0⟩
theorem g157 : Good Tryz.prog 157 e157 := ⟨Tryz.f157, Tryz.func157, by kernel_rfl, by kernel_rfl, by kernel_rfl, by kernel_rfl⟩
/-! (*concord/node.Node).trim -/
def e160r0 : EE := .q 1 .nl [.s 0] none <|
 .q 2 (.fld 5) [.r 1] none <|
 .q 3 .ld [.r 2] none <|
 .q 6 .nl [.s 0] none <|
 .q 7 (.fld 4) [.r 6] none <|
 .q 8 .ld [.r 7] none <|
 .both false
 (.x 4 (.call 230) [.r 3] none [⟨8, .ld, [.r 7], none⟩] <|
 .both false
 (.x 9 (.call 182) [.r 8] none [] <|
 .both false
 (.x 10 (.alc [z, z, z, z, z, z, z] 133) [] none [⟨3, .ld, [.r 2], none⟩, ⟨8, .ld, [.r 7], none⟩] <|
 .x 11 (.alc [z, z, z, z, z, z, z] 133) [] none [⟨3, .ld, [.r 2], none⟩, ⟨8, .ld, [.r 7], none⟩] <|
 .x 12 (.st 7) [.r 10, .r 4] none [] <|
 .x 13 (.st 7) [.r 11, .r 9] none [] <|
 .out [(0, .s 0), (2, .r 10), (3, .r 11)])
 (.x 11 (.alc [z, z, z, z, z, z, z] 133) [] none [⟨3, .ld, [.r 2], none⟩, ⟨8, .ld, [.r 7], none⟩] <|
 .x 10 (.alc [z, z, z, z, z, z, z] 133) [] none [⟨3, .ld, [.r 2], none⟩, ⟨8, .ld, [.r 7], none⟩] <|
 .x 12 (.st 7) [.r 10, .r 4] none [] <|
 .x 13 (.st 7) [.r 11, .r 9] none [] <|
 .out [(0, .s 0), (2, .r 10), (3, .r 11)]))
 (.both false
 (.x 10 (.alc [z, z, z, z, z, z, z] 133) [] none [⟨3, .ld, [.r 2], none⟩, ⟨8, .ld, [.r 7], none⟩] <|
 .both false
 (.x 9 (.call 182) [.r 8] none [] <|
 .x 11 (.alc [z, z, z, z, z, z, z] 133) [] none [⟨3, .ld, [.r 2], none⟩, ⟨8, .ld, [.r 7], none⟩] <|
 .x 12 (.st 7) [.r 10, .r 4] none [] <|
 .x 13 (.st 7) [.r 11, .r 9] none [] <|
 .out [(0, .s 0), (2, .r 10), (3, .r 11)])
 (.x 11 (.alc [z, z, z, z, z, z, z] 133) [] none [⟨3, .ld, [.r 2], none⟩, ⟨8, .ld, [.r 7], none⟩] <|
 .x 9 (.call 182) [.r 8] none [] <|
 .x 12 (.st 7) [.r 10, .r 4] none [] <|
 .x 13 (.st 7) [.r 11, .r 9] none [] <|
 .out [(0, .s 0), (2, .r 10), (3, .r 11)]))
 (.x 11 (.alc [z, z, z, z, z, z, z] 133) [] none [⟨3, .ld, [.r 2], none⟩, ⟨8, .ld, [.r 7], none⟩] <|
 .both false
 (.x 9 (.call 182) [.r 8] none [] <|
 .x 10 (.alc [z, z, z, z, z, z, z] 133) [] none [⟨3, .ld, [.r 2], none⟩, ⟨8, .ld, [.r 7], none⟩] <|
 .x 12 (.st 7) [.r 10, .r 4] none [] <|
 .x 13 (.st 7) [.r 11, .r 9] none [] <|
 .out [(0, .s 0), (2, .r 10), (3, .r 11)])
 (.x 10 (.alc [z, z, z, z, z, z, z] 133) [] none [⟨3, .ld, [.r 2], none⟩, ⟨8, .ld, [.r 7], none⟩] <|
 .x 9 (.call 182) [.r 8] none [] <|
 .x 12 (.st 7) [.r 10, .r 4] none [] <|
 .x 13 (.st 7) [.r 11, .r 9] none [] <|
 .out [(0, .s 0), (2, .r 10), (3, .r 11)]))))
 (.both false
 (.x 10 (.alc [z, z, z, z, z, z, z] 133) [] none [⟨3, .ld, [.r 2], none⟩, ⟨8, .ld, [.r 7], none⟩] <|
 .both false
 (.x 4 (.call 230) [.r 3] none [⟨8, .ld, [.r 7], none⟩] <|
 .both false
 (.x 9 (.call 182) [.r 8] none [] <|
 .x 11 (.alc [z, z, z, z, z, z, z] 133) [] none [⟨3, .ld, [.r 2], none⟩, ⟨8, .ld, [.r 7], none⟩] <|
 .x 12 (.st 7) [.r 10, .r 4] none [] <|
 .x 13 (.st 7) [.r 11, .r 9] none [] <|
 .out [(0, .s 0), (2, .r 10), (3, .r 11)])
 (.x 11 (.alc [z, z, z, z, z, z, z] 133) [] none [⟨3, .ld, [.r 2], none⟩, ⟨8, .ld, [.r 7], none⟩] <|
 .x 9 (.call 182) [.r 8] none [] <|
 .x 12 (.st 7) [.r 10, .r 4] none [] <|
 .x 13 (.st 7) [.r 11, .r 9] none [] <|
 .out [(0, .s 0), (2, .r 10), (3, .r 11)]))
 (.x 11 (.alc [z, z, z, z, z, z, z] 133) [] none [⟨3, .ld, [.r 2], none⟩, ⟨8, .ld, [.r 7], none⟩] <|
 .x 4 (.call 230) [.r 3] none [⟨8, .ld, [.r 7], none⟩] <|
 .x 9 (.call 182) [.r 8] none [] <|
 .x 12 (.st 7) [.r 10, .r 4] none [] <|
 .x 13 (.st 7) [.r 11, .r 9] none [] <|
 .out [(0, .s 0), (2, .r 10), (3, .r 11)]))
 (.x 11 (.alc [z, z, z, z, z, z, z] 133) [] none [⟨3, .ld, [.r 2], none⟩, ⟨8, .ld, [.r 7], none⟩] <|
 .both false
 (.x 4 (.call 230) [.r 3] none [⟨8, .ld, [.r 7], none⟩] <|
 .both false
 (.x 9 (.call 182) [.r 8] none [] <|
 .x 10 (.alc [z, z, z, z, z, z, z] 133) [] none [⟨3, .ld, [.r 2], none⟩, ⟨8, .ld, [.r 7], none⟩] <|
 .x 12 (.st 7) [.r 10, .r 4] none [] <|
 .x 13 (.st 7) [.r 11, .r 9] none [] <|
 .out [(0, .s 0), (2, .r 10), (3, .r 11)])
 (.x 10 (.alc [z, z, z, z, z, z, z] 133) [] none [⟨3, .ld, [.r 2], none⟩, ⟨8, .ld, [.r 7], none⟩] <|
 .x 9 (.call 182) [.r 8] none [] <|
 .x 12 (.st 7) [.r 10, .r 4] none [] <|
 .x 13 (.st 7) [.r 11, .r 9] none [] <|
 .out [(0, .s 0), (2, .r 10), (3, .r 11)]))
 (.x 10 (.alc [z, z, z, z, z, z, z] 133) [] none [⟨3, .ld, [.r 2], none⟩, ⟨8, .ld, [.r 7], none⟩] <|
 .x 4 (.call 230) [.r 3] none [⟨8, .ld, [.r 7], none⟩] <|
 .x 9 (.call 182) [.r 8] none [] <|
 .x 12 (.st 7) [.r 10, .r 4] none [] <|
 .x 13 (.st 7) [.r 11, .r 9] none [] <|
 .out [(0, .s 0), (2, .r 10), (3, .r 11)])))
def e160r1 : EE := .out [(0, .s 0), (2, .s 2), (3, .s 3), (4, .c z)]
def e160r2 : EE := .out [(0, .s 0), (2, .s 2), (3, .s 3), (4, .s 4), (21, .c z)]
def e160r3 : EE := .q 0 .lss [.s 21, .c (.int .i64 7)] none <|
 .out [(0, .s 0), (2, .s 2), (3, .s 3), (4, .s 4), (21, .s 21), (22, .r 0)]
def e160r4 : EE := .out [(0, .s 0), (2, .s 2), (3, .s 3), (4, .s 4), (5, .s 21), (21, .s 21)]
def e160r5 : EE := .q 2 (.ixa 7 1) [.s 2, .s 5] none <|
 .q 3 .ld [.r 2] none <|
 .q 5 (.ixa 7 1) [.s 3, .s 5] none <|
 .q 6 .ld [.r 5] none <|
 .q 7 .sub [.r 3, .r 6] none <|
 .q 8 .mx [.r 7, .c z] none <|
 .q 9 .add [.s 4, .r 8] none <|
 .out [(0, .s 0), (2, .s 2), (3, .s 3), (4, .r 9), (21, .s 21)]
def e160r6 : EE := .q 0 .add [.s 21, .c (.int .i64 1)] none <|
 .out [(0, .s 0), (2, .s 2), (3, .s 3), (4, .s 4), (21, .r 0)]
def e160l7 : EC := (.seq (.reg e160r3 [0, 2, 3, 4, 21] 0) (.seq (.cond (.s 22) .skip (.exit 0)) (.seq (.block 1 (.seq (.reg e160r4 [0, 2, 3, 4, 21] 0) (.reg e160r5 [0, 2, 3, 4, 5, 21] 0))) (.reg e160r6 [0, 2, 3, 4, 21] 0))))
def e160r8 : EE := .q 1 .lss [.s 4, .c (.int .i64 8)] none <|
 .out [(0, .s 0), (2, .s 2), (36, .r 1)]
def e160r9 : EE := .q 1 .nl [.s 0] none <|
 .q 2 (.fld 4) [.r 1] none <|
 .q 3 .ld [.r 2] none <|
 .q 4 (.lda 7) [.s 2] none <|
 .x 5 (.call 231) [.r 3, .r 4] none [] <|
 .out [(0, .s 0)]
def e160r10 : EE := .q 1 .nl [.s 0] none <|
 .q 2 (.fld 4) [.r 1] none <|
 .q 3 .ld [.r 2] none <|
 .x 4 (.call 182) [.r 3] none [] <|
 .x 5 (.call 94) [.r 4] none [] <|
 .x 6 (.bsl 60 1 [.nsl] [(0, 1)]) [.r 5] none [] <|
 .out [(0, .s 0), (6, .r 6)]
def e160r11 : EE := .q 1 .nl [.s 0] none <|
 .q 2 (.fld 4) [.r 1] none <|
 .q 3 .ld [.r 2] none <|
 .x 4 (.call 232) [.r 3] none [] <|
 .q 5 .len [.r 4] none <|
 .out [(0, .s 0), (6, .s 6), (54, .r 4), (55, .r 5), (56, .c z)]
def e160r12 : EE := .q 0 .lss [.s 56, .s 55] none <|
 .out [(0, .s 0), (6, .s 6), (54, .s 54), (55, .s 55), (56, .s 56), (57, .r 0)]
def e160r13 : EE := .q 0 (.ixs 2) [.s 54, .s 56] none <|
 .q 1 (.lda 2) [.r 0] none <|
 .x 2 (.alc [z, z] 129) [] none [] <|
 .x 3 (.st 2) [.r 2, .r 1] none [] <|
 .out [(0, .s 0), (6, .s 6), (8, .r 2), (54, .s 54), (55, .s 55), (56, .s 56)]
def e160r14 : EE := .q 1 .nl [.s 0] none <|
 .q 2 (.fld 4) [.r 1] none <|
 .q 3 .ld [.r 2] none <|
 .q 4 (.lda 2) [.s 8] none <|
 .both false
 (.x 5 (.call 183) [.r 3, .r 4] none [] <|
 .q 7 (.ext 0) [.r 5] none <|
 .q 8 (.ext 1) [.r 5] none <|
 .x 9 (.alc [z, z, z, z, z, z, z, z, zs, zs, zs, zs, z, z, z, z, z, z, z, z, (.bool false)] 137) [] none [⟨3, .ld, [.r 2], none⟩, ⟨4, (.lda 2), [.s 8], none⟩] <|
 .x 10 (.st 21) [.r 9, .r 7] none [] <|
 .out [(0, .s 0), (6, .s 6), (8, .s 8), (9, .r 9), (10, .r 8), (54, .s 54), (55, .s 55), (56, .s 56)])
 (.x 9 (.alc [z, z, z, z, z, z, z, z, zs, zs, zs, zs, z, z, z, z, z, z, z, z, (.bool false)] 137) [] none [⟨3, .ld, [.r 2], none⟩, ⟨4, (.lda 2), [.s 8], none⟩] <|
 .x 5 (.call 183) [.r 3, .r 4] none [] <|
 .q 7 (.ext 0) [.r 5] none <|
 .q 8 (.ext 1) [.r 5] none <|
 .x 10 (.st 21) [.r 9, .r 7] none [] <|
 .out [(0, .s 0), (6, .s 6), (8, .s 8), (9, .r 9), (10, .r 8), (54, .s 54), (55, .s 55), (56, .s 56)])
def e160r15 : EE := .out [(0, .s 0), (6, .s 6), (8, .s 8), (9, .s 9), (54, .s 54), (55, .s 55), (56, .s 56), (69, .s 10)]
def e160r16 : EE := .q 1 (.lda 2) [.s 8] none <|
 .q 2 (.lda 21) [.s 9] none <|
 .x 3 (.call 233) [.r 1, .r 2] none [] <|
 .x 4 (.call 221) [.r 3] none [] <|
 .x 5 (.bsl 60 1 [.nsl] [(0, 1)]) [.r 4] none [] <|
 .x 6 (.app 60 1 24 [.nsl]) [.s 6, .r 5] none [] <|
 .out [(0, .s 0), (6, .r 6), (54, .s 54), (55, .s 55), (56, .s 56)]
def e160r17 : EE := .q 0 .add [.s 56, .c (.int .i64 1)] none <|
 .out [(0, .s 0), (6, .s 6), (54, .s 54), (55, .s 55), (56, .r 0)]
def e160l18 : EC := (.seq (.reg e160r12 [0, 6, 54, 55, 56] 0) (.seq (.cond (.s 57) .skip (.exit 2)) (.seq (.block 3 (.seq (.reg e160r13 [0, 6, 54, 55, 56] 0) (.seq (.reg e160r14 [0, 6, 8, 54, 55, 56] 11) (.seq (.reg e160r15 [0, 6, 8, 9, 10, 54, 55, 56] 0) (.cond (.s 69) (.reg e160r16 [0, 6, 8, 9, 54, 55, 56] 0) .skip))))) (.reg e160r17 [0, 6, 54, 55, 56] 0))))
def e160r19 : EE := .q 1 .nl [.s 0] none <|
 .q 2 (.fld 3) [.r 1] none <|
 .q 3 .ld [.r 2] none <|
 .x 5 (.call 93) [.r 3, .s 6] none [] <|
 .q 6 .neq [.r 5, .c z] none <|
 .out [(0, .s 0), (84, .r 6)]
def e160r20 : EE := .x 1 (.call 223) [.s 0] none [] <|
 .out []
def e160 : EFn := ⟨(.seq (.reg e160r0 [0] 14) (.seq (.reg e160r1 [0, 2, 3] 0) (.seq (.seq (.reg e160r2 [0, 2, 3, 4] 0) (.block 0 (.loop [0, 2, 3, 4, 21] e160l7))) (.seq (.seq (.reg e160r8 [0, 2, 4] 0) (.cond (.s 36) .ret .skip)) (.seq (.reg e160r9 [0, 2] 0) (.seq (.reg e160r10 [0] 0) (.seq (.seq (.reg e160r11 [0, 6] 0) (.block 2 (.loop [0, 6, 54, 55, 56] e160l18))) (.seq (.reg e160r19 [0, 6] 0) (.cond (.s 84) (.reg e160r20 [0] 0) .skip))))))))), [], 87, 0⟩
theorem g160 : Good Tryz.prog 160 e160 := ⟨Tryz.f160, Tryz.func160, by kernel_rfl, by kernel_rfl, by kernel_rfl, by kernel_rfl⟩
/-! slices.Clone[[]*concord/core.lead,*concord/core.lead] -/
def e168r0 : EE := .out [(0, .s 0)]
def e168r1 : EE := .q 1 (.eqs false) [.s 0, .c .nsl] none <|
 .out [(0, .s 0), (4, .r 1)]
def e168r2 : EE := .out [(2, .c .nsl)]
def e168r3 : EE := .x 0 (.bsl 275 0 [] []) [] none [] <|
 .x 2 (.app 275 1 8 [.nptr]) [.r 0, .s 0] none [] <|
 .out [(2, .r 2)]
def e168 : EFn := ⟨(.seq (.reg e168r0 [0] 0) (.seq (.seq (.reg e168r1 [0] 0) (.cond (.s 4) (.seq (.reg e168r2 [] 0) .ret) .skip)) (.seq (.reg e168r3 [0] 0) .ret))), [.slot 2], 8, 0⟩
theorem g168 : Good Tryz.prog 168 e168 := ⟨Tryz.f168, Tryz.func168, by kernel_rfl, by kernel_rfl, by kernel_rfl, by kernel_rfl⟩
/-! (*concord/log.Log).List -/
def e172r0 : EE := .out [(0, .s 0)]
def e172r1 : EE := .out [(0, .s 0), (3, .c .nsl)]
def e172r2 : EE := .q 1 .nl [.s 0] none <|
 .q 2 (.fld 0) [.r 1] none <|
 .q 3 .ld [.r 2] none <|
 .x 4 .rng [.r 3] none [] <|
 .out [(3, .s 3), (9, .r 4)]
def e172r3 : EE := .x 0 .nxt [.s 9] none [] <|
 .q 1 (.ext 0) [.r 0] none <|
 .out [(3, .s 3), (9, .s 9), (11, .r 1)]
def e172r4 : EE := .q 0 .ent [.s 9] none <|
 .q 1 (.ext 0) [.r 0] none <|
 .x 2 (.alc [z, z] 129) [] none [] <|
 .x 3 (.st 2) [.r 2, .r 1] none [] <|
 .out [(3, .s 3), (4, .r 2), (9, .s 9)]
def e172r5 : EE := .q 1 (.lda 2) [.s 4] none <|
 .x 2 (.bsl 129 1 [z, z] [(0, 2)]) [.r 1] none [] <|
 .x 3 (.app 129 2 16 [z, z]) [.s 3, .r 2] none [] <|
 .out [(3, .r 3), (9, .s 9)]
def e172l6 : EC := (.seq (.reg e172r3 [3, 9] 0) (.seq (.cond (.s 11) .skip (.exit 0)) (.block 1 (.seq (.reg e172r4 [3, 9] 0) (.reg e172r5 [3, 4, 9] 0)))))
def e172r7 : EE := .x 1 (.call 253) [.s 3, .f 254] none [] <|
 .out [(3, .s 3)]
def e172r8 : EE := .out [(2, .s 3)]
def e172 : EFn := ⟨(.seq (.reg e172r0 [0] 0) (.seq (.reg e172r1 [0] 0) (.seq (.seq (.reg e172r2 [0, 3] 0) (.block 0 (.loop [3, 9] e172l6))) (.seq (.reg e172r7 [3] 0) (.seq (.reg e172r8 [3] 0) .ret))))), [.slot 2], 21, 0⟩
theorem g172 : Good Tryz.prog 172 e172 := ⟨Tryz.f172, Tryz.func172, by kernel_rfl, by kernel_rfl, by kernel_rfl, by kernel_rfl⟩
/-! slices.Clone[[]*concord/core.wish,*concord/core.wish] -/
def e176r0 : EE := .out [(0, .s 0)]
def e176r1 : EE := .q 1 (.eqs false) [.s 0, .c .nsl] none <|
 .out [(0, .s 0), (4, .r 1)]
def e176r2 : EE := .out [(2, .c .nsl)]
def e176r3 : EE := .x 0 (.bsl 286 0 [] []) [] none [] <|
 .x 2 (.app 286 1 8 [.nptr]) [.r 0, .s 0] none [] <|
 .out [(2, .r 2)]
def e176 : EFn := ⟨(.seq (.reg e176r0 [0] 0) (.seq (.seq (.reg e176r1 [0] 0) (.cond (.s 4) (.seq (.reg e176r2 [] 0) .ret) .skip)) (.seq (.reg e176r3 [0] 0) .ret))), [.slot 2], 8, 0⟩
theorem g176 : Good Tryz.prog 176 e176 := ⟨Tryz.f176, Tryz.func176, by kernel_rfl, by kernel_rfl, by kernel_rfl, by kernel_rfl⟩
/-! (*concord/core.Core).Top -/
def e181r0 : EE := .x 0 (.alc [z, z, z, z, z, z, z] 133) [] none [] <|
 .out [(0, .s 0), (2, .r 0)]
def e181r1 : EE := .q 1 .nl [.s 0] none <|
 .q 2 (.fld 2) [.r 1] none <|
 .q 3 .ld [.r 2] none <|
 .x 4 (.call 263) [.r 3] none [] <|
 .x 5 (.st 7) [.s 2, .r 4] none [] <|
 .out [(2, .s 2)]
def e181 : EFn := ⟨(.seq (.reg e181r0 [0] 0) (.seq (.reg e181r1 [0, 2] 0) .ret)), [.cells 2 7], 8, 0⟩
theorem g181 : Good Tryz.prog 181 e181 := ⟨Tryz.f181, Tryz.func181, by kernel_rfl, by kernel_rfl, by kernel_rfl, by kernel_rfl⟩
/-! (*concord/core.Core).Cut -/
def e182r0 : EE := .x 0 (.alc [z, z, z, z, z, z, z] 133) [] none [] <|
 .out [(0, .s 0), (2, .r 0)]
def e182r1 : EE := .q 1 .nl [.s 0] none <|
 .q 2 (.fld 2) [.r 1] none <|
 .q 3 .ld [.r 2] none <|
 .x 4 (.call 264) [.r 3] none [] <|
 .x 5 (.st 7) [.s 2, .r 4] none [] <|
 .out [(2, .s 2)]
def e182 : EFn := ⟨(.seq (.reg e182r0 [0] 0) (.seq (.reg e182r1 [0, 2] 0) .ret)), [.cells 2 7], 8, 0⟩
theorem g182 : Good Tryz.prog 182 e182 := ⟨Tryz.f182, Tryz.func182, by kernel_rfl, by kernel_rfl, by kernel_rfl, by kernel_rfl⟩
/-! concord/state.copied -/
def e187r0 : EE := .x 0 (.box 146) [.s 0] none [] <|
 .x 1 (.alc [.nsl, z, z, (.bool false), zs, z, .nsl, z, z, (.bool false), zs, z, .nsl, z, z, (.bool false), zs, z, .nsl, z, z, (.bool false), zs, z, .nsl, z, z, (.bool false), zs, z, .nsl, z, z, (.bool false), zs, z, .nsl, z, z, (.bool false), zs, z, .nsl, z, z, (.bool false), zs, z, .nsl] 146) [] none [] <|
 .out [(1, .r 0), (2, .r 1)]
def e187r1 : EE := .q 0 (.fld 0) [.s 1] none <|
 .q 1 .ld [.r 0] none <|
 .q 3 (.fld 1) [.s 1] none <|
 .q 4 (.lda 48) [.r 3] none <|
 .q 5 (.bld [z, (.bool false), zs, z, .nsl] []) [] none <|
 .x 2 (.call 63) [.r 1] none [⟨4, (.lda 48), [.r 3], none⟩] <|
 .x 6 (.call 265) [.r 4, .c z, .c z, .r 5] none [] <|
 .q 7 (.bld [.nsl, z, z, (.bool false), zs, z, .nsl, z, z, (.bool false), zs, z, .nsl, z, z, (.bool false), zs, z, .nsl, z, z, (.bool false), zs, z, .nsl, z, z, (.bool false), zs, z, .nsl, z, z, (.bool false), zs, z, .nsl, z, z, (.bool false), zs, z, .nsl, z, z, (.bool false), zs, z, .nsl] [(0, 1), (1, 48)]) [.r 2, .r 6] none <|
 .x 8 (.st 49) [.s 2, .r 7] none [] <|
 .out [(2, .s 2)]
def e187 : EFn := ⟨(.seq (.reg e187r0 [0] 0) (.seq (.reg e187r1 [1, 2] 0) .ret)), [.cells 2 49], 11, 0⟩
theorem g187 : Good Tryz.prog 187 e187 := ⟨Tryz.f187, Tryz.func187, by kernel_rfl, by kernel_rfl, by kernel_rfl, by kernel_rfl⟩
/-! (*concord/disk.Disk).find -/
def e195r0 : EE := .out [(0, .s 0), (1, .s 1)]
def e195r1 : EE := .q 1 .nl [.s 0] none <|
 .q 2 (.fld 1) [.r 1] none <|
 .q 3 .ld [.r 2] none <|
 .q 4 .len [.r 3] none <|
 .out [(0, .s 0), (1, .s 1), (11, .r 3), (12, .r 4), (13, .c z)]
def e195r2 : EE := .q 0 .lss [.s 13, .s 12] none <|
 .out [(0, .s 0), (1, .s 1), (11, .s 11), (12, .s 12), (13, .s 13), (14, .r 0)]
def e195r3 : EE := .q 1 (.ixs 3) [.s 11, .s 13] none <|
 .q 2 (.lda 3) [.r 1] none <|
 .x 3 (.alc [zs, .nsl, z] 202) [] none [] <|
 .x 5 (.st 3) [.r 3, .r 2] none [] <|
 .out [(0, .s 0), (1, .s 1), (6, .s 13), (7, .r 3), (11, .s 11), (12, .s 12), (13, .s 13)]
def e195r4 : EE := .q 0 (.fld 0) [.s 7] none <|
 .q 1 .ld [.r 0] none <|
 .q 3 .sgeq [.r 1, .s 1] none <|
 .out [(0, .s 0), (1, .s 1), (6, .s 6), (7, .s 7), (11, .s 11), (12, .s 12), (13, .s 13), (21, .r 3)]
def e195r5 : EE := .q 1 (.fld 0) [.s 7] none <|
 .q 2 .ld [.r 1] none <|
 .q 4 .seql [.r 2, .s 1] none <|
 .out [(4, .s 6), (5, .r 4)]
def e195r6 : EE := .q 0 .add [.s 13, .c (.int .i64 1)] none <|
 .out [(0, .s 0), (1, .s 1), (11, .s 11), (12, .s 12), (13, .r 0)]
def e195l7 : EC := (.seq (.reg e195r2 [0, 1, 11, 12, 13] 0) (.seq (.cond (.s 14) .skip (.exit 0)) (.seq (.block 1 (.seq (.reg e195r3 [0, 1, 11, 12, 13] 0) (.seq (.reg e195r4 [0, 1, 6, 7, 11, 12, 13] 0) (.cond (.s 21) (.seq (.reg e195r5 [1, 6, 7] 0) .ret) .skip)))) (.reg e195r6 [0, 1, 11, 12, 13] 0))))
def e195r8 : EE := .q 1 .nl [.s 0] none <|
 .q 2 (.fld 1) [.r 1] none <|
 .q 3 .ld [.r 2] none <|
 .q 4 .len [.r 3] none <|
 .out [(4, .r 4), (5, .c (.bool false))]
def e195 : EFn := ⟨(.seq (.reg e195r0 [0, 1] 0) (.seq (.seq (.reg e195r1 [0, 1] 0) (.block 0 (.loop [0, 1, 11, 12, 13] e195l7))) (.seq (.reg e195r8 [0] 0) .ret))), [.slot 4, .slot 5], 33, 0⟩
theorem g195 : Good Tryz.prog 195 e195 := ⟨Tryz.f195, Tryz.func195, by kernel_rfl, by kernel_rfl, by kernel_rfl, by kernel_rfl⟩
/-! concord/sum.Of -/
def e197r0 : EE := .out [(0, .s 0)]
def e197r1 : EE := .x 1 (.call 270) [.c (.int .u32 0), .s 0] none [] <|
 .out [(2, .r 1)]
def e197 : EFn := ⟨(.seq (.reg e197r0 [0] 0) (.seq (.reg e197r1 [0] 0) .ret)), [.slot 2], 5, 0⟩
theorem g197 : Good Tryz.prog 197 e197 := ⟨Tryz.f197, Tryz.func197, by kernel_rfl, by kernel_rfl, by kernel_rfl, by kernel_rfl⟩
/-! (*concord/disk.Disk).known -/
def e202r0 : EE := .out [(0, .s 0), (1, .s 1)]
def e202r1 : EE := .q 1 .nl [.s 0] none <|
 .q 2 (.fld 2) [.r 1] none <|
 .q 3 .ld [.r 2] none <|
 .out [(0, .s 0), (1, .s 1), (11, .r 3)]
def e202r2 : EE := .out [(4, .c z), (5, .c (.int .i64 10))]
def e202r3 : EE := .x 2 (.call 195) [.s 0, .s 1] none [] <|
 .q 4 (.ext 0) [.r 2] none <|
 .q 5 (.ext 1) [.r 2] none <|
 .out [(6, .r 4), (7, .r 5)]
def e202r4 : EE := .q 1 .not [.s 7] none <|
 .out [(6, .s 6), (19, .r 1)]
def e202r5 : EE := .out [(4, .c z), (5, .c (.int .i64 8))]
def e202r6 : EE := .out [(4, .s 6), (5, .c z)]
def e202 : EFn := ⟨(.seq (.reg e202r0 [0, 1] 0) (.seq (.seq (.reg e202r1 [0, 1] 0) (.cond (.s 11) (.seq (.reg e202r2 [] 0) .ret) .skip)) (.seq (.reg e202r3 [0, 1] 0) (.seq (.seq (.reg e202r4 [6, 7] 0) (.cond (.s 19) (.seq (.reg e202r5 [] 0) .ret) .skip)) (.seq (.reg e202r6 [6] 0) .ret))))), [.slot 4, .slot 5], 21, 0⟩
theorem g202 : Good Tryz.prog 202 e202 := ⟨Tryz.f202, Tryz.func202, by kernel_rfl, by kernel_rfl, by kernel_rfl, by kernel_rfl⟩
/-! (*concord/disk.Disk).power -/
def e203r0 : EE := .out [(0, .s 0)]
def e203r1 : EE := .q 1 .nl [.s 0] none <|
 .q 2 (.fld 3) [.r 1] none <|
 .q 3 .ld [.r 2] none <|
 .q 5 .mv [.s 0] (some (.r 3, true)) <|
 .q 6 .nl [.r 5] (some (.r 3, true)) <|
 .q 7 (.fld 4) [.r 6] (some (.r 3, true)) <|
 .q 8 .ld [.r 7] (some (.r 3, true)) <|
 .q 9 .eql [.r 8, .c z] (some (.r 3, true)) <|
 .q 10 .pick [.r 3, .r 9, .c (.bool false)] none <|
 .out [(0, .s 0), (13, .r 10)]
def e203r2 : EE := .q 1 .nl [.s 0] none <|
 .q 2 (.fld 2) [.r 1] none <|
 .x 3 (.st 1) [.r 2, .c (.bool true)] none [] <|
 .out []
def e203r3 : EE := .out [(2, .c (.int .i64 10))]
def e203r4 : EE := .q 1 .nl [.s 0] none <|
 .q 2 (.fld 3) [.r 1] none <|
 .q 3 .ld [.r 2] none <|
 .out [(0, .s 0), (20, .r 3)]
def e203r5 : EE := .q 1 .nl [.s 0] none <|
 .q 2 (.fld 4) [.r 1] none <|
 .q 3 .ld [.r 2] none <|
 .q 4 .sub [.r 3, .c (.int .i64 1)] none <|
 .q 5 .nl [.s 0] none <|
 .q 6 (.fld 4) [.r 5] none <|
 .x 7 (.st 1) [.r 6, .r 4] none [] <|
 .out []
def e203r6 : EE := .out [(2, .c z)]
def e203 : EFn := ⟨(.seq (.reg e203r0 [0] 0) (.seq (.seq (.reg e203r1 [0] 0) (.cond (.s 13) (.seq (.reg e203r2 [0] 0) (.seq (.reg e203r3 [] 0) .ret)) .skip)) (.seq (.seq (.reg e203r4 [0] 0) (.cond (.s 20) (.reg e203r5 [0] 0) .skip)) (.seq (.reg e203r6 [] 0) .ret)))), [.slot 2], 28, 0⟩
theorem g203 : Good Tryz.prog 203 e203 := ⟨Tryz.f203, Tryz.func203, by kernel_rfl, by kernel_rfl, by kernel_rfl, by kernel_rfl⟩
/-! (*concord/disk.Disk).Names -/
def e205r0 : EE := .out [(0, .s 0)]
def e205r1 : EE := .out [(0, .s 0), (3, .c .nsl)]
def e205r2 : EE := .q 1 .nl [.s 0] none <|
 .q 2 (.fld 1) [.r 1] none <|
 .q 3 .ld [.r 2] none <|
 .q 4 .len [.r 3] none <|
 .out [(3, .s 3), (9, .r 3), (10, .r 4), (11, .c z)]
def e205r3 : EE := .q 0 .lss [.s 11, .s 10] none <|
 .out [(3, .s 3), (9, .s 9), (10, .s 10), (11, .s 11), (12, .r 0)]
def e205r4 : EE := .q 0 (.ixs 3) [.s 9, .s 11] none <|
 .q 1 (.lda 3) [.r 0] none <|
 .x 2 (.alc [zs, .nsl, z] 202) [] none [] <|
 .x 3 (.st 3) [.r 2, .r 1] none [] <|
 .out [(3, .s 3), (5, .r 2), (9, .s 9), (10, .s 10), (11, .s 11)]
def e205r5 : EE := .q 1 (.fld 0) [.s 5] none <|
 .q 2 .ld [.r 1] none <|
 .x 3 (.bsl 9 1 [zs] [(0, 1)]) [.r 2] none [] <|
 .x 4 (.app 9 1 16 [zs]) [.s 3, .r 3] none [] <|
 .out [(3, .r 4), (9, .s 9), (10, .s 10), (11, .s 11)]
def e205r6 : EE := .q 0 .add [.s 11, .c (.int .i64 1)] none <|
 .out [(3, .s 3), (9, .s 9), (10, .s 10), (11, .r 0)]
def e205l7 : EC := (.seq (.reg e205r3 [3, 9, 10, 11] 0) (.seq (.cond (.s 12) .skip (.exit 0)) (.seq (.block 1 (.seq (.reg e205r4 [3, 9, 10, 11] 0) (.reg e205r5 [3, 5, 9, 10, 11] 0))) (.reg e205r6 [3, 9, 10, 11] 0))))
def e205r8 : EE := .out [(2, .s 3)]
def e205 : EFn := ⟨(.seq (.reg e205r0 [0] 0) (.seq (.reg e205r1 [0] 0) (.seq (.seq (.reg e205r2 [0, 3] 0) (.block 0 (.loop [3, 9, 10, 11] e205l7))) (.seq (.reg e205r8 [3] 0) .ret)))), [.slot 2], 22, 0⟩
theorem g205 : Good Tryz.prog 205 e205 := ⟨Tryz.f205, Tryz.func205, by kernel_rfl, by kernel_rfl, by kernel_rfl, by kernel_rfl⟩
/-! concord/pack.grown -/
def e208r0 : EE := .out [(0, .s 0), (1, .s 1)]
def e208r1 : EE := .q 1 .len [.s 0] none <|
 .q 3 .add [.r 1, .s 1] none <|
 .x 4 (.mks 5 1 [(.int .u8 0)]) [.c z, .r 3] none [] <|
 .x 6 (.app 5 1 1 [(.int .u8 0)]) [.r 4, .s 0] none [] <|
 .out [(4, .r 6)]
def e208 : EFn := ⟨(.seq (.reg e208r0 [0, 1] 0) (.seq (.reg e208r1 [0, 1] 0) .ret)), [.slot 4], 12, 0⟩
theorem g208 : Good Tryz.prog 208 e208 := ⟨Tryz.f208, Tryz.func208, by kernel_rfl, by kernel_rfl, by kernel_rfl, by kernel_rfl⟩
/-! (*concord/log.Log).Trim -/
def e211r0 : EE := .x 0 (.box 133) [.s 1] none [] <|
 .out [(0, .s 0), (3, .r 0)]
def e211r1 : EE := .q 0 (.lda 7) [.s 3] none <|
 .out [(0, .s 0), (7, .r 0), (8, .c z)]
def e211r2 : EE := .q 0 .lss [.s 8, .c (.int .i64 7)] none <|
 .out [(0, .s 0), (7, .s 7), (8, .s 8), (9, .r 0)]
def e211r3 : EE := .q 1 (.idx 7 1) [.s 7, .s 8] none <|
 .out [(0, .s 0), (4, .s 8), (5, .r 1), (7, .s 7), (8, .s 8)]
def e211r4 : EE := .q 4 .nl [.s 0] none <|
 .q 5 (.fld 1) [.r 4] none <|
 .q 6 (.ixa 7 1) [.r 5, .s 4] none <|
 .q 7 .ld [.r 6] none <|
 .q 9 .mx [.s 5, .c z] none <|
 .q 10 .mn [.r 9, .c (.int .i64 1073741824)] none <|
 .q 11 .mx [.r 7, .r 10] none <|
 .q 12 .nl [.s 0] none <|
 .q 13 (.fld 1) [.r 12] none <|
 .q 14 (.ixa 7 1) [.r 13, .s 4] none <|
 .x 15 (.st 1) [.r 14, .r 11] none [] <|
 .out [(0, .s 0), (7, .s 7), (8, .s 8)]
def e211r5 : EE := .q 0 .add [.s 8, .c (.int .i64 1)] none <|
 .out [(0, .s 0), (7, .s 7), (8, .r 0)]
def e211l6 : EC := (.seq (.reg e211r2 [0, 7, 8] 0) (.seq (.cond (.s 9) .skip (.exit 0)) (.seq (.block 1 (.seq (.reg e211r3 [0, 7, 8] 0) (.reg e211r4 [0, 4, 5, 7, 8] 0))) (.reg e211r5 [0, 7, 8] 0))))
def e211r7 : EE := .q 1 .nl [.s 0] none <|
 .q 2 (.fld 0) [.r 1] none <|
 .q 3 .ld [.r 2] none <|
 .x 4 .rng [.r 3] none [] <|
 .out [(0, .s 0), (32, .r 4)]
def e211r8 : EE := .x 0 .nxt [.s 32] none [] <|
 .q 1 (.ext 0) [.r 0] none <|
 .out [(0, .s 0), (32, .s 32), (34, .r 1)]
def e211r9 : EE := .q 0 .ent [.s 32] none <|
 .q 1 (.ext 0) [.r 0] none <|
 .x 2 (.alc [z, z] 129) [] none [] <|
 .x 3 (.st 2) [.r 2, .r 1] none [] <|
 .out [(0, .s 0), (6, .r 2), (32, .s 32)]
def e211r10 : EE := .q 1 (.lda 2) [.s 6] none <|
 .x 2 (.call 213) [.s 0, .r 1] none [] <|
 .out [(0, .s 0), (6, .s 6), (32, .s 32), (39, .r 2)]
def e211r11 : EE := .q 1 .nl [.s 0] none <|
 .q 2 (.fld 0) [.r 1] none <|
 .q 3 .ld [.r 2] none <|
 .q 4 (.lda 2) [.s 6] none <|
 .x 5 (.dlt true [(.i .i64), (.i .i64)]) [.r 3, .r 4] none [] <|
 .out [(0, .s 0), (32, .s 32)]
def e211l12 : EC := (.seq (.reg e211r8 [0, 32] 0) (.seq (.cond (.s 34) .skip (.exit 2)) (.block 3 (.seq (.reg e211r9 [0, 32] 0) (.seq (.reg e211r10 [0, 6, 32] 0) (.cond (.s 39) (.reg e211r11 [0, 6, 32] 0) .skip))))))
def e211 : EFn := ⟨(.seq (.reg e211r0 [0, 1] 0) (.seq (.seq (.reg e211r1 [0, 3] 0) (.block 0 (.loop [0, 7, 8] e211l6))) (.seq (.reg e211r7 [0] 0) (.block 2 (.loop [0, 32] e211l12))))), [], 45, 0⟩
theorem g211 : Good Tryz.prog 211 e211 := ⟨Tryz.f211, Tryz.func211, by kernel_rfl, by kernel_rfl, by kernel_rfl, by kernel_rfl⟩
/-! concord/word.Put -/
def e217r0 : EE := .out [(0, .s 0), (1, .s 1), (2, .s 2)]
def e217r1 : EE := .q 1 .len [.s 0] none <|
 .q 2 .add [.r 1, .c (.int .i64 8)] none <|
 .x 3 (.mks 5 1 [(.int .u8 0)]) [.c z, .r 2] none [] <|
 .x 5 (.app 5 1 1 [(.int .u8 0)]) [.r 3, .s 0] none [] <|
 .out [(1, .s 1), (2, .s 2), (7, .r 5)]
def e217r2 : EE := .q 1 .mx [.s 1, .c z] none <|
 .q 2 .mn [.r 1, .c (.int .i64 8)] none <|
 .out [(2, .s 2), (7, .s 7), (16, .r 2), (17, .c z)]
def e217r3 : EE := .q 0 .lss [.s 17, .s 16] none <|
 .out [(2, .s 2), (7, .s 7), (16, .s 16), (17, .s 17), (18, .r 0)]
def e217r4 : EE := .q 2 (.conv .u8) [.s 2] none <|
 .x 3 (.bsl 5 1 [(.int .u8 0)] [(0, 1)]) [.r 2] none [] <|
 .x 4 (.app 5 1 1 [(.int .u8 0)]) [.s 7, .r 3] none [] <|
 .out [(2, .s 2), (7, .r 4), (16, .s 16), (17, .s 17)]
def e217r5 : EE := .q 1 .shr [.s 2, .c (.int .u64 8)] none <|
 .out [(2, .r 1), (7, .s 7), (16, .s 16), (17, .s 17)]
def e217r6 : EE := .q 0 .add [.s 17, .c (.int .i64 1)] none <|
 .out [(2, .s 2), (7, .s 7), (16, .s 16), (17, .r 0)]
def e217l7 : EC := (.seq (.reg e217r3 [2, 7, 16, 17] 0) (.seq (.cond (.s 18) .skip (.exit 0)) (.seq (.block 1 (.seq (.reg e217r4 [2, 7, 16, 17] 0) (.reg e217r5 [2, 7, 16, 17] 0))) (.reg e217r6 [2, 7, 16, 17] 0))))
def e217r8 : EE := .out [(6, .s 7)]
def e217 : EFn := ⟨(.seq (.reg e217r0 [0, 1, 2] 0) (.seq (.reg e217r1 [0, 1, 2] 0) (.seq (.seq (.reg e217r2 [1, 2, 7] 0) (.block 0 (.loop [2, 7, 16, 17] e217l7))) (.seq (.reg e217r8 [7] 0) .ret)))), [.slot 6], 28, 0⟩
theorem g217 : Good Tryz.prog 217 e217 := ⟨Tryz.f217, Tryz.func217, by kernel_rfl, by kernel_rfl, by kernel_rfl, by kernel_rfl⟩
/-! concord/pack.num -/
def e218r0 : EE := .out [(0, .s 0), (1, .s 1)]
def e218r1 : EE := .x 1 (.call 280) [.s 1] none [] <|
 .out [(0, .s 0), (5, .r 1)]
def e218r2 : EE := .q 1 .geq [.s 5, .c (.int .u64 128)] none <|
 .out [(0, .s 0), (5, .s 5), (9, .r 1)]
def e218r3 : EE := .q 2 (.conv .u8) [.s 5] none <|
 .q 3 .or [.r 2, .c (.int .u8 128)] none <|
 .x 4 (.bsl 5 1 [(.int .u8 0)] [(0, 1)]) [.r 3] none [] <|
 .x 5 (.app 5 1 1 [(.int .u8 0)]) [.s 0, .r 4] none [] <|
 .out [(0, .r 5), (5, .s 5)]
def e218r4 : EE := .q 1 .shr [.s 5, .c (.int .u64 7)] none <|
 .out [(0, .s 0), (5, .r 1)]
def e218l5 : EC := (.seq (.seq (.reg e218r2 [0, 5] 0) (.cond (.s 9) .skip (.exit 0))) (.block 1 (.seq (.reg e218r3 [0, 5] 0) (.reg e218r4 [0, 5] 0))))
def e218r6 : EE := .q 2 (.conv .u8) [.s 5] none <|
 .x 3 (.bsl 5 1 [(.int .u8 0)] [(0, 1)]) [.r 2] none [] <|
 .x 4 (.app 5 1 1 [(.int .u8 0)]) [.s 0, .r 3] none [] <|
 .out [(4, .r 4)]
def e218 : EFn := ⟨(.seq (.reg e218r0 [0, 1] 0) (.seq (.reg e218r1 [0, 1] 0) (.seq (.block 0 (.loop [0, 5] e218l5)) (.seq (.reg e218r6 [0, 5] 0) .ret)))), [.slot 4], 23, 0⟩
theorem g218 : Good Tryz.prog 218 e218 := ⟨Tryz.f218, Tryz.func218, by kernel_rfl, by kernel_rfl, by kernel_rfl, by kernel_rfl⟩
/-! (*concord/disk.Disk).Append -/
def e219r0 : EE := .out [(0, .s 0), (1, .s 1), (2, .s 2)]
def e219r1 : EE := .q 1 .nl [.s 0] none <|
 .q 2 (.fld 2) [.r 1] none <|
 .q 3 .ld [.r 2] none <|
 .out [(0, .s 0), (1, .s 1), (2, .s 2), (10, .r 3)]
def e219r2 : EE := .out [(6, .c (.int .i64 10))]
def e219r3 : EE := .x 1 (.call 281) [.s 1] none [] <|
 .q 2 .not [.r 1] none <|
 .out [(0, .s 0), (1, .s 1), (2, .s 2), (15, .r 2)]
def e219r4 : EE := .out [(6, .c (.int .i64 11))]
def e219r5 : EE := .q 1 .len [.s 2] none <|
 .x 3 (.call 282) [.s 0] none [] <|
 .q 4 .gtr [.r 1, .r 3] none <|
 .out [(0, .s 0), (1, .s 1), (2, .s 2), (19, .r 4)]
def e219r6 : EE := .out [(6, .c (.int .i64 7))]
def e219r7 : EE := .x 1 (.call 203) [.s 0] none [] <|
 .out [(0, .s 0), (1, .s 1), (2, .s 2), (7, .r 1)]
def e219r8 : EE := .q 1 .neq [.s 7, .c z] none <|
 .out [(0, .s 0), (1, .s 1), (2, .s 2), (7, .s 7), (28, .r 1)]
def e219r9 : EE := .out [(6, .s 7)]
def e219r10 : EE := .x 2 (.call 195) [.s 0, .s 1] none [] <|
 .q 4 (.ext 0) [.r 2] none <|
 .q 5 (.ext 1) [.r 2] none <|
 .out [(0, .s 0), (1, .s 1), (2, .s 2), (8, .r 4), (9, .r 5)]
def e219r11 : EE := .q 1 .not [.s 9] none <|
 .out [(0, .s 0), (1, .s 1), (2, .s 2), (8, .s 8), (37, .r 1)]
def e219r12 : EE := .q 2 .nl [.s 0] none <|
 .q 3 (.fld 1) [.r 2] none <|
 .q 4 .ld [.r 3] none <|
 .q 7 (.bld [zs, .nsl, z] [(0, 1)]) [.s 1] none <|
 .x 8 (.bsl 202 1 [zs, .nsl, z] [(0, 3)]) [.r 7] none [] <|
 .x 9 (.call 283) [.r 4, .s 8, .r 8] none [] <|
 .q 10 .nl [.s 0] none <|
 .q 11 (.fld 1) [.r 10] none <|
 .x 12 (.st 1) [.r 11, .r 9] none [] <|
 .out [(0, .s 0), (2, .s 2), (8, .s 8)]
def e219r13 : EE := .q 1 .nl [.s 0] none <|
 .q 2 (.fld 1) [.r 1] none <|
 .q 3 .ld [.r 2] none <|
 .q 6 .nl [.s 0] none <|
 .q 7 (.fld 1) [.r 6] none <|
 .q 8 .ld [.r 7] none <|
 .q 10 (.ixs 3) [.r 8, .s 8] none <|
 .q 11 (.fld 1) [.r 10] none <|
 .q 12 .ld [.r 11] none <|
 .x 14 (.bsl 60 2 [.nsl, .nsl] [(0, 1), (1, 1)]) [.r 12, .s 2] none [⟨3, .ld, [.r 2], none⟩] <|
 .x 15 (.call 284) [.r 14] none [⟨3, .ld, [.r 2], none⟩] <|
 .q 16 (.ixs 3) [.r 3, .s 8] none <|
 .q 17 (.fld 1) [.r 16] none <|
 .x 18 (.st 1) [.r 17, .r 15] none [] <|
 .out []
def e219r14 : EE := .out [(6, .c z)]
def e219 : EFn := ⟨(.seq (.reg e219r0 [0, 1, 2] 0) (.seq (.block 0 (.seq (.reg e219r1 [0, 1, 2] 0) (.cond (.s 10) (.seq (.reg e219r2 [] 0) .ret) (.seq (.reg e219r3 [0, 1, 2] 0) (.cond (.s 15) (.seq (.reg e219r4 [] 0) .ret) (.seq (.reg e219r5 [0, 1, 2] 0) (.cond (.s 19) (.seq (.reg e219r6 [] 0) .ret) .skip))))))) (.seq (.seq (.reg e219r7 [0, 1, 2] 0) (.seq (.reg e219r8 [0, 1, 2, 7] 0) (.cond (.s 28) (.seq (.reg e219r9 [7] 0) .ret) .skip))) (.seq (.reg e219r10 [0, 1, 2] 0) (.seq (.seq (.reg e219r11 [0, 1, 2, 8, 9] 0) (.cond (.s 37) (.reg e219r12 [0, 1, 2, 8] 0) .skip)) (.seq (.reg e219r13 [0, 2, 8] 0) (.seq (.reg e219r14 [] 0) .ret))))))), [.slot 6], 68, 0⟩
theorem g219 : Good Tryz.prog 219 e219 := ⟨Tryz.f219, Tryz.func219, by kernel_rfl, by kernel_rfl, by kernel_rfl, by kernel_rfl⟩
/-! (*concord/core.Core).Drain -/
def e220r0 : EE := .out [(0, .s 0)]
def e220r1 : EE := .q 1 .nl [.s 0] none <|
 .q 2 (.fld 6) [.r 1] none <|
 .q 3 .ld [.r 2] none <|
 .q 5 .nl [.s 0] none <|
 .q 6 (.fld 7) [.r 5] none <|
 .q 7 .ld [.r 6] none <|
 .out [(0, .s 0), (4, .r 3), (5, .r 7)]
def e220r2 : EE := .q 2 .nl [.s 0] none <|
 .q 3 (.fld 6) [.r 2] none <|
 .x 4 (.st 1) [.r 3, .c .nsl] none [] <|
 .q 5 .nl [.s 0] none <|
 .q 6 (.fld 7) [.r 5] none <|
 .x 7 (.st 1) [.r 6, .c .nsl] none [] <|
 .out [(4, .s 4), (5, .s 5)]
def e220r3 : EE := .out [(2, .s 4), (3, .s 5)]
def e220 : EFn := ⟨(.seq (.reg e220r0 [0] 0) (.seq (.reg e220r1 [0] 0) (.seq (.reg e220r2 [0, 4, 5] 0) (.seq (.reg e220r3 [4, 5] 0) .ret)))), [.slot 2, .slot 3], 22, 0⟩
theorem g220 : Good Tryz.prog 220 e220 := ⟨Tryz.f220, Tryz.func220, by kernel_rfl, by kernel_rfl, by kernel_rfl, by kernel_rfl⟩
end Go.Ev
