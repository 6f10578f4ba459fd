import Derived.Test.YtkdlojagpocnoaaGreatDoorEvB
import Derived.Test.YtkdlojagpocnoaaGreatDoorProg
set_option linter.unusedVariables false
namespace Go.Ev
open Go.Fw Go.Proofs
/-! (*concord/node.Node).committed -/
def e192r0 : EE := .out [(0, .s 0)]
def e192r1 : EE := .out [(0, .s 0), (3, .c .nsl)]
def e192r2 : EE := .q 1 .nl [.s 0] none <|
 .q 2 (.fld 4) [.r 1] none <|
 .q 3 .ld [.r 2] none <|
 .x 4 (.call 119) [.r 3] none [] <|
 .q 5 .len [.r 4] none <|
 .out [(0, .s 0), (3, .s 3), (12, .r 4), (13, .r 5), (14, .c z)]
def e192r3 : EE := .q 0 .lss [.s 14, .s 13] none <|
 .out [(0, .s 0), (3, .s 3), (12, .s 12), (13, .s 13), (14, .s 14), (15, .r 0)]
def e192r4 : EE := .q 0 (.ixs 2) [.s 12, .s 14] none <|
 .q 1 (.lda 2) [.r 0] none <|
 .x 2 (.alc [z, z] 40) [] none [] <|
 .x 3 (.st 2) [.r 2, .r 1] none [] <|
 .out [(0, .s 0), (3, .s 3), (5, .r 2), (12, .s 12), (13, .s 13), (14, .s 14)]
def e192r5 : EE := .q 1 .nl [.s 0] none <|
 .q 2 (.fld 4) [.r 1] none <|
 .q 3 .ld [.r 2] none <|
 .q 4 (.lda 2) [.s 5] none <|
 .both false
 (.x 5 (.call 120) [.r 3, .r 4] none [] <|
 .q 7 (.ext 0) [.r 5] none <|
 .q 8 (.ext 1) [.r 5] none <|
 .x 9 (.alc [z, z, z, z, z, z, z, z, zs, zs, zs, zs, z, z, z, z, z, z, z, z, (.bool false)] 48) [] none [⟨3, .ld, [.r 2], none⟩, ⟨4, (.lda 2), [.s 5], none⟩] <|
 .x 10 (.st 21) [.r 9, .r 7] none [] <|
 .out [(0, .s 0), (3, .s 3), (5, .s 5), (6, .r 9), (12, .s 12), (13, .s 13), (14, .s 14)])
 (.x 9 (.alc [z, z, z, z, z, z, z, z, zs, zs, zs, zs, z, z, z, z, z, z, z, z, (.bool false)] 48) [] none [⟨3, .ld, [.r 2], none⟩, ⟨4, (.lda 2), [.s 5], none⟩] <|
 .x 5 (.call 120) [.r 3, .r 4] none [] <|
 .q 7 (.ext 0) [.r 5] none <|
 .q 8 (.ext 1) [.r 5] none <|
 .x 10 (.st 21) [.r 9, .r 7] none [] <|
 .out [(0, .s 0), (3, .s 3), (5, .s 5), (6, .r 9), (12, .s 12), (13, .s 13), (14, .s 14)])
def e192r6 : EE := .q 0 (.fld 1) [.s 5] none <|
 .q 1 .ld [.r 0] none <|
 .q 3 (.fld 0) [.s 5] none <|
 .q 4 .ld [.r 3] none <|
 .q 5 .nl [.s 0] none <|
 .q 6 (.fld 55) [.r 5] none <|
 .q 7 (.ixa 7 1) [.r 6, .r 4] none <|
 .q 8 .ld [.r 7] none <|
 .q 9 .gtr [.r 1, .r 8] none <|
 .q 11 (.fld 0) [.s 6] (some (.r 9, true)) <|
 .q 12 .ld [.r 11] (some (.r 9, true)) <|
 .q 13 .eql [.r 12, .c (.int .i64 3)] (some (.r 9, true)) <|
 .q 14 .pick [.r 9, .r 13, .c (.bool false)] none <|
 .out [(0, .s 0), (3, .s 3), (5, .s 5), (6, .s 6), (12, .s 12), (13, .s 13), (14, .s 14), (41, .r 14)]
def e192r7 : EE := .q 1 (.lda 2) [.s 5] none <|
 .q 2 (.lda 21) [.s 6] none <|
 .q 3 (.bld [z, z, z, z, z, z, z, z, z, z, zs, zs, zs, zs, z, z, z, z, z, z, z, z, (.bool false)] [(0, 2), (2, 21)]) [.r 1, .r 2] none <|
 .x 4 (.bsl 311 1 [z, z, z, z, z, z, z, z, z, z, zs, zs, zs, zs, z, z, z, z, z, z, z, z, (.bool false)] [(0, 23)]) [.r 3] none [] <|
 .x 5 (.app 311 23 216 [z, z, z, z, z, z, z, z, z, z, zs, zs, zs, zs, z, z, z, z, z, z, z, z, (.bool false)]) [.s 3, .r 4] none [] <|
 .out [(0, .s 0), (3, .r 5), (12, .s 12), (13, .s 13), (14, .s 14)]
def e192r8 : EE := .q 0 .add [.s 14, .c (.int .i64 1)] none <|
 .out [(0, .s 0), (3, .s 3), (12, .s 12), (13, .s 13), (14, .r 0)]
def e192l9 : EC := (.seq (.reg e192r3 [0, 3, 12, 13, 14] 0) (.seq (.cond (.s 15) .skip (.exit 0)) (.seq (.block 1 (.seq (.reg e192r4 [0, 3, 12, 13, 14] 0) (.seq (.reg e192r5 [0, 3, 5, 12, 13, 14] 11) (.seq (.reg e192r6 [0, 3, 5, 6, 12, 13, 14] 0) (.cond (.s 41) (.reg e192r7 [0, 3, 5, 6, 12, 13, 14] 0) .skip))))) (.reg e192r8 [0, 3, 12, 13, 14] 0))))
def e192r10 : EE := .out [(2, .s 3)]
def e192 : EFn := ⟨(.seq (.reg e192r0 [0] 0) (.seq (.reg e192r1 [0] 0) (.seq (.seq (.reg e192r2 [0, 3] 0) (.block 0 (.loop [0, 3, 12, 13, 14] e192l9))) (.seq (.reg e192r10 [3] 0) .ret)))), [.slot 2], 50, 0⟩
theorem g192 : Good Tryz.prog 192 e192 := ⟨Tryz.f192, Tryz.func192, by kernel_rfl, by kernel_rfl, by kernel_rfl, by kernel_rfl⟩
/-! (*concord/front.Fronts).Stable -/
def e196r0 : EE := .x 0 (.alc [z, z, z, z, z, z, z] 44) [] none [] <|
 .out [(0, .s 0), (2, .r 0)]
def e196r1 : EE := .q 2 .nl [.s 0] none <|
 .q 3 (.fld 1) [.r 2] none <|
 .q 4 .ld [.r 3] none <|
 .q 5 .nl [.s 0] none <|
 .q 6 (.fld 2) [.r 5] none <|
 .q 7 (.ixa 7 7) [.r 6, .r 4] none <|
 .q 8 (.lda 7) [.r 7] none <|
 .x 9 (.alc [z, z, z, z, z, z, z] 44) [] none [⟨4, .ld, [.r 3], none⟩, ⟨8, (.lda 7), [.r 7], none⟩] <|
 .x 10 (.st 7) [.r 9, .r 8] none [] <|
 .out [(0, .s 0), (2, .s 2), (3, .r 9)]
def e196r2 : EE := .q 1 .nl [.s 0] none <|
 .q 2 (.fld 0) [.r 1] none <|
 .q 3 .ld [.r 2] none <|
 .out [(0, .s 0), (2, .s 2), (3, .s 3), (19, .r 3), (20, .c z)]
def e196r3 : EE := .q 0 .lss [.s 20, .s 19] none <|
 .out [(0, .s 0), (2, .s 2), (3, .s 3), (19, .s 19), (20, .s 20), (21, .r 0)]
def e196r4 : EE := .out [(0, .s 0), (2, .s 2), (3, .s 3), (4, .s 20), (19, .s 19), (20, .s 20)]
def e196r5 : EE := .q 2 .nl [.s 0] none <|
 .q 3 (.fld 2) [.r 2] none <|
 .q 4 (.ixa 7 7) [.r 3, .s 4] none <|
 .q 5 (.lda 7) [.r 4] none <|
 .out [(0, .s 0), (2, .s 2), (3, .s 3), (19, .s 19), (20, .s 20), (28, .r 5), (29, .c z)]
def e196r6 : EE := .q 0 .lss [.s 29, .c (.int .i64 7)] none <|
 .out [(0, .s 0), (2, .s 2), (3, .s 3), (19, .s 19), (20, .s 20), (28, .s 28), (29, .s 29), (30, .r 0)]
def e196r7 : EE := .q 1 (.idx 7 1) [.s 28, .s 29] none <|
 .out [(0, .s 0), (2, .s 2), (3, .s 3), (5, .s 29), (6, .r 1), (19, .s 19), (20, .s 20), (28, .s 28), (29, .s 29)]
def e196r8 : EE := .q 2 (.ixa 7 1) [.s 3, .s 5] none <|
 .q 3 .ld [.r 2] none <|
 .q 5 .mn [.r 3, .s 6] none <|
 .q 6 (.ixa 7 1) [.s 3, .s 5] none <|
 .x 7 (.st 1) [.r 6, .r 5] none [] <|
 .out [(0, .s 0), (2, .s 2), (3, .s 3), (19, .s 19), (20, .s 20), (28, .s 28), (29, .s 29)]
def e196r9 : EE := .q 0 .add [.s 29, .c (.int .i64 1)] none <|
 .out [(0, .s 0), (2, .s 2), (3, .s 3), (19, .s 19), (20, .s 20), (28, .s 28), (29, .r 0)]
def e196l10 : EC := (.seq (.reg e196r6 [0, 2, 3, 19, 20, 28, 29] 0) (.seq (.cond (.s 30) .skip (.exit 2)) (.seq (.block 3 (.seq (.reg e196r7 [0, 2, 3, 19, 20, 28, 29] 0) (.reg e196r8 [0, 2, 3, 5, 6, 19, 20, 28, 29] 0))) (.reg e196r9 [0, 2, 3, 19, 20, 28, 29] 0))))
def e196r11 : EE := .q 0 .add [.s 20, .c (.int .i64 1)] none <|
 .out [(0, .s 0), (2, .s 2), (3, .s 3), (19, .s 19), (20, .r 0)]
def e196l12 : EC := (.seq (.reg e196r3 [0, 2, 3, 19, 20] 0) (.seq (.cond (.s 21) .skip (.exit 0)) (.seq (.block 1 (.seq (.reg e196r4 [0, 2, 3, 19, 20] 0) (.seq (.reg e196r5 [0, 2, 3, 4, 19, 20] 0) (.block 2 (.loop [0, 2, 3, 19, 20, 28, 29] e196l10))))) (.reg e196r11 [0, 2, 3, 19, 20] 0))))
def e196r13 : EE := .q 0 (.lda 7) [.s 3] none <|
 .x 1 (.st 7) [.s 2, .r 0] none [] <|
 .out [(2, .s 2)]
def e196 : EFn := ⟨(.seq (.reg e196r0 [0] 0) (.seq (.reg e196r1 [0, 2] 0) (.seq (.seq (.reg e196r2 [0, 2, 3] 0) (.block 0 (.loop [0, 2, 3, 19, 20] e196l12))) (.seq (.reg e196r13 [2, 3] 0) .ret)))), [.cells 2 7], 43, 0⟩
theorem g196 : Good Tryz.prog 196 e196 := ⟨Tryz.f196, Tryz.func196, by kernel_rfl, by kernel_rfl, by kernel_rfl, by kernel_rfl⟩
/-! (*concord/core.Core).Cut -/
def e197r0 : EE := .x 0 (.alc [z, z, z, z, z, z, z] 44) [] none [] <|
 .out [(0, .s 0), (2, .r 0)]
def e197r1 : EE := .q 1 .nl [.s 0] none <|
 .q 2 (.fld 2) [.r 1] none <|
 .q 3 .ld [.r 2] none <|
 .x 4 (.call 260) [.r 3] none [] <|
 .x 5 (.st 7) [.s 2, .r 4] none [] <|
 .out [(2, .s 2)]
def e197 : EFn := ⟨(.seq (.reg e197r0 [0] 0) (.seq (.reg e197r1 [0, 2] 0) .ret)), [.cells 2 7], 8, 0⟩
theorem g197 : Good Tryz.prog 197 e197 := ⟨Tryz.f197, Tryz.func197, by kernel_rfl, by kernel_rfl, by kernel_rfl, by kernel_rfl⟩
/-! concord/log.Record -/
def e199r0 : EE := .x 0 (.box 40) [.s 0] none [] <|
 .x 1 (.box 48) [.s 1] none [] <|
 .out [(2, .r 0), (3, .r 1)]
def e199r1 : EE := .q 0 (.fld 0) [.s 2] none <|
 .q 1 .ld [.r 0] none <|
 .q 3 (.fld 1) [.s 2] none <|
 .q 4 .ld [.r 3] none <|
 .q 6 (.lda 21) [.s 3] none <|
 .x 2 (.call 109) [.c .nsl, .r 1] none [⟨4, .ld, [.r 3], none⟩, ⟨6, (.lda 21), [.s 3], none⟩] <|
 .x 5 (.call 109) [.r 2, .r 4] none [⟨6, (.lda 21), [.s 3], none⟩] <|
 .x 7 (.call 264) [.r 5, .r 6] none [] <|
 .out [(4, .r 7)]
def e199 : EFn := ⟨(.seq (.reg e199r0 [0, 1] 0) (.seq (.reg e199r1 [2, 3] 0) .ret)), [.slot 4], 13, 0⟩
theorem g199 : Good Tryz.prog 199 e199 := ⟨Tryz.f199, Tryz.func199, by kernel_rfl, by kernel_rfl, by kernel_rfl, by kernel_rfl⟩
/-! (*concord/log.Log).List -/
def e200r0 : EE := .out [(0, .s 0)]
def e200r1 : EE := .out [(0, .s 0), (3, .c .nsl)]
def e200r2 : EE := .q 1 .nl [.s 0] none <|
 .q 2 (.fld 0) [.r 1] none <|
 .q 3 .ld [.r 2] none <|
 .x 4 .rng [.r 3] none [] <|
 .out [(3, .s 3), (9, .r 4)]
def e200r3 : EE := .x 0 .nxt [.s 9] none [] <|
 .q 1 (.ext 0) [.r 0] none <|
 .out [(3, .s 3), (9, .s 9), (11, .r 1)]
def e200r4 : EE := .q 0 .ent [.s 9] none <|
 .q 1 (.ext 0) [.r 0] none <|
 .x 2 (.alc [z, z] 40) [] none [] <|
 .x 3 (.st 2) [.r 2, .r 1] none [] <|
 .out [(3, .s 3), (4, .r 2), (9, .s 9)]
def e200r5 : EE := .q 1 (.lda 2) [.s 4] none <|
 .x 2 (.bsl 40 1 [z, z] [(0, 2)]) [.r 1] none [] <|
 .x 3 (.app 40 2 16 [z, z]) [.s 3, .r 2] none [] <|
 .out [(3, .r 3), (9, .s 9)]
def e200l6 : EC := (.seq (.reg e200r3 [3, 9] 0) (.seq (.cond (.s 11) .skip (.exit 0)) (.block 1 (.seq (.reg e200r4 [3, 9] 0) (.reg e200r5 [3, 4, 9] 0)))))
def e200r7 : EE := .x 1 (.call 265) [.s 3, .f 266] none [] <|
 .out [(3, .s 3)]
def e200r8 : EE := .out [(2, .s 3)]
def e200 : EFn := ⟨(.seq (.reg e200r0 [0] 0) (.seq (.reg e200r1 [0] 0) (.seq (.seq (.reg e200r2 [0, 3] 0) (.block 0 (.loop [3, 9] e200l6))) (.seq (.reg e200r7 [3] 0) (.seq (.reg e200r8 [3] 0) .ret))))), [.slot 2], 21, 0⟩
theorem g200 : Good Tryz.prog 200 e200 := ⟨Tryz.f200, Tryz.func200, by kernel_rfl, by kernel_rfl, by kernel_rfl, by kernel_rfl⟩
/-! (*concord/log.Log).Cell -/
def e201r0 : EE := .x 0 (.box 40) [.s 1] none [] <|
 .x 1 (.alc [z, z, z, z, z, z, z, z, zs, zs, zs, zs, z, z, z, z, z, z, z, z, (.bool false)] 48) [] none [] <|
 .out [(0, .s 0), (3, .r 0), (4, .r 1)]
def e201r1 : EE := .q 1 .nl [.s 0] none <|
 .q 2 (.fld 0) [.r 1] none <|
 .q 3 .ld [.r 2] none <|
 .q 4 (.lda 2) [.s 3] none <|
 .q 5 (.lkp true [(.i .i64), (.i .i64)] (.agg [z, z, z, z, z, z, z, z, zs, zs, zs, zs, z, z, z, z, z, z, z, z, (.bool false)]) true) [.r 3, .r 4] none <|
 .q 7 (.ext 0) [.r 5] none <|
 .q 8 (.ext 1) [.r 5] none <|
 .x 9 (.alc [z, z, z, z, z, z, z, z, zs, zs, zs, zs, z, z, z, z, z, z, z, z, (.bool false)] 48) [] none [⟨3, .ld, [.r 2], none⟩, ⟨4, (.lda 2), [.s 3], none⟩, ⟨5, (.lkp true [(.i .i64), (.i .i64)] (.agg [z, z, z, z, z, z, z, z, zs, zs, zs, zs, z, z, z, z, z, z, z, z, (.bool false)]) true), [.r 3, .r 4], none⟩] <|
 .x 10 (.st 21) [.r 9, .r 7] none [] <|
 .out [(4, .s 4), (6, .r 9), (7, .r 8)]
def e201r2 : EE := .q 1 .not [.s 7] none <|
 .out [(4, .s 4), (6, .s 6), (18, .r 1)]
def e201r3 : EE := .q 0 (.bld [z, z, z, z, z, z, z, z, zs, zs, zs, zs, z, z, z, z, z, z, z, z, (.bool false)] []) [] none <|
 .x 1 (.st 21) [.s 4, .r 0] none [] <|
 .out [(4, .s 4), (5, .c (.bool false))]
def e201r4 : EE := .q 0 (.lda 21) [.s 6] none <|
 .x 1 (.st 21) [.s 4, .r 0] none [] <|
 .out [(4, .s 4), (5, .c (.bool true))]
def e201 : EFn := ⟨(.seq (.reg e201r0 [0, 1] 0) (.seq (.reg e201r1 [0, 3, 4] 0) (.seq (.seq (.reg e201r2 [4, 6, 7] 0) (.cond (.s 18) (.seq (.reg e201r3 [4] 0) .ret) .skip)) (.seq (.reg e201r4 [4, 6] 0) .ret)))), [.cells 4 21, .slot 5], 21, 0⟩
theorem g201 : Good Tryz.prog 201 e201 := ⟨Tryz.f201, Tryz.func201, by kernel_rfl, by kernel_rfl, by kernel_rfl, by kernel_rfl⟩
/-! (*concord/core.Core).take -/
def e202r0 : EE := .q 2 .nl [.s 1] none <|
 .q 3 (.fld 0) [.r 2] none <|
 .q 4 (.lda 2) [.r 3] none <|
 .x 5 (.call 209) [.s 0, .r 4] none [] <|
 .out [(0, .s 0), (1, .s 1)]
def e202r1 : EE := .out [(0, .s 0), (1, .s 1), (4, .c z)]
def e202r2 : EE := .q 2 .nl [.s 0] none <|
 .q 3 (.fld 4) [.r 2] none <|
 .q 4 .ld [.r 3] none <|
 .q 5 .len [.r 4] none <|
 .q 6 .lss [.s 4, .r 5] none <|
 .q 8 .mv [.s 0] (some (.r 6, true)) <|
 .q 9 .nl [.r 8] (some (.r 6, true)) <|
 .q 10 (.fld 4) [.r 9] (some (.r 6, true)) <|
 .q 11 .ld [.r 10] (some (.r 6, true)) <|
 .q 12 .mv [.s 4] (some (.r 6, true)) <|
 .q 13 (.ixs 1) [.r 11, .r 12] (some (.r 6, true)) <|
 .q 14 .ld [.r 13] (some (.r 6, true)) <|
 .q 15 .nl [.r 14] (some (.r 6, true)) <|
 .q 16 (.fld 0) [.r 15] (some (.r 6, true)) <|
 .q 17 (.lda 2) [.r 16] (some (.r 6, true)) <|
 .q 18 .mv [.s 1] (some (.r 6, true)) <|
 .q 19 .nl [.r 18] (some (.r 6, true)) <|
 .q 20 (.fld 0) [.r 19] (some (.r 6, true)) <|
 .q 21 (.lda 2) [.r 20] (some (.r 6, true)) <|
 .x 22 (.call 267) [.r 17, .r 21] (some (.r 6, true)) [] <|
 .q 23 .pick [.r 6, .r 22, .c (.bool false)] none <|
 .out [(0, .s 0), (1, .s 1), (4, .s 4), (34, .r 23)]
def e202r3 : EE := .q 1 .add [.s 4, .c (.int .i64 1)] none <|
 .out [(0, .s 0), (1, .s 1), (4, .r 1)]
def e202l4 : EC := (.seq (.seq (.reg e202r2 [0, 1, 4] 0) (.cond (.s 34) .skip (.exit 0))) (.block 1 (.reg e202r3 [0, 1, 4] 0)))
def e202r5 : EE := .q 2 .nl [.s 0] none <|
 .q 3 (.fld 4) [.r 2] none <|
 .q 4 .ld [.r 3] none <|
 .x 7 (.bsl 225 1 [.nptr] [(0, 1)]) [.s 1] none [] <|
 .x 8 (.call 268) [.r 4, .s 4, .r 7] none [] <|
 .q 9 .nl [.s 0] none <|
 .q 10 (.fld 4) [.r 9] none <|
 .x 11 (.st 1) [.r 10, .r 8] none [] <|
 .out []
def e202 : EFn := ⟨(.seq (.reg e202r0 [0, 1] 0) (.seq (.reg e202r1 [0, 1] 0) (.seq (.block 0 (.loop [0, 1, 4] e202l4)) (.reg e202r5 [0, 1, 4] 0)))), [], 48, 0⟩
theorem g202 : Good Tryz.prog 202 e202 := ⟨Tryz.f202, Tryz.func202, by kernel_rfl, by kernel_rfl, by kernel_rfl, by kernel_rfl⟩
/-! (*concord/core.Core).all -/
def e203r0 : EE := .x 0 (.box 50) [.s 1] none [] <|
 .x 1 (.box 43) [.s 2] none [] <|
 .out [(0, .s 0), (4, .r 0), (5, .r 1)]
def e203r1 : EE := .q 1 .nl [.s 0] none <|
 .q 2 (.fld 0) [.r 1] none <|
 .q 3 .ld [.r 2] none <|
 .out [(0, .s 0), (4, .s 4), (5, .s 5), (10, .r 3), (11, .c z)]
def e203r2 : EE := .q 0 .lss [.s 11, .s 10] none <|
 .out [(0, .s 0), (4, .s 4), (5, .s 5), (10, .s 10), (11, .s 11), (12, .r 0)]
def e203r3 : EE := .out [(0, .s 0), (4, .s 4), (5, .s 5), (6, .s 11), (10, .s 10), (11, .s 11)]
def e203r4 : EE := .q 2 .nl [.s 0] none <|
 .q 3 (.fld 1) [.r 2] none <|
 .q 4 .ld [.r 3] none <|
 .q 5 .neq [.s 6, .r 4] none <|
 .q 7 .mv [.s 6] (some (.r 5, true)) <|
 .q 8 (.ixa 7 1) [.s 5, .r 7] (some (.r 5, true)) <|
 .q 9 .ld [.r 8] (some (.r 5, true)) <|
 .q 10 .eql [.r 9, .c z] (some (.r 5, true)) <|
 .q 11 .pick [.r 5, .r 10, .c (.bool false)] none <|
 .out [(0, .s 0), (4, .s 4), (5, .s 5), (6, .s 6), (10, .s 10), (11, .s 11), (25, .r 11)]
def e203r5 : EE := .q 2 (.lda 51) [.s 4] none <|
 .x 3 (.call 207) [.s 0, .s 6, .r 2] none [] <|
 .out [(0, .s 0), (4, .s 4), (5, .s 5), (10, .s 10), (11, .s 11)]
def e203r6 : EE := .q 0 .add [.s 11, .c (.int .i64 1)] none <|
 .out [(0, .s 0), (4, .s 4), (5, .s 5), (10, .s 10), (11, .r 0)]
def e203l7 : EC := (.seq (.reg e203r2 [0, 4, 5, 10, 11] 0) (.seq (.cond (.s 12) .skip (.exit 0)) (.seq (.block 1 (.seq (.reg e203r3 [0, 4, 5, 10, 11] 0) (.seq (.reg e203r4 [0, 4, 5, 6, 10, 11] 0) (.cond (.s 25) (.reg e203r5 [0, 4, 5, 6, 10, 11] 0) .skip)))) (.reg e203r6 [0, 4, 5, 10, 11] 0))))
def e203 : EFn := ⟨(.seq (.reg e203r0 [0, 1, 2] 0) (.seq (.reg e203r1 [0, 4, 5] 0) (.block 0 (.loop [0, 4, 5, 10, 11] e203l7)))), [], 31, 0⟩
theorem g203 : Good Tryz.prog 203 e203 := ⟨Tryz.f203, Tryz.func203, by kernel_rfl, by kernel_rfl, by kernel_rfl, by kernel_rfl⟩
/-! (*concord/core.lead).ask -/
def e204r0 : EE := .x 0 (.alc [z, z, z, z, z, z, z, z, z, z, zs, zs, zs, zs, z, z, z, z, z, z, z, z, z, z, z, z, z, z, z, z, zs, zs, zs, zs, z, z, z, z, z, z, z, z, (.bool false), z, z, z, z, z, z, z, zs] 50) [] none [] <|
 .out [(0, .s 0), (2, .r 0)]
def e204r1 : EE := .q 1 .nl [.s 0] none <|
 .q 2 (.fld 0) [.r 1] none <|
 .q 3 (.lda 2) [.r 2] none <|
 .q 5 .nl [.s 0] none <|
 .q 6 (.fld 3) [.r 5] none <|
 .q 7 (.lda 2) [.r 6] none <|
 .q 8 (.bld [z, z, z, z, z, z, z, z, z, z, zs, zs, zs, zs, z, z, z, z, z, z, z, z, z, z, z, z, z, z, z, z, zs, zs, zs, zs, z, z, z, z, z, z, z, z, (.bool false), z, z, z, z, z, z, z, zs] [(3, 2), (5, 2)]) [.r 3, .r 7] none <|
 .x 9 (.alc [z, z, z, z, z, z, z, z, z, z, zs, zs, zs, zs, z, z, z, z, z, z, z, z, z, z, z, z, z, z, z, z, zs, zs, zs, zs, z, z, z, z, z, z, z, z, (.bool false), z, z, z, z, z, z, z, zs] 50) [] none [⟨3, (.lda 2), [.r 2], none⟩, ⟨7, (.lda 2), [.r 6], none⟩] <|
 .x 10 (.st 51) [.r 9, .r 8] none [] <|
 .out [(0, .s 0), (2, .s 2), (3, .r 9)]
def e204r2 : EE := .q 1 .nl [.s 0] none <|
 .q 2 (.fld 2) [.r 1] none <|
 .q 3 .ld [.r 2] none <|
 .out [(0, .s 0), (2, .s 2), (3, .s 3), (16, .r 3)]
def e204r3 : EE := .q 0 .eql [.s 16, .c z] none <|
 .out [(0, .s 0), (2, .s 2), (3, .s 3), (16, .s 16), (18, .r 0)]
def e204r4 : EE := .q 1 .nl [.s 0] none <|
 .q 2 (.fld 6) [.r 1] none <|
 .q 3 (.lda 7) [.r 2] none <|
 .q 5 .nl [.s 0] none <|
 .q 6 (.fld 13) [.r 5] none <|
 .q 7 (.lda 8) [.r 6] none <|
 .q 8 (.fld 0) [.s 3] none <|
 .x 9 (.st 1) [.r 8, .c (.int .i64 1)] none [⟨3, (.lda 7), [.r 2], none⟩, ⟨7, (.lda 8), [.r 6], none⟩] <|
 .q 10 (.fld 7) [.s 3] none <|
 .x 11 (.st 7) [.r 10, .r 3] none [⟨7, (.lda 8), [.r 6], none⟩] <|
 .q 12 (.fld 14) [.s 3] none <|
 .x 13 (.st 8) [.r 12, .r 7] none [] <|
 .out [(2, .s 2), (3, .s 3)]
def e204r5 : EE := .q 0 .eql [.s 16, .c (.int .i64 1)] none <|
 .out [(0, .s 0), (2, .s 2), (3, .s 3), (31, .r 0)]
def e204r6 : EE := .q 1 .nl [.s 0] none <|
 .q 2 (.fld 6) [.r 1] none <|
 .q 3 (.lda 7) [.r 2] none <|
 .q 5 .nl [.s 0] none <|
 .q 6 (.fld 13) [.r 5] none <|
 .q 7 (.lda 8) [.r 6] none <|
 .q 8 (.fld 0) [.s 3] none <|
 .x 9 (.st 1) [.r 8, .c (.int .i64 3)] none [⟨3, (.lda 7), [.r 2], none⟩, ⟨7, (.lda 8), [.r 6], none⟩] <|
 .q 10 (.fld 7) [.s 3] none <|
 .x 11 (.st 7) [.r 10, .r 3] none [⟨7, (.lda 8), [.r 6], none⟩] <|
 .q 12 (.fld 14) [.s 3] none <|
 .x 13 (.st 8) [.r 12, .r 7] none [] <|
 .out [(2, .s 2), (3, .s 3)]
def e204r7 : EE := .q 0 (.fld 0) [.s 3] none <|
 .x 1 (.st 1) [.r 0, .c (.int .i64 6)] none [] <|
 .out [(2, .s 2), (3, .s 3)]
def e204r8 : EE := .q 0 (.lda 51) [.s 3] none <|
 .x 1 (.st 51) [.s 2, .r 0] none [] <|
 .out [(2, .s 2)]
def e204 : EFn := ⟨(.seq (.reg e204r0 [0] 0) (.seq (.reg e204r1 [0, 2] 0) (.seq (.seq (.reg e204r2 [0, 2, 3] 0) (.block 0 (.seq (.reg e204r3 [0, 2, 3, 16] 0) (.cond (.s 18) (.reg e204r4 [0, 2, 3] 0) (.seq (.reg e204r5 [0, 2, 3, 16] 0) (.cond (.s 31) (.reg e204r6 [0, 2, 3] 0) (.reg e204r7 [2, 3] 0))))))) (.seq (.reg e204r8 [2, 3] 0) .ret)))), [.cells 2 51], 45, 0⟩
theorem g204 : Good Tryz.prog 204 e204 := ⟨Tryz.f204, Tryz.func204, by kernel_rfl, by kernel_rfl, by kernel_rfl, by kernel_rfl⟩
/-! concord/inst.Below -/
def e205r0 : EE := .x 0 (.box 42) [.s 0] none [] <|
 .x 1 (.box 42) [.s 1] none [] <|
 .out [(2, .r 0), (3, .r 1)]
def e205r1 : EE := .q 0 (.fld 0) [.s 2] none <|
 .q 1 .ld [.r 0] none <|
 .q 2 (.fld 0) [.s 3] none <|
 .q 3 .ld [.r 2] none <|
 .q 4 .lss [.r 1, .r 3] none <|
 .q 6 (.fld 0) [.s 2] (some (.r 4, false)) <|
 .q 7 .ld [.r 6] (some (.r 4, false)) <|
 .q 8 (.fld 0) [.s 3] (some (.r 4, false)) <|
 .q 9 .ld [.r 8] (some (.r 4, false)) <|
 .q 10 .eql [.r 7, .r 9] (some (.r 4, false)) <|
 .q 11 .mv [.r 10] (some (.r 4, false)) <|
 .q 12 (.fld 1) [.s 2] (some (.r 11, true)) <|
 .q 13 .ld [.r 12] (some (.r 11, true)) <|
 .q 14 (.fld 1) [.s 3] (some (.r 11, true)) <|
 .q 15 .ld [.r 14] (some (.r 11, true)) <|
 .q 16 .lss [.r 13, .r 15] (some (.r 11, true)) <|
 .q 17 .pick [.r 11, .r 16, .c (.bool false)] (some (.r 4, false)) <|
 .q 18 .pick [.r 4, .c (.bool true), .r 17] none <|
 .out [(4, .r 18)]
def e205 : EFn := ⟨(.seq (.reg e205r0 [0, 1] 0) (.seq (.reg e205r1 [2, 3] 0) .ret)), [.slot 4], 24, 0⟩
theorem g205 : Good Tryz.prog 205 e205 := ⟨Tryz.f205, Tryz.func205, by kernel_rfl, by kernel_rfl, by kernel_rfl, by kernel_rfl⟩
/-! (*concord/core.Core).send -/
def e207r0 : EE := .x 0 (.box 50) [.s 2] none [] <|
 .out [(0, .s 0), (1, .s 1), (5, .r 0)]
def e207r1 : EE := .q 1 .nl [.s 0] none <|
 .q 2 (.fld 1) [.r 1] none <|
 .q 3 .ld [.r 2] none <|
 .q 5 (.fld 1) [.s 5] none <|
 .x 6 (.st 1) [.r 5, .r 3] none [] <|
 .q 7 (.fld 2) [.s 5] none <|
 .x 8 (.st 1) [.r 7, .s 1] none [] <|
 .out [(0, .s 0), (5, .s 5)]
def e207r2 : EE := .q 2 .nl [.s 0] none <|
 .q 3 (.fld 7) [.r 2] none <|
 .q 4 .ld [.r 3] none <|
 .q 5 (.lda 51) [.s 5] none <|
 .x 6 (.bsl 50 1 [z, z, z, z, z, z, z, z, z, z, zs, zs, zs, zs, z, z, z, z, z, z, z, z, z, z, z, z, z, z, z, z, zs, zs, zs, zs, z, z, z, z, z, z, z, z, (.bool false), z, z, z, z, z, z, z, zs] [(0, 51)]) [.r 5] none [⟨4, .ld, [.r 3], none⟩] <|
 .x 7 (.app 50 51 480 [z, z, z, z, z, z, z, z, z, z, zs, zs, zs, zs, z, z, z, z, z, z, z, z, z, z, z, z, z, z, z, z, zs, zs, zs, zs, z, z, z, z, z, z, z, z, (.bool false), z, z, z, z, z, z, z, zs]) [.r 4, .r 6] none [] <|
 .q 8 .nl [.s 0] none <|
 .q 9 (.fld 7) [.r 8] none <|
 .x 10 (.st 1) [.r 9, .r 7] none [] <|
 .out []
def e207 : EFn := ⟨(.seq (.reg e207r0 [0, 1, 2] 0) (.seq (.reg e207r1 [0, 1, 5] 0) (.reg e207r2 [0, 5] 0))), [], 23, 0⟩
theorem g207 : Good Tryz.prog 207 e207 := ⟨Tryz.f207, Tryz.func207, by kernel_rfl, by kernel_rfl, by kernel_rfl, by kernel_rfl⟩
/-! (*concord/core.Core).find -/
def e208r0 : EE := .x 0 (.box 40) [.s 1] none [] <|
 .out [(0, .s 0), (3, .r 0)]
def e208r1 : EE := .q 1 .nl [.s 0] none <|
 .q 2 (.fld 4) [.r 1] none <|
 .q 3 .ld [.r 2] none <|
 .q 4 .len [.r 3] none <|
 .out [(3, .s 3), (10, .r 3), (11, .r 4), (12, .c z)]
def e208r2 : EE := .q 0 .lss [.s 12, .s 11] none <|
 .out [(3, .s 3), (10, .s 10), (11, .s 11), (12, .s 12), (13, .r 0)]
def e208r3 : EE := .q 0 (.ixs 1) [.s 10, .s 12] none <|
 .q 1 .ld [.r 0] none <|
 .out [(3, .s 3), (6, .r 1), (10, .s 10), (11, .s 11), (12, .s 12)]
def e208r4 : EE := .q 1 .nl [.s 6] none <|
 .q 2 (.fld 0) [.r 1] none <|
 .q 3 (.lda 2) [.r 2] none <|
 .q 4 (.lda 2) [.s 3] none <|
 .q 5 (.eqc false [(.i .i64), (.i .i64)]) [.r 3, .r 4] none <|
 .out [(3, .s 3), (6, .s 6), (10, .s 10), (11, .s 11), (12, .s 12), (21, .r 5)]
def e208r5 : EE := .out [(4, .s 6)]
def e208r6 : EE := .q 0 .add [.s 12, .c (.int .i64 1)] none <|
 .out [(3, .s 3), (10, .s 10), (11, .s 11), (12, .r 0)]
def e208l7 : EC := (.seq (.reg e208r2 [3, 10, 11, 12] 0) (.seq (.cond (.s 13) .skip (.exit 0)) (.seq (.block 1 (.seq (.reg e208r3 [3, 10, 11, 12] 0) (.seq (.reg e208r4 [3, 6, 10, 11, 12] 0) (.cond (.s 21) (.seq (.reg e208r5 [6] 0) .ret) .skip)))) (.reg e208r6 [3, 10, 11, 12] 0))))
def e208r8 : EE := .out [(4, .c .nptr)]
def e208 : EFn := ⟨(.seq (.reg e208r0 [0, 1] 0) (.seq (.seq (.reg e208r1 [0, 3] 0) (.block 0 (.loop [3, 10, 11, 12] e208l7))) (.seq (.reg e208r8 [] 0) .ret))), [.slot 4], 24, 0⟩
theorem g208 : Good Tryz.prog 208 e208 := ⟨Tryz.f208, Tryz.func208, by kernel_rfl, by kernel_rfl, by kernel_rfl, by kernel_rfl⟩
/-! (*concord/core.Core).leave -/
def e209r0 : EE := .x 0 (.box 40) [.s 1] none [] <|
 .out [(0, .s 0), (3, .r 0)]
def e209r1 : EE := .q 2 .nl [.s 0] none <|
 .q 3 (.fld 4) [.r 2] none <|
 .q 4 .ld [.r 3] none <|
 .q 5 (.mkf 270 0) [.s 3] none <|
 .x 6 (.call 261) [.r 4, .r 5] none [] <|
 .q 7 .nl [.s 0] none <|
 .q 8 (.fld 4) [.r 7] none <|
 .x 9 (.st 1) [.r 8, .r 6] none [] <|
 .out []
def e209 : EFn := ⟨(.seq (.reg e209r0 [0, 1] 0) (.reg e209r1 [0, 3] 0)), [], 13, 0⟩
theorem g209 : Good Tryz.prog 209 e209 := ⟨Tryz.f209, Tryz.func209, by kernel_rfl, by kernel_rfl, by kernel_rfl, by kernel_rfl⟩
/-! (*concord/core.Core).pre -/
def e210r0 : EE := .x 0 (.box 50) [.s 1] none [] <|
 .x 1 (.box 48) [.s 2] none [] <|
 .out [(0, .s 0), (3, .s 3), (5, .r 0), (6, .r 1)]
def e210r1 : EE := .q 0 (.fld 3) [.s 5] none <|
 .q 1 (.lda 2) [.r 0] none <|
 .q 2 (.fld 5) [.s 5] none <|
 .q 3 (.lda 2) [.r 2] none <|
 .q 4 (.fld 12) [.s 6] none <|
 .q 5 (.lda 8) [.r 4] none <|
 .q 6 (.bld [z, z, z, z, z, z, z, z, z, z, zs, zs, zs, zs, z, z, z, z, z, z, z, z, z, z, z, z, z, z, z, z, zs, zs, zs, zs, z, z, z, z, z, z, z, z, (.bool false), z, z, z, z, z, z, z, zs] [(0, 1), (3, 2), (5, 2), (14, 8)]) [.c (.int .i64 2), .r 1, .r 3, .r 5] none <|
 .x 7 (.alc [z, z, z, z, z, z, z, z, z, z, zs, zs, zs, zs, z, z, z, z, z, z, z, z, z, z, z, z, z, z, z, z, zs, zs, zs, zs, z, z, z, z, z, z, z, z, (.bool false), z, z, z, z, z, z, z, zs] 50) [] none [] <|
 .x 8 (.st 51) [.r 7, .r 6] none [] <|
 .out [(0, .s 0), (3, .s 3), (5, .s 5), (6, .s 6), (8, .r 7)]
def e210r2 : EE := .out [(0, .s 0), (5, .s 5), (6, .s 6), (8, .s 8), (18, .s 3)]
def e210r3 : EE := .q 0 (.fld 0) [.s 6] none <|
 .q 1 .ld [.r 0] none <|
 .q 2 .eql [.r 1, .c (.int .i64 1)] none <|
 .out [(0, .s 0), (5, .s 5), (8, .s 8), (21, .r 2)]
def e210r4 : EE := .q 1 (.fld 1) [.s 5] none <|
 .q 2 .ld [.r 1] none <|
 .q 3 (.lda 51) [.s 8] none <|
 .x 4 (.call 207) [.s 0, .r 2, .r 3] none [] <|
 .out []
def e210r5 : EE := .q 0 (.fld 14) [.s 5] none <|
 .q 1 (.lda 8) [.r 0] none <|
 .q 3 .nl [.s 0] none <|
 .q 4 (.fld 3) [.r 3] none <|
 .q 5 .ld [.r 4] none <|
 .q 6 (.fld 3) [.s 5] none <|
 .q 7 (.lda 2) [.r 6] none <|
 .q 8 (.fld 7) [.s 5] none <|
 .q 9 (.lda 7) [.r 8] none <|
 .both false
 (.x 10 (.call 122) [.r 5, .r 7, .r 9] none [⟨1, (.lda 8), [.r 0], none⟩] <|
 .both false
 (.x 11 (.bsl 46 2 [z, z, z, z, z, z, z, z, z, z, z, z, z, z, z, z] [(0, 8), (8, 8)]) [.r 1, .r 10] none [] <|
 .both false
 (.x 12 (.call 271) [.r 11] none [] <|
 .x 13 (.alc [z, z, z, z, z, z, z, z] 46) [] none [⟨1, (.lda 8), [.r 0], none⟩, ⟨5, .ld, [.r 4], none⟩, ⟨7, (.lda 2), [.r 6], none⟩, ⟨9, (.lda 7), [.r 8], none⟩] <|
 .x 14 (.st 8) [.r 13, .r 12] none [] <|
 .out [(0, .s 0), (5, .s 5), (8, .s 8), (9, .r 13)])
 (.x 13 (.alc [z, z, z, z, z, z, z, z] 46) [] none [⟨1, (.lda 8), [.r 0], none⟩, ⟨5, .ld, [.r 4], none⟩, ⟨7, (.lda 2), [.r 6], none⟩, ⟨9, (.lda 7), [.r 8], none⟩] <|
 .x 12 (.call 271) [.r 11] none [] <|
 .x 14 (.st 8) [.r 13, .r 12] none [] <|
 .out [(0, .s 0), (5, .s 5), (8, .s 8), (9, .r 13)]))
 (.x 13 (.alc [z, z, z, z, z, z, z, z] 46) [] none [⟨1, (.lda 8), [.r 0], none⟩, ⟨5, .ld, [.r 4], none⟩, ⟨7, (.lda 2), [.r 6], none⟩, ⟨9, (.lda 7), [.r 8], none⟩] <|
 .x 11 (.bsl 46 2 [z, z, z, z, z, z, z, z, z, z, z, z, z, z, z, z] [(0, 8), (8, 8)]) [.r 1, .r 10] none [] <|
 .x 12 (.call 271) [.r 11] none [] <|
 .x 14 (.st 8) [.r 13, .r 12] none [] <|
 .out [(0, .s 0), (5, .s 5), (8, .s 8), (9, .r 13)]))
 (.x 13 (.alc [z, z, z, z, z, z, z, z] 46) [] none [⟨1, (.lda 8), [.r 0], none⟩, ⟨5, .ld, [.r 4], none⟩, ⟨7, (.lda 2), [.r 6], none⟩, ⟨9, (.lda 7), [.r 8], none⟩] <|
 .x 10 (.call 122) [.r 5, .r 7, .r 9] none [⟨1, (.lda 8), [.r 0], none⟩] <|
 .x 11 (.bsl 46 2 [z, z, z, z, z, z, z, z, z, z, z, z, z, z, z, z] [(0, 8), (8, 8)]) [.r 1, .r 10] none [] <|
 .x 12 (.call 271) [.r 11] none [] <|
 .x 14 (.st 8) [.r 13, .r 12] none [] <|
 .out [(0, .s 0), (5, .s 5), (8, .s 8), (9, .r 13)])
def e210r6 : EE := .q 0 (.fld 5) [.s 5] none <|
 .q 1 (.lda 2) [.r 0] none <|
 .q 2 (.bld [z, z] []) [] none <|
 .q 3 (.eqc false [(.i .i64), (.i .i64)]) [.r 1, .r 2] none <|
 .q 5 (.lda 8) [.s 9] (some (.r 3, true)) <|
 .q 6 (.fld 14) [.s 5] (some (.r 3, true)) <|
 .q 7 (.lda 8) [.r 6] (some (.r 3, true)) <|
 .q 8 (.eqc false [(.i .i64), (.i .i64), (.i .i64), (.i .i64), (.i .i64), (.i .i64), (.i .i64), (.i .i64)]) [.r 5, .r 7] (some (.r 3, true)) <|
 .q 9 .pick [.r 3, .r 8, .c (.bool false)] none <|
 .out [(0, .s 0), (5, .s 5), (8, .s 8), (9, .s 9), (10, .r 9)]
def e210r7 : EE := .q 0 (.lda 8) [.s 9] none <|
 .x 1 (.call 100) [.r 0] none [] <|
 .q 2 .not [.r 1] none <|
 .q 4 .mv [.s 0] (some (.r 2, false)) <|
 .q 5 (.fld 3) [.s 5] (some (.r 2, false)) <|
 .q 6 (.lda 2) [.r 5] (some (.r 2, false)) <|
 .q 7 (.fld 5) [.s 5] (some (.r 2, false)) <|
 .q 8 (.lda 2) [.r 7] (some (.r 2, false)) <|
 .q 9 (.fld 5) [.s 5] (some (.r 2, false)) <|
 .q 10 (.lda 2) [.r 9] (some (.r 2, false)) <|
 .q 11 (.fld 7) [.s 5] (some (.r 2, false)) <|
 .q 12 (.lda 7) [.r 11] (some (.r 2, false)) <|
 .q 13 (.lda 8) [.s 9] (some (.r 2, false)) <|
 .q 14 .mv [.s 10] (some (.r 2, false)) <|
 .q 15 (.bld [z, z, z, z, z, z, z, z, zs, zs, zs, zs, z, z, z, z, z, z, z, z, (.bool false)] [(0, 1), (1, 2), (3, 2), (5, 7), (12, 8), (20, 1)]) [.c (.int .i64 1), .r 8, .r 10, .r 12, .r 13, .r 14] (some (.r 2, false)) <|
 .x 16 (.call 123) [.r 4, .r 6, .r 15] (some (.r 2, false)) [] <|
 .q 17 .not [.r 16] (some (.r 2, false)) <|
 .q 18 .pick [.r 2, .c (.bool true), .r 17] none <|
 .out [(0, .s 0), (5, .s 5), (8, .s 8), (9, .s 9), (68, .r 18)]
def e210r8 : EE := .q 0 (.lda 8) [.s 9] none <|
 .q 1 (.fld 14) [.s 8] none <|
 .x 2 (.st 8) [.r 1, .r 0] none [] <|
 .out [(0, .s 0), (5, .s 5), (8, .s 8)]
def e210r9 : EE := .q 1 (.fld 1) [.s 5] none <|
 .q 2 .ld [.r 1] none <|
 .q 3 (.lda 51) [.s 8] none <|
 .x 4 (.call 207) [.s 0, .r 2, .r 3] none [] <|
 .out []
def e210 : EFn := ⟨(.seq (.reg e210r0 [0, 1, 2, 3] 0) (.seq (.reg e210r1 [0, 3, 5, 6] 0) (.seq (.seq (.reg e210r2 [0, 3, 5, 6, 8] 0) (.cond (.s 18) (.seq (.seq (.reg e210r3 [0, 5, 6, 8] 0) (.cond (.s 21) (.reg e210r4 [0, 5, 8] 0) .skip)) .ret) .skip)) (.seq (.reg e210r5 [0, 5, 8] 15) (.seq (.reg e210r6 [0, 5, 8, 9] 0) (.seq (.seq (.reg e210r7 [0, 5, 8, 9, 10] 0) (.cond (.s 68) .ret .skip)) (.seq (.reg e210r8 [0, 5, 8, 9] 0) (.reg e210r9 [0, 5, 8] 0)))))))), [], 76, 0⟩
theorem g210 : Good Tryz.prog 210 e210 := ⟨Tryz.f210, Tryz.func210, by kernel_rfl, by kernel_rfl, by kernel_rfl, by kernel_rfl⟩
/-! (*concord/core.Core).weigh -/
def e212r0 : EE := .out [(0, .s 0), (1, .s 1), (2, .s 2)]
def e212r1 : EE := .q 1 .nl [.s 0] none <|
 .q 2 (.fld 0) [.r 1] none <|
 .q 3 .ld [.r 2] none <|
 .q 5 .nl [.s 1] none <|
 .q 6 (.fld 5) [.r 5] none <|
 .q 7 .ld [.r 6] none <|
 .q 9 .nl [.s 1] none <|
 .q 10 (.fld 13) [.r 9] none <|
 .q 11 (.lda 8) [.r 10] none <|
 .q 13 .nl [.s 1] none <|
 .q 14 (.fld 28) [.r 13] none <|
 .q 15 .ld [.r 14] none <|
 .both false
 (.x 17 (.call 272) [.r 3, .r 7, .r 11, .r 15, .s 2] none [] <|
 .q 19 (.ext 0) [.r 17] none <|
 .q 20 (.ext 1) [.r 17] none <|
 .x 21 (.alc [z, z, z, z, z, z, z, z] 46) [] none [⟨3, .ld, [.r 2], none⟩, ⟨7, .ld, [.r 6], none⟩, ⟨11, (.lda 8), [.r 10], none⟩, ⟨15, .ld, [.r 14], none⟩] <|
 .x 23 (.st 8) [.r 21, .r 20] none [] <|
 .out [(0, .s 0), (1, .s 1), (7, .r 19), (8, .r 21)])
 (.x 21 (.alc [z, z, z, z, z, z, z, z] 46) [] none [⟨3, .ld, [.r 2], none⟩, ⟨7, .ld, [.r 6], none⟩, ⟨11, (.lda 8), [.r 10], none⟩, ⟨15, .ld, [.r 14], none⟩] <|
 .x 17 (.call 272) [.r 3, .r 7, .r 11, .r 15, .s 2] none [] <|
 .q 19 (.ext 0) [.r 17] none <|
 .q 20 (.ext 1) [.r 17] none <|
 .x 23 (.st 8) [.r 21, .r 20] none [] <|
 .out [(0, .s 0), (1, .s 1), (7, .r 19), (8, .r 21)])
def e212r2 : EE := .out [(0, .s 0), (1, .s 1), (8, .s 8), (30, .s 7)]
def e212r3 : EE := .q 0 .eql [.s 30, .c (.int .i64 1)] none <|
 .out [(0, .s 0), (1, .s 1), (8, .s 8), (30, .s 30), (31, .r 0)]
def e212r4 : EE := .q 2 .nl [.s 1] none <|
 .q 3 (.fld 0) [.r 2] none <|
 .q 4 (.lda 2) [.r 3] none <|
 .q 6 .nl [.s 1] none <|
 .q 7 (.fld 6) [.r 6] none <|
 .q 8 (.lda 7) [.r 7] none <|
 .q 9 (.lda 8) [.s 8] none <|
 .x 10 (.call 214) [.s 0, .r 4, .r 8, .r 9] none [] <|
 .out []
def e212r5 : EE := .q 0 .eql [.s 30, .c (.int .i64 2)] none <|
 .out [(0, .s 0), (1, .s 1), (8, .s 8), (44, .r 0)]
def e212r6 : EE := .q 3 .nl [.s 1] none <|
 .q 4 (.fld 6) [.r 3] none <|
 .q 5 (.lda 7) [.r 4] none <|
 .q 6 (.lda 8) [.s 8] none <|
 .x 7 (.call 273) [.s 0, .s 1, .r 5, .r 6] none [] <|
 .out []
def e212r7 : EE := .out [(6, .c (.bool false))]
def e212r8 : EE := .out [(6, .c (.bool true))]
def e212 : EFn := ⟨(.seq (.reg e212r0 [0, 1, 2] 0) (.seq (.reg e212r1 [0, 1, 2] 24) (.seq (.seq (.reg e212r2 [0, 1, 7, 8] 0) (.block 0 (.seq (.reg e212r3 [0, 1, 8, 30] 0) (.cond (.s 31) (.reg e212r4 [0, 1, 8] 0) (.seq (.reg e212r5 [0, 1, 8, 30] 0) (.cond (.s 44) (.reg e212r6 [0, 1, 8] 0) (.seq (.reg e212r7 [] 0) .ret))))))) (.seq (.reg e212r8 [] 0) .ret)))), [.slot 6], 54, 0⟩
theorem g212 : Good Tryz.prog 212 e212 := ⟨Tryz.f212, Tryz.func212, by kernel_rfl, by kernel_rfl, by kernel_rfl, by kernel_rfl⟩
/-! (*concord/core.Core).commit -/
def e214r0 : EE := .x 0 (.box 40) [.s 1] none [] <|
 .x 1 (.box 33) [.s 2] none [] <|
 .x 2 (.box 46) [.s 3] none [] <|
 .out [(0, .s 0), (5, .r 0), (6, .r 1), (7, .r 2)]
def e214r1 : EE := .q 1 (.lda 2) [.s 5] none <|
 .x 2 (.call 209) [.s 0, .r 1] none [] <|
 .out [(0, .s 0), (5, .s 5), (6, .s 6), (7, .s 7)]
def e214r2 : EE := .q 1 .nl [.s 0] none <|
 .q 2 (.fld 2) [.r 1] none <|
 .q 3 .ld [.r 2] none <|
 .q 4 (.lda 2) [.s 5] none <|
 .both false
 (.x 5 (.call 201) [.r 3, .r 4] none [] <|
 .q 7 (.ext 0) [.r 5] none <|
 .q 8 (.ext 1) [.r 5] none <|
 .x 9 (.alc [z, z, z, z, z, z, z, z, zs, zs, zs, zs, z, z, z, z, z, z, z, z, (.bool false)] 48) [] none [⟨3, .ld, [.r 2], none⟩, ⟨4, (.lda 2), [.s 5], none⟩] <|
 .x 10 (.st 21) [.r 9, .r 7] none [] <|
 .out [(0, .s 0), (5, .s 5), (6, .s 6), (7, .s 7), (8, .r 9)])
 (.x 9 (.alc [z, z, z, z, z, z, z, z, zs, zs, zs, zs, z, z, z, z, z, z, z, z, (.bool false)] 48) [] none [⟨3, .ld, [.r 2], none⟩, ⟨4, (.lda 2), [.s 5], none⟩] <|
 .x 5 (.call 201) [.r 3, .r 4] none [] <|
 .q 7 (.ext 0) [.r 5] none <|
 .q 8 (.ext 1) [.r 5] none <|
 .x 10 (.st 21) [.r 9, .r 7] none [] <|
 .out [(0, .s 0), (5, .s 5), (6, .s 6), (7, .s 7), (8, .r 9)])
def e214r3 : EE := .q 1 (.lda 2) [.s 5] none <|
 .q 2 (.fld 1) [.s 8] none <|
 .q 3 (.lda 2) [.r 2] none <|
 .q 4 (.fld 3) [.s 8] none <|
 .q 5 (.lda 2) [.r 4] none <|
 .q 6 (.lda 7) [.s 6] none <|
 .q 7 (.lda 8) [.s 7] none <|
 .q 8 (.bld [z, z, z, z, z, z, z, z, zs, zs, zs, zs, z, z, z, z, z, z, z, z, (.bool false)] [(0, 1), (1, 2), (3, 2), (5, 7), (12, 8)]) [.c (.int .i64 3), .r 3, .r 5, .r 6, .r 7] none <|
 .x 9 (.call 123) [.s 0, .r 1, .r 8] none [] <|
 .out [(0, .s 0), (5, .s 5), (6, .s 6), (7, .s 7), (31, .r 9)]
def e214r4 : EE := .q 1 (.lda 2) [.s 5] none <|
 .q 2 (.lda 7) [.s 6] none <|
 .q 3 (.lda 8) [.s 7] none <|
 .q 4 (.bld [z, z, z, z, z, z, z, z, z, z, zs, zs, zs, zs, z, z, z, z, z, z, z, z, z, z, z, z, z, z, z, z, zs, zs, zs, zs, z, z, z, z, z, z, z, z, (.bool false), z, z, z, z, z, z, z, zs] [(0, 1), (3, 2), (7, 7), (14, 8)]) [.c (.int .i64 5), .r 1, .r 2, .r 3] none <|
 .q 5 (.bld [z, z, z, z, z, z, z] []) [] none <|
 .x 6 (.call 203) [.s 0, .r 4, .r 5] none [] <|
 .out []
def e214 : EFn := ⟨(.seq (.reg e214r0 [0, 1, 2, 3] 0) (.seq (.reg e214r1 [0, 5, 6, 7] 0) (.seq (.reg e214r2 [0, 5, 6, 7] 11) (.seq (.reg e214r3 [0, 5, 6, 7, 8] 0) (.cond (.s 31) (.reg e214r4 [0, 5, 6, 7] 0) .skip))))), [], 39, 0⟩
theorem g214 : Good Tryz.prog 214 e214 := ⟨Tryz.f214, Tryz.func214, by kernel_rfl, by kernel_rfl, by kernel_rfl, by kernel_rfl⟩
/-! concord/dedup.Note -/
def e216r0 : EE := .x 0 (.box 59) [.s 0] none [] <|
 .x 1 (.box 56) [.s 3] none [] <|
 .x 2 (.alc [z, z, (.bool false), zs, z, .nsl, z, z, (.bool false), zs, z, .nsl, z, z, (.bool false), zs, z, .nsl, z, z, (.bool false), zs, z, .nsl, z, z, (.bool false), zs, z, .nsl, z, z, (.bool false), zs, z, .nsl, z, z, (.bool false), zs, z, .nsl, z, z, (.bool false), zs, z, .nsl] 59) [] none [] <|
 .out [(1, .s 1), (2, .s 2), (4, .r 0), (7, .r 1), (8, .r 2)]
def e216r1 : EE := .x 1 (.call 277) [.s 1] none [] <|
 .out [(1, .s 1), (2, .s 2), (4, .s 4), (7, .s 7), (8, .s 8), (11, .r 1)]
def e216r2 : EE := .q 1 .sub [.s 1, .c (.int .i64 1)] none <|
 .q 3 (.lda 5) [.s 7] none <|
 .q 4 (.bld [z, z, (.bool false), zs, z, .nsl] [(0, 1), (1, 5)]) [.s 2, .r 3] none <|
 .q 5 (.ixa 8 6) [.s 4, .r 1] none <|
 .x 6 (.st 6) [.r 5, .r 4] none [] <|
 .out [(4, .s 4), (8, .s 8)]
def e216r3 : EE := .out [(4, .s 4), (8, .s 8), (18, .c z)]
def e216r4 : EE := .q 0 .lss [.s 18, .c (.int .i64 8)] none <|
 .out [(4, .s 4), (8, .s 8), (18, .s 18), (19, .r 0)]
def e216r5 : EE := .out [(4, .s 4), (8, .s 8), (9, .s 18), (18, .s 18)]
def e216r6 : EE := .q 2 (.ixa 8 6) [.s 4, .s 9] none <|
 .q 3 (.fld 1) [.r 2] none <|
 .q 4 (.lda 5) [.r 3] none <|
 .x 5 (.call 278) [.r 4] none [] <|
 .q 6 (.ixa 8 6) [.s 4, .s 9] none <|
 .q 7 (.fld 1) [.r 6] none <|
 .x 8 (.st 5) [.r 7, .r 5] none [] <|
 .out [(4, .s 4), (8, .s 8), (18, .s 18)]
def e216r7 : EE := .q 0 .add [.s 18, .c (.int .i64 1)] none <|
 .out [(4, .s 4), (8, .s 8), (18, .r 0)]
def e216l8 : EC := (.seq (.reg e216r4 [4, 8, 18] 0) (.seq (.cond (.s 19) .skip (.exit 0)) (.seq (.block 1 (.seq (.reg e216r5 [4, 8, 18] 0) (.reg e216r6 [4, 8, 9, 18] 0))) (.reg e216r7 [4, 8, 18] 0))))
def e216r9 : EE := .q 0 (.lda 48) [.s 4] none <|
 .x 1 (.st 48) [.s 8, .r 0] none [] <|
 .out [(8, .s 8)]
def e216 : EFn := ⟨(.seq (.reg e216r0 [0, 1, 2, 3] 0) (.seq (.seq (.reg e216r1 [1, 2, 4, 7, 8] 0) (.cond (.s 11) (.reg e216r2 [1, 2, 4, 7, 8] 0) .skip)) (.seq (.seq (.reg e216r3 [4, 8] 0) (.block 0 (.loop [4, 8, 18] e216l8))) (.seq (.reg e216r9 [4, 8] 0) .ret)))), [.cells 8 48], 31, 0⟩
theorem g216 : Good Tryz.prog 216 e216 := ⟨Tryz.f216, Tryz.func216, by kernel_rfl, by kernel_rfl, by kernel_rfl, by kernel_rfl⟩
/-! concord/dedup.Look -/
def e217r0 : EE := .x 0 (.box 59) [.s 0] none [] <|
 .x 2 (.alc [z, (.bool false), zs, z, .nsl] 56) [] none [] <|
 .out [(1, .s 1), (2, .s 2), (3, .r 0), (7, .r 2)]
def e217r1 : EE := .x 1 (.call 277) [.s 1] none [] <|
 .q 2 .not [.r 1] none <|
 .out [(1, .s 1), (2, .s 2), (3, .s 3), (7, .s 7), (11, .r 2)]
def e217r2 : EE := .q 0 (.bld [z, (.bool false), zs, z, .nsl] []) [] none <|
 .x 2 (.st 5) [.s 7, .r 0] none [] <|
 .out [(6, .c z), (7, .s 7)]
def e217r3 : EE := .q 1 .sub [.s 1, .c (.int .i64 1)] none <|
 .q 2 (.ixa 8 6) [.s 3, .r 1] none <|
 .q 3 (.lda 6) [.r 2] none <|
 .x 4 (.alc [z, z, (.bool false), zs, z, .nsl] 58) [] none [] <|
 .x 5 (.st 6) [.r 4, .r 3] none [] <|
 .out [(2, .s 2), (7, .s 7), (8, .r 4)]
def e217r4 : EE := .q 1 (.fld 0) [.s 8] none <|
 .q 2 .ld [.r 1] none <|
 .q 3 .gtr [.s 2, .r 2] none <|
 .out [(2, .s 2), (7, .s 7), (8, .s 8), (17, .r 3)]
def e217r5 : EE := .q 0 (.bld [z, (.bool false), zs, z, .nsl] []) [] none <|
 .x 2 (.st 5) [.s 7, .r 0] none [] <|
 .out [(6, .c (.int .i64 1)), (7, .s 7)]
def e217r6 : EE := .q 1 (.fld 0) [.s 8] none <|
 .q 2 .ld [.r 1] none <|
 .q 3 .eql [.s 2, .r 2] none <|
 .out [(7, .s 7), (8, .s 8), (23, .r 3)]
def e217r7 : EE := .q 0 (.fld 1) [.s 8] none <|
 .q 1 (.lda 5) [.r 0] none <|
 .x 2 (.call 278) [.r 1] none [] <|
 .x 4 (.st 5) [.s 7, .r 2] none [] <|
 .out [(6, .c (.int .i64 2)), (7, .s 7)]
def e217r8 : EE := .q 0 (.bld [z, (.bool false), zs, z, .nsl] []) [] none <|
 .x 2 (.st 5) [.s 7, .r 0] none [] <|
 .out [(6, .c (.int .i64 3)), (7, .s 7)]
def e217 : EFn := ⟨(.seq (.reg e217r0 [0, 1, 2] 0) (.seq (.seq (.reg e217r1 [1, 2, 3, 7] 0) (.cond (.s 11) (.seq (.reg e217r2 [7] 0) .ret) .skip)) (.seq (.reg e217r3 [1, 2, 3, 7] 0) (.seq (.block 0 (.seq (.reg e217r4 [2, 7, 8] 0) (.cond (.s 17) (.seq (.reg e217r5 [7] 0) .ret) (.seq (.reg e217r6 [2, 7, 8] 0) (.cond (.s 23) (.seq (.reg e217r7 [7, 8] 0) .ret) .skip))))) (.seq (.reg e217r8 [7] 0) .ret))))), [.slot 6, .cells 7 5], 32, 0⟩
theorem g217 : Good Tryz.prog 217 e217 := ⟨Tryz.f217, Tryz.func217, by kernel_rfl, by kernel_rfl, by kernel_rfl, by kernel_rfl⟩
/-! concord/state.done -/
def e218r0 : EE := .x 0 (.box 33) [.s 1] none [] <|
 .x 2 (.alc [z, (.bool false), zs, z, .nsl] 56) [] none [] <|
 .out [(0, .s 0), (3, .r 0), (5, .r 2)]
def e218r1 : EE := .q 1 (.fld 3) [.s 3] none <|
 .q 2 .ld [.r 1] none <|
 .x 3 (.call 279) [.s 0, .r 2] none [] <|
 .q 5 (.ext 0) [.r 3] none <|
 .q 6 (.ext 1) [.r 3] none <|
 .x 7 (.alc [zs, zs, z] 124) [] none [] <|
 .x 8 (.st 3) [.r 7, .r 5] none [] <|
 .out [(0, .s 0), (3, .s 3), (5, .s 5), (6, .r 7), (7, .r 6)]
def e218r2 : EE := .q 0 (.fld 0) [.s 3] none <|
 .q 1 .ld [.r 0] none <|
 .out [(0, .s 0), (3, .s 3), (5, .s 5), (6, .s 6), (7, .s 7), (24, .r 1)]
def e218r3 : EE := .q 0 .eql [.s 24, .c (.int .i64 1)] none <|
 .out [(0, .s 0), (3, .s 3), (5, .s 5), (6, .s 6), (7, .s 7), (24, .s 24), (25, .r 0)]
def e218r4 : EE := .q 2 (.fld 1) [.s 6] none <|
 .q 3 .ld [.r 2] none <|
 .q 4 (.fld 2) [.s 6] none <|
 .q 5 .ld [.r 4] none <|
 .q 6 (.bld [z, (.bool false), zs, z, .nsl] [(1, 1), (2, 1), (3, 1)]) [.s 7, .r 3, .r 5] none <|
 .x 8 (.st 5) [.s 5, .r 6] none [] <|
 .out [(4, .s 0), (5, .s 5)]
def e218r5 : EE := .q 0 .eql [.s 24, .c (.int .i64 2)] none <|
 .out [(0, .s 0), (3, .s 3), (5, .s 5), (6, .s 6), (7, .s 7), (24, .s 24), (34, .r 0)]
def e218r6 : EE := .q 1 (.fld 3) [.s 3] none <|
 .q 2 .ld [.r 1] none <|
 .q 3 (.fld 6) [.s 3] none <|
 .q 4 .ld [.r 3] none <|
 .x 5 (.call 280) [.s 0, .r 2, .r 4] none [] <|
 .q 7 (.ext 0) [.r 5] none <|
 .q 8 (.ext 1) [.r 5] none <|
 .out [(0, .s 0), (5, .s 5), (6, .s 6), (7, .s 7), (8, .r 7), (9, .r 8)]
def e218r7 : EE := .q 1 .neq [.s 9, .c z] none <|
 .out [(0, .s 0), (5, .s 5), (6, .s 6), (7, .s 7), (8, .s 8), (9, .s 9), (46, .r 1)]
def e218r8 : EE := .q 2 (.bld [z, (.bool false), zs, z, .nsl] [(0, 1)]) [.s 9] none <|
 .x 4 (.st 5) [.s 5, .r 2] none [] <|
 .out [(4, .s 0), (5, .s 5)]
def e218r9 : EE := .q 2 (.fld 2) [.s 6] none <|
 .q 3 .ld [.r 2] none <|
 .q 4 .add [.r 3, .c (.int .i64 1)] none <|
 .q 5 (.bld [z, (.bool false), zs, z, .nsl] [(1, 1), (3, 1)]) [.s 7, .r 4] none <|
 .x 7 (.st 5) [.s 5, .r 5] none [] <|
 .out [(4, .s 8), (5, .s 5)]
def e218r10 : EE := .q 0 .eql [.s 24, .c (.int .i64 3)] none <|
 .out [(0, .s 0), (3, .s 3), (5, .s 5), (6, .s 6), (7, .s 7), (24, .s 24), (56, .r 0)]
def e218r11 : EE := .q 1 (.fld 3) [.s 3] none <|
 .q 2 .ld [.r 1] none <|
 .x 3 (.call 281) [.s 0, .r 2] none [] <|
 .q 5 (.ext 0) [.r 3] none <|
 .q 6 (.ext 1) [.r 3] none <|
 .out [(5, .s 5), (6, .s 6), (7, .s 7), (10, .r 5)]
def e218r12 : EE := .q 2 (.fld 2) [.s 6] none <|
 .q 3 .ld [.r 2] none <|
 .q 4 (.bld [z, (.bool false), zs, z, .nsl] [(1, 1), (3, 1)]) [.s 7, .r 3] none <|
 .x 6 (.st 5) [.s 5, .r 4] none [] <|
 .out [(4, .s 10), (5, .s 5)]
def e218r13 : EE := .q 0 .eql [.s 24, .c (.int .i64 4)] none <|
 .out [(0, .s 0), (3, .s 3), (5, .s 5), (6, .s 6), (7, .s 7), (70, .r 0)]
def e218r14 : EE := .q 1 .not [.s 7] none <|
 .q 3 (.fld 1) [.s 6] (some (.r 1, false)) <|
 .q 4 .ld [.r 3] (some (.r 1, false)) <|
 .q 5 (.fld 5) [.s 3] (some (.r 1, false)) <|
 .q 6 .ld [.r 5] (some (.r 1, false)) <|
 .q 7 .sneq [.r 4, .r 6] (some (.r 1, false)) <|
 .q 8 .pick [.r 1, .c (.bool true), .r 7] none <|
 .out [(0, .s 0), (3, .s 3), (5, .s 5), (6, .s 6), (80, .r 8)]
def e218r15 : EE := .q 1 (.fld 1) [.s 6] none <|
 .q 2 .ld [.r 1] none <|
 .q 3 (.fld 2) [.s 6] none <|
 .q 4 .ld [.r 3] none <|
 .q 5 (.bld [z, (.bool false), zs, z, .nsl] [(2, 1), (3, 1)]) [.r 2, .r 4] none <|
 .x 7 (.st 5) [.s 5, .r 5] none [] <|
 .out [(4, .s 0), (5, .s 5)]
def e218r16 : EE := .q 1 (.fld 3) [.s 3] none <|
 .q 2 .ld [.r 1] none <|
 .q 3 (.fld 6) [.s 3] none <|
 .q 4 .ld [.r 3] none <|
 .x 5 (.call 280) [.s 0, .r 2, .r 4] none [] <|
 .q 7 (.ext 0) [.r 5] none <|
 .q 8 (.ext 1) [.r 5] none <|
 .out [(5, .s 5), (6, .s 6), (12, .r 7)]
def e218r17 : EE := .q 1 (.fld 1) [.s 6] none <|
 .q 2 .ld [.r 1] none <|
 .q 3 (.fld 2) [.s 6] none <|
 .q 4 .ld [.r 3] none <|
 .q 5 .add [.r 4, .c (.int .i64 1)] none <|
 .q 6 (.bld [z, (.bool false), zs, z, .nsl] [(1, 1), (2, 1), (3, 1)]) [.c (.bool true), .r 2, .r 5] none <|
 .x 8 (.st 5) [.s 5, .r 6] none [] <|
 .out [(4, .s 12), (5, .s 5)]
def e218r18 : EE := .q 1 (.fld 3) [.s 3] none <|
 .q 2 .ld [.r 1] none <|
 .q 3 (.fld 4) [.s 3] none <|
 .q 4 .ld [.r 3] none <|
 .q 5 (.bld [zs, zs] [(0, 1), (1, 1)]) [.r 2, .r 4] none <|
 .x 6 (.call 282) [.s 0, .r 5] none [] <|
 .q 8 (.ext 0) [.r 6] none <|
 .q 9 (.ext 1) [.r 6] none <|
 .out [(0, .s 0), (5, .s 5), (14, .r 8), (15, .r 9)]
def e218r19 : EE := .q 3 (.bld [z, (.bool false), zs, z, .nsl] [(1, 1), (4, 1)]) [.s 15, .s 14] none <|
 .x 5 (.st 5) [.s 5, .r 3] none [] <|
 .out [(4, .s 0), (5, .s 5)]
def e218 : EFn := ⟨(.seq (.reg e218r0 [0, 1] 0) (.seq (.reg e218r1 [0, 3, 5] 0) (.seq (.seq (.reg e218r2 [0, 3, 5, 6, 7] 0) (.block 0 (.seq (.reg e218r3 [0, 3, 5, 6, 7, 24] 0) (.cond (.s 25) (.seq (.reg e218r4 [0, 5, 6, 7] 0) .ret) (.seq (.reg e218r5 [0, 3, 5, 6, 7, 24] 0) (.cond (.s 34) (.seq (.reg e218r6 [0, 3, 5, 6, 7] 0) (.seq (.seq (.reg e218r7 [0, 5, 6, 7, 8, 9] 0) (.cond (.s 46) (.seq (.reg e218r8 [0, 5, 9] 0) .ret) .skip)) (.seq (.reg e218r9 [5, 6, 7, 8] 0) .ret))) (.seq (.reg e218r10 [0, 3, 5, 6, 7, 24] 0) (.cond (.s 56) (.seq (.reg e218r11 [0, 3, 5, 6, 7] 0) (.seq (.reg e218r12 [5, 6, 7, 10] 0) .ret)) (.seq (.reg e218r13 [0, 3, 5, 6, 7, 24] 0) (.cond (.s 70) (.seq (.seq (.reg e218r14 [0, 3, 5, 6, 7] 0) (.cond (.s 80) (.seq (.reg e218r15 [0, 5, 6] 0) .ret) .skip)) (.seq (.reg e218r16 [0, 3, 5, 6] 0) (.seq (.reg e218r17 [5, 6, 12] 0) .ret))) .skip)))))))))) (.seq (.reg e218r18 [0, 3, 5] 0) (.seq (.reg e218r19 [0, 5, 14, 15] 0) .ret))))), [.slot 4, .cells 5 5], 117, 0⟩
theorem g218 : Good Tryz.prog 218 e218 := ⟨Tryz.f218, Tryz.func218, by kernel_rfl, by kernel_rfl, by kernel_rfl, by kernel_rfl⟩
/-! (*concord/core.Core).Top -/
def e225r0 : EE := .x 0 (.alc [z, z, z, z, z, z, z] 44) [] none [] <|
 .out [(0, .s 0), (2, .r 0)]
def e225r1 : EE := .q 1 .nl [.s 0] none <|
 .q 2 (.fld 2) [.r 1] none <|
 .q 3 .ld [.r 2] none <|
 .x 4 (.call 121) [.r 3] none [] <|
 .x 5 (.st 7) [.s 2, .r 4] none [] <|
 .out [(2, .s 2)]
def e225 : EFn := ⟨(.seq (.reg e225r0 [0] 0) (.seq (.reg e225r1 [0, 2] 0) .ret)), [.cells 2 7], 8, 0⟩
theorem g225 : Good Tryz.prog 225 e225 := ⟨Tryz.f225, Tryz.func225, by kernel_rfl, by kernel_rfl, by kernel_rfl, by kernel_rfl⟩
/-! internal/strconv.FormatInt -/
def e229r0 : EE := .out [(0, .s 0), (1, .s 1)]
def e229r1 : EE := .q 1 .eql [.s 1, .c (.int .i64 10)] none <|
 .out [(0, .s 0), (1, .s 1), (11, .r 1)]
def e229r2 : EE := .q 1 .leq [.c z, .s 0] none <|
 .q 3 .mv [.s 0] (some (.r 1, true)) <|
 .q 4 .lss [.r 3, .c (.int .i64 100)] (some (.r 1, true)) <|
 .q 5 .pick [.r 1, .r 4, .c (.bool false)] none <|
 .out [(0, .s 0), (17, .r 5)]
def e229r3 : EE := .x 1 (.call 285) [.s 0] none [] <|
 .out [(4, .r 1)]
def e229r4 : EE := .x 0 (.alc [(.int .u8 0), (.int .u8 0), (.int .u8 0), (.int .u8 0), (.int .u8 0), (.int .u8 0), (.int .u8 0), (.int .u8 0), (.int .u8 0), (.int .u8 0), (.int .u8 0), (.int .u8 0), (.int .u8 0), (.int .u8 0), (.int .u8 0), (.int .u8 0), (.int .u8 0), (.int .u8 0), (.int .u8 0), (.int .u8 0), (.int .u8 0), (.int .u8 0), (.int .u8 0), (.int .u8 0)] 402) [] none [] <|
 .out [(0, .s 0), (5, .r 0)]
def e229r5 : EE := .q 1 (.conv .u64) [.s 0] none <|
 .out [(0, .s 0), (5, .s 5), (6, .r 1)]
def e229r6 : EE := .q 1 .lss [.s 0, .c z] none <|
 .out [(0, .s 0), (5, .s 5), (6, .s 6), (23, .r 1)]
def e229r7 : EE := .q 1 .neg [.s 6] none <|
 .out [(0, .s 0), (5, .s 5), (6, .r 1)]
def e229r8 : EE := .x 1 (.call 286) [.s 6] none [] <|
 .out [(0, .s 0), (5, .s 5), (6, .s 6), (7, .r 1)]
def e229r9 : EE := .q 1 .add [.c (.int .i64 1), .s 7] none <|
 .x 2 .bad [] none [] <|
 .x 4 (.call 287) [.r 2, .s 6] none [] <|
 .out [(0, .s 0), (5, .s 5), (7, .s 7)]
def e229r10 : EE := .q 1 .lss [.s 0, .c z] none <|
 .out [(5, .s 5), (7, .s 7), (34, .r 1)]
def e229r11 : EE := .q 0 (.ixa 24 1) [.s 5, .c z] none <|
 .x 1 (.st 1) [.r 0, .c (.int .u8 45)] none [] <|
 .out [(7, .s 7)]
def e229r12 : EE := .q 1 .add [.c (.int .i64 1), .s 7] none <|
 .x 2 .bad [] none [] <|
 .q 3 .b2s [.r 2] none <|
 .out [(4, .r 3)]
def e229r13 : EE := .q 1 .add [.c (.int .i64 1), .s 7] none <|
 .x 2 .bad [] none [] <|
 .q 3 .b2s [.r 2] none <|
 .out [(4, .r 3)]
def e229r14 : EE := .q 1 (.conv .u64) [.s 0] none <|
 .q 4 .lss [.s 0, .c z] none <|
 .x 5 (.call 288) [.c .nsl, .r 1, .s 1, .r 4, .c (.bool false)] none [] <|
 .q 7 (.ext 0) [.r 5] none <|
 .q 8 (.ext 1) [.r 5] none <|
 .out [(9, .r 8)]
def e229r15 : EE := .out [(4, .s 9)]
def e229 : EFn := ⟨(.seq (.reg e229r0 [0, 1] 0) (.seq (.seq (.reg e229r1 [0, 1] 0) (.cond (.s 11) (.seq (.seq (.reg e229r2 [0] 0) (.cond (.s 17) (.seq (.reg e229r3 [0] 0) .ret) .skip)) (.seq (.reg e229r4 [0] 0) (.seq (.reg e229r5 [0, 5] 0) (.seq (.seq (.reg e229r6 [0, 5, 6] 0) (.cond (.s 23) (.reg e229r7 [0, 5, 6] 0) .skip)) (.seq (.reg e229r8 [0, 5, 6] 0) (.seq (.reg e229r9 [0, 5, 6, 7] 0) (.seq (.seq (.reg e229r10 [0, 5, 7] 0) (.cond (.s 34) (.seq (.reg e229r11 [5, 7] 0) (.seq (.reg e229r12 [7] 0) .ret)) .skip)) (.seq (.reg e229r13 [7] 0) .ret)))))))) .skip)) (.seq (.reg e229r14 [0, 1] 0) (.seq (.reg e229r15 [9] 0) .ret)))), [.slot 4], 54, 0⟩
theorem g229 : Good Tryz.prog 229 e229 := ⟨Tryz.f229, Tryz.func229, by kernel_rfl, by kernel_rfl, by kernel_rfl, by kernel_rfl⟩
/-! concord/sum.On -/
def e238r0 : EE := .out [(0, .s 0), (1, .s 1)]
def e238r1 : EE := .q 1 .cpl [.s 0] none <|
 .out [(0, .r 1), (1, .s 1)]
def e238r2 : EE := .q 1 .len [.s 1] none <|
 .out [(0, .s 0), (10, .s 1), (11, .r 1), (12, .c z)]
def e238r3 : EE := .q 0 .lss [.s 12, .s 11] none <|
 .out [(0, .s 0), (10, .s 10), (11, .s 11), (12, .s 12), (13, .r 0)]
def e238r4 : EE := .q 0 (.ixs 1) [.s 10, .s 12] none <|
 .q 1 .ld [.r 0] none <|
 .out [(0, .s 0), (6, .r 1), (10, .s 10), (11, .s 11), (12, .s 12)]
def e238r5 : EE := .q 2 (.conv .u32) [.s 6] none <|
 .q 3 .xor [.s 0, .r 2] none <|
 .out [(0, .r 3), (10, .s 10), (11, .s 11), (12, .s 12)]
def e238r6 : EE := .out [(0, .s 0), (10, .s 10), (11, .s 11), (12, .s 12), (20, .c z)]
def e238r7 : EE := .q 0 .lss [.s 20, .c (.int .i64 8)] none <|
 .out [(0, .s 0), (10, .s 10), (11, .s 11), (12, .s 12), (20, .s 20), (21, .r 0)]
def e238r8 : EE := .q 1 .and [.s 0, .c (.int .u32 1)] none <|
 .out [(0, .s 0), (7, .r 1), (10, .s 10), (11, .s 11), (12, .s 12), (20, .s 20)]
def e238r9 : EE := .q 1 .shr [.s 0, .c (.int .u64 1)] none <|
 .out [(0, .r 1), (7, .s 7), (10, .s 10), (11, .s 11), (12, .s 12), (20, .s 20)]
def e238r10 : EE := .q 1 .eql [.s 7, .c (.int .u32 1)] none <|
 .out [(0, .s 0), (10, .s 10), (11, .s 11), (12, .s 12), (20, .s 20), (27, .r 1)]
def e238r11 : EE := .q 1 .xor [.s 0, .c (.int .u32 3988292384)] none <|
 .out [(0, .r 1), (10, .s 10), (11, .s 11), (12, .s 12), (20, .s 20)]
def e238r12 : EE := .q 0 .add [.s 20, .c (.int .i64 1)] none <|
 .out [(0, .s 0), (10, .s 10), (11, .s 11), (12, .s 12), (20, .r 0)]
def e238l13 : EC := (.seq (.reg e238r7 [0, 10, 11, 12, 20] 0) (.seq (.cond (.s 21) .skip (.exit 2)) (.seq (.block 3 (.seq (.reg e238r8 [0, 10, 11, 12, 20] 0) (.seq (.reg e238r9 [0, 7, 10, 11, 12, 20] 0) (.seq (.reg e238r10 [0, 7, 10, 11, 12, 20] 0) (.cond (.s 27) (.reg e238r11 [0, 10, 11, 12, 20] 0) .skip))))) (.reg e238r12 [0, 10, 11, 12, 20] 0))))
def e238r14 : EE := .q 0 .add [.s 12, .c (.int .i64 1)] none <|
 .out [(0, .s 0), (10, .s 10), (11, .s 11), (12, .r 0)]
def e238l15 : EC := (.seq (.reg e238r3 [0, 10, 11, 12] 0) (.seq (.cond (.s 13) .skip (.exit 0)) (.seq (.block 1 (.seq (.reg e238r4 [0, 10, 11, 12] 0) (.seq (.reg e238r5 [0, 6, 10, 11, 12] 0) (.seq (.reg e238r6 [0, 10, 11, 12] 0) (.block 2 (.loop [0, 10, 11, 12, 20] e238l13)))))) (.reg e238r14 [0, 10, 11, 12] 0))))
def e238r16 : EE := .q 1 .cpl [.s 0] none <|
 .out [(4, .r 1)]
def e238 : EFn := ⟨(.seq (.reg e238r0 [0, 1] 0) (.seq (.reg e238r1 [0, 1] 0) (.seq (.seq (.reg e238r2 [0, 1] 0) (.block 0 (.loop [0, 10, 11, 12] e238l15))) (.seq (.reg e238r16 [0] 0) .ret)))), [.slot 4], 34, 0⟩
theorem g238 : Good Tryz.prog 238 e238 := ⟨Tryz.f238, Tryz.func238, by kernel_rfl, by kernel_rfl, by kernel_rfl, by kernel_rfl⟩
/-! concord/word.Zig -/
def e248r0 : EE := .out [(0, .s 0)]
def e248r1 : EE := .q 1 (.conv .u64) [.s 0] none <|
 .q 2 .shl [.r 1, .c (.int .u64 1)] none <|
 .q 4 .shr [.s 0, .c (.int .u64 63)] none <|
 .q 5 (.conv .u64) [.r 4] none <|
 .q 6 .xor [.r 2, .r 5] none <|
 .out [(2, .r 6)]
def e248 : EFn := ⟨(.seq (.reg e248r0 [0] 0) (.seq (.reg e248r1 [0] 0) .ret)), [.slot 2], 10, 0⟩
theorem g248 : Good Tryz.prog 248 e248 := ⟨Tryz.f248, Tryz.func248, by kernel_rfl, by kernel_rfl, by kernel_rfl, by kernel_rfl⟩
/-! concord/disk.may -/
def e249r0 : EE := .out [(0, .s 0)]
def e249r1 : EE := .q 1 .seql [.s 0, .c zs] none <|
 .q 3 .mv [.s 0] (some (.r 1, false)) <|
 .q 4 .lenz [.r 3] (some (.r 1, false)) <|
 .q 5 .gtr [.r 4, .c (.int .i64 24)] (some (.r 1, false)) <|
 .q 6 .pick [.r 1, .c (.bool true), .r 5] none <|
 .out [(0, .s 0), (10, .r 6)]
def e249r2 : EE := .out [(2, .c (.bool false))]
def e249r3 : EE := .q 1 .lenz [.s 0] none <|
 .out [(0, .s 0), (12, .r 1), (13, .c z)]
def e249r4 : EE := .q 0 .lss [.s 13, .s 12] none <|
 .out [(0, .s 0), (12, .s 12), (13, .s 13), (14, .r 0)]
def e249r5 : EE := .out [(0, .s 0), (3, .s 13), (12, .s 12), (13, .s 13)]
def e249r6 : EE := .q 2 .idxs [.s 0, .s 3] none <|
 .q 3 .lss [.r 2, .c (.int .u8 33)] none <|
 .q 5 .mv [.s 0] (some (.r 3, false)) <|
 .q 6 .mv [.s 3] (some (.r 3, false)) <|
 .q 7 .idxs [.r 5, .r 6] (some (.r 3, false)) <|
 .q 8 .gtr [.r 7, .c (.int .u8 126)] (some (.r 3, false)) <|
 .q 9 .pick [.r 3, .c (.bool true), .r 8] none <|
 .out [(0, .s 0), (12, .s 12), (13, .s 13), (25, .r 9)]
def e249r7 : EE := .out [(2, .c (.bool false))]
def e249r8 : EE := .q 0 .add [.s 13, .c (.int .i64 1)] none <|
 .out [(0, .s 0), (12, .s 12), (13, .r 0)]
def e249l9 : EC := (.seq (.reg e249r4 [0, 12, 13] 0) (.seq (.cond (.s 14) .skip (.exit 0)) (.seq (.block 1 (.seq (.reg e249r5 [0, 12, 13] 0) (.seq (.reg e249r6 [0, 3, 12, 13] 0) (.cond (.s 25) (.seq (.reg e249r7 [] 0) .ret) .skip)))) (.reg e249r8 [0, 12, 13] 0))))
def e249r10 : EE := .out [(2, .c (.bool true))]
def e249 : EFn := ⟨(.seq (.reg e249r0 [0] 0) (.seq (.seq (.reg e249r1 [0] 0) (.cond (.s 10) (.seq (.reg e249r2 [] 0) .ret) .skip)) (.seq (.seq (.reg e249r3 [0] 0) (.block 0 (.loop [0, 12, 13] e249l9))) (.seq (.reg e249r10 [] 0) .ret)))), [.slot 2], 27, 0⟩
theorem g249 : Good Tryz.prog 249 e249 := ⟨Tryz.f249, Tryz.func249, by kernel_rfl, by kernel_rfl, by kernel_rfl, by kernel_rfl⟩
/-! (*concord/disk.Disk).Room -/
def e250r0 : EE := .out [(0, .s 0)]
def e250r1 : EE := .q 1 .nl [.s 0] none <|
 .q 2 (.fld 0) [.r 1] none <|
 .q 3 .ld [.r 2] none <|
 .x 5 (.call 299) [.s 0] none [⟨3, .ld, [.r 2], none⟩] <|
 .q 6 .sub [.r 3, .r 5] none <|
 .out [(2, .r 6)]
def e250 : EFn := ⟨(.seq (.reg e250r0 [0] 0) (.seq (.reg e250r1 [0] 0) .ret)), [.slot 2], 10, 0⟩
theorem g250 : Good Tryz.prog 250 e250 := ⟨Tryz.f250, Tryz.func250, by kernel_rfl, by kernel_rfl, by kernel_rfl, by kernel_rfl⟩
/-! slices.Insert[[]concord/disk.file,concord/disk.file] -/
def e251r0 : EE := .out [(0, .s 0), (1, .s 1), (2, .s 2)]
def e251r1 : EE := .q 2 (.slc 3 true false) [.s 0, .s 1] none <|
 .out [(0, .s 0), (1, .s 1), (2, .s 2)]
def e251r2 : EE := .q 1 .len [.s 2] none <|
 .out [(0, .s 0), (1, .s 1), (2, .s 2), (7, .r 1)]
def e251r3 : EE := .q 1 .eql [.s 7, .c z] none <|
 .out [(0, .s 0), (1, .s 1), (2, .s 2), (7, .s 7), (16, .r 1)]
def e251r4 : EE := .out [(6, .s 0)]
def e251r5 : EE := .q 1 .len [.s 0] none <|
 .out [(0, .s 0), (1, .s 1), (2, .s 2), (7, .s 7), (8, .r 1)]
def e251r6 : EE := .q 2 .eql [.s 1, .s 8] none <|
 .out [(0, .s 0), (1, .s 1), (2, .s 2), (7, .s 7), (8, .s 8), (22, .r 2)]
def e251r7 : EE := .x 2 (.app 256 3 48 [zs, .nsl, z]) [.s 0, .s 2] none [] <|
 .out [(6, .r 2)]
def e251r8 : EE := .q 2 .add [.s 8, .s 7] none <|
 .q 4 .cap [.s 0] none <|
 .q 5 .gtr [.r 2, .r 4] none <|
 .out [(0, .s 0), (1, .s 1), (2, .s 2), (7, .s 7), (8, .s 8), (31, .r 5)]
def e251r9 : EE := .q 2 (.slc 3 false true) [.s 0, .s 1] none <|
 .q 5 .add [.s 8, .s 7] none <|
 .q 7 .sub [.r 5, .s 1] none <|
 .x 8 (.appn 256 3 48 [zs, .nsl, z]) [.r 2, .r 7] none [] <|
 .out [(0, .s 0), (1, .s 1), (2, .s 2), (7, .s 7), (9, .r 8)]
def e251r10 : EE := .q 2 (.slc 3 true false) [.s 9, .s 1] none <|
 .x 4 (.cpy 3) [.r 2, .s 2] none [] <|
 .out [(0, .s 0), (1, .s 1), (7, .s 7), (9, .s 9)]
def e251r11 : EE := .q 3 .add [.s 1, .s 7] none <|
 .q 4 (.slc 3 true false) [.s 9, .r 3] none <|
 .q 7 (.slc 3 true false) [.s 0, .s 1] none <|
 .x 8 (.cpy 3) [.r 4, .r 7] none [] <|
 .out [(9, .s 9)]
def e251r12 : EE := .out [(6, .s 9)]
def e251r13 : EE := .q 3 .add [.s 8, .s 7] none <|
 .q 4 (.slc 3 false true) [.s 0, .r 3] none <|
 .out [(0, .r 4), (1, .s 1), (2, .s 2), (7, .s 7), (8, .s 8)]
def e251r14 : EE := .q 4 .add [.s 1, .s 7] none <|
 .q 5 (.slc 3 true false) [.s 0, .r 4] none <|
 .x 6 .bad [] none [] <|
 .q 7 .not [.r 6] none <|
 .out [(0, .s 0), (1, .s 1), (2, .s 2), (7, .s 7), (8, .s 8), (68, .r 7)]
def e251r15 : EE := .q 3 .add [.s 1, .s 7] none <|
 .q 4 (.slc 3 true false) [.s 0, .r 3] none <|
 .q 7 (.slc 3 true false) [.s 0, .s 1] none <|
 .x 8 (.cpy 3) [.r 4, .r 7] none [] <|
 .out [(0, .s 0), (1, .s 1), (2, .s 2)]
def e251r16 : EE := .q 2 (.slc 3 true false) [.s 0, .s 1] none <|
 .x 4 (.cpy 3) [.r 2, .s 2] none [] <|
 .out [(0, .s 0)]
def e251r17 : EE := .out [(6, .s 0)]
def e251r18 : EE := .q 2 (.slc 3 true false) [.s 0, .s 8] none <|
 .x 4 (.cpy 3) [.r 2, .s 2] none [] <|
 .out [(0, .s 0), (1, .s 1), (7, .s 7)]
def e251r19 : EE := .q 2 (.slc 3 true false) [.s 0, .s 1] none <|
 .x 4 (.call 301) [.r 2, .s 7] none [] <|
 .out [(0, .s 0)]
def e251r20 : EE := .out [(6, .s 0)]
def e251 : EFn := ⟨(.seq (.reg e251r0 [0, 1, 2] 0) (.seq (.reg e251r1 [0, 1, 2] 0) (.seq (.reg e251r2 [0, 1, 2] 0) (.seq (.seq (.reg e251r3 [0, 1, 2, 7] 0) (.cond (.s 16) (.seq (.reg e251r4 [0] 0) .ret) .skip)) (.seq (.reg e251r5 [0, 1, 2, 7] 0) (.seq (.seq (.reg e251r6 [0, 1, 2, 7, 8] 0) (.cond (.s 22) (.seq (.reg e251r7 [0, 2] 0) .ret) .skip)) (.seq (.seq (.reg e251r8 [0, 1, 2, 7, 8] 0) (.cond (.s 31) (.seq (.reg e251r9 [0, 1, 2, 7, 8] 0) (.seq (.reg e251r10 [0, 1, 2, 7, 9] 0) (.seq (.reg e251r11 [0, 1, 7, 9] 0) (.seq (.reg e251r12 [9] 0) .ret)))) .skip)) (.seq (.reg e251r13 [0, 1, 2, 7, 8] 0) (.seq (.seq (.reg e251r14 [0, 1, 2, 7, 8] 0) (.cond (.s 68) (.seq (.reg e251r15 [0, 1, 2, 7] 0) (.seq (.reg e251r16 [0, 1, 2] 0) (.seq (.reg e251r17 [0] 0) .ret))) .skip)) (.seq (.reg e251r18 [0, 1, 2, 7, 8] 0) (.seq (.reg e251r19 [0, 1, 7] 0) (.seq (.reg e251r20 [0] 0) .ret)))))))))))), [.slot 6], 95, 0⟩
theorem g251 : Good Tryz.prog 251 e251 := ⟨Tryz.f251, Tryz.func251, by kernel_rfl, by kernel_rfl, by kernel_rfl, by kernel_rfl⟩
/-! slices.Concat[[]byte,byte] -/
def e252r0 : EE := .out [(0, .s 0)]
def e252r1 : EE := .out [(0, .s 0), (3, .c z)]
def e252r2 : EE := .q 1 .len [.s 0] none <|
 .out [(0, .s 0), (3, .s 3), (9, .s 0), (10, .r 1), (11, .c z)]
def e252r3 : EE := .q 0 .lss [.s 11, .s 10] none <|
 .out [(0, .s 0), (3, .s 3), (9, .s 9), (10, .s 10), (11, .s 11), (12, .r 0)]
def e252r4 : EE := .q 0 (.ixs 1) [.s 9, .s 11] none <|
 .q 1 .ld [.r 0] none <|
 .out [(0, .s 0), (3, .s 3), (5, .r 1), (9, .s 9), (10, .s 10), (11, .s 11)]
def e252r5 : EE := .q 2 .len [.s 5] none <|
 .q 3 .add [.s 3, .r 2] none <|
 .out [(0, .s 0), (3, .r 3), (9, .s 9), (10, .s 10), (11, .s 11)]
def e252r6 : EE := .q 1 .lss [.s 3, .c z] none <|
 .out [(0, .s 0), (3, .s 3), (9, .s 9), (10, .s 10), (11, .s 11), (20, .r 1)]
def e252r7 : EE := .q 0 (.mki 9) [.c (.str [108, 101, 110, 32, 111, 117, 116, 32, 111, 102, 32, 114, 97, 110, 103, 101])] none <|
 .x 1 .bad [] none [] <|
 .out [(0, .s 0), (3, .s 3), (9, .s 9), (10, .s 10), (11, .s 11)]
def e252r8 : EE := .q 0 .add [.s 11, .c (.int .i64 1)] none <|
 .out [(0, .s 0), (3, .s 3), (9, .s 9), (10, .s 10), (11, .r 0)]
def e252l9 : EC := (.seq (.reg e252r3 [0, 3, 9, 10, 11] 0) (.seq (.cond (.s 12) .skip (.exit 0)) (.seq (.block 1 (.seq (.reg e252r4 [0, 3, 9, 10, 11] 0) (.seq (.reg e252r5 [0, 3, 5, 9, 10, 11] 0) (.seq (.reg e252r6 [0, 3, 9, 10, 11] 0) (.cond (.s 20) (.reg e252r7 [0, 3, 9, 10, 11] 0) .skip))))) (.reg e252r8 [0, 3, 9, 10, 11] 0))))
def e252r10 : EE := .x 1 (.call 302) [.c .nsl, .s 3] none [] <|
 .out [(0, .s 0), (6, .r 1)]
def e252r11 : EE := .q 1 .len [.s 0] none <|
 .out [(6, .s 6), (25, .s 0), (26, .r 1), (27, .c z)]
def e252r12 : EE := .q 0 .lss [.s 27, .s 26] none <|
 .out [(6, .s 6), (25, .s 25), (26, .s 26), (27, .s 27), (28, .r 0)]
def e252r13 : EE := .q 0 (.ixs 1) [.s 25, .s 27] none <|
 .q 1 .ld [.r 0] none <|
 .out [(6, .s 6), (8, .r 1), (25, .s 25), (26, .s 26), (27, .s 27)]
def e252r14 : EE := .x 2 (.app 5 1 1 [(.int .u8 0)]) [.s 6, .s 8] none [] <|
 .out [(6, .r 2), (25, .s 25), (26, .s 26), (27, .s 27)]
def e252r15 : EE := .q 0 .add [.s 27, .c (.int .i64 1)] none <|
 .out [(6, .s 6), (25, .s 25), (26, .s 26), (27, .r 0)]
def e252l16 : EC := (.seq (.reg e252r12 [6, 25, 26, 27] 0) (.seq (.cond (.s 28) .skip (.exit 2)) (.seq (.block 3 (.seq (.reg e252r13 [6, 25, 26, 27] 0) (.reg e252r14 [6, 8, 25, 26, 27] 0))) (.reg e252r15 [6, 25, 26, 27] 0))))
def e252r17 : EE := .out [(2, .s 6)]
def e252 : EFn := ⟨(.seq (.reg e252r0 [0] 0) (.seq (.reg e252r1 [0] 0) (.seq (.seq (.reg e252r2 [0, 3] 0) (.block 0 (.loop [0, 3, 9, 10, 11] e252l9))) (.seq (.reg e252r10 [0, 3] 0) (.seq (.seq (.reg e252r11 [0, 6] 0) (.block 2 (.loop [6, 25, 26, 27] e252l16))) (.seq (.reg e252r17 [6] 0) .ret)))))), [.slot 2], 36, 0⟩
theorem g252 : Good Tryz.prog 252 e252 := ⟨Tryz.f252, Tryz.func252, by kernel_rfl, by kernel_rfl, by kernel_rfl, by kernel_rfl⟩
/-! (*concord/exec.plan).round -/
def e253r0 : EE := .out [(0, .s 0)]
def e253r1 : EE := .x 0 (.call 303) [.c .nsl] none [] <|
 .out [(0, .s 0), (4, .c (.bool false)), (5, .r 0)]
def e253r2 : EE := .out [(0, .s 0), (4, .s 4), (5, .s 5), (13, .c z)]
def e253r3 : EE := .q 0 .lss [.s 13, .c (.int .i64 7)] none <|
 .out [(0, .s 0), (4, .s 4), (5, .s 5), (13, .s 13), (14, .r 0)]
def e253r4 : EE := .out [(0, .s 0), (4, .s 4), (5, .s 5), (6, .s 13), (13, .s 13)]
def e253r5 : EE := .q 3 .nl [.s 0] none <|
 .q 4 (.fld 0) [.r 3] none <|
 .q 5 (.ixa 7 1) [.r 4, .s 6] none <|
 .q 6 .ld [.r 5] none <|
 .q 7 .add [.r 6, .c (.int .i64 1)] none <|
 .q 8 (.bld [z, z] [(0, 1), (1, 1)]) [.s 6, .r 7] none <|
 .x 9 (.alc [z, z] 40) [] none [] <|
 .x 10 (.st 2) [.r 9, .r 8] none [] <|
 .out [(0, .s 0), (4, .s 4), (5, .s 5), (7, .r 9), (13, .s 13)]
def e253r6 : EE := .q 1 .nl [.s 0] none <|
 .q 2 (.fld 7) [.r 1] none <|
 .q 3 .ld [.r 2] none <|
 .q 4 (.lda 2) [.s 7] none <|
 .q 5 (.lkp true [(.i .i64), (.i .i64)] (.agg [z, z, z, z, z, z, z, z, zs, zs, zs, zs, z, z, z, z, z, z, z, z, (.bool false)]) true) [.r 3, .r 4] none <|
 .q 7 (.ext 0) [.r 5] none <|
 .q 8 (.ext 1) [.r 5] none <|
 .x 9 (.alc [z, z, z, z, z, z, z, z, zs, zs, zs, zs, z, z, z, z, z, z, z, z, (.bool false)] 48) [] none [⟨3, .ld, [.r 2], none⟩, ⟨4, (.lda 2), [.s 7], none⟩, ⟨5, (.lkp true [(.i .i64), (.i .i64)] (.agg [z, z, z, z, z, z, z, z, zs, zs, zs, zs, z, z, z, z, z, z, z, z, (.bool false)]) true), [.r 3, .r 4], none⟩] <|
 .x 10 (.st 21) [.r 9, .r 7] none [] <|
 .out [(0, .s 0), (4, .s 4), (5, .s 5), (7, .s 7), (9, .r 8), (13, .s 13)]
def e253r7 : EE := .q 1 .not [.s 9] none <|
 .out [(0, .s 0), (4, .s 4), (5, .s 5), (7, .s 7), (13, .s 13), (35, .r 1)]
def e253r8 : EE := .q 1 (.lda 2) [.s 7] none <|
 .x 2 (.call 304) [.s 0, .r 1] none [] <|
 .out [(0, .s 0), (4, .s 4), (5, .s 5), (7, .s 7), (13, .s 13), (38, .r 2)]
def e253r9 : EE := .q 1 (.lda 2) [.s 7] none <|
 .x 2 (.call 305) [.s 5, .r 1] none [] <|
 .out [(0, .s 0), (4, .s 4), (5, .s 5), (13, .s 13)]
def e253r10 : EE := .q 1 (.lda 2) [.s 7] none <|
 .x 2 (.call 306) [.s 0, .r 1] none [] <|
 .q 4 (.ext 0) [.r 2] none <|
 .q 5 (.ext 1) [.r 2] none <|
 .x 6 (.alc [z, z] 40) [] none [] <|
 .x 8 (.st 2) [.r 6, .r 5] none [] <|
 .out [(0, .s 0), (4, .s 4), (5, .s 5), (10, .r 4), (11, .r 6), (13, .s 13)]
def e253r11 : EE := .q 1 .len [.s 10] none <|
 .q 2 .gtr [.r 1, .c z] none <|
 .out [(0, .s 0), (4, .s 4), (5, .s 5), (10, .s 10), (11, .s 11), (13, .s 13), (48, .r 2)]
def e253r12 : EE := .x 2 (.call 307) [.s 0, .s 10] none [] <|
 .out [(0, .s 0), (5, .s 5), (13, .s 13)]
def e253r13 : EE := .out [(0, .s 0), (4, .c (.bool true)), (5, .s 5), (13, .s 13)]
def e253r14 : EE := .q 0 (.lda 2) [.s 11] none <|
 .q 1 (.bld [z, z] []) [] none <|
 .q 2 (.eqc true [(.i .i64), (.i .i64)]) [.r 0, .r 1] none <|
 .out [(0, .s 0), (4, .s 4), (5, .s 5), (11, .s 11), (13, .s 13), (55, .r 2)]
def e253r15 : EE := .q 1 (.lda 2) [.s 11] none <|
 .x 2 (.call 305) [.s 5, .r 1] none [] <|
 .out [(0, .s 0), (4, .s 4), (5, .s 5), (13, .s 13)]
def e253r16 : EE := .q 0 .add [.s 13, .c (.int .i64 1)] none <|
 .out [(0, .s 0), (4, .s 4), (5, .s 5), (13, .r 0)]
def e253l17 : EC := (.seq (.reg e253r3 [0, 4, 5, 13] 0) (.seq (.cond (.s 14) .skip (.exit 0)) (.seq (.block 1 (.seq (.reg e253r4 [0, 4, 5, 13] 0) (.seq (.reg e253r5 [0, 4, 5, 6, 13] 0) (.seq (.seq (.reg e253r6 [0, 4, 5, 7, 13] 0) (.seq (.reg e253r7 [0, 4, 5, 7, 9, 13] 0) (.cond (.s 35) (.seq (.seq (.reg e253r8 [0, 4, 5, 7, 13] 0) (.cond (.s 38) (.reg e253r9 [0, 4, 5, 7, 13] 0) .skip)) (.exit 1)) .skip))) (.seq (.reg e253r10 [0, 4, 5, 7, 13] 0) (.block 2 (.seq (.reg e253r11 [0, 4, 5, 10, 11, 13] 0) (.cond (.s 48) (.seq (.reg e253r12 [0, 5, 10, 13] 0) (.reg e253r13 [0, 5, 13] 0)) (.seq (.reg e253r14 [0, 4, 5, 11, 13] 0) (.cond (.s 55) (.reg e253r15 [0, 4, 5, 11, 13] 0) .skip)))))))))) (.reg e253r16 [0, 4, 5, 13] 0))))
def e253r18 : EE := .out [(2, .s 4), (3, .s 5)]
def e253 : EFn := ⟨(.seq (.reg e253r0 [0] 0) (.seq (.reg e253r1 [0] 0) (.seq (.seq (.reg e253r2 [0, 4, 5] 0) (.block 0 (.loop [0, 4, 5, 13] e253l17))) (.seq (.reg e253r18 [4, 5] 0) .ret)))), [.slot 2, .slot 3], 65, 0⟩
theorem g253 : Good Tryz.prog 253 e253 := ⟨Tryz.f253, Tryz.func253, by kernel_rfl, by kernel_rfl, by kernel_rfl, by kernel_rfl⟩
/-! (*concord/inst.Set).List -/
def e254r0 : EE := .out [(0, .s 0)]
def e254r1 : EE := .out [(0, .s 0), (3, .c .nsl)]
def e254r2 : EE := .q 1 .nl [.s 0] none <|
 .q 2 (.fld 0) [.r 1] none <|
 .q 3 .ld [.r 2] none <|
 .x 4 .rng [.r 3] none [] <|
 .out [(3, .s 3), (9, .r 4)]
def e254r3 : EE := .x 0 .nxt [.s 9] none [] <|
 .q 1 (.ext 0) [.r 0] none <|
 .out [(3, .s 3), (9, .s 9), (11, .r 1)]
def e254r4 : EE := .q 0 .ent [.s 9] none <|
 .q 1 (.ext 0) [.r 0] none <|
 .x 2 (.alc [z, z] 40) [] none [] <|
 .x 3 (.st 2) [.r 2, .r 1] none [] <|
 .out [(3, .s 3), (4, .r 2), (9, .s 9)]
def e254r5 : EE := .q 1 (.lda 2) [.s 4] none <|
 .x 2 (.bsl 40 1 [z, z] [(0, 2)]) [.r 1] none [] <|
 .x 3 (.app 40 2 16 [z, z]) [.s 3, .r 2] none [] <|
 .out [(3, .r 3), (9, .s 9)]
def e254l6 : EC := (.seq (.reg e254r3 [3, 9] 0) (.seq (.cond (.s 11) .skip (.exit 0)) (.block 1 (.seq (.reg e254r4 [3, 9] 0) (.reg e254r5 [3, 4, 9] 0)))))
def e254r7 : EE := .x 1 (.call 265) [.s 3, .f 308] none [] <|
 .out [(3, .s 3)]
def e254r8 : EE := .out [(2, .s 3)]
def e254 : EFn := ⟨(.seq (.reg e254r0 [0] 0) (.seq (.reg e254r1 [0] 0) (.seq (.seq (.reg e254r2 [0, 3] 0) (.block 0 (.loop [3, 9] e254l6))) (.seq (.reg e254r7 [3] 0) (.seq (.reg e254r8 [3] 0) .ret))))), [.slot 2], 21, 0⟩
theorem g254 : Good Tryz.prog 254 e254 := ⟨Tryz.f254, Tryz.func254, by kernel_rfl, by kernel_rfl, by kernel_rfl, by kernel_rfl⟩
/-! concord/pack.Flag -/
def e258r0 : EE := .out [(0, .s 0), (1, .s 1)]
def e258r1 : EE := .out [(0, .s 0), (5, .s 1)]
def e258r2 : EE := .x 1 (.call 177) [.s 0, .c (.int .i64 1)] none [] <|
 .x 2 (.bsl 5 1 [(.int .u8 0)] [(0, 1)]) [.c (.int .u8 1)] none [] <|
 .x 3 (.app 5 1 1 [(.int .u8 0)]) [.r 1, .r 2] none [] <|
 .out [(4, .r 3)]
def e258r3 : EE := .x 1 (.call 177) [.s 0, .c (.int .i64 1)] none [] <|
 .x 2 (.bsl 5 1 [(.int .u8 0)] [(0, 1)]) [.c (.int .u8 0)] none [] <|
 .x 3 (.app 5 1 1 [(.int .u8 0)]) [.r 1, .r 2] none [] <|
 .out [(4, .r 3)]
def e258 : EFn := ⟨(.seq (.reg e258r0 [0, 1] 0) (.seq (.seq (.reg e258r1 [0, 1] 0) (.cond (.s 5) (.seq (.reg e258r2 [0] 0) .ret) .skip)) (.seq (.reg e258r3 [0] 0) .ret))), [.slot 4], 14, 0⟩
theorem g258 : Good Tryz.prog 258 e258 := ⟨Tryz.f258, Tryz.func258, by kernel_rfl, by kernel_rfl, by kernel_rfl, by kernel_rfl⟩
/-! concord/pack.Text -/
def e259r0 : EE := .out [(0, .s 0), (1, .s 1)]
def e259r1 : EE := .q 2 .lenz [.s 1] none <|
 .q 3 .add [.c (.int .i64 10), .r 2] none <|
 .x 4 (.call 177) [.s 0, .r 3] none [] <|
 .q 6 .lenz [.s 1] none <|
 .x 7 (.call 185) [.r 4, .r 6] none [] <|
 .x 9 (.apps 5) [.r 7, .s 1] none [] <|
 .out [(4, .r 9)]
def e259 : EFn := ⟨(.seq (.reg e259r0 [0, 1] 0) (.seq (.reg e259r1 [0, 1] 0) .ret)), [.slot 4], 15, 0⟩
theorem g259 : Good Tryz.prog 259 e259 := ⟨Tryz.f259, Tryz.func259, by kernel_rfl, by kernel_rfl, by kernel_rfl, by kernel_rfl⟩
/-! (*concord/log.Log).Cut -/
def e260r0 : EE := .x 0 (.alc [z, z, z, z, z, z, z] 44) [] none [] <|
 .out [(0, .s 0), (2, .r 0)]
def e260r1 : EE := .q 1 .nl [.s 0] none <|
 .q 2 (.fld 1) [.r 1] none <|
 .q 3 (.lda 7) [.r 2] none <|
 .x 4 (.st 7) [.s 2, .r 3] none [] <|
 .out [(2, .s 2)]
def e260 : EFn := ⟨(.seq (.reg e260r0 [0] 0) (.seq (.reg e260r1 [0, 2] 0) .ret)), [.cells 2 7], 7, 0⟩
theorem g260 : Good Tryz.prog 260 e260 := ⟨Tryz.f260, Tryz.func260, by kernel_rfl, by kernel_rfl, by kernel_rfl, by kernel_rfl⟩
/-! slices.DeleteFunc[[]*concord/core.lead,*concord/core.lead] -/
def e261r0 : EE := .out [(0, .s 0), (1, .s 1)]
def e261r1 : EE := .x 2 (.call 311) [.s 0, .s 1] none [] <|
 .out [(0, .s 0), (1, .s 1), (5, .r 2)]
def e261r2 : EE := .q 1 .eql [.s 5, .c (.int .i64 (-1))] none <|
 .out [(0, .s 0), (1, .s 1), (5, .s 5), (12, .r 1)]
def e261r3 : EE := .out [(4, .s 0)]
def e261r4 : EE := .q 1 .add [.s 5, .c (.int .i64 1)] none <|
 .out [(0, .s 0), (1, .s 1), (5, .s 5), (6, .r 1)]
def e261r5 : EE := .q 2 .len [.s 0] none <|
 .q 3 .lss [.s 6, .r 2] none <|
 .out [(0, .s 0), (1, .s 1), (5, .s 5), (6, .s 6), (19, .r 3)]
def e261r6 : EE := .q 2 (.ixs 1) [.s 0, .s 6] none <|
 .q 3 .ld [.r 2] none <|
 .out [(0, .s 0), (1, .s 1), (5, .s 5), (6, .s 6), (7, .r 3)]
def e261r7 : EE := .x 2 .callv [.s 1, .s 7] none [] <|
 .q 3 .not [.r 2] none <|
 .out [(0, .s 0), (1, .s 1), (5, .s 5), (6, .s 6), (7, .s 7), (29, .r 3)]
def e261r8 : EE := .q 3 (.ixs 1) [.s 0, .s 5] none <|
 .x 4 (.st 1) [.r 3, .s 7] none [] <|
 .out [(0, .s 0), (1, .s 1), (5, .s 5), (6, .s 6)]
def e261r9 : EE := .q 1 .add [.s 5, .c (.int .i64 1)] none <|
 .out [(0, .s 0), (1, .s 1), (5, .r 1), (6, .s 6)]
def e261r10 : EE := .q 1 .add [.s 6, .c (.int .i64 1)] none <|
 .out [(0, .s 0), (1, .s 1), (5, .s 5), (6, .r 1)]
def e261l11 : EC := (.seq (.seq (.reg e261r5 [0, 1, 5, 6] 0) (.cond (.s 19) .skip (.exit 0))) (.seq (.block 1 (.seq (.reg e261r6 [0, 1, 5, 6] 0) (.seq (.reg e261r7 [0, 1, 5, 6, 7] 0) (.cond (.s 29) (.seq (.reg e261r8 [0, 1, 5, 6, 7] 0) (.reg e261r9 [0, 1, 5, 6] 0)) .skip)))) (.reg e261r10 [0, 1, 5, 6] 0)))
def e261r12 : EE := .q 2 (.slc 1 true false) [.s 0, .s 5] none <|
 .x 3 (.clr [.nptr]) [.r 2] none [] <|
 .out [(0, .s 0), (5, .s 5)]
def e261r13 : EE := .q 2 (.slc 1 false true) [.s 0, .s 5] none <|
 .out [(4, .r 2)]
def e261 : EFn := ⟨(.seq (.reg e261r0 [0, 1] 0) (.seq (.reg e261r1 [0, 1] 0) (.seq (.seq (.reg e261r2 [0, 1, 5] 0) (.cond (.s 12) (.seq (.reg e261r3 [0] 0) .ret) .skip)) (.seq (.seq (.reg e261r4 [0, 1, 5] 0) (.block 0 (.loop [0, 1, 5, 6] e261l11))) (.seq (.reg e261r12 [0, 5] 0) (.seq (.reg e261r13 [0, 5] 0) .ret)))))), [.slot 4], 42, 0⟩
theorem g261 : Good Tryz.prog 261 e261 := ⟨Tryz.f261, Tryz.func261, by kernel_rfl, by kernel_rfl, by kernel_rfl, by kernel_rfl⟩
/-! concord/letter.PutCell -/
def e264r0 : EE := .x 0 (.box 48) [.s 1] none [] <|
 .out [(0, .s 0), (3, .r 0)]
def e264r1 : EE := .q 0 (.lda 21) [.s 3] none <|
 .x 1 (.call 131) [.r 0] none [] <|
 .q 2 .not [.r 1] none <|
 .out [(0, .s 0), (3, .s 3), (7, .r 2)]
def e264r2 : EE := .x 1 (.app 5 1 1 [(.int .u8 0)]) [.c .nsl, .s 0] none [] <|
 .out [(4, .r 1)]
def e264r3 : EE := .q 1 (.fld 0) [.s 3] none <|
 .q 2 .ld [.r 1] none <|
 .q 4 (.fld 1) [.s 3] none <|
 .q 5 (.lda 2) [.r 4] none <|
 .x 3 (.call 109) [.s 0, .r 2] none [⟨5, (.lda 2), [.r 4], none⟩] <|
 .x 6 (.call 312) [.r 3, .r 5] none [] <|
 .out [(0, .r 6), (3, .s 3)]
def e264r4 : EE := .q 0 (.fld 0) [.s 3] none <|
 .q 1 .ld [.r 0] none <|
 .q 2 .eql [.r 1, .c z] none <|
 .out [(0, .s 0), (3, .s 3), (19, .r 2)]
def e264r5 : EE := .out [(4, .s 0)]
def e264r6 : EE := .q 1 (.fld 3) [.s 3] none <|
 .q 2 (.lda 2) [.r 1] none <|
 .q 4 (.fld 5) [.s 3] none <|
 .q 5 (.lda 7) [.r 4] none <|
 .x 3 (.call 312) [.s 0, .r 2] none [⟨5, (.lda 7), [.r 4], none⟩] <|
 .x 6 (.call 313) [.r 3, .r 5] none [] <|
 .out [(0, .r 6), (3, .s 3)]
def e264r7 : EE := .q 1 (.fld 12) [.s 3] none <|
 .q 2 (.lda 8) [.r 1] none <|
 .q 4 (.fld 20) [.s 3] none <|
 .q 5 .ld [.r 4] none <|
 .x 3 (.call 314) [.s 0, .r 2] none [⟨5, .ld, [.r 4], none⟩] <|
 .x 6 (.call 258) [.r 3, .r 5] none [] <|
 .out [(4, .r 6)]
def e264 : EFn := ⟨(.seq (.reg e264r0 [0, 1] 0) (.seq (.seq (.reg e264r1 [0, 3] 0) (.cond (.s 7) (.seq (.reg e264r2 [0] 0) .ret) .skip)) (.seq (.reg e264r3 [0, 3] 0) (.seq (.seq (.reg e264r4 [0, 3] 0) (.cond (.s 19) (.seq (.reg e264r5 [0] 0) .ret) .skip)) (.seq (.reg e264r6 [0, 3] 0) (.seq (.reg e264r7 [0, 3] 0) .ret)))))), [.slot 4], 35, 0⟩
theorem g264 : Good Tryz.prog 264 e264 := ⟨Tryz.f264, Tryz.func264, by kernel_rfl, by kernel_rfl, by kernel_rfl, by kernel_rfl⟩
/-! slices.SortFunc[[]concord/api.Inst,concord/api.Inst] -/
def e265r0 : EE := .q 1 .len [.s 0] none <|
 .out [(0, .s 0), (1, .s 1), (4, .r 1)]
def e265r1 : EE := .q 3 (.conv .u64) [.s 4] none <|
 .x 4 (.call 316) [.r 3] none [] <|
 .x 6 (.call 315) [.s 0, .c z, .s 4, .r 4, .s 1] none [] <|
 .out []
def e265 : EFn := ⟨(.seq (.reg e265r0 [0, 1] 0) (.reg e265r1 [0, 1, 4] 0)), [], 14, 0⟩
theorem g265 : Good Tryz.prog 265 e265 := ⟨Tryz.f265, Tryz.func265, by kernel_rfl, by kernel_rfl, by kernel_rfl, by kernel_rfl⟩
/-! slices.Insert[[]*concord/core.lead,*concord/core.lead] -/
def e268r0 : EE := .out [(0, .s 0), (1, .s 1), (2, .s 2)]
def e268r1 : EE := .q 2 (.slc 1 true false) [.s 0, .s 1] none <|
 .out [(0, .s 0), (1, .s 1), (2, .s 2)]
def e268r2 : EE := .q 1 .len [.s 2] none <|
 .out [(0, .s 0), (1, .s 1), (2, .s 2), (7, .r 1)]
def e268r3 : EE := .q 1 .eql [.s 7, .c z] none <|
 .out [(0, .s 0), (1, .s 1), (2, .s 2), (7, .s 7), (16, .r 1)]
def e268r4 : EE := .out [(6, .s 0)]
def e268r5 : EE := .q 1 .len [.s 0] none <|
 .out [(0, .s 0), (1, .s 1), (2, .s 2), (7, .s 7), (8, .r 1)]
def e268r6 : EE := .q 2 .eql [.s 1, .s 8] none <|
 .out [(0, .s 0), (1, .s 1), (2, .s 2), (7, .s 7), (8, .s 8), (22, .r 2)]
def e268r7 : EE := .x 2 (.app 225 1 8 [.nptr]) [.s 0, .s 2] none [] <|
 .out [(6, .r 2)]
def e268r8 : EE := .q 2 .add [.s 8, .s 7] none <|
 .q 4 .cap [.s 0] none <|
 .q 5 .gtr [.r 2, .r 4] none <|
 .out [(0, .s 0), (1, .s 1), (2, .s 2), (7, .s 7), (8, .s 8), (31, .r 5)]
def e268r9 : EE := .q 2 (.slc 1 false true) [.s 0, .s 1] none <|
 .q 5 .add [.s 8, .s 7] none <|
 .q 7 .sub [.r 5, .s 1] none <|
 .x 8 (.appn 225 1 8 [.nptr]) [.r 2, .r 7] none [] <|
 .out [(0, .s 0), (1, .s 1), (2, .s 2), (7, .s 7), (9, .r 8)]
def e268r10 : EE := .q 2 (.slc 1 true false) [.s 9, .s 1] none <|
 .x 4 (.cpy 1) [.r 2, .s 2] none [] <|
 .out [(0, .s 0), (1, .s 1), (7, .s 7), (9, .s 9)]
def e268r11 : EE := .q 3 .add [.s 1, .s 7] none <|
 .q 4 (.slc 1 true false) [.s 9, .r 3] none <|
 .q 7 (.slc 1 true false) [.s 0, .s 1] none <|
 .x 8 (.cpy 1) [.r 4, .r 7] none [] <|
 .out [(9, .s 9)]
def e268r12 : EE := .out [(6, .s 9)]
def e268r13 : EE := .q 3 .add [.s 8, .s 7] none <|
 .q 4 (.slc 1 false true) [.s 0, .r 3] none <|
 .out [(0, .r 4), (1, .s 1), (2, .s 2), (7, .s 7), (8, .s 8)]
def e268r14 : EE := .q 4 .add [.s 1, .s 7] none <|
 .q 5 (.slc 1 true false) [.s 0, .r 4] none <|
 .x 6 .bad [] none [] <|
 .q 7 .not [.r 6] none <|
 .out [(0, .s 0), (1, .s 1), (2, .s 2), (7, .s 7), (8, .s 8), (68, .r 7)]
def e268r15 : EE := .q 3 .add [.s 1, .s 7] none <|
 .q 4 (.slc 1 true false) [.s 0, .r 3] none <|
 .q 7 (.slc 1 true false) [.s 0, .s 1] none <|
 .x 8 (.cpy 1) [.r 4, .r 7] none [] <|
 .out [(0, .s 0), (1, .s 1), (2, .s 2)]
def e268r16 : EE := .q 2 (.slc 1 true false) [.s 0, .s 1] none <|
 .x 4 (.cpy 1) [.r 2, .s 2] none [] <|
 .out [(0, .s 0)]
def e268r17 : EE := .out [(6, .s 0)]
def e268r18 : EE := .q 2 (.slc 1 true false) [.s 0, .s 8] none <|
 .x 4 (.cpy 1) [.r 2, .s 2] none [] <|
 .out [(0, .s 0), (1, .s 1), (7, .s 7)]
def e268r19 : EE := .q 2 (.slc 1 true false) [.s 0, .s 1] none <|
 .x 4 (.call 318) [.r 2, .s 7] none [] <|
 .out [(0, .s 0)]
def e268r20 : EE := .out [(6, .s 0)]
def e268 : EFn := ⟨(.seq (.reg e268r0 [0, 1, 2] 0) (.seq (.reg e268r1 [0, 1, 2] 0) (.seq (.reg e268r2 [0, 1, 2] 0) (.seq (.seq (.reg e268r3 [0, 1, 2, 7] 0) (.cond (.s 16) (.seq (.reg e268r4 [0] 0) .ret) .skip)) (.seq (.reg e268r5 [0, 1, 2, 7] 0) (.seq (.seq (.reg e268r6 [0, 1, 2, 7, 8] 0) (.cond (.s 22) (.seq (.reg e268r7 [0, 2] 0) .ret) .skip)) (.seq (.seq (.reg e268r8 [0, 1, 2, 7, 8] 0) (.cond (.s 31) (.seq (.reg e268r9 [0, 1, 2, 7, 8] 0) (.seq (.reg e268r10 [0, 1, 2, 7, 9] 0) (.seq (.reg e268r11 [0, 1, 7, 9] 0) (.seq (.reg e268r12 [9] 0) .ret)))) .skip)) (.seq (.reg e268r13 [0, 1, 2, 7, 8] 0) (.seq (.seq (.reg e268r14 [0, 1, 2, 7, 8] 0) (.cond (.s 68) (.seq (.reg e268r15 [0, 1, 2, 7] 0) (.seq (.reg e268r16 [0, 1, 2] 0) (.seq (.reg e268r17 [0] 0) .ret))) .skip)) (.seq (.reg e268r18 [0, 1, 2, 7, 8] 0) (.seq (.reg e268r19 [0, 1, 7] 0) (.seq (.reg e268r20 [0] 0) .ret)))))))))))), [.slot 6], 95, 0⟩
theorem g268 : Good Tryz.prog 268 e268 := ⟨Tryz.f268, Tryz.func268, by kernel_rfl, by kernel_rfl, by kernel_rfl, by kernel_rfl⟩
/-! (*concord/core.Core).leave$1 -/
def e270r0 : EE := .out [(0, .s 0), (1, .s 1)]
def e270r1 : EE := .q 1 .nl [.s 0] none <|
 .q 2 (.fld 0) [.r 1] none <|
 .q 3 (.lda 2) [.r 2] none <|
 .q 4 (.lda 2) [.s 1] none <|
 .q 5 (.eqc false [(.i .i64), (.i .i64)]) [.r 3, .r 4] none <|
 .out [(3, .r 5)]
def e270 : EFn := ⟨(.seq (.reg e270r0 [0, 1] 0) (.seq (.reg e270r1 [0, 1] 0) .ret)), [.slot 3], 10, 0⟩
theorem g270 : Good Tryz.prog 270 e270 := ⟨Tryz.f270, Tryz.func270, by kernel_rfl, by kernel_rfl, by kernel_rfl, by kernel_rfl⟩
/-! concord/deps.Join -/
def e271r0 : EE := .x 0 (.alc [z, z, z, z, z, z, z, z] 46) [] none [] <|
 .out [(0, .s 0), (2, .r 0)]
def e271r1 : EE := .q 1 .len [.s 0] none <|
 .q 2 .eql [.r 1, .c z] none <|
 .out [(0, .s 0), (2, .s 2), (10, .r 2)]
def e271r2 : EE := .q 0 (.bld [z, z, z, z, z, z, z, z] []) [] none <|
 .x 1 (.st 8) [.s 2, .r 0] none [] <|
 .out [(2, .s 2)]
def e271r3 : EE := .q 1 (.ixs 8) [.s 0, .c z] none <|
 .q 2 (.lda 8) [.r 1] none <|
 .x 3 (.alc [z, z, z, z, z, z, z, z] 46) [] none [] <|
 .x 4 (.st 8) [.r 3, .r 2] none [] <|
 .out [(0, .s 0), (2, .s 2), (3, .r 3)]
def e271r4 : EE := .q 1 (.slc 8 true false) [.s 0, .c (.int .i64 1)] none <|
 .q 2 .len [.r 1] none <|
 .out [(2, .s 2), (3, .s 3), (16, .r 1), (17, .r 2), (18, .c z)]
def e271r5 : EE := .q 0 .lss [.s 18, .s 17] none <|
 .out [(2, .s 2), (3, .s 3), (16, .s 16), (17, .s 17), (18, .s 18), (19, .r 0)]
def e271r6 : EE := .q 0 (.ixs 8) [.s 16, .s 18] none <|
 .q 1 (.lda 8) [.r 0] none <|
 .x 2 (.alc [z, z, z, z, z, z, z, z] 46) [] none [] <|
 .x 3 (.st 8) [.r 2, .r 1] none [] <|
 .out [(2, .s 2), (3, .s 3), (5, .r 2), (16, .s 16), (17, .s 17), (18, .s 18)]
def e271r7 : EE := .q 0 (.fld 0) [.s 3] none <|
 .q 1 .ld [.r 0] none <|
 .q 2 (.fld 0) [.s 5] none <|
 .q 3 .ld [.r 2] none <|
 .q 4 .mx [.r 1, .r 3] none <|
 .q 5 (.fld 0) [.s 3] none <|
 .x 6 (.st 1) [.r 5, .r 4] none [] <|
 .out [(2, .s 2), (3, .s 3), (5, .s 5), (16, .s 16), (17, .s 17), (18, .s 18)]
def e271r8 : EE := .q 0 (.fld 1) [.s 5] none <|
 .q 1 (.lda 7) [.r 0] none <|
 .out [(2, .s 2), (3, .s 3), (16, .s 16), (17, .s 17), (18, .s 18), (29, .r 1), (30, .c z)]
def e271r9 : EE := .q 0 .lss [.s 30, .c (.int .i64 7)] none <|
 .out [(2, .s 2), (3, .s 3), (16, .s 16), (17, .s 17), (18, .s 18), (29, .s 29), (30, .s 30), (31, .r 0)]
def e271r10 : EE := .q 1 (.idx 7 1) [.s 29, .s 30] none <|
 .out [(2, .s 2), (3, .s 3), (6, .s 30), (7, .r 1), (16, .s 16), (17, .s 17), (18, .s 18), (29, .s 29), (30, .s 30)]
def e271r11 : EE := .q 2 (.fld 1) [.s 3] none <|
 .q 3 (.ixa 7 1) [.r 2, .s 6] none <|
 .q 4 .ld [.r 3] none <|
 .q 6 .mx [.r 4, .s 7] none <|
 .q 7 (.fld 1) [.s 3] none <|
 .q 8 (.ixa 7 1) [.r 7, .s 6] none <|
 .x 9 (.st 1) [.r 8, .r 6] none [] <|
 .out [(2, .s 2), (3, .s 3), (16, .s 16), (17, .s 17), (18, .s 18), (29, .s 29), (30, .s 30)]
def e271r12 : EE := .q 0 .add [.s 30, .c (.int .i64 1)] none <|
 .out [(2, .s 2), (3, .s 3), (16, .s 16), (17, .s 17), (18, .s 18), (29, .s 29), (30, .r 0)]
def e271l13 : EC := (.seq (.reg e271r9 [2, 3, 16, 17, 18, 29, 30] 0) (.seq (.cond (.s 31) .skip (.exit 2)) (.seq (.block 3 (.seq (.reg e271r10 [2, 3, 16, 17, 18, 29, 30] 0) (.reg e271r11 [2, 3, 6, 7, 16, 17, 18, 29, 30] 0))) (.reg e271r12 [2, 3, 16, 17, 18, 29, 30] 0))))
def e271r14 : EE := .q 0 .add [.s 18, .c (.int .i64 1)] none <|
 .out [(2, .s 2), (3, .s 3), (16, .s 16), (17, .s 17), (18, .r 0)]
def e271l15 : EC := (.seq (.reg e271r5 [2, 3, 16, 17, 18] 0) (.seq (.cond (.s 19) .skip (.exit 0)) (.seq (.block 1 (.seq (.reg e271r6 [2, 3, 16, 17, 18] 0) (.seq (.reg e271r7 [2, 3, 5, 16, 17, 18] 0) (.seq (.reg e271r8 [2, 3, 5, 16, 17, 18] 0) (.block 2 (.loop [2, 3, 16, 17, 18, 29, 30] e271l13)))))) (.reg e271r14 [2, 3, 16, 17, 18] 0))))
def e271r16 : EE := .q 0 (.lda 8) [.s 3] none <|
 .x 1 (.st 8) [.s 2, .r 0] none [] <|
 .out [(2, .s 2)]
def e271 : EFn := ⟨(.seq (.reg e271r0 [0] 0) (.seq (.seq (.reg e271r1 [0, 2] 0) (.cond (.s 10) (.seq (.reg e271r2 [2] 0) .ret) .skip)) (.seq (.reg e271r3 [0, 2] 0) (.seq (.seq (.reg e271r4 [0, 2, 3] 0) (.block 0 (.loop [2, 3, 16, 17, 18] e271l15))) (.seq (.reg e271r16 [2, 3] 0) .ret))))), [.cells 2 8], 46, 0⟩
theorem g271 : Good Tryz.prog 271 e271 := ⟨Tryz.f271, Tryz.func271, by kernel_rfl, by kernel_rfl, by kernel_rfl, by kernel_rfl⟩
/-! concord/quorum.Pre -/
def e272r0 : EE := .x 0 (.box 46) [.s 2] none [] <|
 .x 2 (.alc [z, z, z, z, z, z, z, z] 46) [] none [] <|
 .out [(0, .s 0), (1, .s 1), (3, .s 3), (4, .s 4), (7, .r 0), (11, .r 2)]
def e272r1 : EE := .out [(0, .s 0), (1, .s 1), (3, .s 3), (4, .s 4), (7, .s 7), (11, .s 11), (12, .c z)]
def e272r2 : EE := .q 1 .len [.s 3] none <|
 .out [(0, .s 0), (1, .s 1), (3, .s 3), (4, .s 4), (7, .s 7), (11, .s 11), (12, .s 12), (15, .s 3), (16, .r 1), (17, .c z)]
def e272r3 : EE := .q 0 .lss [.s 17, .s 16] none <|
 .out [(0, .s 0), (1, .s 1), (3, .s 3), (4, .s 4), (7, .s 7), (11, .s 11), (12, .s 12), (15, .s 15), (16, .s 16), (17, .s 17), (18, .r 0)]
def e272r4 : EE := .q 0 (.ixs 8) [.s 15, .s 17] none <|
 .q 1 (.lda 8) [.r 0] none <|
 .x 2 (.alc [z, z, z, z, z, z, z, z] 46) [] none [] <|
 .x 3 (.st 8) [.r 2, .r 1] none [] <|
 .out [(0, .s 0), (1, .s 1), (3, .s 3), (4, .s 4), (7, .s 7), (11, .s 11), (12, .s 12), (14, .r 2), (15, .s 15), (16, .s 16), (17, .s 17)]
def e272r5 : EE := .q 0 (.lda 8) [.s 14] none <|
 .q 1 (.lda 8) [.s 7] none <|
 .q 2 (.eqc false [(.i .i64), (.i .i64), (.i .i64), (.i .i64), (.i .i64), (.i .i64), (.i .i64), (.i .i64)]) [.r 0, .r 1] none <|
 .out [(0, .s 0), (1, .s 1), (3, .s 3), (4, .s 4), (7, .s 7), (11, .s 11), (12, .s 12), (15, .s 15), (16, .s 16), (17, .s 17), (23, .r 2)]
def e272r6 : EE := .q 1 .add [.s 12, .c (.int .i64 1)] none <|
 .out [(0, .s 0), (1, .s 1), (3, .s 3), (4, .s 4), (7, .s 7), (11, .s 11), (12, .r 1), (15, .s 15), (16, .s 16), (17, .s 17)]
def e272r7 : EE := .q 0 .add [.s 17, .c (.int .i64 1)] none <|
 .out [(0, .s 0), (1, .s 1), (3, .s 3), (4, .s 4), (7, .s 7), (11, .s 11), (12, .s 12), (15, .s 15), (16, .s 16), (17, .r 0)]
def e272l8 : EC := (.seq (.reg e272r3 [0, 1, 3, 4, 7, 11, 12, 15, 16, 17] 0) (.seq (.cond (.s 18) .skip (.exit 0)) (.seq (.block 1 (.seq (.reg e272r4 [0, 1, 3, 4, 7, 11, 12, 15, 16, 17] 0) (.seq (.reg e272r5 [0, 1, 3, 4, 7, 11, 12, 14, 15, 16, 17] 0) (.cond (.s 23) (.reg e272r6 [0, 1, 3, 4, 7, 11, 12, 15, 16, 17] 0) .skip)))) (.reg e272r7 [0, 1, 3, 4, 7, 11, 12, 15, 16, 17] 0))))
def e272r9 : EE := .q 2 .mv [.s 12] (some (.s 1, true)) <|
 .q 3 .mv [.s 0] (some (.s 1, true)) <|
 .x 4 (.call 321) [.r 3] (some (.s 1, true)) [] <|
 .q 5 .sub [.r 4, .c (.int .i64 1)] (some (.s 1, true)) <|
 .q 6 .geq [.r 2, .r 5] (some (.s 1, true)) <|
 .q 7 .pick [.s 1, .r 6, .c (.bool false)] none <|
 .out [(0, .s 0), (1, .s 1), (3, .s 3), (4, .s 4), (7, .s 7), (11, .s 11), (12, .s 12), (34, .r 7)]
def e272r10 : EE := .q 0 (.lda 8) [.s 7] none <|
 .x 2 (.st 8) [.s 11, .r 0] none [] <|
 .out [(10, .c (.int .i64 1)), (11, .s 11)]
def e272r11 : EE := .q 1 .len [.s 3] none <|
 .x 3 (.call 213) [.s 0] none [] <|
 .q 4 .sub [.r 3, .c (.int .i64 1)] none <|
 .q 5 .lss [.r 1, .r 4] none <|
 .q 7 .mv [.s 1] (some (.r 5, false)) <|
 .q 8 .mv [.r 7] (some (.r 5, false)) <|
 .q 9 .mv [.s 4] (some (.r 8, true)) <|
 .q 10 .not [.r 9] (some (.r 8, true)) <|
 .q 11 .pick [.r 8, .r 10, .c (.bool false)] (some (.r 5, false)) <|
 .q 12 .mv [.r 11] (some (.r 5, false)) <|
 .q 13 .mv [.s 3] (some (.r 12, true)) <|
 .q 14 .len [.r 13] (some (.r 12, true)) <|
 .q 15 .mv [.s 12] (some (.r 12, true)) <|
 .q 16 .sub [.r 14, .r 15] (some (.r 12, true)) <|
 .q 17 .lss [.r 16, .c (.int .i64 2)] (some (.r 12, true)) <|
 .q 18 .pick [.r 12, .r 17, .c (.bool false)] (some (.r 5, false)) <|
 .q 19 .pick [.r 5, .c (.bool true), .r 18] none <|
 .out [(3, .s 3), (7, .s 7), (11, .s 11), (55, .r 19)]
def e272r12 : EE := .q 0 (.bld [z, z, z, z, z, z, z, z] []) [] none <|
 .x 2 (.st 8) [.s 11, .r 0] none [] <|
 .out [(10, .c z), (11, .s 11)]
def e272r13 : EE := .q 0 (.lda 8) [.s 7] none <|
 .x 1 (.bsl 46 1 [z, z, z, z, z, z, z, z] [(0, 8)]) [.r 0] none [] <|
 .x 3 (.app 46 8 64 [z, z, z, z, z, z, z, z]) [.r 1, .s 3] none [] <|
 .x 4 (.call 271) [.r 3] none [] <|
 .x 6 (.st 8) [.s 11, .r 4] none [] <|
 .out [(10, .c (.int .i64 2)), (11, .s 11)]
def e272 : EFn := ⟨(.seq (.reg e272r0 [0, 1, 2, 3, 4] 0) (.seq (.reg e272r1 [0, 1, 3, 4, 7, 11] 0) (.seq (.seq (.reg e272r2 [0, 1, 3, 4, 7, 11, 12] 0) (.block 0 (.loop [0, 1, 3, 4, 7, 11, 12, 15, 16, 17] e272l8))) (.seq (.seq (.reg e272r9 [0, 1, 3, 4, 7, 11, 12] 0) (.cond (.s 34) (.seq (.reg e272r10 [7, 11] 0) .ret) .skip)) (.seq (.seq (.reg e272r11 [0, 1, 3, 4, 7, 11, 12] 0) (.cond (.s 55) (.seq (.reg e272r12 [11] 0) .ret) .skip)) (.seq (.reg e272r13 [3, 7, 11] 0) .ret)))))), [.slot 10, .cells 11 8], 62, 0⟩
theorem g272 : Good Tryz.prog 272 e272 := ⟨Tryz.f272, Tryz.func272, by kernel_rfl, by kernel_rfl, by kernel_rfl, by kernel_rfl⟩
/-! concord/dedup.known -/
def e277r0 : EE := .out [(0, .s 0)]
def e277r1 : EE := .q 1 .geq [.s 0, .c (.int .i64 1)] none <|
 .q 3 .mv [.s 0] (some (.r 1, true)) <|
 .q 4 .leq [.r 3, .c (.int .i64 8)] (some (.r 1, true)) <|
 .q 5 .pick [.r 1, .r 4, .c (.bool false)] none <|
 .out [(2, .r 5)]
def e277 : EFn := ⟨(.seq (.reg e277r0 [0] 0) (.seq (.reg e277r1 [0] 0) .ret)), [.slot 2], 9, 0⟩
theorem g277 : Good Tryz.prog 277 e277 := ⟨Tryz.f277, Tryz.func277, by kernel_rfl, by kernel_rfl, by kernel_rfl, by kernel_rfl⟩
/-! concord/dedup.copied -/
def e278r0 : EE := .x 0 (.box 56) [.s 0] none [] <|
 .x 1 (.alc [z, (.bool false), zs, z, .nsl] 56) [] none [] <|
 .out [(1, .r 0), (2, .r 1)]
def e278r1 : EE := .q 0 (.fld 4) [.s 1] none <|
 .q 1 .ld [.r 0] none <|
 .x 2 (.call 64) [.r 1] none [] <|
 .q 3 (.fld 4) [.s 1] none <|
 .x 4 (.st 1) [.r 3, .r 2] none [] <|
 .out [(1, .s 1), (2, .s 2)]
def e278r2 : EE := .q 0 (.lda 5) [.s 1] none <|
 .x 1 (.st 5) [.s 2, .r 0] none [] <|
 .out [(2, .s 2)]
def e278 : EFn := ⟨(.seq (.reg e278r0 [0] 0) (.seq (.reg e278r1 [1, 2] 0) (.seq (.reg e278r2 [1, 2] 0) .ret))), [.cells 2 5], 8, 0⟩
theorem g278 : Good Tryz.prog 278 e278 := ⟨Tryz.f278, Tryz.func278, by kernel_rfl, by kernel_rfl, by kernel_rfl, by kernel_rfl⟩
/-! concord/kv.Get -/
def e279r0 : EE := .x 0 (.alc [zs, zs, z] 124) [] none [] <|
 .out [(0, .s 0), (1, .s 1), (4, .r 0)]
def e279r1 : EE := .x 2 (.call 323) [.s 0, .s 1] none [] <|
 .q 4 (.ext 0) [.r 2] none <|
 .q 5 (.ext 1) [.r 2] none <|
 .out [(0, .s 0), (4, .s 4), (6, .r 4), (7, .r 5)]
def e279r2 : EE := .q 1 .not [.s 7] none <|
 .out [(0, .s 0), (4, .s 4), (6, .s 6), (15, .r 1)]
def e279r3 : EE := .q 0 (.bld [zs, zs, z] []) [] none <|
 .x 1 (.st 3) [.s 4, .r 0] none [] <|
 .out [(4, .s 4), (5, .c (.bool false))]
def e279r4 : EE := .q 2 (.ixs 3) [.s 0, .s 6] none <|
 .q 3 (.lda 3) [.r 2] none <|
 .x 4 (.st 3) [.s 4, .r 3] none [] <|
 .out [(4, .s 4), (5, .c (.bool true))]
def e279 : EFn := ⟨(.seq (.reg e279r0 [0, 1] 0) (.seq (.reg e279r1 [0, 1, 4] 0) (.seq (.seq (.reg e279r2 [0, 4, 6, 7] 0) (.cond (.s 15) (.seq (.reg e279r3 [4] 0) .ret) .skip)) (.seq (.reg e279r4 [0, 4, 6] 0) .ret)))), [.cells 4 3, .slot 5], 21, 0⟩
theorem g279 : Good Tryz.prog 279 e279 := ⟨Tryz.f279, Tryz.func279, by kernel_rfl, by kernel_rfl, by kernel_rfl, by kernel_rfl⟩
/-! concord/kv.Put -/
def e280r0 : EE := .out [(0, .s 0), (1, .s 1), (2, .s 2)]
def e280r1 : EE := .x 2 (.call 323) [.s 0, .s 1] none [] <|
 .q 4 (.ext 0) [.r 2] none <|
 .q 5 (.ext 1) [.r 2] none <|
 .out [(0, .s 0), (1, .s 1), (2, .s 2), (8, .r 4), (9, .r 5)]
def e280r2 : EE := .q 1 .not [.s 9] none <|
 .q 3 .mv [.s 0] (some (.r 1, true)) <|
 .q 4 .len [.r 3] (some (.r 1, true)) <|
 .q 5 .geq [.r 4, .c (.int .i64 32)] (some (.r 1, true)) <|
 .q 6 .pick [.r 1, .r 5, .c (.bool false)] none <|
 .out [(0, .s 0), (1, .s 1), (2, .s 2), (8, .s 8), (9, .s 9), (23, .r 6)]
def e280r3 : EE := .out [(6, .c .nsl), (7, .c (.int .i64 7))]
def e280r4 : EE := .x 1 (.call 64) [.s 0] none [] <|
 .out [(1, .s 1), (2, .s 2), (8, .s 8), (9, .s 9), (10, .r 1)]
def e280r5 : EE := .q 1 .not [.s 9] none <|
 .out [(1, .s 1), (2, .s 2), (8, .s 8), (10, .s 10), (27, .r 1)]
def e280r6 : EE := .q 3 (.bld [zs, zs, z] [(0, 1)]) [.s 1] none <|
 .x 4 (.bsl 124 1 [zs, zs, z] [(0, 3)]) [.r 3] none [] <|
 .x 5 (.call 324) [.s 10, .s 8, .r 4] none [] <|
 .out [(2, .s 2), (8, .s 8), (10, .r 5)]
def e280r7 : EE := .q 3 (.ixs 3) [.s 10, .s 8] none <|
 .q 4 (.fld 1) [.r 3] none <|
 .x 5 (.st 1) [.r 4, .s 2] none [] <|
 .out [(8, .s 8), (10, .s 10)]
def e280r8 : EE := .q 2 (.ixs 3) [.s 10, .s 8] none <|
 .q 3 (.fld 2) [.r 2] none <|
 .q 4 .ld [.r 3] none <|
 .q 5 .add [.r 4, .c (.int .i64 1)] none <|
 .q 6 (.ixs 3) [.s 10, .s 8] none <|
 .q 7 (.fld 2) [.r 6] none <|
 .x 8 (.st 1) [.r 7, .r 5] none [] <|
 .out [(10, .s 10)]
def e280r9 : EE := .out [(6, .s 10), (7, .c z)]
def e280 : EFn := ⟨(.seq (.reg e280r0 [0, 1, 2] 0) (.seq (.reg e280r1 [0, 1, 2] 0) (.seq (.seq (.reg e280r2 [0, 1, 2, 8, 9] 0) (.cond (.s 23) (.seq (.reg e280r3 [] 0) .ret) .skip)) (.seq (.reg e280r4 [0, 1, 2, 8, 9] 0) (.seq (.seq (.reg e280r5 [1, 2, 8, 9, 10] 0) (.cond (.s 27) (.reg e280r6 [1, 2, 8, 10] 0) .skip)) (.seq (.reg e280r7 [2, 8, 10] 0) (.seq (.reg e280r8 [8, 10] 0) (.seq (.reg e280r9 [10] 0) .ret)))))))), [.slot 6, .slot 7], 48, 0⟩
theorem g280 : Good Tryz.prog 280 e280 := ⟨Tryz.f280, Tryz.func280, by kernel_rfl, by kernel_rfl, by kernel_rfl, by kernel_rfl⟩
end Go.Ev
