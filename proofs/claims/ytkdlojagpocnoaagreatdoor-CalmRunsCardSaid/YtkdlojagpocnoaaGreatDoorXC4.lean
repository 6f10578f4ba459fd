import Derived.Test.YtkdlojagpocnoaaGreatDoorEvB
import Derived.Test.YtkdlojagpocnoaaGreatDoorProg
set_option linter.unusedVariables false
namespace Go.Ev
open Go.Fw Go.Proofs
/-! concord/state.done -/
def e218r0 : EE := .x 0 (.box 33) [.s 1] none [] <|
 .x 2 (.alc [z, (.bool false), zs, z, .nsl] 56) [] none [] <|
 .out [(0, .s 0), (3, .r 0), (5, .r 2)]
def e218r1 : EE := .q 1 (.fld 3) [.s 3] none <|
 .q 2 .ld [.r 1] none <|
 .x 3 (.call 279) [.s 0, .r 2] none [] <|
 .q 5 (.ext 0) [.r 3] none <|
 .q 6 (.ext 1) [.r 3] none <|
 .x 7 (.alc [zs, zs, z] 124) [] none [] <|
 .x 8 (.st 3) [.r 7, .r 5] none [] <|
 .out [(0, .s 0), (3, .s 3), (5, .s 5), (6, .r 7), (7, .r 6)]
def e218r2 : EE := .q 0 (.fld 0) [.s 3] none <|
 .q 1 .ld [.r 0] none <|
 .out [(0, .s 0), (3, .s 3), (5, .s 5), (6, .s 6), (7, .s 7), (24, .r 1)]
def e218r3 : EE := .q 0 .eql [.s 24, .c (.int .i64 1)] none <|
 .out [(0, .s 0), (3, .s 3), (5, .s 5), (6, .s 6), (7, .s 7), (24, .s 24), (25, .r 0)]
def e218r4 : EE := .q 2 (.fld 1) [.s 6] none <|
 .q 3 .ld [.r 2] none <|
 .q 4 (.fld 2) [.s 6] none <|
 .q 5 .ld [.r 4] none <|
 .q 6 (.bld [z, (.bool false), zs, z, .nsl] [(1, 1), (2, 1), (3, 1)]) [.s 7, .r 3, .r 5] none <|
 .x 8 (.st 5) [.s 5, .r 6] none [] <|
 .out [(4, .s 0), (5, .s 5)]
def e218r5 : EE := .q 0 .eql [.s 24, .c (.int .i64 2)] none <|
 .out [(0, .s 0), (3, .s 3), (5, .s 5), (6, .s 6), (7, .s 7), (24, .s 24), (34, .r 0)]
def e218r6 : EE := .q 1 (.fld 3) [.s 3] none <|
 .q 2 .ld [.r 1] none <|
 .q 3 (.fld 6) [.s 3] none <|
 .q 4 .ld [.r 3] none <|
 .x 5 (.call 280) [.s 0, .r 2, .r 4] none [] <|
 .q 7 (.ext 0) [.r 5] none <|
 .q 8 (.ext 1) [.r 5] none <|
 .out [(0, .s 0), (5, .s 5), (6, .s 6), (7, .s 7), (8, .r 7), (9, .r 8)]
def e218r7 : EE := .q 1 .neq [.s 9, .c z] none <|
 .out [(0, .s 0), (5, .s 5), (6, .s 6), (7, .s 7), (8, .s 8), (9, .s 9), (46, .r 1)]
def e218r8 : EE := .q 2 (.bld [z, (.bool false), zs, z, .nsl] [(0, 1)]) [.s 9] none <|
 .x 4 (.st 5) [.s 5, .r 2] none [] <|
 .out [(4, .s 0), (5, .s 5)]
def e218r9 : EE := .q 2 (.fld 2) [.s 6] none <|
 .q 3 .ld [.r 2] none <|
 .q 4 .add [.r 3, .c (.int .i64 1)] none <|
 .q 5 (.bld [z, (.bool false), zs, z, .nsl] [(1, 1), (3, 1)]) [.s 7, .r 4] none <|
 .x 7 (.st 5) [.s 5, .r 5] none [] <|
 .out [(4, .s 8), (5, .s 5)]
def e218r10 : EE := .q 0 .eql [.s 24, .c (.int .i64 3)] none <|
 .out [(0, .s 0), (3, .s 3), (5, .s 5), (6, .s 6), (7, .s 7), (24, .s 24), (56, .r 0)]
def e218r11 : EE := .q 1 (.fld 3) [.s 3] none <|
 .q 2 .ld [.r 1] none <|
 .x 3 (.call 281) [.s 0, .r 2] none [] <|
 .q 5 (.ext 0) [.r 3] none <|
 .q 6 (.ext 1) [.r 3] none <|
 .out [(5, .s 5), (6, .s 6), (7, .s 7), (10, .r 5)]
def e218r12 : EE := .q 2 (.fld 2) [.s 6] none <|
 .q 3 .ld [.r 2] none <|
 .q 4 (.bld [z, (.bool false), zs, z, .nsl] [(1, 1), (3, 1)]) [.s 7, .r 3] none <|
 .x 6 (.st 5) [.s 5, .r 4] none [] <|
 .out [(4, .s 10), (5, .s 5)]
def e218r13 : EE := .q 0 .eql [.s 24, .c (.int .i64 4)] none <|
 .out [(0, .s 0), (3, .s 3), (5, .s 5), (6, .s 6), (7, .s 7), (70, .r 0)]
def e218r14 : EE := .q 1 .not [.s 7] none <|
 .q 3 (.fld 1) [.s 6] (some (.r 1, false)) <|
 .q 4 .ld [.r 3] (some (.r 1, false)) <|
 .q 5 (.fld 5) [.s 3] (some (.r 1, false)) <|
 .q 6 .ld [.r 5] (some (.r 1, false)) <|
 .q 7 .sneq [.r 4, .r 6] (some (.r 1, false)) <|
 .q 8 .pick [.r 1, .c (.bool true), .r 7] none <|
 .out [(0, .s 0), (3, .s 3), (5, .s 5), (6, .s 6), (80, .r 8)]
def e218r15 : EE := .q 1 (.fld 1) [.s 6] none <|
 .q 2 .ld [.r 1] none <|
 .q 3 (.fld 2) [.s 6] none <|
 .q 4 .ld [.r 3] none <|
 .q 5 (.bld [z, (.bool false), zs, z, .nsl] [(2, 1), (3, 1)]) [.r 2, .r 4] none <|
 .x 7 (.st 5) [.s 5, .r 5] none [] <|
 .out [(4, .s 0), (5, .s 5)]
def e218r16 : EE := .q 1 (.fld 3) [.s 3] none <|
 .q 2 .ld [.r 1] none <|
 .q 3 (.fld 6) [.s 3] none <|
 .q 4 .ld [.r 3] none <|
 .x 5 (.call 280) [.s 0, .r 2, .r 4] none [] <|
 .q 7 (.ext 0) [.r 5] none <|
 .q 8 (.ext 1) [.r 5] none <|
 .out [(5, .s 5), (6, .s 6), (12, .r 7)]
def e218r17 : EE := .q 1 (.fld 1) [.s 6] none <|
 .q 2 .ld [.r 1] none <|
 .q 3 (.fld 2) [.s 6] none <|
 .q 4 .ld [.r 3] none <|
 .q 5 .add [.r 4, .c (.int .i64 1)] none <|
 .q 6 (.bld [z, (.bool false), zs, z, .nsl] [(1, 1), (2, 1), (3, 1)]) [.c (.bool true), .r 2, .r 5] none <|
 .x 8 (.st 5) [.s 5, .r 6] none [] <|
 .out [(4, .s 12), (5, .s 5)]
def e218r18 : EE := .q 1 (.fld 3) [.s 3] none <|
 .q 2 .ld [.r 1] none <|
 .q 3 (.fld 4) [.s 3] none <|
 .q 4 .ld [.r 3] none <|
 .q 5 (.bld [zs, zs] [(0, 1), (1, 1)]) [.r 2, .r 4] none <|
 .x 6 (.call 282) [.s 0, .r 5] none [] <|
 .q 8 (.ext 0) [.r 6] none <|
 .q 9 (.ext 1) [.r 6] none <|
 .out [(0, .s 0), (5, .s 5), (14, .r 8), (15, .r 9)]
def e218r19 : EE := .q 3 (.bld [z, (.bool false), zs, z, .nsl] [(1, 1), (4, 1)]) [.s 15, .s 14] none <|
 .x 5 (.st 5) [.s 5, .r 3] none [] <|
 .out [(4, .s 0), (5, .s 5)]
def e218 : EFn := ⟨(.seq (.reg e218r0 [0, 1] 0) (.seq (.reg e218r1 [0, 3, 5] 0) (.seq (.seq (.reg e218r2 [0, 3, 5, 6, 7] 0) (.block 0 (.seq (.reg e218r3 [0, 3, 5, 6, 7, 24] 0) (.cond (.s 25) (.seq (.reg e218r4 [0, 5, 6, 7] 0) .ret) (.seq (.reg e218r5 [0, 3, 5, 6, 7, 24] 0) (.cond (.s 34) (.seq (.reg e218r6 [0, 3, 5, 6, 7] 0) (.seq (.seq (.reg e218r7 [0, 5, 6, 7, 8, 9] 0) (.cond (.s 46) (.seq (.reg e218r8 [0, 5, 9] 0) .ret) .skip)) (.seq (.reg e218r9 [5, 6, 7, 8] 0) .ret))) (.seq (.reg e218r10 [0, 3, 5, 6, 7, 24] 0) (.cond (.s 56) (.seq (.reg e218r11 [0, 3, 5, 6, 7] 0) (.seq (.reg e218r12 [5, 6, 7, 10] 0) .ret)) (.seq (.reg e218r13 [0, 3, 5, 6, 7, 24] 0) (.cond (.s 70) (.seq (.seq (.reg e218r14 [0, 3, 5, 6, 7] 0) (.cond (.s 80) (.seq (.reg e218r15 [0, 5, 6] 0) .ret) .skip)) (.seq (.reg e218r16 [0, 3, 5, 6] 0) (.seq (.reg e218r17 [5, 6, 12] 0) .ret))) .skip)))))))))) (.seq (.reg e218r18 [0, 3, 5] 0) (.seq (.reg e218r19 [0, 5, 14, 15] 0) .ret))))), [.slot 4, .cells 5 5], 117, 0⟩
theorem g218 : Good Tryz.prog 218 e218 := ⟨Tryz.f218, Tryz.func218, by kernel_rfl, by kernel_rfl, by kernel_rfl, by kernel_rfl⟩
/-! slices.Clone[[]*concord/core.lead,*concord/core.lead] -/
def e219r0 : EE := .out [(0, .s 0)]
def e219r1 : EE := .q 1 (.eqs false) [.s 0, .c .nsl] none <|
 .out [(0, .s 0), (4, .r 1)]
def e219r2 : EE := .out [(2, .c .nsl)]
def e219r3 : EE := .x 0 (.bsl 225 0 [] []) [] none [] <|
 .x 2 (.app 225 1 8 [.nptr]) [.r 0, .s 0] none [] <|
 .out [(2, .r 2)]
def e219 : EFn := ⟨(.seq (.reg e219r0 [0] 0) (.seq (.seq (.reg e219r1 [0] 0) (.cond (.s 4) (.seq (.reg e219r2 [] 0) .ret) .skip)) (.seq (.reg e219r3 [0] 0) .ret))), [.slot 2], 8, 0⟩
theorem g219 : Good Tryz.prog 219 e219 := ⟨Tryz.f219, Tryz.func219, by kernel_rfl, by kernel_rfl, by kernel_rfl, by kernel_rfl⟩
/-! slices.Clone[[]*concord/core.wish,*concord/core.wish] -/
def e220r0 : EE := .out [(0, .s 0)]
def e220r1 : EE := .q 1 (.eqs false) [.s 0, .c .nsl] none <|
 .out [(0, .s 0), (4, .r 1)]
def e220r2 : EE := .out [(2, .c .nsl)]
def e220r3 : EE := .x 0 (.bsl 325 0 [] []) [] none [] <|
 .x 2 (.app 325 1 8 [.nptr]) [.r 0, .s 0] none [] <|
 .out [(2, .r 2)]
def e220 : EFn := ⟨(.seq (.reg e220r0 [0] 0) (.seq (.seq (.reg e220r1 [0] 0) (.cond (.s 4) (.seq (.reg e220r2 [] 0) .ret) .skip)) (.seq (.reg e220r3 [0] 0) .ret))), [.slot 2], 8, 0⟩
theorem g220 : Good Tryz.prog 220 e220 := ⟨Tryz.f220, Tryz.func220, by kernel_rfl, by kernel_rfl, by kernel_rfl, by kernel_rfl⟩
/-! (*concord/core.Core).open -/
def e221r0 : EE := .x 0 (.box 40) [.s 1] none [] <|
 .out [(0, .s 0), (3, .r 0)]
def e221r1 : EE := .q 0 (.lda 2) [.s 3] none <|
 .x 1 (.call 129) [.r 0] none [] <|
 .q 2 .not [.r 1] none <|
 .q 4 .mv [.s 0] (some (.r 2, false)) <|
 .q 5 (.fld 0) [.s 3] (some (.r 2, false)) <|
 .q 6 .ld [.r 5] (some (.r 2, false)) <|
 .x 7 (.call 134) [.r 4, .r 6] (some (.r 2, false)) [] <|
 .q 8 .not [.r 7] (some (.r 2, false)) <|
 .q 9 .pick [.r 2, .c (.bool true), .r 8] none <|
 .q 11 .mv [.s 0] (some (.r 9, false)) <|
 .q 12 .nl [.r 11] (some (.r 9, false)) <|
 .q 13 (.fld 2) [.r 12] (some (.r 9, false)) <|
 .q 14 .ld [.r 13] (some (.r 9, false)) <|
 .q 15 (.lda 2) [.s 3] (some (.r 9, false)) <|
 .x 16 (.call 135) [.r 14, .r 15] (some (.r 9, false)) [] <|
 .q 17 .pick [.r 9, .c (.bool true), .r 16] none <|
 .out [(0, .s 0), (3, .s 3), (24, .r 17)]
def e221r2 : EE := .out [(4, .c (.bool false))]
def e221r3 : EE := .q 1 .nl [.s 0] none <|
 .q 2 (.fld 2) [.r 1] none <|
 .q 3 .ld [.r 2] none <|
 .q 4 (.lda 2) [.s 3] none <|
 .both false
 (.x 5 (.call 201) [.r 3, .r 4] none [] <|
 .q 7 (.ext 0) [.r 5] none <|
 .q 8 (.ext 1) [.r 5] none <|
 .x 9 (.alc [z, z, z, z, z, z, z, z, zs, zs, zs, zs, z, z, z, z, z, z, z, z, (.bool false)] 48) [] none [⟨3, .ld, [.r 2], none⟩, ⟨4, (.lda 2), [.s 3], none⟩] <|
 .x 10 (.st 21) [.r 9, .r 7] none [] <|
 .out [(5, .r 9)])
 (.x 9 (.alc [z, z, z, z, z, z, z, z, zs, zs, zs, zs, z, z, z, z, z, z, z, z, (.bool false)] 48) [] none [⟨3, .ld, [.r 2], none⟩, ⟨4, (.lda 2), [.s 3], none⟩] <|
 .x 5 (.call 201) [.r 3, .r 4] none [] <|
 .q 7 (.ext 0) [.r 5] none <|
 .q 8 (.ext 1) [.r 5] none <|
 .x 10 (.st 21) [.r 9, .r 7] none [] <|
 .out [(5, .r 9)])
def e221r4 : EE := .q 0 (.fld 0) [.s 5] none <|
 .q 1 .ld [.r 0] none <|
 .q 2 .neq [.r 1, .c (.int .i64 3)] none <|
 .out [(4, .r 2)]
def e221 : EFn := ⟨(.seq (.reg e221r0 [0, 1] 0) (.seq (.seq (.reg e221r1 [0, 3] 0) (.cond (.s 24) (.seq (.reg e221r2 [] 0) .ret) .skip)) (.seq (.reg e221r3 [0, 3] 11) (.seq (.reg e221r4 [5] 0) .ret)))), [.slot 4], 37, 0⟩
theorem g221 : Good Tryz.prog 221 e221 := ⟨Tryz.f221, Tryz.func221, by kernel_rfl, by kernel_rfl, by kernel_rfl, by kernel_rfl⟩
/-! slices.DeleteFunc[[]*concord/core.wish,*concord/core.wish] -/
def e222r0 : EE := .out [(0, .s 0), (1, .s 1)]
def e222r1 : EE := .x 2 (.call 283) [.s 0, .s 1] none [] <|
 .out [(0, .s 0), (1, .s 1), (5, .r 2)]
def e222r2 : EE := .q 1 .eql [.s 5, .c (.int .i64 (-1))] none <|
 .out [(0, .s 0), (1, .s 1), (5, .s 5), (12, .r 1)]
def e222r3 : EE := .out [(4, .s 0)]
def e222r4 : EE := .q 1 .add [.s 5, .c (.int .i64 1)] none <|
 .out [(0, .s 0), (1, .s 1), (5, .s 5), (6, .r 1)]
def e222r5 : EE := .q 2 .len [.s 0] none <|
 .q 3 .lss [.s 6, .r 2] none <|
 .out [(0, .s 0), (1, .s 1), (5, .s 5), (6, .s 6), (19, .r 3)]
def e222r6 : EE := .q 2 (.ixs 1) [.s 0, .s 6] none <|
 .q 3 .ld [.r 2] none <|
 .out [(0, .s 0), (1, .s 1), (5, .s 5), (6, .s 6), (7, .r 3)]
def e222r7 : EE := .x 2 .callv [.s 1, .s 7] none [] <|
 .q 3 .not [.r 2] none <|
 .out [(0, .s 0), (1, .s 1), (5, .s 5), (6, .s 6), (7, .s 7), (29, .r 3)]
def e222r8 : EE := .q 3 (.ixs 1) [.s 0, .s 5] none <|
 .x 4 (.st 1) [.r 3, .s 7] none [] <|
 .out [(0, .s 0), (1, .s 1), (5, .s 5), (6, .s 6)]
def e222r9 : EE := .q 1 .add [.s 5, .c (.int .i64 1)] none <|
 .out [(0, .s 0), (1, .s 1), (5, .r 1), (6, .s 6)]
def e222r10 : EE := .q 1 .add [.s 6, .c (.int .i64 1)] none <|
 .out [(0, .s 0), (1, .s 1), (5, .s 5), (6, .r 1)]
def e222l11 : EC := (.seq (.seq (.reg e222r5 [0, 1, 5, 6] 0) (.cond (.s 19) .skip (.exit 0))) (.seq (.block 1 (.seq (.reg e222r6 [0, 1, 5, 6] 0) (.seq (.reg e222r7 [0, 1, 5, 6, 7] 0) (.cond (.s 29) (.seq (.reg e222r8 [0, 1, 5, 6, 7] 0) (.reg e222r9 [0, 1, 5, 6] 0)) .skip)))) (.reg e222r10 [0, 1, 5, 6] 0)))
def e222r12 : EE := .q 2 (.slc 1 true false) [.s 0, .s 5] none <|
 .x 3 (.clr [.nptr]) [.r 2] none [] <|
 .out [(0, .s 0), (5, .s 5)]
def e222r13 : EE := .q 2 (.slc 1 false true) [.s 0, .s 5] none <|
 .out [(4, .r 2)]
def e222 : EFn := ⟨(.seq (.reg e222r0 [0, 1] 0) (.seq (.reg e222r1 [0, 1] 0) (.seq (.seq (.reg e222r2 [0, 1, 5] 0) (.cond (.s 12) (.seq (.reg e222r3 [0] 0) .ret) .skip)) (.seq (.seq (.reg e222r4 [0, 1, 5] 0) (.block 0 (.loop [0, 1, 5, 6] e222l11))) (.seq (.reg e222r12 [0, 5] 0) (.seq (.reg e222r13 [0, 5] 0) .ret)))))), [.slot 4], 42, 0⟩
theorem g222 : Good Tryz.prog 222 e222 := ⟨Tryz.f222, Tryz.func222, by kernel_rfl, by kernel_rfl, by kernel_rfl, by kernel_rfl⟩
/-! (*concord/core.Core).Tick$1 -/
def e223r0 : EE := .out [(0, .s 0), (1, .s 1)]
def e223r1 : EE := .q 1 .ld [.s 1] none <|
 .q 2 (.eqq false) [.s 0, .r 1] none <|
 .out [(3, .r 2)]
def e223 : EFn := ⟨(.seq (.reg e223r0 [0, 1] 0) (.seq (.reg e223r1 [0, 1] 0) .ret)), [.slot 3], 7, 0⟩
theorem g223 : Good Tryz.prog 223 e223 := ⟨Tryz.f223, Tryz.func223, by kernel_rfl, by kernel_rfl, by kernel_rfl, by kernel_rfl⟩
/-! (*concord/core.Core).Recover -/
def e224r0 : EE := .x 0 (.box 40) [.s 1] none [] <|
 .out [(0, .s 0), (3, .r 0)]
def e224r1 : EE := .q 1 (.lda 2) [.s 3] none <|
 .x 2 (.call 221) [.s 0, .r 1] none [] <|
 .q 3 .not [.r 2] none <|
 .q 5 .mv [.s 0] (some (.r 3, false)) <|
 .q 6 .nl [.r 5] (some (.r 3, false)) <|
 .q 7 (.fld 4) [.r 6] (some (.r 3, false)) <|
 .q 8 .ld [.r 7] (some (.r 3, false)) <|
 .q 9 .len [.r 8] (some (.r 3, false)) <|
 .q 10 .geq [.r 9, .c (.int .i64 256)] (some (.r 3, false)) <|
 .q 11 .mv [.r 10] (some (.r 3, false)) <|
 .q 12 .mv [.s 0] (some (.r 11, true)) <|
 .q 13 (.lda 2) [.s 3] (some (.r 11, true)) <|
 .x 14 (.call 208) [.r 12, .r 13] (some (.r 11, true)) [] <|
 .q 15 (.eqp false) [.r 14, .c .nptr] (some (.r 11, true)) <|
 .q 16 .pick [.r 11, .r 15, .c (.bool false)] (some (.r 3, false)) <|
 .q 17 .pick [.r 3, .c (.bool true), .r 16] none <|
 .out [(0, .s 0), (3, .s 3), (26, .r 17)]
def e224r2 : EE := .out [(4, .c (.bool false))]
def e224r3 : EE := .q 1 .nl [.s 0] none <|
 .q 2 (.fld 2) [.r 1] none <|
 .q 3 .ld [.r 2] none <|
 .q 4 (.lda 2) [.s 3] none <|
 .both false
 (.x 5 (.call 201) [.r 3, .r 4] none [] <|
 .q 7 (.ext 0) [.r 5] none <|
 .q 8 (.ext 1) [.r 5] none <|
 .x 9 (.alc [z, z, z, z, z, z, z, z, zs, zs, zs, zs, z, z, z, z, z, z, z, z, (.bool false)] 48) [] none [⟨3, .ld, [.r 2], none⟩, ⟨4, (.lda 2), [.s 3], none⟩] <|
 .x 10 (.st 21) [.r 9, .r 7] none [] <|
 .out [(0, .s 0), (3, .s 3), (5, .r 9)])
 (.x 9 (.alc [z, z, z, z, z, z, z, z, zs, zs, zs, zs, z, z, z, z, z, z, z, z, (.bool false)] 48) [] none [⟨3, .ld, [.r 2], none⟩, ⟨4, (.lda 2), [.s 3], none⟩] <|
 .x 5 (.call 201) [.r 3, .r 4] none [] <|
 .q 7 (.ext 0) [.r 5] none <|
 .q 8 (.ext 1) [.r 5] none <|
 .x 10 (.st 21) [.r 9, .r 7] none [] <|
 .out [(0, .s 0), (3, .s 3), (5, .r 9)])
def e224r4 : EE := .q 0 (.fld 1) [.s 5] none <|
 .q 1 (.lda 2) [.r 0] none <|
 .x 2 (.alc [z, z] 42) [] none [] <|
 .x 3 (.st 2) [.r 2, .r 1] none [] <|
 .out [(0, .s 0), (3, .s 3), (5, .s 5), (7, .r 2)]
def e224r5 : EE := .q 1 (.lda 2) [.s 3] none <|
 .x 2 (.call 211) [.s 0, .r 1] none [] <|
 .out [(0, .s 0), (3, .s 3), (5, .s 5), (7, .s 7), (8, .r 2)]
def e224r6 : EE := .q 1 (.eqp true) [.s 8, .c .nptr] none <|
 .q 3 (.lda 2) [.s 7] (some (.r 1, true)) <|
 .q 4 .mv [.s 8] (some (.r 1, true)) <|
 .q 5 .nl [.r 4] (some (.r 1, true)) <|
 .q 6 (.fld 3) [.r 5] (some (.r 1, true)) <|
 .q 7 (.lda 2) [.r 6] (some (.r 1, true)) <|
 .x 8 (.call 205) [.r 3, .r 7] (some (.r 1, true)) [] <|
 .q 9 .pick [.r 1, .r 8, .c (.bool false)] none <|
 .out [(0, .s 0), (3, .s 3), (5, .s 5), (7, .s 7), (8, .s 8), (50, .r 9)]
def e224r7 : EE := .q 1 .nl [.s 8] none <|
 .q 2 (.fld 3) [.r 1] none <|
 .q 3 (.lda 2) [.r 2] none <|
 .x 4 (.st 2) [.s 7, .r 3] none [] <|
 .out [(0, .s 0), (3, .s 3), (5, .s 5), (7, .s 7)]
def e224r8 : EE := .q 0 (.lda 2) [.s 7] none <|
 .q 2 .nl [.s 0] none <|
 .q 3 (.fld 1) [.r 2] none <|
 .q 4 .ld [.r 3] none <|
 .x 5 (.call 284) [.r 0, .r 4] none [] <|
 .q 6 (.fld 1) [.s 5] none <|
 .x 7 (.st 2) [.r 6, .r 5] none [] <|
 .out [(0, .s 0), (3, .s 3), (5, .s 5)]
def e224r9 : EE := .q 0 (.fld 1) [.s 5] none <|
 .q 1 (.lda 2) [.r 0] none <|
 .x 2 (.call 130) [.r 1] none [] <|
 .q 3 .not [.r 2] none <|
 .q 5 .mv [.s 0] (some (.r 3, false)) <|
 .q 6 (.lda 2) [.s 3] (some (.r 3, false)) <|
 .q 7 (.lda 21) [.s 5] (some (.r 3, false)) <|
 .x 8 (.call 123) [.r 5, .r 6, .r 7] (some (.r 3, false)) [] <|
 .q 9 .not [.r 8] (some (.r 3, false)) <|
 .q 10 .pick [.r 3, .c (.bool true), .r 9] none <|
 .out [(0, .s 0), (3, .s 3), (5, .s 5), (72, .r 10)]
def e224r10 : EE := .out [(4, .c (.bool false))]
def e224r11 : EE := .q 1 (.lda 2) [.s 3] none <|
 .q 2 (.fld 1) [.s 5] none <|
 .q 3 (.lda 2) [.r 2] none <|
 .q 5 .nl [.s 0] none <|
 .q 6 (.fld 1) [.r 5] none <|
 .q 7 .ld [.r 6] none <|
 .q 8 (.lda 21) [.s 5] none <|
 .q 9 (.bld [z, z, z, z, z, z, z, z, z, zs, zs, zs, zs, z, z, z, z, z, z, z, z, (.bool false)] [(0, 1), (1, 21)]) [.r 7, .r 8] none <|
 .x 10 (.bsl 334 1 [z, z, z, z, z, z, z, z, z, zs, zs, zs, zs, z, z, z, z, z, z, z, z, (.bool false)] [(0, 22)]) [.r 9] none [⟨1, (.lda 2), [.s 3], none⟩, ⟨3, (.lda 2), [.r 2], none⟩] <|
 .q 11 (.bld [z, z, z, z, z, (.bool false), z, z, z, zs, zs, zs, zs, z, z, z, z, z, z, z, z, z, z, z, z, z, z, z, .nsl, .nsl, z, z] [(0, 2), (2, 1), (3, 2), (29, 1)]) [.r 1, .c (.int .i64 2), .r 3, .r 10] none <|
 .x 12 (.box 229) [.r 11] none [] <|
 .x 13 (.call 124) [.s 0, .r 12] none [] <|
 .out []
def e224r12 : EE := .out [(4, .c (.bool true))]
def e224 : EFn := ⟨(.seq (.reg e224r0 [0, 1] 0) (.seq (.seq (.reg e224r1 [0, 3] 0) (.cond (.s 26) (.seq (.reg e224r2 [] 0) .ret) .skip)) (.seq (.reg e224r3 [0, 3] 11) (.seq (.reg e224r4 [0, 3, 5] 0) (.seq (.seq (.reg e224r5 [0, 3, 5, 7] 0) (.seq (.reg e224r6 [0, 3, 5, 7, 8] 0) (.cond (.s 50) (.reg e224r7 [0, 3, 5, 7, 8] 0) .skip))) (.seq (.reg e224r8 [0, 3, 5, 7] 0) (.seq (.seq (.reg e224r9 [0, 3, 5] 0) (.cond (.s 72) (.seq (.reg e224r10 [] 0) .ret) .skip)) (.seq (.reg e224r11 [0, 3, 5] 0) (.seq (.reg e224r12 [] 0) .ret))))))))), [.slot 4], 87, 0⟩
theorem g224 : Good Tryz.prog 224 e224 := ⟨Tryz.f224, Tryz.func224, by kernel_rfl, by kernel_rfl, by kernel_rfl, by kernel_rfl⟩
/-! internal/strconv.FormatInt -/
def e229r0 : EE := .out [(0, .s 0), (1, .s 1)]
def e229r1 : EE := .q 1 .eql [.s 1, .c (.int .i64 10)] none <|
 .out [(0, .s 0), (1, .s 1), (11, .r 1)]
def e229r2 : EE := .q 1 .leq [.c z, .s 0] none <|
 .q 3 .mv [.s 0] (some (.r 1, true)) <|
 .q 4 .lss [.r 3, .c (.int .i64 100)] (some (.r 1, true)) <|
 .q 5 .pick [.r 1, .r 4, .c (.bool false)] none <|
 .out [(0, .s 0), (17, .r 5)]
def e229r3 : EE := .x 1 (.call 285) [.s 0] none [] <|
 .out [(4, .r 1)]
def e229r4 : EE := .x 0 (.alc [(.int .u8 0), (.int .u8 0), (.int .u8 0), (.int .u8 0), (.int .u8 0), (.int .u8 0), (.int .u8 0), (.int .u8 0), (.int .u8 0), (.int .u8 0), (.int .u8 0), (.int .u8 0), (.int .u8 0), (.int .u8 0), (.int .u8 0), (.int .u8 0), (.int .u8 0), (.int .u8 0), (.int .u8 0), (.int .u8 0), (.int .u8 0), (.int .u8 0), (.int .u8 0), (.int .u8 0)] 402) [] none [] <|
 .out [(0, .s 0), (5, .r 0)]
def e229r5 : EE := .q 1 (.conv .u64) [.s 0] none <|
 .out [(0, .s 0), (5, .s 5), (6, .r 1)]
def e229r6 : EE := .q 1 .lss [.s 0, .c z] none <|
 .out [(0, .s 0), (5, .s 5), (6, .s 6), (23, .r 1)]
def e229r7 : EE := .q 1 .neg [.s 6] none <|
 .out [(0, .s 0), (5, .s 5), (6, .r 1)]
def e229r8 : EE := .x 1 (.call 286) [.s 6] none [] <|
 .out [(0, .s 0), (5, .s 5), (6, .s 6), (7, .r 1)]
def e229r9 : EE := .q 1 .add [.c (.int .i64 1), .s 7] none <|
 .x 2 .bad [] none [] <|
 .x 4 (.call 287) [.r 2, .s 6] none [] <|
 .out [(0, .s 0), (5, .s 5), (7, .s 7)]
def e229r10 : EE := .q 1 .lss [.s 0, .c z] none <|
 .out [(5, .s 5), (7, .s 7), (34, .r 1)]
def e229r11 : EE := .q 0 (.ixa 24 1) [.s 5, .c z] none <|
 .x 1 (.st 1) [.r 0, .c (.int .u8 45)] none [] <|
 .out [(7, .s 7)]
def e229r12 : EE := .q 1 .add [.c (.int .i64 1), .s 7] none <|
 .x 2 .bad [] none [] <|
 .q 3 .b2s [.r 2] none <|
 .out [(4, .r 3)]
def e229r13 : EE := .q 1 .add [.c (.int .i64 1), .s 7] none <|
 .x 2 .bad [] none [] <|
 .q 3 .b2s [.r 2] none <|
 .out [(4, .r 3)]
def e229r14 : EE := .q 1 (.conv .u64) [.s 0] none <|
 .q 4 .lss [.s 0, .c z] none <|
 .x 5 (.call 288) [.c .nsl, .r 1, .s 1, .r 4, .c (.bool false)] none [] <|
 .q 7 (.ext 0) [.r 5] none <|
 .q 8 (.ext 1) [.r 5] none <|
 .out [(9, .r 8)]
def e229r15 : EE := .out [(4, .s 9)]
def e229 : EFn := ⟨(.seq (.reg e229r0 [0, 1] 0) (.seq (.seq (.reg e229r1 [0, 1] 0) (.cond (.s 11) (.seq (.seq (.reg e229r2 [0] 0) (.cond (.s 17) (.seq (.reg e229r3 [0] 0) .ret) .skip)) (.seq (.reg e229r4 [0] 0) (.seq (.reg e229r5 [0, 5] 0) (.seq (.seq (.reg e229r6 [0, 5, 6] 0) (.cond (.s 23) (.reg e229r7 [0, 5, 6] 0) .skip)) (.seq (.reg e229r8 [0, 5, 6] 0) (.seq (.reg e229r9 [0, 5, 6, 7] 0) (.seq (.seq (.reg e229r10 [0, 5, 7] 0) (.cond (.s 34) (.seq (.reg e229r11 [5, 7] 0) (.seq (.reg e229r12 [7] 0) .ret)) .skip)) (.seq (.reg e229r13 [7] 0) .ret)))))))) .skip)) (.seq (.reg e229r14 [0, 1] 0) (.seq (.reg e229r15 [9] 0) .ret)))), [.slot 4], 54, 0⟩
theorem g229 : Good Tryz.prog 229 e229 := ⟨Tryz.f229, Tryz.func229, by kernel_rfl, by kernel_rfl, by kernel_rfl, by kernel_rfl⟩
/-! strconv.Atoi -/
def e231r0 : EE := .out [(0, .s 0)]
def e231r1 : EE := .x 1 (.call 290) [.s 0] none [] <|
 .q 3 (.ext 0) [.r 1] none <|
 .q 4 (.ext 1) [.r 1] none <|
 .out [(0, .s 0), (4, .r 3), (5, .r 4)]
def e231r2 : EE := .q 1 (.eqi true) [.s 5, .c .nif] none <|
 .out [(0, .s 0), (4, .s 4), (5, .s 5), (12, .r 1)]
def e231r3 : EE := .x 3 (.call 291) [.c (.str [65, 116, 111, 105]), .s 0, .c z, .c z, .s 5] none [] <|
 .out [(2, .s 4), (3, .r 3)]
def e231r4 : EE := .out [(2, .s 4), (3, .c .nif)]
def e231 : EFn := ⟨(.seq (.reg e231r0 [0] 0) (.seq (.reg e231r1 [0] 0) (.seq (.seq (.reg e231r2 [0, 4, 5] 0) (.cond (.s 12) (.seq (.reg e231r3 [0, 4, 5] 0) .ret) .skip)) (.seq (.reg e231r4 [4] 0) .ret)))), [.slot 2, .slot 3], 18, 0⟩
theorem g231 : Good Tryz.prog 231 e231 := ⟨Tryz.f231, Tryz.func231, by kernel_rfl, by kernel_rfl, by kernel_rfl, by kernel_rfl⟩
/-! internal/stringslite.Cut -/
def e236r0 : EE := .out [(0, .s 0), (1, .s 1)]
def e236r1 : EE := .x 2 (.call 296) [.s 0, .s 1] none [] <|
 .out [(0, .s 0), (1, .s 1), (7, .r 2)]
def e236r2 : EE := .q 1 .geq [.s 7, .c z] none <|
 .out [(0, .s 0), (1, .s 1), (7, .s 7), (12, .r 1)]
def e236r3 : EE := .q 2 (.slcs false true) [.s 0, .s 7] none <|
 .q 6 .lenz [.s 1] none <|
 .q 7 .add [.s 7, .r 6] none <|
 .q 8 (.slcs true false) [.s 0, .r 7] none <|
 .out [(4, .r 2), (5, .r 8), (6, .c (.bool true))]
def e236r4 : EE := .out [(4, .s 0), (5, .c zs), (6, .c (.bool false))]
def e236 : EFn := ⟨(.seq (.reg e236r0 [0, 1] 0) (.seq (.seq (.reg e236r1 [0, 1] 0) (.seq (.reg e236r2 [0, 1, 7] 0) (.cond (.s 12) (.seq (.reg e236r3 [0, 1, 7] 0) .ret) .skip))) (.seq (.reg e236r4 [0] 0) .ret))), [.slot 4, .slot 5, .slot 6], 23, 0⟩
theorem g236 : Good Tryz.prog 236 e236 := ⟨Tryz.f236, Tryz.func236, by kernel_rfl, by kernel_rfl, by kernel_rfl, by kernel_rfl⟩
/-! concord/sum.On -/
def e238r0 : EE := .out [(0, .s 0), (1, .s 1)]
def e238r1 : EE := .q 1 .cpl [.s 0] none <|
 .out [(0, .r 1), (1, .s 1)]
def e238r2 : EE := .q 1 .len [.s 1] none <|
 .out [(0, .s 0), (10, .s 1), (11, .r 1), (12, .c z)]
def e238r3 : EE := .q 0 .lss [.s 12, .s 11] none <|
 .out [(0, .s 0), (10, .s 10), (11, .s 11), (12, .s 12), (13, .r 0)]
def e238r4 : EE := .q 0 (.ixs 1) [.s 10, .s 12] none <|
 .q 1 .ld [.r 0] none <|
 .out [(0, .s 0), (6, .r 1), (10, .s 10), (11, .s 11), (12, .s 12)]
def e238r5 : EE := .q 2 (.conv .u32) [.s 6] none <|
 .q 3 .xor [.s 0, .r 2] none <|
 .out [(0, .r 3), (10, .s 10), (11, .s 11), (12, .s 12)]
def e238r6 : EE := .out [(0, .s 0), (10, .s 10), (11, .s 11), (12, .s 12), (20, .c z)]
def e238r7 : EE := .q 0 .lss [.s 20, .c (.int .i64 8)] none <|
 .out [(0, .s 0), (10, .s 10), (11, .s 11), (12, .s 12), (20, .s 20), (21, .r 0)]
def e238r8 : EE := .q 1 .and [.s 0, .c (.int .u32 1)] none <|
 .out [(0, .s 0), (7, .r 1), (10, .s 10), (11, .s 11), (12, .s 12), (20, .s 20)]
def e238r9 : EE := .q 1 .shr [.s 0, .c (.int .u64 1)] none <|
 .out [(0, .r 1), (7, .s 7), (10, .s 10), (11, .s 11), (12, .s 12), (20, .s 20)]
def e238r10 : EE := .q 1 .eql [.s 7, .c (.int .u32 1)] none <|
 .out [(0, .s 0), (10, .s 10), (11, .s 11), (12, .s 12), (20, .s 20), (27, .r 1)]
def e238r11 : EE := .q 1 .xor [.s 0, .c (.int .u32 3988292384)] none <|
 .out [(0, .r 1), (10, .s 10), (11, .s 11), (12, .s 12), (20, .s 20)]
def e238r12 : EE := .q 0 .add [.s 20, .c (.int .i64 1)] none <|
 .out [(0, .s 0), (10, .s 10), (11, .s 11), (12, .s 12), (20, .r 0)]
def e238l13 : EC := (.seq (.reg e238r7 [0, 10, 11, 12, 20] 0) (.seq (.cond (.s 21) .skip (.exit 2)) (.seq (.block 3 (.seq (.reg e238r8 [0, 10, 11, 12, 20] 0) (.seq (.reg e238r9 [0, 7, 10, 11, 12, 20] 0) (.seq (.reg e238r10 [0, 7, 10, 11, 12, 20] 0) (.cond (.s 27) (.reg e238r11 [0, 10, 11, 12, 20] 0) .skip))))) (.reg e238r12 [0, 10, 11, 12, 20] 0))))
def e238r14 : EE := .q 0 .add [.s 12, .c (.int .i64 1)] none <|
 .out [(0, .s 0), (10, .s 10), (11, .s 11), (12, .r 0)]
def e238l15 : EC := (.seq (.reg e238r3 [0, 10, 11, 12] 0) (.seq (.cond (.s 13) .skip (.exit 0)) (.seq (.block 1 (.seq (.reg e238r4 [0, 10, 11, 12] 0) (.seq (.reg e238r5 [0, 6, 10, 11, 12] 0) (.seq (.reg e238r6 [0, 10, 11, 12] 0) (.block 2 (.loop [0, 10, 11, 12, 20] e238l13)))))) (.reg e238r14 [0, 10, 11, 12] 0))))
def e238r16 : EE := .q 1 .cpl [.s 0] none <|
 .out [(4, .r 1)]
def e238 : EFn := ⟨(.seq (.reg e238r0 [0, 1] 0) (.seq (.reg e238r1 [0, 1] 0) (.seq (.seq (.reg e238r2 [0, 1] 0) (.block 0 (.loop [0, 10, 11, 12] e238l15))) (.seq (.reg e238r16 [0] 0) .ret)))), [.slot 4], 34, 0⟩
theorem g238 : Good Tryz.prog 238 e238 := ⟨Tryz.f238, Tryz.func238, by kernel_rfl, by kernel_rfl, by kernel_rfl, by kernel_rfl⟩
/-! (*concord/pack.Reader).Flag -/
def e240r0 : EE := .out [(0, .s 0)]
def e240r1 : EE := .q 1 .nl [.s 0] none <|
 .q 2 (.fld 2) [.r 1] none <|
 .q 3 .ld [.r 2] none <|
 .q 4 .neq [.r 3, .c z] none <|
 .out [(0, .s 0), (8, .r 4)]
def e240r2 : EE := .out [(2, .c (.bool false))]
def e240r3 : EE := .q 1 .nl [.s 0] none <|
 .q 2 (.fld 1) [.r 1] none <|
 .q 3 .ld [.r 2] none <|
 .q 5 .nl [.s 0] none <|
 .q 6 (.fld 0) [.r 5] none <|
 .q 7 .ld [.r 6] none <|
 .q 8 .len [.r 7] none <|
 .q 9 .eql [.r 3, .r 8] none <|
 .out [(0, .s 0), (18, .r 9)]
def e240r4 : EE := .q 2 .nl [.s 0] none <|
 .q 3 (.fld 1) [.r 2] none <|
 .q 4 .ld [.r 3] none <|
 .x 5 (.call 178) [.s 0, .r 4, .c (.int .i64 3)] none [] <|
 .out []
def e240r5 : EE := .out [(2, .c (.bool false))]
def e240r6 : EE := .q 1 .nl [.s 0] none <|
 .q 2 (.fld 0) [.r 1] none <|
 .q 3 .ld [.r 2] none <|
 .q 5 .nl [.s 0] none <|
 .q 6 (.fld 1) [.r 5] none <|
 .q 7 .ld [.r 6] none <|
 .q 8 (.ixs 1) [.r 3, .r 7] none <|
 .q 9 .ld [.r 8] none <|
 .out [(0, .s 0), (3, .r 9)]
def e240r7 : EE := .q 1 .gtr [.s 3, .c (.int .u8 1)] none <|
 .out [(0, .s 0), (3, .s 3), (36, .r 1)]
def e240r8 : EE := .q 2 .nl [.s 0] none <|
 .q 3 (.fld 1) [.r 2] none <|
 .q 4 .ld [.r 3] none <|
 .x 5 (.call 178) [.s 0, .r 4, .c (.int .i64 4)] none [] <|
 .out []
def e240r9 : EE := .out [(2, .c (.bool false))]
def e240r10 : EE := .q 1 .nl [.s 0] none <|
 .q 2 (.fld 1) [.r 1] none <|
 .q 3 .ld [.r 2] none <|
 .q 4 .add [.r 3, .c (.int .i64 1)] none <|
 .q 5 .nl [.s 0] none <|
 .q 6 (.fld 1) [.r 5] none <|
 .x 7 (.st 1) [.r 6, .r 4] none [] <|
 .out [(3, .s 3)]
def e240r11 : EE := .q 1 .eql [.s 3, .c (.int .u8 1)] none <|
 .out [(2, .r 1)]
def e240 : EFn := ⟨(.seq (.reg e240r0 [0] 0) (.seq (.seq (.reg e240r1 [0] 0) (.cond (.s 8) (.seq (.reg e240r2 [] 0) .ret) .skip)) (.seq (.seq (.reg e240r3 [0] 0) (.cond (.s 18) (.seq (.reg e240r4 [0] 0) (.seq (.reg e240r5 [] 0) .ret)) .skip)) (.seq (.reg e240r6 [0] 0) (.seq (.seq (.reg e240r7 [0, 3] 0) (.cond (.s 36) (.seq (.reg e240r8 [0] 0) (.seq (.reg e240r9 [] 0) .ret)) .skip)) (.seq (.reg e240r10 [0, 3] 0) (.seq (.reg e240r11 [3] 0) .ret))))))), [.slot 2], 52, 0⟩
theorem g240 : Good Tryz.prog 240 e240 := ⟨Tryz.f240, Tryz.func240, by kernel_rfl, by kernel_rfl, by kernel_rfl, by kernel_rfl⟩
/-! (*concord/pack.Reader).Text -/
def e241r0 : EE := .out [(0, .s 0), (1, .s 1)]
def e241r1 : EE := .q 1 .nl [.s 0] none <|
 .q 2 (.fld 1) [.r 1] none <|
 .q 3 .ld [.r 2] none <|
 .out [(0, .s 0), (1, .s 1), (5, .r 3)]
def e241r2 : EE := .x 2 (.call 297) [.s 0, .s 1] none [] <|
 .out [(0, .s 0), (5, .s 5), (6, .r 2)]
def e241r3 : EE := .q 1 .nl [.s 0] none <|
 .q 2 (.fld 2) [.r 1] none <|
 .q 3 .ld [.r 2] none <|
 .q 4 .neq [.r 3, .c z] none <|
 .out [(0, .s 0), (5, .s 5), (6, .s 6), (19, .r 4)]
def e241r4 : EE := .out [(4, .c zs)]
def e241r5 : EE := .q 2 .nl [.s 0] none <|
 .q 3 (.fld 0) [.r 2] none <|
 .q 4 .ld [.r 3] none <|
 .q 5 .len [.r 4] none <|
 .q 7 .nl [.s 0] none <|
 .q 8 (.fld 1) [.r 7] none <|
 .q 9 .ld [.r 8] none <|
 .q 10 .sub [.r 5, .r 9] none <|
 .q 11 .gtr [.s 6, .r 10] none <|
 .out [(0, .s 0), (5, .s 5), (6, .s 6), (31, .r 11)]
def e241r6 : EE := .x 2 (.call 178) [.s 0, .s 5, .c (.int .i64 3)] none [] <|
 .out []
def e241r7 : EE := .out [(4, .c zs)]
def e241r8 : EE := .q 1 .nl [.s 0] none <|
 .q 2 (.fld 0) [.r 1] none <|
 .q 3 .ld [.r 2] none <|
 .q 5 .nl [.s 0] none <|
 .q 6 (.fld 1) [.r 5] none <|
 .q 7 .ld [.r 6] none <|
 .q 9 .nl [.s 0] none <|
 .q 10 (.fld 1) [.r 9] none <|
 .q 11 .ld [.r 10] none <|
 .q 13 .add [.r 11, .s 6] none <|
 .q 14 (.slc 1 true true) [.r 3, .r 7, .r 13] none <|
 .q 15 .b2s [.r 14] none <|
 .out [(0, .s 0), (6, .s 6), (7, .r 15)]
def e241r9 : EE := .q 1 .nl [.s 0] none <|
 .q 2 (.fld 1) [.r 1] none <|
 .q 3 .ld [.r 2] none <|
 .q 5 .add [.r 3, .s 6] none <|
 .q 6 .nl [.s 0] none <|
 .q 7 (.fld 1) [.r 6] none <|
 .x 8 (.st 1) [.r 7, .r 5] none [] <|
 .out [(7, .s 7)]
def e241r10 : EE := .out [(4, .s 7)]
def e241 : EFn := ⟨(.seq (.reg e241r0 [0, 1] 0) (.seq (.reg e241r1 [0, 1] 0) (.seq (.reg e241r2 [0, 1, 5] 0) (.seq (.seq (.reg e241r3 [0, 5, 6] 0) (.cond (.s 19) (.seq (.reg e241r4 [] 0) .ret) .skip)) (.seq (.seq (.reg e241r5 [0, 5, 6] 0) (.cond (.s 31) (.seq (.reg e241r6 [0, 5] 0) (.seq (.reg e241r7 [] 0) .ret)) .skip)) (.seq (.reg e241r8 [0, 6] 0) (.seq (.reg e241r9 [0, 6, 7] 0) (.seq (.reg e241r10 [7] 0) .ret)))))))), [.slot 4], 60, 0⟩
theorem g241 : Good Tryz.prog 241 e241 := ⟨Tryz.f241, Tryz.func241, by kernel_rfl, by kernel_rfl, by kernel_rfl, by kernel_rfl⟩
/-! strings.TrimPrefix -/
def e242r0 : EE := .out [(0, .s 0), (1, .s 1)]
def e242r1 : EE := .x 2 (.call 298) [.s 0, .s 1] none [] <|
 .out [(4, .r 2)]
def e242 : EFn := ⟨(.seq (.reg e242r0 [0, 1] 0) (.seq (.reg e242r1 [0, 1] 0) .ret)), [.slot 4], 8, 0⟩
theorem g242 : Good Tryz.prog 242 e242 := ⟨Tryz.f242, Tryz.func242, by kernel_rfl, by kernel_rfl, by kernel_rfl, by kernel_rfl⟩
/-! concord/frame.Next -/
def e243r0 : EE := .out [(0, .s 0), (1, .s 1)]
def e243r1 : EE := .q 1 .lss [.s 1, .c z] none <|
 .q 3 .mv [.s 1] (some (.r 1, false)) <|
 .q 4 .mv [.s 0] (some (.r 1, false)) <|
 .q 5 .len [.r 4] (some (.r 1, false)) <|
 .q 6 .gtr [.r 3, .r 5] (some (.r 1, false)) <|
 .q 7 .pick [.r 1, .c (.bool true), .r 6] none <|
 .out [(0, .s 0), (1, .s 1), (20, .r 7)]
def e243r2 : EE := .out [(4, .c .nsl), (5, .c z), (6, .c (.int .i64 1))]
def e243r3 : EE := .q 2 (.slc 1 true false) [.s 0, .s 1] none <|
 .out [(1, .s 1), (7, .r 2)]
def e243r4 : EE := .x 1 (.call 165) [.s 7, .c z, .c (.int .i64 2)] none [] <|
 .q 3 (.ext 0) [.r 1] none <|
 .q 4 (.ext 1) [.r 1] none <|
 .out [(1, .s 1), (7, .s 7), (8, .r 3), (9, .r 4)]
def e243r5 : EE := .q 1 .neq [.s 9, .c z] none <|
 .out [(1, .s 1), (7, .s 7), (8, .s 8), (30, .r 1)]
def e243r6 : EE := .out [(4, .c .nsl), (5, .c z), (6, .c (.int .i64 3))]
def e243r7 : EE := .q 1 (.conv .i64) [.s 8] none <|
 .out [(1, .s 1), (7, .s 7), (10, .r 1)]
def e243r8 : EE := .q 1 .eql [.s 10, .c z] none <|
 .q 3 .mv [.s 10] (some (.r 1, false)) <|
 .q 4 .gtr [.r 3, .c (.int .i64 16384)] (some (.r 1, false)) <|
 .q 5 .pick [.r 1, .c (.bool true), .r 4] none <|
 .out [(1, .s 1), (7, .s 7), (10, .s 10), (38, .r 5)]
def e243r9 : EE := .out [(4, .c .nsl), (5, .c z), (6, .c (.int .i64 4))]
def e243r10 : EE := .q 1 .len [.s 7] none <|
 .q 3 .add [.c (.int .i64 2), .s 10] none <|
 .q 4 .add [.r 3, .c (.int .i64 4)] none <|
 .q 5 .lss [.r 1, .r 4] none <|
 .out [(1, .s 1), (7, .s 7), (10, .s 10), (44, .r 5)]
def e243r11 : EE := .out [(4, .c .nsl), (5, .c z), (6, .c (.int .i64 3))]
def e243r12 : EE := .q 2 .add [.c (.int .i64 2), .s 10] none <|
 .x 3 (.call 165) [.s 7, .r 2, .c (.int .i64 4)] none [] <|
 .q 5 (.ext 0) [.r 3] none <|
 .q 6 (.ext 1) [.r 3] none <|
 .out [(1, .s 1), (7, .s 7), (10, .s 10), (11, .r 5)]
def e243r13 : EE := .q 3 .add [.c (.int .i64 2), .s 10] none <|
 .q 4 (.slc 1 false true) [.s 7, .r 3] none <|
 .x 5 (.call 166) [.r 4] none [] <|
 .q 6 (.conv .u64) [.r 5] none <|
 .q 7 .neq [.s 11, .r 6] none <|
 .out [(1, .s 1), (7, .s 7), (10, .s 10), (59, .r 7)]
def e243r14 : EE := .out [(4, .c .nsl), (5, .c z), (6, .c (.int .i64 6))]
def e243r15 : EE := .q 2 .add [.c (.int .i64 2), .s 10] none <|
 .q 3 (.slc 1 true true) [.s 7, .c (.int .i64 2), .r 2] none <|
 .x 4 (.app 5 1 1 [(.int .u8 0)]) [.c .nsl, .r 3] none [] <|
 .q 6 .add [.s 1, .c (.int .i64 2)] none <|
 .q 8 .add [.r 6, .s 10] none <|
 .q 9 .add [.r 8, .c (.int .i64 4)] none <|
 .out [(4, .r 4), (5, .r 9), (6, .c z)]
def e243 : EFn := ⟨(.seq (.reg e243r0 [0, 1] 0) (.seq (.seq (.reg e243r1 [0, 1] 0) (.cond (.s 20) (.seq (.reg e243r2 [] 0) .ret) .skip)) (.seq (.reg e243r3 [0, 1] 0) (.seq (.reg e243r4 [1, 7] 0) (.seq (.seq (.reg e243r5 [1, 7, 8, 9] 0) (.cond (.s 30) (.seq (.reg e243r6 [] 0) .ret) .skip)) (.seq (.reg e243r7 [1, 7, 8] 0) (.seq (.seq (.reg e243r8 [1, 7, 10] 0) (.cond (.s 38) (.seq (.reg e243r9 [] 0) .ret) .skip)) (.seq (.seq (.reg e243r10 [1, 7, 10] 0) (.cond (.s 44) (.seq (.reg e243r11 [] 0) .ret) .skip)) (.seq (.seq (.reg e243r12 [1, 7, 10] 0) (.seq (.reg e243r13 [1, 7, 10, 11] 0) (.cond (.s 59) (.seq (.reg e243r14 [] 0) .ret) .skip))) (.seq (.reg e243r15 [1, 7, 10] 0) .ret)))))))))), [.slot 4, .slot 5, .slot 6], 70, 0⟩
theorem g243 : Good Tryz.prog 243 e243 := ⟨Tryz.f243, Tryz.func243, by kernel_rfl, by kernel_rfl, by kernel_rfl, by kernel_rfl⟩
/-! concord/letter.getBallot -/
def e244r0 : EE := .x 0 (.alc [z, z] 42) [] none [] <|
 .out [(0, .s 0), (2, .r 0)]
def e244r1 : EE := .x 1 (.call 98) [.s 0] none [] <|
 .out [(0, .s 0), (2, .s 2), (3, .r 1)]
def e244r2 : EE := .x 2 (.call 98) [.s 0] none [] <|
 .q 3 (.bld [z, z] [(0, 1), (1, 1)]) [.s 3, .r 2] none <|
 .x 4 (.st 2) [.s 2, .r 3] none [] <|
 .out [(2, .s 2)]
def e244 : EFn := ⟨(.seq (.reg e244r0 [0] 0) (.seq (.reg e244r1 [0, 2] 0) (.seq (.reg e244r2 [0, 2, 3] 0) .ret))), [.cells 2 2], 10, 0⟩
theorem g244 : Good Tryz.prog 244 e244 := ⟨Tryz.f244, Tryz.func244, by kernel_rfl, by kernel_rfl, by kernel_rfl, by kernel_rfl⟩
/-! concord/cmd.Get -/
def e245r0 : EE := .x 0 (.alc [z, z, z, zs, zs, zs, zs] 33) [] none [] <|
 .out [(0, .s 0), (2, .r 0)]
def e245r1 : EE := .x 1 (.call 98) [.s 0] none [] <|
 .q 2 (.bld [z, z, z, zs, zs, zs, zs] [(0, 1)]) [.r 1] none <|
 .x 3 (.alc [z, z, z, zs, zs, zs, zs] 33) [] none [] <|
 .x 4 (.st 7) [.r 3, .r 2] none [] <|
 .out [(0, .s 0), (2, .s 2), (3, .r 3)]
def e245r2 : EE := .q 0 (.fld 0) [.s 3] none <|
 .q 1 .ld [.r 0] none <|
 .q 2 .neq [.r 1, .c z] none <|
 .out [(0, .s 0), (2, .s 2), (3, .s 3), (9, .r 2)]
def e245r3 : EE := .x 1 (.call 98) [.s 0] none [] <|
 .q 2 (.fld 1) [.s 3] none <|
 .x 3 (.st 1) [.r 2, .r 1] none [] <|
 .out [(0, .s 0), (2, .s 2), (3, .s 3)]
def e245r4 : EE := .x 1 (.call 98) [.s 0] none [] <|
 .q 2 (.fld 2) [.s 3] none <|
 .x 3 (.st 1) [.r 2, .r 1] none [] <|
 .out [(0, .s 0), (2, .s 2), (3, .s 3)]
def e245r5 : EE := .x 1 (.call 241) [.s 0, .c (.int .i64 16)] none [] <|
 .q 2 (.fld 3) [.s 3] none <|
 .x 3 (.st 1) [.r 2, .r 1] none [] <|
 .out [(0, .s 0), (2, .s 2), (3, .s 3)]
def e245r6 : EE := .q 0 (.fld 0) [.s 3] none <|
 .q 1 .ld [.r 0] none <|
 .out [(0, .s 0), (2, .s 2), (3, .s 3), (20, .r 1)]
def e245r7 : EE := .q 0 .eql [.s 20, .c (.int .i64 2)] none <|
 .out [(0, .s 0), (2, .s 2), (3, .s 3), (20, .s 20), (21, .r 0)]
def e245r8 : EE := .x 1 (.call 241) [.s 0, .c (.int .i64 64)] none [] <|
 .q 2 (.fld 6) [.s 3] none <|
 .x 3 (.st 1) [.r 2, .r 1] none [] <|
 .out [(0, .s 0), (2, .s 2), (3, .s 3)]
def e245r9 : EE := .q 0 .eql [.s 20, .c (.int .i64 4)] none <|
 .out [(0, .s 0), (2, .s 2), (3, .s 3), (20, .s 20), (26, .r 0)]
def e245r10 : EE := .x 1 (.call 241) [.s 0, .c (.int .i64 64)] none [] <|
 .q 2 (.fld 5) [.s 3] none <|
 .x 3 (.st 1) [.r 2, .r 1] none [] <|
 .out [(0, .s 0), (2, .s 2), (3, .s 3)]
def e245r11 : EE := .x 1 (.call 241) [.s 0, .c (.int .i64 64)] none [] <|
 .q 2 (.fld 6) [.s 3] none <|
 .x 3 (.st 1) [.r 2, .r 1] none [] <|
 .out [(0, .s 0), (2, .s 2), (3, .s 3)]
def e245r12 : EE := .q 0 .eql [.s 20, .c (.int .i64 5)] none <|
 .out [(0, .s 0), (2, .s 2), (3, .s 3), (34, .r 0)]
def e245r13 : EE := .x 1 (.call 241) [.s 0, .c (.int .i64 16)] none [] <|
 .q 2 (.fld 4) [.s 3] none <|
 .x 3 (.st 1) [.r 2, .r 1] none [] <|
 .out [(0, .s 0), (2, .s 2), (3, .s 3)]
def e245r14 : EE := .x 1 (.call 167) [.s 0] none [] <|
 .q 2 .eql [.r 1, .c z] none <|
 .q 4 (.lda 7) [.s 3] (some (.r 2, true)) <|
 .x 5 (.call 41) [.r 4] (some (.r 2, true)) [] <|
 .q 6 .not [.r 5] (some (.r 2, true)) <|
 .q 7 .pick [.r 2, .r 6, .c (.bool false)] none <|
 .out [(0, .s 0), (2, .s 2), (3, .s 3), (46, .r 7)]
def e245r15 : EE := .x 1 (.call 247) [.s 0] none [] <|
 .out [(0, .s 0), (2, .s 2), (3, .s 3)]
def e245r16 : EE := .x 1 (.call 167) [.s 0] none [] <|
 .q 2 .neq [.r 1, .c z] none <|
 .out [(2, .s 2), (3, .s 3), (51, .r 2)]
def e245r17 : EE := .q 0 (.bld [z, z, z, zs, zs, zs, zs] []) [] none <|
 .x 1 (.st 7) [.s 2, .r 0] none [] <|
 .out [(2, .s 2)]
def e245r18 : EE := .q 0 (.lda 7) [.s 3] none <|
 .x 1 (.st 7) [.s 2, .r 0] none [] <|
 .out [(2, .s 2)]
def e245 : EFn := ⟨(.seq (.reg e245r0 [0] 0) (.seq (.reg e245r1 [0, 2] 0) (.seq (.seq (.reg e245r2 [0, 2, 3] 0) (.cond (.s 9) (.seq (.reg e245r3 [0, 2, 3] 0) (.seq (.reg e245r4 [0, 2, 3] 0) (.reg e245r5 [0, 2, 3] 0))) .skip)) (.seq (.seq (.reg e245r6 [0, 2, 3] 0) (.block 0 (.seq (.reg e245r7 [0, 2, 3, 20] 0) (.cond (.s 21) (.reg e245r8 [0, 2, 3] 0) (.seq (.reg e245r9 [0, 2, 3, 20] 0) (.cond (.s 26) (.seq (.reg e245r10 [0, 2, 3] 0) (.reg e245r11 [0, 2, 3] 0)) (.seq (.reg e245r12 [0, 2, 3, 20] 0) (.cond (.s 34) (.reg e245r13 [0, 2, 3] 0) .skip)))))))) (.seq (.seq (.reg e245r14 [0, 2, 3] 0) (.cond (.s 46) (.reg e245r15 [0, 2, 3] 0) .skip)) (.seq (.seq (.reg e245r16 [0, 2, 3] 0) (.cond (.s 51) (.seq (.reg e245r17 [2] 0) .ret) .skip)) (.seq (.reg e245r18 [2, 3] 0) .ret))))))), [.cells 2 7], 54, 0⟩
theorem g245 : Good Tryz.prog 245 e245 := ⟨Tryz.f245, Tryz.func245, by kernel_rfl, by kernel_rfl, by kernel_rfl, by kernel_rfl⟩
/-! concord/deps.Get -/
def e246r0 : EE := .x 0 (.alc [z, z, z, z, z, z, z, z] 46) [] none [] <|
 .out [(0, .s 0), (2, .r 0)]
def e246r1 : EE := .x 1 (.call 98) [.s 0] none [] <|
 .q 2 (.bld [z, z, z, z, z, z, z, z] [(0, 1)]) [.r 1] none <|
 .x 3 (.alc [z, z, z, z, z, z, z, z] 46) [] none [] <|
 .x 4 (.st 8) [.r 3, .r 2] none [] <|
 .out [(0, .s 0), (2, .s 2), (3, .r 3)]
def e246r2 : EE := .out [(0, .s 0), (2, .s 2), (3, .s 3), (8, .c z)]
def e246r3 : EE := .q 0 .lss [.s 8, .c (.int .i64 7)] none <|
 .out [(0, .s 0), (2, .s 2), (3, .s 3), (8, .s 8), (9, .r 0)]
def e246r4 : EE := .out [(0, .s 0), (2, .s 2), (3, .s 3), (4, .s 8), (8, .s 8)]
def e246r5 : EE := .x 2 (.call 98) [.s 0] none [] <|
 .q 3 (.fld 1) [.s 3] none <|
 .q 4 (.ixa 7 1) [.r 3, .s 4] none <|
 .x 5 (.st 1) [.r 4, .r 2] none [] <|
 .out [(0, .s 0), (2, .s 2), (3, .s 3), (8, .s 8)]
def e246r6 : EE := .q 0 .add [.s 8, .c (.int .i64 1)] none <|
 .out [(0, .s 0), (2, .s 2), (3, .s 3), (8, .r 0)]
def e246l7 : EC := (.seq (.reg e246r3 [0, 2, 3, 8] 0) (.seq (.cond (.s 9) .skip (.exit 0)) (.seq (.block 1 (.seq (.reg e246r4 [0, 2, 3, 8] 0) (.reg e246r5 [0, 2, 3, 4, 8] 0))) (.reg e246r6 [0, 2, 3, 8] 0))))
def e246r8 : EE := .x 1 (.call 167) [.s 0] none [] <|
 .q 2 .eql [.r 1, .c z] none <|
 .q 4 (.lda 8) [.s 3] (some (.r 2, true)) <|
 .x 5 (.call 100) [.r 4] (some (.r 2, true)) [] <|
 .q 6 .not [.r 5] (some (.r 2, true)) <|
 .q 7 .pick [.r 2, .r 6, .c (.bool false)] none <|
 .out [(0, .s 0), (2, .s 2), (3, .s 3), (24, .r 7)]
def e246r9 : EE := .x 1 (.call 247) [.s 0] none [] <|
 .out [(0, .s 0), (2, .s 2), (3, .s 3)]
def e246r10 : EE := .x 1 (.call 167) [.s 0] none [] <|
 .q 2 .neq [.r 1, .c z] none <|
 .out [(2, .s 2), (3, .s 3), (29, .r 2)]
def e246r11 : EE := .q 0 (.bld [z, z, z, z, z, z, z, z] []) [] none <|
 .x 1 (.st 8) [.s 2, .r 0] none [] <|
 .out [(2, .s 2)]
def e246r12 : EE := .q 0 (.lda 8) [.s 3] none <|
 .x 1 (.st 8) [.s 2, .r 0] none [] <|
 .out [(2, .s 2)]
def e246 : EFn := ⟨(.seq (.reg e246r0 [0] 0) (.seq (.reg e246r1 [0, 2] 0) (.seq (.seq (.reg e246r2 [0, 2, 3] 0) (.block 0 (.loop [0, 2, 3, 8] e246l7))) (.seq (.seq (.reg e246r8 [0, 2, 3] 0) (.cond (.s 24) (.reg e246r9 [0, 2, 3] 0) .skip)) (.seq (.seq (.reg e246r10 [0, 2, 3] 0) (.cond (.s 29) (.seq (.reg e246r11 [2] 0) .ret) .skip)) (.seq (.reg e246r12 [2, 3] 0) .ret)))))), [.cells 2 8], 32, 0⟩
theorem g246 : Good Tryz.prog 246 e246 := ⟨Tryz.f246, Tryz.func246, by kernel_rfl, by kernel_rfl, by kernel_rfl, by kernel_rfl⟩
/-! concord/word.Zig -/
def e248r0 : EE := .out [(0, .s 0)]
def e248r1 : EE := .q 1 (.conv .u64) [.s 0] none <|
 .q 2 .shl [.r 1, .c (.int .u64 1)] none <|
 .q 4 .shr [.s 0, .c (.int .u64 63)] none <|
 .q 5 (.conv .u64) [.r 4] none <|
 .q 6 .xor [.r 2, .r 5] none <|
 .out [(2, .r 6)]
def e248 : EFn := ⟨(.seq (.reg e248r0 [0] 0) (.seq (.reg e248r1 [0] 0) .ret)), [.slot 2], 10, 0⟩
theorem g248 : Good Tryz.prog 248 e248 := ⟨Tryz.f248, Tryz.func248, by kernel_rfl, by kernel_rfl, by kernel_rfl, by kernel_rfl⟩
/-! concord/disk.may -/
def e249r0 : EE := .out [(0, .s 0)]
def e249r1 : EE := .q 1 .seql [.s 0, .c zs] none <|
 .q 3 .mv [.s 0] (some (.r 1, false)) <|
 .q 4 .lenz [.r 3] (some (.r 1, false)) <|
 .q 5 .gtr [.r 4, .c (.int .i64 24)] (some (.r 1, false)) <|
 .q 6 .pick [.r 1, .c (.bool true), .r 5] none <|
 .out [(0, .s 0), (10, .r 6)]
def e249r2 : EE := .out [(2, .c (.bool false))]
def e249r3 : EE := .q 1 .lenz [.s 0] none <|
 .out [(0, .s 0), (12, .r 1), (13, .c z)]
def e249r4 : EE := .q 0 .lss [.s 13, .s 12] none <|
 .out [(0, .s 0), (12, .s 12), (13, .s 13), (14, .r 0)]
def e249r5 : EE := .out [(0, .s 0), (3, .s 13), (12, .s 12), (13, .s 13)]
def e249r6 : EE := .q 2 .idxs [.s 0, .s 3] none <|
 .q 3 .lss [.r 2, .c (.int .u8 33)] none <|
 .q 5 .mv [.s 0] (some (.r 3, false)) <|
 .q 6 .mv [.s 3] (some (.r 3, false)) <|
 .q 7 .idxs [.r 5, .r 6] (some (.r 3, false)) <|
 .q 8 .gtr [.r 7, .c (.int .u8 126)] (some (.r 3, false)) <|
 .q 9 .pick [.r 3, .c (.bool true), .r 8] none <|
 .out [(0, .s 0), (12, .s 12), (13, .s 13), (25, .r 9)]
def e249r7 : EE := .out [(2, .c (.bool false))]
def e249r8 : EE := .q 0 .add [.s 13, .c (.int .i64 1)] none <|
 .out [(0, .s 0), (12, .s 12), (13, .r 0)]
def e249l9 : EC := (.seq (.reg e249r4 [0, 12, 13] 0) (.seq (.cond (.s 14) .skip (.exit 0)) (.seq (.block 1 (.seq (.reg e249r5 [0, 12, 13] 0) (.seq (.reg e249r6 [0, 3, 12, 13] 0) (.cond (.s 25) (.seq (.reg e249r7 [] 0) .ret) .skip)))) (.reg e249r8 [0, 12, 13] 0))))
def e249r10 : EE := .out [(2, .c (.bool true))]
def e249 : EFn := ⟨(.seq (.reg e249r0 [0] 0) (.seq (.seq (.reg e249r1 [0] 0) (.cond (.s 10) (.seq (.reg e249r2 [] 0) .ret) .skip)) (.seq (.seq (.reg e249r3 [0] 0) (.block 0 (.loop [0, 12, 13] e249l9))) (.seq (.reg e249r10 [] 0) .ret)))), [.slot 2], 27, 0⟩
theorem g249 : Good Tryz.prog 249 e249 := ⟨Tryz.f249, Tryz.func249, by kernel_rfl, by kernel_rfl, by kernel_rfl, by kernel_rfl⟩
/-! (*concord/disk.Disk).Room -/
def e250r0 : EE := .out [(0, .s 0)]
def e250r1 : EE := .q 1 .nl [.s 0] none <|
 .q 2 (.fld 0) [.r 1] none <|
 .q 3 .ld [.r 2] none <|
 .x 5 (.call 299) [.s 0] none [⟨3, .ld, [.r 2], none⟩] <|
 .q 6 .sub [.r 3, .r 5] none <|
 .out [(2, .r 6)]
def e250 : EFn := ⟨(.seq (.reg e250r0 [0] 0) (.seq (.reg e250r1 [0] 0) .ret)), [.slot 2], 10, 0⟩
theorem g250 : Good Tryz.prog 250 e250 := ⟨Tryz.f250, Tryz.func250, by kernel_rfl, by kernel_rfl, by kernel_rfl, by kernel_rfl⟩
/-! slices.Insert[[]concord/disk.file,concord/disk.file] -/
def e251r0 : EE := .out [(0, .s 0), (1, .s 1), (2, .s 2)]
def e251r1 : EE := .q 2 (.slc 3 true false) [.s 0, .s 1] none <|
 .out [(0, .s 0), (1, .s 1), (2, .s 2)]
def e251r2 : EE := .q 1 .len [.s 2] none <|
 .out [(0, .s 0), (1, .s 1), (2, .s 2), (7, .r 1)]
def e251r3 : EE := .q 1 .eql [.s 7, .c z] none <|
 .out [(0, .s 0), (1, .s 1), (2, .s 2), (7, .s 7), (16, .r 1)]
def e251r4 : EE := .out [(6, .s 0)]
def e251r5 : EE := .q 1 .len [.s 0] none <|
 .out [(0, .s 0), (1, .s 1), (2, .s 2), (7, .s 7), (8, .r 1)]
def e251r6 : EE := .q 2 .eql [.s 1, .s 8] none <|
 .out [(0, .s 0), (1, .s 1), (2, .s 2), (7, .s 7), (8, .s 8), (22, .r 2)]
def e251r7 : EE := .x 2 (.app 256 3 48 [zs, .nsl, z]) [.s 0, .s 2] none [] <|
 .out [(6, .r 2)]
def e251r8 : EE := .q 2 .add [.s 8, .s 7] none <|
 .q 4 .cap [.s 0] none <|
 .q 5 .gtr [.r 2, .r 4] none <|
 .out [(0, .s 0), (1, .s 1), (2, .s 2), (7, .s 7), (8, .s 8), (31, .r 5)]
def e251r9 : EE := .q 2 (.slc 3 false true) [.s 0, .s 1] none <|
 .q 5 .add [.s 8, .s 7] none <|
 .q 7 .sub [.r 5, .s 1] none <|
 .x 8 (.appn 256 3 48 [zs, .nsl, z]) [.r 2, .r 7] none [] <|
 .out [(0, .s 0), (1, .s 1), (2, .s 2), (7, .s 7), (9, .r 8)]
def e251r10 : EE := .q 2 (.slc 3 true false) [.s 9, .s 1] none <|
 .x 4 (.cpy 3) [.r 2, .s 2] none [] <|
 .out [(0, .s 0), (1, .s 1), (7, .s 7), (9, .s 9)]
def e251r11 : EE := .q 3 .add [.s 1, .s 7] none <|
 .q 4 (.slc 3 true false) [.s 9, .r 3] none <|
 .q 7 (.slc 3 true false) [.s 0, .s 1] none <|
 .x 8 (.cpy 3) [.r 4, .r 7] none [] <|
 .out [(9, .s 9)]
def e251r12 : EE := .out [(6, .s 9)]
def e251r13 : EE := .q 3 .add [.s 8, .s 7] none <|
 .q 4 (.slc 3 false true) [.s 0, .r 3] none <|
 .out [(0, .r 4), (1, .s 1), (2, .s 2), (7, .s 7), (8, .s 8)]
def e251r14 : EE := .q 4 .add [.s 1, .s 7] none <|
 .q 5 (.slc 3 true false) [.s 0, .r 4] none <|
 .x 6 .bad [] none [] <|
 .q 7 .not [.r 6] none <|
 .out [(0, .s 0), (1, .s 1), (2, .s 2), (7, .s 7), (8, .s 8), (68, .r 7)]
def e251r15 : EE := .q 3 .add [.s 1, .s 7] none <|
 .q 4 (.slc 3 true false) [.s 0, .r 3] none <|
 .q 7 (.slc 3 true false) [.s 0, .s 1] none <|
 .x 8 (.cpy 3) [.r 4, .r 7] none [] <|
 .out [(0, .s 0), (1, .s 1), (2, .s 2)]
def e251r16 : EE := .q 2 (.slc 3 true false) [.s 0, .s 1] none <|
 .x 4 (.cpy 3) [.r 2, .s 2] none [] <|
 .out [(0, .s 0)]
def e251r17 : EE := .out [(6, .s 0)]
def e251r18 : EE := .q 2 (.slc 3 true false) [.s 0, .s 8] none <|
 .x 4 (.cpy 3) [.r 2, .s 2] none [] <|
 .out [(0, .s 0), (1, .s 1), (7, .s 7)]
def e251r19 : EE := .q 2 (.slc 3 true false) [.s 0, .s 1] none <|
 .x 4 (.call 301) [.r 2, .s 7] none [] <|
 .out [(0, .s 0)]
def e251r20 : EE := .out [(6, .s 0)]
def e251 : EFn := ⟨(.seq (.reg e251r0 [0, 1, 2] 0) (.seq (.reg e251r1 [0, 1, 2] 0) (.seq (.reg e251r2 [0, 1, 2] 0) (.seq (.seq (.reg e251r3 [0, 1, 2, 7] 0) (.cond (.s 16) (.seq (.reg e251r4 [0] 0) .ret) .skip)) (.seq (.reg e251r5 [0, 1, 2, 7] 0) (.seq (.seq (.reg e251r6 [0, 1, 2, 7, 8] 0) (.cond (.s 22) (.seq (.reg e251r7 [0, 2] 0) .ret) .skip)) (.seq (.seq (.reg e251r8 [0, 1, 2, 7, 8] 0) (.cond (.s 31) (.seq (.reg e251r9 [0, 1, 2, 7, 8] 0) (.seq (.reg e251r10 [0, 1, 2, 7, 9] 0) (.seq (.reg e251r11 [0, 1, 7, 9] 0) (.seq (.reg e251r12 [9] 0) .ret)))) .skip)) (.seq (.reg e251r13 [0, 1, 2, 7, 8] 0) (.seq (.seq (.reg e251r14 [0, 1, 2, 7, 8] 0) (.cond (.s 68) (.seq (.reg e251r15 [0, 1, 2, 7] 0) (.seq (.reg e251r16 [0, 1, 2] 0) (.seq (.reg e251r17 [0] 0) .ret))) .skip)) (.seq (.reg e251r18 [0, 1, 2, 7, 8] 0) (.seq (.reg e251r19 [0, 1, 7] 0) (.seq (.reg e251r20 [0] 0) .ret)))))))))))), [.slot 6], 95, 0⟩
theorem g251 : Good Tryz.prog 251 e251 := ⟨Tryz.f251, Tryz.func251, by kernel_rfl, by kernel_rfl, by kernel_rfl, by kernel_rfl⟩
/-! slices.Concat[[]byte,byte] -/
def e252r0 : EE := .out [(0, .s 0)]
def e252r1 : EE := .out [(0, .s 0), (3, .c z)]
def e252r2 : EE := .q 1 .len [.s 0] none <|
 .out [(0, .s 0), (3, .s 3), (9, .s 0), (10, .r 1), (11, .c z)]
def e252r3 : EE := .q 0 .lss [.s 11, .s 10] none <|
 .out [(0, .s 0), (3, .s 3), (9, .s 9), (10, .s 10), (11, .s 11), (12, .r 0)]
def e252r4 : EE := .q 0 (.ixs 1) [.s 9, .s 11] none <|
 .q 1 .ld [.r 0] none <|
 .out [(0, .s 0), (3, .s 3), (5, .r 1), (9, .s 9), (10, .s 10), (11, .s 11)]
def e252r5 : EE := .q 2 .len [.s 5] none <|
 .q 3 .add [.s 3, .r 2] none <|
 .out [(0, .s 0), (3, .r 3), (9, .s 9), (10, .s 10), (11, .s 11)]
def e252r6 : EE := .q 1 .lss [.s 3, .c z] none <|
 .out [(0, .s 0), (3, .s 3), (9, .s 9), (10, .s 10), (11, .s 11), (20, .r 1)]
def e252r7 : EE := .q 0 (.mki 9) [.c (.str [108, 101, 110, 32, 111, 117, 116, 32, 111, 102, 32, 114, 97, 110, 103, 101])] none <|
 .x 1 .bad [] none [] <|
 .out [(0, .s 0), (3, .s 3), (9, .s 9), (10, .s 10), (11, .s 11)]
def e252r8 : EE := .q 0 .add [.s 11, .c (.int .i64 1)] none <|
 .out [(0, .s 0), (3, .s 3), (9, .s 9), (10, .s 10), (11, .r 0)]
def e252l9 : EC := (.seq (.reg e252r3 [0, 3, 9, 10, 11] 0) (.seq (.cond (.s 12) .skip (.exit 0)) (.seq (.block 1 (.seq (.reg e252r4 [0, 3, 9, 10, 11] 0) (.seq (.reg e252r5 [0, 3, 5, 9, 10, 11] 0) (.seq (.reg e252r6 [0, 3, 9, 10, 11] 0) (.cond (.s 20) (.reg e252r7 [0, 3, 9, 10, 11] 0) .skip))))) (.reg e252r8 [0, 3, 9, 10, 11] 0))))
def e252r10 : EE := .x 1 (.call 302) [.c .nsl, .s 3] none [] <|
 .out [(0, .s 0), (6, .r 1)]
def e252r11 : EE := .q 1 .len [.s 0] none <|
 .out [(6, .s 6), (25, .s 0), (26, .r 1), (27, .c z)]
def e252r12 : EE := .q 0 .lss [.s 27, .s 26] none <|
 .out [(6, .s 6), (25, .s 25), (26, .s 26), (27, .s 27), (28, .r 0)]
def e252r13 : EE := .q 0 (.ixs 1) [.s 25, .s 27] none <|
 .q 1 .ld [.r 0] none <|
 .out [(6, .s 6), (8, .r 1), (25, .s 25), (26, .s 26), (27, .s 27)]
def e252r14 : EE := .x 2 (.app 5 1 1 [(.int .u8 0)]) [.s 6, .s 8] none [] <|
 .out [(6, .r 2), (25, .s 25), (26, .s 26), (27, .s 27)]
def e252r15 : EE := .q 0 .add [.s 27, .c (.int .i64 1)] none <|
 .out [(6, .s 6), (25, .s 25), (26, .s 26), (27, .r 0)]
def e252l16 : EC := (.seq (.reg e252r12 [6, 25, 26, 27] 0) (.seq (.cond (.s 28) .skip (.exit 2)) (.seq (.block 3 (.seq (.reg e252r13 [6, 25, 26, 27] 0) (.reg e252r14 [6, 8, 25, 26, 27] 0))) (.reg e252r15 [6, 25, 26, 27] 0))))
def e252r17 : EE := .out [(2, .s 6)]
def e252 : EFn := ⟨(.seq (.reg e252r0 [0] 0) (.seq (.reg e252r1 [0] 0) (.seq (.seq (.reg e252r2 [0, 3] 0) (.block 0 (.loop [0, 3, 9, 10, 11] e252l9))) (.seq (.reg e252r10 [0, 3] 0) (.seq (.seq (.reg e252r11 [0, 6] 0) (.block 2 (.loop [6, 25, 26, 27] e252l16))) (.seq (.reg e252r17 [6] 0) .ret)))))), [.slot 2], 36, 0⟩
theorem g252 : Good Tryz.prog 252 e252 := ⟨Tryz.f252, Tryz.func252, by kernel_rfl, by kernel_rfl, by kernel_rfl, by kernel_rfl⟩
/-! (*concord/exec.plan).round -/
def e253r0 : EE := .out [(0, .s 0)]
def e253r1 : EE := .x 0 (.call 303) [.c .nsl] none [] <|
 .out [(0, .s 0), (4, .c (.bool false)), (5, .r 0)]
def e253r2 : EE := .out [(0, .s 0), (4, .s 4), (5, .s 5), (13, .c z)]
def e253r3 : EE := .q 0 .lss [.s 13, .c (.int .i64 7)] none <|
 .out [(0, .s 0), (4, .s 4), (5, .s 5), (13, .s 13), (14, .r 0)]
def e253r4 : EE := .out [(0, .s 0), (4, .s 4), (5, .s 5), (6, .s 13), (13, .s 13)]
def e253r5 : EE := .q 3 .nl [.s 0] none <|
 .q 4 (.fld 0) [.r 3] none <|
 .q 5 (.ixa 7 1) [.r 4, .s 6] none <|
 .q 6 .ld [.r 5] none <|
 .q 7 .add [.r 6, .c (.int .i64 1)] none <|
 .q 8 (.bld [z, z] [(0, 1), (1, 1)]) [.s 6, .r 7] none <|
 .x 9 (.alc [z, z] 40) [] none [] <|
 .x 10 (.st 2) [.r 9, .r 8] none [] <|
 .out [(0, .s 0), (4, .s 4), (5, .s 5), (7, .r 9), (13, .s 13)]
def e253r6 : EE := .q 1 .nl [.s 0] none <|
 .q 2 (.fld 7) [.r 1] none <|
 .q 3 .ld [.r 2] none <|
 .q 4 (.lda 2) [.s 7] none <|
 .q 5 (.lkp true [(.i .i64), (.i .i64)] (.agg [z, z, z, z, z, z, z, z, zs, zs, zs, zs, z, z, z, z, z, z, z, z, (.bool false)]) true) [.r 3, .r 4] none <|
 .q 7 (.ext 0) [.r 5] none <|
 .q 8 (.ext 1) [.r 5] none <|
 .x 9 (.alc [z, z, z, z, z, z, z, z, zs, zs, zs, zs, z, z, z, z, z, z, z, z, (.bool false)] 48) [] none [⟨3, .ld, [.r 2], none⟩, ⟨4, (.lda 2), [.s 7], none⟩, ⟨5, (.lkp true [(.i .i64), (.i .i64)] (.agg [z, z, z, z, z, z, z, z, zs, zs, zs, zs, z, z, z, z, z, z, z, z, (.bool false)]) true), [.r 3, .r 4], none⟩] <|
 .x 10 (.st 21) [.r 9, .r 7] none [] <|
 .out [(0, .s 0), (4, .s 4), (5, .s 5), (7, .s 7), (9, .r 8), (13, .s 13)]
def e253r7 : EE := .q 1 .not [.s 9] none <|
 .out [(0, .s 0), (4, .s 4), (5, .s 5), (7, .s 7), (13, .s 13), (35, .r 1)]
def e253r8 : EE := .q 1 (.lda 2) [.s 7] none <|
 .x 2 (.call 304) [.s 0, .r 1] none [] <|
 .out [(0, .s 0), (4, .s 4), (5, .s 5), (7, .s 7), (13, .s 13), (38, .r 2)]
def e253r9 : EE := .q 1 (.lda 2) [.s 7] none <|
 .x 2 (.call 305) [.s 5, .r 1] none [] <|
 .out [(0, .s 0), (4, .s 4), (5, .s 5), (13, .s 13)]
def e253r10 : EE := .q 1 (.lda 2) [.s 7] none <|
 .x 2 (.call 306) [.s 0, .r 1] none [] <|
 .q 4 (.ext 0) [.r 2] none <|
 .q 5 (.ext 1) [.r 2] none <|
 .x 6 (.alc [z, z] 40) [] none [] <|
 .x 8 (.st 2) [.r 6, .r 5] none [] <|
 .out [(0, .s 0), (4, .s 4), (5, .s 5), (10, .r 4), (11, .r 6), (13, .s 13)]
def e253r11 : EE := .q 1 .len [.s 10] none <|
 .q 2 .gtr [.r 1, .c z] none <|
 .out [(0, .s 0), (4, .s 4), (5, .s 5), (10, .s 10), (11, .s 11), (13, .s 13), (48, .r 2)]
def e253r12 : EE := .x 2 (.call 307) [.s 0, .s 10] none [] <|
 .out [(0, .s 0), (5, .s 5), (13, .s 13)]
def e253r13 : EE := .out [(0, .s 0), (4, .c (.bool true)), (5, .s 5), (13, .s 13)]
def e253r14 : EE := .q 0 (.lda 2) [.s 11] none <|
 .q 1 (.bld [z, z] []) [] none <|
 .q 2 (.eqc true [(.i .i64), (.i .i64)]) [.r 0, .r 1] none <|
 .out [(0, .s 0), (4, .s 4), (5, .s 5), (11, .s 11), (13, .s 13), (55, .r 2)]
def e253r15 : EE := .q 1 (.lda 2) [.s 11] none <|
 .x 2 (.call 305) [.s 5, .r 1] none [] <|
 .out [(0, .s 0), (4, .s 4), (5, .s 5), (13, .s 13)]
def e253r16 : EE := .q 0 .add [.s 13, .c (.int .i64 1)] none <|
 .out [(0, .s 0), (4, .s 4), (5, .s 5), (13, .r 0)]
def e253l17 : EC := (.seq (.reg e253r3 [0, 4, 5, 13] 0) (.seq (.cond (.s 14) .skip (.exit 0)) (.seq (.block 1 (.seq (.reg e253r4 [0, 4, 5, 13] 0) (.seq (.reg e253r5 [0, 4, 5, 6, 13] 0) (.seq (.seq (.reg e253r6 [0, 4, 5, 7, 13] 0) (.seq (.reg e253r7 [0, 4, 5, 7, 9, 13] 0) (.cond (.s 35) (.seq (.seq (.reg e253r8 [0, 4, 5, 7, 13] 0) (.cond (.s 38) (.reg e253r9 [0, 4, 5, 7, 13] 0) .skip)) (.exit 1)) .skip))) (.seq (.reg e253r10 [0, 4, 5, 7, 13] 0) (.block 2 (.seq (.reg e253r11 [0, 4, 5, 10, 11, 13] 0) (.cond (.s 48) (.seq (.reg e253r12 [0, 5, 10, 13] 0) (.reg e253r13 [0, 5, 13] 0)) (.seq (.reg e253r14 [0, 4, 5, 11, 13] 0) (.cond (.s 55) (.reg e253r15 [0, 4, 5, 11, 13] 0) .skip)))))))))) (.reg e253r16 [0, 4, 5, 13] 0))))
def e253r18 : EE := .out [(2, .s 4), (3, .s 5)]
def e253 : EFn := ⟨(.seq (.reg e253r0 [0] 0) (.seq (.reg e253r1 [0] 0) (.seq (.seq (.reg e253r2 [0, 4, 5] 0) (.block 0 (.loop [0, 4, 5, 13] e253l17))) (.seq (.reg e253r18 [4, 5] 0) .ret)))), [.slot 2, .slot 3], 65, 0⟩
theorem g253 : Good Tryz.prog 253 e253 := ⟨Tryz.f253, Tryz.func253, by kernel_rfl, by kernel_rfl, by kernel_rfl, by kernel_rfl⟩
/-! (*concord/inst.Set).List -/
def e254r0 : EE := .out [(0, .s 0)]
def e254r1 : EE := .out [(0, .s 0), (3, .c .nsl)]
def e254r2 : EE := .q 1 .nl [.s 0] none <|
 .q 2 (.fld 0) [.r 1] none <|
 .q 3 .ld [.r 2] none <|
 .x 4 .rng [.r 3] none [] <|
 .out [(3, .s 3), (9, .r 4)]
def e254r3 : EE := .x 0 .nxt [.s 9] none [] <|
 .q 1 (.ext 0) [.r 0] none <|
 .out [(3, .s 3), (9, .s 9), (11, .r 1)]
def e254r4 : EE := .q 0 .ent [.s 9] none <|
 .q 1 (.ext 0) [.r 0] none <|
 .x 2 (.alc [z, z] 40) [] none [] <|
 .x 3 (.st 2) [.r 2, .r 1] none [] <|
 .out [(3, .s 3), (4, .r 2), (9, .s 9)]
def e254r5 : EE := .q 1 (.lda 2) [.s 4] none <|
 .x 2 (.bsl 40 1 [z, z] [(0, 2)]) [.r 1] none [] <|
 .x 3 (.app 40 2 16 [z, z]) [.s 3, .r 2] none [] <|
 .out [(3, .r 3), (9, .s 9)]
def e254l6 : EC := (.seq (.reg e254r3 [3, 9] 0) (.seq (.cond (.s 11) .skip (.exit 0)) (.block 1 (.seq (.reg e254r4 [3, 9] 0) (.reg e254r5 [3, 4, 9] 0)))))
def e254r7 : EE := .x 1 (.call 265) [.s 3, .f 308] none [] <|
 .out [(3, .s 3)]
def e254r8 : EE := .out [(2, .s 3)]
def e254 : EFn := ⟨(.seq (.reg e254r0 [0] 0) (.seq (.reg e254r1 [0] 0) (.seq (.seq (.reg e254r2 [0, 3] 0) (.block 0 (.loop [3, 9] e254l6))) (.seq (.reg e254r7 [3] 0) (.seq (.reg e254r8 [3] 0) .ret))))), [.slot 2], 21, 0⟩
theorem g254 : Good Tryz.prog 254 e254 := ⟨Tryz.f254, Tryz.func254, by kernel_rfl, by kernel_rfl, by kernel_rfl, by kernel_rfl⟩
/-! concord/pack.Flag -/
def e258r0 : EE := .out [(0, .s 0), (1, .s 1)]
def e258r1 : EE := .out [(0, .s 0), (5, .s 1)]
def e258r2 : EE := .x 1 (.call 177) [.s 0, .c (.int .i64 1)] none [] <|
 .x 2 (.bsl 5 1 [(.int .u8 0)] [(0, 1)]) [.c (.int .u8 1)] none [] <|
 .x 3 (.app 5 1 1 [(.int .u8 0)]) [.r 1, .r 2] none [] <|
 .out [(4, .r 3)]
def e258r3 : EE := .x 1 (.call 177) [.s 0, .c (.int .i64 1)] none [] <|
 .x 2 (.bsl 5 1 [(.int .u8 0)] [(0, 1)]) [.c (.int .u8 0)] none [] <|
 .x 3 (.app 5 1 1 [(.int .u8 0)]) [.r 1, .r 2] none [] <|
 .out [(4, .r 3)]
def e258 : EFn := ⟨(.seq (.reg e258r0 [0, 1] 0) (.seq (.seq (.reg e258r1 [0, 1] 0) (.cond (.s 5) (.seq (.reg e258r2 [0] 0) .ret) .skip)) (.seq (.reg e258r3 [0] 0) .ret))), [.slot 4], 14, 0⟩
theorem g258 : Good Tryz.prog 258 e258 := ⟨Tryz.f258, Tryz.func258, by kernel_rfl, by kernel_rfl, by kernel_rfl, by kernel_rfl⟩
/-! concord/pack.Text -/
def e259r0 : EE := .out [(0, .s 0), (1, .s 1)]
def e259r1 : EE := .q 2 .lenz [.s 1] none <|
 .q 3 .add [.c (.int .i64 10), .r 2] none <|
 .x 4 (.call 177) [.s 0, .r 3] none [] <|
 .q 6 .lenz [.s 1] none <|
 .x 7 (.call 185) [.r 4, .r 6] none [] <|
 .x 9 (.apps 5) [.r 7, .s 1] none [] <|
 .out [(4, .r 9)]
def e259 : EFn := ⟨(.seq (.reg e259r0 [0, 1] 0) (.seq (.reg e259r1 [0, 1] 0) .ret)), [.slot 4], 15, 0⟩
theorem g259 : Good Tryz.prog 259 e259 := ⟨Tryz.f259, Tryz.func259, by kernel_rfl, by kernel_rfl, by kernel_rfl, by kernel_rfl⟩
/-! (*concord/log.Log).Cut -/
def e260r0 : EE := .x 0 (.alc [z, z, z, z, z, z, z] 44) [] none [] <|
 .out [(0, .s 0), (2, .r 0)]
def e260r1 : EE := .q 1 .nl [.s 0] none <|
 .q 2 (.fld 1) [.r 1] none <|
 .q 3 (.lda 7) [.r 2] none <|
 .x 4 (.st 7) [.s 2, .r 3] none [] <|
 .out [(2, .s 2)]
def e260 : EFn := ⟨(.seq (.reg e260r0 [0] 0) (.seq (.reg e260r1 [0, 2] 0) .ret)), [.cells 2 7], 7, 0⟩
theorem g260 : Good Tryz.prog 260 e260 := ⟨Tryz.f260, Tryz.func260, by kernel_rfl, by kernel_rfl, by kernel_rfl, by kernel_rfl⟩
/-! slices.DeleteFunc[[]*concord/core.lead,*concord/core.lead] -/
def e261r0 : EE := .out [(0, .s 0), (1, .s 1)]
def e261r1 : EE := .x 2 (.call 311) [.s 0, .s 1] none [] <|
 .out [(0, .s 0), (1, .s 1), (5, .r 2)]
def e261r2 : EE := .q 1 .eql [.s 5, .c (.int .i64 (-1))] none <|
 .out [(0, .s 0), (1, .s 1), (5, .s 5), (12, .r 1)]
def e261r3 : EE := .out [(4, .s 0)]
def e261r4 : EE := .q 1 .add [.s 5, .c (.int .i64 1)] none <|
 .out [(0, .s 0), (1, .s 1), (5, .s 5), (6, .r 1)]
def e261r5 : EE := .q 2 .len [.s 0] none <|
 .q 3 .lss [.s 6, .r 2] none <|
 .out [(0, .s 0), (1, .s 1), (5, .s 5), (6, .s 6), (19, .r 3)]
def e261r6 : EE := .q 2 (.ixs 1) [.s 0, .s 6] none <|
 .q 3 .ld [.r 2] none <|
 .out [(0, .s 0), (1, .s 1), (5, .s 5), (6, .s 6), (7, .r 3)]
def e261r7 : EE := .x 2 .callv [.s 1, .s 7] none [] <|
 .q 3 .not [.r 2] none <|
 .out [(0, .s 0), (1, .s 1), (5, .s 5), (6, .s 6), (7, .s 7), (29, .r 3)]
def e261r8 : EE := .q 3 (.ixs 1) [.s 0, .s 5] none <|
 .x 4 (.st 1) [.r 3, .s 7] none [] <|
 .out [(0, .s 0), (1, .s 1), (5, .s 5), (6, .s 6)]
def e261r9 : EE := .q 1 .add [.s 5, .c (.int .i64 1)] none <|
 .out [(0, .s 0), (1, .s 1), (5, .r 1), (6, .s 6)]
def e261r10 : EE := .q 1 .add [.s 6, .c (.int .i64 1)] none <|
 .out [(0, .s 0), (1, .s 1), (5, .s 5), (6, .r 1)]
def e261l11 : EC := (.seq (.seq (.reg e261r5 [0, 1, 5, 6] 0) (.cond (.s 19) .skip (.exit 0))) (.seq (.block 1 (.seq (.reg e261r6 [0, 1, 5, 6] 0) (.seq (.reg e261r7 [0, 1, 5, 6, 7] 0) (.cond (.s 29) (.seq (.reg e261r8 [0, 1, 5, 6, 7] 0) (.reg e261r9 [0, 1, 5, 6] 0)) .skip)))) (.reg e261r10 [0, 1, 5, 6] 0)))
def e261r12 : EE := .q 2 (.slc 1 true false) [.s 0, .s 5] none <|
 .x 3 (.clr [.nptr]) [.r 2] none [] <|
 .out [(0, .s 0), (5, .s 5)]
def e261r13 : EE := .q 2 (.slc 1 false true) [.s 0, .s 5] none <|
 .out [(4, .r 2)]
def e261 : EFn := ⟨(.seq (.reg e261r0 [0, 1] 0) (.seq (.reg e261r1 [0, 1] 0) (.seq (.seq (.reg e261r2 [0, 1, 5] 0) (.cond (.s 12) (.seq (.reg e261r3 [0] 0) .ret) .skip)) (.seq (.seq (.reg e261r4 [0, 1, 5] 0) (.block 0 (.loop [0, 1, 5, 6] e261l11))) (.seq (.reg e261r12 [0, 5] 0) (.seq (.reg e261r13 [0, 5] 0) .ret)))))), [.slot 4], 42, 0⟩
theorem g261 : Good Tryz.prog 261 e261 := ⟨Tryz.f261, Tryz.func261, by kernel_rfl, by kernel_rfl, by kernel_rfl, by kernel_rfl⟩
/-! concord/letter.PutCell -/
def e264r0 : EE := .x 0 (.box 48) [.s 1] none [] <|
 .out [(0, .s 0), (3, .r 0)]
def e264r1 : EE := .q 0 (.lda 21) [.s 3] none <|
 .x 1 (.call 131) [.r 0] none [] <|
 .q 2 .not [.r 1] none <|
 .out [(0, .s 0), (3, .s 3), (7, .r 2)]
def e264r2 : EE := .x 1 (.app 5 1 1 [(.int .u8 0)]) [.c .nsl, .s 0] none [] <|
 .out [(4, .r 1)]
def e264r3 : EE := .q 1 (.fld 0) [.s 3] none <|
 .q 2 .ld [.r 1] none <|
 .q 4 (.fld 1) [.s 3] none <|
 .q 5 (.lda 2) [.r 4] none <|
 .x 3 (.call 109) [.s 0, .r 2] none [⟨5, (.lda 2), [.r 4], none⟩] <|
 .x 6 (.call 312) [.r 3, .r 5] none [] <|
 .out [(0, .r 6), (3, .s 3)]
def e264r4 : EE := .q 0 (.fld 0) [.s 3] none <|
 .q 1 .ld [.r 0] none <|
 .q 2 .eql [.r 1, .c z] none <|
 .out [(0, .s 0), (3, .s 3), (19, .r 2)]
def e264r5 : EE := .out [(4, .s 0)]
def e264r6 : EE := .q 1 (.fld 3) [.s 3] none <|
 .q 2 (.lda 2) [.r 1] none <|
 .q 4 (.fld 5) [.s 3] none <|
 .q 5 (.lda 7) [.r 4] none <|
 .x 3 (.call 312) [.s 0, .r 2] none [⟨5, (.lda 7), [.r 4], none⟩] <|
 .x 6 (.call 313) [.r 3, .r 5] none [] <|
 .out [(0, .r 6), (3, .s 3)]
def e264r7 : EE := .q 1 (.fld 12) [.s 3] none <|
 .q 2 (.lda 8) [.r 1] none <|
 .q 4 (.fld 20) [.s 3] none <|
 .q 5 .ld [.r 4] none <|
 .x 3 (.call 314) [.s 0, .r 2] none [⟨5, .ld, [.r 4], none⟩] <|
 .x 6 (.call 258) [.r 3, .r 5] none [] <|
 .out [(4, .r 6)]
def e264 : EFn := ⟨(.seq (.reg e264r0 [0, 1] 0) (.seq (.seq (.reg e264r1 [0, 3] 0) (.cond (.s 7) (.seq (.reg e264r2 [0] 0) .ret) .skip)) (.seq (.reg e264r3 [0, 3] 0) (.seq (.seq (.reg e264r4 [0, 3] 0) (.cond (.s 19) (.seq (.reg e264r5 [0] 0) .ret) .skip)) (.seq (.reg e264r6 [0, 3] 0) (.seq (.reg e264r7 [0, 3] 0) .ret)))))), [.slot 4], 35, 0⟩
theorem g264 : Good Tryz.prog 264 e264 := ⟨Tryz.f264, Tryz.func264, by kernel_rfl, by kernel_rfl, by kernel_rfl, by kernel_rfl⟩
/-! slices.SortFunc[[]concord/api.Inst,concord/api.Inst] -/
def e265r0 : EE := .q 1 .len [.s 0] none <|
 .out [(0, .s 0), (1, .s 1), (4, .r 1)]
def e265r1 : EE := .q 3 (.conv .u64) [.s 4] none <|
 .x 4 (.call 316) [.r 3] none [] <|
 .x 6 (.call 315) [.s 0, .c z, .s 4, .r 4, .s 1] none [] <|
 .out []
def e265 : EFn := ⟨(.seq (.reg e265r0 [0, 1] 0) (.reg e265r1 [0, 1, 4] 0)), [], 14, 0⟩
theorem g265 : Good Tryz.prog 265 e265 := ⟨Tryz.f265, Tryz.func265, by kernel_rfl, by kernel_rfl, by kernel_rfl, by kernel_rfl⟩
/-! slices.Insert[[]*concord/core.lead,*concord/core.lead] -/
def e268r0 : EE := .out [(0, .s 0), (1, .s 1), (2, .s 2)]
def e268r1 : EE := .q 2 (.slc 1 true false) [.s 0, .s 1] none <|
 .out [(0, .s 0), (1, .s 1), (2, .s 2)]
def e268r2 : EE := .q 1 .len [.s 2] none <|
 .out [(0, .s 0), (1, .s 1), (2, .s 2), (7, .r 1)]
def e268r3 : EE := .q 1 .eql [.s 7, .c z] none <|
 .out [(0, .s 0), (1, .s 1), (2, .s 2), (7, .s 7), (16, .r 1)]
def e268r4 : EE := .out [(6, .s 0)]
def e268r5 : EE := .q 1 .len [.s 0] none <|
 .out [(0, .s 0), (1, .s 1), (2, .s 2), (7, .s 7), (8, .r 1)]
def e268r6 : EE := .q 2 .eql [.s 1, .s 8] none <|
 .out [(0, .s 0), (1, .s 1), (2, .s 2), (7, .s 7), (8, .s 8), (22, .r 2)]
def e268r7 : EE := .x 2 (.app 225 1 8 [.nptr]) [.s 0, .s 2] none [] <|
 .out [(6, .r 2)]
def e268r8 : EE := .q 2 .add [.s 8, .s 7] none <|
 .q 4 .cap [.s 0] none <|
 .q 5 .gtr [.r 2, .r 4] none <|
 .out [(0, .s 0), (1, .s 1), (2, .s 2), (7, .s 7), (8, .s 8), (31, .r 5)]
def e268r9 : EE := .q 2 (.slc 1 false true) [.s 0, .s 1] none <|
 .q 5 .add [.s 8, .s 7] none <|
 .q 7 .sub [.r 5, .s 1] none <|
 .x 8 (.appn 225 1 8 [.nptr]) [.r 2, .r 7] none [] <|
 .out [(0, .s 0), (1, .s 1), (2, .s 2), (7, .s 7), (9, .r 8)]
def e268r10 : EE := .q 2 (.slc 1 true false) [.s 9, .s 1] none <|
 .x 4 (.cpy 1) [.r 2, .s 2] none [] <|
 .out [(0, .s 0), (1, .s 1), (7, .s 7), (9, .s 9)]
def e268r11 : EE := .q 3 .add [.s 1, .s 7] none <|
 .q 4 (.slc 1 true false) [.s 9, .r 3] none <|
 .q 7 (.slc 1 true false) [.s 0, .s 1] none <|
 .x 8 (.cpy 1) [.r 4, .r 7] none [] <|
 .out [(9, .s 9)]
def e268r12 : EE := .out [(6, .s 9)]
def e268r13 : EE := .q 3 .add [.s 8, .s 7] none <|
 .q 4 (.slc 1 false true) [.s 0, .r 3] none <|
 .out [(0, .r 4), (1, .s 1), (2, .s 2), (7, .s 7), (8, .s 8)]
def e268r14 : EE := .q 4 .add [.s 1, .s 7] none <|
 .q 5 (.slc 1 true false) [.s 0, .r 4] none <|
 .x 6 .bad [] none [] <|
 .q 7 .not [.r 6] none <|
 .out [(0, .s 0), (1, .s 1), (2, .s 2), (7, .s 7), (8, .s 8), (68, .r 7)]
def e268r15 : EE := .q 3 .add [.s 1, .s 7] none <|
 .q 4 (.slc 1 true false) [.s 0, .r 3] none <|
 .q 7 (.slc 1 true false) [.s 0, .s 1] none <|
 .x 8 (.cpy 1) [.r 4, .r 7] none [] <|
 .out [(0, .s 0), (1, .s 1), (2, .s 2)]
def e268r16 : EE := .q 2 (.slc 1 true false) [.s 0, .s 1] none <|
 .x 4 (.cpy 1) [.r 2, .s 2] none [] <|
 .out [(0, .s 0)]
def e268r17 : EE := .out [(6, .s 0)]
def e268r18 : EE := .q 2 (.slc 1 true false) [.s 0, .s 8] none <|
 .x 4 (.cpy 1) [.r 2, .s 2] none [] <|
 .out [(0, .s 0), (1, .s 1), (7, .s 7)]
def e268r19 : EE := .q 2 (.slc 1 true false) [.s 0, .s 1] none <|
 .x 4 (.call 318) [.r 2, .s 7] none [] <|
 .out [(0, .s 0)]
def e268r20 : EE := .out [(6, .s 0)]
def e268 : EFn := ⟨(.seq (.reg e268r0 [0, 1, 2] 0) (.seq (.reg e268r1 [0, 1, 2] 0) (.seq (.reg e268r2 [0, 1, 2] 0) (.seq (.seq (.reg e268r3 [0, 1, 2, 7] 0) (.cond (.s 16) (.seq (.reg e268r4 [0] 0) .ret) .skip)) (.seq (.reg e268r5 [0, 1, 2, 7] 0) (.seq (.seq (.reg e268r6 [0, 1, 2, 7, 8] 0) (.cond (.s 22) (.seq (.reg e268r7 [0, 2] 0) .ret) .skip)) (.seq (.seq (.reg e268r8 [0, 1, 2, 7, 8] 0) (.cond (.s 31) (.seq (.reg e268r9 [0, 1, 2, 7, 8] 0) (.seq (.reg e268r10 [0, 1, 2, 7, 9] 0) (.seq (.reg e268r11 [0, 1, 7, 9] 0) (.seq (.reg e268r12 [9] 0) .ret)))) .skip)) (.seq (.reg e268r13 [0, 1, 2, 7, 8] 0) (.seq (.seq (.reg e268r14 [0, 1, 2, 7, 8] 0) (.cond (.s 68) (.seq (.reg e268r15 [0, 1, 2, 7] 0) (.seq (.reg e268r16 [0, 1, 2] 0) (.seq (.reg e268r17 [0] 0) .ret))) .skip)) (.seq (.reg e268r18 [0, 1, 2, 7, 8] 0) (.seq (.reg e268r19 [0, 1, 7] 0) (.seq (.reg e268r20 [0] 0) .ret)))))))))))), [.slot 6], 95, 0⟩
theorem g268 : Good Tryz.prog 268 e268 := ⟨Tryz.f268, Tryz.func268, by kernel_rfl, by kernel_rfl, by kernel_rfl, by kernel_rfl⟩
/-! slices.Insert[[]*concord/core.wish,*concord/core.wish] -/
def e269r0 : EE := .out [(0, .s 0), (1, .s 1), (2, .s 2)]
def e269r1 : EE := .q 2 (.slc 1 true false) [.s 0, .s 1] none <|
 .out [(0, .s 0), (1, .s 1), (2, .s 2)]
def e269r2 : EE := .q 1 .len [.s 2] none <|
 .out [(0, .s 0), (1, .s 1), (2, .s 2), (7, .r 1)]
def e269r3 : EE := .q 1 .eql [.s 7, .c z] none <|
 .out [(0, .s 0), (1, .s 1), (2, .s 2), (7, .s 7), (16, .r 1)]
def e269r4 : EE := .out [(6, .s 0)]
def e269r5 : EE := .q 1 .len [.s 0] none <|
 .out [(0, .s 0), (1, .s 1), (2, .s 2), (7, .s 7), (8, .r 1)]
def e269r6 : EE := .q 2 .eql [.s 1, .s 8] none <|
 .out [(0, .s 0), (1, .s 1), (2, .s 2), (7, .s 7), (8, .s 8), (22, .r 2)]
def e269r7 : EE := .x 2 (.app 325 1 8 [.nptr]) [.s 0, .s 2] none [] <|
 .out [(6, .r 2)]
def e269r8 : EE := .q 2 .add [.s 8, .s 7] none <|
 .q 4 .cap [.s 0] none <|
 .q 5 .gtr [.r 2, .r 4] none <|
 .out [(0, .s 0), (1, .s 1), (2, .s 2), (7, .s 7), (8, .s 8), (31, .r 5)]
def e269r9 : EE := .q 2 (.slc 1 false true) [.s 0, .s 1] none <|
 .q 5 .add [.s 8, .s 7] none <|
 .q 7 .sub [.r 5, .s 1] none <|
 .x 8 (.appn 325 1 8 [.nptr]) [.r 2, .r 7] none [] <|
 .out [(0, .s 0), (1, .s 1), (2, .s 2), (7, .s 7), (9, .r 8)]
def e269r10 : EE := .q 2 (.slc 1 true false) [.s 9, .s 1] none <|
 .x 4 (.cpy 1) [.r 2, .s 2] none [] <|
 .out [(0, .s 0), (1, .s 1), (7, .s 7), (9, .s 9)]
def e269r11 : EE := .q 3 .add [.s 1, .s 7] none <|
 .q 4 (.slc 1 true false) [.s 9, .r 3] none <|
 .q 7 (.slc 1 true false) [.s 0, .s 1] none <|
 .x 8 (.cpy 1) [.r 4, .r 7] none [] <|
 .out [(9, .s 9)]
def e269r12 : EE := .out [(6, .s 9)]
def e269r13 : EE := .q 3 .add [.s 8, .s 7] none <|
 .q 4 (.slc 1 false true) [.s 0, .r 3] none <|
 .out [(0, .r 4), (1, .s 1), (2, .s 2), (7, .s 7), (8, .s 8)]
def e269r14 : EE := .q 4 .add [.s 1, .s 7] none <|
 .q 5 (.slc 1 true false) [.s 0, .r 4] none <|
 .x 6 .bad [] none [] <|
 .q 7 .not [.r 6] none <|
 .out [(0, .s 0), (1, .s 1), (2, .s 2), (7, .s 7), (8, .s 8), (68, .r 7)]
def e269r15 : EE := .q 3 .add [.s 1, .s 7] none <|
 .q 4 (.slc 1 true false) [.s 0, .r 3] none <|
 .q 7 (.slc 1 true false) [.s 0, .s 1] none <|
 .x 8 (.cpy 1) [.r 4, .r 7] none [] <|
 .out [(0, .s 0), (1, .s 1), (2, .s 2)]
def e269r16 : EE := .q 2 (.slc 1 true false) [.s 0, .s 1] none <|
 .x 4 (.cpy 1) [.r 2, .s 2] none [] <|
 .out [(0, .s 0)]
def e269r17 : EE := .out [(6, .s 0)]
def e269r18 : EE := .q 2 (.slc 1 true false) [.s 0, .s 8] none <|
 .x 4 (.cpy 1) [.r 2, .s 2] none [] <|
 .out [(0, .s 0), (1, .s 1), (7, .s 7)]
def e269r19 : EE := .q 2 (.slc 1 true false) [.s 0, .s 1] none <|
 .x 4 (.call 320) [.r 2, .s 7] none [] <|
 .out [(0, .s 0)]
def e269r20 : EE := .out [(6, .s 0)]
def e269 : EFn := ⟨(.seq (.reg e269r0 [0, 1, 2] 0) (.seq (.reg e269r1 [0, 1, 2] 0) (.seq (.reg e269r2 [0, 1, 2] 0) (.seq (.seq (.reg e269r3 [0, 1, 2, 7] 0) (.cond (.s 16) (.seq (.reg e269r4 [0] 0) .ret) .skip)) (.seq (.reg e269r5 [0, 1, 2, 7] 0) (.seq (.seq (.reg e269r6 [0, 1, 2, 7, 8] 0) (.cond (.s 22) (.seq (.reg e269r7 [0, 2] 0) .ret) .skip)) (.seq (.seq (.reg e269r8 [0, 1, 2, 7, 8] 0) (.cond (.s 31) (.seq (.reg e269r9 [0, 1, 2, 7, 8] 0) (.seq (.reg e269r10 [0, 1, 2, 7, 9] 0) (.seq (.reg e269r11 [0, 1, 7, 9] 0) (.seq (.reg e269r12 [9] 0) .ret)))) .skip)) (.seq (.reg e269r13 [0, 1, 2, 7, 8] 0) (.seq (.seq (.reg e269r14 [0, 1, 2, 7, 8] 0) (.cond (.s 68) (.seq (.reg e269r15 [0, 1, 2, 7] 0) (.seq (.reg e269r16 [0, 1, 2] 0) (.seq (.reg e269r17 [0] 0) .ret))) .skip)) (.seq (.reg e269r18 [0, 1, 2, 7, 8] 0) (.seq (.reg e269r19 [0, 1, 7] 0) (.seq (.reg e269r20 [0] 0) .ret)))))))))))), [.slot 6], 95, 0⟩
theorem g269 : Good Tryz.prog 269 e269 := ⟨Tryz.f269, Tryz.func269, by kernel_rfl, by kernel_rfl, by kernel_rfl, by kernel_rfl⟩
/-! (*concord/core.Core).leave$1 -/
def e270r0 : EE := .out [(0, .s 0), (1, .s 1)]
def e270r1 : EE := .q 1 .nl [.s 0] none <|
 .q 2 (.fld 0) [.r 1] none <|
 .q 3 (.lda 2) [.r 2] none <|
 .q 4 (.lda 2) [.s 1] none <|
 .q 5 (.eqc false [(.i .i64), (.i .i64)]) [.r 3, .r 4] none <|
 .out [(3, .r 5)]
def e270 : EFn := ⟨(.seq (.reg e270r0 [0, 1] 0) (.seq (.reg e270r1 [0, 1] 0) .ret)), [.slot 3], 10, 0⟩
theorem g270 : Good Tryz.prog 270 e270 := ⟨Tryz.f270, Tryz.func270, by kernel_rfl, by kernel_rfl, by kernel_rfl, by kernel_rfl⟩
/-! concord/deps.Join -/
def e271r0 : EE := .x 0 (.alc [z, z, z, z, z, z, z, z] 46) [] none [] <|
 .out [(0, .s 0), (2, .r 0)]
def e271r1 : EE := .q 1 .len [.s 0] none <|
 .q 2 .eql [.r 1, .c z] none <|
 .out [(0, .s 0), (2, .s 2), (10, .r 2)]
def e271r2 : EE := .q 0 (.bld [z, z, z, z, z, z, z, z] []) [] none <|
 .x 1 (.st 8) [.s 2, .r 0] none [] <|
 .out [(2, .s 2)]
def e271r3 : EE := .q 1 (.ixs 8) [.s 0, .c z] none <|
 .q 2 (.lda 8) [.r 1] none <|
 .x 3 (.alc [z, z, z, z, z, z, z, z] 46) [] none [] <|
 .x 4 (.st 8) [.r 3, .r 2] none [] <|
 .out [(0, .s 0), (2, .s 2), (3, .r 3)]
def e271r4 : EE := .q 1 (.slc 8 true false) [.s 0, .c (.int .i64 1)] none <|
 .q 2 .len [.r 1] none <|
 .out [(2, .s 2), (3, .s 3), (16, .r 1), (17, .r 2), (18, .c z)]
def e271r5 : EE := .q 0 .lss [.s 18, .s 17] none <|
 .out [(2, .s 2), (3, .s 3), (16, .s 16), (17, .s 17), (18, .s 18), (19, .r 0)]
def e271r6 : EE := .q 0 (.ixs 8) [.s 16, .s 18] none <|
 .q 1 (.lda 8) [.r 0] none <|
 .x 2 (.alc [z, z, z, z, z, z, z, z] 46) [] none [] <|
 .x 3 (.st 8) [.r 2, .r 1] none [] <|
 .out [(2, .s 2), (3, .s 3), (5, .r 2), (16, .s 16), (17, .s 17), (18, .s 18)]
def e271r7 : EE := .q 0 (.fld 0) [.s 3] none <|
 .q 1 .ld [.r 0] none <|
 .q 2 (.fld 0) [.s 5] none <|
 .q 3 .ld [.r 2] none <|
 .q 4 .mx [.r 1, .r 3] none <|
 .q 5 (.fld 0) [.s 3] none <|
 .x 6 (.st 1) [.r 5, .r 4] none [] <|
 .out [(2, .s 2), (3, .s 3), (5, .s 5), (16, .s 16), (17, .s 17), (18, .s 18)]
def e271r8 : EE := .q 0 (.fld 1) [.s 5] none <|
 .q 1 (.lda 7) [.r 0] none <|
 .out [(2, .s 2), (3, .s 3), (16, .s 16), (17, .s 17), (18, .s 18), (29, .r 1), (30, .c z)]
def e271r9 : EE := .q 0 .lss [.s 30, .c (.int .i64 7)] none <|
 .out [(2, .s 2), (3, .s 3), (16, .s 16), (17, .s 17), (18, .s 18), (29, .s 29), (30, .s 30), (31, .r 0)]
def e271r10 : EE := .q 1 (.idx 7 1) [.s 29, .s 30] none <|
 .out [(2, .s 2), (3, .s 3), (6, .s 30), (7, .r 1), (16, .s 16), (17, .s 17), (18, .s 18), (29, .s 29), (30, .s 30)]
def e271r11 : EE := .q 2 (.fld 1) [.s 3] none <|
 .q 3 (.ixa 7 1) [.r 2, .s 6] none <|
 .q 4 .ld [.r 3] none <|
 .q 6 .mx [.r 4, .s 7] none <|
 .q 7 (.fld 1) [.s 3] none <|
 .q 8 (.ixa 7 1) [.r 7, .s 6] none <|
 .x 9 (.st 1) [.r 8, .r 6] none [] <|
 .out [(2, .s 2), (3, .s 3), (16, .s 16), (17, .s 17), (18, .s 18), (29, .s 29), (30, .s 30)]
def e271r12 : EE := .q 0 .add [.s 30, .c (.int .i64 1)] none <|
 .out [(2, .s 2), (3, .s 3), (16, .s 16), (17, .s 17), (18, .s 18), (29, .s 29), (30, .r 0)]
def e271l13 : EC := (.seq (.reg e271r9 [2, 3, 16, 17, 18, 29, 30] 0) (.seq (.cond (.s 31) .skip (.exit 2)) (.seq (.block 3 (.seq (.reg e271r10 [2, 3, 16, 17, 18, 29, 30] 0) (.reg e271r11 [2, 3, 6, 7, 16, 17, 18, 29, 30] 0))) (.reg e271r12 [2, 3, 16, 17, 18, 29, 30] 0))))
def e271r14 : EE := .q 0 .add [.s 18, .c (.int .i64 1)] none <|
 .out [(2, .s 2), (3, .s 3), (16, .s 16), (17, .s 17), (18, .r 0)]
def e271l15 : EC := (.seq (.reg e271r5 [2, 3, 16, 17, 18] 0) (.seq (.cond (.s 19) .skip (.exit 0)) (.seq (.block 1 (.seq (.reg e271r6 [2, 3, 16, 17, 18] 0) (.seq (.reg e271r7 [2, 3, 5, 16, 17, 18] 0) (.seq (.reg e271r8 [2, 3, 5, 16, 17, 18] 0) (.block 2 (.loop [2, 3, 16, 17, 18, 29, 30] e271l13)))))) (.reg e271r14 [2, 3, 16, 17, 18] 0))))
def e271r16 : EE := .q 0 (.lda 8) [.s 3] none <|
 .x 1 (.st 8) [.s 2, .r 0] none [] <|
 .out [(2, .s 2)]
def e271 : EFn := ⟨(.seq (.reg e271r0 [0] 0) (.seq (.seq (.reg e271r1 [0, 2] 0) (.cond (.s 10) (.seq (.reg e271r2 [2] 0) .ret) .skip)) (.seq (.reg e271r3 [0, 2] 0) (.seq (.seq (.reg e271r4 [0, 2, 3] 0) (.block 0 (.loop [2, 3, 16, 17, 18] e271l15))) (.seq (.reg e271r16 [2, 3] 0) .ret))))), [.cells 2 8], 46, 0⟩
theorem g271 : Good Tryz.prog 271 e271 := ⟨Tryz.f271, Tryz.func271, by kernel_rfl, by kernel_rfl, by kernel_rfl, by kernel_rfl⟩
/-! concord/quorum.Pre -/
def e272r0 : EE := .x 0 (.box 46) [.s 2] none [] <|
 .x 2 (.alc [z, z, z, z, z, z, z, z] 46) [] none [] <|
 .out [(0, .s 0), (1, .s 1), (3, .s 3), (4, .s 4), (7, .r 0), (11, .r 2)]
def e272r1 : EE := .out [(0, .s 0), (1, .s 1), (3, .s 3), (4, .s 4), (7, .s 7), (11, .s 11), (12, .c z)]
def e272r2 : EE := .q 1 .len [.s 3] none <|
 .out [(0, .s 0), (1, .s 1), (3, .s 3), (4, .s 4), (7, .s 7), (11, .s 11), (12, .s 12), (15, .s 3), (16, .r 1), (17, .c z)]
def e272r3 : EE := .q 0 .lss [.s 17, .s 16] none <|
 .out [(0, .s 0), (1, .s 1), (3, .s 3), (4, .s 4), (7, .s 7), (11, .s 11), (12, .s 12), (15, .s 15), (16, .s 16), (17, .s 17), (18, .r 0)]
def e272r4 : EE := .q 0 (.ixs 8) [.s 15, .s 17] none <|
 .q 1 (.lda 8) [.r 0] none <|
 .x 2 (.alc [z, z, z, z, z, z, z, z] 46) [] none [] <|
 .x 3 (.st 8) [.r 2, .r 1] none [] <|
 .out [(0, .s 0), (1, .s 1), (3, .s 3), (4, .s 4), (7, .s 7), (11, .s 11), (12, .s 12), (14, .r 2), (15, .s 15), (16, .s 16), (17, .s 17)]
def e272r5 : EE := .q 0 (.lda 8) [.s 14] none <|
 .q 1 (.lda 8) [.s 7] none <|
 .q 2 (.eqc false [(.i .i64), (.i .i64), (.i .i64), (.i .i64), (.i .i64), (.i .i64), (.i .i64), (.i .i64)]) [.r 0, .r 1] none <|
 .out [(0, .s 0), (1, .s 1), (3, .s 3), (4, .s 4), (7, .s 7), (11, .s 11), (12, .s 12), (15, .s 15), (16, .s 16), (17, .s 17), (23, .r 2)]
def e272r6 : EE := .q 1 .add [.s 12, .c (.int .i64 1)] none <|
 .out [(0, .s 0), (1, .s 1), (3, .s 3), (4, .s 4), (7, .s 7), (11, .s 11), (12, .r 1), (15, .s 15), (16, .s 16), (17, .s 17)]
def e272r7 : EE := .q 0 .add [.s 17, .c (.int .i64 1)] none <|
 .out [(0, .s 0), (1, .s 1), (3, .s 3), (4, .s 4), (7, .s 7), (11, .s 11), (12, .s 12), (15, .s 15), (16, .s 16), (17, .r 0)]
def e272l8 : EC := (.seq (.reg e272r3 [0, 1, 3, 4, 7, 11, 12, 15, 16, 17] 0) (.seq (.cond (.s 18) .skip (.exit 0)) (.seq (.block 1 (.seq (.reg e272r4 [0, 1, 3, 4, 7, 11, 12, 15, 16, 17] 0) (.seq (.reg e272r5 [0, 1, 3, 4, 7, 11, 12, 14, 15, 16, 17] 0) (.cond (.s 23) (.reg e272r6 [0, 1, 3, 4, 7, 11, 12, 15, 16, 17] 0) .skip)))) (.reg e272r7 [0, 1, 3, 4, 7, 11, 12, 15, 16, 17] 0))))
def e272r9 : EE := .q 2 .mv [.s 12] (some (.s 1, true)) <|
 .q 3 .mv [.s 0] (some (.s 1, true)) <|
 .x 4 (.call 321) [.r 3] (some (.s 1, true)) [] <|
 .q 5 .sub [.r 4, .c (.int .i64 1)] (some (.s 1, true)) <|
 .q 6 .geq [.r 2, .r 5] (some (.s 1, true)) <|
 .q 7 .pick [.s 1, .r 6, .c (.bool false)] none <|
 .out [(0, .s 0), (1, .s 1), (3, .s 3), (4, .s 4), (7, .s 7), (11, .s 11), (12, .s 12), (34, .r 7)]
def e272r10 : EE := .q 0 (.lda 8) [.s 7] none <|
 .x 2 (.st 8) [.s 11, .r 0] none [] <|
 .out [(10, .c (.int .i64 1)), (11, .s 11)]
def e272r11 : EE := .q 1 .len [.s 3] none <|
 .x 3 (.call 213) [.s 0] none [] <|
 .q 4 .sub [.r 3, .c (.int .i64 1)] none <|
 .q 5 .lss [.r 1, .r 4] none <|
 .q 7 .mv [.s 1] (some (.r 5, false)) <|
 .q 8 .mv [.r 7] (some (.r 5, false)) <|
 .q 9 .mv [.s 4] (some (.r 8, true)) <|
 .q 10 .not [.r 9] (some (.r 8, true)) <|
 .q 11 .pick [.r 8, .r 10, .c (.bool false)] (some (.r 5, false)) <|
 .q 12 .mv [.r 11] (some (.r 5, false)) <|
 .q 13 .mv [.s 3] (some (.r 12, true)) <|
 .q 14 .len [.r 13] (some (.r 12, true)) <|
 .q 15 .mv [.s 12] (some (.r 12, true)) <|
 .q 16 .sub [.r 14, .r 15] (some (.r 12, true)) <|
 .q 17 .lss [.r 16, .c (.int .i64 2)] (some (.r 12, true)) <|
 .q 18 .pick [.r 12, .r 17, .c (.bool false)] (some (.r 5, false)) <|
 .q 19 .pick [.r 5, .c (.bool true), .r 18] none <|
 .out [(3, .s 3), (7, .s 7), (11, .s 11), (55, .r 19)]
def e272r12 : EE := .q 0 (.bld [z, z, z, z, z, z, z, z] []) [] none <|
 .x 2 (.st 8) [.s 11, .r 0] none [] <|
 .out [(10, .c z), (11, .s 11)]
def e272r13 : EE := .q 0 (.lda 8) [.s 7] none <|
 .x 1 (.bsl 46 1 [z, z, z, z, z, z, z, z] [(0, 8)]) [.r 0] none [] <|
 .x 3 (.app 46 8 64 [z, z, z, z, z, z, z, z]) [.r 1, .s 3] none [] <|
 .x 4 (.call 271) [.r 3] none [] <|
 .x 6 (.st 8) [.s 11, .r 4] none [] <|
 .out [(10, .c (.int .i64 2)), (11, .s 11)]
def e272 : EFn := ⟨(.seq (.reg e272r0 [0, 1, 2, 3, 4] 0) (.seq (.reg e272r1 [0, 1, 3, 4, 7, 11] 0) (.seq (.seq (.reg e272r2 [0, 1, 3, 4, 7, 11, 12] 0) (.block 0 (.loop [0, 1, 3, 4, 7, 11, 12, 15, 16, 17] e272l8))) (.seq (.seq (.reg e272r9 [0, 1, 3, 4, 7, 11, 12] 0) (.cond (.s 34) (.seq (.reg e272r10 [7, 11] 0) .ret) .skip)) (.seq (.seq (.reg e272r11 [0, 1, 3, 4, 7, 11, 12] 0) (.cond (.s 55) (.seq (.reg e272r12 [11] 0) .ret) .skip)) (.seq (.reg e272r13 [3, 7, 11] 0) .ret)))))), [.slot 10, .cells 11 8], 62, 0⟩
theorem g272 : Good Tryz.prog 272 e272 := ⟨Tryz.f272, Tryz.func272, by kernel_rfl, by kernel_rfl, by kernel_rfl, by kernel_rfl⟩
/-! (*concord/core.Core).accept -/
def e273r0 : EE := .x 0 (.box 33) [.s 2] none [] <|
 .x 1 (.box 46) [.s 3] none [] <|
 .out [(0, .s 0), (1, .s 1), (6, .r 0), (7, .r 1)]
def e273r1 : EE := .q 0 (.lda 8) [.s 7] none <|
 .x 1 (.call 100) [.r 0] none [] <|
 .q 2 .not [.r 1] none <|
 .q 4 .mv [.s 0] (some (.r 2, false)) <|
 .q 5 .mv [.s 1] (some (.r 2, false)) <|
 .q 6 .nl [.r 5] (some (.r 2, false)) <|
 .q 7 (.fld 0) [.r 6] (some (.r 2, false)) <|
 .q 8 (.lda 2) [.r 7] (some (.r 2, false)) <|
 .q 9 .mv [.s 1] (some (.r 2, false)) <|
 .q 10 .nl [.r 9] (some (.r 2, false)) <|
 .q 11 (.fld 3) [.r 10] (some (.r 2, false)) <|
 .q 12 (.lda 2) [.r 11] (some (.r 2, false)) <|
 .q 13 .mv [.s 1] (some (.r 2, false)) <|
 .q 14 .nl [.r 13] (some (.r 2, false)) <|
 .q 15 (.fld 3) [.r 14] (some (.r 2, false)) <|
 .q 16 (.lda 2) [.r 15] (some (.r 2, false)) <|
 .q 17 (.lda 7) [.s 6] (some (.r 2, false)) <|
 .q 18 (.lda 8) [.s 7] (some (.r 2, false)) <|
 .q 19 (.bld [z, z, z, z, z, z, z, z, zs, zs, zs, zs, z, z, z, z, z, z, z, z, (.bool false)] [(0, 1), (1, 2), (3, 2), (5, 7), (12, 8)]) [.c (.int .i64 2), .r 12, .r 16, .r 17, .r 18] (some (.r 2, false)) <|
 .x 20 (.call 123) [.r 4, .r 8, .r 19] (some (.r 2, false)) [] <|
 .q 21 .not [.r 20] (some (.r 2, false)) <|
 .q 22 .pick [.r 2, .c (.bool true), .r 21] none <|
 .out [(0, .s 0), (1, .s 1), (6, .s 6), (7, .s 7), (30, .r 22)]
def e273r2 : EE := .q 2 .nl [.s 1] none <|
 .q 3 (.fld 0) [.r 2] none <|
 .q 4 (.lda 2) [.r 3] none <|
 .x 5 (.call 209) [.s 0, .r 4] none [] <|
 .out []
def e273r3 : EE := .q 2 .nl [.s 1] none <|
 .q 3 (.fld 0) [.r 2] none <|
 .q 4 (.lda 2) [.r 3] none <|
 .q 6 .nl [.s 1] none <|
 .q 7 (.fld 3) [.r 6] none <|
 .q 8 (.lda 2) [.r 7] none <|
 .q 9 (.lda 7) [.s 6] none <|
 .q 10 (.lda 8) [.s 7] none <|
 .q 11 (.bld [z, z, z, z, z, (.bool false), z, z, z, zs, zs, zs, zs, z, z, z, z, z, z, z, z, z, z, z, z, z, z, z, .nsl, .nsl, z, z] [(0, 2), (2, 1), (3, 2), (6, 7), (13, 8)]) [.r 4, .c (.int .i64 1), .r 8, .r 9, .r 10] none <|
 .x 12 (.box 229) [.r 11] none [] <|
 .x 13 (.call 124) [.s 0, .r 12] none [] <|
 .out []
def e273 : EFn := ⟨(.seq (.reg e273r0 [0, 1, 2, 3] 0) (.seq (.seq (.reg e273r1 [0, 1, 6, 7] 0) (.cond (.s 30) (.seq (.reg e273r2 [0, 1] 0) .ret) .skip)) (.reg e273r3 [0, 1, 6, 7] 0))), [], 51, 0⟩
theorem g273 : Good Tryz.prog 273 e273 := ⟨Tryz.f273, Tryz.func273, by kernel_rfl, by kernel_rfl, by kernel_rfl, by kernel_rfl⟩
/-! concord/quorum.Prepared -/
def e274r0 : EE := .x 1 (.alc [z, z, z, zs, zs, zs, zs] 33) [] none [] <|
 .x 2 (.alc [z, z, z, z, z, z, z, z] 46) [] none [] <|
 .out [(0, .s 0), (1, .s 1), (2, .s 2), (7, .r 1), (8, .r 2)]
def e274r1 : EE := .q 1 .len [.s 2] none <|
 .x 3 (.call 213) [.s 0] none [] <|
 .q 4 .lss [.r 1, .r 3] none <|
 .out [(0, .s 0), (1, .s 1), (2, .s 2), (7, .s 7), (8, .s 8), (20, .r 4)]
def e274r2 : EE := .q 0 (.bld [z, z, z, zs, zs, zs, zs] []) [] none <|
 .q 1 (.bld [z, z, z, z, z, z, z, z] []) [] none <|
 .x 3 (.st 7) [.s 7, .r 0] none [] <|
 .x 4 (.st 8) [.s 8, .r 1] none [] <|
 .out [(6, .c z), (7, .s 7), (8, .s 8)]
def e274r3 : EE := .out [(0, .s 0), (1, .s 1), (2, .s 2), (7, .s 7), (8, .s 8), (9, .c z), (10, .c (.int .i64 (-1)))]
def e274r4 : EE := .out [(0, .s 0), (1, .s 1), (2, .s 2), (7, .s 7), (8, .s 8), (9, .s 9), (10, .s 10), (11, .c (.bool false))]
def e274r5 : EE := .q 1 .len [.s 2] none <|
 .out [(0, .s 0), (1, .s 1), (2, .s 2), (7, .s 7), (8, .s 8), (9, .s 9), (10, .s 10), (11, .s 11), (23, .s 2), (24, .r 1), (25, .c z)]
def e274r6 : EE := .q 0 .lss [.s 25, .s 24] none <|
 .out [(0, .s 0), (1, .s 1), (2, .s 2), (7, .s 7), (8, .s 8), (9, .s 9), (10, .s 10), (11, .s 11), (23, .s 23), (24, .s 24), (25, .s 25), (26, .r 0)]
def e274r7 : EE := .q 1 (.ixs 22) [.s 23, .s 25] none <|
 .q 2 (.lda 22) [.r 1] none <|
 .x 3 (.alc [z, z, z, z, z, z, z, z, z, zs, zs, zs, zs, z, z, z, z, z, z, z, z, (.bool false)] 334) [] none [] <|
 .x 5 (.st 22) [.r 3, .r 2] none [] <|
 .out [(0, .s 0), (1, .s 1), (2, .s 2), (7, .s 7), (8, .s 8), (9, .s 9), (10, .s 10), (11, .s 11), (12, .s 25), (13, .r 3), (23, .s 23), (24, .s 24), (25, .s 25)]
def e274r8 : EE := .q 0 (.fld 1) [.s 13] none <|
 .q 1 (.fld 0) [.r 0] none <|
 .q 2 .ld [.r 1] none <|
 .q 3 .eql [.r 2, .c (.int .i64 3)] none <|
 .out [(0, .s 0), (1, .s 1), (2, .s 2), (7, .s 7), (8, .s 8), (9, .s 9), (10, .s 10), (11, .s 11), (12, .s 12), (13, .s 13), (23, .s 23), (24, .s 24), (25, .s 25), (33, .r 3)]
def e274r9 : EE := .q 0 (.fld 1) [.s 13] none <|
 .q 1 (.fld 5) [.r 0] none <|
 .q 2 (.lda 7) [.r 1] none <|
 .q 3 (.fld 1) [.s 13] none <|
 .q 4 (.fld 12) [.r 3] none <|
 .q 5 (.lda 8) [.r 4] none <|
 .x 7 (.st 7) [.s 7, .r 2] none [⟨5, (.lda 8), [.r 4], none⟩] <|
 .x 8 (.st 8) [.s 8, .r 5] none [] <|
 .out [(6, .c (.int .i64 1)), (7, .s 7), (8, .s 8)]
def e274r10 : EE := .q 0 (.fld 0) [.s 13] none <|
 .q 1 .ld [.r 0] none <|
 .q 3 .eql [.r 1, .s 1] none <|
 .out [(0, .s 0), (1, .s 1), (2, .s 2), (7, .s 7), (8, .s 8), (9, .s 9), (10, .s 10), (11, .s 11), (12, .s 12), (13, .s 13), (23, .s 23), (24, .s 24), (25, .s 25), (43, .r 3)]
def e274r11 : EE := .out [(0, .s 0), (1, .s 1), (2, .s 2), (7, .s 7), (8, .s 8), (9, .s 9), (10, .s 10), (11, .c (.bool true)), (23, .s 23), (24, .s 24), (25, .s 25)]
def e274r12 : EE := .q 0 (.fld 1) [.s 13] none <|
 .q 1 (.fld 0) [.r 0] none <|
 .q 2 .ld [.r 1] none <|
 .q 3 .eql [.r 2, .c (.int .i64 1)] none <|
 .q 5 (.fld 1) [.s 13] (some (.r 3, true)) <|
 .q 6 (.fld 20) [.r 5] (some (.r 3, true)) <|
 .q 7 .ld [.r 6] (some (.r 3, true)) <|
 .q 8 .pick [.r 3, .r 7, .c (.bool false)] none <|
 .out [(0, .s 0), (1, .s 1), (2, .s 2), (7, .s 7), (8, .s 8), (9, .s 9), (10, .s 10), (11, .s 11), (12, .s 12), (23, .s 23), (24, .s 24), (25, .s 25), (52, .r 8)]
def e274r13 : EE := .q 1 .add [.s 9, .c (.int .i64 1)] none <|
 .out [(0, .s 0), (1, .s 1), (2, .s 2), (7, .s 7), (8, .s 8), (9, .r 1), (10, .s 10), (11, .s 11), (12, .s 12), (23, .s 23), (24, .s 24), (25, .s 25)]
def e274r14 : EE := .q 1 .lss [.s 10, .c z] none <|
 .out [(0, .s 0), (1, .s 1), (2, .s 2), (7, .s 7), (8, .s 8), (9, .s 9), (10, .s 10), (11, .s 11), (12, .s 12), (23, .s 23), (24, .s 24), (25, .s 25), (56, .r 1)]
def e274r15 : EE := .out [(0, .s 0), (1, .s 1), (2, .s 2), (7, .s 7), (8, .s 8), (9, .s 9), (10, .s 12), (11, .s 11), (23, .s 23), (24, .s 24), (25, .s 25)]
def e274r16 : EE := .q 0 .add [.s 25, .c (.int .i64 1)] none <|
 .out [(0, .s 0), (1, .s 1), (2, .s 2), (7, .s 7), (8, .s 8), (9, .s 9), (10, .s 10), (11, .s 11), (23, .s 23), (24, .s 24), (25, .r 0)]
def e274l17 : EC := (.seq (.reg e274r6 [0, 1, 2, 7, 8, 9, 10, 11, 23, 24, 25] 0) (.seq (.cond (.s 26) .skip (.exit 0)) (.seq (.block 1 (.seq (.reg e274r7 [0, 1, 2, 7, 8, 9, 10, 11, 23, 24, 25] 0) (.seq (.seq (.reg e274r8 [0, 1, 2, 7, 8, 9, 10, 11, 12, 13, 23, 24, 25] 0) (.cond (.s 33) (.seq (.reg e274r9 [7, 8, 13] 0) .ret) .skip)) (.seq (.reg e274r10 [0, 1, 2, 7, 8, 9, 10, 11, 12, 13, 23, 24, 25] 0) (.cond (.s 43) (.reg e274r11 [0, 1, 2, 7, 8, 9, 10, 23, 24, 25] 0) (.seq (.reg e274r12 [0, 1, 2, 7, 8, 9, 10, 11, 12, 13, 23, 24, 25] 0) (.cond (.s 52) (.seq (.reg e274r13 [0, 1, 2, 7, 8, 9, 10, 11, 12, 23, 24, 25] 0) (.seq (.reg e274r14 [0, 1, 2, 7, 8, 9, 10, 11, 12, 23, 24, 25] 0) (.cond (.s 56) (.reg e274r15 [0, 1, 2, 7, 8, 9, 11, 12, 23, 24, 25] 0) .skip))) .skip))))))) (.reg e274r16 [0, 1, 2, 7, 8, 9, 10, 11, 23, 24, 25] 0))))
def e274r18 : EE := .x 1 (.call 322) [.s 2, .c (.int .i64 2)] none [] <|
 .out [(0, .s 0), (2, .s 2), (7, .s 7), (8, .s 8), (9, .s 9), (10, .s 10), (11, .s 11), (14, .r 1)]
def e274r19 : EE := .q 1 .geq [.s 14, .c z] none <|
 .out [(0, .s 0), (2, .s 2), (7, .s 7), (8, .s 8), (9, .s 9), (10, .s 10), (11, .s 11), (14, .s 14), (62, .r 1)]
def e274r20 : EE := .q 2 (.ixs 22) [.s 2, .s 14] none <|
 .q 3 (.fld 1) [.r 2] none <|
 .q 4 (.fld 5) [.r 3] none <|
 .q 5 (.lda 7) [.r 4] none <|
 .q 8 (.ixs 22) [.s 2, .s 14] none <|
 .q 9 (.fld 1) [.r 8] none <|
 .q 10 (.fld 12) [.r 9] none <|
 .q 11 (.lda 8) [.r 10] none <|
 .x 13 (.st 7) [.s 7, .r 5] none [⟨11, (.lda 8), [.r 10], none⟩] <|
 .x 14 (.st 8) [.s 8, .r 11] none [] <|
 .out [(6, .c (.int .i64 2)), (7, .s 7), (8, .s 8)]
def e274r21 : EE := .x 1 (.call 322) [.s 2, .c (.int .i64 1)] none [] <|
 .out [(0, .s 0), (2, .s 2), (7, .s 7), (8, .s 8), (9, .s 9), (10, .s 10), (11, .s 11), (15, .r 1)]
def e274r22 : EE := .q 1 .lss [.s 15, .c z] none <|
 .out [(0, .s 0), (2, .s 2), (7, .s 7), (8, .s 8), (9, .s 9), (10, .s 10), (11, .s 11), (15, .s 15), (78, .r 1)]
def e274r23 : EE := .q 0 (.bld [z, z, z, zs, zs, zs, zs] []) [] none <|
 .q 1 (.bld [z, z, z, z, z, z, z, z] []) [] none <|
 .x 3 (.st 7) [.s 7, .r 0] none [] <|
 .x 4 (.st 8) [.s 8, .r 1] none [] <|
 .out [(6, .c (.int .i64 4)), (7, .s 7), (8, .s 8)]
def e274r24 : EE := .q 1 .not [.s 11] none <|
 .q 3 .mv [.s 9] (some (.r 1, true)) <|
 .q 4 .mv [.s 0] (some (.r 1, true)) <|
 .q 5 .quo [.r 4, .c (.int .i64 2)] (some (.r 1, true)) <|
 .q 6 .geq [.r 3, .r 5] (some (.r 1, true)) <|
 .q 7 .pick [.r 1, .r 6, .c (.bool false)] none <|
 .out [(2, .s 2), (7, .s 7), (8, .s 8), (10, .s 10), (15, .s 15), (88, .r 7)]
def e274r25 : EE := .q 2 (.ixs 22) [.s 2, .s 10] none <|
 .q 3 (.fld 1) [.r 2] none <|
 .q 4 (.fld 5) [.r 3] none <|
 .q 5 (.lda 7) [.r 4] none <|
 .q 8 (.ixs 22) [.s 2, .s 10] none <|
 .q 9 (.fld 1) [.r 8] none <|
 .q 10 (.fld 12) [.r 9] none <|
 .q 11 (.lda 8) [.r 10] none <|
 .x 13 (.st 7) [.s 7, .r 5] none [⟨11, (.lda 8), [.r 10], none⟩] <|
 .x 14 (.st 8) [.s 8, .r 11] none [] <|
 .out [(6, .c (.int .i64 2)), (7, .s 7), (8, .s 8)]
def e274r26 : EE := .q 2 (.ixs 22) [.s 2, .s 15] none <|
 .q 3 (.fld 1) [.r 2] none <|
 .q 4 (.fld 5) [.r 3] none <|
 .q 5 (.lda 7) [.r 4] none <|
 .q 8 (.ixs 22) [.s 2, .s 15] none <|
 .q 9 (.fld 1) [.r 8] none <|
 .q 10 (.fld 12) [.r 9] none <|
 .q 11 (.lda 8) [.r 10] none <|
 .x 13 (.st 7) [.s 7, .r 5] none [⟨11, (.lda 8), [.r 10], none⟩] <|
 .x 14 (.st 8) [.s 8, .r 11] none [] <|
 .out [(6, .c (.int .i64 3)), (7, .s 7), (8, .s 8)]
def e274 : EFn := ⟨(.seq (.reg e274r0 [0, 1, 2] 0) (.seq (.seq (.reg e274r1 [0, 1, 2, 7, 8] 0) (.cond (.s 20) (.seq (.reg e274r2 [7, 8] 0) .ret) .skip)) (.seq (.reg e274r3 [0, 1, 2, 7, 8] 0) (.seq (.reg e274r4 [0, 1, 2, 7, 8, 9, 10] 0) (.seq (.seq (.reg e274r5 [0, 1, 2, 7, 8, 9, 10, 11] 0) (.block 0 (.loop [0, 1, 2, 7, 8, 9, 10, 11, 23, 24, 25] e274l17))) (.seq (.seq (.reg e274r18 [0, 2, 7, 8, 9, 10, 11] 0) (.seq (.reg e274r19 [0, 2, 7, 8, 9, 10, 11, 14] 0) (.cond (.s 62) (.seq (.reg e274r20 [2, 7, 8, 14] 0) .ret) .skip))) (.seq (.reg e274r21 [0, 2, 7, 8, 9, 10, 11] 0) (.seq (.seq (.reg e274r22 [0, 2, 7, 8, 9, 10, 11, 15] 0) (.cond (.s 78) (.seq (.reg e274r23 [7, 8] 0) .ret) .skip)) (.seq (.seq (.reg e274r24 [0, 2, 7, 8, 9, 10, 11, 15] 0) (.cond (.s 88) (.seq (.reg e274r25 [2, 7, 8, 10] 0) .ret) .skip)) (.seq (.reg e274r26 [2, 7, 8, 15] 0) .ret)))))))))), [.slot 6, .cells 7 7, .cells 8 8], 113, 0⟩
theorem g274 : Good Tryz.prog 274 e274 := ⟨Tryz.f274, Tryz.func274, by kernel_rfl, by kernel_rfl, by kernel_rfl, by kernel_rfl⟩
end Go.Ev
