import Derived.Test.YtfihhmbjpmnopaaGreatDoorEvB
import Derived.Test.YtfihhmbjpmnopaaGreatDoorProg
set_option linter.unusedVariables false
set_option linter.unusedSimpArgs false
namespace Go.Ev
open Go.Fw Go.Proofs
/-! concord/cmd.Put -/
def e249r0 : EE := .x 0 (.box 30) [.s 1] none [] <|
 .out [(0, .s 0), (3, .r 0)]
def e249r1 : EE := .q 0 (.lda 7) [.s 3] none <|
 .x 1 (.call 83) [.r 0] none [] <|
 .q 2 .not [.r 1] none <|
 .out [(0, .s 0), (3, .s 3), (7, .r 2)]
def e249r2 : EE := .x 1 (.app 5 1 1 [(.int .u8 0)]) [.c .nsl, .s 0] none [] <|
 .out [(4, .r 1)]
def e249r3 : EE := .q 1 (.fld 0) [.s 3] none <|
 .q 2 .ld [.r 1] none <|
 .x 3 (.call 75) [.s 0, .r 2] none [] <|
 .out [(0, .r 3), (3, .s 3)]
def e249r4 : EE := .q 0 (.fld 0) [.s 3] none <|
 .q 1 .ld [.r 0] none <|
 .q 2 .eql [.r 1, .c z] none <|
 .out [(0, .s 0), (3, .s 3), (16, .r 2)]
def e249r5 : EE := .out [(4, .s 0)]
def e249r6 : EE := .q 1 (.fld 1) [.s 3] none <|
 .q 2 .ld [.r 1] none <|
 .q 4 (.fld 2) [.s 3] none <|
 .q 5 .ld [.r 4] none <|
 .q 7 (.fld 3) [.s 3] none <|
 .q 8 .ld [.r 7] none <|
 .x 3 (.call 75) [.s 0, .r 2] none [⟨5, .ld, [.r 4], none⟩, ⟨8, .ld, [.r 7], none⟩] <|
 .x 6 (.call 75) [.r 3, .r 5] none [⟨8, .ld, [.r 7], none⟩] <|
 .x 9 (.call 204) [.r 6, .r 8] none [] <|
 .out [(0, .r 9), (3, .s 3)]
def e249r7 : EE := .q 0 (.fld 0) [.s 3] none <|
 .q 1 .ld [.r 0] none <|
 .out [(0, .s 0), (3, .s 3), (29, .r 1)]
def e249r8 : EE := .q 0 .eql [.s 29, .c (.int .i64 2)] none <|
 .out [(0, .s 0), (3, .s 3), (29, .s 29), (30, .r 0)]
def e249r9 : EE := .q 1 (.fld 6) [.s 3] none <|
 .q 2 .ld [.r 1] none <|
 .x 3 (.call 204) [.s 0, .r 2] none [] <|
 .out [(0, .r 3)]
def e249r10 : EE := .q 0 .eql [.s 29, .c (.int .i64 4)] none <|
 .out [(0, .s 0), (3, .s 3), (29, .s 29), (36, .r 0)]
def e249r11 : EE := .q 1 (.fld 5) [.s 3] none <|
 .q 2 .ld [.r 1] none <|
 .q 4 (.fld 6) [.s 3] none <|
 .q 5 .ld [.r 4] none <|
 .x 3 (.call 204) [.s 0, .r 2] none [⟨5, .ld, [.r 4], none⟩] <|
 .x 6 (.call 204) [.r 3, .r 5] none [] <|
 .out [(0, .r 6)]
def e249r12 : EE := .q 0 .eql [.s 29, .c (.int .i64 5)] none <|
 .out [(0, .s 0), (3, .s 3), (45, .r 0)]
def e249r13 : EE := .q 1 (.fld 4) [.s 3] none <|
 .q 2 .ld [.r 1] none <|
 .x 3 (.call 204) [.s 0, .r 2] none [] <|
 .out [(0, .r 3)]
def e249r14 : EE := .out [(4, .s 0)]
def e249 : EFn := ⟨(.seq (.reg e249r0 [0, 1] 0) (.seq (.seq (.reg e249r1 [0, 3] 0) (.cond (.s 7) (.seq (.reg e249r2 [0] 0) .ret) .skip)) (.seq (.reg e249r3 [0, 3] 0) (.seq (.seq (.reg e249r4 [0, 3] 0) (.cond (.s 16) (.seq (.reg e249r5 [0] 0) .ret) .skip)) (.seq (.reg e249r6 [0, 3] 0) (.seq (.seq (.reg e249r7 [0, 3] 0) (.block 0 (.seq (.reg e249r8 [0, 3, 29] 0) (.cond (.s 30) (.reg e249r9 [0, 3] 0) (.seq (.reg e249r10 [0, 3, 29] 0) (.cond (.s 36) (.reg e249r11 [0, 3] 0) (.seq (.reg e249r12 [0, 3, 29] 0) (.cond (.s 45) (.reg e249r13 [0, 3] 0) .skip)))))))) (.seq (.reg e249r14 [0] 0) .ret))))))), [.slot 4], 52, 0⟩
theorem g249 : Good Tryz.prog 249 e249 := ⟨Tryz.f249, Tryz.func249, by kernel_rfl, by kernel_rfl, by kernel_rfl, by kernel_rfl⟩
/-! concord/deps.Put -/
def e250r0 : EE := .x 0 (.box 84) [.s 1] none [] <|
 .out [(0, .s 0), (3, .r 0)]
def e250r1 : EE := .q 1 (.fld 0) [.s 3] none <|
 .q 2 .ld [.r 1] none <|
 .x 3 (.call 75) [.s 0, .r 2] none [] <|
 .out [(0, .r 3), (3, .s 3)]
def e250r2 : EE := .q 0 (.fld 1) [.s 3] none <|
 .q 1 (.lda 7) [.r 0] none <|
 .out [(0, .s 0), (12, .r 1), (13, .c z)]
def e250r3 : EE := .q 0 .lss [.s 13, .c (.int .i64 7)] none <|
 .out [(0, .s 0), (12, .s 12), (13, .s 13), (14, .r 0)]
def e250r4 : EE := .q 0 (.idx 7 1) [.s 12, .s 13] none <|
 .out [(0, .s 0), (6, .r 0), (12, .s 12), (13, .s 13)]
def e250r5 : EE := .x 2 (.call 75) [.s 0, .s 6] none [] <|
 .out [(0, .r 2), (12, .s 12), (13, .s 13)]
def e250r6 : EE := .q 0 .add [.s 13, .c (.int .i64 1)] none <|
 .out [(0, .s 0), (12, .s 12), (13, .r 0)]
def e250l7 : EC := (.seq (.reg e250r3 [0, 12, 13] 0) (.seq (.cond (.s 14) .skip (.exit 0)) (.seq (.block 1 (.seq (.reg e250r4 [0, 12, 13] 0) (.reg e250r5 [0, 6, 12, 13] 0))) (.reg e250r6 [0, 12, 13] 0))))
def e250r8 : EE := .out [(4, .s 0)]
def e250 : EFn := ⟨(.seq (.reg e250r0 [0, 1] 0) (.seq (.reg e250r1 [0, 3] 0) (.seq (.seq (.reg e250r2 [0, 3] 0) (.block 0 (.loop [0, 12, 13] e250l7))) (.seq (.reg e250r8 [0] 0) .ret)))), [.slot 4], 21, 0⟩
theorem g250 : Good Tryz.prog 250 e250 := ⟨Tryz.f250, Tryz.func250, by kernel_rfl, by kernel_rfl, by kernel_rfl, by kernel_rfl⟩
/-! (*concord/core.Core).leave$1 -/
def e252r0 : EE := .out [(0, .s 0), (1, .s 1)]
def e252r1 : EE := .q 1 .nl [.s 0] none <|
 .q 2 (.fld 0) [.r 1] none <|
 .q 3 (.lda 2) [.r 2] none <|
 .q 4 (.lda 2) [.s 1] none <|
 .q 5 (.eqc false [(.i .i64), (.i .i64)]) [.r 3, .r 4] none <|
 .out [(3, .r 5)]
def e252 : EFn := ⟨(.seq (.reg e252r0 [0, 1] 0) (.seq (.reg e252r1 [0, 1] 0) .ret)), [.slot 3], 10, 0⟩
theorem g252 : Good Tryz.prog 252 e252 := ⟨Tryz.f252, Tryz.func252, by kernel_rfl, by kernel_rfl, by kernel_rfl, by kernel_rfl⟩
/-! slices.insertionSortCmpFunc[concord/api.Inst] -/
def e256r0 : EE := .q 1 .add [.s 1, .c (.int .i64 1)] none <|
 .out [(0, .s 0), (1, .s 1), (2, .s 2), (3, .s 3), (8, .r 1)]
def e256r1 : EE := .q 2 .lss [.s 8, .s 2] none <|
 .out [(0, .s 0), (1, .s 1), (2, .s 2), (3, .s 3), (8, .s 8), (14, .r 2)]
def e256r2 : EE := .out [(0, .s 0), (1, .s 1), (2, .s 2), (3, .s 3), (8, .s 8), (9, .s 8)]
def e256r3 : EE := .q 2 .gtr [.s 9, .s 1] none <|
 .q 4 .mv [.s 3] (some (.r 2, true)) <|
 .q 5 .mv [.s 0] (some (.r 2, true)) <|
 .q 6 .mv [.s 9] (some (.r 2, true)) <|
 .q 7 (.ixs 2) [.r 5, .r 6] (some (.r 2, true)) <|
 .q 8 (.lda 2) [.r 7] (some (.r 2, true)) <|
 .q 9 .mv [.s 0] (some (.r 2, true)) <|
 .q 10 .mv [.s 9] (some (.r 2, true)) <|
 .q 11 .sub [.r 10, .c (.int .i64 1)] (some (.r 2, true)) <|
 .q 12 (.ixs 2) [.r 9, .r 11] (some (.r 2, true)) <|
 .q 13 (.lda 2) [.r 12] (some (.r 2, true)) <|
 .x 14 .callv [.r 4, .r 8, .r 13] (some (.r 2, true)) [] <|
 .q 15 .lss [.r 14, .c z] (some (.r 2, true)) <|
 .q 16 .pick [.r 2, .r 15, .c (.bool false)] none <|
 .out [(0, .s 0), (1, .s 1), (2, .s 2), (3, .s 3), (8, .s 8), (9, .s 9), (34, .r 16)]
def e256r4 : EE := .q 4 .sub [.s 9, .c (.int .i64 1)] none <|
 .q 7 .sub [.s 9, .c (.int .i64 1)] none <|
 .q 8 (.ixs 2) [.s 0, .r 7] none <|
 .q 9 (.lda 2) [.r 8] none <|
 .q 12 (.ixs 2) [.s 0, .s 9] none <|
 .q 13 (.lda 2) [.r 12] none <|
 .q 14 (.ixs 2) [.s 0, .s 9] none <|
 .x 15 (.st 2) [.r 14, .r 9] none [] <|
 .q 16 (.ixs 2) [.s 0, .r 4] none <|
 .x 17 (.st 2) [.r 16, .r 13] none [] <|
 .out [(0, .s 0), (1, .s 1), (2, .s 2), (3, .s 3), (8, .s 8), (9, .s 9)]
def e256r5 : EE := .q 1 .sub [.s 9, .c (.int .i64 1)] none <|
 .out [(0, .s 0), (1, .s 1), (2, .s 2), (3, .s 3), (8, .s 8), (9, .r 1)]
def e256l6 : EC := (.seq (.seq (.reg e256r3 [0, 1, 2, 3, 8, 9] 0) (.cond (.s 34) .skip (.exit 2))) (.seq (.block 3 (.reg e256r4 [0, 1, 2, 3, 8, 9] 0)) (.reg e256r5 [0, 1, 2, 3, 8, 9] 0)))
def e256r7 : EE := .q 1 .add [.s 8, .c (.int .i64 1)] none <|
 .out [(0, .s 0), (1, .s 1), (2, .s 2), (3, .s 3), (8, .r 1)]
def e256l8 : EC := (.seq (.seq (.reg e256r1 [0, 1, 2, 3, 8] 0) (.cond (.s 14) .skip (.exit 0))) (.seq (.block 1 (.seq (.reg e256r2 [0, 1, 2, 3, 8] 0) (.block 2 (.loop [0, 1, 2, 3, 8, 9] e256l6)))) (.reg e256r7 [0, 1, 2, 3, 8] 0)))
def e256 : EFn := ⟨(.seq (.reg e256r0 [0, 1, 2, 3] 0) (.block 0 (.loop [0, 1, 2, 3, 8] e256l8))), [], 53, 0⟩
theorem g256 : Good Tryz.prog 256 e256 := ⟨Tryz.f256, Tryz.func256, by kernel_rfl, by kernel_rfl, by kernel_rfl, by kernel_rfl⟩
/-! math/bits.Len64 -/
def e265r0 : EE := .out [(0, .s 0), (2, .c z)]
def e265r1 : EE := .q 1 .geq [.s 0, .c (.int .u64 4294967296)] none <|
 .out [(0, .s 0), (2, .s 2), (4, .r 1)]
def e265r2 : EE := .q 1 .shr [.s 0, .c (.int .u64 32)] none <|
 .out [(0, .r 1)]
def e265r3 : EE := .out [(0, .s 0), (2, .c (.int .i64 32))]
def e265r4 : EE := .q 1 .geq [.s 0, .c (.int .u64 65536)] none <|
 .out [(0, .s 0), (2, .s 2), (8, .r 1)]
def e265r5 : EE := .q 1 .shr [.s 0, .c (.int .u64 16)] none <|
 .out [(0, .r 1), (2, .s 2)]
def e265r6 : EE := .q 1 .add [.s 2, .c (.int .i64 16)] none <|
 .out [(0, .s 0), (2, .r 1)]
def e265r7 : EE := .q 1 .geq [.s 0, .c (.int .u64 256)] none <|
 .out [(0, .s 0), (2, .s 2), (14, .r 1)]
def e265r8 : EE := .q 1 .shr [.s 0, .c (.int .u64 8)] none <|
 .out [(0, .r 1), (2, .s 2)]
def e265r9 : EE := .q 1 .add [.s 2, .c (.int .i64 8)] none <|
 .out [(0, .s 0), (2, .r 1)]
def e265r10 : EE := .q 2 (.conv .u8) [.s 0] none <|
 .q 3 .idxs [.c (.str [0, 1, 2, 2, 3, 3, 3, 3, 4, 4, 4, 4, 4, 4, 4, 4, 5, 5, 5, 5, 5, 5, 5, 5, 5, 5, 5, 5, 5, 5, 5, 5, 6, 6, 6, 6, 6, 6, 6, 6, 6, 6, 6, 6, 6, 6, 6, 6, 6, 6, 6, 6, 6, 6, 6, 6, 6, 6, 6, 6, 6, 6, 6, 6, 7, 7, 7, 7, 7, 7, 7, 7, 7, 7, 7, 7, 7, 7, 7, 7, 7, 7, 7, 7, 7, 7, 7, 7, 7, 7, 7, 7, 7, 7, 7, 7, 7, 7, 7, 7, 7, 7, 7, 7, 7, 7, 7, 7, 7, 7, 7, 7, 7, 7, 7, 7, 7, 7, 7, 7, 7, 7, 7, 7, 7, 7, 7, 7, 8, 8, 8, 8, 8, 8, 8, 8, 8, 8, 8, 8, 8, 8, 8, 8, 8, 8, 8, 8, 8, 8, 8, 8, 8, 8, 8, 8, 8, 8, 8, 8, 8, 8, 8, 8, 8, 8, 8, 8, 8, 8, 8, 8, 8, 8, 8, 8, 8, 8, 8, 8, 8, 8, 8, 8, 8, 8, 8, 8, 8, 8, 8, 8, 8, 8, 8, 8, 8, 8, 8, 8, 8, 8, 8, 8, 8, 8, 8, 8, 8, 8, 8, 8, 8, 8, 8, 8, 8, 8, 8, 8, 8, 8, 8, 8, 8, 8, 8, 8, 8, 8, 8, 8, 8, 8, 8, 8, 8, 8, 8, 8, 8, 8, 8, 8, 8, 8, 8, 8, 8, 8, 8, 8, 8, 8, 8, 8]), .r 2] none <|
 .q 4 (.conv .i64) [.r 3] none <|
 .q 5 .add [.s 2, .r 4] none <|
 .out [(2, .r 5)]
def e265 : EFn := ⟨(.seq (.reg e265r0 [0] 0) (.seq (.seq (.reg e265r1 [0, 2] 0) (.cond (.s 4) (.seq (.reg e265r2 [0] 0) (.reg e265r3 [0] 0)) .skip)) (.seq (.seq (.reg e265r4 [0, 2] 0) (.cond (.s 8) (.seq (.reg e265r5 [0, 2] 0) (.reg e265r6 [0, 2] 0)) .skip)) (.seq (.seq (.reg e265r7 [0, 2] 0) (.cond (.s 14) (.seq (.reg e265r8 [0, 2] 0) (.reg e265r9 [0, 2] 0)) .skip)) (.seq (.reg e265r10 [0, 2] 0) .ret))))), [.slot 2], 25, 0⟩
theorem g265 : Good Tryz.prog 265 e265 := ⟨Tryz.f265, Tryz.func265, by kernel_rfl, by kernel_rfl, by kernel_rfl, by kernel_rfl⟩
/-! slices.Insert[[]*concord/core.lead,*concord/core.lead] -/
def e267r0 : EE := .out [(0, .s 0), (1, .s 1), (2, .s 2)]
def e267r1 : EE := .q 2 (.slc 1 true false) [.s 0, .s 1] none <|
 .out [(0, .s 0), (1, .s 1), (2, .s 2)]
def e267r2 : EE := .q 1 .len [.s 2] none <|
 .out [(0, .s 0), (1, .s 1), (2, .s 2), (7, .r 1)]
def e267r3 : EE := .q 1 .eql [.s 7, .c z] none <|
 .out [(0, .s 0), (1, .s 1), (2, .s 2), (7, .s 7), (16, .r 1)]
def e267r4 : EE := .out [(6, .s 0)]
def e267r5 : EE := .q 1 .len [.s 0] none <|
 .out [(0, .s 0), (1, .s 1), (2, .s 2), (7, .s 7), (8, .r 1)]
def e267r6 : EE := .q 2 .eql [.s 1, .s 8] none <|
 .out [(0, .s 0), (1, .s 1), (2, .s 2), (7, .s 7), (8, .s 8), (22, .r 2)]
def e267r7 : EE := .x 2 (.app 177 1 8 [.nptr]) [.s 0, .s 2] none [] <|
 .out [(6, .r 2)]
def e267r8 : EE := .q 2 .add [.s 8, .s 7] none <|
 .q 4 .cap [.s 0] none <|
 .q 5 .gtr [.r 2, .r 4] none <|
 .out [(0, .s 0), (1, .s 1), (2, .s 2), (7, .s 7), (8, .s 8), (31, .r 5)]
def e267r9 : EE := .q 2 (.slc 1 false true) [.s 0, .s 1] none <|
 .q 5 .add [.s 8, .s 7] none <|
 .q 7 .sub [.r 5, .s 1] none <|
 .x 8 (.appn 177 1 8 [.nptr]) [.r 2, .r 7] none [] <|
 .out [(0, .s 0), (1, .s 1), (2, .s 2), (7, .s 7), (9, .r 8)]
def e267r10 : EE := .q 2 (.slc 1 true false) [.s 9, .s 1] none <|
 .x 4 (.cpy 1) [.r 2, .s 2] none [] <|
 .out [(0, .s 0), (1, .s 1), (7, .s 7), (9, .s 9)]
def e267r11 : EE := .q 3 .add [.s 1, .s 7] none <|
 .q 4 (.slc 1 true false) [.s 9, .r 3] none <|
 .q 7 (.slc 1 true false) [.s 0, .s 1] none <|
 .x 8 (.cpy 1) [.r 4, .r 7] none [] <|
 .out [(9, .s 9)]
def e267r12 : EE := .out [(6, .s 9)]
def e267r13 : EE := .q 3 .add [.s 8, .s 7] none <|
 .q 4 (.slc 1 false true) [.s 0, .r 3] none <|
 .out [(0, .r 4), (1, .s 1), (2, .s 2), (7, .s 7), (8, .s 8)]
def e267r14 : EE := .q 4 .add [.s 1, .s 7] none <|
 .q 5 (.slc 1 true false) [.s 0, .r 4] none <|
 .x 6 .bad [] none [] <|
 .q 7 .not [.r 6] none <|
 .out [(0, .s 0), (1, .s 1), (2, .s 2), (7, .s 7), (8, .s 8), (68, .r 7)]
def e267r15 : EE := .q 3 .add [.s 1, .s 7] none <|
 .q 4 (.slc 1 true false) [.s 0, .r 3] none <|
 .q 7 (.slc 1 true false) [.s 0, .s 1] none <|
 .x 8 (.cpy 1) [.r 4, .r 7] none [] <|
 .out [(0, .s 0), (1, .s 1), (2, .s 2)]
def e267r16 : EE := .q 2 (.slc 1 true false) [.s 0, .s 1] none <|
 .x 4 (.cpy 1) [.r 2, .s 2] none [] <|
 .out [(0, .s 0)]
def e267r17 : EE := .out [(6, .s 0)]
def e267r18 : EE := .q 2 (.slc 1 true false) [.s 0, .s 8] none <|
 .x 4 (.cpy 1) [.r 2, .s 2] none [] <|
 .out [(0, .s 0), (1, .s 1), (7, .s 7)]
def e267r19 : EE := .q 2 (.slc 1 true false) [.s 0, .s 1] none <|
 .x 4 (.call 302) [.r 2, .s 7] none [] <|
 .out [(0, .s 0)]
def e267r20 : EE := .out [(6, .s 0)]
def e267 : EFn := ⟨(.seq (.reg e267r0 [0, 1, 2] 0) (.seq (.reg e267r1 [0, 1, 2] 0) (.seq (.reg e267r2 [0, 1, 2] 0) (.seq (.seq (.reg e267r3 [0, 1, 2, 7] 0) (.cond (.s 16) (.seq (.reg e267r4 [0] 0) .ret) .skip)) (.seq (.reg e267r5 [0, 1, 2, 7] 0) (.seq (.seq (.reg e267r6 [0, 1, 2, 7, 8] 0) (.cond (.s 22) (.seq (.reg e267r7 [0, 2] 0) .ret) .skip)) (.seq (.seq (.reg e267r8 [0, 1, 2, 7, 8] 0) (.cond (.s 31) (.seq (.reg e267r9 [0, 1, 2, 7, 8] 0) (.seq (.reg e267r10 [0, 1, 2, 7, 9] 0) (.seq (.reg e267r11 [0, 1, 7, 9] 0) (.seq (.reg e267r12 [9] 0) .ret)))) .skip)) (.seq (.reg e267r13 [0, 1, 2, 7, 8] 0) (.seq (.seq (.reg e267r14 [0, 1, 2, 7, 8] 0) (.cond (.s 68) (.seq (.reg e267r15 [0, 1, 2, 7] 0) (.seq (.reg e267r16 [0, 1, 2] 0) (.seq (.reg e267r17 [0] 0) .ret))) .skip)) (.seq (.reg e267r18 [0, 1, 2, 7, 8] 0) (.seq (.reg e267r19 [0, 1, 7] 0) (.seq (.reg e267r20 [0] 0) .ret)))))))))))), [.slot 6], 95, 0⟩
theorem g267 : Good Tryz.prog 267 e267 := ⟨Tryz.f267, Tryz.func267, by kernel_rfl, by kernel_rfl, by kernel_rfl, by kernel_rfl⟩
/-! internal/strconv.small -/
def e275r0 : EE := .out [(0, .s 0)]
def e275r1 : EE := .q 1 .lss [.s 0, .c (.int .i64 10)] none <|
 .out [(0, .s 0), (4, .r 1)]
def e275r2 : EE := .q 2 .add [.s 0, .c (.int .i64 1)] none <|
 .q 3 (.slcs true true) [.c (.str [48, 49, 50, 51, 52, 53, 54, 55, 56, 57, 97, 98, 99, 100, 101, 102, 103, 104, 105, 106, 107, 108, 109, 110, 111, 112, 113, 114, 115, 116, 117, 118, 119, 120, 121, 122]), .s 0, .r 2] none <|
 .out [(2, .r 3)]
def e275r3 : EE := .q 1 .mul [.s 0, .c (.int .i64 2)] none <|
 .q 3 .mul [.s 0, .c (.int .i64 2)] none <|
 .q 4 .add [.r 3, .c (.int .i64 2)] none <|
 .q 5 (.slcs true true) [.c (.str [48, 48, 48, 49, 48, 50, 48, 51, 48, 52, 48, 53, 48, 54, 48, 55, 48, 56, 48, 57, 49, 48, 49, 49, 49, 50, 49, 51, 49, 52, 49, 53, 49, 54, 49, 55, 49, 56, 49, 57, 50, 48, 50, 49, 50, 50, 50, 51, 50, 52, 50, 53, 50, 54, 50, 55, 50, 56, 50, 57, 51, 48, 51, 49, 51, 50, 51, 51, 51, 52, 51, 53, 51, 54, 51, 55, 51, 56, 51, 57, 52, 48, 52, 49, 52, 50, 52, 51, 52, 52, 52, 53, 52, 54, 52, 55, 52, 56, 52, 57, 53, 48, 53, 49, 53, 50, 53, 51, 53, 52, 53, 53, 53, 54, 53, 55, 53, 56, 53, 57, 54, 48, 54, 49, 54, 50, 54, 51, 54, 52, 54, 53, 54, 54, 54, 55, 54, 56, 54, 57, 55, 48, 55, 49, 55, 50, 55, 51, 55, 52, 55, 53, 55, 54, 55, 55, 55, 56, 55, 57, 56, 48, 56, 49, 56, 50, 56, 51, 56, 52, 56, 53, 56, 54, 56, 55, 56, 56, 56, 57, 57, 48, 57, 49, 57, 50, 57, 51, 57, 52, 57, 53, 57, 54, 57, 55, 57, 56, 57, 57]), .r 1, .r 4] none <|
 .out [(2, .r 5)]
def e275 : EFn := ⟨(.seq (.reg e275r0 [0] 0) (.seq (.seq (.reg e275r1 [0] 0) (.cond (.s 4) (.seq (.reg e275r2 [0] 0) .ret) .skip)) (.seq (.reg e275r3 [0] 0) .ret))), [.slot 2], 15, 0⟩
theorem g275 : Good Tryz.prog 275 e275 := ⟨Tryz.f275, Tryz.func275, by kernel_rfl, by kernel_rfl, by kernel_rfl, by kernel_rfl⟩
/-! concord/exec.upto -/
def e280r0 : EE := .x 0 (.box 80) [.s 0] none [] <|
 .x 1 (.box 86) [.s 1] none [] <|
 .out [(2, .s 2), (3, .r 0), (4, .r 1)]
def e280r1 : EE := .q 1 (.fld 0) [.s 3] none <|
 .q 2 .ld [.r 1] none <|
 .q 3 .eql [.s 2, .r 2] none <|
 .out [(2, .s 2), (3, .s 3), (4, .s 4), (10, .r 3)]
def e280r2 : EE := .q 1 (.fld 12) [.s 4] none <|
 .q 2 (.fld 1) [.r 1] none <|
 .q 3 (.ixa 7 1) [.r 2, .s 2] none <|
 .q 4 .ld [.r 3] none <|
 .q 5 (.fld 1) [.s 3] none <|
 .q 6 .ld [.r 5] none <|
 .q 7 .sub [.r 6, .c (.int .i64 1)] none <|
 .q 8 .mx [.r 4, .r 7] none <|
 .out [(6, .r 8)]
def e280r3 : EE := .q 1 (.fld 12) [.s 4] none <|
 .q 2 (.fld 1) [.r 1] none <|
 .q 3 (.ixa 7 1) [.r 2, .s 2] none <|
 .q 4 .ld [.r 3] none <|
 .out [(6, .r 4)]
def e280 : EFn := ⟨(.seq (.reg e280r0 [0, 1, 2] 0) (.seq (.seq (.reg e280r1 [2, 3, 4] 0) (.cond (.s 10) (.seq (.reg e280r2 [2, 3, 4] 0) .ret) .skip)) (.seq (.reg e280r3 [2, 4] 0) .ret))), [.slot 6], 25, 0⟩
theorem g280 : Good Tryz.prog 280 e280 := ⟨Tryz.f280, Tryz.func280, by kernel_rfl, by kernel_rfl, by kernel_rfl, by kernel_rfl⟩
/-! concord/graph.Parts -/
def e282r0 : EE := .out [(0, .s 0)]
def e282r1 : EE := .q 1 .len [.s 0] none <|
 .out [(0, .s 0), (4, .r 1)]
def e282r2 : EE := .q 1 .gtr [.s 4, .c (.int .i64 512)] none <|
 .out [(0, .s 0), (4, .s 4), (13, .r 1)]
def e282r3 : EE := .out [(2, .c .nsl), (3, .c (.int .i64 2))]
def e282r4 : EE := .both false
 (.x 2 (.mks 3 8 [z]) [.s 4, .s 4] none [] <|
 .both false
 (.x 4 (.mks 3 8 [z]) [.s 4, .s 4] none [] <|
 .both false
 (.x 6 (.mks 4 1 [(.bool false)]) [.s 4, .s 4] none [] <|
 .x 8 (.mks 3 8 [z]) [.s 4, .s 4] none [] <|
 .q 9 (.bld [.nsl, .nsl, .nsl, .nsl, .nsl, .nsl, z, z] [(0, 1), (1, 1), (2, 1), (3, 1), (5, 1)]) [.s 0, .r 2, .r 4, .r 6, .r 8] none <|
 .x 10 (.box 418) [.r 9] none [] <|
 .out [(0, .s 0), (4, .s 4), (5, .r 10)])
 (.x 8 (.mks 3 8 [z]) [.s 4, .s 4] none [] <|
 .x 6 (.mks 4 1 [(.bool false)]) [.s 4, .s 4] none [] <|
 .q 9 (.bld [.nsl, .nsl, .nsl, .nsl, .nsl, .nsl, z, z] [(0, 1), (1, 1), (2, 1), (3, 1), (5, 1)]) [.s 0, .r 2, .r 4, .r 6, .r 8] none <|
 .x 10 (.box 418) [.r 9] none [] <|
 .out [(0, .s 0), (4, .s 4), (5, .r 10)]))
 (.both false
 (.x 6 (.mks 4 1 [(.bool false)]) [.s 4, .s 4] none [] <|
 .both false
 (.x 4 (.mks 3 8 [z]) [.s 4, .s 4] none [] <|
 .x 8 (.mks 3 8 [z]) [.s 4, .s 4] none [] <|
 .q 9 (.bld [.nsl, .nsl, .nsl, .nsl, .nsl, .nsl, z, z] [(0, 1), (1, 1), (2, 1), (3, 1), (5, 1)]) [.s 0, .r 2, .r 4, .r 6, .r 8] none <|
 .x 10 (.box 418) [.r 9] none [] <|
 .out [(0, .s 0), (4, .s 4), (5, .r 10)])
 (.x 8 (.mks 3 8 [z]) [.s 4, .s 4] none [] <|
 .x 4 (.mks 3 8 [z]) [.s 4, .s 4] none [] <|
 .q 9 (.bld [.nsl, .nsl, .nsl, .nsl, .nsl, .nsl, z, z] [(0, 1), (1, 1), (2, 1), (3, 1), (5, 1)]) [.s 0, .r 2, .r 4, .r 6, .r 8] none <|
 .x 10 (.box 418) [.r 9] none [] <|
 .out [(0, .s 0), (4, .s 4), (5, .r 10)]))
 (.x 8 (.mks 3 8 [z]) [.s 4, .s 4] none [] <|
 .both false
 (.x 4 (.mks 3 8 [z]) [.s 4, .s 4] none [] <|
 .x 6 (.mks 4 1 [(.bool false)]) [.s 4, .s 4] none [] <|
 .q 9 (.bld [.nsl, .nsl, .nsl, .nsl, .nsl, .nsl, z, z] [(0, 1), (1, 1), (2, 1), (3, 1), (5, 1)]) [.s 0, .r 2, .r 4, .r 6, .r 8] none <|
 .x 10 (.box 418) [.r 9] none [] <|
 .out [(0, .s 0), (4, .s 4), (5, .r 10)])
 (.x 6 (.mks 4 1 [(.bool false)]) [.s 4, .s 4] none [] <|
 .x 4 (.mks 3 8 [z]) [.s 4, .s 4] none [] <|
 .q 9 (.bld [.nsl, .nsl, .nsl, .nsl, .nsl, .nsl, z, z] [(0, 1), (1, 1), (2, 1), (3, 1), (5, 1)]) [.s 0, .r 2, .r 4, .r 6, .r 8] none <|
 .x 10 (.box 418) [.r 9] none [] <|
 .out [(0, .s 0), (4, .s 4), (5, .r 10)]))))
 (.both false
 (.x 4 (.mks 3 8 [z]) [.s 4, .s 4] none [] <|
 .both false
 (.x 2 (.mks 3 8 [z]) [.s 4, .s 4] none [] <|
 .both false
 (.x 6 (.mks 4 1 [(.bool false)]) [.s 4, .s 4] none [] <|
 .x 8 (.mks 3 8 [z]) [.s 4, .s 4] none [] <|
 .q 9 (.bld [.nsl, .nsl, .nsl, .nsl, .nsl, .nsl, z, z] [(0, 1), (1, 1), (2, 1), (3, 1), (5, 1)]) [.s 0, .r 2, .r 4, .r 6, .r 8] none <|
 .x 10 (.box 418) [.r 9] none [] <|
 .out [(0, .s 0), (4, .s 4), (5, .r 10)])
 (.x 8 (.mks 3 8 [z]) [.s 4, .s 4] none [] <|
 .x 6 (.mks 4 1 [(.bool false)]) [.s 4, .s 4] none [] <|
 .q 9 (.bld [.nsl, .nsl, .nsl, .nsl, .nsl, .nsl, z, z] [(0, 1), (1, 1), (2, 1), (3, 1), (5, 1)]) [.s 0, .r 2, .r 4, .r 6, .r 8] none <|
 .x 10 (.box 418) [.r 9] none [] <|
 .out [(0, .s 0), (4, .s 4), (5, .r 10)]))
 (.both false
 (.x 6 (.mks 4 1 [(.bool false)]) [.s 4, .s 4] none [] <|
 .both false
 (.x 2 (.mks 3 8 [z]) [.s 4, .s 4] none [] <|
 .x 8 (.mks 3 8 [z]) [.s 4, .s 4] none [] <|
 .q 9 (.bld [.nsl, .nsl, .nsl, .nsl, .nsl, .nsl, z, z] [(0, 1), (1, 1), (2, 1), (3, 1), (5, 1)]) [.s 0, .r 2, .r 4, .r 6, .r 8] none <|
 .x 10 (.box 418) [.r 9] none [] <|
 .out [(0, .s 0), (4, .s 4), (5, .r 10)])
 (.x 8 (.mks 3 8 [z]) [.s 4, .s 4] none [] <|
 .x 2 (.mks 3 8 [z]) [.s 4, .s 4] none [] <|
 .q 9 (.bld [.nsl, .nsl, .nsl, .nsl, .nsl, .nsl, z, z] [(0, 1), (1, 1), (2, 1), (3, 1), (5, 1)]) [.s 0, .r 2, .r 4, .r 6, .r 8] none <|
 .x 10 (.box 418) [.r 9] none [] <|
 .out [(0, .s 0), (4, .s 4), (5, .r 10)]))
 (.x 8 (.mks 3 8 [z]) [.s 4, .s 4] none [] <|
 .both false
 (.x 2 (.mks 3 8 [z]) [.s 4, .s 4] none [] <|
 .x 6 (.mks 4 1 [(.bool false)]) [.s 4, .s 4] none [] <|
 .q 9 (.bld [.nsl, .nsl, .nsl, .nsl, .nsl, .nsl, z, z] [(0, 1), (1, 1), (2, 1), (3, 1), (5, 1)]) [.s 0, .r 2, .r 4, .r 6, .r 8] none <|
 .x 10 (.box 418) [.r 9] none [] <|
 .out [(0, .s 0), (4, .s 4), (5, .r 10)])
 (.x 6 (.mks 4 1 [(.bool false)]) [.s 4, .s 4] none [] <|
 .x 2 (.mks 3 8 [z]) [.s 4, .s 4] none [] <|
 .q 9 (.bld [.nsl, .nsl, .nsl, .nsl, .nsl, .nsl, z, z] [(0, 1), (1, 1), (2, 1), (3, 1), (5, 1)]) [.s 0, .r 2, .r 4, .r 6, .r 8] none <|
 .x 10 (.box 418) [.r 9] none [] <|
 .out [(0, .s 0), (4, .s 4), (5, .r 10)]))))
 (.both false
 (.x 6 (.mks 4 1 [(.bool false)]) [.s 4, .s 4] none [] <|
 .both false
 (.x 2 (.mks 3 8 [z]) [.s 4, .s 4] none [] <|
 .both false
 (.x 4 (.mks 3 8 [z]) [.s 4, .s 4] none [] <|
 .x 8 (.mks 3 8 [z]) [.s 4, .s 4] none [] <|
 .q 9 (.bld [.nsl, .nsl, .nsl, .nsl, .nsl, .nsl, z, z] [(0, 1), (1, 1), (2, 1), (3, 1), (5, 1)]) [.s 0, .r 2, .r 4, .r 6, .r 8] none <|
 .x 10 (.box 418) [.r 9] none [] <|
 .out [(0, .s 0), (4, .s 4), (5, .r 10)])
 (.x 8 (.mks 3 8 [z]) [.s 4, .s 4] none [] <|
 .x 4 (.mks 3 8 [z]) [.s 4, .s 4] none [] <|
 .q 9 (.bld [.nsl, .nsl, .nsl, .nsl, .nsl, .nsl, z, z] [(0, 1), (1, 1), (2, 1), (3, 1), (5, 1)]) [.s 0, .r 2, .r 4, .r 6, .r 8] none <|
 .x 10 (.box 418) [.r 9] none [] <|
 .out [(0, .s 0), (4, .s 4), (5, .r 10)]))
 (.both false
 (.x 4 (.mks 3 8 [z]) [.s 4, .s 4] none [] <|
 .both false
 (.x 2 (.mks 3 8 [z]) [.s 4, .s 4] none [] <|
 .x 8 (.mks 3 8 [z]) [.s 4, .s 4] none [] <|
 .q 9 (.bld [.nsl, .nsl, .nsl, .nsl, .nsl, .nsl, z, z] [(0, 1), (1, 1), (2, 1), (3, 1), (5, 1)]) [.s 0, .r 2, .r 4, .r 6, .r 8] none <|
 .x 10 (.box 418) [.r 9] none [] <|
 .out [(0, .s 0), (4, .s 4), (5, .r 10)])
 (.x 8 (.mks 3 8 [z]) [.s 4, .s 4] none [] <|
 .x 2 (.mks 3 8 [z]) [.s 4, .s 4] none [] <|
 .q 9 (.bld [.nsl, .nsl, .nsl, .nsl, .nsl, .nsl, z, z] [(0, 1), (1, 1), (2, 1), (3, 1), (5, 1)]) [.s 0, .r 2, .r 4, .r 6, .r 8] none <|
 .x 10 (.box 418) [.r 9] none [] <|
 .out [(0, .s 0), (4, .s 4), (5, .r 10)]))
 (.x 8 (.mks 3 8 [z]) [.s 4, .s 4] none [] <|
 .both false
 (.x 2 (.mks 3 8 [z]) [.s 4, .s 4] none [] <|
 .x 4 (.mks 3 8 [z]) [.s 4, .s 4] none [] <|
 .q 9 (.bld [.nsl, .nsl, .nsl, .nsl, .nsl, .nsl, z, z] [(0, 1), (1, 1), (2, 1), (3, 1), (5, 1)]) [.s 0, .r 2, .r 4, .r 6, .r 8] none <|
 .x 10 (.box 418) [.r 9] none [] <|
 .out [(0, .s 0), (4, .s 4), (5, .r 10)])
 (.x 4 (.mks 3 8 [z]) [.s 4, .s 4] none [] <|
 .x 2 (.mks 3 8 [z]) [.s 4, .s 4] none [] <|
 .q 9 (.bld [.nsl, .nsl, .nsl, .nsl, .nsl, .nsl, z, z] [(0, 1), (1, 1), (2, 1), (3, 1), (5, 1)]) [.s 0, .r 2, .r 4, .r 6, .r 8] none <|
 .x 10 (.box 418) [.r 9] none [] <|
 .out [(0, .s 0), (4, .s 4), (5, .r 10)]))))
 (.x 8 (.mks 3 8 [z]) [.s 4, .s 4] none [] <|
 .both false
 (.x 2 (.mks 3 8 [z]) [.s 4, .s 4] none [] <|
 .both false
 (.x 4 (.mks 3 8 [z]) [.s 4, .s 4] none [] <|
 .x 6 (.mks 4 1 [(.bool false)]) [.s 4, .s 4] none [] <|
 .q 9 (.bld [.nsl, .nsl, .nsl, .nsl, .nsl, .nsl, z, z] [(0, 1), (1, 1), (2, 1), (3, 1), (5, 1)]) [.s 0, .r 2, .r 4, .r 6, .r 8] none <|
 .x 10 (.box 418) [.r 9] none [] <|
 .out [(0, .s 0), (4, .s 4), (5, .r 10)])
 (.x 6 (.mks 4 1 [(.bool false)]) [.s 4, .s 4] none [] <|
 .x 4 (.mks 3 8 [z]) [.s 4, .s 4] none [] <|
 .q 9 (.bld [.nsl, .nsl, .nsl, .nsl, .nsl, .nsl, z, z] [(0, 1), (1, 1), (2, 1), (3, 1), (5, 1)]) [.s 0, .r 2, .r 4, .r 6, .r 8] none <|
 .x 10 (.box 418) [.r 9] none [] <|
 .out [(0, .s 0), (4, .s 4), (5, .r 10)]))
 (.both false
 (.x 4 (.mks 3 8 [z]) [.s 4, .s 4] none [] <|
 .both false
 (.x 2 (.mks 3 8 [z]) [.s 4, .s 4] none [] <|
 .x 6 (.mks 4 1 [(.bool false)]) [.s 4, .s 4] none [] <|
 .q 9 (.bld [.nsl, .nsl, .nsl, .nsl, .nsl, .nsl, z, z] [(0, 1), (1, 1), (2, 1), (3, 1), (5, 1)]) [.s 0, .r 2, .r 4, .r 6, .r 8] none <|
 .x 10 (.box 418) [.r 9] none [] <|
 .out [(0, .s 0), (4, .s 4), (5, .r 10)])
 (.x 6 (.mks 4 1 [(.bool false)]) [.s 4, .s 4] none [] <|
 .x 2 (.mks 3 8 [z]) [.s 4, .s 4] none [] <|
 .q 9 (.bld [.nsl, .nsl, .nsl, .nsl, .nsl, .nsl, z, z] [(0, 1), (1, 1), (2, 1), (3, 1), (5, 1)]) [.s 0, .r 2, .r 4, .r 6, .r 8] none <|
 .x 10 (.box 418) [.r 9] none [] <|
 .out [(0, .s 0), (4, .s 4), (5, .r 10)]))
 (.x 6 (.mks 4 1 [(.bool false)]) [.s 4, .s 4] none [] <|
 .both false
 (.x 2 (.mks 3 8 [z]) [.s 4, .s 4] none [] <|
 .x 4 (.mks 3 8 [z]) [.s 4, .s 4] none [] <|
 .q 9 (.bld [.nsl, .nsl, .nsl, .nsl, .nsl, .nsl, z, z] [(0, 1), (1, 1), (2, 1), (3, 1), (5, 1)]) [.s 0, .r 2, .r 4, .r 6, .r 8] none <|
 .x 10 (.box 418) [.r 9] none [] <|
 .out [(0, .s 0), (4, .s 4), (5, .r 10)])
 (.x 4 (.mks 3 8 [z]) [.s 4, .s 4] none [] <|
 .x 2 (.mks 3 8 [z]) [.s 4, .s 4] none [] <|
 .q 9 (.bld [.nsl, .nsl, .nsl, .nsl, .nsl, .nsl, z, z] [(0, 1), (1, 1), (2, 1), (3, 1), (5, 1)]) [.s 0, .r 2, .r 4, .r 6, .r 8] none <|
 .x 10 (.box 418) [.r 9] none [] <|
 .out [(0, .s 0), (4, .s 4), (5, .r 10)]))))))
def e282r5 : EE := .out [(0, .s 0), (5, .s 5), (25, .s 4), (26, .c z)]
def e282r6 : EE := .q 0 .lss [.s 26, .s 25] none <|
 .out [(0, .s 0), (5, .s 5), (25, .s 25), (26, .s 26), (27, .r 0)]
def e282r7 : EE := .out [(0, .s 0), (5, .s 5), (6, .s 26), (25, .s 25), (26, .s 26)]
def e282r8 : EE := .q 1 .nl [.s 5] none <|
 .q 2 (.fld 1) [.r 1] none <|
 .q 3 .ld [.r 2] none <|
 .q 5 (.ixs 1) [.r 3, .s 6] none <|
 .q 6 .ld [.r 5] none <|
 .q 7 .eql [.r 6, .c z] none <|
 .out [(0, .s 0), (5, .s 5), (6, .s 6), (25, .s 25), (26, .s 26), (36, .r 7)]
def e282r9 : EE := .x 2 (.call 315) [.s 5, .s 6] none [] <|
 .out [(0, .s 0), (5, .s 5), (25, .s 25), (26, .s 26)]
def e282r10 : EE := .q 0 .add [.s 26, .c (.int .i64 1)] none <|
 .out [(0, .s 0), (5, .s 5), (25, .s 25), (26, .r 0)]
def e282l11 : EC := (.seq (.reg e282r6 [0, 5, 25, 26] 0) (.seq (.cond (.s 27) .skip (.exit 0)) (.seq (.block 1 (.seq (.reg e282r7 [0, 5, 25, 26] 0) (.seq (.reg e282r8 [0, 5, 6, 25, 26] 0) (.cond (.s 36) (.reg e282r9 [0, 5, 6, 25, 26] 0) .skip)))) (.reg e282r10 [0, 5, 25, 26] 0))))
def e282r12 : EE := .q 1 .nl [.s 5] none <|
 .q 2 (.fld 6) [.r 1] none <|
 .q 3 .ld [.r 2] none <|
 .x 4 (.mks 27 24 [.nsl]) [.r 3, .r 3] none [] <|
 .out [(0, .s 0), (5, .s 5), (7, .r 4)]
def e282r13 : EE := .q 1 .nl [.s 5] none <|
 .q 2 (.fld 5) [.r 1] none <|
 .q 3 .ld [.r 2] none <|
 .q 4 .len [.r 3] none <|
 .out [(0, .s 0), (5, .s 5), (7, .s 7), (49, .r 3), (50, .r 4), (51, .c z)]
def e282r14 : EE := .q 0 .lss [.s 51, .s 50] none <|
 .out [(0, .s 0), (5, .s 5), (7, .s 7), (49, .s 49), (50, .s 50), (51, .s 51), (52, .r 0)]
def e282r15 : EE := .q 1 (.ixs 1) [.s 49, .s 51] none <|
 .q 2 .ld [.r 1] none <|
 .out [(0, .s 0), (5, .s 5), (7, .s 7), (8, .s 51), (9, .r 2), (49, .s 49), (50, .s 50), (51, .s 51)]
def e282r16 : EE := .q 4 (.ixs 1) [.s 7, .s 9] none <|
 .q 5 .ld [.r 4] none <|
 .x 7 (.bsl 3 1 [z] [(0, 1)]) [.s 8] none [] <|
 .x 8 (.app 3 1 8 [z]) [.r 5, .r 7] none [] <|
 .q 9 (.ixs 1) [.s 7, .s 9] none <|
 .x 10 (.st 1) [.r 9, .r 8] none [] <|
 .out [(0, .s 0), (5, .s 5), (7, .s 7), (49, .s 49), (50, .s 50), (51, .s 51)]
def e282r17 : EE := .q 0 .add [.s 51, .c (.int .i64 1)] none <|
 .out [(0, .s 0), (5, .s 5), (7, .s 7), (49, .s 49), (50, .s 50), (51, .r 0)]
def e282l18 : EC := (.seq (.reg e282r14 [0, 5, 7, 49, 50, 51] 0) (.seq (.cond (.s 52) .skip (.exit 2)) (.seq (.block 3 (.seq (.reg e282r15 [0, 5, 7, 49, 50, 51] 0) (.reg e282r16 [0, 5, 7, 8, 9, 49, 50, 51] 0))) (.reg e282r17 [0, 5, 7, 49, 50, 51] 0))))
def e282r19 : EE := .q 2 .nl [.s 5] none <|
 .q 3 (.fld 5) [.r 2] none <|
 .q 4 .ld [.r 3] none <|
 .x 6 (.call 316) [.s 0, .r 4, .s 7] none [] <|
 .out [(2, .r 6), (3, .c z)]
def e282 : EFn := ⟨(.seq (.reg e282r0 [0] 0) (.seq (.reg e282r1 [0] 0) (.seq (.seq (.reg e282r2 [0, 4] 0) (.cond (.s 13) (.seq (.reg e282r3 [] 0) .ret) .skip)) (.seq (.reg e282r4 [0, 4] 11) (.seq (.seq (.reg e282r5 [0, 4, 5] 0) (.block 0 (.loop [0, 5, 25, 26] e282l11))) (.seq (.reg e282r12 [0, 5] 0) (.seq (.seq (.reg e282r13 [0, 5, 7] 0) (.block 2 (.loop [0, 5, 7, 49, 50, 51] e282l18))) (.seq (.reg e282r19 [0, 5, 7] 0) .ret)))))))), [.slot 2, .slot 3], 74, 0⟩
theorem g282 : Good Tryz.prog 282 e282 := ⟨Tryz.f282, Tryz.func282, by kernel_rfl, by kernel_rfl, by kernel_rfl, by kernel_rfl⟩
/-! (*concord/exec.plan).edges -/
def e283r0 : EE := .out [(0, .s 0), (1, .s 1)]
def e283r1 : EE := .q 1 .len [.s 1] none <|
 .x 2 (.mks 27 24 [.nsl]) [.r 1, .r 1] none [] <|
 .out [(0, .s 0), (1, .s 1), (5, .r 2)]
def e283r2 : EE := .q 1 .len [.s 1] none <|
 .out [(0, .s 0), (1, .s 1), (5, .s 5), (14, .s 1), (15, .r 1), (16, .c z)]
def e283r3 : EE := .q 0 .lss [.s 16, .s 15] none <|
 .out [(0, .s 0), (1, .s 1), (5, .s 5), (14, .s 14), (15, .s 15), (16, .s 16), (17, .r 0)]
def e283r4 : EE := .q 1 (.ixs 2) [.s 14, .s 16] none <|
 .q 2 (.lda 2) [.r 1] none <|
 .x 3 (.alc [z, z] 80) [] none [] <|
 .x 5 (.st 2) [.r 3, .r 2] none [] <|
 .out [(0, .s 0), (1, .s 1), (5, .s 5), (6, .s 16), (7, .r 3), (14, .s 14), (15, .s 15), (16, .s 16)]
def e283r5 : EE := .q 1 .nl [.s 0] none <|
 .q 2 (.fld 7) [.r 1] none <|
 .q 3 .ld [.r 2] none <|
 .q 4 (.lda 2) [.s 7] none <|
 .q 5 (.lkp true [(.i .i64), (.i .i64)] (.agg [z, z, z, z, z, z, z, z, zs, zs, zs, zs, z, z, z, z, z, z, z, z, (.bool false)]) false) [.r 3, .r 4] none <|
 .q 6 (.prta 12 8) [.r 5] none <|
 .q 7 (.prta 1 7) [.r 6] none <|
 .x 8 (.alc [z, z, z, z, z, z, z] 38) [] none [⟨3, .ld, [.r 2], none⟩, ⟨4, (.lda 2), [.s 7], none⟩, ⟨5, (.lkp true [(.i .i64), (.i .i64)] (.agg [z, z, z, z, z, z, z, z, zs, zs, zs, zs, z, z, z, z, z, z, z, z, (.bool false)]) false), [.r 3, .r 4], none⟩] <|
 .x 9 (.st 7) [.r 8, .r 7] none [] <|
 .out [(0, .s 0), (1, .s 1), (5, .s 5), (6, .s 6), (7, .s 7), (8, .r 8), (14, .s 14), (15, .s 15), (16, .s 16)]
def e283r6 : EE := .q 1 .len [.s 1] none <|
 .out [(0, .s 0), (1, .s 1), (5, .s 5), (6, .s 6), (7, .s 7), (8, .s 8), (14, .s 14), (15, .s 15), (16, .s 16), (29, .s 1), (30, .r 1), (31, .c z)]
def e283r7 : EE := .q 0 .lss [.s 31, .s 30] none <|
 .out [(0, .s 0), (1, .s 1), (5, .s 5), (6, .s 6), (7, .s 7), (8, .s 8), (14, .s 14), (15, .s 15), (16, .s 16), (29, .s 29), (30, .s 30), (31, .s 31), (32, .r 0)]
def e283r8 : EE := .q 1 (.ixs 2) [.s 29, .s 31] none <|
 .q 2 (.lda 2) [.r 1] none <|
 .x 3 (.alc [z, z] 80) [] none [] <|
 .x 5 (.st 2) [.r 3, .r 2] none [] <|
 .out [(0, .s 0), (1, .s 1), (5, .s 5), (6, .s 6), (7, .s 7), (8, .s 8), (9, .s 31), (10, .r 3), (14, .s 14), (15, .s 15), (16, .s 16), (29, .s 29), (30, .s 30), (31, .s 31)]
def e283r9 : EE := .q 2 .neq [.s 6, .s 9] none <|
 .q 4 (.lda 7) [.s 8] (some (.r 2, true)) <|
 .q 5 (.lda 2) [.s 10] (some (.r 2, true)) <|
 .x 6 (.call 317) [.r 4, .r 5] (some (.r 2, true)) [] <|
 .q 7 .mv [.r 6] (some (.r 2, true)) <|
 .q 8 (.fld 0) [.s 10] (some (.r 7, false)) <|
 .q 9 .ld [.r 8] (some (.r 7, false)) <|
 .q 10 (.fld 0) [.s 7] (some (.r 7, false)) <|
 .q 11 .ld [.r 10] (some (.r 7, false)) <|
 .q 12 .eql [.r 9, .r 11] (some (.r 7, false)) <|
 .q 13 .mv [.r 12] (some (.r 7, false)) <|
 .q 14 (.fld 1) [.s 10] (some (.r 13, true)) <|
 .q 15 .ld [.r 14] (some (.r 13, true)) <|
 .q 16 (.fld 1) [.s 7] (some (.r 13, true)) <|
 .q 17 .ld [.r 16] (some (.r 13, true)) <|
 .q 18 .lss [.r 15, .r 17] (some (.r 13, true)) <|
 .q 19 .pick [.r 13, .r 18, .c (.bool false)] (some (.r 7, false)) <|
 .q 20 .pick [.r 7, .c (.bool true), .r 19] (some (.r 2, true)) <|
 .q 21 .pick [.r 2, .r 20, .c (.bool false)] none <|
 .out [(0, .s 0), (1, .s 1), (5, .s 5), (6, .s 6), (7, .s 7), (8, .s 8), (9, .s 9), (14, .s 14), (15, .s 15), (16, .s 16), (29, .s 29), (30, .s 30), (31, .s 31), (57, .r 21)]
def e283r10 : EE := .q 4 (.ixs 1) [.s 5, .s 6] none <|
 .q 5 .ld [.r 4] none <|
 .x 7 (.bsl 3 1 [z] [(0, 1)]) [.s 9] none [] <|
 .x 8 (.app 3 1 8 [z]) [.r 5, .r 7] none [] <|
 .q 9 (.ixs 1) [.s 5, .s 6] none <|
 .x 10 (.st 1) [.r 9, .r 8] none [] <|
 .out [(0, .s 0), (1, .s 1), (5, .s 5), (6, .s 6), (7, .s 7), (8, .s 8), (14, .s 14), (15, .s 15), (16, .s 16), (29, .s 29), (30, .s 30), (31, .s 31)]
def e283r11 : EE := .q 0 .add [.s 31, .c (.int .i64 1)] none <|
 .out [(0, .s 0), (1, .s 1), (5, .s 5), (6, .s 6), (7, .s 7), (8, .s 8), (14, .s 14), (15, .s 15), (16, .s 16), (29, .s 29), (30, .s 30), (31, .r 0)]
def e283l12 : EC := (.seq (.reg e283r7 [0, 1, 5, 6, 7, 8, 14, 15, 16, 29, 30, 31] 0) (.seq (.cond (.s 32) .skip (.exit 2)) (.seq (.block 3 (.seq (.reg e283r8 [0, 1, 5, 6, 7, 8, 14, 15, 16, 29, 30, 31] 0) (.seq (.reg e283r9 [0, 1, 5, 6, 7, 8, 9, 10, 14, 15, 16, 29, 30, 31] 0) (.cond (.s 57) (.reg e283r10 [0, 1, 5, 6, 7, 8, 9, 14, 15, 16, 29, 30, 31] 0) .skip)))) (.reg e283r11 [0, 1, 5, 6, 7, 8, 14, 15, 16, 29, 30, 31] 0))))
def e283r13 : EE := .q 0 .add [.s 16, .c (.int .i64 1)] none <|
 .out [(0, .s 0), (1, .s 1), (5, .s 5), (14, .s 14), (15, .s 15), (16, .r 0)]
def e283l14 : EC := (.seq (.reg e283r3 [0, 1, 5, 14, 15, 16] 0) (.seq (.cond (.s 17) .skip (.exit 0)) (.seq (.block 1 (.seq (.reg e283r4 [0, 1, 5, 14, 15, 16] 0) (.seq (.reg e283r5 [0, 1, 5, 6, 7, 14, 15, 16] 0) (.seq (.reg e283r6 [0, 1, 5, 6, 7, 8, 14, 15, 16] 0) (.block 2 (.loop [0, 1, 5, 6, 7, 8, 14, 15, 16, 29, 30, 31] e283l12)))))) (.reg e283r13 [0, 1, 5, 14, 15, 16] 0))))
def e283r15 : EE := .out [(4, .s 5)]
def e283 : EFn := ⟨(.seq (.reg e283r0 [0, 1] 0) (.seq (.reg e283r1 [0, 1] 0) (.seq (.seq (.reg e283r2 [0, 1, 5] 0) (.block 0 (.loop [0, 1, 5, 14, 15, 16] e283l14))) (.seq (.reg e283r15 [5] 0) .ret)))), [.slot 4], 71, 0⟩
theorem g283 : Good Tryz.prog 283 e283 := ⟨Tryz.f283, Tryz.func283, by kernel_rfl, by kernel_rfl, by kernel_rfl, by kernel_rfl⟩
/-! slices.SortStableFunc[[]int,int] -/
def e284r0 : EE := .q 2 .len [.s 0] none <|
 .x 4 (.call 318) [.s 0, .r 2, .s 1] none [] <|
 .out []
def e284 : EFn := ⟨(.reg e284r0 [0, 1] 0), [], 9, 0⟩
theorem g284 : Good Tryz.prog 284 e284 := ⟨Tryz.f284, Tryz.func284, by kernel_rfl, by kernel_rfl, by kernel_rfl, by kernel_rfl⟩
/-! concord/kv.find -/
def e287r0 : EE := .out [(0, .s 0), (1, .s 1)]
def e287r1 : EE := .q 1 .len [.s 0] none <|
 .out [(0, .s 0), (1, .s 1), (8, .s 0), (9, .r 1), (10, .c z)]
def e287r2 : EE := .q 0 .lss [.s 10, .s 9] none <|
 .out [(0, .s 0), (1, .s 1), (8, .s 8), (9, .s 9), (10, .s 10), (11, .r 0)]
def e287r3 : EE := .q 1 (.ixs 3) [.s 8, .s 10] none <|
 .q 2 (.lda 3) [.r 1] none <|
 .x 3 (.alc [zs, zs, z] 94) [] none [] <|
 .x 5 (.st 3) [.r 3, .r 2] none [] <|
 .out [(0, .s 0), (1, .s 1), (6, .s 10), (7, .r 3), (8, .s 8), (9, .s 9), (10, .s 10)]
def e287r4 : EE := .q 0 (.fld 0) [.s 7] none <|
 .q 1 .ld [.r 0] none <|
 .q 3 .sgeq [.r 1, .s 1] none <|
 .out [(0, .s 0), (1, .s 1), (6, .s 6), (7, .s 7), (8, .s 8), (9, .s 9), (10, .s 10), (18, .r 3)]
def e287r5 : EE := .q 1 (.fld 0) [.s 7] none <|
 .q 2 .ld [.r 1] none <|
 .q 4 .seql [.r 2, .s 1] none <|
 .out [(4, .s 6), (5, .r 4)]
def e287r6 : EE := .q 0 .add [.s 10, .c (.int .i64 1)] none <|
 .out [(0, .s 0), (1, .s 1), (8, .s 8), (9, .s 9), (10, .r 0)]
def e287l7 : EC := (.seq (.reg e287r2 [0, 1, 8, 9, 10] 0) (.seq (.cond (.s 11) .skip (.exit 0)) (.seq (.block 1 (.seq (.reg e287r3 [0, 1, 8, 9, 10] 0) (.seq (.reg e287r4 [0, 1, 6, 7, 8, 9, 10] 0) (.cond (.s 18) (.seq (.reg e287r5 [1, 6, 7] 0) .ret) .skip)))) (.reg e287r6 [0, 1, 8, 9, 10] 0))))
def e287r8 : EE := .q 1 .len [.s 0] none <|
 .out [(4, .r 1), (5, .c (.bool false))]
def e287 : EFn := ⟨(.seq (.reg e287r0 [0, 1] 0) (.seq (.seq (.reg e287r1 [0, 1] 0) (.block 0 (.loop [0, 1, 8, 9, 10] e287l7))) (.seq (.reg e287r8 [0] 0) .ret))), [.slot 4, .slot 5], 27, 0⟩
theorem g287 : Good Tryz.prog 287 e287 := ⟨Tryz.f287, Tryz.func287, by kernel_rfl, by kernel_rfl, by kernel_rfl, by kernel_rfl⟩
/-! slices.Insert[[]concord/api.Pair,concord/api.Pair] -/
def e288r0 : EE := .out [(0, .s 0), (1, .s 1), (2, .s 2)]
def e288r1 : EE := .q 2 (.slc 3 true false) [.s 0, .s 1] none <|
 .out [(0, .s 0), (1, .s 1), (2, .s 2)]
def e288r2 : EE := .q 1 .len [.s 2] none <|
 .out [(0, .s 0), (1, .s 1), (2, .s 2), (7, .r 1)]
def e288r3 : EE := .q 1 .eql [.s 7, .c z] none <|
 .out [(0, .s 0), (1, .s 1), (2, .s 2), (7, .s 7), (16, .r 1)]
def e288r4 : EE := .out [(6, .s 0)]
def e288r5 : EE := .q 1 .len [.s 0] none <|
 .out [(0, .s 0), (1, .s 1), (2, .s 2), (7, .s 7), (8, .r 1)]
def e288r6 : EE := .q 2 .eql [.s 1, .s 8] none <|
 .out [(0, .s 0), (1, .s 1), (2, .s 2), (7, .s 7), (8, .s 8), (22, .r 2)]
def e288r7 : EE := .x 2 (.app 94 3 40 [zs, zs, z]) [.s 0, .s 2] none [] <|
 .out [(6, .r 2)]
def e288r8 : EE := .q 2 .add [.s 8, .s 7] none <|
 .q 4 .cap [.s 0] none <|
 .q 5 .gtr [.r 2, .r 4] none <|
 .out [(0, .s 0), (1, .s 1), (2, .s 2), (7, .s 7), (8, .s 8), (31, .r 5)]
def e288r9 : EE := .q 2 (.slc 3 false true) [.s 0, .s 1] none <|
 .q 5 .add [.s 8, .s 7] none <|
 .q 7 .sub [.r 5, .s 1] none <|
 .x 8 (.appn 94 3 40 [zs, zs, z]) [.r 2, .r 7] none [] <|
 .out [(0, .s 0), (1, .s 1), (2, .s 2), (7, .s 7), (9, .r 8)]
def e288r10 : EE := .q 2 (.slc 3 true false) [.s 9, .s 1] none <|
 .x 4 (.cpy 3) [.r 2, .s 2] none [] <|
 .out [(0, .s 0), (1, .s 1), (7, .s 7), (9, .s 9)]
def e288r11 : EE := .q 3 .add [.s 1, .s 7] none <|
 .q 4 (.slc 3 true false) [.s 9, .r 3] none <|
 .q 7 (.slc 3 true false) [.s 0, .s 1] none <|
 .x 8 (.cpy 3) [.r 4, .r 7] none [] <|
 .out [(9, .s 9)]
def e288r12 : EE := .out [(6, .s 9)]
def e288r13 : EE := .q 3 .add [.s 8, .s 7] none <|
 .q 4 (.slc 3 false true) [.s 0, .r 3] none <|
 .out [(0, .r 4), (1, .s 1), (2, .s 2), (7, .s 7), (8, .s 8)]
def e288r14 : EE := .q 4 .add [.s 1, .s 7] none <|
 .q 5 (.slc 3 true false) [.s 0, .r 4] none <|
 .x 6 .bad [] none [] <|
 .q 7 .not [.r 6] none <|
 .out [(0, .s 0), (1, .s 1), (2, .s 2), (7, .s 7), (8, .s 8), (68, .r 7)]
def e288r15 : EE := .q 3 .add [.s 1, .s 7] none <|
 .q 4 (.slc 3 true false) [.s 0, .r 3] none <|
 .q 7 (.slc 3 true false) [.s 0, .s 1] none <|
 .x 8 (.cpy 3) [.r 4, .r 7] none [] <|
 .out [(0, .s 0), (1, .s 1), (2, .s 2)]
def e288r16 : EE := .q 2 (.slc 3 true false) [.s 0, .s 1] none <|
 .x 4 (.cpy 3) [.r 2, .s 2] none [] <|
 .out [(0, .s 0)]
def e288r17 : EE := .out [(6, .s 0)]
def e288r18 : EE := .q 2 (.slc 3 true false) [.s 0, .s 8] none <|
 .x 4 (.cpy 3) [.r 2, .s 2] none [] <|
 .out [(0, .s 0), (1, .s 1), (7, .s 7)]
def e288r19 : EE := .q 2 (.slc 3 true false) [.s 0, .s 1] none <|
 .x 4 (.call 321) [.r 2, .s 7] none [] <|
 .out [(0, .s 0)]
def e288r20 : EE := .out [(6, .s 0)]
def e288 : EFn := ⟨(.seq (.reg e288r0 [0, 1, 2] 0) (.seq (.reg e288r1 [0, 1, 2] 0) (.seq (.reg e288r2 [0, 1, 2] 0) (.seq (.seq (.reg e288r3 [0, 1, 2, 7] 0) (.cond (.s 16) (.seq (.reg e288r4 [0] 0) .ret) .skip)) (.seq (.reg e288r5 [0, 1, 2, 7] 0) (.seq (.seq (.reg e288r6 [0, 1, 2, 7, 8] 0) (.cond (.s 22) (.seq (.reg e288r7 [0, 2] 0) .ret) .skip)) (.seq (.seq (.reg e288r8 [0, 1, 2, 7, 8] 0) (.cond (.s 31) (.seq (.reg e288r9 [0, 1, 2, 7, 8] 0) (.seq (.reg e288r10 [0, 1, 2, 7, 9] 0) (.seq (.reg e288r11 [0, 1, 7, 9] 0) (.seq (.reg e288r12 [9] 0) .ret)))) .skip)) (.seq (.reg e288r13 [0, 1, 2, 7, 8] 0) (.seq (.seq (.reg e288r14 [0, 1, 2, 7, 8] 0) (.cond (.s 68) (.seq (.reg e288r15 [0, 1, 2, 7] 0) (.seq (.reg e288r16 [0, 1, 2] 0) (.seq (.reg e288r17 [0] 0) .ret))) .skip)) (.seq (.reg e288r18 [0, 1, 2, 7, 8] 0) (.seq (.reg e288r19 [0, 1, 7] 0) (.seq (.reg e288r20 [0] 0) .ret)))))))))))), [.slot 6], 95, 0⟩
theorem g288 : Good Tryz.prog 288 e288 := ⟨Tryz.f288, Tryz.func288, by kernel_rfl, by kernel_rfl, by kernel_rfl, by kernel_rfl⟩
/-! (*concord/graph.walk).from -/
def e315r0 : EE := .x 2 (.call 333) [.s 0, .s 1] none [] <|
 .x 3 (.bsl 436 1 [z, z] [(0, 2)]) [.r 2] none [] <|
 .out [(0, .s 0), (4, .r 3)]
def e315r1 : EE := .q 1 .len [.s 4] none <|
 .q 2 .gtr [.r 1, .c z] none <|
 .out [(0, .s 0), (4, .s 4), (15, .r 2)]
def e315r2 : EE := .q 2 .len [.s 4] none <|
 .q 3 .sub [.r 2, .c (.int .i64 1)] none <|
 .q 4 (.ixs 2) [.s 4, .r 3] none <|
 .out [(0, .s 0), (4, .s 4), (5, .r 4)]
def e315r3 : EE := .q 1 .nl [.s 5] none <|
 .q 2 (.fld 1) [.r 1] none <|
 .q 3 .ld [.r 2] none <|
 .q 5 .nl [.s 0] none <|
 .q 6 (.fld 0) [.r 5] none <|
 .q 7 .ld [.r 6] none <|
 .q 9 .nl [.s 5] none <|
 .q 10 (.fld 0) [.r 9] none <|
 .q 11 .ld [.r 10] none <|
 .q 12 (.ixs 1) [.r 7, .r 11] none <|
 .q 13 .ld [.r 12] none <|
 .q 14 .len [.r 13] none <|
 .q 15 .eql [.r 3, .r 14] none <|
 .out [(0, .s 0), (4, .s 4), (5, .s 5), (36, .r 15)]
def e315r4 : EE := .q 1 .nl [.s 5] none <|
 .q 2 (.fld 0) [.r 1] none <|
 .q 3 .ld [.r 2] none <|
 .out [(0, .s 0), (4, .s 4), (6, .r 3)]
def e315r5 : EE := .x 2 (.call 334) [.s 0, .s 6] none [] <|
 .out [(0, .s 0), (4, .s 4), (6, .s 6)]
def e315r6 : EE := .q 2 .len [.s 4] none <|
 .q 3 .sub [.r 2, .c (.int .i64 1)] none <|
 .q 4 (.slc 2 false true) [.s 4, .r 3] none <|
 .out [(0, .s 0), (4, .r 4), (6, .s 6)]
def e315r7 : EE := .q 1 .len [.s 4] none <|
 .q 2 .gtr [.r 1, .c z] none <|
 .out [(0, .s 0), (4, .s 4), (6, .s 6), (51, .r 2)]
def e315r8 : EE := .q 2 .len [.s 4] none <|
 .q 3 .sub [.r 2, .c (.int .i64 1)] none <|
 .q 4 (.ixs 2) [.s 4, .r 3] none <|
 .q 5 (.fld 0) [.r 4] none <|
 .q 6 .ld [.r 5] none <|
 .out [(0, .s 0), (4, .s 4), (6, .s 6), (7, .r 6)]
def e315r9 : EE := .q 1 .nl [.s 0] none <|
 .q 2 (.fld 2) [.r 1] none <|
 .q 3 .ld [.r 2] none <|
 .q 6 .nl [.s 0] none <|
 .q 7 (.fld 2) [.r 6] none <|
 .q 8 .ld [.r 7] none <|
 .q 10 (.ixs 1) [.r 8, .s 7] none <|
 .q 11 .ld [.r 10] none <|
 .q 13 .nl [.s 0] none <|
 .q 14 (.fld 2) [.r 13] none <|
 .q 15 .ld [.r 14] none <|
 .q 17 (.ixs 1) [.r 15, .s 6] none <|
 .q 18 .ld [.r 17] none <|
 .q 19 .mn [.r 11, .r 18] none <|
 .q 20 (.ixs 1) [.r 3, .s 7] none <|
 .x 21 (.st 1) [.r 20, .r 19] none [] <|
 .out [(0, .s 0), (4, .s 4)]
def e315r10 : EE := .q 1 .nl [.s 0] none <|
 .q 2 (.fld 0) [.r 1] none <|
 .q 3 .ld [.r 2] none <|
 .q 5 .nl [.s 5] none <|
 .q 6 (.fld 0) [.r 5] none <|
 .q 7 .ld [.r 6] none <|
 .q 8 (.ixs 1) [.r 3, .r 7] none <|
 .q 9 .ld [.r 8] none <|
 .q 11 .nl [.s 5] none <|
 .q 12 (.fld 1) [.r 11] none <|
 .q 13 .ld [.r 12] none <|
 .q 14 (.ixs 1) [.r 9, .r 13] none <|
 .q 15 .ld [.r 14] none <|
 .out [(0, .s 0), (4, .s 4), (5, .s 5), (8, .r 15)]
def e315r11 : EE := .q 1 .nl [.s 5] none <|
 .q 2 (.fld 1) [.r 1] none <|
 .q 3 .ld [.r 2] none <|
 .q 4 .add [.r 3, .c (.int .i64 1)] none <|
 .q 5 .nl [.s 5] none <|
 .q 6 (.fld 1) [.r 5] none <|
 .x 7 (.st 1) [.r 6, .r 4] none [] <|
 .out [(0, .s 0), (4, .s 4), (5, .s 5), (8, .s 8)]
def e315r12 : EE := .q 1 .lss [.s 8, .c z] none <|
 .q 3 .mv [.s 8] (some (.r 1, false)) <|
 .q 4 .mv [.s 0] (some (.r 1, false)) <|
 .q 5 .nl [.r 4] (some (.r 1, false)) <|
 .q 6 (.fld 0) [.r 5] (some (.r 1, false)) <|
 .q 7 .ld [.r 6] (some (.r 1, false)) <|
 .q 8 .len [.r 7] (some (.r 1, false)) <|
 .q 9 .geq [.r 3, .r 8] (some (.r 1, false)) <|
 .q 10 .pick [.r 1, .c (.bool true), .r 9] none <|
 .out [(0, .s 0), (4, .s 4), (5, .s 5), (8, .s 8), (103, .r 10)]
def e315r13 : EE := .q 1 .nl [.s 0] none <|
 .q 2 (.fld 1) [.r 1] none <|
 .q 3 .ld [.r 2] none <|
 .q 5 (.ixs 1) [.r 3, .s 8] none <|
 .q 6 .ld [.r 5] none <|
 .q 7 .eql [.r 6, .c z] none <|
 .out [(0, .s 0), (4, .s 4), (5, .s 5), (8, .s 8), (115, .r 7)]
def e315r14 : EE := .x 3 (.call 333) [.s 0, .s 8] none [] <|
 .x 4 (.bsl 436 1 [z, z] [(0, 2)]) [.r 3] none [] <|
 .x 5 (.app 436 2 16 [z, z]) [.s 4, .r 4] none [] <|
 .out [(0, .s 0), (4, .r 5)]
def e315r15 : EE := .q 1 .nl [.s 0] none <|
 .q 2 (.fld 3) [.r 1] none <|
 .q 3 .ld [.r 2] none <|
 .q 5 (.ixs 1) [.r 3, .s 8] none <|
 .q 6 .ld [.r 5] none <|
 .out [(0, .s 0), (4, .s 4), (5, .s 5), (8, .s 8), (130, .r 6)]
def e315r16 : EE := .q 1 .nl [.s 0] none <|
 .q 2 (.fld 2) [.r 1] none <|
 .q 3 .ld [.r 2] none <|
 .q 5 .nl [.s 5] none <|
 .q 6 (.fld 0) [.r 5] none <|
 .q 7 .ld [.r 6] none <|
 .q 9 .nl [.s 0] none <|
 .q 10 (.fld 2) [.r 9] none <|
 .q 11 .ld [.r 10] none <|
 .q 13 .nl [.s 5] none <|
 .q 14 (.fld 0) [.r 13] none <|
 .q 15 .ld [.r 14] none <|
 .q 16 (.ixs 1) [.r 11, .r 15] none <|
 .q 17 .ld [.r 16] none <|
 .q 19 .nl [.s 0] none <|
 .q 20 (.fld 1) [.r 19] none <|
 .q 21 .ld [.r 20] none <|
 .q 23 (.ixs 1) [.r 21, .s 8] none <|
 .q 24 .ld [.r 23] none <|
 .q 25 .mn [.r 17, .r 24] none <|
 .q 26 (.ixs 1) [.r 3, .r 7] none <|
 .x 27 (.st 1) [.r 26, .r 25] none [] <|
 .out [(0, .s 0), (4, .s 4)]
def e315l17 : EC := (.seq (.seq (.reg e315r1 [0, 4] 0) (.cond (.s 15) .skip (.exit 0))) (.block 1 (.seq (.reg e315r2 [0, 4] 0) (.seq (.seq (.reg e315r3 [0, 4, 5] 0) (.cond (.s 36) (.seq (.reg e315r4 [0, 4, 5] 0) (.seq (.reg e315r5 [0, 4, 6] 0) (.seq (.reg e315r6 [0, 4, 6] 0) (.seq (.seq (.reg e315r7 [0, 4, 6] 0) (.cond (.s 51) (.seq (.reg e315r8 [0, 4, 6] 0) (.reg e315r9 [0, 4, 6, 7] 0)) .skip)) (.exit 1))))) .skip)) (.seq (.reg e315r10 [0, 4, 5] 0) (.seq (.reg e315r11 [0, 4, 5, 8] 0) (.block 2 (.seq (.reg e315r12 [0, 4, 5, 8] 0) (.cond (.s 103) .skip (.seq (.reg e315r13 [0, 4, 5, 8] 0) (.cond (.s 115) (.reg e315r14 [0, 4, 8] 0) (.seq (.reg e315r15 [0, 4, 5, 8] 0) (.cond (.s 130) (.reg e315r16 [0, 4, 5, 8] 0) .skip)))))))))))))
def e315 : EFn := ⟨(.seq (.reg e315r0 [0, 1] 0) (.block 0 (.loop [0, 4] e315l17))), [], 165, 0⟩
theorem g315 : Good Tryz.prog 315 e315 := ⟨Tryz.f315, Tryz.func315, by kernel_rfl, by kernel_rfl, by kernel_rfl, by kernel_rfl⟩
/-! concord/graph.order -/
def e316r0 : EE := .out [(0, .s 0), (1, .s 1), (2, .s 2)]
def e316r1 : EE := .q 1 .len [.s 2] none <|
 .x 2 (.mks 3 8 [z]) [.r 1, .r 1] none [] <|
 .out [(0, .s 0), (1, .s 1), (2, .s 2), (7, .r 2)]
def e316r2 : EE := .q 1 .len [.s 2] none <|
 .x 2 (.mks 27 24 [.nsl]) [.r 1, .r 1] none [] <|
 .out [(0, .s 0), (1, .s 1), (2, .s 2), (7, .s 7), (8, .r 2)]
def e316r3 : EE := .q 1 .len [.s 0] none <|
 .out [(0, .s 0), (1, .s 1), (2, .s 2), (7, .s 7), (8, .s 8), (25, .s 0), (26, .r 1), (27, .c z)]
def e316r4 : EE := .q 0 .lss [.s 27, .s 26] none <|
 .out [(0, .s 0), (1, .s 1), (2, .s 2), (7, .s 7), (8, .s 8), (25, .s 25), (26, .s 26), (27, .s 27), (28, .r 0)]
def e316r5 : EE := .q 1 (.ixs 1) [.s 25, .s 27] none <|
 .q 2 .ld [.r 1] none <|
 .out [(0, .s 0), (1, .s 1), (2, .s 2), (7, .s 7), (8, .s 8), (9, .s 27), (10, .r 2), (25, .s 25), (26, .s 26), (27, .s 27)]
def e316r6 : EE := .q 1 .len [.s 10] none <|
 .out [(0, .s 0), (1, .s 1), (2, .s 2), (7, .s 7), (8, .s 8), (9, .s 9), (25, .s 25), (26, .s 26), (27, .s 27), (32, .s 10), (33, .r 1), (34, .c z)]
def e316r7 : EE := .q 0 .lss [.s 34, .s 33] none <|
 .out [(0, .s 0), (1, .s 1), (2, .s 2), (7, .s 7), (8, .s 8), (9, .s 9), (25, .s 25), (26, .s 26), (27, .s 27), (32, .s 32), (33, .s 33), (34, .s 34), (35, .r 0)]
def e316r8 : EE := .q 0 (.ixs 1) [.s 32, .s 34] none <|
 .q 1 .ld [.r 0] none <|
 .out [(0, .s 0), (1, .s 1), (2, .s 2), (7, .s 7), (8, .s 8), (9, .s 9), (12, .r 1), (25, .s 25), (26, .s 26), (27, .s 27), (32, .s 32), (33, .s 33), (34, .s 34)]
def e316r9 : EE := .q 1 .geq [.s 12, .c z] none <|
 .q 3 .mv [.s 12] (some (.r 1, true)) <|
 .q 4 .mv [.s 0] (some (.r 1, true)) <|
 .q 5 .len [.r 4] (some (.r 1, true)) <|
 .q 6 .lss [.r 3, .r 5] (some (.r 1, true)) <|
 .q 7 .pick [.r 1, .r 6, .c (.bool false)] none <|
 .q 9 .mv [.s 1] (some (.r 7, true)) <|
 .q 10 .mv [.s 12] (some (.r 7, true)) <|
 .q 11 (.ixs 1) [.r 9, .r 10] (some (.r 7, true)) <|
 .q 12 .ld [.r 11] (some (.r 7, true)) <|
 .q 13 .mv [.s 1] (some (.r 7, true)) <|
 .q 14 .mv [.s 9] (some (.r 7, true)) <|
 .q 15 (.ixs 1) [.r 13, .r 14] (some (.r 7, true)) <|
 .q 16 .ld [.r 15] (some (.r 7, true)) <|
 .q 17 .neq [.r 12, .r 16] (some (.r 7, true)) <|
 .q 18 .pick [.r 7, .r 17, .c (.bool false)] none <|
 .out [(0, .s 0), (1, .s 1), (2, .s 2), (7, .s 7), (8, .s 8), (9, .s 9), (12, .s 12), (25, .s 25), (26, .s 26), (27, .s 27), (32, .s 32), (33, .s 33), (34, .s 34), (56, .r 18)]
def e316r10 : EE := .q 3 (.ixs 1) [.s 1, .s 9] none <|
 .q 4 .ld [.r 3] none <|
 .q 5 (.ixs 1) [.s 7, .r 4] none <|
 .q 6 .ld [.r 5] none <|
 .q 7 .add [.r 6, .c (.int .i64 1)] none <|
 .q 8 (.ixs 1) [.s 7, .r 4] none <|
 .x 9 (.st 1) [.r 8, .r 7] none [] <|
 .out [(0, .s 0), (1, .s 1), (2, .s 2), (7, .s 7), (8, .s 8), (9, .s 9), (12, .s 12), (25, .s 25), (26, .s 26), (27, .s 27), (32, .s 32), (33, .s 33), (34, .s 34)]
def e316r11 : EE := .q 3 (.ixs 1) [.s 1, .s 12] none <|
 .q 4 .ld [.r 3] none <|
 .q 8 (.ixs 1) [.s 1, .s 12] none <|
 .q 9 .ld [.r 8] none <|
 .q 10 (.ixs 1) [.s 8, .r 9] none <|
 .q 11 .ld [.r 10] none <|
 .q 14 (.ixs 1) [.s 1, .s 9] none <|
 .q 15 .ld [.r 14] none <|
 .x 16 (.bsl 3 1 [z] [(0, 1)]) [.r 15] none [⟨4, .ld, [.r 3], none⟩, ⟨9, .ld, [.r 8], none⟩, ⟨11, .ld, [.r 10], none⟩] <|
 .x 17 (.app 3 1 8 [z]) [.r 11, .r 16] none [⟨4, .ld, [.r 3], none⟩] <|
 .q 18 (.ixs 1) [.s 8, .r 4] none <|
 .x 19 (.st 1) [.r 18, .r 17] none [] <|
 .out [(0, .s 0), (1, .s 1), (2, .s 2), (7, .s 7), (8, .s 8), (9, .s 9), (25, .s 25), (26, .s 26), (27, .s 27), (32, .s 32), (33, .s 33), (34, .s 34)]
def e316r12 : EE := .q 0 .add [.s 34, .c (.int .i64 1)] none <|
 .out [(0, .s 0), (1, .s 1), (2, .s 2), (7, .s 7), (8, .s 8), (9, .s 9), (25, .s 25), (26, .s 26), (27, .s 27), (32, .s 32), (33, .s 33), (34, .r 0)]
def e316l13 : EC := (.seq (.reg e316r7 [0, 1, 2, 7, 8, 9, 25, 26, 27, 32, 33, 34] 0) (.seq (.cond (.s 35) .skip (.exit 2)) (.seq (.block 3 (.seq (.reg e316r8 [0, 1, 2, 7, 8, 9, 25, 26, 27, 32, 33, 34] 0) (.seq (.reg e316r9 [0, 1, 2, 7, 8, 9, 12, 25, 26, 27, 32, 33, 34] 0) (.cond (.s 56) (.seq (.reg e316r10 [0, 1, 2, 7, 8, 9, 12, 25, 26, 27, 32, 33, 34] 0) (.reg e316r11 [0, 1, 2, 7, 8, 9, 12, 25, 26, 27, 32, 33, 34] 0)) .skip)))) (.reg e316r12 [0, 1, 2, 7, 8, 9, 25, 26, 27, 32, 33, 34] 0))))
def e316r14 : EE := .q 0 .add [.s 27, .c (.int .i64 1)] none <|
 .out [(0, .s 0), (1, .s 1), (2, .s 2), (7, .s 7), (8, .s 8), (25, .s 25), (26, .s 26), (27, .r 0)]
def e316l15 : EC := (.seq (.reg e316r4 [0, 1, 2, 7, 8, 25, 26, 27] 0) (.seq (.cond (.s 28) .skip (.exit 0)) (.seq (.block 1 (.seq (.reg e316r5 [0, 1, 2, 7, 8, 25, 26, 27] 0) (.seq (.reg e316r6 [0, 1, 2, 7, 8, 9, 10, 25, 26, 27] 0) (.block 2 (.loop [0, 1, 2, 7, 8, 9, 25, 26, 27, 32, 33, 34] e316l13))))) (.reg e316r14 [0, 1, 2, 7, 8, 25, 26, 27] 0))))
def e316r16 : EE := .q 1 .len [.s 2] none <|
 .x 2 (.mks 3 8 [z]) [.r 1, .r 1] none [] <|
 .out [(2, .s 2), (7, .s 7), (8, .s 8), (13, .r 2)]
def e316r17 : EE := .out [(2, .s 2), (7, .s 7), (8, .s 8), (13, .s 13), (14, .c .nsl)]
def e316r18 : EE := .q 1 .len [.s 14] none <|
 .q 3 .len [.s 2] none <|
 .q 4 .lss [.r 1, .r 3] none <|
 .out [(2, .s 2), (7, .s 7), (8, .s 8), (13, .s 13), (14, .s 14), (94, .r 4)]
def e316r19 : EE := .out [(2, .s 2), (7, .s 7), (8, .s 8), (13, .s 13), (14, .s 14), (15, .c (.int .i64 (-1)))]
def e316r20 : EE := .q 1 .len [.s 2] none <|
 .out [(2, .s 2), (7, .s 7), (8, .s 8), (13, .s 13), (14, .s 14), (15, .s 15), (96, .r 1), (97, .c z)]
def e316r21 : EE := .q 0 .lss [.s 97, .s 96] none <|
 .out [(2, .s 2), (7, .s 7), (8, .s 8), (13, .s 13), (14, .s 14), (15, .s 15), (96, .s 96), (97, .s 97), (98, .r 0)]
def e316r22 : EE := .out [(2, .s 2), (7, .s 7), (8, .s 8), (13, .s 13), (14, .s 14), (15, .s 15), (16, .s 97), (96, .s 96), (97, .s 97)]
def e316r23 : EE := .q 2 (.ixs 1) [.s 13, .s 16] none <|
 .q 3 .ld [.r 2] none <|
 .q 4 .eql [.r 3, .c z] none <|
 .q 6 .mv [.s 7] (some (.r 4, true)) <|
 .q 7 .mv [.s 16] (some (.r 4, true)) <|
 .q 8 (.ixs 1) [.r 6, .r 7] (some (.r 4, true)) <|
 .q 9 .ld [.r 8] (some (.r 4, true)) <|
 .q 10 .eql [.r 9, .c z] (some (.r 4, true)) <|
 .q 11 .pick [.r 4, .r 10, .c (.bool false)] none <|
 .q 13 .mv [.s 15] (some (.r 11, true)) <|
 .q 14 .lss [.r 13, .c z] (some (.r 11, true)) <|
 .q 15 .mv [.r 14] (some (.r 11, true)) <|
 .q 16 .mv [.s 2] (some (.r 15, false)) <|
 .q 17 .mv [.s 16] (some (.r 15, false)) <|
 .q 18 (.ixs 1) [.r 16, .r 17] (some (.r 15, false)) <|
 .q 19 .ld [.r 18] (some (.r 15, false)) <|
 .q 20 (.ixs 1) [.r 19, .c z] (some (.r 15, false)) <|
 .q 21 .ld [.r 20] (some (.r 15, false)) <|
 .q 22 .mv [.s 2] (some (.r 15, false)) <|
 .q 23 .mv [.s 15] (some (.r 15, false)) <|
 .q 24 (.ixs 1) [.r 22, .r 23] (some (.r 15, false)) <|
 .q 25 .ld [.r 24] (some (.r 15, false)) <|
 .q 26 (.ixs 1) [.r 25, .c z] (some (.r 15, false)) <|
 .q 27 .ld [.r 26] (some (.r 15, false)) <|
 .q 28 .lss [.r 21, .r 27] (some (.r 15, false)) <|
 .q 29 .pick [.r 15, .c (.bool true), .r 28] (some (.r 11, true)) <|
 .q 30 .pick [.r 11, .r 29, .c (.bool false)] none <|
 .out [(2, .s 2), (7, .s 7), (8, .s 8), (13, .s 13), (14, .s 14), (15, .s 15), (16, .s 16), (96, .s 96), (97, .s 97), (130, .r 30)]
def e316r24 : EE := .out [(2, .s 2), (7, .s 7), (8, .s 8), (13, .s 13), (14, .s 14), (15, .s 16), (96, .s 96), (97, .s 97)]
def e316r25 : EE := .q 0 .add [.s 97, .c (.int .i64 1)] none <|
 .out [(2, .s 2), (7, .s 7), (8, .s 8), (13, .s 13), (14, .s 14), (15, .s 15), (96, .s 96), (97, .r 0)]
def e316l26 : EC := (.seq (.reg e316r21 [2, 7, 8, 13, 14, 15, 96, 97] 0) (.seq (.cond (.s 98) .skip (.exit 6)) (.seq (.block 7 (.seq (.reg e316r22 [2, 7, 8, 13, 14, 15, 96, 97] 0) (.seq (.reg e316r23 [2, 7, 8, 13, 14, 15, 16, 96, 97] 0) (.cond (.s 130) (.reg e316r24 [2, 7, 8, 13, 14, 16, 96, 97] 0) .skip)))) (.reg e316r25 [2, 7, 8, 13, 14, 15, 96, 97] 0))))
def e316r27 : EE := .q 2 (.ixs 1) [.s 13, .s 15] none <|
 .x 3 (.st 1) [.r 2, .c (.int .i64 1)] none [] <|
 .out [(2, .s 2), (7, .s 7), (8, .s 8), (13, .s 13), (14, .s 14), (15, .s 15)]
def e316r28 : EE := .q 3 (.ixs 1) [.s 2, .s 15] none <|
 .q 4 .ld [.r 3] none <|
 .x 5 (.bsl 27 1 [.nsl] [(0, 1)]) [.r 4] none [] <|
 .x 6 (.app 27 1 24 [.nsl]) [.s 14, .r 5] none [] <|
 .out [(2, .s 2), (7, .s 7), (8, .s 8), (13, .s 13), (14, .r 6), (15, .s 15)]
def e316r29 : EE := .q 2 (.ixs 1) [.s 8, .s 15] none <|
 .q 3 .ld [.r 2] none <|
 .q 4 .len [.r 3] none <|
 .out [(2, .s 2), (7, .s 7), (8, .s 8), (13, .s 13), (14, .s 14), (146, .r 3), (147, .r 4), (148, .c z)]
def e316r30 : EE := .q 0 .lss [.s 148, .s 147] none <|
 .out [(2, .s 2), (7, .s 7), (8, .s 8), (13, .s 13), (14, .s 14), (146, .s 146), (147, .s 147), (148, .s 148), (149, .r 0)]
def e316r31 : EE := .q 0 (.ixs 1) [.s 146, .s 148] none <|
 .q 1 .ld [.r 0] none <|
 .out [(2, .s 2), (7, .s 7), (8, .s 8), (13, .s 13), (14, .s 14), (18, .r 1), (146, .s 146), (147, .s 147), (148, .s 148)]
def e316r32 : EE := .q 2 (.ixs 1) [.s 7, .s 18] none <|
 .q 3 .ld [.r 2] none <|
 .q 4 .sub [.r 3, .c (.int .i64 1)] none <|
 .q 5 (.ixs 1) [.s 7, .s 18] none <|
 .x 6 (.st 1) [.r 5, .r 4] none [] <|
 .out [(2, .s 2), (7, .s 7), (8, .s 8), (13, .s 13), (14, .s 14), (146, .s 146), (147, .s 147), (148, .s 148)]
def e316r33 : EE := .q 0 .add [.s 148, .c (.int .i64 1)] none <|
 .out [(2, .s 2), (7, .s 7), (8, .s 8), (13, .s 13), (14, .s 14), (146, .s 146), (147, .s 147), (148, .r 0)]
def e316l34 : EC := (.seq (.reg e316r30 [2, 7, 8, 13, 14, 146, 147, 148] 0) (.seq (.cond (.s 149) .skip (.exit 8)) (.seq (.block 9 (.seq (.reg e316r31 [2, 7, 8, 13, 14, 146, 147, 148] 0) (.reg e316r32 [2, 7, 8, 13, 14, 18, 146, 147, 148] 0))) (.reg e316r33 [2, 7, 8, 13, 14, 146, 147, 148] 0))))
def e316l35 : EC := (.seq (.seq (.reg e316r18 [2, 7, 8, 13, 14] 0) (.cond (.s 94) .skip (.exit 4))) (.block 5 (.seq (.reg e316r19 [2, 7, 8, 13, 14] 0) (.seq (.seq (.reg e316r20 [2, 7, 8, 13, 14, 15] 0) (.block 6 (.loop [2, 7, 8, 13, 14, 15, 96, 97] e316l26))) (.seq (.reg e316r27 [2, 7, 8, 13, 14, 15] 0) (.seq (.reg e316r28 [2, 7, 8, 13, 14, 15] 0) (.seq (.reg e316r29 [2, 7, 8, 13, 14, 15] 0) (.block 8 (.loop [2, 7, 8, 13, 14, 146, 147, 148] e316l34)))))))))
def e316r36 : EE := .out [(6, .s 14)]
def e316 : EFn := ⟨(.seq (.reg e316r0 [0, 1, 2] 0) (.seq (.reg e316r1 [0, 1, 2] 0) (.seq (.reg e316r2 [0, 1, 2, 7] 0) (.seq (.seq (.reg e316r3 [0, 1, 2, 7, 8] 0) (.block 0 (.loop [0, 1, 2, 7, 8, 25, 26, 27] e316l15))) (.seq (.reg e316r16 [2, 7, 8] 0) (.seq (.reg e316r17 [2, 7, 8, 13] 0) (.seq (.block 4 (.loop [2, 7, 8, 13, 14] e316l35)) (.seq (.reg e316r36 [14] 0) .ret)))))))), [.slot 6], 160, 0⟩
theorem g316 : Good Tryz.prog 316 e316 := ⟨Tryz.f316, Tryz.func316, by kernel_rfl, by kernel_rfl, by kernel_rfl, by kernel_rfl⟩
/-! slices.stableCmpFunc[int] -/
def e318r0 : EE := .out [(0, .s 0), (1, .s 1), (2, .s 2), (6, .c (.int .i64 20))]
def e318r1 : EE := .out [(0, .s 0), (1, .s 1), (2, .s 2), (6, .s 6), (7, .c z), (8, .s 6)]
def e318r2 : EE := .q 2 .leq [.s 8, .s 1] none <|
 .out [(0, .s 0), (1, .s 1), (2, .s 2), (6, .s 6), (7, .s 7), (8, .s 8), (13, .r 2)]
def e318r3 : EE := .x 4 (.call 335) [.s 0, .s 7, .s 8, .s 2] none [] <|
 .out [(0, .s 0), (1, .s 1), (2, .s 2), (6, .s 6), (8, .s 8)]
def e318r4 : EE := .out [(0, .s 0), (1, .s 1), (2, .s 2), (6, .s 6), (7, .s 8), (8, .s 8)]
def e318r5 : EE := .q 2 .add [.s 8, .s 6] none <|
 .out [(0, .s 0), (1, .s 1), (2, .s 2), (6, .s 6), (7, .s 7), (8, .r 2)]
def e318l6 : EC := (.seq (.seq (.reg e318r2 [0, 1, 2, 6, 7, 8] 0) (.cond (.s 13) .skip (.exit 0))) (.block 1 (.seq (.reg e318r3 [0, 1, 2, 6, 7, 8] 0) (.seq (.reg e318r4 [0, 1, 2, 6, 8] 0) (.reg e318r5 [0, 1, 2, 6, 7, 8] 0)))))
def e318r7 : EE := .x 4 (.call 335) [.s 0, .s 7, .s 1, .s 2] none [] <|
 .out [(0, .s 0), (1, .s 1), (2, .s 2), (6, .s 6)]
def e318r8 : EE := .q 2 .lss [.s 6, .s 1] none <|
 .out [(0, .s 0), (1, .s 1), (2, .s 2), (6, .s 6), (30, .r 2)]
def e318r9 : EE := .q 1 .mul [.c (.int .i64 2), .s 6] none <|
 .out [(0, .s 0), (1, .s 1), (2, .s 2), (6, .s 6), (7, .c z), (8, .r 1)]
def e318r10 : EE := .q 2 .leq [.s 8, .s 1] none <|
 .out [(0, .s 0), (1, .s 1), (2, .s 2), (6, .s 6), (7, .s 7), (8, .s 8), (35, .r 2)]
def e318r11 : EE := .q 4 .add [.s 7, .s 6] none <|
 .x 7 (.call 336) [.s 0, .s 7, .r 4, .s 8, .s 2] none [] <|
 .out [(0, .s 0), (1, .s 1), (2, .s 2), (6, .s 6), (8, .s 8)]
def e318r12 : EE := .out [(0, .s 0), (1, .s 1), (2, .s 2), (6, .s 6), (7, .s 8), (8, .s 8)]
def e318r13 : EE := .q 2 .mul [.c (.int .i64 2), .s 6] none <|
 .q 3 .add [.s 8, .r 2] none <|
 .out [(0, .s 0), (1, .s 1), (2, .s 2), (6, .s 6), (7, .s 7), (8, .r 3)]
def e318l14 : EC := (.seq (.seq (.reg e318r10 [0, 1, 2, 6, 7, 8] 0) (.cond (.s 35) .skip (.exit 4))) (.block 5 (.seq (.reg e318r11 [0, 1, 2, 6, 7, 8] 0) (.seq (.reg e318r12 [0, 1, 2, 6, 8] 0) (.reg e318r13 [0, 1, 2, 6, 7, 8] 0)))))
def e318r15 : EE := .q 2 .add [.s 7, .s 6] none <|
 .out [(0, .s 0), (1, .s 1), (2, .s 2), (6, .s 6), (7, .s 7), (9, .r 2)]
def e318r16 : EE := .q 2 .lss [.s 9, .s 1] none <|
 .out [(0, .s 0), (1, .s 1), (2, .s 2), (6, .s 6), (7, .s 7), (9, .s 9), (54, .r 2)]
def e318r17 : EE := .x 5 (.call 336) [.s 0, .s 7, .s 9, .s 1, .s 2] none [] <|
 .out [(0, .s 0), (1, .s 1), (2, .s 2), (6, .s 6)]
def e318r18 : EE := .q 1 .mul [.s 6, .c (.int .i64 2)] none <|
 .out [(0, .s 0), (1, .s 1), (2, .s 2), (6, .r 1)]
def e318l19 : EC := (.seq (.seq (.reg e318r8 [0, 1, 2, 6] 0) (.cond (.s 30) .skip (.exit 2))) (.block 3 (.seq (.reg e318r9 [0, 1, 2, 6] 0) (.seq (.block 4 (.loop [0, 1, 2, 6, 7, 8] e318l14)) (.seq (.seq (.reg e318r15 [0, 1, 2, 6, 7] 0) (.seq (.reg e318r16 [0, 1, 2, 6, 7, 9] 0) (.cond (.s 54) (.reg e318r17 [0, 1, 2, 6, 7, 9] 0) .skip))) (.reg e318r18 [0, 1, 2, 6] 0))))))
def e318 : EFn := ⟨(.seq (.reg e318r0 [0, 1, 2] 0) (.seq (.reg e318r1 [0, 1, 2, 6] 0) (.seq (.block 0 (.loop [0, 1, 2, 6, 7, 8] e318l6)) (.seq (.reg e318r7 [0, 1, 2, 6, 7] 0) (.block 2 (.loop [0, 1, 2, 6] e318l19)))))), [], 63, 0⟩
theorem g318 : Good Tryz.prog 318 e318 := ⟨Tryz.f318, Tryz.func318, by kernel_rfl, by kernel_rfl, by kernel_rfl, by kernel_rfl⟩
/-! (*concord/graph.walk).come -/
def e333r0 : EE := .x 0 (.alc [z, z] 436) [] none [] <|
 .out [(0, .s 0), (1, .s 1), (4, .r 0)]
def e333r1 : EE := .q 1 .nl [.s 0] none <|
 .q 2 (.fld 7) [.r 1] none <|
 .q 3 .ld [.r 2] none <|
 .q 4 .add [.r 3, .c (.int .i64 1)] none <|
 .q 5 .nl [.s 0] none <|
 .q 6 (.fld 7) [.r 5] none <|
 .x 7 (.st 1) [.r 6, .r 4] none [] <|
 .out [(0, .s 0), (1, .s 1), (4, .s 4)]
def e333r2 : EE := .q 1 .nl [.s 0] none <|
 .q 2 (.fld 1) [.r 1] none <|
 .q 3 .ld [.r 2] none <|
 .q 6 .nl [.s 0] none <|
 .q 7 (.fld 2) [.r 6] none <|
 .q 8 .ld [.r 7] none <|
 .q 11 .nl [.s 0] none <|
 .q 12 (.fld 3) [.r 11] none <|
 .q 13 .ld [.r 12] none <|
 .q 16 .nl [.s 0] none <|
 .q 17 (.fld 7) [.r 16] none <|
 .q 18 .ld [.r 17] none <|
 .q 20 .nl [.s 0] none <|
 .q 21 (.fld 7) [.r 20] none <|
 .q 22 .ld [.r 21] none <|
 .q 23 (.ixs 1) [.r 3, .s 1] none <|
 .x 24 (.st 1) [.r 23, .r 18] none [] <|
 .q 25 (.ixs 1) [.r 8, .s 1] none <|
 .x 26 (.st 1) [.r 25, .r 22] none [] <|
 .q 27 (.ixs 1) [.r 13, .s 1] none <|
 .x 28 (.st 1) [.r 27, .c (.bool true)] none [] <|
 .out [(0, .s 0), (1, .s 1), (4, .s 4)]
def e333r3 : EE := .q 2 .nl [.s 0] none <|
 .q 3 (.fld 4) [.r 2] none <|
 .q 4 .ld [.r 3] none <|
 .x 6 (.bsl 3 1 [z] [(0, 1)]) [.s 1] none [] <|
 .x 7 (.app 3 1 8 [z]) [.r 4, .r 6] none [] <|
 .q 8 .nl [.s 0] none <|
 .q 9 (.fld 4) [.r 8] none <|
 .x 10 (.st 1) [.r 9, .r 7] none [] <|
 .out [(1, .s 1), (4, .s 4)]
def e333r4 : EE := .q 1 (.bld [z, z] [(0, 1), (1, 1)]) [.s 1, .c z] none <|
 .x 2 (.st 2) [.s 4, .r 1] none [] <|
 .out [(4, .s 4)]
def e333 : EFn := ⟨(.seq (.reg e333r0 [0, 1] 0) (.seq (.reg e333r1 [0, 1, 4] 0) (.seq (.reg e333r2 [0, 1, 4] 0) (.seq (.reg e333r3 [0, 1, 4] 0) (.seq (.reg e333r4 [1, 4] 0) .ret))))), [.cells 4 2], 50, 0⟩
theorem g333 : Good Tryz.prog 333 e333 := ⟨Tryz.f333, Tryz.func333, by kernel_rfl, by kernel_rfl, by kernel_rfl, by kernel_rfl⟩
/-! (*concord/graph.walk).leave -/
def e334r0 : EE := .q 1 .nl [.s 0] none <|
 .q 2 (.fld 2) [.r 1] none <|
 .q 3 .ld [.r 2] none <|
 .q 5 (.ixs 1) [.r 3, .s 1] none <|
 .q 6 .ld [.r 5] none <|
 .q 8 .nl [.s 0] none <|
 .q 9 (.fld 1) [.r 8] none <|
 .q 10 .ld [.r 9] none <|
 .q 12 (.ixs 1) [.r 10, .s 1] none <|
 .q 13 .ld [.r 12] none <|
 .q 14 .neq [.r 6, .r 13] none <|
 .out [(0, .s 0), (1, .s 1), (19, .r 14)]
def e334r1 : EE := .q 1 .nl [.s 0] none <|
 .q 2 (.fld 4) [.r 1] none <|
 .q 3 .ld [.r 2] none <|
 .q 5 .nl [.s 0] none <|
 .q 6 (.fld 4) [.r 5] none <|
 .q 7 .ld [.r 6] none <|
 .q 8 .len [.r 7] none <|
 .q 9 .sub [.r 8, .c (.int .i64 1)] none <|
 .q 10 (.ixs 1) [.r 3, .r 9] none <|
 .q 11 .ld [.r 10] none <|
 .out [(0, .s 0), (1, .s 1), (4, .r 11)]
def e334r2 : EE := .q 2 .nl [.s 0] none <|
 .q 3 (.fld 4) [.r 2] none <|
 .q 4 .ld [.r 3] none <|
 .q 6 .nl [.s 0] none <|
 .q 7 (.fld 4) [.r 6] none <|
 .q 8 .ld [.r 7] none <|
 .q 9 .len [.r 8] none <|
 .q 10 .sub [.r 9, .c (.int .i64 1)] none <|
 .q 11 (.slc 1 false true) [.r 4, .r 10] none <|
 .q 12 .nl [.s 0] none <|
 .q 13 (.fld 4) [.r 12] none <|
 .x 14 (.st 1) [.r 13, .r 11] none [] <|
 .out [(0, .s 0), (1, .s 1), (4, .s 4)]
def e334r3 : EE := .q 1 .nl [.s 0] none <|
 .q 2 (.fld 3) [.r 1] none <|
 .q 3 .ld [.r 2] none <|
 .q 6 .nl [.s 0] none <|
 .q 7 (.fld 5) [.r 6] none <|
 .q 8 .ld [.r 7] none <|
 .q 11 .nl [.s 0] none <|
 .q 12 (.fld 6) [.r 11] none <|
 .q 13 .ld [.r 12] none <|
 .q 14 (.ixs 1) [.r 3, .s 4] none <|
 .x 15 (.st 1) [.r 14, .c (.bool false)] none [] <|
 .q 16 (.ixs 1) [.r 8, .s 4] none <|
 .x 17 (.st 1) [.r 16, .r 13] none [] <|
 .out [(0, .s 0), (1, .s 1), (4, .s 4)]
def e334r4 : EE := .q 2 .eql [.s 4, .s 1] none <|
 .out [(0, .s 0), (1, .s 1), (64, .r 2)]
def e334l5 : EC := (.block 1 (.seq (.reg e334r1 [0, 1] 0) (.seq (.reg e334r2 [0, 1, 4] 0) (.seq (.reg e334r3 [0, 1, 4] 0) (.seq (.reg e334r4 [0, 1, 4] 0) (.cond (.s 64) (.exit 0) .skip))))))
def e334r6 : EE := .q 1 .nl [.s 0] none <|
 .q 2 (.fld 6) [.r 1] none <|
 .q 3 .ld [.r 2] none <|
 .q 4 .add [.r 3, .c (.int .i64 1)] none <|
 .q 5 .nl [.s 0] none <|
 .q 6 (.fld 6) [.r 5] none <|
 .x 7 (.st 1) [.r 6, .r 4] none [] <|
 .out []
def e334 : EFn := ⟨(.seq (.seq (.reg e334r0 [0, 1] 0) (.cond (.s 19) .ret .skip)) (.seq (.block 0 (.loop [0, 1] e334l5)) (.reg e334r6 [0] 0))), [], 72, 0⟩
theorem g334 : Good Tryz.prog 334 e334 := ⟨Tryz.f334, Tryz.func334, by kernel_rfl, by kernel_rfl, by kernel_rfl, by kernel_rfl⟩
/-! slices.insertionSortCmpFunc[int] -/
def e335r0 : EE := .q 1 .add [.s 1, .c (.int .i64 1)] none <|
 .out [(0, .s 0), (1, .s 1), (2, .s 2), (3, .s 3), (8, .r 1)]
def e335r1 : EE := .q 2 .lss [.s 8, .s 2] none <|
 .out [(0, .s 0), (1, .s 1), (2, .s 2), (3, .s 3), (8, .s 8), (14, .r 2)]
def e335r2 : EE := .out [(0, .s 0), (1, .s 1), (2, .s 2), (3, .s 3), (8, .s 8), (9, .s 8)]
def e335r3 : EE := .q 2 .gtr [.s 9, .s 1] none <|
 .q 4 .mv [.s 3] (some (.r 2, true)) <|
 .q 5 .mv [.s 0] (some (.r 2, true)) <|
 .q 6 .mv [.s 9] (some (.r 2, true)) <|
 .q 7 (.ixs 1) [.r 5, .r 6] (some (.r 2, true)) <|
 .q 8 .ld [.r 7] (some (.r 2, true)) <|
 .q 9 .mv [.s 0] (some (.r 2, true)) <|
 .q 10 .mv [.s 9] (some (.r 2, true)) <|
 .q 11 .sub [.r 10, .c (.int .i64 1)] (some (.r 2, true)) <|
 .q 12 (.ixs 1) [.r 9, .r 11] (some (.r 2, true)) <|
 .q 13 .ld [.r 12] (some (.r 2, true)) <|
 .x 14 .callv [.r 4, .r 8, .r 13] (some (.r 2, true)) [] <|
 .q 15 .lss [.r 14, .c z] (some (.r 2, true)) <|
 .q 16 .pick [.r 2, .r 15, .c (.bool false)] none <|
 .out [(0, .s 0), (1, .s 1), (2, .s 2), (3, .s 3), (8, .s 8), (9, .s 9), (34, .r 16)]
def e335r4 : EE := .q 4 .sub [.s 9, .c (.int .i64 1)] none <|
 .q 7 .sub [.s 9, .c (.int .i64 1)] none <|
 .q 8 (.ixs 1) [.s 0, .r 7] none <|
 .q 9 .ld [.r 8] none <|
 .q 12 (.ixs 1) [.s 0, .s 9] none <|
 .q 13 .ld [.r 12] none <|
 .q 14 (.ixs 1) [.s 0, .s 9] none <|
 .x 15 (.st 1) [.r 14, .r 9] none [] <|
 .q 16 (.ixs 1) [.s 0, .r 4] none <|
 .x 17 (.st 1) [.r 16, .r 13] none [] <|
 .out [(0, .s 0), (1, .s 1), (2, .s 2), (3, .s 3), (8, .s 8), (9, .s 9)]
def e335r5 : EE := .q 1 .sub [.s 9, .c (.int .i64 1)] none <|
 .out [(0, .s 0), (1, .s 1), (2, .s 2), (3, .s 3), (8, .s 8), (9, .r 1)]
def e335l6 : EC := (.seq (.seq (.reg e335r3 [0, 1, 2, 3, 8, 9] 0) (.cond (.s 34) .skip (.exit 2))) (.seq (.block 3 (.reg e335r4 [0, 1, 2, 3, 8, 9] 0)) (.reg e335r5 [0, 1, 2, 3, 8, 9] 0)))
def e335r7 : EE := .q 1 .add [.s 8, .c (.int .i64 1)] none <|
 .out [(0, .s 0), (1, .s 1), (2, .s 2), (3, .s 3), (8, .r 1)]
def e335l8 : EC := (.seq (.seq (.reg e335r1 [0, 1, 2, 3, 8] 0) (.cond (.s 14) .skip (.exit 0))) (.seq (.block 1 (.seq (.reg e335r2 [0, 1, 2, 3, 8] 0) (.block 2 (.loop [0, 1, 2, 3, 8, 9] e335l6)))) (.reg e335r7 [0, 1, 2, 3, 8] 0)))
def e335 : EFn := ⟨(.seq (.reg e335r0 [0, 1, 2, 3] 0) (.block 0 (.loop [0, 1, 2, 3, 8] e335l8))), [], 53, 0⟩
theorem g335 : Good Tryz.prog 335 e335 := ⟨Tryz.f335, Tryz.func335, by kernel_rfl, by kernel_rfl, by kernel_rfl, by kernel_rfl⟩
end Go.Ev
