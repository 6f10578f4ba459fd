import Derived.Test.YtfihhmbjpmnopaaGreatDoorEvB
import Derived.Test.YtfihhmbjpmnopaaGreatDoorProg
set_option linter.unusedVariables false
set_option linter.unusedSimpArgs false
namespace Go.Ev
open Go.Fw Go.Proofs
/-! concord/log.may -/
def e125r0 : EE := .x 0 (.box 86) [.s 0] none [] <|
 .x 1 (.box 86) [.s 1] none [] <|
 .out [(2, .r 0), (3, .r 1)]
def e125r1 : EE := .q 0 (.fld 0) [.s 2] none <|
 .q 1 .ld [.r 0] none <|
 .q 2 .eql [.r 1, .c (.int .i64 3)] none <|
 .q 4 (.fld 0) [.s 3] (some (.r 2, true)) <|
 .q 5 .ld [.r 4] (some (.r 2, true)) <|
 .q 6 .neq [.r 5, .c (.int .i64 3)] (some (.r 2, true)) <|
 .q 7 .mv [.r 6] (some (.r 2, true)) <|
 .q 8 (.fld 5) [.s 3] (some (.r 7, false)) <|
 .q 9 (.lda 7) [.r 8] (some (.r 7, false)) <|
 .q 10 (.fld 5) [.s 2] (some (.r 7, false)) <|
 .q 11 (.lda 7) [.r 10] (some (.r 7, false)) <|
 .q 12 (.eqc true [(.i .i64), (.i .i64), (.i .i64), .s, .s, .s, .s]) [.r 9, .r 11] (some (.r 7, false)) <|
 .q 13 .pick [.r 7, .c (.bool true), .r 12] (some (.r 2, true)) <|
 .q 14 .mv [.r 13] (some (.r 2, true)) <|
 .q 15 (.fld 12) [.s 3] (some (.r 14, false)) <|
 .q 16 (.lda 8) [.r 15] (some (.r 14, false)) <|
 .q 17 (.fld 12) [.s 2] (some (.r 14, false)) <|
 .q 18 (.lda 8) [.r 17] (some (.r 14, false)) <|
 .q 19 (.eqc true [(.i .i64), (.i .i64), (.i .i64), (.i .i64), (.i .i64), (.i .i64), (.i .i64), (.i .i64)]) [.r 16, .r 18] (some (.r 14, false)) <|
 .q 20 .pick [.r 14, .c (.bool true), .r 19] (some (.r 2, true)) <|
 .q 21 .pick [.r 2, .r 20, .c (.bool false)] none <|
 .out [(2, .s 2), (3, .s 3), (26, .r 21)]
def e125r2 : EE := .out [(4, .c (.bool false))]
def e125r3 : EE := .q 0 (.fld 1) [.s 3] none <|
 .q 1 (.lda 2) [.r 0] none <|
 .q 2 (.fld 1) [.s 2] none <|
 .q 3 (.lda 2) [.r 2] none <|
 .x 4 (.call 172) [.r 1, .r 3] none [] <|
 .q 6 (.fld 3) [.s 3] (some (.r 4, false)) <|
 .q 7 (.lda 2) [.r 6] (some (.r 4, false)) <|
 .q 8 (.fld 3) [.s 2] (some (.r 4, false)) <|
 .q 9 (.lda 2) [.r 8] (some (.r 4, false)) <|
 .x 10 (.call 172) [.r 7, .r 9] (some (.r 4, false)) [] <|
 .q 11 .pick [.r 4, .c (.bool true), .r 10] none <|
 .out [(2, .s 2), (3, .s 3), (38, .r 11)]
def e125r4 : EE := .out [(4, .c (.bool false))]
def e125r5 : EE := .q 0 (.fld 0) [.s 3] none <|
 .q 1 .ld [.r 0] none <|
 .q 2 (.fld 0) [.s 2] none <|
 .q 3 .ld [.r 2] none <|
 .q 4 .geq [.r 1, .r 3] none <|
 .q 6 (.fld 3) [.s 3] (some (.r 4, false)) <|
 .q 7 (.lda 2) [.r 6] (some (.r 4, false)) <|
 .q 8 (.fld 3) [.s 2] (some (.r 4, false)) <|
 .q 9 (.lda 2) [.r 8] (some (.r 4, false)) <|
 .q 10 (.eqc true [(.i .i64), (.i .i64)]) [.r 7, .r 9] (some (.r 4, false)) <|
 .q 11 .pick [.r 4, .c (.bool true), .r 10] none <|
 .out [(4, .r 11)]
def e125 : EFn := ⟨(.seq (.reg e125r0 [0, 1] 0) (.seq (.seq (.reg e125r1 [2, 3] 0) (.cond (.s 26) (.seq (.reg e125r2 [] 0) .ret) .skip)) (.seq (.seq (.reg e125r3 [2, 3] 0) (.cond (.s 38) (.seq (.reg e125r4 [] 0) .ret) .skip)) (.seq (.reg e125r5 [2, 3] 0) .ret)))), [.slot 4], 51, 0⟩
theorem g125 : Good Tryz.prog 125 e125 := ⟨Tryz.f125, Tryz.func125, by kernel_rfl, by kernel_rfl, by kernel_rfl, by kernel_rfl⟩
/-! (*concord/interf.Index).Note -/
def e126r0 : EE := .x 0 (.box 80) [.s 1] none [] <|
 .x 1 (.box 30) [.s 2] none [] <|
 .out [(0, .s 0), (3, .s 3), (5, .r 0), (6, .r 1)]
def e126r1 : EE := .q 0 (.lda 2) [.s 5] none <|
 .x 1 (.call 122) [.r 0] none [] <|
 .q 2 .not [.r 1] none <|
 .q 4 (.fld 1) [.s 5] (some (.r 2, false)) <|
 .q 5 .ld [.r 4] (some (.r 2, false)) <|
 .q 6 .mv [.s 0] (some (.r 2, false)) <|
 .q 7 (.fld 0) [.s 5] (some (.r 2, false)) <|
 .q 8 .ld [.r 7] (some (.r 2, false)) <|
 .q 9 .nl [.r 6] (some (.r 2, false)) <|
 .q 10 (.fld 1) [.r 9] (some (.r 2, false)) <|
 .q 11 (.ixa 7 1) [.r 10, .r 8] (some (.r 2, false)) <|
 .q 12 .ld [.r 11] (some (.r 2, false)) <|
 .q 13 .leq [.r 5, .r 12] (some (.r 2, false)) <|
 .q 14 .pick [.r 2, .c (.bool true), .r 13] none <|
 .q 16 (.lda 7) [.s 6] (some (.r 14, false)) <|
 .x 17 (.call 83) [.r 16] (some (.r 14, false)) [] <|
 .q 18 .not [.r 17] (some (.r 14, false)) <|
 .q 19 .pick [.r 14, .c (.bool true), .r 18] none <|
 .q 21 .mv [.s 3] (some (.r 19, false)) <|
 .q 22 .lss [.r 21, .c z] (some (.r 19, false)) <|
 .q 23 .pick [.r 19, .c (.bool true), .r 22] none <|
 .q 25 .mv [.s 3] (some (.r 23, false)) <|
 .q 26 .gtr [.r 25, .c (.int .i64 1099511627776)] (some (.r 23, false)) <|
 .q 27 .pick [.r 23, .c (.bool true), .r 26] none <|
 .out [(0, .s 0), (3, .s 3), (5, .s 5), (6, .s 6), (36, .r 27)]
def e126r2 : EE := .out [(8, .c (.bool false))]
def e126r3 : EE := .q 1 .nl [.s 0] none <|
 .q 2 (.fld 0) [.r 1] none <|
 .q 3 .ld [.r 2] none <|
 .q 4 (.lda 2) [.s 5] none <|
 .q 5 (.lda 7) [.s 6] none <|
 .q 7 (.bld [z, z, z, zs, zs, zs, zs, z] [(0, 7), (7, 1)]) [.r 5, .s 3] none <|
 .x 8 (.mup true [(.i .i64), (.i .i64)]) [.r 3, .r 4, .r 7] none [] <|
 .out []
def e126r4 : EE := .out [(8, .c (.bool true))]
def e126 : EFn := ⟨(.seq (.reg e126r0 [0, 1, 2, 3] 0) (.seq (.seq (.reg e126r1 [0, 3, 5, 6] 0) (.cond (.s 36) (.seq (.reg e126r2 [] 0) .ret) .skip)) (.seq (.reg e126r3 [0, 3, 5, 6] 0) (.seq (.reg e126r4 [] 0) .ret)))), [.slot 8], 45, 0⟩
theorem g126 : Good Tryz.prog 126 e126 := ⟨Tryz.f126, Tryz.func126, by kernel_rfl, by kernel_rfl, by kernel_rfl, by kernel_rfl⟩
/-! concord/word.Put -/
def e127r0 : EE := .out [(0, .s 0), (1, .s 1), (2, .s 2)]
def e127r1 : EE := .q 1 .len [.s 0] none <|
 .q 2 .add [.r 1, .c (.int .i64 8)] none <|
 .x 3 (.mks 5 1 [(.int .u8 0)]) [.c z, .r 2] none [] <|
 .x 5 (.app 5 1 1 [(.int .u8 0)]) [.r 3, .s 0] none [] <|
 .out [(1, .s 1), (2, .s 2), (7, .r 5)]
def e127r2 : EE := .q 1 .mx [.s 1, .c z] none <|
 .q 2 .mn [.r 1, .c (.int .i64 8)] none <|
 .out [(2, .s 2), (7, .s 7), (16, .r 2), (17, .c z)]
def e127r3 : EE := .q 0 .lss [.s 17, .s 16] none <|
 .out [(2, .s 2), (7, .s 7), (16, .s 16), (17, .s 17), (18, .r 0)]
def e127r4 : EE := .q 2 (.conv .u8) [.s 2] none <|
 .x 3 (.bsl 5 1 [(.int .u8 0)] [(0, 1)]) [.r 2] none [] <|
 .x 4 (.app 5 1 1 [(.int .u8 0)]) [.s 7, .r 3] none [] <|
 .out [(2, .s 2), (7, .r 4), (16, .s 16), (17, .s 17)]
def e127r5 : EE := .q 1 .shr [.s 2, .c (.int .u64 8)] none <|
 .out [(2, .r 1), (7, .s 7), (16, .s 16), (17, .s 17)]
def e127r6 : EE := .q 0 .add [.s 17, .c (.int .i64 1)] none <|
 .out [(2, .s 2), (7, .s 7), (16, .s 16), (17, .r 0)]
def e127l7 : EC := (.seq (.reg e127r3 [2, 7, 16, 17] 0) (.seq (.cond (.s 18) .skip (.exit 0)) (.seq (.block 1 (.seq (.reg e127r4 [2, 7, 16, 17] 0) (.reg e127r5 [2, 7, 16, 17] 0))) (.reg e127r6 [2, 7, 16, 17] 0))))
def e127r8 : EE := .out [(6, .s 7)]
def e127 : EFn := ⟨(.seq (.reg e127r0 [0, 1, 2] 0) (.seq (.reg e127r1 [0, 1, 2] 0) (.seq (.seq (.reg e127r2 [1, 2, 7] 0) (.block 0 (.loop [2, 7, 16, 17] e127l7))) (.seq (.reg e127r8 [7] 0) .ret)))), [.slot 6], 28, 0⟩
theorem g127 : Good Tryz.prog 127 e127 := ⟨Tryz.f127, Tryz.func127, by kernel_rfl, by kernel_rfl, by kernel_rfl, by kernel_rfl⟩
/-! concord/pack.num -/
def e128r0 : EE := .out [(0, .s 0), (1, .s 1)]
def e128r1 : EE := .x 1 (.call 189) [.s 1] none [] <|
 .out [(0, .s 0), (5, .r 1)]
def e128r2 : EE := .q 1 .geq [.s 5, .c (.int .u64 128)] none <|
 .out [(0, .s 0), (5, .s 5), (9, .r 1)]
def e128r3 : EE := .q 2 (.conv .u8) [.s 5] none <|
 .q 3 .or [.r 2, .c (.int .u8 128)] none <|
 .x 4 (.bsl 5 1 [(.int .u8 0)] [(0, 1)]) [.r 3] none [] <|
 .x 5 (.app 5 1 1 [(.int .u8 0)]) [.s 0, .r 4] none [] <|
 .out [(0, .r 5), (5, .s 5)]
def e128r4 : EE := .q 1 .shr [.s 5, .c (.int .u64 7)] none <|
 .out [(0, .s 0), (5, .r 1)]
def e128l5 : EC := (.seq (.seq (.reg e128r2 [0, 5] 0) (.cond (.s 9) .skip (.exit 0))) (.block 1 (.seq (.reg e128r3 [0, 5] 0) (.reg e128r4 [0, 5] 0))))
def e128r6 : EE := .q 2 (.conv .u8) [.s 5] none <|
 .x 3 (.bsl 5 1 [(.int .u8 0)] [(0, 1)]) [.r 2] none [] <|
 .x 4 (.app 5 1 1 [(.int .u8 0)]) [.s 0, .r 3] none [] <|
 .out [(4, .r 4)]
def e128 : EFn := ⟨(.seq (.reg e128r0 [0, 1] 0) (.seq (.reg e128r1 [0, 1] 0) (.seq (.block 0 (.loop [0, 5] e128l5)) (.seq (.reg e128r6 [0, 5] 0) .ret)))), [.slot 4], 23, 0⟩
theorem g128 : Good Tryz.prog 128 e128 := ⟨Tryz.f128, Tryz.func128, by kernel_rfl, by kernel_rfl, by kernel_rfl, by kernel_rfl⟩
/-! (*concord/disk.Disk).Append -/
def e129r0 : EE := .out [(0, .s 0), (1, .s 1), (2, .s 2)]
def e129r1 : EE := .q 1 .nl [.s 0] none <|
 .q 2 (.fld 2) [.r 1] none <|
 .q 3 .ld [.r 2] none <|
 .out [(0, .s 0), (1, .s 1), (2, .s 2), (10, .r 3)]
def e129r2 : EE := .out [(6, .c (.int .i64 10))]
def e129r3 : EE := .x 1 (.call 190) [.s 1] none [] <|
 .q 2 .not [.r 1] none <|
 .out [(0, .s 0), (1, .s 1), (2, .s 2), (15, .r 2)]
def e129r4 : EE := .out [(6, .c (.int .i64 11))]
def e129r5 : EE := .q 1 .len [.s 2] none <|
 .x 3 (.call 191) [.s 0] none [] <|
 .q 4 .gtr [.r 1, .r 3] none <|
 .out [(0, .s 0), (1, .s 1), (2, .s 2), (19, .r 4)]
def e129r6 : EE := .out [(6, .c (.int .i64 7))]
def e129r7 : EE := .x 1 (.call 111) [.s 0] none [] <|
 .out [(0, .s 0), (1, .s 1), (2, .s 2), (7, .r 1)]
def e129r8 : EE := .q 1 .neq [.s 7, .c z] none <|
 .out [(0, .s 0), (1, .s 1), (2, .s 2), (7, .s 7), (28, .r 1)]
def e129r9 : EE := .out [(6, .s 7)]
def e129r10 : EE := .x 2 (.call 103) [.s 0, .s 1] none [] <|
 .q 4 (.ext 0) [.r 2] none <|
 .q 5 (.ext 1) [.r 2] none <|
 .out [(0, .s 0), (1, .s 1), (2, .s 2), (8, .r 4), (9, .r 5)]
def e129r11 : EE := .q 1 .not [.s 9] none <|
 .out [(0, .s 0), (1, .s 1), (2, .s 2), (8, .s 8), (37, .r 1)]
def e129r12 : EE := .q 2 .nl [.s 0] none <|
 .q 3 (.fld 1) [.r 2] none <|
 .q 4 .ld [.r 3] none <|
 .q 7 (.bld [zs, .nsl, z] [(0, 1)]) [.s 1] none <|
 .x 8 (.bsl 130 1 [zs, .nsl, z] [(0, 3)]) [.r 7] none [] <|
 .x 9 (.call 192) [.r 4, .s 8, .r 8] none [] <|
 .q 10 .nl [.s 0] none <|
 .q 11 (.fld 1) [.r 10] none <|
 .x 12 (.st 1) [.r 11, .r 9] none [] <|
 .out [(0, .s 0), (2, .s 2), (8, .s 8)]
def e129r13 : EE := .q 1 .nl [.s 0] none <|
 .q 2 (.fld 1) [.r 1] none <|
 .q 3 .ld [.r 2] none <|
 .q 6 .nl [.s 0] none <|
 .q 7 (.fld 1) [.r 6] none <|
 .q 8 .ld [.r 7] none <|
 .q 10 (.ixs 3) [.r 8, .s 8] none <|
 .q 11 (.fld 1) [.r 10] none <|
 .q 12 .ld [.r 11] none <|
 .x 14 (.bsl 104 2 [.nsl, .nsl] [(0, 1), (1, 1)]) [.r 12, .s 2] none [⟨3, .ld, [.r 2], none⟩] <|
 .x 15 (.call 193) [.r 14] none [⟨3, .ld, [.r 2], none⟩] <|
 .q 16 (.ixs 3) [.r 3, .s 8] none <|
 .q 17 (.fld 1) [.r 16] none <|
 .x 18 (.st 1) [.r 17, .r 15] none [] <|
 .out []
def e129r14 : EE := .out [(6, .c z)]
def e129 : EFn := ⟨(.seq (.reg e129r0 [0, 1, 2] 0) (.seq (.block 0 (.seq (.reg e129r1 [0, 1, 2] 0) (.cond (.s 10) (.seq (.reg e129r2 [] 0) .ret) (.seq (.reg e129r3 [0, 1, 2] 0) (.cond (.s 15) (.seq (.reg e129r4 [] 0) .ret) (.seq (.reg e129r5 [0, 1, 2] 0) (.cond (.s 19) (.seq (.reg e129r6 [] 0) .ret) .skip))))))) (.seq (.seq (.reg e129r7 [0, 1, 2] 0) (.seq (.reg e129r8 [0, 1, 2, 7] 0) (.cond (.s 28) (.seq (.reg e129r9 [7] 0) .ret) .skip))) (.seq (.reg e129r10 [0, 1, 2] 0) (.seq (.seq (.reg e129r11 [0, 1, 2, 8, 9] 0) (.cond (.s 37) (.reg e129r12 [0, 1, 2, 8] 0) .skip)) (.seq (.reg e129r13 [0, 2, 8] 0) (.seq (.reg e129r14 [] 0) .ret))))))), [.slot 6], 68, 0⟩
theorem g129 : Good Tryz.prog 129 e129 := ⟨Tryz.f129, Tryz.func129, by kernel_rfl, by kernel_rfl, by kernel_rfl, by kernel_rfl⟩
/-! (*concord/core.Core).Drain -/
def e130r0 : EE := .out [(0, .s 0)]
def e130r1 : EE := .q 1 .nl [.s 0] none <|
 .q 2 (.fld 6) [.r 1] none <|
 .q 3 .ld [.r 2] none <|
 .q 5 .nl [.s 0] none <|
 .q 6 (.fld 7) [.r 5] none <|
 .q 7 .ld [.r 6] none <|
 .out [(0, .s 0), (4, .r 3), (5, .r 7)]
def e130r2 : EE := .q 2 .nl [.s 0] none <|
 .q 3 (.fld 6) [.r 2] none <|
 .x 4 (.st 1) [.r 3, .c .nsl] none [] <|
 .q 5 .nl [.s 0] none <|
 .q 6 (.fld 7) [.r 5] none <|
 .x 7 (.st 1) [.r 6, .c .nsl] none [] <|
 .out [(4, .s 4), (5, .s 5)]
def e130r3 : EE := .out [(2, .s 4), (3, .s 5)]
def e130 : EFn := ⟨(.seq (.reg e130r0 [0] 0) (.seq (.reg e130r1 [0] 0) (.seq (.reg e130r2 [0, 4, 5] 0) (.seq (.reg e130r3 [4, 5] 0) .ret)))), [.slot 2, .slot 3], 22, 0⟩
theorem g130 : Good Tryz.prog 130 e130 := ⟨Tryz.f130, Tryz.func130, by kernel_rfl, by kernel_rfl, by kernel_rfl, by kernel_rfl⟩
/-! concord/node.cellRecord -/
def e131r0 : EE := .out [(0, .s 0)]
def e131r1 : EE := .x 0 (.bsl 5 1 [(.int .u8 0)] [(0, 1)]) [.c (.int .u8 2)] none [] <|
 .x 2 (.app 5 1 1 [(.int .u8 0)]) [.r 0, .s 0] none [] <|
 .out [(2, .r 2)]
def e131 : EFn := ⟨(.seq (.reg e131r0 [0] 0) (.seq (.reg e131r1 [0] 0) .ret)), [.slot 2], 6, 0⟩
theorem g131 : Good Tryz.prog 131 e131 := ⟨Tryz.f131, Tryz.func131, by kernel_rfl, by kernel_rfl, by kernel_rfl, by kernel_rfl⟩
/-! (*concord/wal.Wal).Add -/
def e132r0 : EE := .out [(0, .s 0), (1, .s 1)]
def e132r1 : EE := .q 1 .nl [.s 0] none <|
 .q 2 (.fld 3) [.r 1] none <|
 .q 3 .ld [.r 2] none <|
 .out [(0, .s 0), (1, .s 1), (14, .r 3)]
def e132r2 : EE := .out [(4, .c (.int .i64 10))]
def e132r3 : EE := .q 1 .nl [.s 0] none <|
 .q 2 (.fld 1) [.r 1] none <|
 .q 3 (.fld 0) [.r 2] none <|
 .q 4 .ld [.r 3] none <|
 .q 5 .eql [.r 4, .c z] none <|
 .out [(0, .s 0), (1, .s 1), (20, .r 5)]
def e132r4 : EE := .out [(4, .c (.int .i64 8))]
def e132r5 : EE := .x 1 (.call 73) [.c .nsl, .s 1] none [] <|
 .q 3 (.ext 0) [.r 1] none <|
 .q 4 (.ext 1) [.r 1] none <|
 .out [(0, .s 0), (1, .s 1), (5, .r 3), (6, .r 4)]
def e132r6 : EE := .q 1 .not [.s 6] none <|
 .out [(0, .s 0), (1, .s 1), (5, .s 5), (27, .r 1)]
def e132r7 : EE := .out [(4, .c (.int .i64 1))]
def e132r8 : EE := .q 1 .len [.s 1] none <|
 .q 2 .eql [.r 1, .c z] none <|
 .out [(0, .s 0), (5, .s 5), (30, .r 2)]
def e132r9 : EE := .out [(4, .c z)]
def e132r10 : EE := .q 1 .nl [.s 0] none <|
 .q 2 (.fld 1) [.r 1] none <|
 .q 3 (.lda 2) [.r 2] none <|
 .x 4 (.alc [z, z] 149) [] none [] <|
 .x 5 (.st 2) [.r 4, .r 3] none [] <|
 .out [(0, .s 0), (5, .s 5), (7, .r 4)]
def e132r11 : EE := .q 1 .nl [.s 0] none <|
 .q 2 (.fld 0) [.r 1] none <|
 .q 3 .ld [.r 2] none <|
 .q 4 (.lda 2) [.s 7] none <|
 .x 5 (.call 60) [.r 4] none [⟨3, .ld, [.r 2], none⟩] <|
 .x 6 (.call 54) [.r 3, .r 5] none [] <|
 .q 8 (.ext 0) [.r 6] none <|
 .q 9 (.ext 1) [.r 6] none <|
 .out [(0, .s 0), (5, .s 5), (7, .s 7), (8, .r 8)]
def e132r12 : EE := .q 1 .len [.s 8] none <|
 .q 2 .gtr [.r 1, .c (.int .i64 4096)] none <|
 .q 4 (.fld 1) [.s 7] (some (.r 2, true)) <|
 .q 5 .ld [.r 4] (some (.r 2, true)) <|
 .q 6 .lss [.r 5, .c (.int .i64 999999999)] (some (.r 2, true)) <|
 .q 7 .pick [.r 2, .r 6, .c (.bool false)] none <|
 .out [(0, .s 0), (5, .s 5), (7, .s 7), (52, .r 7)]
def e132r13 : EE := .q 0 (.fld 1) [.s 7] none <|
 .q 1 .ld [.r 0] none <|
 .q 2 .add [.r 1, .c (.int .i64 1)] none <|
 .q 3 (.fld 1) [.s 7] none <|
 .x 4 (.st 1) [.r 3, .r 2] none [] <|
 .out [(0, .s 0), (5, .s 5), (7, .s 7)]
def e132r14 : EE := .q 1 (.lda 2) [.s 7] none <|
 .x 3 (.call 76) [.s 0, .r 1, .s 5] none [] <|
 .out [(0, .s 0), (7, .s 7), (10, .r 3)]
def e132r15 : EE := .q 1 .neq [.s 10, .c z] none <|
 .out [(0, .s 0), (7, .s 7), (10, .s 10), (62, .r 1)]
def e132r16 : EE := .out [(4, .s 10)]
def e132r17 : EE := .q 1 (.lda 2) [.s 7] none <|
 .q 2 .nl [.s 0] none <|
 .q 3 (.fld 1) [.r 2] none <|
 .x 4 (.st 2) [.r 3, .r 1] none [] <|
 .out []
def e132r18 : EE := .out [(4, .c z)]
def e132 : EFn := ⟨(.seq (.reg e132r0 [0, 1] 0) (.seq (.seq (.reg e132r1 [0, 1] 0) (.cond (.s 14) (.seq (.reg e132r2 [] 0) .ret) .skip)) (.seq (.seq (.reg e132r3 [0, 1] 0) (.cond (.s 20) (.seq (.reg e132r4 [] 0) .ret) .skip)) (.seq (.reg e132r5 [0, 1] 0) (.seq (.seq (.reg e132r6 [0, 1, 5, 6] 0) (.cond (.s 27) (.seq (.reg e132r7 [] 0) .ret) .skip)) (.seq (.seq (.reg e132r8 [0, 1, 5] 0) (.cond (.s 30) (.seq (.reg e132r9 [] 0) .ret) .skip)) (.seq (.reg e132r10 [0, 5] 0) (.seq (.seq (.reg e132r11 [0, 5, 7] 0) (.seq (.reg e132r12 [0, 5, 7, 8] 0) (.cond (.s 52) (.reg e132r13 [0, 5, 7] 0) .skip))) (.seq (.seq (.reg e132r14 [0, 5, 7] 0) (.seq (.reg e132r15 [0, 7, 10] 0) (.cond (.s 62) (.seq (.reg e132r16 [10] 0) .ret) .skip))) (.seq (.reg e132r17 [0, 7] 0) (.seq (.reg e132r18 [] 0) .ret))))))))))), [.slot 4], 68, 0⟩
theorem g132 : Good Tryz.prog 132 e132 := ⟨Tryz.f132, Tryz.func132, by kernel_rfl, by kernel_rfl, by kernel_rfl, by kernel_rfl⟩
/-! concord/exec.Plan -/
def e134r0 : EE := .x 0 (.box 38) [.s 0] none [] <|
 .out [(1, .s 1), (2, .r 0)]
def e134r1 : EE := .q 0 (.lda 7) [.s 2] none <|
 .x 1 .mkm [] none [] <|
 .q 2 (.bld [z, z, z, z, z, z, z, .nmap, .nsl] [(0, 7), (7, 1)]) [.r 0, .r 1] none <|
 .x 3 (.box 299) [.r 2] none [] <|
 .out [(1, .s 1), (6, .r 3)]
def e134r2 : EE := .q 1 .len [.s 1] none <|
 .out [(6, .s 6), (17, .s 1), (18, .r 1), (19, .c z)]
def e134r3 : EE := .q 0 .lss [.s 19, .s 18] none <|
 .out [(6, .s 6), (17, .s 17), (18, .s 18), (19, .s 19), (20, .r 0)]
def e134r4 : EE := .q 0 (.ixs 23) [.s 17, .s 19] none <|
 .q 1 (.lda 23) [.r 0] none <|
 .x 2 (.alc [z, z, z, z, z, z, z, z, z, z, zs, zs, zs, zs, z, z, z, z, z, z, z, z, (.bool false)] 240) [] none [] <|
 .x 3 (.st 23) [.r 2, .r 1] none [] <|
 .out [(6, .s 6), (8, .r 2), (17, .s 17), (18, .s 18), (19, .s 19)]
def e134r5 : EE := .q 1 .nl [.s 6] none <|
 .q 2 (.fld 7) [.r 1] none <|
 .q 3 .ld [.r 2] none <|
 .q 4 (.fld 0) [.s 8] none <|
 .q 5 (.lda 2) [.r 4] none <|
 .q 6 (.lkp true [(.i .i64), (.i .i64)] (.agg [z, z, z, z, z, z, z, z, zs, zs, zs, zs, z, z, z, z, z, z, z, z, (.bool false)]) true) [.r 3, .r 5] none <|
 .q 8 (.ext 0) [.r 6] none <|
 .q 9 (.ext 1) [.r 6] none <|
 .x 10 (.alc [z, z, z, z, z, z, z, z, zs, zs, zs, zs, z, z, z, z, z, z, z, z, (.bool false)] 86) [] none [⟨3, .ld, [.r 2], none⟩, ⟨5, (.lda 2), [.r 4], none⟩, ⟨6, (.lkp true [(.i .i64), (.i .i64)] (.agg [z, z, z, z, z, z, z, z, zs, zs, zs, zs, z, z, z, z, z, z, z, z, (.bool false)]) true), [.r 3, .r 5], none⟩] <|
 .x 11 (.st 21) [.r 10, .r 8] none [] <|
 .out [(6, .s 6), (8, .s 8), (10, .r 9), (17, .s 17), (18, .s 18), (19, .s 19)]
def e134r6 : EE := .q 2 (.fld 2) [.s 8] (some (.s 10, false)) <|
 .q 3 (.fld 0) [.r 2] (some (.s 10, false)) <|
 .q 4 .ld [.r 3] (some (.s 10, false)) <|
 .q 5 .neq [.r 4, .c (.int .i64 3)] (some (.s 10, false)) <|
 .q 6 .pick [.s 10, .c (.bool true), .r 5] none <|
 .out [(6, .s 6), (8, .s 8), (17, .s 17), (18, .s 18), (19, .s 19), (39, .r 6)]
def e134r7 : EE := .q 1 .nl [.s 6] none <|
 .q 2 (.fld 7) [.r 1] none <|
 .q 3 .ld [.r 2] none <|
 .q 4 (.fld 0) [.s 8] none <|
 .q 5 (.lda 2) [.r 4] none <|
 .q 6 (.fld 2) [.s 8] none <|
 .q 7 (.lda 21) [.r 6] none <|
 .x 8 (.mup true [(.i .i64), (.i .i64)]) [.r 3, .r 5, .r 7] none [] <|
 .out [(6, .s 6), (17, .s 17), (18, .s 18), (19, .s 19)]
def e134r8 : EE := .q 0 .add [.s 19, .c (.int .i64 1)] none <|
 .out [(6, .s 6), (17, .s 17), (18, .s 18), (19, .r 0)]
def e134l9 : EC := (.seq (.reg e134r3 [6, 17, 18, 19] 0) (.seq (.cond (.s 20) .skip (.exit 0)) (.seq (.block 1 (.seq (.reg e134r4 [6, 17, 18, 19] 0) (.seq (.seq (.reg e134r5 [6, 8, 17, 18, 19] 0) (.seq (.reg e134r6 [6, 8, 10, 17, 18, 19] 0) (.cond (.s 39) (.exit 1) .skip))) (.reg e134r7 [6, 8, 17, 18, 19] 0)))) (.reg e134r8 [6, 17, 18, 19] 0))))
def e134r10 : EE := .x 1 (.call 194) [.s 6] none [] <|
 .q 3 (.ext 0) [.r 1] none <|
 .q 4 (.ext 1) [.r 1] none <|
 .out [(6, .s 6), (11, .r 3), (12, .r 4)]
def e134r11 : EE := .q 1 .not [.s 11] none <|
 .out [(6, .s 6), (12, .s 12), (55, .r 1)]
def e134r12 : EE := .q 1 .nl [.s 6] none <|
 .q 2 (.fld 8) [.r 1] none <|
 .q 3 .ld [.r 2] none <|
 .x 5 (.call 195) [.s 12] none [⟨3, .ld, [.r 2], none⟩] <|
 .out [(4, .r 3), (5, .r 5)]
def e134l13 : EC := (.block 3 (.seq (.reg e134r10 [6] 0) (.seq (.reg e134r11 [6, 11, 12] 0) (.cond (.s 55) (.seq (.reg e134r12 [6, 12] 0) .ret) .skip))))
def e134 : EFn := ⟨(.seq (.reg e134r0 [0, 1] 0) (.seq (.reg e134r1 [1, 2] 0) (.seq (.seq (.reg e134r2 [1, 6] 0) (.block 0 (.loop [6, 17, 18, 19] e134l9))) (.block 2 (.loop [6] e134l13))))), [.slot 4, .slot 5], 62, 0⟩
theorem g134 : Good Tryz.prog 134 e134 := ⟨Tryz.f134, Tryz.func134, by kernel_rfl, by kernel_rfl, by kernel_rfl, by kernel_rfl⟩
/-! (*concord/node.Node).committed -/
def e135r0 : EE := .out [(0, .s 0)]
def e135r1 : EE := .out [(0, .s 0), (3, .c .nsl)]
def e135r2 : EE := .q 1 .nl [.s 0] none <|
 .q 2 (.fld 4) [.r 1] none <|
 .q 3 .ld [.r 2] none <|
 .x 4 (.call 144) [.r 3] none [] <|
 .q 5 .len [.r 4] none <|
 .out [(0, .s 0), (3, .s 3), (12, .r 4), (13, .r 5), (14, .c z)]
def e135r3 : EE := .q 0 .lss [.s 14, .s 13] none <|
 .out [(0, .s 0), (3, .s 3), (12, .s 12), (13, .s 13), (14, .s 14), (15, .r 0)]
def e135r4 : EE := .q 0 (.ixs 2) [.s 12, .s 14] none <|
 .q 1 (.lda 2) [.r 0] none <|
 .x 2 (.alc [z, z] 80) [] none [] <|
 .x 3 (.st 2) [.r 2, .r 1] none [] <|
 .out [(0, .s 0), (3, .s 3), (5, .r 2), (12, .s 12), (13, .s 13), (14, .s 14)]
def e135r5 : EE := .q 1 .nl [.s 0] none <|
 .q 2 (.fld 4) [.r 1] none <|
 .q 3 .ld [.r 2] none <|
 .q 4 (.lda 2) [.s 5] none <|
 .both false
 (.x 5 (.call 145) [.r 3, .r 4] none [] <|
 .q 7 (.ext 0) [.r 5] none <|
 .q 8 (.ext 1) [.r 5] none <|
 .x 9 (.alc [z, z, z, z, z, z, z, z, zs, zs, zs, zs, z, z, z, z, z, z, z, z, (.bool false)] 86) [] none [⟨3, .ld, [.r 2], none⟩, ⟨4, (.lda 2), [.s 5], none⟩] <|
 .x 10 (.st 21) [.r 9, .r 7] none [] <|
 .out [(0, .s 0), (3, .s 3), (5, .s 5), (6, .r 9), (12, .s 12), (13, .s 13), (14, .s 14)])
 (.x 9 (.alc [z, z, z, z, z, z, z, z, zs, zs, zs, zs, z, z, z, z, z, z, z, z, (.bool false)] 86) [] none [⟨3, .ld, [.r 2], none⟩, ⟨4, (.lda 2), [.s 5], none⟩] <|
 .x 5 (.call 145) [.r 3, .r 4] none [] <|
 .q 7 (.ext 0) [.r 5] none <|
 .q 8 (.ext 1) [.r 5] none <|
 .x 10 (.st 21) [.r 9, .r 7] none [] <|
 .out [(0, .s 0), (3, .s 3), (5, .s 5), (6, .r 9), (12, .s 12), (13, .s 13), (14, .s 14)])
def e135r6 : EE := .q 0 (.fld 1) [.s 5] none <|
 .q 1 .ld [.r 0] none <|
 .q 3 (.fld 0) [.s 5] none <|
 .q 4 .ld [.r 3] none <|
 .q 5 .nl [.s 0] none <|
 .q 6 (.fld 55) [.r 5] none <|
 .q 7 (.ixa 7 1) [.r 6, .r 4] none <|
 .q 8 .ld [.r 7] none <|
 .q 9 .gtr [.r 1, .r 8] none <|
 .q 11 (.fld 0) [.s 6] (some (.r 9, true)) <|
 .q 12 .ld [.r 11] (some (.r 9, true)) <|
 .q 13 .eql [.r 12, .c (.int .i64 3)] (some (.r 9, true)) <|
 .q 14 .pick [.r 9, .r 13, .c (.bool false)] none <|
 .out [(0, .s 0), (3, .s 3), (5, .s 5), (6, .s 6), (12, .s 12), (13, .s 13), (14, .s 14), (41, .r 14)]
def e135r7 : EE := .q 1 (.lda 2) [.s 5] none <|
 .q 2 (.lda 21) [.s 6] none <|
 .q 3 (.bld [z, z, z, z, z, z, z, z, z, z, zs, zs, zs, zs, z, z, z, z, z, z, z, z, (.bool false)] [(0, 2), (2, 21)]) [.r 1, .r 2] none <|
 .x 4 (.bsl 240 1 [z, z, z, z, z, z, z, z, z, z, zs, zs, zs, zs, z, z, z, z, z, z, z, z, (.bool false)] [(0, 23)]) [.r 3] none [] <|
 .x 5 (.app 240 23 216 [z, z, z, z, z, z, z, z, z, z, zs, zs, zs, zs, z, z, z, z, z, z, z, z, (.bool false)]) [.s 3, .r 4] none [] <|
 .out [(0, .s 0), (3, .r 5), (12, .s 12), (13, .s 13), (14, .s 14)]
def e135r8 : EE := .q 0 .add [.s 14, .c (.int .i64 1)] none <|
 .out [(0, .s 0), (3, .s 3), (12, .s 12), (13, .s 13), (14, .r 0)]
def e135l9 : EC := (.seq (.reg e135r3 [0, 3, 12, 13, 14] 0) (.seq (.cond (.s 15) .skip (.exit 0)) (.seq (.block 1 (.seq (.reg e135r4 [0, 3, 12, 13, 14] 0) (.seq (.reg e135r5 [0, 3, 5, 12, 13, 14] 11) (.seq (.reg e135r6 [0, 3, 5, 6, 12, 13, 14] 0) (.cond (.s 41) (.reg e135r7 [0, 3, 5, 6, 12, 13, 14] 0) .skip))))) (.reg e135r8 [0, 3, 12, 13, 14] 0))))
def e135r10 : EE := .out [(2, .s 3)]
def e135 : EFn := ⟨(.seq (.reg e135r0 [0] 0) (.seq (.reg e135r1 [0] 0) (.seq (.seq (.reg e135r2 [0, 3] 0) (.block 0 (.loop [0, 3, 12, 13, 14] e135l9))) (.seq (.reg e135r10 [3] 0) .ret)))), [.slot 2], 50, 0⟩
theorem g135 : Good Tryz.prog 135 e135 := ⟨Tryz.f135, Tryz.func135, by kernel_rfl, by kernel_rfl, by kernel_rfl, by kernel_rfl⟩
/-! concord/state.Apply -/
def e136r0 : EE := .x 0 (.box 73) [.s 0] none [] <|
 .x 1 (.box 30) [.s 1] none [] <|
 .x 2 (.alc [.nsl, z, z, (.bool false), zs, z, .nsl, z, z, (.bool false), zs, z, .nsl, z, z, (.bool false), zs, z, .nsl, z, z, (.bool false), zs, z, .nsl, z, z, (.bool false), zs, z, .nsl, z, z, (.bool false), zs, z, .nsl, z, z, (.bool false), zs, z, .nsl, z, z, (.bool false), zs, z, .nsl] 73) [] none [] <|
 .x 3 (.alc [z, (.bool false), zs, z, .nsl] 68) [] none [] <|
 .out [(2, .r 0), (3, .r 1), (4, .r 2), (5, .r 3)]
def e136r1 : EE := .q 0 (.lda 49) [.s 2] none <|
 .x 1 (.call 196) [.r 0] none [] <|
 .x 2 (.st 49) [.s 2, .r 1] none [] <|
 .out [(2, .s 2), (3, .s 3), (4, .s 4), (5, .s 5)]
def e136r2 : EE := .q 0 (.lda 7) [.s 3] none <|
 .q 1 (.bld [z, z, z, zs, zs, zs, zs] []) [] none <|
 .q 2 (.eqc false [(.i .i64), (.i .i64), (.i .i64), .s, .s, .s, .s]) [.r 0, .r 1] none <|
 .out [(2, .s 2), (3, .s 3), (4, .s 4), (5, .s 5), (14, .r 2)]
def e136r3 : EE := .q 0 (.lda 49) [.s 2] none <|
 .q 1 (.bld [z, (.bool false), zs, z, .nsl] []) [] none <|
 .x 2 (.st 49) [.s 4, .r 0] none [] <|
 .x 3 (.st 5) [.s 5, .r 1] none [] <|
 .out [(4, .s 4), (5, .s 5)]
def e136r4 : EE := .q 0 (.lda 7) [.s 3] none <|
 .x 1 (.call 83) [.r 0] none [] <|
 .q 2 .not [.r 1] none <|
 .out [(2, .s 2), (3, .s 3), (4, .s 4), (5, .s 5), (19, .r 2)]
def e136r5 : EE := .q 0 (.lda 49) [.s 2] none <|
 .q 1 (.bld [z, (.bool false), zs, z, .nsl] [(0, 1)]) [.c (.int .i64 1)] none <|
 .x 2 (.st 49) [.s 4, .r 0] none [] <|
 .x 3 (.st 5) [.s 5, .r 1] none [] <|
 .out [(4, .s 4), (5, .s 5)]
def e136r6 : EE := .q 0 (.fld 1) [.s 2] none <|
 .q 1 (.lda 48) [.r 0] none <|
 .q 2 (.fld 1) [.s 3] none <|
 .q 3 .ld [.r 2] none <|
 .q 4 (.fld 2) [.s 3] none <|
 .q 5 .ld [.r 4] none <|
 .x 6 (.call 197) [.r 1, .r 3, .r 5] none [] <|
 .q 8 (.ext 0) [.r 6] none <|
 .q 9 (.ext 1) [.r 6] none <|
 .x 10 (.alc [z, (.bool false), zs, z, .nsl] 68) [] none [] <|
 .x 12 (.st 5) [.r 10, .r 9] none [] <|
 .out [(2, .s 2), (3, .s 3), (4, .s 4), (5, .s 5), (6, .r 8), (7, .r 10)]
def e136r7 : EE := .out [(2, .s 2), (3, .s 3), (4, .s 4), (5, .s 5), (7, .s 7), (32, .s 6)]
def e136r8 : EE := .q 0 .eql [.s 32, .c (.int .i64 2)] none <|
 .out [(2, .s 2), (3, .s 3), (4, .s 4), (5, .s 5), (7, .s 7), (32, .s 32), (33, .r 0)]
def e136r9 : EE := .q 0 (.lda 49) [.s 2] none <|
 .q 1 (.lda 5) [.s 7] none <|
 .x 2 (.st 49) [.s 4, .r 0] none [⟨1, (.lda 5), [.s 7], none⟩] <|
 .x 3 (.st 5) [.s 5, .r 1] none [] <|
 .out [(4, .s 4), (5, .s 5)]
def e136r10 : EE := .q 0 .eql [.s 32, .c (.int .i64 3)] none <|
 .out [(2, .s 2), (3, .s 3), (4, .s 4), (5, .s 5), (37, .r 0)]
def e136r11 : EE := .q 0 (.lda 49) [.s 2] none <|
 .q 1 (.bld [z, (.bool false), zs, z, .nsl] [(0, 1)]) [.c (.int .i64 9)] none <|
 .x 2 (.st 49) [.s 4, .r 0] none [] <|
 .x 3 (.st 5) [.s 5, .r 1] none [] <|
 .out [(4, .s 4), (5, .s 5)]
def e136r12 : EE := .q 0 (.fld 0) [.s 2] none <|
 .q 1 .ld [.r 0] none <|
 .q 2 (.lda 7) [.s 3] none <|
 .x 3 (.call 198) [.r 1, .r 2] none [] <|
 .q 5 (.ext 0) [.r 3] none <|
 .q 6 (.ext 1) [.r 3] none <|
 .x 7 (.alc [z, (.bool false), zs, z, .nsl] 68) [] none [] <|
 .x 9 (.st 5) [.r 7, .r 6] none [] <|
 .out [(2, .s 2), (3, .s 3), (4, .s 4), (5, .s 5), (8, .r 5), (9, .r 7)]
def e136r13 : EE := .q 1 (.fld 1) [.s 2] none <|
 .q 2 (.lda 48) [.r 1] none <|
 .q 3 (.fld 1) [.s 3] none <|
 .q 4 .ld [.r 3] none <|
 .q 5 (.fld 2) [.s 3] none <|
 .q 6 .ld [.r 5] none <|
 .q 7 (.lda 5) [.s 9] none <|
 .q 10 (.lda 5) [.s 9] none <|
 .x 8 (.call 199) [.r 2, .r 4, .r 6, .r 7] none [⟨10, (.lda 5), [.s 9], none⟩] <|
 .q 9 (.bld [.nsl, z, z, (.bool false), zs, z, .nsl, z, z, (.bool false), zs, z, .nsl, z, z, (.bool false), zs, z, .nsl, z, z, (.bool false), zs, z, .nsl, z, z, (.bool false), zs, z, .nsl, z, z, (.bool false), zs, z, .nsl, z, z, (.bool false), zs, z, .nsl, z, z, (.bool false), zs, z, .nsl] [(0, 1), (1, 48)]) [.s 8, .r 8] none <|
 .x 11 (.st 49) [.s 4, .r 9] none [⟨10, (.lda 5), [.s 9], none⟩] <|
 .x 12 (.st 5) [.s 5, .r 10] none [] <|
 .out [(4, .s 4), (5, .s 5)]
def e136 : EFn := ⟨(.seq (.reg e136r0 [0, 1] 0) (.seq (.reg e136r1 [2, 3, 4, 5] 0) (.seq (.seq (.reg e136r2 [2, 3, 4, 5] 0) (.cond (.s 14) (.seq (.reg e136r3 [2, 4, 5] 0) .ret) .skip)) (.seq (.seq (.reg e136r4 [2, 3, 4, 5] 0) (.cond (.s 19) (.seq (.reg e136r5 [2, 4, 5] 0) .ret) .skip)) (.seq (.seq (.reg e136r6 [2, 3, 4, 5] 0) (.seq (.reg e136r7 [2, 3, 4, 5, 6, 7] 0) (.block 0 (.seq (.reg e136r8 [2, 3, 4, 5, 7, 32] 0) (.cond (.s 33) (.seq (.reg e136r9 [2, 4, 5, 7] 0) .ret) (.seq (.reg e136r10 [2, 3, 4, 5, 32] 0) (.cond (.s 37) (.seq (.reg e136r11 [2, 4, 5] 0) .ret) .skip))))))) (.seq (.reg e136r12 [2, 3, 4, 5] 0) (.seq (.reg e136r13 [2, 3, 4, 5, 8, 9] 0) .ret))))))), [.cells 4 49, .cells 5 5], 59, 0⟩
theorem g136 : Good Tryz.prog 136 e136 := ⟨Tryz.f136, Tryz.func136, by kernel_rfl, by kernel_rfl, by kernel_rfl, by kernel_rfl⟩
/-! (*concord/front.Fronts).Stable -/
def e141r0 : EE := .x 0 (.alc [z, z, z, z, z, z, z] 38) [] none [] <|
 .out [(0, .s 0), (2, .r 0)]
def e141r1 : EE := .q 2 .nl [.s 0] none <|
 .q 3 (.fld 1) [.r 2] none <|
 .q 4 .ld [.r 3] none <|
 .q 5 .nl [.s 0] none <|
 .q 6 (.fld 2) [.r 5] none <|
 .q 7 (.ixa 7 7) [.r 6, .r 4] none <|
 .q 8 (.lda 7) [.r 7] none <|
 .x 9 (.alc [z, z, z, z, z, z, z] 38) [] none [⟨4, .ld, [.r 3], none⟩, ⟨8, (.lda 7), [.r 7], none⟩] <|
 .x 10 (.st 7) [.r 9, .r 8] none [] <|
 .out [(0, .s 0), (2, .s 2), (3, .r 9)]
def e141r2 : EE := .q 1 .nl [.s 0] none <|
 .q 2 (.fld 0) [.r 1] none <|
 .q 3 .ld [.r 2] none <|
 .out [(0, .s 0), (2, .s 2), (3, .s 3), (19, .r 3), (20, .c z)]
def e141r3 : EE := .q 0 .lss [.s 20, .s 19] none <|
 .out [(0, .s 0), (2, .s 2), (3, .s 3), (19, .s 19), (20, .s 20), (21, .r 0)]
def e141r4 : EE := .out [(0, .s 0), (2, .s 2), (3, .s 3), (4, .s 20), (19, .s 19), (20, .s 20)]
def e141r5 : EE := .q 2 .nl [.s 0] none <|
 .q 3 (.fld 2) [.r 2] none <|
 .q 4 (.ixa 7 7) [.r 3, .s 4] none <|
 .q 5 (.lda 7) [.r 4] none <|
 .out [(0, .s 0), (2, .s 2), (3, .s 3), (19, .s 19), (20, .s 20), (28, .r 5), (29, .c z)]
def e141r6 : EE := .q 0 .lss [.s 29, .c (.int .i64 7)] none <|
 .out [(0, .s 0), (2, .s 2), (3, .s 3), (19, .s 19), (20, .s 20), (28, .s 28), (29, .s 29), (30, .r 0)]
def e141r7 : EE := .q 1 (.idx 7 1) [.s 28, .s 29] none <|
 .out [(0, .s 0), (2, .s 2), (3, .s 3), (5, .s 29), (6, .r 1), (19, .s 19), (20, .s 20), (28, .s 28), (29, .s 29)]
def e141r8 : EE := .q 2 (.ixa 7 1) [.s 3, .s 5] none <|
 .q 3 .ld [.r 2] none <|
 .q 5 .mn [.r 3, .s 6] none <|
 .q 6 (.ixa 7 1) [.s 3, .s 5] none <|
 .x 7 (.st 1) [.r 6, .r 5] none [] <|
 .out [(0, .s 0), (2, .s 2), (3, .s 3), (19, .s 19), (20, .s 20), (28, .s 28), (29, .s 29)]
def e141r9 : EE := .q 0 .add [.s 29, .c (.int .i64 1)] none <|
 .out [(0, .s 0), (2, .s 2), (3, .s 3), (19, .s 19), (20, .s 20), (28, .s 28), (29, .r 0)]
def e141l10 : EC := (.seq (.reg e141r6 [0, 2, 3, 19, 20, 28, 29] 0) (.seq (.cond (.s 30) .skip (.exit 2)) (.seq (.block 3 (.seq (.reg e141r7 [0, 2, 3, 19, 20, 28, 29] 0) (.reg e141r8 [0, 2, 3, 5, 6, 19, 20, 28, 29] 0))) (.reg e141r9 [0, 2, 3, 19, 20, 28, 29] 0))))
def e141r11 : EE := .q 0 .add [.s 20, .c (.int .i64 1)] none <|
 .out [(0, .s 0), (2, .s 2), (3, .s 3), (19, .s 19), (20, .r 0)]
def e141l12 : EC := (.seq (.reg e141r3 [0, 2, 3, 19, 20] 0) (.seq (.cond (.s 21) .skip (.exit 0)) (.seq (.block 1 (.seq (.reg e141r4 [0, 2, 3, 19, 20] 0) (.seq (.reg e141r5 [0, 2, 3, 4, 19, 20] 0) (.block 2 (.loop [0, 2, 3, 19, 20, 28, 29] e141l10))))) (.reg e141r11 [0, 2, 3, 19, 20] 0))))
def e141r13 : EE := .q 0 (.lda 7) [.s 3] none <|
 .x 1 (.st 7) [.s 2, .r 0] none [] <|
 .out [(2, .s 2)]
def e141 : EFn := ⟨(.seq (.reg e141r0 [0] 0) (.seq (.reg e141r1 [0, 2] 0) (.seq (.seq (.reg e141r2 [0, 2, 3] 0) (.block 0 (.loop [0, 2, 3, 19, 20] e141l12))) (.seq (.reg e141r13 [2, 3] 0) .ret)))), [.cells 2 7], 43, 0⟩
theorem g141 : Good Tryz.prog 141 e141 := ⟨Tryz.f141, Tryz.func141, by kernel_rfl, by kernel_rfl, by kernel_rfl, by kernel_rfl⟩
/-! (*concord/core.Core).Cut -/
def e142r0 : EE := .x 0 (.alc [z, z, z, z, z, z, z] 38) [] none [] <|
 .out [(0, .s 0), (2, .r 0)]
def e142r1 : EE := .q 1 .nl [.s 0] none <|
 .q 2 (.fld 2) [.r 1] none <|
 .q 3 .ld [.r 2] none <|
 .x 4 (.call 205) [.r 3] none [] <|
 .x 5 (.st 7) [.s 2, .r 4] none [] <|
 .out [(2, .s 2)]
def e142 : EFn := ⟨(.seq (.reg e142r0 [0] 0) (.seq (.reg e142r1 [0, 2] 0) .ret)), [.cells 2 7], 8, 0⟩
theorem g142 : Good Tryz.prog 142 e142 := ⟨Tryz.f142, Tryz.func142, by kernel_rfl, by kernel_rfl, by kernel_rfl, by kernel_rfl⟩
/-! (*concord/core.Core).Cells -/
def e144r0 : EE := .out [(0, .s 0)]
def e144r1 : EE := .q 1 .nl [.s 0] none <|
 .q 2 (.fld 2) [.r 1] none <|
 .q 3 .ld [.r 2] none <|
 .x 4 (.call 94) [.r 3] none [] <|
 .out [(2, .r 4)]
def e144 : EFn := ⟨(.seq (.reg e144r0 [0] 0) (.seq (.reg e144r1 [0] 0) .ret)), [.slot 2], 8, 0⟩
theorem g144 : Good Tryz.prog 144 e144 := ⟨Tryz.f144, Tryz.func144, by kernel_rfl, by kernel_rfl, by kernel_rfl, by kernel_rfl⟩
/-! (*concord/core.Core).Cell -/
def e145r0 : EE := .x 0 (.box 80) [.s 1] none [] <|
 .x 1 (.alc [z, z, z, z, z, z, z, z, zs, zs, zs, zs, z, z, z, z, z, z, z, z, (.bool false)] 86) [] none [] <|
 .out [(0, .s 0), (3, .r 0), (4, .r 1)]
def e145r1 : EE := .q 1 .nl [.s 0] none <|
 .q 2 (.fld 2) [.r 1] none <|
 .q 3 .ld [.r 2] none <|
 .q 4 (.lda 2) [.s 3] none <|
 .x 5 (.call 95) [.r 3, .r 4] none [] <|
 .q 6 (.ext 0) [.r 5] none <|
 .q 7 (.ext 1) [.r 5] none <|
 .x 8 (.st 21) [.s 4, .r 6] none [] <|
 .out [(4, .s 4), (5, .r 7)]
def e145 : EFn := ⟨(.seq (.reg e145r0 [0, 1] 0) (.seq (.reg e145r1 [0, 3, 4] 0) .ret)), [.cells 4 21, .slot 5], 14, 0⟩
theorem g145 : Good Tryz.prog 145 e145 := ⟨Tryz.f145, Tryz.func145, by kernel_rfl, by kernel_rfl, by kernel_rfl, by kernel_rfl⟩
/-! concord/log.Record -/
def e146r0 : EE := .x 0 (.box 80) [.s 0] none [] <|
 .x 1 (.box 86) [.s 1] none [] <|
 .out [(2, .r 0), (3, .r 1)]
def e146r1 : EE := .q 0 (.fld 0) [.s 2] none <|
 .q 1 .ld [.r 0] none <|
 .q 3 (.fld 1) [.s 2] none <|
 .q 4 .ld [.r 3] none <|
 .q 6 (.lda 21) [.s 3] none <|
 .x 2 (.call 75) [.c .nsl, .r 1] none [⟨4, .ld, [.r 3], none⟩, ⟨6, (.lda 21), [.s 3], none⟩] <|
 .x 5 (.call 75) [.r 2, .r 4] none [⟨6, (.lda 21), [.s 3], none⟩] <|
 .x 7 (.call 209) [.r 5, .r 6] none [] <|
 .out [(4, .r 7)]
def e146 : EFn := ⟨(.seq (.reg e146r0 [0, 1] 0) (.seq (.reg e146r1 [2, 3] 0) .ret)), [.slot 4], 13, 0⟩
theorem g146 : Good Tryz.prog 146 e146 := ⟨Tryz.f146, Tryz.func146, by kernel_rfl, by kernel_rfl, by kernel_rfl, by kernel_rfl⟩
/-! concord/cmd.within -/
def e147r0 : EE := .out [(0, .s 0), (1, .s 1)]
def e147r1 : EE := .q 1 .geq [.s 0, .c (.int .i64 1)] none <|
 .q 3 .mv [.s 0] (some (.r 1, true)) <|
 .q 4 .mv [.s 1] (some (.r 1, true)) <|
 .q 5 .leq [.r 3, .r 4] (some (.r 1, true)) <|
 .q 6 .pick [.r 1, .r 5, .c (.bool false)] none <|
 .out [(4, .r 6)]
def e147 : EFn := ⟨(.seq (.reg e147r0 [0, 1] 0) (.seq (.reg e147r1 [0, 1] 0) .ret)), [.slot 4], 12, 0⟩
theorem g147 : Good Tryz.prog 147 e147 := ⟨Tryz.f147, Tryz.func147, by kernel_rfl, by kernel_rfl, by kernel_rfl, by kernel_rfl⟩
/-! concord/cmd.bare -/
def e148r0 : EE := .x 0 (.box 30) [.s 0] none [] <|
 .x 1 (.alc [z, z, z, zs, zs, zs, zs] 30) [] none [] <|
 .out [(1, .r 0), (2, .r 1)]
def e148r1 : EE := .q 0 (.fld 0) [.s 1] none <|
 .q 1 .ld [.r 0] none <|
 .q 2 (.fld 1) [.s 1] none <|
 .q 3 .ld [.r 2] none <|
 .q 4 (.fld 2) [.s 1] none <|
 .q 5 .ld [.r 4] none <|
 .q 6 (.fld 3) [.s 1] none <|
 .q 7 .ld [.r 6] none <|
 .q 8 (.bld [z, z, z, zs, zs, zs, zs] [(0, 1), (1, 1), (2, 1), (3, 1)]) [.r 1, .r 3, .r 5, .r 7] none <|
 .x 9 (.alc [z, z, z, zs, zs, zs, zs] 30) [] none [] <|
 .x 10 (.st 7) [.r 9, .r 8] none [] <|
 .out [(1, .s 1), (2, .s 2), (3, .r 9)]
def e148r2 : EE := .q 0 (.fld 0) [.s 1] none <|
 .q 1 .ld [.r 0] none <|
 .out [(1, .s 1), (2, .s 2), (3, .s 3), (14, .r 1)]
def e148r3 : EE := .q 0 .eql [.s 14, .c (.int .i64 2)] none <|
 .out [(1, .s 1), (2, .s 2), (3, .s 3), (14, .s 14), (15, .r 0)]
def e148r4 : EE := .q 0 (.fld 6) [.s 1] none <|
 .q 1 .ld [.r 0] none <|
 .q 2 (.fld 6) [.s 3] none <|
 .x 3 (.st 1) [.r 2, .r 1] none [] <|
 .out [(2, .s 2), (3, .s 3)]
def e148r5 : EE := .q 0 .eql [.s 14, .c (.int .i64 4)] none <|
 .out [(1, .s 1), (2, .s 2), (3, .s 3), (14, .s 14), (20, .r 0)]
def e148r6 : EE := .q 0 (.fld 5) [.s 1] none <|
 .q 1 .ld [.r 0] none <|
 .q 2 (.fld 6) [.s 1] none <|
 .q 3 .ld [.r 2] none <|
 .q 4 (.fld 5) [.s 3] none <|
 .x 5 (.st 1) [.r 4, .r 1] none [⟨3, .ld, [.r 2], none⟩] <|
 .q 6 (.fld 6) [.s 3] none <|
 .x 7 (.st 1) [.r 6, .r 3] none [] <|
 .out [(2, .s 2), (3, .s 3)]
def e148r7 : EE := .q 0 .eql [.s 14, .c (.int .i64 5)] none <|
 .out [(1, .s 1), (2, .s 2), (3, .s 3), (28, .r 0)]
def e148r8 : EE := .q 0 (.fld 4) [.s 1] none <|
 .q 1 .ld [.r 0] none <|
 .q 2 (.fld 4) [.s 3] none <|
 .x 3 (.st 1) [.r 2, .r 1] none [] <|
 .out [(2, .s 2), (3, .s 3)]
def e148r9 : EE := .q 0 (.lda 7) [.s 3] none <|
 .x 1 (.st 7) [.s 2, .r 0] none [] <|
 .out [(2, .s 2)]
def e148 : EFn := ⟨(.seq (.reg e148r0 [0] 0) (.seq (.reg e148r1 [1, 2] 0) (.seq (.seq (.reg e148r2 [1, 2, 3] 0) (.block 0 (.seq (.reg e148r3 [1, 2, 3, 14] 0) (.cond (.s 15) (.reg e148r4 [1, 2, 3] 0) (.seq (.reg e148r5 [1, 2, 3, 14] 0) (.cond (.s 20) (.reg e148r6 [1, 2, 3] 0) (.seq (.reg e148r7 [1, 2, 3, 14] 0) (.cond (.s 28) (.reg e148r8 [1, 2, 3] 0) .skip)))))))) (.seq (.reg e148r9 [2, 3] 0) .ret)))), [.cells 2 7], 34, 0⟩
theorem g148 : Good Tryz.prog 148 e148 := ⟨Tryz.f148, Tryz.func148, by kernel_rfl, by kernel_rfl, by kernel_rfl, by kernel_rfl⟩
/-! (*concord/node.Node).way -/
def e149r0 : EE := .x 0 (.box 80) [.s 1] none [] <|
 .out [(0, .s 0), (3, .r 0)]
def e149r1 : EE := .q 1 .nl [.s 0] none <|
 .q 2 (.fld 4) [.r 1] none <|
 .q 3 .ld [.r 2] none <|
 .x 4 (.call 144) [.r 3] none [] <|
 .q 5 .len [.r 4] none <|
 .out [(0, .s 0), (3, .s 3), (13, .r 4), (14, .r 5), (15, .c z)]
def e149r2 : EE := .q 0 .lss [.s 15, .s 14] none <|
 .out [(0, .s 0), (3, .s 3), (13, .s 13), (14, .s 14), (15, .s 15), (16, .r 0)]
def e149r3 : EE := .q 0 (.ixs 2) [.s 13, .s 15] none <|
 .q 1 (.lda 2) [.r 0] none <|
 .x 2 (.alc [z, z] 80) [] none [] <|
 .x 3 (.st 2) [.r 2, .r 1] none [] <|
 .out [(0, .s 0), (3, .s 3), (6, .r 2), (13, .s 13), (14, .s 14), (15, .s 15)]
def e149r4 : EE := .q 1 .nl [.s 0] none <|
 .q 2 (.fld 4) [.r 1] none <|
 .q 3 .ld [.r 2] none <|
 .q 4 (.lda 2) [.s 6] none <|
 .both false
 (.x 5 (.call 145) [.r 3, .r 4] none [] <|
 .q 7 (.ext 0) [.r 5] none <|
 .q 8 (.ext 1) [.r 5] none <|
 .x 9 (.alc [z, z, z, z, z, z, z, z, zs, zs, zs, zs, z, z, z, z, z, z, z, z, (.bool false)] 86) [] none [⟨3, .ld, [.r 2], none⟩, ⟨4, (.lda 2), [.s 6], none⟩] <|
 .x 10 (.st 21) [.r 9, .r 7] none [] <|
 .out [(0, .s 0), (3, .s 3), (6, .s 6), (7, .r 9), (13, .s 13), (14, .s 14), (15, .s 15)])
 (.x 9 (.alc [z, z, z, z, z, z, z, z, zs, zs, zs, zs, z, z, z, z, z, z, z, z, (.bool false)] 86) [] none [⟨3, .ld, [.r 2], none⟩, ⟨4, (.lda 2), [.s 6], none⟩] <|
 .x 5 (.call 145) [.r 3, .r 4] none [] <|
 .q 7 (.ext 0) [.r 5] none <|
 .q 8 (.ext 1) [.r 5] none <|
 .x 10 (.st 21) [.r 9, .r 7] none [] <|
 .out [(0, .s 0), (3, .s 3), (6, .s 6), (7, .r 9), (13, .s 13), (14, .s 14), (15, .s 15)])
def e149r5 : EE := .q 0 (.fld 0) [.s 6] none <|
 .q 1 .ld [.r 0] none <|
 .q 3 .nl [.s 0] none <|
 .q 4 (.fld 1) [.r 3] none <|
 .q 5 .ld [.r 4] none <|
 .q 6 .eql [.r 1, .r 5] none <|
 .q 8 (.fld 1) [.s 6] (some (.r 6, true)) <|
 .q 9 .ld [.r 8] (some (.r 6, true)) <|
 .q 10 .mv [.s 0] (some (.r 6, true)) <|
 .q 11 .mv [.s 0] (some (.r 6, true)) <|
 .q 12 .nl [.r 11] (some (.r 6, true)) <|
 .q 13 (.fld 1) [.r 12] (some (.r 6, true)) <|
 .q 14 .ld [.r 13] (some (.r 6, true)) <|
 .q 15 .nl [.r 10] (some (.r 6, true)) <|
 .q 16 (.fld 55) [.r 15] (some (.r 6, true)) <|
 .q 17 (.ixa 7 1) [.r 16, .r 14] (some (.r 6, true)) <|
 .q 18 .ld [.r 17] (some (.r 6, true)) <|
 .q 19 .gtr [.r 9, .r 18] (some (.r 6, true)) <|
 .q 20 .pick [.r 6, .r 19, .c (.bool false)] none <|
 .q 22 (.fld 5) [.s 7] (some (.r 20, true)) <|
 .q 23 (.fld 1) [.r 22] (some (.r 20, true)) <|
 .q 24 .ld [.r 23] (some (.r 20, true)) <|
 .q 25 (.fld 0) [.s 3] (some (.r 20, true)) <|
 .q 26 .ld [.r 25] (some (.r 20, true)) <|
 .q 27 .eql [.r 24, .r 26] (some (.r 20, true)) <|
 .q 28 .pick [.r 20, .r 27, .c (.bool false)] none <|
 .q 30 (.fld 5) [.s 7] (some (.r 28, true)) <|
 .q 31 (.fld 2) [.r 30] (some (.r 28, true)) <|
 .q 32 .ld [.r 31] (some (.r 28, true)) <|
 .q 33 (.fld 1) [.s 3] (some (.r 28, true)) <|
 .q 34 .ld [.r 33] (some (.r 28, true)) <|
 .q 35 .eql [.r 32, .r 34] (some (.r 28, true)) <|
 .q 36 .pick [.r 28, .r 35, .c (.bool false)] none <|
 .out [(0, .s 0), (3, .s 3), (13, .s 13), (14, .s 14), (15, .s 15), (64, .r 36)]
def e149r6 : EE := .out [(4, .c (.bool true))]
def e149r7 : EE := .q 0 .add [.s 15, .c (.int .i64 1)] none <|
 .out [(0, .s 0), (3, .s 3), (13, .s 13), (14, .s 14), (15, .r 0)]
def e149l8 : EC := (.seq (.reg e149r2 [0, 3, 13, 14, 15] 0) (.seq (.cond (.s 16) .skip (.exit 0)) (.seq (.block 1 (.seq (.reg e149r3 [0, 3, 13, 14, 15] 0) (.seq (.reg e149r4 [0, 3, 6, 13, 14, 15] 11) (.seq (.reg e149r5 [0, 3, 6, 7, 13, 14, 15] 0) (.cond (.s 64) (.seq (.reg e149r6 [] 0) .ret) .skip))))) (.reg e149r7 [0, 3, 13, 14, 15] 0))))
def e149r9 : EE := .out [(4, .c (.bool false))]
def e149 : EFn := ⟨(.seq (.reg e149r0 [0, 1] 0) (.seq (.seq (.reg e149r1 [0, 3] 0) (.block 0 (.loop [0, 3, 13, 14, 15] e149l8))) (.seq (.reg e149r9 [] 0) .ret))), [.slot 4], 66, 0⟩
theorem g149 : Good Tryz.prog 149 e149 := ⟨Tryz.f149, Tryz.func149, by kernel_rfl, by kernel_rfl, by kernel_rfl, by kernel_rfl⟩
/-! (*concord/core.Core).Propose -/
def e150r0 : EE := .x 0 (.box 30) [.s 1] none [] <|
 .x 1 (.alc [z, z] 80) [] none [] <|
 .out [(0, .s 0), (3, .r 0), (4, .r 1)]
def e150r1 : EE := .q 1 .nl [.s 0] none <|
 .q 2 (.fld 1) [.r 1] none <|
 .q 3 .ld [.r 2] none <|
 .q 5 .nl [.s 0] none <|
 .q 6 (.fld 2) [.r 5] none <|
 .q 7 .ld [.r 6] none <|
 .q 10 .nl [.s 0] none <|
 .q 11 (.fld 1) [.r 10] none <|
 .q 12 .ld [.r 11] none <|
 .both false
 (.x 8 (.call 52) [.r 7] none [⟨3, .ld, [.r 2], none⟩, ⟨12, .ld, [.r 11], none⟩] <|
 .q 13 (.idx 7 1) [.r 8, .r 12] none <|
 .q 14 .add [.r 13, .c (.int .i64 1)] none <|
 .q 15 (.bld [z, z] [(0, 1), (1, 1)]) [.r 3, .r 14] none <|
 .x 16 (.alc [z, z] 80) [] none [⟨3, .ld, [.r 2], none⟩, ⟨7, .ld, [.r 6], none⟩, ⟨12, .ld, [.r 11], none⟩] <|
 .x 17 (.st 2) [.r 16, .r 15] none [] <|
 .out [(0, .s 0), (3, .s 3), (4, .s 4), (6, .r 16)])
 (.x 16 (.alc [z, z] 80) [] none [⟨3, .ld, [.r 2], none⟩, ⟨7, .ld, [.r 6], none⟩, ⟨12, .ld, [.r 11], none⟩] <|
 .x 8 (.call 52) [.r 7] none [⟨3, .ld, [.r 2], none⟩, ⟨12, .ld, [.r 11], none⟩] <|
 .q 13 (.idx 7 1) [.r 8, .r 12] none <|
 .q 14 .add [.r 13, .c (.int .i64 1)] none <|
 .q 15 (.bld [z, z] [(0, 1), (1, 1)]) [.r 3, .r 14] none <|
 .x 17 (.st 2) [.r 16, .r 15] none [] <|
 .out [(0, .s 0), (3, .s 3), (4, .s 4), (6, .r 16)])
def e150r2 : EE := .q 0 (.lda 7) [.s 3] none <|
 .x 1 (.call 83) [.r 0] none [] <|
 .q 2 .not [.r 1] none <|
 .q 4 (.fld 0) [.s 3] (some (.r 2, false)) <|
 .q 5 .ld [.r 4] (some (.r 2, false)) <|
 .q 6 .eql [.r 5, .c z] (some (.r 2, false)) <|
 .q 7 .pick [.r 2, .c (.bool true), .r 6] none <|
 .q 9 (.fld 1) [.s 6] (some (.r 7, false)) <|
 .q 10 .ld [.r 9] (some (.r 7, false)) <|
 .q 11 .gtr [.r 10, .c (.int .i64 1073741824)] (some (.r 7, false)) <|
 .q 12 .pick [.r 7, .c (.bool true), .r 11] none <|
 .q 14 .mv [.s 0] (some (.r 12, false)) <|
 .q 15 .nl [.r 14] (some (.r 12, false)) <|
 .q 16 (.fld 4) [.r 15] (some (.r 12, false)) <|
 .q 17 .ld [.r 16] (some (.r 12, false)) <|
 .q 18 .len [.r 17] (some (.r 12, false)) <|
 .q 19 .geq [.r 18, .c (.int .i64 256)] (some (.r 12, false)) <|
 .q 20 .pick [.r 12, .c (.bool true), .r 19] none <|
 .out [(0, .s 0), (3, .s 3), (4, .s 4), (6, .s 6), (44, .r 20)]
def e150r3 : EE := .q 0 (.bld [z, z] []) [] none <|
 .x 1 (.st 2) [.s 4, .r 0] none [] <|
 .out [(4, .s 4), (5, .c (.bool false))]
def e150r4 : EE := .q 1 .nl [.s 0] none <|
 .q 2 (.fld 3) [.r 1] none <|
 .q 3 .ld [.r 2] none <|
 .q 4 (.lda 2) [.s 6] none <|
 .q 5 (.lda 7) [.s 3] none <|
 .both false
 (.x 6 (.call 210) [.r 3, .r 4, .r 5] none [] <|
 .x 7 (.alc [z, z, z, z, z, z, z, z] 84) [] none [⟨3, .ld, [.r 2], none⟩, ⟨4, (.lda 2), [.s 6], none⟩, ⟨5, (.lda 7), [.s 3], none⟩] <|
 .x 8 (.st 8) [.r 7, .r 6] none [] <|
 .out [(0, .s 0), (3, .s 3), (4, .s 4), (6, .s 6), (7, .r 7)])
 (.x 7 (.alc [z, z, z, z, z, z, z, z] 84) [] none [⟨3, .ld, [.r 2], none⟩, ⟨4, (.lda 2), [.s 6], none⟩, ⟨5, (.lda 7), [.s 3], none⟩] <|
 .x 6 (.call 210) [.r 3, .r 4, .r 5] none [] <|
 .x 8 (.st 8) [.r 7, .r 6] none [] <|
 .out [(0, .s 0), (3, .s 3), (4, .s 4), (6, .s 6), (7, .r 7)])
def e150r5 : EE := .q 0 (.lda 8) [.s 7] none <|
 .x 1 (.call 66) [.r 0] none [] <|
 .q 2 .not [.r 1] none <|
 .out [(0, .s 0), (3, .s 3), (4, .s 4), (6, .s 6), (7, .s 7), (55, .r 2)]
def e150r6 : EE := .q 0 (.bld [z, z] []) [] none <|
 .x 1 (.st 2) [.s 4, .r 0] none [] <|
 .out [(4, .s 4), (5, .c (.bool false))]
def e150r7 : EE := .q 1 (.lda 2) [.s 6] none <|
 .q 2 (.lda 7) [.s 3] none <|
 .q 3 (.lda 8) [.s 7] none <|
 .q 4 (.bld [z, z, z, z, z, z, z, z, zs, zs, zs, zs, z, z, z, z, z, z, z, z, (.bool false)] [(0, 1), (5, 7), (12, 8), (20, 1)]) [.c (.int .i64 1), .r 2, .r 3, .c (.bool true)] none <|
 .x 5 (.call 174) [.s 0, .r 1, .r 4] none [] <|
 .out [(0, .s 0), (3, .s 3), (4, .s 4), (6, .s 6), (7, .s 7)]
def e150r8 : EE := .q 1 (.lda 2) [.s 6] none <|
 .q 2 (.lda 7) [.s 3] none <|
 .q 3 (.lda 8) [.s 7] none <|
 .q 4 (.bld [z, z, z, z, z, (.bool false), z, z, z, zs, zs, zs, zs, z, z, z, z, z, z, z, z, z, z, z, z, z, z, z, .nsl, .nsl, z, z] [(0, 2), (2, 1), (5, 1), (6, 7), (13, 8)]) [.r 1, .c z, .c (.bool true), .r 2, .r 3] none <|
 .x 5 (.box 181) [.r 4] none [] <|
 .x 6 (.call 175) [.s 0, .r 5] none [] <|
 .out [(4, .s 4), (6, .s 6)]
def e150r9 : EE := .q 0 (.lda 2) [.s 6] none <|
 .x 1 (.st 2) [.s 4, .r 0] none [] <|
 .out [(4, .s 4), (5, .c (.bool true))]
def e150 : EFn := ⟨(.seq (.reg e150r0 [0, 1] 0) (.seq (.reg e150r1 [0, 3, 4] 18) (.seq (.seq (.reg e150r2 [0, 3, 4, 6] 0) (.cond (.s 44) (.seq (.reg e150r3 [4] 0) .ret) .skip)) (.seq (.reg e150r4 [0, 3, 4, 6] 9) (.seq (.seq (.reg e150r5 [0, 3, 4, 6, 7] 0) (.cond (.s 55) (.seq (.reg e150r6 [4] 0) .ret) .skip)) (.seq (.reg e150r7 [0, 3, 4, 6, 7] 0) (.seq (.reg e150r8 [0, 3, 4, 6, 7] 0) (.seq (.reg e150r9 [4, 6] 0) .ret)))))))), [.cells 4 2, .slot 5], 71, 0⟩
theorem g150 : Good Tryz.prog 150 e150 := ⟨Tryz.f150, Tryz.func150, by kernel_rfl, by kernel_rfl, by kernel_rfl, by kernel_rfl⟩
/-! slices.Contains[[]concord/api.Inst,concord/api.Inst] -/
def e151r0 : EE := .x 0 (.box 80) [.s 1] none [] <|
 .out [(0, .s 0), (3, .r 0)]
def e151r1 : EE := .q 1 (.lda 2) [.s 3] none <|
 .x 2 (.call 211) [.s 0, .r 1] none [] <|
 .q 3 .geq [.r 2, .c z] none <|
 .out [(4, .r 3)]
def e151 : EFn := ⟨(.seq (.reg e151r0 [0, 1] 0) (.seq (.reg e151r1 [0, 3] 0) .ret)), [.slot 4], 9, 0⟩
theorem g151 : Good Tryz.prog 151 e151 := ⟨Tryz.f151, Tryz.func151, by kernel_rfl, by kernel_rfl, by kernel_rfl, by kernel_rfl⟩
/-! concord/letter.named -/
def e152r0 : EE := .x 0 (.alc [(.bool false), (.bool false), (.bool false), (.bool false), (.bool false), (.bool false), (.bool false)] 254) [] none [] <|
 .out [(0, .s 0), (2, .r 0)]
def e152r1 : EE := .out [(2, .s 2), (4, .s 0)]
def e152r2 : EE := .q 0 .eql [.s 4, .c (.int .i64 1)] none <|
 .out [(2, .s 2), (4, .s 4), (5, .r 0)]
def e152r3 : EE := .q 0 .eql [.s 4, .c (.int .i64 3)] none <|
 .out [(2, .s 2), (4, .s 4), (5, .r 0)]
def e152r4 : EE := .q 0 (.bld [(.bool false), (.bool false), (.bool false), (.bool false), (.bool false), (.bool false), (.bool false)] [(0, 1), (1, 1), (2, 1), (3, 1)]) [.c (.bool true), .c (.bool true), .c (.bool true), .c (.bool true)] none <|
 .x 1 (.st 7) [.s 2, .r 0] none [] <|
 .out [(2, .s 2), (3, .c (.bool true))]
def e152r5 : EE := .q 0 .eql [.s 4, .c (.int .i64 2)] none <|
 .out [(2, .s 2), (4, .s 4), (9, .r 0)]
def e152r6 : EE := .q 0 (.bld [(.bool false), (.bool false), (.bool false), (.bool false), (.bool false), (.bool false), (.bool false)] [(0, 1), (1, 1), (3, 1)]) [.c (.bool true), .c (.bool true), .c (.bool true)] none <|
 .x 1 (.st 7) [.s 2, .r 0] none [] <|
 .out [(2, .s 2), (3, .c (.bool true))]
def e152r7 : EE := .q 0 .eql [.s 4, .c (.int .i64 4)] none <|
 .out [(2, .s 2), (4, .s 4), (12, .r 0)]
def e152r8 : EE := .q 0 .eql [.s 4, .c (.int .i64 6)] none <|
 .out [(2, .s 2), (4, .s 4), (12, .r 0)]
def e152r9 : EE := .q 0 .eql [.s 4, .c (.int .i64 8)] none <|
 .out [(2, .s 2), (4, .s 4), (12, .r 0)]
def e152r10 : EE := .q 0 (.bld [(.bool false), (.bool false), (.bool false), (.bool false), (.bool false), (.bool false), (.bool false)] [(0, 1), (1, 1)]) [.c (.bool true), .c (.bool true)] none <|
 .x 1 (.st 7) [.s 2, .r 0] none [] <|
 .out [(2, .s 2), (3, .c (.bool true))]
def e152r11 : EE := .q 0 .eql [.s 4, .c (.int .i64 5)] none <|
 .out [(2, .s 2), (4, .s 4), (17, .r 0)]
def e152r12 : EE := .q 0 (.bld [(.bool false), (.bool false), (.bool false), (.bool false), (.bool false), (.bool false), (.bool false)] [(0, 1), (2, 1), (3, 1)]) [.c (.bool true), .c (.bool true), .c (.bool true)] none <|
 .x 1 (.st 7) [.s 2, .r 0] none [] <|
 .out [(2, .s 2), (3, .c (.bool true))]
def e152r13 : EE := .q 0 .eql [.s 4, .c (.int .i64 7)] none <|
 .out [(2, .s 2), (4, .s 4), (20, .r 0)]
def e152r14 : EE := .q 0 (.bld [(.bool false), (.bool false), (.bool false), (.bool false), (.bool false), (.bool false), (.bool false)] [(0, 1), (1, 1), (4, 1)]) [.c (.bool true), .c (.bool true), .c (.bool true)] none <|
 .x 1 (.st 7) [.s 2, .r 0] none [] <|
 .out [(2, .s 2), (3, .c (.bool true))]
def e152r15 : EE := .q 0 .eql [.s 4, .c (.int .i64 9)] none <|
 .out [(2, .s 2), (4, .s 4), (23, .r 0)]
def e152r16 : EE := .q 0 .eql [.s 4, .c (.int .i64 11)] none <|
 .out [(2, .s 2), (4, .s 4), (23, .r 0)]
def e152r17 : EE := .q 0 (.bld [(.bool false), (.bool false), (.bool false), (.bool false), (.bool false), (.bool false), (.bool false)] [(5, 1)]) [.c (.bool true)] none <|
 .x 1 (.st 7) [.s 2, .r 0] none [] <|
 .out [(2, .s 2), (3, .c (.bool true))]
def e152r18 : EE := .q 0 .eql [.s 4, .c (.int .i64 10)] none <|
 .out [(2, .s 2), (27, .r 0)]
def e152r19 : EE := .q 0 (.bld [(.bool false), (.bool false), (.bool false), (.bool false), (.bool false), (.bool false), (.bool false)] [(6, 1)]) [.c (.bool true)] none <|
 .x 1 (.st 7) [.s 2, .r 0] none [] <|
 .out [(2, .s 2), (3, .c (.bool true))]
def e152r20 : EE := .q 0 (.bld [(.bool false), (.bool false), (.bool false), (.bool false), (.bool false), (.bool false), (.bool false)] []) [] none <|
 .x 1 (.st 7) [.s 2, .r 0] none [] <|
 .out [(2, .s 2), (3, .c (.bool false))]
def e152 : EFn := ⟨(.seq (.reg e152r0 [0] 0) (.seq (.seq (.reg e152r1 [0, 2] 0) (.block 0 (.seq (.seq (.reg e152r2 [2, 4] 0) (.cond (.s 5) .skip (.reg e152r3 [2, 4] 0))) (.cond (.s 5) (.seq (.reg e152r4 [2] 0) .ret) (.seq (.reg e152r5 [2, 4] 0) (.cond (.s 9) (.seq (.reg e152r6 [2] 0) .ret) (.seq (.seq (.reg e152r7 [2, 4] 0) (.cond (.s 12) .skip (.seq (.reg e152r8 [2, 4] 0) (.cond (.s 12) .skip (.reg e152r9 [2, 4] 0))))) (.cond (.s 12) (.seq (.reg e152r10 [2] 0) .ret) (.seq (.reg e152r11 [2, 4] 0) (.cond (.s 17) (.seq (.reg e152r12 [2] 0) .ret) (.seq (.reg e152r13 [2, 4] 0) (.cond (.s 20) (.seq (.reg e152r14 [2] 0) .ret) (.seq (.seq (.reg e152r15 [2, 4] 0) (.cond (.s 23) .skip (.reg e152r16 [2, 4] 0))) (.cond (.s 23) (.seq (.reg e152r17 [2] 0) .ret) (.seq (.reg e152r18 [2, 4] 0) (.cond (.s 27) (.seq (.reg e152r19 [2] 0) .ret) .skip)))))))))))))))) (.seq (.reg e152r20 [2] 0) .ret))), [.cells 2 7, .slot 3], 31, 0⟩
theorem g152 : Good Tryz.prog 152 e152 := ⟨Tryz.f152, Tryz.func152, by kernel_rfl, by kernel_rfl, by kernel_rfl, by kernel_rfl⟩
/-! concord/letter.place -/
def e153r0 : EE := .out [(0, .s 0)]
def e153r1 : EE := .q 1 .geq [.s 0, .c z] none <|
 .q 3 .mv [.s 0] (some (.r 1, true)) <|
 .q 4 .lss [.r 3, .c (.int .i64 7)] (some (.r 1, true)) <|
 .q 5 .pick [.r 1, .r 4, .c (.bool false)] none <|
 .out [(2, .r 5)]
def e153 : EFn := ⟨(.seq (.reg e153r0 [0] 0) (.seq (.reg e153r1 [0] 0) .ret)), [.slot 2], 9, 0⟩
theorem g153 : Good Tryz.prog 153 e153 := ⟨Tryz.f153, Tryz.func153, by kernel_rfl, by kernel_rfl, by kernel_rfl, by kernel_rfl⟩
/-! concord/letter.bare -/
def e154r0 : EE := .x 0 (.box 88) [.s 0] none [] <|
 .x 1 (.box 254) [.s 1] none [] <|
 .x 2 (.alc [z, z, z, z, z, z, z, z, z, z, zs, zs, zs, zs, z, z, z, z, z, z, z, z, z, z, z, z, z, z, z, z, zs, zs, zs, zs, z, z, z, z, z, z, z, z, (.bool false), z, z, z, z, z, z, z, zs] 88) [] none [] <|
 .out [(2, .r 0), (3, .r 1), (4, .r 2)]
def e154r1 : EE := .q 0 (.fld 0) [.s 2] none <|
 .q 1 .ld [.r 0] none <|
 .q 2 (.fld 1) [.s 2] none <|
 .q 3 .ld [.r 2] none <|
 .q 4 (.fld 2) [.s 2] none <|
 .q 5 .ld [.r 4] none <|
 .q 6 (.bld [z, z, z, z, z, z, z, z, z, z, zs, zs, zs, zs, z, z, z, z, z, z, z, z, z, z, z, z, z, z, z, z, zs, zs, zs, zs, z, z, z, z, z, z, z, z, (.bool false), z, z, z, z, z, z, z, zs] [(0, 1), (1, 1), (2, 1)]) [.r 1, .r 3, .r 5] none <|
 .x 7 (.alc [z, z, z, z, z, z, z, z, z, z, zs, zs, zs, zs, z, z, z, z, z, z, z, z, z, z, z, z, z, z, z, z, zs, zs, zs, zs, z, z, z, z, z, z, z, z, (.bool false), z, z, z, z, z, z, z, zs] 88) [] none [] <|
 .x 8 (.st 51) [.r 7, .r 6] none [] <|
 .out [(2, .s 2), (3, .s 3), (4, .s 4), (5, .r 7)]
def e154r2 : EE := .q 0 (.fld 0) [.s 3] none <|
 .q 1 .ld [.r 0] none <|
 .out [(2, .s 2), (3, .s 3), (4, .s 4), (5, .s 5), (14, .r 1)]
def e154r3 : EE := .q 0 (.fld 3) [.s 2] none <|
 .q 1 (.lda 2) [.r 0] none <|
 .q 2 (.fld 3) [.s 5] none <|
 .x 3 (.st 2) [.r 2, .r 1] none [] <|
 .out [(2, .s 2), (3, .s 3), (4, .s 4), (5, .s 5)]
def e154r4 : EE := .q 0 (.fld 1) [.s 3] none <|
 .q 1 .ld [.r 0] none <|
 .out [(2, .s 2), (3, .s 3), (4, .s 4), (5, .s 5), (19, .r 1)]
def e154r5 : EE := .q 0 (.fld 5) [.s 2] none <|
 .q 1 (.lda 2) [.r 0] none <|
 .q 2 (.fld 5) [.s 5] none <|
 .x 3 (.st 2) [.r 2, .r 1] none [] <|
 .out [(2, .s 2), (3, .s 3), (4, .s 4), (5, .s 5)]
def e154r6 : EE := .q 0 (.fld 2) [.s 3] none <|
 .q 1 .ld [.r 0] none <|
 .out [(2, .s 2), (3, .s 3), (4, .s 4), (5, .s 5), (24, .r 1)]
def e154r7 : EE := .q 0 (.fld 7) [.s 2] none <|
 .q 1 (.lda 7) [.r 0] none <|
 .q 2 (.fld 7) [.s 5] none <|
 .x 3 (.st 7) [.r 2, .r 1] none [] <|
 .out [(2, .s 2), (3, .s 3), (4, .s 4), (5, .s 5)]
def e154r8 : EE := .q 0 (.fld 3) [.s 3] none <|
 .q 1 .ld [.r 0] none <|
 .out [(2, .s 2), (3, .s 3), (4, .s 4), (5, .s 5), (29, .r 1)]
def e154r9 : EE := .q 0 (.fld 14) [.s 2] none <|
 .q 1 (.lda 8) [.r 0] none <|
 .q 2 (.fld 14) [.s 5] none <|
 .x 3 (.st 8) [.r 2, .r 1] none [] <|
 .out [(2, .s 2), (3, .s 3), (4, .s 4), (5, .s 5)]
def e154r10 : EE := .q 0 (.fld 4) [.s 3] none <|
 .q 1 .ld [.r 0] none <|
 .out [(2, .s 2), (3, .s 3), (4, .s 4), (5, .s 5), (34, .r 1)]
def e154r11 : EE := .q 0 (.fld 22) [.s 2] none <|
 .q 1 (.lda 21) [.r 0] none <|
 .q 2 (.fld 22) [.s 5] none <|
 .x 3 (.st 21) [.r 2, .r 1] none [] <|
 .out [(2, .s 2), (3, .s 3), (4, .s 4), (5, .s 5)]
def e154r12 : EE := .q 0 (.fld 5) [.s 3] none <|
 .q 1 .ld [.r 0] none <|
 .out [(2, .s 2), (3, .s 3), (4, .s 4), (5, .s 5), (39, .r 1)]
def e154r13 : EE := .q 0 (.fld 43) [.s 2] none <|
 .q 1 (.lda 7) [.r 0] none <|
 .q 2 (.fld 43) [.s 5] none <|
 .x 3 (.st 7) [.r 2, .r 1] none [] <|
 .out [(2, .s 2), (3, .s 3), (4, .s 4), (5, .s 5)]
def e154r14 : EE := .q 0 (.fld 6) [.s 3] none <|
 .q 1 .ld [.r 0] none <|
 .out [(2, .s 2), (4, .s 4), (5, .s 5), (44, .r 1)]
def e154r15 : EE := .q 0 (.fld 50) [.s 2] none <|
 .q 1 .ld [.r 0] none <|
 .q 2 (.fld 50) [.s 5] none <|
 .x 3 (.st 1) [.r 2, .r 1] none [] <|
 .out [(4, .s 4), (5, .s 5)]
def e154r16 : EE := .q 0 (.lda 51) [.s 5] none <|
 .x 1 (.st 51) [.s 4, .r 0] none [] <|
 .out [(4, .s 4)]
def e154 : EFn := ⟨(.seq (.reg e154r0 [0, 1] 0) (.seq (.reg e154r1 [2, 3, 4] 0) (.seq (.seq (.reg e154r2 [2, 3, 4, 5] 0) (.cond (.s 14) (.reg e154r3 [2, 3, 4, 5] 0) .skip)) (.seq (.seq (.reg e154r4 [2, 3, 4, 5] 0) (.cond (.s 19) (.reg e154r5 [2, 3, 4, 5] 0) .skip)) (.seq (.seq (.reg e154r6 [2, 3, 4, 5] 0) (.cond (.s 24) (.reg e154r7 [2, 3, 4, 5] 0) .skip)) (.seq (.seq (.reg e154r8 [2, 3, 4, 5] 0) (.cond (.s 29) (.reg e154r9 [2, 3, 4, 5] 0) .skip)) (.seq (.seq (.reg e154r10 [2, 3, 4, 5] 0) (.cond (.s 34) (.reg e154r11 [2, 3, 4, 5] 0) .skip)) (.seq (.seq (.reg e154r12 [2, 3, 4, 5] 0) (.cond (.s 39) (.reg e154r13 [2, 3, 4, 5] 0) .skip)) (.seq (.seq (.reg e154r14 [2, 3, 4, 5] 0) (.cond (.s 44) (.reg e154r15 [2, 4, 5] 0) .skip)) (.seq (.reg e154r16 [4, 5] 0) .ret)))))))))), [.cells 4 51], 49, 0⟩
theorem g154 : Good Tryz.prog 154 e154 := ⟨Tryz.f154, Tryz.func154, by kernel_rfl, by kernel_rfl, by kernel_rfl, by kernel_rfl⟩
/-! concord/inst.RightBallot -/
def e155r0 : EE := .x 0 (.box 82) [.s 0] none [] <|
 .out [(1, .r 0)]
def e155r1 : EE := .q 0 (.fld 0) [.s 1] none <|
 .q 1 .ld [.r 0] none <|
 .q 2 .geq [.r 1, .c z] none <|
 .q 4 (.fld 0) [.s 1] (some (.r 2, true)) <|
 .q 5 .ld [.r 4] (some (.r 2, true)) <|
 .q 6 .leq [.r 5, .c (.int .i64 1073741824)] (some (.r 2, true)) <|
 .q 7 .pick [.r 2, .r 6, .c (.bool false)] none <|
 .q 9 (.fld 1) [.s 1] (some (.r 7, true)) <|
 .q 10 .ld [.r 9] (some (.r 7, true)) <|
 .q 11 .geq [.r 10, .c z] (some (.r 7, true)) <|
 .q 12 .pick [.r 7, .r 11, .c (.bool false)] none <|
 .q 14 (.fld 1) [.s 1] (some (.r 12, true)) <|
 .q 15 .ld [.r 14] (some (.r 12, true)) <|
 .q 16 .lss [.r 15, .c (.int .i64 7)] (some (.r 12, true)) <|
 .q 17 .pick [.r 12, .r 16, .c (.bool false)] none <|
 .out [(2, .r 17)]
def e155 : EFn := ⟨(.seq (.reg e155r0 [0] 0) (.seq (.reg e155r1 [1] 0) .ret)), [.slot 2], 21, 0⟩
theorem g155 : Good Tryz.prog 155 e155 := ⟨Tryz.f155, Tryz.func155, by kernel_rfl, by kernel_rfl, by kernel_rfl, by kernel_rfl⟩
/-! (*concord/core.Core).one -/
def e157r0 : EE := .out [(0, .s 0), (1, .s 1)]
def e157r1 : EE := .q 1 .geq [.s 1, .c z] none <|
 .q 3 .mv [.s 1] (some (.r 1, true)) <|
 .q 4 .mv [.s 0] (some (.r 1, true)) <|
 .q 5 .nl [.r 4] (some (.r 1, true)) <|
 .q 6 (.fld 0) [.r 5] (some (.r 1, true)) <|
 .q 7 .ld [.r 6] (some (.r 1, true)) <|
 .q 8 .lss [.r 3, .r 7] (some (.r 1, true)) <|
 .q 9 .pick [.r 1, .r 8, .c (.bool false)] none <|
 .out [(4, .r 9)]
def e157 : EFn := ⟨(.seq (.reg e157r0 [0, 1] 0) (.seq (.reg e157r1 [0, 1] 0) .ret)), [.slot 4], 15, 0⟩
theorem g157 : Good Tryz.prog 157 e157 := ⟨Tryz.f157, Tryz.func157, by kernel_rfl, by kernel_rfl, by kernel_rfl, by kernel_rfl⟩
/-! (*concord/core.Core).asked -/
def e158r0 : EE := .x 0 (.box 88) [.s 1] none [] <|
 .out [(0, .s 0), (3, .r 0)]
def e158r1 : EE := .q 1 .nl [.s 0] none <|
 .q 2 (.fld 2) [.r 1] none <|
 .q 3 .ld [.r 2] none <|
 .q 4 (.fld 3) [.s 3] none <|
 .q 5 (.lda 2) [.r 4] none <|
 .both false
 (.x 6 (.call 95) [.r 3, .r 5] none [] <|
 .q 8 (.ext 0) [.r 6] none <|
 .q 9 (.ext 1) [.r 6] none <|
 .x 10 (.alc [z, z, z, z, z, z, z, z, zs, zs, zs, zs, z, z, z, z, z, z, z, z, (.bool false)] 86) [] none [⟨3, .ld, [.r 2], none⟩, ⟨5, (.lda 2), [.r 4], none⟩] <|
 .x 11 (.st 21) [.r 10, .r 8] none [] <|
 .out [(0, .s 0), (3, .s 3), (4, .r 10)])
 (.x 10 (.alc [z, z, z, z, z, z, z, z, zs, zs, zs, zs, z, z, z, z, z, z, z, z, (.bool false)] 86) [] none [⟨3, .ld, [.r 2], none⟩, ⟨5, (.lda 2), [.r 4], none⟩] <|
 .x 6 (.call 95) [.r 3, .r 5] none [] <|
 .q 8 (.ext 0) [.r 6] none <|
 .q 9 (.ext 1) [.r 6] none <|
 .x 11 (.st 21) [.r 10, .r 8] none [] <|
 .out [(0, .s 0), (3, .s 3), (4, .r 10)])
def e158r2 : EE := .q 0 (.fld 0) [.s 4] none <|
 .q 1 .ld [.r 0] none <|
 .q 2 .eql [.r 1, .c (.int .i64 3)] none <|
 .out [(0, .s 0), (3, .s 3), (4, .s 4), (21, .r 2)]
def e158r3 : EE := .q 1 (.fld 1) [.s 3] none <|
 .q 2 .ld [.r 1] none <|
 .q 3 (.fld 3) [.s 3] none <|
 .q 4 (.lda 2) [.r 3] none <|
 .q 5 (.fld 5) [.s 4] none <|
 .q 6 (.lda 7) [.r 5] none <|
 .q 7 (.fld 12) [.s 4] none <|
 .q 8 (.lda 8) [.r 7] none <|
 .q 9 (.bld [z, z, z, z, z, z, z, z, z, z, zs, zs, zs, zs, z, z, z, z, z, z, z, z, z, z, z, z, z, z, z, z, zs, zs, zs, zs, z, z, z, z, z, z, z, z, (.bool false), z, z, z, z, z, z, z, zs] [(0, 1), (3, 2), (7, 7), (14, 8)]) [.c (.int .i64 5), .r 4, .r 6, .r 8] none <|
 .x 10 (.call 165) [.s 0, .r 2, .r 9] none [] <|
 .out []
def e158r4 : EE := .q 0 (.fld 5) [.s 3] none <|
 .q 1 (.lda 2) [.r 0] none <|
 .q 2 (.fld 1) [.s 4] none <|
 .q 3 (.lda 2) [.r 2] none <|
 .x 4 (.call 172) [.r 1, .r 3] none [] <|
 .out [(0, .s 0), (3, .s 3), (4, .s 4), (37, .r 4)]
def e158r5 : EE := .q 1 (.fld 1) [.s 3] none <|
 .q 2 .ld [.r 1] none <|
 .q 3 (.fld 3) [.s 3] none <|
 .q 4 (.lda 2) [.r 3] none <|
 .q 5 (.fld 1) [.s 4] none <|
 .q 6 (.lda 2) [.r 5] none <|
 .q 7 (.bld [z, z, z, z, z, z, z, z, z, z, zs, zs, zs, zs, z, z, z, z, z, z, z, z, z, z, z, z, z, z, z, z, zs, zs, zs, zs, z, z, z, z, z, z, z, z, (.bool false), z, z, z, z, z, z, z, zs] [(0, 1), (3, 2), (5, 2)]) [.c (.int .i64 8), .r 4, .r 6] none <|
 .x 8 (.call 165) [.s 0, .r 2, .r 7] none [] <|
 .out []
def e158r6 : EE := .q 1 (.fld 3) [.s 3] none <|
 .q 2 (.lda 2) [.r 1] none <|
 .x 3 (.call 96) [.s 0, .r 2] none [] <|
 .out [(0, .s 0), (3, .s 3), (4, .s 4), (6, .r 3)]
def e158r7 : EE := .q 1 (.eqp true) [.s 6, .c .nptr] none <|
 .q 3 .mv [.s 6] (some (.r 1, true)) <|
 .q 4 .nl [.r 3] (some (.r 1, true)) <|
 .q 5 (.fld 3) [.r 4] (some (.r 1, true)) <|
 .q 6 (.lda 2) [.r 5] (some (.r 1, true)) <|
 .q 7 (.fld 5) [.s 3] (some (.r 1, true)) <|
 .q 8 (.lda 2) [.r 7] (some (.r 1, true)) <|
 .x 9 (.call 172) [.r 6, .r 8] (some (.r 1, true)) [] <|
 .q 10 .pick [.r 1, .r 9, .c (.bool false)] none <|
 .out [(0, .s 0), (3, .s 3), (4, .s 4), (61, .r 10)]
def e158r8 : EE := .q 1 (.fld 3) [.s 3] none <|
 .q 2 (.lda 2) [.r 1] none <|
 .x 3 (.call 212) [.s 0, .r 2] none [] <|
 .out [(0, .s 0), (3, .s 3), (4, .s 4)]
def e158r9 : EE := .q 0 (.fld 0) [.s 4] none <|
 .q 1 .ld [.r 0] none <|
 .q 2 .neq [.r 1, .c z] none <|
 .q 4 (.fld 3) [.s 4] (some (.r 2, true)) <|
 .q 5 (.lda 2) [.r 4] (some (.r 2, true)) <|
 .q 6 (.fld 5) [.s 3] (some (.r 2, true)) <|
 .q 7 (.lda 2) [.r 6] (some (.r 2, true)) <|
 .q 8 (.eqc false [(.i .i64), (.i .i64)]) [.r 5, .r 7] (some (.r 2, true)) <|
 .q 9 .pick [.r 2, .r 8, .c (.bool false)] none <|
 .out [(0, .s 0), (3, .s 3), (4, .s 4), (7, .r 9)]
def e158r10 : EE := .q 0 (.fld 0) [.s 3] none <|
 .q 1 .ld [.r 0] none <|
 .out [(0, .s 0), (3, .s 3), (4, .s 4), (7, .s 7), (77, .r 1)]
def e158r11 : EE := .q 0 .eql [.s 77, .c (.int .i64 1)] none <|
 .out [(0, .s 0), (3, .s 3), (4, .s 4), (7, .s 7), (77, .s 77), (78, .r 0)]
def e158r12 : EE := .q 1 (.lda 51) [.s 3] none <|
 .q 2 (.lda 21) [.s 4] none <|
 .x 4 (.call 213) [.s 0, .r 1, .r 2, .s 7] none [] <|
 .out []
def e158r13 : EE := .q 0 .eql [.s 77, .c (.int .i64 3)] none <|
 .out [(0, .s 0), (3, .s 3), (4, .s 4), (7, .s 7), (77, .s 77), (85, .r 0)]
def e158r14 : EE := .q 2 (.fld 0) [.s 4] (some (.s 7, true)) <|
 .q 3 .ld [.r 2] (some (.s 7, true)) <|
 .q 4 .eql [.r 3, .c (.int .i64 2)] (some (.s 7, true)) <|
 .q 5 .pick [.s 7, .r 4, .c (.bool false)] none <|
 .out [(0, .s 0), (3, .s 3), (8, .r 5)]
def e158r15 : EE := .q 2 .mv [.s 0] (some (.s 8, false)) <|
 .q 3 (.fld 3) [.s 3] (some (.s 8, false)) <|
 .q 4 (.lda 2) [.r 3] (some (.s 8, false)) <|
 .q 5 (.fld 5) [.s 3] (some (.s 8, false)) <|
 .q 6 (.lda 2) [.r 5] (some (.s 8, false)) <|
 .q 7 (.fld 5) [.s 3] (some (.s 8, false)) <|
 .q 8 (.lda 2) [.r 7] (some (.s 8, false)) <|
 .q 9 (.fld 7) [.s 3] (some (.s 8, false)) <|
 .q 10 (.lda 7) [.r 9] (some (.s 8, false)) <|
 .q 11 (.fld 14) [.s 3] (some (.s 8, false)) <|
 .q 12 (.lda 8) [.r 11] (some (.s 8, false)) <|
 .q 13 (.bld [z, z, z, z, z, z, z, z, zs, zs, zs, zs, z, z, z, z, z, z, z, z, (.bool false)] [(0, 1), (1, 2), (3, 2), (5, 7), (12, 8)]) [.c (.int .i64 2), .r 6, .r 8, .r 10, .r 12] (some (.s 8, false)) <|
 .x 14 (.call 174) [.r 2, .r 4, .r 13] (some (.s 8, false)) [] <|
 .q 15 .pick [.s 8, .c (.bool true), .r 14] none <|
 .out [(0, .s 0), (3, .s 3), (108, .r 15)]
def e158r16 : EE := .q 1 (.fld 1) [.s 3] none <|
 .q 2 .ld [.r 1] none <|
 .q 3 (.fld 3) [.s 3] none <|
 .q 4 (.lda 2) [.r 3] none <|
 .q 5 (.fld 5) [.s 3] none <|
 .q 6 (.lda 2) [.r 5] none <|
 .q 7 (.bld [z, z, z, z, z, z, z, z, z, z, zs, zs, zs, zs, z, z, z, z, z, z, z, z, z, z, z, z, z, z, z, z, zs, zs, zs, zs, z, z, z, z, z, z, z, z, (.bool false), z, z, z, z, z, z, z, zs] [(0, 1), (3, 2), (5, 2)]) [.c (.int .i64 4), .r 4, .r 6] none <|
 .x 8 (.call 165) [.s 0, .r 2, .r 7] none [] <|
 .out []
def e158r17 : EE := .q 0 .eql [.s 77, .c (.int .i64 6)] none <|
 .out [(0, .s 0), (3, .s 3), (4, .s 4), (118, .r 0)]
def e158r18 : EE := .q 0 (.fld 1) [.s 4] none <|
 .q 1 (.lda 2) [.r 0] none <|
 .q 2 (.fld 5) [.s 3] none <|
 .q 3 (.lda 2) [.r 2] none <|
 .q 4 (.eqc true [(.i .i64), (.i .i64)]) [.r 1, .r 3] none <|
 .out [(0, .s 0), (3, .s 3), (4, .s 4), (124, .r 4)]
def e158r19 : EE := .q 0 (.fld 5) [.s 3] none <|
 .q 1 (.lda 2) [.r 0] none <|
 .q 2 (.fld 1) [.s 4] none <|
 .x 3 (.st 2) [.r 2, .r 1] none [] <|
 .out [(0, .s 0), (3, .s 3), (4, .s 4)]
def e158r20 : EE := .q 1 (.fld 3) [.s 3] none <|
 .q 2 (.lda 2) [.r 1] none <|
 .q 3 (.lda 21) [.s 4] none <|
 .x 4 (.call 174) [.s 0, .r 2, .r 3] none [] <|
 .q 5 .not [.r 4] none <|
 .out [(0, .s 0), (3, .s 3), (4, .s 4), (133, .r 5)]
def e158r21 : EE := .q 1 (.fld 1) [.s 3] none <|
 .q 2 .ld [.r 1] none <|
 .q 3 (.fld 3) [.s 3] none <|
 .q 4 (.lda 2) [.r 3] none <|
 .q 5 (.fld 5) [.s 3] none <|
 .q 6 (.lda 2) [.r 5] none <|
 .q 7 (.lda 21) [.s 4] none <|
 .q 8 (.bld [z, z, z, z, z, z, z, z, z, z, zs, zs, zs, zs, z, z, z, z, z, z, z, z, z, z, z, z, z, z, z, z, zs, zs, zs, zs, z, z, z, z, z, z, z, z, (.bool false), z, z, z, z, z, z, z, zs] [(0, 1), (3, 2), (5, 2), (22, 21)]) [.c (.int .i64 7), .r 4, .r 6, .r 7] none <|
 .x 9 (.call 165) [.s 0, .r 2, .r 8] none [] <|
 .out []
def e158 : EFn := ⟨(.seq (.reg e158r0 [0, 1] 0) (.seq (.reg e158r1 [0, 3] 12) (.seq (.seq (.reg e158r2 [0, 3, 4] 0) (.cond (.s 21) (.seq (.reg e158r3 [0, 3, 4] 0) .ret) .skip)) (.seq (.seq (.reg e158r4 [0, 3, 4] 0) (.cond (.s 37) (.seq (.reg e158r5 [0, 3, 4] 0) .ret) .skip)) (.seq (.seq (.reg e158r6 [0, 3, 4] 0) (.seq (.reg e158r7 [0, 3, 4, 6] 0) (.cond (.s 61) (.reg e158r8 [0, 3, 4] 0) .skip))) (.seq (.reg e158r9 [0, 3, 4] 0) (.seq (.reg e158r10 [0, 3, 4, 7] 0) (.block 0 (.seq (.reg e158r11 [0, 3, 4, 7, 77] 0) (.cond (.s 78) (.reg e158r12 [0, 3, 4, 7] 0) (.seq (.reg e158r13 [0, 3, 4, 7, 77] 0) (.cond (.s 85) (.seq (.reg e158r14 [0, 3, 4, 7] 0) (.seq (.reg e158r15 [0, 3, 8] 0) (.cond (.s 108) (.reg e158r16 [0, 3] 0) .skip))) (.seq (.reg e158r17 [0, 3, 4, 77] 0) (.cond (.s 118) (.seq (.seq (.reg e158r18 [0, 3, 4] 0) (.cond (.s 124) (.seq (.reg e158r19 [0, 3, 4] 0) (.seq (.reg e158r20 [0, 3, 4] 0) (.cond (.s 133) .ret .skip))) .skip)) (.reg e158r21 [0, 3, 4] 0)) .skip)))))))))))))), [], 144, 0⟩
theorem g158 : Good Tryz.prog 158 e158 := ⟨Tryz.f158, Tryz.func158, by kernel_rfl, by kernel_rfl, by kernel_rfl, by kernel_rfl⟩
/-! (*concord/core.Core).told -/
def e159r0 : EE := .x 0 (.box 88) [.s 1] none [] <|
 .out [(0, .s 0), (3, .r 0)]
def e159r1 : EE := .q 1 .nl [.s 0] none <|
 .q 2 (.fld 2) [.r 1] none <|
 .q 3 .ld [.r 2] none <|
 .q 4 (.fld 3) [.s 3] none <|
 .q 5 (.lda 2) [.r 4] none <|
 .both false
 (.x 6 (.call 95) [.r 3, .r 5] none [] <|
 .q 8 (.ext 0) [.r 6] none <|
 .q 9 (.ext 1) [.r 6] none <|
 .x 10 (.alc [z, z, z, z, z, z, z, z, zs, zs, zs, zs, z, z, z, z, z, z, z, z, (.bool false)] 86) [] none [⟨3, .ld, [.r 2], none⟩, ⟨5, (.lda 2), [.r 4], none⟩] <|
 .x 11 (.st 21) [.r 10, .r 8] none [] <|
 .out [(0, .s 0), (3, .s 3), (4, .r 10)])
 (.x 10 (.alc [z, z, z, z, z, z, z, z, zs, zs, zs, zs, z, z, z, z, z, z, z, z, (.bool false)] 86) [] none [⟨3, .ld, [.r 2], none⟩, ⟨5, (.lda 2), [.r 4], none⟩] <|
 .x 6 (.call 95) [.r 3, .r 5] none [] <|
 .q 8 (.ext 0) [.r 6] none <|
 .q 9 (.ext 1) [.r 6] none <|
 .x 11 (.st 21) [.r 10, .r 8] none [] <|
 .out [(0, .s 0), (3, .s 3), (4, .r 10)])
def e159r2 : EE := .q 0 (.fld 0) [.s 4] none <|
 .q 1 .ld [.r 0] none <|
 .q 2 .eql [.r 1, .c (.int .i64 3)] none <|
 .out [(0, .s 0), (3, .s 3), (4, .s 4), (18, .r 2)]
def e159r3 : EE := .q 1 (.fld 3) [.s 3] none <|
 .q 2 (.lda 2) [.r 1] none <|
 .x 3 (.call 212) [.s 0, .r 2] none [] <|
 .out [(0, .s 0), (3, .s 3), (4, .s 4)]
def e159r4 : EE := .q 1 (.fld 3) [.s 3] none <|
 .q 2 (.lda 2) [.r 1] none <|
 .q 3 (.fld 1) [.s 4] none <|
 .q 4 (.lda 2) [.r 3] none <|
 .q 5 (.fld 3) [.s 4] none <|
 .q 6 (.lda 2) [.r 5] none <|
 .q 7 (.fld 7) [.s 3] none <|
 .q 8 (.lda 7) [.r 7] none <|
 .q 9 (.fld 14) [.s 3] none <|
 .q 10 (.lda 8) [.r 9] none <|
 .q 11 (.bld [z, z, z, z, z, z, z, z, zs, zs, zs, zs, z, z, z, z, z, z, z, z, (.bool false)] [(0, 1), (1, 2), (3, 2), (5, 7), (12, 8)]) [.c (.int .i64 3), .r 4, .r 6, .r 8, .r 10] none <|
 .x 12 (.call 174) [.s 0, .r 2, .r 11] none [] <|
 .out []
def e159 : EFn := ⟨(.seq (.reg e159r0 [0, 1] 0) (.seq (.reg e159r1 [0, 3] 12) (.seq (.seq (.reg e159r2 [0, 3, 4] 0) (.cond (.s 18) .ret .skip)) (.seq (.reg e159r3 [0, 3, 4] 0) (.reg e159r4 [0, 3, 4] 0))))), [], 36, 0⟩
theorem g159 : Good Tryz.prog 159 e159 := ⟨Tryz.f159, Tryz.func159, by kernel_rfl, by kernel_rfl, by kernel_rfl, by kernel_rfl⟩
/-! (*concord/core.Core).answered -/
def e161r0 : EE := .x 0 (.box 88) [.s 1] none [] <|
 .out [(0, .s 0), (3, .r 0)]
def e161r1 : EE := .q 1 (.fld 3) [.s 3] none <|
 .q 2 (.lda 2) [.r 1] none <|
 .x 3 (.call 96) [.s 0, .r 2] none [] <|
 .out [(0, .s 0), (3, .s 3), (4, .r 3)]
def e161r2 : EE := .q 1 (.eqp false) [.s 4, .c .nptr] none <|
 .q 3 .mv [.s 4] (some (.r 1, false)) <|
 .q 4 .nl [.r 3] (some (.r 1, false)) <|
 .q 5 (.fld 3) [.r 4] (some (.r 1, false)) <|
 .q 6 (.lda 2) [.r 5] (some (.r 1, false)) <|
 .q 7 (.fld 5) [.s 3] (some (.r 1, false)) <|
 .q 8 (.lda 2) [.r 7] (some (.r 1, false)) <|
 .q 9 (.eqc true [(.i .i64), (.i .i64)]) [.r 6, .r 8] (some (.r 1, false)) <|
 .q 10 .pick [.r 1, .c (.bool true), .r 9] none <|
 .q 12 .mv [.s 4] (some (.r 10, false)) <|
 .q 13 (.fld 1) [.s 3] (some (.r 10, false)) <|
 .q 14 .ld [.r 13] (some (.r 10, false)) <|
 .q 15 .nl [.r 12] (some (.r 10, false)) <|
 .q 16 (.fld 21) [.r 15] (some (.r 10, false)) <|
 .q 17 (.ixa 7 1) [.r 16, .r 14] (some (.r 10, false)) <|
 .q 18 .ld [.r 17] (some (.r 10, false)) <|
 .q 19 .neq [.r 18, .c z] (some (.r 10, false)) <|
 .q 20 .pick [.r 10, .c (.bool true), .r 19] none <|
 .out [(0, .s 0), (3, .s 3), (4, .s 4), (30, .r 20)]
def e161r3 : EE := .x 0 .mkm [] none [] <|
 .x 1 (.mup false [(.i .i64)]) [.r 0, .c (.int .i64 2), .c z] none [] <|
 .x 2 (.mup false [(.i .i64)]) [.r 0, .c (.int .i64 4), .c (.int .i64 1)] none [] <|
 .x 3 (.mup false [(.i .i64)]) [.r 0, .c (.int .i64 7), .c (.int .i64 2)] none [] <|
 .q 5 (.fld 0) [.s 3] none <|
 .q 6 .ld [.r 5] none <|
 .q 7 (.lkp false [(.i .i64)] z false) [.r 0, .r 6] none <|
 .out [(0, .s 0), (3, .s 3), (4, .s 4), (5, .r 7)]
def e161r4 : EE := .q 1 .nl [.s 4] none <|
 .q 2 (.fld 2) [.r 1] none <|
 .q 3 .ld [.r 2] none <|
 .q 5 .neq [.r 3, .s 5] none <|
 .out [(0, .s 0), (3, .s 3), (4, .s 4), (5, .s 5), (41, .r 5)]
def e161r5 : EE := .q 1 (.fld 1) [.s 3] none <|
 .q 2 .ld [.r 1] none <|
 .q 3 .nl [.s 4] none <|
 .q 4 (.fld 21) [.r 3] none <|
 .q 5 (.ixa 7 1) [.r 4, .r 2] none <|
 .x 6 (.st 1) [.r 5, .c (.int .i64 1)] none [] <|
 .out [(0, .s 0), (3, .s 3), (4, .s 4), (5, .s 5)]
def e161r6 : EE := .q 1 .nl [.s 4] none <|
 .q 2 (.fld 30) [.r 1] none <|
 .q 3 .ld [.r 2] none <|
 .q 4 .add [.r 3, .c (.int .i64 1)] none <|
 .q 5 .nl [.s 4] none <|
 .q 6 (.fld 30) [.r 5] none <|
 .x 7 (.st 1) [.r 6, .r 4] none [] <|
 .out [(0, .s 0), (3, .s 3), (4, .s 4), (5, .s 5)]
def e161r7 : EE := .out [(0, .s 0), (3, .s 3), (4, .s 4), (55, .s 5)]
def e161r8 : EE := .q 0 .eql [.s 55, .c z] none <|
 .out [(0, .s 0), (3, .s 3), (4, .s 4), (55, .s 55), (73, .r 0)]
def e161r9 : EE := .q 2 .nl [.s 4] none <|
 .q 3 (.fld 28) [.r 2] none <|
 .q 4 .ld [.r 3] none <|
 .q 5 (.fld 14) [.s 3] none <|
 .q 6 (.lda 8) [.r 5] none <|
 .x 7 (.bsl 84 1 [z, z, z, z, z, z, z, z] [(0, 8)]) [.r 6] none [⟨4, .ld, [.r 3], none⟩] <|
 .x 8 (.app 84 8 64 [z, z, z, z, z, z, z, z]) [.r 4, .r 7] none [] <|
 .q 9 .nl [.s 4] none <|
 .q 10 (.fld 28) [.r 9] none <|
 .x 11 (.st 1) [.r 10, .r 8] none [] <|
 .out [(0, .s 0), (4, .s 4)]
def e161r10 : EE := .x 2 (.call 91) [.s 0, .s 4, .c (.bool false)] none [] <|
 .out []
def e161r11 : EE := .q 0 .eql [.s 55, .c (.int .i64 1)] none <|
 .out [(0, .s 0), (3, .s 3), (4, .s 4), (89, .r 0)]
def e161r12 : EE := .q 1 .nl [.s 4] none <|
 .q 2 (.fld 30) [.r 1] none <|
 .q 3 .ld [.r 2] none <|
 .q 4 .add [.r 3, .c (.int .i64 1)] none <|
 .q 6 .nl [.s 0] none <|
 .q 7 (.fld 0) [.r 6] none <|
 .q 8 .ld [.r 7] none <|
 .x 9 (.call 214) [.r 8] none [⟨3, .ld, [.r 2], none⟩] <|
 .q 10 .geq [.r 4, .r 9] none <|
 .out [(0, .s 0), (4, .s 4), (101, .r 10)]
def e161r13 : EE := .q 2 .nl [.s 4] none <|
 .q 3 (.fld 0) [.r 2] none <|
 .q 4 (.lda 2) [.r 3] none <|
 .q 6 .nl [.s 4] none <|
 .q 7 (.fld 6) [.r 6] none <|
 .q 8 (.lda 7) [.r 7] none <|
 .q 10 .nl [.s 4] none <|
 .q 11 (.fld 13) [.r 10] none <|
 .q 12 (.lda 8) [.r 11] none <|
 .x 13 (.call 163) [.s 0, .r 4, .r 8, .r 12] none [] <|
 .out []
def e161r14 : EE := .q 2 .nl [.s 4] none <|
 .q 3 (.fld 29) [.r 2] none <|
 .q 4 .ld [.r 3] none <|
 .q 5 (.fld 1) [.s 3] none <|
 .q 6 .ld [.r 5] none <|
 .q 7 (.fld 22) [.s 3] none <|
 .q 8 (.lda 21) [.r 7] none <|
 .q 9 (.bld [z, z, z, z, z, z, z, z, z, zs, zs, zs, zs, z, z, z, z, z, z, z, z, (.bool false)] [(0, 1), (1, 21)]) [.r 6, .r 8] none <|
 .x 10 (.bsl 275 1 [z, z, z, z, z, z, z, z, z, zs, zs, zs, zs, z, z, z, z, z, z, z, z, (.bool false)] [(0, 22)]) [.r 9] none [⟨4, .ld, [.r 3], none⟩] <|
 .x 11 (.app 275 22 208 [z, z, z, z, z, z, z, z, z, zs, zs, zs, zs, z, z, z, z, z, z, z, z, (.bool false)]) [.r 4, .r 10] none [] <|
 .q 12 .nl [.s 4] none <|
 .q 13 (.fld 29) [.r 12] none <|
 .x 14 (.st 1) [.r 13, .r 11] none [] <|
 .out [(0, .s 0), (4, .s 4)]
def e161r15 : EE := .x 2 (.call 215) [.s 0, .s 4] none [] <|
 .out []
def e161 : EFn := ⟨(.seq (.reg e161r0 [0, 1] 0) (.seq (.reg e161r1 [0, 3] 0) (.seq (.seq (.reg e161r2 [0, 3, 4] 0) (.cond (.s 30) .ret .skip)) (.seq (.reg e161r3 [0, 3, 4] 0) (.seq (.seq (.reg e161r4 [0, 3, 4, 5] 0) (.cond (.s 41) .ret .skip)) (.seq (.reg e161r5 [0, 3, 4, 5] 0) (.seq (.reg e161r6 [0, 3, 4, 5] 0) (.seq (.reg e161r7 [0, 3, 4, 5] 0) (.block 0 (.seq (.reg e161r8 [0, 3, 4, 55] 0) (.cond (.s 73) (.seq (.reg e161r9 [0, 3, 4] 0) (.reg e161r10 [0, 4] 0)) (.seq (.reg e161r11 [0, 3, 4, 55] 0) (.cond (.s 89) (.seq (.reg e161r12 [0, 4] 0) (.cond (.s 101) (.reg e161r13 [0, 4] 0) .skip)) (.seq (.reg e161r14 [0, 3, 4] 0) (.reg e161r15 [0, 4] 0))))))))))))))), [], 116, 0⟩
theorem g161 : Good Tryz.prog 161 e161 := ⟨Tryz.f161, Tryz.func161, by kernel_rfl, by kernel_rfl, by kernel_rfl, by kernel_rfl⟩
/-! concord/quorum.Pre -/
def e162r0 : EE := .x 0 (.box 84) [.s 2] none [] <|
 .x 2 (.alc [z, z, z, z, z, z, z, z] 84) [] none [] <|
 .out [(0, .s 0), (1, .s 1), (3, .s 3), (4, .s 4), (7, .r 0), (11, .r 2)]
def e162r1 : EE := .out [(0, .s 0), (1, .s 1), (3, .s 3), (4, .s 4), (7, .s 7), (11, .s 11), (12, .c z)]
def e162r2 : EE := .q 1 .len [.s 3] none <|
 .out [(0, .s 0), (1, .s 1), (3, .s 3), (4, .s 4), (7, .s 7), (11, .s 11), (12, .s 12), (15, .s 3), (16, .r 1), (17, .c z)]
def e162r3 : EE := .q 0 .lss [.s 17, .s 16] none <|
 .out [(0, .s 0), (1, .s 1), (3, .s 3), (4, .s 4), (7, .s 7), (11, .s 11), (12, .s 12), (15, .s 15), (16, .s 16), (17, .s 17), (18, .r 0)]
def e162r4 : EE := .q 0 (.ixs 8) [.s 15, .s 17] none <|
 .q 1 (.lda 8) [.r 0] none <|
 .x 2 (.alc [z, z, z, z, z, z, z, z] 84) [] none [] <|
 .x 3 (.st 8) [.r 2, .r 1] none [] <|
 .out [(0, .s 0), (1, .s 1), (3, .s 3), (4, .s 4), (7, .s 7), (11, .s 11), (12, .s 12), (14, .r 2), (15, .s 15), (16, .s 16), (17, .s 17)]
def e162r5 : EE := .q 0 (.lda 8) [.s 14] none <|
 .q 1 (.lda 8) [.s 7] none <|
 .q 2 (.eqc false [(.i .i64), (.i .i64), (.i .i64), (.i .i64), (.i .i64), (.i .i64), (.i .i64), (.i .i64)]) [.r 0, .r 1] none <|
 .out [(0, .s 0), (1, .s 1), (3, .s 3), (4, .s 4), (7, .s 7), (11, .s 11), (12, .s 12), (15, .s 15), (16, .s 16), (17, .s 17), (23, .r 2)]
def e162r6 : EE := .q 1 .add [.s 12, .c (.int .i64 1)] none <|
 .out [(0, .s 0), (1, .s 1), (3, .s 3), (4, .s 4), (7, .s 7), (11, .s 11), (12, .r 1), (15, .s 15), (16, .s 16), (17, .s 17)]
def e162r7 : EE := .q 0 .add [.s 17, .c (.int .i64 1)] none <|
 .out [(0, .s 0), (1, .s 1), (3, .s 3), (4, .s 4), (7, .s 7), (11, .s 11), (12, .s 12), (15, .s 15), (16, .s 16), (17, .r 0)]
def e162l8 : EC := (.seq (.reg e162r3 [0, 1, 3, 4, 7, 11, 12, 15, 16, 17] 0) (.seq (.cond (.s 18) .skip (.exit 0)) (.seq (.block 1 (.seq (.reg e162r4 [0, 1, 3, 4, 7, 11, 12, 15, 16, 17] 0) (.seq (.reg e162r5 [0, 1, 3, 4, 7, 11, 12, 14, 15, 16, 17] 0) (.cond (.s 23) (.reg e162r6 [0, 1, 3, 4, 7, 11, 12, 15, 16, 17] 0) .skip)))) (.reg e162r7 [0, 1, 3, 4, 7, 11, 12, 15, 16, 17] 0))))
def e162r9 : EE := .q 2 .mv [.s 12] (some (.s 1, true)) <|
 .q 3 .mv [.s 0] (some (.s 1, true)) <|
 .x 4 (.call 216) [.r 3] (some (.s 1, true)) [] <|
 .q 5 .sub [.r 4, .c (.int .i64 1)] (some (.s 1, true)) <|
 .q 6 .geq [.r 2, .r 5] (some (.s 1, true)) <|
 .q 7 .pick [.s 1, .r 6, .c (.bool false)] none <|
 .out [(0, .s 0), (1, .s 1), (3, .s 3), (4, .s 4), (7, .s 7), (11, .s 11), (12, .s 12), (34, .r 7)]
def e162r10 : EE := .q 0 (.lda 8) [.s 7] none <|
 .x 2 (.st 8) [.s 11, .r 0] none [] <|
 .out [(10, .c (.int .i64 1)), (11, .s 11)]
def e162r11 : EE := .q 1 .len [.s 3] none <|
 .x 3 (.call 214) [.s 0] none [] <|
 .q 4 .sub [.r 3, .c (.int .i64 1)] none <|
 .q 5 .lss [.r 1, .r 4] none <|
 .q 7 .mv [.s 1] (some (.r 5, false)) <|
 .q 8 .mv [.r 7] (some (.r 5, false)) <|
 .q 9 .mv [.s 4] (some (.r 8, true)) <|
 .q 10 .not [.r 9] (some (.r 8, true)) <|
 .q 11 .pick [.r 8, .r 10, .c (.bool false)] (some (.r 5, false)) <|
 .q 12 .mv [.r 11] (some (.r 5, false)) <|
 .q 13 .mv [.s 3] (some (.r 12, true)) <|
 .q 14 .len [.r 13] (some (.r 12, true)) <|
 .q 15 .mv [.s 12] (some (.r 12, true)) <|
 .q 16 .sub [.r 14, .r 15] (some (.r 12, true)) <|
 .q 17 .lss [.r 16, .c (.int .i64 2)] (some (.r 12, true)) <|
 .q 18 .pick [.r 12, .r 17, .c (.bool false)] (some (.r 5, false)) <|
 .q 19 .pick [.r 5, .c (.bool true), .r 18] none <|
 .out [(3, .s 3), (7, .s 7), (11, .s 11), (55, .r 19)]
def e162r12 : EE := .q 0 (.bld [z, z, z, z, z, z, z, z] []) [] none <|
 .x 2 (.st 8) [.s 11, .r 0] none [] <|
 .out [(10, .c z), (11, .s 11)]
def e162r13 : EE := .q 0 (.lda 8) [.s 7] none <|
 .x 1 (.bsl 84 1 [z, z, z, z, z, z, z, z] [(0, 8)]) [.r 0] none [] <|
 .x 3 (.app 84 8 64 [z, z, z, z, z, z, z, z]) [.r 1, .s 3] none [] <|
 .x 4 (.call 217) [.r 3] none [] <|
 .x 6 (.st 8) [.s 11, .r 4] none [] <|
 .out [(10, .c (.int .i64 2)), (11, .s 11)]
def e162 : EFn := ⟨(.seq (.reg e162r0 [0, 1, 2, 3, 4] 0) (.seq (.reg e162r1 [0, 1, 3, 4, 7, 11] 0) (.seq (.seq (.reg e162r2 [0, 1, 3, 4, 7, 11, 12] 0) (.block 0 (.loop [0, 1, 3, 4, 7, 11, 12, 15, 16, 17] e162l8))) (.seq (.seq (.reg e162r9 [0, 1, 3, 4, 7, 11, 12] 0) (.cond (.s 34) (.seq (.reg e162r10 [7, 11] 0) .ret) .skip)) (.seq (.seq (.reg e162r11 [0, 1, 3, 4, 7, 11, 12] 0) (.cond (.s 55) (.seq (.reg e162r12 [11] 0) .ret) .skip)) (.seq (.reg e162r13 [3, 7, 11] 0) .ret)))))), [.slot 10, .cells 11 8], 62, 0⟩
theorem g162 : Good Tryz.prog 162 e162 := ⟨Tryz.f162, Tryz.func162, by kernel_rfl, by kernel_rfl, by kernel_rfl, by kernel_rfl⟩
/-! (*concord/core.Core).commit -/
def e163r0 : EE := .x 0 (.box 80) [.s 1] none [] <|
 .x 1 (.box 30) [.s 2] none [] <|
 .x 2 (.box 84) [.s 3] none [] <|
 .out [(0, .s 0), (5, .r 0), (6, .r 1), (7, .r 2)]
def e163r1 : EE := .q 1 (.lda 2) [.s 5] none <|
 .x 2 (.call 212) [.s 0, .r 1] none [] <|
 .out [(0, .s 0), (5, .s 5), (6, .s 6), (7, .s 7)]
def e163r2 : EE := .q 1 .nl [.s 0] none <|
 .q 2 (.fld 2) [.r 1] none <|
 .q 3 .ld [.r 2] none <|
 .q 4 (.lda 2) [.s 5] none <|
 .both false
 (.x 5 (.call 95) [.r 3, .r 4] none [] <|
 .q 7 (.ext 0) [.r 5] none <|
 .q 8 (.ext 1) [.r 5] none <|
 .x 9 (.alc [z, z, z, z, z, z, z, z, zs, zs, zs, zs, z, z, z, z, z, z, z, z, (.bool false)] 86) [] none [⟨3, .ld, [.r 2], none⟩, ⟨4, (.lda 2), [.s 5], none⟩] <|
 .x 10 (.st 21) [.r 9, .r 7] none [] <|
 .out [(0, .s 0), (5, .s 5), (6, .s 6), (7, .s 7), (8, .r 9)])
 (.x 9 (.alc [z, z, z, z, z, z, z, z, zs, zs, zs, zs, z, z, z, z, z, z, z, z, (.bool false)] 86) [] none [⟨3, .ld, [.r 2], none⟩, ⟨4, (.lda 2), [.s 5], none⟩] <|
 .x 5 (.call 95) [.r 3, .r 4] none [] <|
 .q 7 (.ext 0) [.r 5] none <|
 .q 8 (.ext 1) [.r 5] none <|
 .x 10 (.st 21) [.r 9, .r 7] none [] <|
 .out [(0, .s 0), (5, .s 5), (6, .s 6), (7, .s 7), (8, .r 9)])
def e163r3 : EE := .q 1 (.lda 2) [.s 5] none <|
 .q 2 (.fld 1) [.s 8] none <|
 .q 3 (.lda 2) [.r 2] none <|
 .q 4 (.fld 3) [.s 8] none <|
 .q 5 (.lda 2) [.r 4] none <|
 .q 6 (.lda 7) [.s 6] none <|
 .q 7 (.lda 8) [.s 7] none <|
 .q 8 (.bld [z, z, z, z, z, z, z, z, zs, zs, zs, zs, z, z, z, z, z, z, z, z, (.bool false)] [(0, 1), (1, 2), (3, 2), (5, 7), (12, 8)]) [.c (.int .i64 3), .r 3, .r 5, .r 6, .r 7] none <|
 .x 9 (.call 174) [.s 0, .r 1, .r 8] none [] <|
 .out [(0, .s 0), (5, .s 5), (6, .s 6), (7, .s 7), (31, .r 9)]
def e163r4 : EE := .q 1 (.lda 2) [.s 5] none <|
 .q 2 (.lda 7) [.s 6] none <|
 .q 3 (.lda 8) [.s 7] none <|
 .q 4 (.bld [z, z, z, z, z, z, z, z, z, z, zs, zs, zs, zs, z, z, z, z, z, z, z, z, z, z, z, z, z, z, z, z, zs, zs, zs, zs, z, z, z, z, z, z, z, z, (.bool false), z, z, z, z, z, z, z, zs] [(0, 1), (3, 2), (7, 7), (14, 8)]) [.c (.int .i64 5), .r 1, .r 2, .r 3] none <|
 .q 5 (.bld [z, z, z, z, z, z, z] []) [] none <|
 .x 6 (.call 92) [.s 0, .r 4, .r 5] none [] <|
 .out []
def e163 : EFn := ⟨(.seq (.reg e163r0 [0, 1, 2, 3] 0) (.seq (.reg e163r1 [0, 5, 6, 7] 0) (.seq (.reg e163r2 [0, 5, 6, 7] 11) (.seq (.reg e163r3 [0, 5, 6, 7, 8] 0) (.cond (.s 31) (.reg e163r4 [0, 5, 6, 7] 0) .skip))))), [], 39, 0⟩
theorem g163 : Good Tryz.prog 163 e163 := ⟨Tryz.f163, Tryz.func163, by kernel_rfl, by kernel_rfl, by kernel_rfl, by kernel_rfl⟩
/-! (*concord/core.Core).send -/
def e165r0 : EE := .x 0 (.box 88) [.s 2] none [] <|
 .out [(0, .s 0), (1, .s 1), (5, .r 0)]
def e165r1 : EE := .q 1 .nl [.s 0] none <|
 .q 2 (.fld 1) [.r 1] none <|
 .q 3 .ld [.r 2] none <|
 .q 5 (.fld 1) [.s 5] none <|
 .x 6 (.st 1) [.r 5, .r 3] none [] <|
 .q 7 (.fld 2) [.s 5] none <|
 .x 8 (.st 1) [.r 7, .s 1] none [] <|
 .out [(0, .s 0), (5, .s 5)]
def e165r2 : EE := .q 2 .nl [.s 0] none <|
 .q 3 (.fld 7) [.r 2] none <|
 .q 4 .ld [.r 3] none <|
 .q 5 (.lda 51) [.s 5] none <|
 .x 6 (.bsl 88 1 [z, z, z, z, z, z, z, z, z, z, zs, zs, zs, zs, z, z, z, z, z, z, z, z, z, z, z, z, z, z, z, z, zs, zs, zs, zs, z, z, z, z, z, z, z, z, (.bool false), z, z, z, z, z, z, z, zs] [(0, 51)]) [.r 5] none [⟨4, .ld, [.r 3], none⟩] <|
 .x 7 (.app 88 51 480 [z, z, z, z, z, z, z, z, z, z, zs, zs, zs, zs, z, z, z, z, z, z, z, z, z, z, z, z, z, z, z, z, zs, zs, zs, zs, z, z, z, z, z, z, z, z, (.bool false), z, z, z, z, z, z, z, zs]) [.r 4, .r 6] none [] <|
 .q 8 .nl [.s 0] none <|
 .q 9 (.fld 7) [.r 8] none <|
 .x 10 (.st 1) [.r 9, .r 7] none [] <|
 .out []
def e165 : EFn := ⟨(.seq (.reg e165r0 [0, 1, 2] 0) (.seq (.reg e165r1 [0, 1, 5] 0) (.reg e165r2 [0, 5] 0))), [], 23, 0⟩
theorem g165 : Good Tryz.prog 165 e165 := ⟨Tryz.f165, Tryz.func165, by kernel_rfl, by kernel_rfl, by kernel_rfl, by kernel_rfl⟩
/-! slices.SortFunc[[]concord/api.Inst,concord/api.Inst] -/
def e166r0 : EE := .q 1 .len [.s 0] none <|
 .out [(0, .s 0), (1, .s 1), (4, .r 1)]
def e166r1 : EE := .q 3 (.conv .u64) [.s 4] none <|
 .x 4 (.call 219) [.r 3] none [] <|
 .x 6 (.call 218) [.s 0, .c z, .s 4, .r 4, .s 1] none [] <|
 .out []
def e166 : EFn := ⟨(.seq (.reg e166r0 [0, 1] 0) (.reg e166r1 [0, 1, 4] 0)), [], 14, 0⟩
theorem g166 : Good Tryz.prog 166 e166 := ⟨Tryz.f166, Tryz.func166, by kernel_rfl, by kernel_rfl, by kernel_rfl, by kernel_rfl⟩
/-! concord/inst.Below -/
def e172r0 : EE := .x 0 (.box 82) [.s 0] none [] <|
 .x 1 (.box 82) [.s 1] none [] <|
 .out [(2, .r 0), (3, .r 1)]
def e172r1 : EE := .q 0 (.fld 0) [.s 2] none <|
 .q 1 .ld [.r 0] none <|
 .q 2 (.fld 0) [.s 3] none <|
 .q 3 .ld [.r 2] none <|
 .q 4 .lss [.r 1, .r 3] none <|
 .q 6 (.fld 0) [.s 2] (some (.r 4, false)) <|
 .q 7 .ld [.r 6] (some (.r 4, false)) <|
 .q 8 (.fld 0) [.s 3] (some (.r 4, false)) <|
 .q 9 .ld [.r 8] (some (.r 4, false)) <|
 .q 10 .eql [.r 7, .r 9] (some (.r 4, false)) <|
 .q 11 .mv [.r 10] (some (.r 4, false)) <|
 .q 12 (.fld 1) [.s 2] (some (.r 11, true)) <|
 .q 13 .ld [.r 12] (some (.r 11, true)) <|
 .q 14 (.fld 1) [.s 3] (some (.r 11, true)) <|
 .q 15 .ld [.r 14] (some (.r 11, true)) <|
 .q 16 .lss [.r 13, .r 15] (some (.r 11, true)) <|
 .q 17 .pick [.r 11, .r 16, .c (.bool false)] (some (.r 4, false)) <|
 .q 18 .pick [.r 4, .c (.bool true), .r 17] none <|
 .out [(4, .r 18)]
def e172 : EFn := ⟨(.seq (.reg e172r0 [0, 1] 0) (.seq (.reg e172r1 [2, 3] 0) .ret)), [.slot 4], 24, 0⟩
theorem g172 : Good Tryz.prog 172 e172 := ⟨Tryz.f172, Tryz.func172, by kernel_rfl, by kernel_rfl, by kernel_rfl, by kernel_rfl⟩
/-! (*concord/core.Core).set -/
def e174r0 : EE := .x 0 (.box 80) [.s 1] none [] <|
 .x 1 (.box 86) [.s 2] none [] <|
 .out [(0, .s 0), (4, .r 0), (5, .r 1)]
def e174r1 : EE := .q 1 .nl [.s 0] none <|
 .q 2 (.fld 2) [.r 1] none <|
 .q 3 .ld [.r 2] none <|
 .q 4 (.lda 2) [.s 4] none <|
 .q 5 (.lda 21) [.s 5] none <|
 .x 6 (.call 71) [.r 3, .r 4, .r 5] none [] <|
 .q 7 .not [.r 6] none <|
 .out [(0, .s 0), (4, .s 4), (5, .s 5), (14, .r 7)]
def e174r2 : EE := .out [(6, .c (.bool false))]
def e174r3 : EE := .q 2 .nl [.s 0] none <|
 .q 3 (.fld 6) [.r 2] none <|
 .q 4 .ld [.r 3] none <|
 .q 5 (.lda 2) [.s 4] none <|
 .q 6 (.lda 21) [.s 5] none <|
 .x 7 (.call 146) [.r 5, .r 6] none [⟨4, .ld, [.r 3], none⟩] <|
 .x 8 (.bsl 104 1 [.nsl] [(0, 1)]) [.r 7] none [⟨4, .ld, [.r 3], none⟩] <|
 .x 9 (.app 104 1 24 [.nsl]) [.r 4, .r 8] none [] <|
 .q 10 .nl [.s 0] none <|
 .q 11 (.fld 6) [.r 10] none <|
 .x 12 (.st 1) [.r 11, .r 9] none [] <|
 .out [(0, .s 0), (4, .s 4), (5, .s 5)]
def e174r4 : EE := .q 1 (.lda 2) [.s 4] none <|
 .q 2 (.lda 21) [.s 5] none <|
 .x 3 (.call 72) [.s 0, .r 1, .r 2] none [] <|
 .out []
def e174r5 : EE := .out [(6, .c (.bool true))]
def e174 : EFn := ⟨(.seq (.reg e174r0 [0, 1, 2] 0) (.seq (.seq (.reg e174r1 [0, 4, 5] 0) (.cond (.s 14) (.seq (.reg e174r2 [] 0) .ret) .skip)) (.seq (.reg e174r3 [0, 4, 5] 0) (.seq (.reg e174r4 [0, 4, 5] 0) (.seq (.reg e174r5 [] 0) .ret))))), [.slot 6], 31, 0⟩
theorem g174 : Good Tryz.prog 174 e174 := ⟨Tryz.f174, Tryz.func174, by kernel_rfl, by kernel_rfl, by kernel_rfl, by kernel_rfl⟩
/-! (*concord/core.Core).begin -/
def e175r0 : EE := .x 2 (.call 222) [.s 0, .s 1] none [] <|
 .out [(0, .s 0), (1, .s 1)]
def e175r1 : EE := .q 4 .nl [.s 1] none <|
 .q 5 (.fld 21) [.r 4] none <|
 .q 6 (.lda 7) [.r 5] none <|
 .x 2 (.call 93) [.s 1] none [⟨6, (.lda 7), [.r 5], none⟩] <|
 .x 7 (.call 92) [.s 0, .r 2, .r 6] none [] <|
 .out []
def e175 : EFn := ⟨(.seq (.reg e175r0 [0, 1] 0) (.reg e175r1 [0, 1] 0)), [], 15, 0⟩
theorem g175 : Good Tryz.prog 175 e175 := ⟨Tryz.f175, Tryz.func175, by kernel_rfl, by kernel_rfl, by kernel_rfl, by kernel_rfl⟩
/-! concord/sum.On -/
def e176r0 : EE := .out [(0, .s 0), (1, .s 1)]
def e176r1 : EE := .q 1 .cpl [.s 0] none <|
 .out [(0, .r 1), (1, .s 1)]
def e176r2 : EE := .q 1 .len [.s 1] none <|
 .out [(0, .s 0), (10, .s 1), (11, .r 1), (12, .c z)]
def e176r3 : EE := .q 0 .lss [.s 12, .s 11] none <|
 .out [(0, .s 0), (10, .s 10), (11, .s 11), (12, .s 12), (13, .r 0)]
def e176r4 : EE := .q 0 (.ixs 1) [.s 10, .s 12] none <|
 .q 1 .ld [.r 0] none <|
 .out [(0, .s 0), (6, .r 1), (10, .s 10), (11, .s 11), (12, .s 12)]
def e176r5 : EE := .q 2 (.conv .u32) [.s 6] none <|
 .q 3 .xor [.s 0, .r 2] none <|
 .out [(0, .r 3), (10, .s 10), (11, .s 11), (12, .s 12)]
def e176r6 : EE := .out [(0, .s 0), (10, .s 10), (11, .s 11), (12, .s 12), (20, .c z)]
def e176r7 : EE := .q 0 .lss [.s 20, .c (.int .i64 8)] none <|
 .out [(0, .s 0), (10, .s 10), (11, .s 11), (12, .s 12), (20, .s 20), (21, .r 0)]
def e176r8 : EE := .q 1 .and [.s 0, .c (.int .u32 1)] none <|
 .out [(0, .s 0), (7, .r 1), (10, .s 10), (11, .s 11), (12, .s 12), (20, .s 20)]
def e176r9 : EE := .q 1 .shr [.s 0, .c (.int .u64 1)] none <|
 .out [(0, .r 1), (7, .s 7), (10, .s 10), (11, .s 11), (12, .s 12), (20, .s 20)]
def e176r10 : EE := .q 1 .eql [.s 7, .c (.int .u32 1)] none <|
 .out [(0, .s 0), (10, .s 10), (11, .s 11), (12, .s 12), (20, .s 20), (27, .r 1)]
def e176r11 : EE := .q 1 .xor [.s 0, .c (.int .u32 3988292384)] none <|
 .out [(0, .r 1), (10, .s 10), (11, .s 11), (12, .s 12), (20, .s 20)]
def e176r12 : EE := .q 0 .add [.s 20, .c (.int .i64 1)] none <|
 .out [(0, .s 0), (10, .s 10), (11, .s 11), (12, .s 12), (20, .r 0)]
def e176l13 : EC := (.seq (.reg e176r7 [0, 10, 11, 12, 20] 0) (.seq (.cond (.s 21) .skip (.exit 2)) (.seq (.block 3 (.seq (.reg e176r8 [0, 10, 11, 12, 20] 0) (.seq (.reg e176r9 [0, 7, 10, 11, 12, 20] 0) (.seq (.reg e176r10 [0, 7, 10, 11, 12, 20] 0) (.cond (.s 27) (.reg e176r11 [0, 10, 11, 12, 20] 0) .skip))))) (.reg e176r12 [0, 10, 11, 12, 20] 0))))
def e176r14 : EE := .q 0 .add [.s 12, .c (.int .i64 1)] none <|
 .out [(0, .s 0), (10, .s 10), (11, .s 11), (12, .r 0)]
def e176l15 : EC := (.seq (.reg e176r3 [0, 10, 11, 12] 0) (.seq (.cond (.s 13) .skip (.exit 0)) (.seq (.block 1 (.seq (.reg e176r4 [0, 10, 11, 12] 0) (.seq (.reg e176r5 [0, 6, 10, 11, 12] 0) (.seq (.reg e176r6 [0, 10, 11, 12] 0) (.block 2 (.loop [0, 10, 11, 12, 20] e176l13)))))) (.reg e176r14 [0, 10, 11, 12] 0))))
def e176r16 : EE := .q 1 .cpl [.s 0] none <|
 .out [(4, .r 1)]
def e176 : EFn := ⟨(.seq (.reg e176r0 [0, 1] 0) (.seq (.reg e176r1 [0, 1] 0) (.seq (.seq (.reg e176r2 [0, 1] 0) (.block 0 (.loop [0, 10, 11, 12] e176l15))) (.seq (.reg e176r16 [0] 0) .ret)))), [.slot 4], 34, 0⟩
theorem g176 : Good Tryz.prog 176 e176 := ⟨Tryz.f176, Tryz.func176, by kernel_rfl, by kernel_rfl, by kernel_rfl, by kernel_rfl⟩
/-! internal/strconv.Itoa -/
def e184r0 : EE := .out [(0, .s 0)]
def e184r1 : EE := .x 1 (.call 228) [.s 0, .c (.int .i64 10)] none [] <|
 .out [(2, .r 1)]
def e184 : EFn := ⟨(.seq (.reg e184r0 [0] 0) (.seq (.reg e184r1 [0] 0) .ret)), [.slot 2], 5, 0⟩
theorem g184 : Good Tryz.prog 184 e184 := ⟨Tryz.f184, Tryz.func184, by kernel_rfl, by kernel_rfl, by kernel_rfl, by kernel_rfl⟩
/-! concord/word.Zig -/
def e189r0 : EE := .out [(0, .s 0)]
def e189r1 : EE := .q 1 (.conv .u64) [.s 0] none <|
 .q 2 .shl [.r 1, .c (.int .u64 1)] none <|
 .q 4 .shr [.s 0, .c (.int .u64 63)] none <|
 .q 5 (.conv .u64) [.r 4] none <|
 .q 6 .xor [.r 2, .r 5] none <|
 .out [(2, .r 6)]
def e189 : EFn := ⟨(.seq (.reg e189r0 [0] 0) (.seq (.reg e189r1 [0] 0) .ret)), [.slot 2], 10, 0⟩
theorem g189 : Good Tryz.prog 189 e189 := ⟨Tryz.f189, Tryz.func189, by kernel_rfl, by kernel_rfl, by kernel_rfl, by kernel_rfl⟩
end Go.Ev
