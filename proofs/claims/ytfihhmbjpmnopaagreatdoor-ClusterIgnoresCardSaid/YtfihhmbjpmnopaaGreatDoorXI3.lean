import Derived.Test.YtfihhmbjpmnopaaGreatDoorEvB
import Derived.Test.YtfihhmbjpmnopaaGreatDoorProg
set_option linter.unusedVariables false
set_option linter.unusedSimpArgs false
namespace Go.Ev
open Go.Fw Go.Proofs
/-! concord/disk.may -/
def e190r0 : EE := .out [(0, .s 0)]
def e190r1 : EE := .q 1 .seql [.s 0, .c zs] none <|
 .q 3 .mv [.s 0] (some (.r 1, false)) <|
 .q 4 .lenz [.r 3] (some (.r 1, false)) <|
 .q 5 .gtr [.r 4, .c (.int .i64 24)] (some (.r 1, false)) <|
 .q 6 .pick [.r 1, .c (.bool true), .r 5] none <|
 .out [(0, .s 0), (10, .r 6)]
def e190r2 : EE := .out [(2, .c (.bool false))]
def e190r3 : EE := .q 1 .lenz [.s 0] none <|
 .out [(0, .s 0), (12, .r 1), (13, .c z)]
def e190r4 : EE := .q 0 .lss [.s 13, .s 12] none <|
 .out [(0, .s 0), (12, .s 12), (13, .s 13), (14, .r 0)]
def e190r5 : EE := .out [(0, .s 0), (3, .s 13), (12, .s 12), (13, .s 13)]
def e190r6 : EE := .q 2 .idxs [.s 0, .s 3] none <|
 .q 3 .lss [.r 2, .c (.int .u8 33)] none <|
 .q 5 .mv [.s 0] (some (.r 3, false)) <|
 .q 6 .mv [.s 3] (some (.r 3, false)) <|
 .q 7 .idxs [.r 5, .r 6] (some (.r 3, false)) <|
 .q 8 .gtr [.r 7, .c (.int .u8 126)] (some (.r 3, false)) <|
 .q 9 .pick [.r 3, .c (.bool true), .r 8] none <|
 .out [(0, .s 0), (12, .s 12), (13, .s 13), (25, .r 9)]
def e190r7 : EE := .out [(2, .c (.bool false))]
def e190r8 : EE := .q 0 .add [.s 13, .c (.int .i64 1)] none <|
 .out [(0, .s 0), (12, .s 12), (13, .r 0)]
def e190l9 : EC := (.seq (.reg e190r4 [0, 12, 13] 0) (.seq (.cond (.s 14) .skip (.exit 0)) (.seq (.block 1 (.seq (.reg e190r5 [0, 12, 13] 0) (.seq (.reg e190r6 [0, 3, 12, 13] 0) (.cond (.s 25) (.seq (.reg e190r7 [] 0) .ret) .skip)))) (.reg e190r8 [0, 12, 13] 0))))
def e190r10 : EE := .out [(2, .c (.bool true))]
def e190 : EFn := ⟨(.seq (.reg e190r0 [0] 0) (.seq (.seq (.reg e190r1 [0] 0) (.cond (.s 10) (.seq (.reg e190r2 [] 0) .ret) .skip)) (.seq (.seq (.reg e190r3 [0] 0) (.block 0 (.loop [0, 12, 13] e190l9))) (.seq (.reg e190r10 [] 0) .ret)))), [.slot 2], 27, 0⟩
theorem g190 : Good Tryz.prog 190 e190 := ⟨Tryz.f190, Tryz.func190, by kernel_rfl, by kernel_rfl, by kernel_rfl, by kernel_rfl⟩
/-! (*concord/disk.Disk).Room -/
def e191r0 : EE := .out [(0, .s 0)]
def e191r1 : EE := .q 1 .nl [.s 0] none <|
 .q 2 (.fld 0) [.r 1] none <|
 .q 3 .ld [.r 2] none <|
 .x 5 (.call 229) [.s 0] none [⟨3, .ld, [.r 2], none⟩] <|
 .q 6 .sub [.r 3, .r 5] none <|
 .out [(2, .r 6)]
def e191 : EFn := ⟨(.seq (.reg e191r0 [0] 0) (.seq (.reg e191r1 [0] 0) .ret)), [.slot 2], 10, 0⟩
theorem g191 : Good Tryz.prog 191 e191 := ⟨Tryz.f191, Tryz.func191, by kernel_rfl, by kernel_rfl, by kernel_rfl, by kernel_rfl⟩
/-! slices.Insert[[]concord/disk.file,concord/disk.file] -/
def e192r0 : EE := .out [(0, .s 0), (1, .s 1), (2, .s 2)]
def e192r1 : EE := .q 2 (.slc 3 true false) [.s 0, .s 1] none <|
 .out [(0, .s 0), (1, .s 1), (2, .s 2)]
def e192r2 : EE := .q 1 .len [.s 2] none <|
 .out [(0, .s 0), (1, .s 1), (2, .s 2), (7, .r 1)]
def e192r3 : EE := .q 1 .eql [.s 7, .c z] none <|
 .out [(0, .s 0), (1, .s 1), (2, .s 2), (7, .s 7), (16, .r 1)]
def e192r4 : EE := .out [(6, .s 0)]
def e192r5 : EE := .q 1 .len [.s 0] none <|
 .out [(0, .s 0), (1, .s 1), (2, .s 2), (7, .s 7), (8, .r 1)]
def e192r6 : EE := .q 2 .eql [.s 1, .s 8] none <|
 .out [(0, .s 0), (1, .s 1), (2, .s 2), (7, .s 7), (8, .s 8), (22, .r 2)]
def e192r7 : EE := .x 2 (.app 130 3 48 [zs, .nsl, z]) [.s 0, .s 2] none [] <|
 .out [(6, .r 2)]
def e192r8 : EE := .q 2 .add [.s 8, .s 7] none <|
 .q 4 .cap [.s 0] none <|
 .q 5 .gtr [.r 2, .r 4] none <|
 .out [(0, .s 0), (1, .s 1), (2, .s 2), (7, .s 7), (8, .s 8), (31, .r 5)]
def e192r9 : EE := .q 2 (.slc 3 false true) [.s 0, .s 1] none <|
 .q 5 .add [.s 8, .s 7] none <|
 .q 7 .sub [.r 5, .s 1] none <|
 .x 8 (.appn 130 3 48 [zs, .nsl, z]) [.r 2, .r 7] none [] <|
 .out [(0, .s 0), (1, .s 1), (2, .s 2), (7, .s 7), (9, .r 8)]
def e192r10 : EE := .q 2 (.slc 3 true false) [.s 9, .s 1] none <|
 .x 4 (.cpy 3) [.r 2, .s 2] none [] <|
 .out [(0, .s 0), (1, .s 1), (7, .s 7), (9, .s 9)]
def e192r11 : EE := .q 3 .add [.s 1, .s 7] none <|
 .q 4 (.slc 3 true false) [.s 9, .r 3] none <|
 .q 7 (.slc 3 true false) [.s 0, .s 1] none <|
 .x 8 (.cpy 3) [.r 4, .r 7] none [] <|
 .out [(9, .s 9)]
def e192r12 : EE := .out [(6, .s 9)]
def e192r13 : EE := .q 3 .add [.s 8, .s 7] none <|
 .q 4 (.slc 3 false true) [.s 0, .r 3] none <|
 .out [(0, .r 4), (1, .s 1), (2, .s 2), (7, .s 7), (8, .s 8)]
def e192r14 : EE := .q 4 .add [.s 1, .s 7] none <|
 .q 5 (.slc 3 true false) [.s 0, .r 4] none <|
 .x 6 .bad [] none [] <|
 .q 7 .not [.r 6] none <|
 .out [(0, .s 0), (1, .s 1), (2, .s 2), (7, .s 7), (8, .s 8), (68, .r 7)]
def e192r15 : EE := .q 3 .add [.s 1, .s 7] none <|
 .q 4 (.slc 3 true false) [.s 0, .r 3] none <|
 .q 7 (.slc 3 true false) [.s 0, .s 1] none <|
 .x 8 (.cpy 3) [.r 4, .r 7] none [] <|
 .out [(0, .s 0), (1, .s 1), (2, .s 2)]
def e192r16 : EE := .q 2 (.slc 3 true false) [.s 0, .s 1] none <|
 .x 4 (.cpy 3) [.r 2, .s 2] none [] <|
 .out [(0, .s 0)]
def e192r17 : EE := .out [(6, .s 0)]
def e192r18 : EE := .q 2 (.slc 3 true false) [.s 0, .s 8] none <|
 .x 4 (.cpy 3) [.r 2, .s 2] none [] <|
 .out [(0, .s 0), (1, .s 1), (7, .s 7)]
def e192r19 : EE := .q 2 (.slc 3 true false) [.s 0, .s 1] none <|
 .x 4 (.call 231) [.r 2, .s 7] none [] <|
 .out [(0, .s 0)]
def e192r20 : EE := .out [(6, .s 0)]
def e192 : EFn := ⟨(.seq (.reg e192r0 [0, 1, 2] 0) (.seq (.reg e192r1 [0, 1, 2] 0) (.seq (.reg e192r2 [0, 1, 2] 0) (.seq (.seq (.reg e192r3 [0, 1, 2, 7] 0) (.cond (.s 16) (.seq (.reg e192r4 [0] 0) .ret) .skip)) (.seq (.reg e192r5 [0, 1, 2, 7] 0) (.seq (.seq (.reg e192r6 [0, 1, 2, 7, 8] 0) (.cond (.s 22) (.seq (.reg e192r7 [0, 2] 0) .ret) .skip)) (.seq (.seq (.reg e192r8 [0, 1, 2, 7, 8] 0) (.cond (.s 31) (.seq (.reg e192r9 [0, 1, 2, 7, 8] 0) (.seq (.reg e192r10 [0, 1, 2, 7, 9] 0) (.seq (.reg e192r11 [0, 1, 7, 9] 0) (.seq (.reg e192r12 [9] 0) .ret)))) .skip)) (.seq (.reg e192r13 [0, 1, 2, 7, 8] 0) (.seq (.seq (.reg e192r14 [0, 1, 2, 7, 8] 0) (.cond (.s 68) (.seq (.reg e192r15 [0, 1, 2, 7] 0) (.seq (.reg e192r16 [0, 1, 2] 0) (.seq (.reg e192r17 [0] 0) .ret))) .skip)) (.seq (.reg e192r18 [0, 1, 2, 7, 8] 0) (.seq (.reg e192r19 [0, 1, 7] 0) (.seq (.reg e192r20 [0] 0) .ret)))))))))))), [.slot 6], 95, 0⟩
theorem g192 : Good Tryz.prog 192 e192 := ⟨Tryz.f192, Tryz.func192, by kernel_rfl, by kernel_rfl, by kernel_rfl, by kernel_rfl⟩
/-! slices.Concat[[]byte,byte] -/
def e193r0 : EE := .out [(0, .s 0)]
def e193r1 : EE := .out [(0, .s 0), (3, .c z)]
def e193r2 : EE := .q 1 .len [.s 0] none <|
 .out [(0, .s 0), (3, .s 3), (9, .s 0), (10, .r 1), (11, .c z)]
def e193r3 : EE := .q 0 .lss [.s 11, .s 10] none <|
 .out [(0, .s 0), (3, .s 3), (9, .s 9), (10, .s 10), (11, .s 11), (12, .r 0)]
def e193r4 : EE := .q 0 (.ixs 1) [.s 9, .s 11] none <|
 .q 1 .ld [.r 0] none <|
 .out [(0, .s 0), (3, .s 3), (5, .r 1), (9, .s 9), (10, .s 10), (11, .s 11)]
def e193r5 : EE := .q 2 .len [.s 5] none <|
 .q 3 .add [.s 3, .r 2] none <|
 .out [(0, .s 0), (3, .r 3), (9, .s 9), (10, .s 10), (11, .s 11)]
def e193r6 : EE := .q 1 .lss [.s 3, .c z] none <|
 .out [(0, .s 0), (3, .s 3), (9, .s 9), (10, .s 10), (11, .s 11), (20, .r 1)]
def e193r7 : EE := .q 0 (.mki 9) [.c (.str [108, 101, 110, 32, 111, 117, 116, 32, 111, 102, 32, 114, 97, 110, 103, 101])] none <|
 .x 1 .bad [] none [] <|
 .out [(0, .s 0), (3, .s 3), (9, .s 9), (10, .s 10), (11, .s 11)]
def e193r8 : EE := .q 0 .add [.s 11, .c (.int .i64 1)] none <|
 .out [(0, .s 0), (3, .s 3), (9, .s 9), (10, .s 10), (11, .r 0)]
def e193l9 : EC := (.seq (.reg e193r3 [0, 3, 9, 10, 11] 0) (.seq (.cond (.s 12) .skip (.exit 0)) (.seq (.block 1 (.seq (.reg e193r4 [0, 3, 9, 10, 11] 0) (.seq (.reg e193r5 [0, 3, 5, 9, 10, 11] 0) (.seq (.reg e193r6 [0, 3, 9, 10, 11] 0) (.cond (.s 20) (.reg e193r7 [0, 3, 9, 10, 11] 0) .skip))))) (.reg e193r8 [0, 3, 9, 10, 11] 0))))
def e193r10 : EE := .x 1 (.call 232) [.c .nsl, .s 3] none [] <|
 .out [(0, .s 0), (6, .r 1)]
def e193r11 : EE := .q 1 .len [.s 0] none <|
 .out [(6, .s 6), (25, .s 0), (26, .r 1), (27, .c z)]
def e193r12 : EE := .q 0 .lss [.s 27, .s 26] none <|
 .out [(6, .s 6), (25, .s 25), (26, .s 26), (27, .s 27), (28, .r 0)]
def e193r13 : EE := .q 0 (.ixs 1) [.s 25, .s 27] none <|
 .q 1 .ld [.r 0] none <|
 .out [(6, .s 6), (8, .r 1), (25, .s 25), (26, .s 26), (27, .s 27)]
def e193r14 : EE := .x 2 (.app 5 1 1 [(.int .u8 0)]) [.s 6, .s 8] none [] <|
 .out [(6, .r 2), (25, .s 25), (26, .s 26), (27, .s 27)]
def e193r15 : EE := .q 0 .add [.s 27, .c (.int .i64 1)] none <|
 .out [(6, .s 6), (25, .s 25), (26, .s 26), (27, .r 0)]
def e193l16 : EC := (.seq (.reg e193r12 [6, 25, 26, 27] 0) (.seq (.cond (.s 28) .skip (.exit 2)) (.seq (.block 3 (.seq (.reg e193r13 [6, 25, 26, 27] 0) (.reg e193r14 [6, 8, 25, 26, 27] 0))) (.reg e193r15 [6, 25, 26, 27] 0))))
def e193r17 : EE := .out [(2, .s 6)]
def e193 : EFn := ⟨(.seq (.reg e193r0 [0] 0) (.seq (.reg e193r1 [0] 0) (.seq (.seq (.reg e193r2 [0, 3] 0) (.block 0 (.loop [0, 3, 9, 10, 11] e193l9))) (.seq (.reg e193r10 [0, 3] 0) (.seq (.seq (.reg e193r11 [0, 6] 0) (.block 2 (.loop [6, 25, 26, 27] e193l16))) (.seq (.reg e193r17 [6] 0) .ret)))))), [.slot 2], 36, 0⟩
theorem g193 : Good Tryz.prog 193 e193 := ⟨Tryz.f193, Tryz.func193, by kernel_rfl, by kernel_rfl, by kernel_rfl, by kernel_rfl⟩
/-! (*concord/exec.plan).round -/
def e194r0 : EE := .out [(0, .s 0)]
def e194r1 : EE := .x 0 (.call 233) [.c .nsl] none [] <|
 .out [(0, .s 0), (4, .c (.bool false)), (5, .r 0)]
def e194r2 : EE := .out [(0, .s 0), (4, .s 4), (5, .s 5), (13, .c z)]
def e194r3 : EE := .q 0 .lss [.s 13, .c (.int .i64 7)] none <|
 .out [(0, .s 0), (4, .s 4), (5, .s 5), (13, .s 13), (14, .r 0)]
def e194r4 : EE := .out [(0, .s 0), (4, .s 4), (5, .s 5), (6, .s 13), (13, .s 13)]
def e194r5 : EE := .q 3 .nl [.s 0] none <|
 .q 4 (.fld 0) [.r 3] none <|
 .q 5 (.ixa 7 1) [.r 4, .s 6] none <|
 .q 6 .ld [.r 5] none <|
 .q 7 .add [.r 6, .c (.int .i64 1)] none <|
 .q 8 (.bld [z, z] [(0, 1), (1, 1)]) [.s 6, .r 7] none <|
 .x 9 (.alc [z, z] 80) [] none [] <|
 .x 10 (.st 2) [.r 9, .r 8] none [] <|
 .out [(0, .s 0), (4, .s 4), (5, .s 5), (7, .r 9), (13, .s 13)]
def e194r6 : EE := .q 1 .nl [.s 0] none <|
 .q 2 (.fld 7) [.r 1] none <|
 .q 3 .ld [.r 2] none <|
 .q 4 (.lda 2) [.s 7] none <|
 .q 5 (.lkp true [(.i .i64), (.i .i64)] (.agg [z, z, z, z, z, z, z, z, zs, zs, zs, zs, z, z, z, z, z, z, z, z, (.bool false)]) true) [.r 3, .r 4] none <|
 .q 7 (.ext 0) [.r 5] none <|
 .q 8 (.ext 1) [.r 5] none <|
 .x 9 (.alc [z, z, z, z, z, z, z, z, zs, zs, zs, zs, z, z, z, z, z, z, z, z, (.bool false)] 86) [] none [⟨3, .ld, [.r 2], none⟩, ⟨4, (.lda 2), [.s 7], none⟩, ⟨5, (.lkp true [(.i .i64), (.i .i64)] (.agg [z, z, z, z, z, z, z, z, zs, zs, zs, zs, z, z, z, z, z, z, z, z, (.bool false)]) true), [.r 3, .r 4], none⟩] <|
 .x 10 (.st 21) [.r 9, .r 7] none [] <|
 .out [(0, .s 0), (4, .s 4), (5, .s 5), (7, .s 7), (9, .r 8), (13, .s 13)]
def e194r7 : EE := .q 1 .not [.s 9] none <|
 .out [(0, .s 0), (4, .s 4), (5, .s 5), (7, .s 7), (13, .s 13), (35, .r 1)]
def e194r8 : EE := .q 1 (.lda 2) [.s 7] none <|
 .x 2 (.call 234) [.s 0, .r 1] none [] <|
 .out [(0, .s 0), (4, .s 4), (5, .s 5), (7, .s 7), (13, .s 13), (38, .r 2)]
def e194r9 : EE := .q 1 (.lda 2) [.s 7] none <|
 .x 2 (.call 235) [.s 5, .r 1] none [] <|
 .out [(0, .s 0), (4, .s 4), (5, .s 5), (13, .s 13)]
def e194r10 : EE := .q 1 (.lda 2) [.s 7] none <|
 .x 2 (.call 236) [.s 0, .r 1] none [] <|
 .q 4 (.ext 0) [.r 2] none <|
 .q 5 (.ext 1) [.r 2] none <|
 .x 6 (.alc [z, z] 80) [] none [] <|
 .x 8 (.st 2) [.r 6, .r 5] none [] <|
 .out [(0, .s 0), (4, .s 4), (5, .s 5), (10, .r 4), (11, .r 6), (13, .s 13)]
def e194r11 : EE := .q 1 .len [.s 10] none <|
 .q 2 .gtr [.r 1, .c z] none <|
 .out [(0, .s 0), (4, .s 4), (5, .s 5), (10, .s 10), (11, .s 11), (13, .s 13), (48, .r 2)]
def e194r12 : EE := .x 2 (.call 237) [.s 0, .s 10] none [] <|
 .out [(0, .s 0), (5, .s 5), (13, .s 13)]
def e194r13 : EE := .out [(0, .s 0), (4, .c (.bool true)), (5, .s 5), (13, .s 13)]
def e194r14 : EE := .q 0 (.lda 2) [.s 11] none <|
 .q 1 (.bld [z, z] []) [] none <|
 .q 2 (.eqc true [(.i .i64), (.i .i64)]) [.r 0, .r 1] none <|
 .out [(0, .s 0), (4, .s 4), (5, .s 5), (11, .s 11), (13, .s 13), (55, .r 2)]
def e194r15 : EE := .q 1 (.lda 2) [.s 11] none <|
 .x 2 (.call 235) [.s 5, .r 1] none [] <|
 .out [(0, .s 0), (4, .s 4), (5, .s 5), (13, .s 13)]
def e194r16 : EE := .q 0 .add [.s 13, .c (.int .i64 1)] none <|
 .out [(0, .s 0), (4, .s 4), (5, .s 5), (13, .r 0)]
def e194l17 : EC := (.seq (.reg e194r3 [0, 4, 5, 13] 0) (.seq (.cond (.s 14) .skip (.exit 0)) (.seq (.block 1 (.seq (.reg e194r4 [0, 4, 5, 13] 0) (.seq (.reg e194r5 [0, 4, 5, 6, 13] 0) (.seq (.seq (.reg e194r6 [0, 4, 5, 7, 13] 0) (.seq (.reg e194r7 [0, 4, 5, 7, 9, 13] 0) (.cond (.s 35) (.seq (.seq (.reg e194r8 [0, 4, 5, 7, 13] 0) (.cond (.s 38) (.reg e194r9 [0, 4, 5, 7, 13] 0) .skip)) (.exit 1)) .skip))) (.seq (.reg e194r10 [0, 4, 5, 7, 13] 0) (.block 2 (.seq (.reg e194r11 [0, 4, 5, 10, 11, 13] 0) (.cond (.s 48) (.seq (.reg e194r12 [0, 5, 10, 13] 0) (.reg e194r13 [0, 5, 13] 0)) (.seq (.reg e194r14 [0, 4, 5, 11, 13] 0) (.cond (.s 55) (.reg e194r15 [0, 4, 5, 11, 13] 0) .skip)))))))))) (.reg e194r16 [0, 4, 5, 13] 0))))
def e194r18 : EE := .out [(2, .s 4), (3, .s 5)]
def e194 : EFn := ⟨(.seq (.reg e194r0 [0] 0) (.seq (.reg e194r1 [0] 0) (.seq (.seq (.reg e194r2 [0, 4, 5] 0) (.block 0 (.loop [0, 4, 5, 13] e194l17))) (.seq (.reg e194r18 [4, 5] 0) .ret)))), [.slot 2, .slot 3], 65, 0⟩
theorem g194 : Good Tryz.prog 194 e194 := ⟨Tryz.f194, Tryz.func194, by kernel_rfl, by kernel_rfl, by kernel_rfl, by kernel_rfl⟩
/-! (*concord/inst.Set).List -/
def e195r0 : EE := .out [(0, .s 0)]
def e195r1 : EE := .out [(0, .s 0), (3, .c .nsl)]
def e195r2 : EE := .q 1 .nl [.s 0] none <|
 .q 2 (.fld 0) [.r 1] none <|
 .q 3 .ld [.r 2] none <|
 .x 4 .rng [.r 3] none [] <|
 .out [(3, .s 3), (9, .r 4)]
def e195r3 : EE := .x 0 .nxt [.s 9] none [] <|
 .q 1 (.ext 0) [.r 0] none <|
 .out [(3, .s 3), (9, .s 9), (11, .r 1)]
def e195r4 : EE := .q 0 .ent [.s 9] none <|
 .q 1 (.ext 0) [.r 0] none <|
 .x 2 (.alc [z, z] 80) [] none [] <|
 .x 3 (.st 2) [.r 2, .r 1] none [] <|
 .out [(3, .s 3), (4, .r 2), (9, .s 9)]
def e195r5 : EE := .q 1 (.lda 2) [.s 4] none <|
 .x 2 (.bsl 80 1 [z, z] [(0, 2)]) [.r 1] none [] <|
 .x 3 (.app 80 2 16 [z, z]) [.s 3, .r 2] none [] <|
 .out [(3, .r 3), (9, .s 9)]
def e195l6 : EC := (.seq (.reg e195r3 [3, 9] 0) (.seq (.cond (.s 11) .skip (.exit 0)) (.block 1 (.seq (.reg e195r4 [3, 9] 0) (.reg e195r5 [3, 4, 9] 0)))))
def e195r7 : EE := .x 1 (.call 166) [.s 3, .f 238] none [] <|
 .out [(3, .s 3)]
def e195r8 : EE := .out [(2, .s 3)]
def e195 : EFn := ⟨(.seq (.reg e195r0 [0] 0) (.seq (.reg e195r1 [0] 0) (.seq (.seq (.reg e195r2 [0, 3] 0) (.block 0 (.loop [3, 9] e195l6))) (.seq (.reg e195r7 [3] 0) (.seq (.reg e195r8 [3] 0) .ret))))), [.slot 2], 21, 0⟩
theorem g195 : Good Tryz.prog 195 e195 := ⟨Tryz.f195, Tryz.func195, by kernel_rfl, by kernel_rfl, by kernel_rfl, by kernel_rfl⟩
/-! concord/state.copied -/
def e196r0 : EE := .x 0 (.box 73) [.s 0] none [] <|
 .x 1 (.alc [.nsl, z, z, (.bool false), zs, z, .nsl, z, z, (.bool false), zs, z, .nsl, z, z, (.bool false), zs, z, .nsl, z, z, (.bool false), zs, z, .nsl, z, z, (.bool false), zs, z, .nsl, z, z, (.bool false), zs, z, .nsl, z, z, (.bool false), zs, z, .nsl, z, z, (.bool false), zs, z, .nsl] 73) [] none [] <|
 .out [(1, .r 0), (2, .r 1)]
def e196r1 : EE := .q 0 (.fld 0) [.s 1] none <|
 .q 1 .ld [.r 0] none <|
 .q 3 (.fld 1) [.s 1] none <|
 .q 4 (.lda 48) [.r 3] none <|
 .q 5 (.bld [z, (.bool false), zs, z, .nsl] []) [] none <|
 .x 2 (.call 29) [.r 1] none [⟨4, (.lda 48), [.r 3], none⟩] <|
 .x 6 (.call 199) [.r 4, .c z, .c z, .r 5] none [] <|
 .q 7 (.bld [.nsl, z, z, (.bool false), zs, z, .nsl, z, z, (.bool false), zs, z, .nsl, z, z, (.bool false), zs, z, .nsl, z, z, (.bool false), zs, z, .nsl, z, z, (.bool false), zs, z, .nsl, z, z, (.bool false), zs, z, .nsl, z, z, (.bool false), zs, z, .nsl, z, z, (.bool false), zs, z, .nsl] [(0, 1), (1, 48)]) [.r 2, .r 6] none <|
 .x 8 (.st 49) [.s 2, .r 7] none [] <|
 .out [(2, .s 2)]
def e196 : EFn := ⟨(.seq (.reg e196r0 [0] 0) (.seq (.reg e196r1 [1, 2] 0) .ret)), [.cells 2 49], 11, 0⟩
theorem g196 : Good Tryz.prog 196 e196 := ⟨Tryz.f196, Tryz.func196, by kernel_rfl, by kernel_rfl, by kernel_rfl, by kernel_rfl⟩
/-! concord/dedup.Look -/
def e197r0 : EE := .x 0 (.box 71) [.s 0] none [] <|
 .x 2 (.alc [z, (.bool false), zs, z, .nsl] 68) [] none [] <|
 .out [(1, .s 1), (2, .s 2), (3, .r 0), (7, .r 2)]
def e197r1 : EE := .x 1 (.call 239) [.s 1] none [] <|
 .q 2 .not [.r 1] none <|
 .out [(1, .s 1), (2, .s 2), (3, .s 3), (7, .s 7), (11, .r 2)]
def e197r2 : EE := .q 0 (.bld [z, (.bool false), zs, z, .nsl] []) [] none <|
 .x 2 (.st 5) [.s 7, .r 0] none [] <|
 .out [(6, .c z), (7, .s 7)]
def e197r3 : EE := .q 1 .sub [.s 1, .c (.int .i64 1)] none <|
 .q 2 (.ixa 8 6) [.s 3, .r 1] none <|
 .q 3 (.lda 6) [.r 2] none <|
 .x 4 (.alc [z, z, (.bool false), zs, z, .nsl] 70) [] none [] <|
 .x 5 (.st 6) [.r 4, .r 3] none [] <|
 .out [(2, .s 2), (7, .s 7), (8, .r 4)]
def e197r4 : EE := .q 1 (.fld 0) [.s 8] none <|
 .q 2 .ld [.r 1] none <|
 .q 3 .gtr [.s 2, .r 2] none <|
 .out [(2, .s 2), (7, .s 7), (8, .s 8), (17, .r 3)]
def e197r5 : EE := .q 0 (.bld [z, (.bool false), zs, z, .nsl] []) [] none <|
 .x 2 (.st 5) [.s 7, .r 0] none [] <|
 .out [(6, .c (.int .i64 1)), (7, .s 7)]
def e197r6 : EE := .q 1 (.fld 0) [.s 8] none <|
 .q 2 .ld [.r 1] none <|
 .q 3 .eql [.s 2, .r 2] none <|
 .out [(7, .s 7), (8, .s 8), (23, .r 3)]
def e197r7 : EE := .q 0 (.fld 1) [.s 8] none <|
 .q 1 (.lda 5) [.r 0] none <|
 .x 2 (.call 240) [.r 1] none [] <|
 .x 4 (.st 5) [.s 7, .r 2] none [] <|
 .out [(6, .c (.int .i64 2)), (7, .s 7)]
def e197r8 : EE := .q 0 (.bld [z, (.bool false), zs, z, .nsl] []) [] none <|
 .x 2 (.st 5) [.s 7, .r 0] none [] <|
 .out [(6, .c (.int .i64 3)), (7, .s 7)]
def e197 : EFn := ⟨(.seq (.reg e197r0 [0, 1, 2] 0) (.seq (.seq (.reg e197r1 [1, 2, 3, 7] 0) (.cond (.s 11) (.seq (.reg e197r2 [7] 0) .ret) .skip)) (.seq (.reg e197r3 [1, 2, 3, 7] 0) (.seq (.block 0 (.seq (.reg e197r4 [2, 7, 8] 0) (.cond (.s 17) (.seq (.reg e197r5 [7] 0) .ret) (.seq (.reg e197r6 [2, 7, 8] 0) (.cond (.s 23) (.seq (.reg e197r7 [7, 8] 0) .ret) .skip))))) (.seq (.reg e197r8 [7] 0) .ret))))), [.slot 6, .cells 7 5], 32, 0⟩
theorem g197 : Good Tryz.prog 197 e197 := ⟨Tryz.f197, Tryz.func197, by kernel_rfl, by kernel_rfl, by kernel_rfl, by kernel_rfl⟩
/-! concord/state.done -/
def e198r0 : EE := .x 0 (.box 30) [.s 1] none [] <|
 .x 2 (.alc [z, (.bool false), zs, z, .nsl] 68) [] none [] <|
 .out [(0, .s 0), (3, .r 0), (5, .r 2)]
def e198r1 : EE := .q 1 (.fld 3) [.s 3] none <|
 .q 2 .ld [.r 1] none <|
 .x 3 (.call 241) [.s 0, .r 2] none [] <|
 .q 5 (.ext 0) [.r 3] none <|
 .q 6 (.ext 1) [.r 3] none <|
 .x 7 (.alc [zs, zs, z] 94) [] none [] <|
 .x 8 (.st 3) [.r 7, .r 5] none [] <|
 .out [(0, .s 0), (3, .s 3), (5, .s 5), (6, .r 7), (7, .r 6)]
def e198r2 : EE := .q 0 (.fld 0) [.s 3] none <|
 .q 1 .ld [.r 0] none <|
 .out [(0, .s 0), (3, .s 3), (5, .s 5), (6, .s 6), (7, .s 7), (24, .r 1)]
def e198r3 : EE := .q 0 .eql [.s 24, .c (.int .i64 1)] none <|
 .out [(0, .s 0), (3, .s 3), (5, .s 5), (6, .s 6), (7, .s 7), (24, .s 24), (25, .r 0)]
def e198r4 : EE := .q 2 (.fld 1) [.s 6] none <|
 .q 3 .ld [.r 2] none <|
 .q 4 (.fld 2) [.s 6] none <|
 .q 5 .ld [.r 4] none <|
 .q 6 (.bld [z, (.bool false), zs, z, .nsl] [(1, 1), (2, 1), (3, 1)]) [.s 7, .r 3, .r 5] none <|
 .x 8 (.st 5) [.s 5, .r 6] none [] <|
 .out [(4, .s 0), (5, .s 5)]
def e198r5 : EE := .q 0 .eql [.s 24, .c (.int .i64 2)] none <|
 .out [(0, .s 0), (3, .s 3), (5, .s 5), (6, .s 6), (7, .s 7), (24, .s 24), (34, .r 0)]
def e198r6 : EE := .q 1 (.fld 3) [.s 3] none <|
 .q 2 .ld [.r 1] none <|
 .q 3 (.fld 6) [.s 3] none <|
 .q 4 .ld [.r 3] none <|
 .x 5 (.call 242) [.s 0, .r 2, .r 4] none [] <|
 .q 7 (.ext 0) [.r 5] none <|
 .q 8 (.ext 1) [.r 5] none <|
 .out [(0, .s 0), (5, .s 5), (6, .s 6), (7, .s 7), (8, .r 7), (9, .r 8)]
def e198r7 : EE := .q 1 .neq [.s 9, .c z] none <|
 .out [(0, .s 0), (5, .s 5), (6, .s 6), (7, .s 7), (8, .s 8), (9, .s 9), (46, .r 1)]
def e198r8 : EE := .q 2 (.bld [z, (.bool false), zs, z, .nsl] [(0, 1)]) [.s 9] none <|
 .x 4 (.st 5) [.s 5, .r 2] none [] <|
 .out [(4, .s 0), (5, .s 5)]
def e198r9 : EE := .q 2 (.fld 2) [.s 6] none <|
 .q 3 .ld [.r 2] none <|
 .q 4 .add [.r 3, .c (.int .i64 1)] none <|
 .q 5 (.bld [z, (.bool false), zs, z, .nsl] [(1, 1), (3, 1)]) [.s 7, .r 4] none <|
 .x 7 (.st 5) [.s 5, .r 5] none [] <|
 .out [(4, .s 8), (5, .s 5)]
def e198r10 : EE := .q 0 .eql [.s 24, .c (.int .i64 3)] none <|
 .out [(0, .s 0), (3, .s 3), (5, .s 5), (6, .s 6), (7, .s 7), (24, .s 24), (56, .r 0)]
def e198r11 : EE := .q 1 (.fld 3) [.s 3] none <|
 .q 2 .ld [.r 1] none <|
 .x 3 (.call 243) [.s 0, .r 2] none [] <|
 .q 5 (.ext 0) [.r 3] none <|
 .q 6 (.ext 1) [.r 3] none <|
 .out [(5, .s 5), (6, .s 6), (7, .s 7), (10, .r 5)]
def e198r12 : EE := .q 2 (.fld 2) [.s 6] none <|
 .q 3 .ld [.r 2] none <|
 .q 4 (.bld [z, (.bool false), zs, z, .nsl] [(1, 1), (3, 1)]) [.s 7, .r 3] none <|
 .x 6 (.st 5) [.s 5, .r 4] none [] <|
 .out [(4, .s 10), (5, .s 5)]
def e198r13 : EE := .q 0 .eql [.s 24, .c (.int .i64 4)] none <|
 .out [(0, .s 0), (3, .s 3), (5, .s 5), (6, .s 6), (7, .s 7), (70, .r 0)]
def e198r14 : EE := .q 1 .not [.s 7] none <|
 .q 3 (.fld 1) [.s 6] (some (.r 1, false)) <|
 .q 4 .ld [.r 3] (some (.r 1, false)) <|
 .q 5 (.fld 5) [.s 3] (some (.r 1, false)) <|
 .q 6 .ld [.r 5] (some (.r 1, false)) <|
 .q 7 .sneq [.r 4, .r 6] (some (.r 1, false)) <|
 .q 8 .pick [.r 1, .c (.bool true), .r 7] none <|
 .out [(0, .s 0), (3, .s 3), (5, .s 5), (6, .s 6), (80, .r 8)]
def e198r15 : EE := .q 1 (.fld 1) [.s 6] none <|
 .q 2 .ld [.r 1] none <|
 .q 3 (.fld 2) [.s 6] none <|
 .q 4 .ld [.r 3] none <|
 .q 5 (.bld [z, (.bool false), zs, z, .nsl] [(2, 1), (3, 1)]) [.r 2, .r 4] none <|
 .x 7 (.st 5) [.s 5, .r 5] none [] <|
 .out [(4, .s 0), (5, .s 5)]
def e198r16 : EE := .q 1 (.fld 3) [.s 3] none <|
 .q 2 .ld [.r 1] none <|
 .q 3 (.fld 6) [.s 3] none <|
 .q 4 .ld [.r 3] none <|
 .x 5 (.call 242) [.s 0, .r 2, .r 4] none [] <|
 .q 7 (.ext 0) [.r 5] none <|
 .q 8 (.ext 1) [.r 5] none <|
 .out [(5, .s 5), (6, .s 6), (12, .r 7)]
def e198r17 : EE := .q 1 (.fld 1) [.s 6] none <|
 .q 2 .ld [.r 1] none <|
 .q 3 (.fld 2) [.s 6] none <|
 .q 4 .ld [.r 3] none <|
 .q 5 .add [.r 4, .c (.int .i64 1)] none <|
 .q 6 (.bld [z, (.bool false), zs, z, .nsl] [(1, 1), (2, 1), (3, 1)]) [.c (.bool true), .r 2, .r 5] none <|
 .x 8 (.st 5) [.s 5, .r 6] none [] <|
 .out [(4, .s 12), (5, .s 5)]
def e198r18 : EE := .q 1 (.fld 3) [.s 3] none <|
 .q 2 .ld [.r 1] none <|
 .q 3 (.fld 4) [.s 3] none <|
 .q 4 .ld [.r 3] none <|
 .q 5 (.bld [zs, zs] [(0, 1), (1, 1)]) [.r 2, .r 4] none <|
 .x 6 (.call 244) [.s 0, .r 5] none [] <|
 .q 8 (.ext 0) [.r 6] none <|
 .q 9 (.ext 1) [.r 6] none <|
 .out [(0, .s 0), (5, .s 5), (14, .r 8), (15, .r 9)]
def e198r19 : EE := .q 3 (.bld [z, (.bool false), zs, z, .nsl] [(1, 1), (4, 1)]) [.s 15, .s 14] none <|
 .x 5 (.st 5) [.s 5, .r 3] none [] <|
 .out [(4, .s 0), (5, .s 5)]
def e198 : EFn := ⟨(.seq (.reg e198r0 [0, 1] 0) (.seq (.reg e198r1 [0, 3, 5] 0) (.seq (.seq (.reg e198r2 [0, 3, 5, 6, 7] 0) (.block 0 (.seq (.reg e198r3 [0, 3, 5, 6, 7, 24] 0) (.cond (.s 25) (.seq (.reg e198r4 [0, 5, 6, 7] 0) .ret) (.seq (.reg e198r5 [0, 3, 5, 6, 7, 24] 0) (.cond (.s 34) (.seq (.reg e198r6 [0, 3, 5, 6, 7] 0) (.seq (.seq (.reg e198r7 [0, 5, 6, 7, 8, 9] 0) (.cond (.s 46) (.seq (.reg e198r8 [0, 5, 9] 0) .ret) .skip)) (.seq (.reg e198r9 [5, 6, 7, 8] 0) .ret))) (.seq (.reg e198r10 [0, 3, 5, 6, 7, 24] 0) (.cond (.s 56) (.seq (.reg e198r11 [0, 3, 5, 6, 7] 0) (.seq (.reg e198r12 [5, 6, 7, 10] 0) .ret)) (.seq (.reg e198r13 [0, 3, 5, 6, 7, 24] 0) (.cond (.s 70) (.seq (.seq (.reg e198r14 [0, 3, 5, 6, 7] 0) (.cond (.s 80) (.seq (.reg e198r15 [0, 5, 6] 0) .ret) .skip)) (.seq (.reg e198r16 [0, 3, 5, 6] 0) (.seq (.reg e198r17 [5, 6, 12] 0) .ret))) .skip)))))))))) (.seq (.reg e198r18 [0, 3, 5] 0) (.seq (.reg e198r19 [0, 5, 14, 15] 0) .ret))))), [.slot 4, .cells 5 5], 117, 0⟩
theorem g198 : Good Tryz.prog 198 e198 := ⟨Tryz.f198, Tryz.func198, by kernel_rfl, by kernel_rfl, by kernel_rfl, by kernel_rfl⟩
/-! concord/dedup.Note -/
def e199r0 : EE := .x 0 (.box 71) [.s 0] none [] <|
 .x 1 (.box 68) [.s 3] none [] <|
 .x 2 (.alc [z, z, (.bool false), zs, z, .nsl, z, z, (.bool false), zs, z, .nsl, z, z, (.bool false), zs, z, .nsl, z, z, (.bool false), zs, z, .nsl, z, z, (.bool false), zs, z, .nsl, z, z, (.bool false), zs, z, .nsl, z, z, (.bool false), zs, z, .nsl, z, z, (.bool false), zs, z, .nsl] 71) [] none [] <|
 .out [(1, .s 1), (2, .s 2), (4, .r 0), (7, .r 1), (8, .r 2)]
def e199r1 : EE := .x 1 (.call 239) [.s 1] none [] <|
 .out [(1, .s 1), (2, .s 2), (4, .s 4), (7, .s 7), (8, .s 8), (11, .r 1)]
def e199r2 : EE := .q 1 .sub [.s 1, .c (.int .i64 1)] none <|
 .q 3 (.lda 5) [.s 7] none <|
 .q 4 (.bld [z, z, (.bool false), zs, z, .nsl] [(0, 1), (1, 5)]) [.s 2, .r 3] none <|
 .q 5 (.ixa 8 6) [.s 4, .r 1] none <|
 .x 6 (.st 6) [.r 5, .r 4] none [] <|
 .out [(4, .s 4), (8, .s 8)]
def e199r3 : EE := .out [(4, .s 4), (8, .s 8), (18, .c z)]
def e199r4 : EE := .q 0 .lss [.s 18, .c (.int .i64 8)] none <|
 .out [(4, .s 4), (8, .s 8), (18, .s 18), (19, .r 0)]
def e199r5 : EE := .out [(4, .s 4), (8, .s 8), (9, .s 18), (18, .s 18)]
def e199r6 : EE := .q 2 (.ixa 8 6) [.s 4, .s 9] none <|
 .q 3 (.fld 1) [.r 2] none <|
 .q 4 (.lda 5) [.r 3] none <|
 .x 5 (.call 240) [.r 4] none [] <|
 .q 6 (.ixa 8 6) [.s 4, .s 9] none <|
 .q 7 (.fld 1) [.r 6] none <|
 .x 8 (.st 5) [.r 7, .r 5] none [] <|
 .out [(4, .s 4), (8, .s 8), (18, .s 18)]
def e199r7 : EE := .q 0 .add [.s 18, .c (.int .i64 1)] none <|
 .out [(4, .s 4), (8, .s 8), (18, .r 0)]
def e199l8 : EC := (.seq (.reg e199r4 [4, 8, 18] 0) (.seq (.cond (.s 19) .skip (.exit 0)) (.seq (.block 1 (.seq (.reg e199r5 [4, 8, 18] 0) (.reg e199r6 [4, 8, 9, 18] 0))) (.reg e199r7 [4, 8, 18] 0))))
def e199r9 : EE := .q 0 (.lda 48) [.s 4] none <|
 .x 1 (.st 48) [.s 8, .r 0] none [] <|
 .out [(8, .s 8)]
def e199 : EFn := ⟨(.seq (.reg e199r0 [0, 1, 2, 3] 0) (.seq (.seq (.reg e199r1 [1, 2, 4, 7, 8] 0) (.cond (.s 11) (.reg e199r2 [1, 2, 4, 7, 8] 0) .skip)) (.seq (.seq (.reg e199r3 [4, 8] 0) (.block 0 (.loop [4, 8, 18] e199l8))) (.seq (.reg e199r9 [4, 8] 0) .ret)))), [.cells 8 48], 31, 0⟩
theorem g199 : Good Tryz.prog 199 e199 := ⟨Tryz.f199, Tryz.func199, by kernel_rfl, by kernel_rfl, by kernel_rfl, by kernel_rfl⟩
/-! concord/pack.Flag -/
def e203r0 : EE := .out [(0, .s 0), (1, .s 1)]
def e203r1 : EE := .out [(0, .s 0), (5, .s 1)]
def e203r2 : EE := .x 1 (.call 117) [.s 0, .c (.int .i64 1)] none [] <|
 .x 2 (.bsl 5 1 [(.int .u8 0)] [(0, 1)]) [.c (.int .u8 1)] none [] <|
 .x 3 (.app 5 1 1 [(.int .u8 0)]) [.r 1, .r 2] none [] <|
 .out [(4, .r 3)]
def e203r3 : EE := .x 1 (.call 117) [.s 0, .c (.int .i64 1)] none [] <|
 .x 2 (.bsl 5 1 [(.int .u8 0)] [(0, 1)]) [.c (.int .u8 0)] none [] <|
 .x 3 (.app 5 1 1 [(.int .u8 0)]) [.r 1, .r 2] none [] <|
 .out [(4, .r 3)]
def e203 : EFn := ⟨(.seq (.reg e203r0 [0, 1] 0) (.seq (.seq (.reg e203r1 [0, 1] 0) (.cond (.s 5) (.seq (.reg e203r2 [0] 0) .ret) .skip)) (.seq (.reg e203r3 [0] 0) .ret))), [.slot 4], 14, 0⟩
theorem g203 : Good Tryz.prog 203 e203 := ⟨Tryz.f203, Tryz.func203, by kernel_rfl, by kernel_rfl, by kernel_rfl, by kernel_rfl⟩
/-! concord/pack.Text -/
def e204r0 : EE := .out [(0, .s 0), (1, .s 1)]
def e204r1 : EE := .q 2 .lenz [.s 1] none <|
 .q 3 .add [.c (.int .i64 10), .r 2] none <|
 .x 4 (.call 117) [.s 0, .r 3] none [] <|
 .q 6 .lenz [.s 1] none <|
 .x 7 (.call 128) [.r 4, .r 6] none [] <|
 .x 9 (.tapps 5) [.r 7, .s 1] none [] <|
 .out [(4, .r 9)]
def e204 : EFn := ⟨(.seq (.reg e204r0 [0, 1] 0) (.seq (.reg e204r1 [0, 1] 0) .ret)), [.slot 4], 15, 0⟩
theorem g204 : Good Tryz.prog 204 e204 := ⟨Tryz.f204, Tryz.func204, by kernel_rfl, by kernel_rfl, by kernel_rfl, by kernel_rfl⟩
/-! (*concord/log.Log).Cut -/
def e205r0 : EE := .x 0 (.alc [z, z, z, z, z, z, z] 38) [] none [] <|
 .out [(0, .s 0), (2, .r 0)]
def e205r1 : EE := .q 1 .nl [.s 0] none <|
 .q 2 (.fld 1) [.r 1] none <|
 .q 3 (.lda 7) [.r 2] none <|
 .x 4 (.st 7) [.s 2, .r 3] none [] <|
 .out [(2, .s 2)]
def e205 : EFn := ⟨(.seq (.reg e205r0 [0] 0) (.seq (.reg e205r1 [0, 2] 0) .ret)), [.cells 2 7], 7, 0⟩
theorem g205 : Good Tryz.prog 205 e205 := ⟨Tryz.f205, Tryz.func205, by kernel_rfl, by kernel_rfl, by kernel_rfl, by kernel_rfl⟩
/-! slices.DeleteFunc[[]*concord/core.lead,*concord/core.lead] -/
def e206r0 : EE := .out [(0, .s 0), (1, .s 1)]
def e206r1 : EE := .x 2 (.call 247) [.s 0, .s 1] none [] <|
 .out [(0, .s 0), (1, .s 1), (5, .r 2)]
def e206r2 : EE := .q 1 .eql [.s 5, .c (.int .i64 (-1))] none <|
 .out [(0, .s 0), (1, .s 1), (5, .s 5), (12, .r 1)]
def e206r3 : EE := .out [(4, .s 0)]
def e206r4 : EE := .q 1 .add [.s 5, .c (.int .i64 1)] none <|
 .out [(0, .s 0), (1, .s 1), (5, .s 5), (6, .r 1)]
def e206r5 : EE := .q 2 .len [.s 0] none <|
 .q 3 .lss [.s 6, .r 2] none <|
 .out [(0, .s 0), (1, .s 1), (5, .s 5), (6, .s 6), (19, .r 3)]
def e206r6 : EE := .q 2 (.ixs 1) [.s 0, .s 6] none <|
 .q 3 .ld [.r 2] none <|
 .out [(0, .s 0), (1, .s 1), (5, .s 5), (6, .s 6), (7, .r 3)]
def e206r7 : EE := .x 2 .callv [.s 1, .s 7] none [] <|
 .q 3 .not [.r 2] none <|
 .out [(0, .s 0), (1, .s 1), (5, .s 5), (6, .s 6), (7, .s 7), (29, .r 3)]
def e206r8 : EE := .q 3 (.ixs 1) [.s 0, .s 5] none <|
 .x 4 (.st 1) [.r 3, .s 7] none [] <|
 .out [(0, .s 0), (1, .s 1), (5, .s 5), (6, .s 6)]
def e206r9 : EE := .q 1 .add [.s 5, .c (.int .i64 1)] none <|
 .out [(0, .s 0), (1, .s 1), (5, .r 1), (6, .s 6)]
def e206r10 : EE := .q 1 .add [.s 6, .c (.int .i64 1)] none <|
 .out [(0, .s 0), (1, .s 1), (5, .s 5), (6, .r 1)]
def e206l11 : EC := (.seq (.seq (.reg e206r5 [0, 1, 5, 6] 0) (.cond (.s 19) .skip (.exit 0))) (.seq (.block 1 (.seq (.reg e206r6 [0, 1, 5, 6] 0) (.seq (.reg e206r7 [0, 1, 5, 6, 7] 0) (.cond (.s 29) (.seq (.reg e206r8 [0, 1, 5, 6, 7] 0) (.reg e206r9 [0, 1, 5, 6] 0)) .skip)))) (.reg e206r10 [0, 1, 5, 6] 0)))
def e206r12 : EE := .q 2 (.slc 1 true false) [.s 0, .s 5] none <|
 .x 3 (.clr [.nptr]) [.r 2] none [] <|
 .out [(0, .s 0), (5, .s 5)]
def e206r13 : EE := .q 2 (.slc 1 false true) [.s 0, .s 5] none <|
 .out [(4, .r 2)]
def e206 : EFn := ⟨(.seq (.reg e206r0 [0, 1] 0) (.seq (.reg e206r1 [0, 1] 0) (.seq (.seq (.reg e206r2 [0, 1, 5] 0) (.cond (.s 12) (.seq (.reg e206r3 [0] 0) .ret) .skip)) (.seq (.seq (.reg e206r4 [0, 1, 5] 0) (.block 0 (.loop [0, 1, 5, 6] e206l11))) (.seq (.reg e206r12 [0, 5] 0) (.seq (.reg e206r13 [0, 5] 0) .ret)))))), [.slot 4], 42, 0⟩
theorem g206 : Good Tryz.prog 206 e206 := ⟨Tryz.f206, Tryz.func206, by kernel_rfl, by kernel_rfl, by kernel_rfl, by kernel_rfl⟩
/-! concord/letter.PutCell -/
def e209r0 : EE := .x 0 (.box 86) [.s 1] none [] <|
 .out [(0, .s 0), (3, .r 0)]
def e209r1 : EE := .q 0 (.lda 21) [.s 3] none <|
 .x 1 (.call 124) [.r 0] none [] <|
 .q 2 .not [.r 1] none <|
 .out [(0, .s 0), (3, .s 3), (7, .r 2)]
def e209r2 : EE := .x 1 (.app 5 1 1 [(.int .u8 0)]) [.c .nsl, .s 0] none [] <|
 .out [(4, .r 1)]
def e209r3 : EE := .q 1 (.fld 0) [.s 3] none <|
 .q 2 .ld [.r 1] none <|
 .q 4 (.fld 1) [.s 3] none <|
 .q 5 (.lda 2) [.r 4] none <|
 .x 3 (.call 75) [.s 0, .r 2] none [⟨5, (.lda 2), [.r 4], none⟩] <|
 .x 6 (.call 248) [.r 3, .r 5] none [] <|
 .out [(0, .r 6), (3, .s 3)]
def e209r4 : EE := .q 0 (.fld 0) [.s 3] none <|
 .q 1 .ld [.r 0] none <|
 .q 2 .eql [.r 1, .c z] none <|
 .out [(0, .s 0), (3, .s 3), (19, .r 2)]
def e209r5 : EE := .out [(4, .s 0)]
def e209r6 : EE := .q 1 (.fld 3) [.s 3] none <|
 .q 2 (.lda 2) [.r 1] none <|
 .q 4 (.fld 5) [.s 3] none <|
 .q 5 (.lda 7) [.r 4] none <|
 .x 3 (.call 248) [.s 0, .r 2] none [⟨5, (.lda 7), [.r 4], none⟩] <|
 .x 6 (.call 249) [.r 3, .r 5] none [] <|
 .out [(0, .r 6), (3, .s 3)]
def e209r7 : EE := .q 1 (.fld 12) [.s 3] none <|
 .q 2 (.lda 8) [.r 1] none <|
 .q 4 (.fld 20) [.s 3] none <|
 .q 5 .ld [.r 4] none <|
 .x 3 (.call 250) [.s 0, .r 2] none [⟨5, .ld, [.r 4], none⟩] <|
 .x 6 (.call 203) [.r 3, .r 5] none [] <|
 .out [(4, .r 6)]
def e209 : EFn := ⟨(.seq (.reg e209r0 [0, 1] 0) (.seq (.seq (.reg e209r1 [0, 3] 0) (.cond (.s 7) (.seq (.reg e209r2 [0] 0) .ret) .skip)) (.seq (.reg e209r3 [0, 3] 0) (.seq (.seq (.reg e209r4 [0, 3] 0) (.cond (.s 19) (.seq (.reg e209r5 [0] 0) .ret) .skip)) (.seq (.reg e209r6 [0, 3] 0) (.seq (.reg e209r7 [0, 3] 0) .ret)))))), [.slot 4], 35, 0⟩
theorem g209 : Good Tryz.prog 209 e209 := ⟨Tryz.f209, Tryz.func209, by kernel_rfl, by kernel_rfl, by kernel_rfl, by kernel_rfl⟩
/-! (*concord/interf.Index).Attr -/
def e210r0 : EE := .x 0 (.box 80) [.s 1] none [] <|
 .x 1 (.box 30) [.s 2] none [] <|
 .x 2 (.alc [z, z, z, z, z, z, z, z] 84) [] none [] <|
 .out [(0, .s 0), (4, .r 0), (5, .r 1), (6, .r 2)]
def e210r1 : EE := .x 0 (.alc [z, z, z, z, z, z, z, z] 84) [] none [] <|
 .out [(0, .s 0), (4, .s 4), (5, .s 5), (6, .s 6), (7, .r 0)]
def e210r2 : EE := .q 1 .nl [.s 0] none <|
 .q 2 (.fld 0) [.r 1] none <|
 .q 3 .ld [.r 2] none <|
 .x 4 .rng [.r 3] none [] <|
 .out [(0, .s 0), (4, .s 4), (5, .s 5), (6, .s 6), (7, .s 7), (15, .r 4)]
def e210r3 : EE := .x 0 .nxt [.s 15] none [] <|
 .q 1 (.ext 0) [.r 0] none <|
 .out [(0, .s 0), (4, .s 4), (5, .s 5), (6, .s 6), (7, .s 7), (15, .s 15), (17, .r 1)]
def e210r4 : EE := .q 0 .ent [.s 15] none <|
 .q 1 (.ext 0) [.r 0] none <|
 .q 2 (.ext 1) [.r 0] none <|
 .x 3 (.alc [z, z] 80) [] none [] <|
 .x 4 (.alc [z, z, z, zs, zs, zs, zs, z] 292) [] none [] <|
 .x 5 (.st 2) [.r 3, .r 1] none [] <|
 .x 6 (.st 8) [.r 4, .r 2] none [] <|
 .out [(0, .s 0), (4, .s 4), (5, .s 5), (6, .s 6), (7, .s 7), (8, .r 3), (9, .r 4), (15, .s 15)]
def e210r5 : EE := .q 0 (.fld 0) [.s 8] none <|
 .q 1 .ld [.r 0] none <|
 .q 2 (.fld 0) [.s 4] none <|
 .q 3 .ld [.r 2] none <|
 .q 4 .eql [.r 1, .r 3] none <|
 .q 6 (.fld 1) [.s 8] (some (.r 4, true)) <|
 .q 7 .ld [.r 6] (some (.r 4, true)) <|
 .q 8 (.fld 1) [.s 4] (some (.r 4, true)) <|
 .q 9 .ld [.r 8] (some (.r 4, true)) <|
 .q 10 .geq [.r 7, .r 9] (some (.r 4, true)) <|
 .q 11 .pick [.r 4, .r 10, .c (.bool false)] none <|
 .q 13 (.fld 0) [.s 9] (some (.r 11, false)) <|
 .q 14 (.lda 7) [.r 13] (some (.r 11, false)) <|
 .q 15 (.lda 7) [.s 5] (some (.r 11, false)) <|
 .x 16 (.call 251) [.r 14, .r 15] (some (.r 11, false)) [] <|
 .q 17 .not [.r 16] (some (.r 11, false)) <|
 .q 18 .pick [.r 11, .c (.bool true), .r 17] none <|
 .out [(0, .s 0), (4, .s 4), (5, .s 5), (6, .s 6), (7, .s 7), (8, .s 8), (9, .s 9), (15, .s 15), (39, .r 18)]
def e210r6 : EE := .q 0 (.fld 0) [.s 7] none <|
 .q 1 .ld [.r 0] none <|
 .q 2 (.fld 7) [.s 9] none <|
 .q 3 .ld [.r 2] none <|
 .q 4 .add [.r 3, .c (.int .i64 1)] none <|
 .q 5 .mx [.r 1, .r 4] none <|
 .q 6 (.fld 0) [.s 7] none <|
 .x 7 (.st 1) [.r 6, .r 5] none [] <|
 .out [(0, .s 0), (4, .s 4), (5, .s 5), (6, .s 6), (7, .s 7), (8, .s 8), (15, .s 15)]
def e210r7 : EE := .q 0 (.fld 0) [.s 8] none <|
 .q 1 .ld [.r 0] none <|
 .q 2 (.fld 0) [.s 8] none <|
 .q 3 .ld [.r 2] none <|
 .q 4 (.fld 1) [.s 7] none <|
 .q 5 (.ixa 7 1) [.r 4, .r 3] none <|
 .q 6 .ld [.r 5] none <|
 .q 7 (.fld 1) [.s 8] none <|
 .q 8 .ld [.r 7] none <|
 .q 9 .mx [.r 6, .r 8] none <|
 .q 10 (.fld 1) [.s 7] none <|
 .q 11 (.ixa 7 1) [.r 10, .r 1] none <|
 .x 12 (.st 1) [.r 11, .r 9] none [] <|
 .out [(0, .s 0), (4, .s 4), (5, .s 5), (6, .s 6), (7, .s 7), (15, .s 15)]
def e210l8 : EC := (.seq (.reg e210r3 [0, 4, 5, 6, 7, 15] 0) (.seq (.cond (.s 17) .skip (.exit 0)) (.block 1 (.seq (.reg e210r4 [0, 4, 5, 6, 7, 15] 0) (.seq (.seq (.reg e210r5 [0, 4, 5, 6, 7, 8, 9, 15] 0) (.cond (.s 39) (.exit 1) .skip)) (.seq (.reg e210r6 [0, 4, 5, 6, 7, 8, 9, 15] 0) (.reg e210r7 [0, 4, 5, 6, 7, 8, 15] 0)))))))
def e210r9 : EE := .out [(0, .s 0), (4, .s 4), (6, .s 6), (7, .s 7), (59, .c z)]
def e210r10 : EE := .q 0 .lss [.s 59, .c (.int .i64 7)] none <|
 .out [(0, .s 0), (4, .s 4), (6, .s 6), (7, .s 7), (59, .s 59), (60, .r 0)]
def e210r11 : EE := .out [(0, .s 0), (4, .s 4), (6, .s 6), (7, .s 7), (10, .s 59), (59, .s 59)]
def e210r12 : EE := .q 1 (.fld 0) [.s 4] none <|
 .q 2 .ld [.r 1] none <|
 .q 3 .neq [.s 10, .r 2] none <|
 .out [(0, .s 0), (4, .s 4), (6, .s 6), (7, .s 7), (10, .s 10), (59, .s 59), (62, .r 3)]
def e210r13 : EE := .q 2 (.fld 1) [.s 7] none <|
 .q 3 (.ixa 7 1) [.r 2, .s 10] none <|
 .q 4 .ld [.r 3] none <|
 .q 7 .nl [.s 0] none <|
 .q 8 (.fld 1) [.r 7] none <|
 .q 9 (.ixa 7 1) [.r 8, .s 10] none <|
 .q 10 .ld [.r 9] none <|
 .q 11 .mx [.r 4, .r 10] none <|
 .q 12 (.fld 1) [.s 7] none <|
 .q 13 (.ixa 7 1) [.r 12, .s 10] none <|
 .x 14 (.st 1) [.r 13, .r 11] none [] <|
 .out [(0, .s 0), (4, .s 4), (6, .s 6), (7, .s 7), (59, .s 59)]
def e210r14 : EE := .q 0 (.lda 2) [.s 4] none <|
 .x 1 (.call 122) [.r 0] none [] <|
 .out [(0, .s 0), (4, .s 4), (6, .s 6), (7, .s 7), (10, .s 10), (59, .s 59), (81, .r 1)]
def e210r15 : EE := .q 2 (.fld 1) [.s 7] none <|
 .q 3 (.ixa 7 1) [.r 2, .s 10] none <|
 .q 4 .ld [.r 3] none <|
 .q 5 (.fld 1) [.s 4] none <|
 .q 6 .ld [.r 5] none <|
 .q 7 .sub [.r 6, .c (.int .i64 1)] none <|
 .q 8 .mx [.r 4, .r 7] none <|
 .q 9 (.fld 1) [.s 7] none <|
 .q 10 (.ixa 7 1) [.r 9, .s 10] none <|
 .x 11 (.st 1) [.r 10, .r 8] none [] <|
 .out [(0, .s 0), (4, .s 4), (6, .s 6), (7, .s 7), (59, .s 59)]
def e210r16 : EE := .q 0 .add [.s 59, .c (.int .i64 1)] none <|
 .out [(0, .s 0), (4, .s 4), (6, .s 6), (7, .s 7), (59, .r 0)]
def e210l17 : EC := (.seq (.reg e210r10 [0, 4, 6, 7, 59] 0) (.seq (.cond (.s 60) .skip (.exit 2)) (.seq (.block 3 (.seq (.reg e210r11 [0, 4, 6, 7, 59] 0) (.block 4 (.seq (.reg e210r12 [0, 4, 6, 7, 10, 59] 0) (.cond (.s 62) (.reg e210r13 [0, 4, 6, 7, 10, 59] 0) (.seq (.reg e210r14 [0, 4, 6, 7, 10, 59] 0) (.cond (.s 81) (.reg e210r15 [0, 4, 6, 7, 10, 59] 0) .skip))))))) (.reg e210r16 [0, 4, 6, 7, 59] 0))))
def e210r18 : EE := .q 0 (.lda 8) [.s 7] none <|
 .x 1 (.st 8) [.s 6, .r 0] none [] <|
 .out [(6, .s 6)]
def e210 : EFn := ⟨(.seq (.reg e210r0 [0, 1, 2] 0) (.seq (.reg e210r1 [0, 4, 5, 6] 0) (.seq (.seq (.reg e210r2 [0, 4, 5, 6, 7] 0) (.block 0 (.loop [0, 4, 5, 6, 7, 15] e210l8))) (.seq (.seq (.reg e210r9 [0, 4, 6, 7] 0) (.block 2 (.loop [0, 4, 6, 7, 59] e210l17))) (.seq (.reg e210r18 [6, 7] 0) .ret))))), [.cells 6 8], 97, 0⟩
theorem g210 : Good Tryz.prog 210 e210 := ⟨Tryz.f210, Tryz.func210, by kernel_rfl, by kernel_rfl, by kernel_rfl, by kernel_rfl⟩
/-! slices.Index[[]concord/api.Inst,concord/api.Inst] -/
def e211r0 : EE := .x 0 (.box 80) [.s 1] none [] <|
 .out [(0, .s 0), (3, .r 0)]
def e211r1 : EE := .q 1 .len [.s 0] none <|
 .out [(0, .s 0), (3, .s 3), (7, .r 1), (8, .c z)]
def e211r2 : EE := .q 0 .lss [.s 8, .s 7] none <|
 .out [(0, .s 0), (3, .s 3), (7, .s 7), (8, .s 8), (9, .r 0)]
def e211r3 : EE := .out [(0, .s 0), (3, .s 3), (5, .s 8), (7, .s 7), (8, .s 8)]
def e211r4 : EE := .q 0 (.lda 2) [.s 3] none <|
 .q 3 (.ixs 2) [.s 0, .s 5] none <|
 .q 4 (.lda 2) [.r 3] none <|
 .q 5 (.eqc false [(.i .i64), (.i .i64)]) [.r 0, .r 4] none <|
 .out [(0, .s 0), (3, .s 3), (5, .s 5), (7, .s 7), (8, .s 8), (16, .r 5)]
def e211r5 : EE := .out [(4, .s 5)]
def e211r6 : EE := .q 0 .add [.s 8, .c (.int .i64 1)] none <|
 .out [(0, .s 0), (3, .s 3), (7, .s 7), (8, .r 0)]
def e211l7 : EC := (.seq (.reg e211r2 [0, 3, 7, 8] 0) (.seq (.cond (.s 9) .skip (.exit 0)) (.seq (.block 1 (.seq (.reg e211r3 [0, 3, 7, 8] 0) (.seq (.reg e211r4 [0, 3, 5, 7, 8] 0) (.cond (.s 16) (.seq (.reg e211r5 [5] 0) .ret) .skip)))) (.reg e211r6 [0, 3, 7, 8] 0))))
def e211r8 : EE := .out [(4, .c (.int .i64 (-1)))]
def e211 : EFn := ⟨(.seq (.reg e211r0 [0, 1] 0) (.seq (.seq (.reg e211r1 [0, 3] 0) (.block 0 (.loop [0, 3, 7, 8] e211l7))) (.seq (.reg e211r8 [] 0) .ret))), [.slot 4], 19, 0⟩
theorem g211 : Good Tryz.prog 211 e211 := ⟨Tryz.f211, Tryz.func211, by kernel_rfl, by kernel_rfl, by kernel_rfl, by kernel_rfl⟩
/-! (*concord/core.Core).leave -/
def e212r0 : EE := .x 0 (.box 80) [.s 1] none [] <|
 .out [(0, .s 0), (3, .r 0)]
def e212r1 : EE := .q 2 .nl [.s 0] none <|
 .q 3 (.fld 4) [.r 2] none <|
 .q 4 .ld [.r 3] none <|
 .q 5 (.mkf 252 0) [.s 3] none <|
 .x 6 (.call 206) [.r 4, .r 5] none [] <|
 .q 7 .nl [.s 0] none <|
 .q 8 (.fld 4) [.r 7] none <|
 .x 9 (.st 1) [.r 8, .r 6] none [] <|
 .out []
def e212 : EFn := ⟨(.seq (.reg e212r0 [0, 1] 0) (.reg e212r1 [0, 3] 0)), [], 13, 0⟩
theorem g212 : Good Tryz.prog 212 e212 := ⟨Tryz.f212, Tryz.func212, by kernel_rfl, by kernel_rfl, by kernel_rfl, by kernel_rfl⟩
/-! (*concord/core.Core).pre -/
def e213r0 : EE := .x 0 (.box 88) [.s 1] none [] <|
 .x 1 (.box 86) [.s 2] none [] <|
 .out [(0, .s 0), (3, .s 3), (5, .r 0), (6, .r 1)]
def e213r1 : EE := .q 0 (.fld 3) [.s 5] none <|
 .q 1 (.lda 2) [.r 0] none <|
 .q 2 (.fld 5) [.s 5] none <|
 .q 3 (.lda 2) [.r 2] none <|
 .q 4 (.fld 12) [.s 6] none <|
 .q 5 (.lda 8) [.r 4] none <|
 .q 6 (.bld [z, z, z, z, z, z, z, z, z, z, zs, zs, zs, zs, z, z, z, z, z, z, z, z, z, z, z, z, z, z, z, z, zs, zs, zs, zs, z, z, z, z, z, z, z, z, (.bool false), z, z, z, z, z, z, z, zs] [(0, 1), (3, 2), (5, 2), (14, 8)]) [.c (.int .i64 2), .r 1, .r 3, .r 5] none <|
 .x 7 (.alc [z, z, z, z, z, z, z, z, z, z, zs, zs, zs, zs, z, z, z, z, z, z, z, z, z, z, z, z, z, z, z, z, zs, zs, zs, zs, z, z, z, z, z, z, z, z, (.bool false), z, z, z, z, z, z, z, zs] 88) [] none [] <|
 .x 8 (.st 51) [.r 7, .r 6] none [] <|
 .out [(0, .s 0), (3, .s 3), (5, .s 5), (6, .s 6), (8, .r 7)]
def e213r2 : EE := .out [(0, .s 0), (5, .s 5), (6, .s 6), (8, .s 8), (18, .s 3)]
def e213r3 : EE := .q 0 (.fld 0) [.s 6] none <|
 .q 1 .ld [.r 0] none <|
 .q 2 .eql [.r 1, .c (.int .i64 1)] none <|
 .out [(0, .s 0), (5, .s 5), (8, .s 8), (21, .r 2)]
def e213r4 : EE := .q 1 (.fld 1) [.s 5] none <|
 .q 2 .ld [.r 1] none <|
 .q 3 (.lda 51) [.s 8] none <|
 .x 4 (.call 165) [.s 0, .r 2, .r 3] none [] <|
 .out []
def e213r5 : EE := .q 0 (.fld 14) [.s 5] none <|
 .q 1 (.lda 8) [.r 0] none <|
 .q 3 .nl [.s 0] none <|
 .q 4 (.fld 3) [.r 3] none <|
 .q 5 .ld [.r 4] none <|
 .q 6 (.fld 3) [.s 5] none <|
 .q 7 (.lda 2) [.r 6] none <|
 .q 8 (.fld 7) [.s 5] none <|
 .q 9 (.lda 7) [.r 8] none <|
 .both false
 (.x 10 (.call 210) [.r 5, .r 7, .r 9] none [⟨1, (.lda 8), [.r 0], none⟩] <|
 .both false
 (.x 11 (.bsl 84 2 [z, z, z, z, z, z, z, z, z, z, z, z, z, z, z, z] [(0, 8), (8, 8)]) [.r 1, .r 10] none [] <|
 .both false
 (.x 12 (.call 217) [.r 11] none [] <|
 .x 13 (.alc [z, z, z, z, z, z, z, z] 84) [] none [⟨1, (.lda 8), [.r 0], none⟩, ⟨5, .ld, [.r 4], none⟩, ⟨7, (.lda 2), [.r 6], none⟩, ⟨9, (.lda 7), [.r 8], none⟩] <|
 .x 14 (.st 8) [.r 13, .r 12] none [] <|
 .out [(0, .s 0), (5, .s 5), (8, .s 8), (9, .r 13)])
 (.x 13 (.alc [z, z, z, z, z, z, z, z] 84) [] none [⟨1, (.lda 8), [.r 0], none⟩, ⟨5, .ld, [.r 4], none⟩, ⟨7, (.lda 2), [.r 6], none⟩, ⟨9, (.lda 7), [.r 8], none⟩] <|
 .x 12 (.call 217) [.r 11] none [] <|
 .x 14 (.st 8) [.r 13, .r 12] none [] <|
 .out [(0, .s 0), (5, .s 5), (8, .s 8), (9, .r 13)]))
 (.x 13 (.alc [z, z, z, z, z, z, z, z] 84) [] none [⟨1, (.lda 8), [.r 0], none⟩, ⟨5, .ld, [.r 4], none⟩, ⟨7, (.lda 2), [.r 6], none⟩, ⟨9, (.lda 7), [.r 8], none⟩] <|
 .x 11 (.bsl 84 2 [z, z, z, z, z, z, z, z, z, z, z, z, z, z, z, z] [(0, 8), (8, 8)]) [.r 1, .r 10] none [] <|
 .x 12 (.call 217) [.r 11] none [] <|
 .x 14 (.st 8) [.r 13, .r 12] none [] <|
 .out [(0, .s 0), (5, .s 5), (8, .s 8), (9, .r 13)]))
 (.x 13 (.alc [z, z, z, z, z, z, z, z] 84) [] none [⟨1, (.lda 8), [.r 0], none⟩, ⟨5, .ld, [.r 4], none⟩, ⟨7, (.lda 2), [.r 6], none⟩, ⟨9, (.lda 7), [.r 8], none⟩] <|
 .x 10 (.call 210) [.r 5, .r 7, .r 9] none [⟨1, (.lda 8), [.r 0], none⟩] <|
 .x 11 (.bsl 84 2 [z, z, z, z, z, z, z, z, z, z, z, z, z, z, z, z] [(0, 8), (8, 8)]) [.r 1, .r 10] none [] <|
 .x 12 (.call 217) [.r 11] none [] <|
 .x 14 (.st 8) [.r 13, .r 12] none [] <|
 .out [(0, .s 0), (5, .s 5), (8, .s 8), (9, .r 13)])
def e213r6 : EE := .q 0 (.fld 5) [.s 5] none <|
 .q 1 (.lda 2) [.r 0] none <|
 .q 2 (.bld [z, z] []) [] none <|
 .q 3 (.eqc false [(.i .i64), (.i .i64)]) [.r 1, .r 2] none <|
 .q 5 (.lda 8) [.s 9] (some (.r 3, true)) <|
 .q 6 (.fld 14) [.s 5] (some (.r 3, true)) <|
 .q 7 (.lda 8) [.r 6] (some (.r 3, true)) <|
 .q 8 (.eqc false [(.i .i64), (.i .i64), (.i .i64), (.i .i64), (.i .i64), (.i .i64), (.i .i64), (.i .i64)]) [.r 5, .r 7] (some (.r 3, true)) <|
 .q 9 .pick [.r 3, .r 8, .c (.bool false)] none <|
 .out [(0, .s 0), (5, .s 5), (8, .s 8), (9, .s 9), (10, .r 9)]
def e213r7 : EE := .q 0 (.lda 8) [.s 9] none <|
 .x 1 (.call 66) [.r 0] none [] <|
 .q 2 .not [.r 1] none <|
 .q 4 .mv [.s 0] (some (.r 2, false)) <|
 .q 5 (.fld 3) [.s 5] (some (.r 2, false)) <|
 .q 6 (.lda 2) [.r 5] (some (.r 2, false)) <|
 .q 7 (.fld 5) [.s 5] (some (.r 2, false)) <|
 .q 8 (.lda 2) [.r 7] (some (.r 2, false)) <|
 .q 9 (.fld 5) [.s 5] (some (.r 2, false)) <|
 .q 10 (.lda 2) [.r 9] (some (.r 2, false)) <|
 .q 11 (.fld 7) [.s 5] (some (.r 2, false)) <|
 .q 12 (.lda 7) [.r 11] (some (.r 2, false)) <|
 .q 13 (.lda 8) [.s 9] (some (.r 2, false)) <|
 .q 14 .mv [.s 10] (some (.r 2, false)) <|
 .q 15 (.bld [z, z, z, z, z, z, z, z, zs, zs, zs, zs, z, z, z, z, z, z, z, z, (.bool false)] [(0, 1), (1, 2), (3, 2), (5, 7), (12, 8), (20, 1)]) [.c (.int .i64 1), .r 8, .r 10, .r 12, .r 13, .r 14] (some (.r 2, false)) <|
 .x 16 (.call 174) [.r 4, .r 6, .r 15] (some (.r 2, false)) [] <|
 .q 17 .not [.r 16] (some (.r 2, false)) <|
 .q 18 .pick [.r 2, .c (.bool true), .r 17] none <|
 .out [(0, .s 0), (5, .s 5), (8, .s 8), (9, .s 9), (68, .r 18)]
def e213r8 : EE := .q 0 (.lda 8) [.s 9] none <|
 .q 1 (.fld 14) [.s 8] none <|
 .x 2 (.st 8) [.r 1, .r 0] none [] <|
 .out [(0, .s 0), (5, .s 5), (8, .s 8)]
def e213r9 : EE := .q 1 (.fld 1) [.s 5] none <|
 .q 2 .ld [.r 1] none <|
 .q 3 (.lda 51) [.s 8] none <|
 .x 4 (.call 165) [.s 0, .r 2, .r 3] none [] <|
 .out []
def e213 : EFn := ⟨(.seq (.reg e213r0 [0, 1, 2, 3] 0) (.seq (.reg e213r1 [0, 3, 5, 6] 0) (.seq (.seq (.reg e213r2 [0, 3, 5, 6, 8] 0) (.cond (.s 18) (.seq (.seq (.reg e213r3 [0, 5, 6, 8] 0) (.cond (.s 21) (.reg e213r4 [0, 5, 8] 0) .skip)) .ret) .skip)) (.seq (.reg e213r5 [0, 5, 8] 15) (.seq (.reg e213r6 [0, 5, 8, 9] 0) (.seq (.seq (.reg e213r7 [0, 5, 8, 9, 10] 0) (.cond (.s 68) .ret .skip)) (.seq (.reg e213r8 [0, 5, 8, 9] 0) (.reg e213r9 [0, 5, 8] 0)))))))), [], 76, 0⟩
theorem g213 : Good Tryz.prog 213 e213 := ⟨Tryz.f213, Tryz.func213, by kernel_rfl, by kernel_rfl, by kernel_rfl, by kernel_rfl⟩
/-! concord/quorum.Fast -/
def e216r0 : EE := .out [(0, .s 0)]
def e216r1 : EE := .q 1 .sub [.s 0, .c (.int .i64 1)] none <|
 .out [(2, .r 1)]
def e216 : EFn := ⟨(.seq (.reg e216r0 [0] 0) (.seq (.reg e216r1 [0] 0) .ret)), [.slot 2], 5, 0⟩
theorem g216 : Good Tryz.prog 216 e216 := ⟨Tryz.f216, Tryz.func216, by kernel_rfl, by kernel_rfl, by kernel_rfl, by kernel_rfl⟩
/-! concord/deps.Join -/
def e217r0 : EE := .x 0 (.alc [z, z, z, z, z, z, z, z] 84) [] none [] <|
 .out [(0, .s 0), (2, .r 0)]
def e217r1 : EE := .q 1 .len [.s 0] none <|
 .q 2 .eql [.r 1, .c z] none <|
 .out [(0, .s 0), (2, .s 2), (10, .r 2)]
def e217r2 : EE := .q 0 (.bld [z, z, z, z, z, z, z, z] []) [] none <|
 .x 1 (.st 8) [.s 2, .r 0] none [] <|
 .out [(2, .s 2)]
def e217r3 : EE := .q 1 (.ixs 8) [.s 0, .c z] none <|
 .q 2 (.lda 8) [.r 1] none <|
 .x 3 (.alc [z, z, z, z, z, z, z, z] 84) [] none [] <|
 .x 4 (.st 8) [.r 3, .r 2] none [] <|
 .out [(0, .s 0), (2, .s 2), (3, .r 3)]
def e217r4 : EE := .q 1 (.slc 8 true false) [.s 0, .c (.int .i64 1)] none <|
 .q 2 .len [.r 1] none <|
 .out [(2, .s 2), (3, .s 3), (16, .r 1), (17, .r 2), (18, .c z)]
def e217r5 : EE := .q 0 .lss [.s 18, .s 17] none <|
 .out [(2, .s 2), (3, .s 3), (16, .s 16), (17, .s 17), (18, .s 18), (19, .r 0)]
def e217r6 : EE := .q 0 (.ixs 8) [.s 16, .s 18] none <|
 .q 1 (.lda 8) [.r 0] none <|
 .x 2 (.alc [z, z, z, z, z, z, z, z] 84) [] none [] <|
 .x 3 (.st 8) [.r 2, .r 1] none [] <|
 .out [(2, .s 2), (3, .s 3), (5, .r 2), (16, .s 16), (17, .s 17), (18, .s 18)]
def e217r7 : EE := .q 0 (.fld 0) [.s 3] none <|
 .q 1 .ld [.r 0] none <|
 .q 2 (.fld 0) [.s 5] none <|
 .q 3 .ld [.r 2] none <|
 .q 4 .mx [.r 1, .r 3] none <|
 .q 5 (.fld 0) [.s 3] none <|
 .x 6 (.st 1) [.r 5, .r 4] none [] <|
 .out [(2, .s 2), (3, .s 3), (5, .s 5), (16, .s 16), (17, .s 17), (18, .s 18)]
def e217r8 : EE := .q 0 (.fld 1) [.s 5] none <|
 .q 1 (.lda 7) [.r 0] none <|
 .out [(2, .s 2), (3, .s 3), (16, .s 16), (17, .s 17), (18, .s 18), (29, .r 1), (30, .c z)]
def e217r9 : EE := .q 0 .lss [.s 30, .c (.int .i64 7)] none <|
 .out [(2, .s 2), (3, .s 3), (16, .s 16), (17, .s 17), (18, .s 18), (29, .s 29), (30, .s 30), (31, .r 0)]
def e217r10 : EE := .q 1 (.idx 7 1) [.s 29, .s 30] none <|
 .out [(2, .s 2), (3, .s 3), (6, .s 30), (7, .r 1), (16, .s 16), (17, .s 17), (18, .s 18), (29, .s 29), (30, .s 30)]
def e217r11 : EE := .q 2 (.fld 1) [.s 3] none <|
 .q 3 (.ixa 7 1) [.r 2, .s 6] none <|
 .q 4 .ld [.r 3] none <|
 .q 6 .mx [.r 4, .s 7] none <|
 .q 7 (.fld 1) [.s 3] none <|
 .q 8 (.ixa 7 1) [.r 7, .s 6] none <|
 .x 9 (.st 1) [.r 8, .r 6] none [] <|
 .out [(2, .s 2), (3, .s 3), (16, .s 16), (17, .s 17), (18, .s 18), (29, .s 29), (30, .s 30)]
def e217r12 : EE := .q 0 .add [.s 30, .c (.int .i64 1)] none <|
 .out [(2, .s 2), (3, .s 3), (16, .s 16), (17, .s 17), (18, .s 18), (29, .s 29), (30, .r 0)]
def e217l13 : EC := (.seq (.reg e217r9 [2, 3, 16, 17, 18, 29, 30] 0) (.seq (.cond (.s 31) .skip (.exit 2)) (.seq (.block 3 (.seq (.reg e217r10 [2, 3, 16, 17, 18, 29, 30] 0) (.reg e217r11 [2, 3, 6, 7, 16, 17, 18, 29, 30] 0))) (.reg e217r12 [2, 3, 16, 17, 18, 29, 30] 0))))
def e217r14 : EE := .q 0 .add [.s 18, .c (.int .i64 1)] none <|
 .out [(2, .s 2), (3, .s 3), (16, .s 16), (17, .s 17), (18, .r 0)]
def e217l15 : EC := (.seq (.reg e217r5 [2, 3, 16, 17, 18] 0) (.seq (.cond (.s 19) .skip (.exit 0)) (.seq (.block 1 (.seq (.reg e217r6 [2, 3, 16, 17, 18] 0) (.seq (.reg e217r7 [2, 3, 5, 16, 17, 18] 0) (.seq (.reg e217r8 [2, 3, 5, 16, 17, 18] 0) (.block 2 (.loop [2, 3, 16, 17, 18, 29, 30] e217l13)))))) (.reg e217r14 [2, 3, 16, 17, 18] 0))))
def e217r16 : EE := .q 0 (.lda 8) [.s 3] none <|
 .x 1 (.st 8) [.s 2, .r 0] none [] <|
 .out [(2, .s 2)]
def e217 : EFn := ⟨(.seq (.reg e217r0 [0] 0) (.seq (.seq (.reg e217r1 [0, 2] 0) (.cond (.s 10) (.seq (.reg e217r2 [2] 0) .ret) .skip)) (.seq (.reg e217r3 [0, 2] 0) (.seq (.seq (.reg e217r4 [0, 2, 3] 0) (.block 0 (.loop [2, 3, 16, 17, 18] e217l15))) (.seq (.reg e217r16 [2, 3] 0) .ret))))), [.cells 2 8], 46, 0⟩
theorem g217 : Good Tryz.prog 217 e217 := ⟨Tryz.f217, Tryz.func217, by kernel_rfl, by kernel_rfl, by kernel_rfl, by kernel_rfl⟩
/-! slices.pdqsortCmpFunc[concord/api.Inst] -/
def e218r0 : EE := .out [(0, .s 0), (1, .s 1), (2, .s 2), (3, .s 3), (4, .s 4), (10, .c (.bool true))]
def e218r1 : EE := .out [(0, .s 0), (1, .s 1), (2, .s 2), (3, .s 3), (4, .s 4), (10, .s 10), (11, .c (.bool true))]
def e218r2 : EE := .q 2 .sub [.s 2, .s 1] none <|
 .out [(0, .s 0), (1, .s 1), (2, .s 2), (3, .s 3), (4, .s 4), (10, .s 10), (11, .s 11), (12, .r 2)]
def e218r3 : EE := .q 1 .leq [.s 12, .c (.int .i64 12)] none <|
 .out [(0, .s 0), (1, .s 1), (2, .s 2), (3, .s 3), (4, .s 4), (10, .s 10), (11, .s 11), (12, .s 12), (25, .r 1)]
def e218r4 : EE := .x 4 (.call 256) [.s 0, .s 1, .s 2, .s 4] none [] <|
 .out []
def e218r5 : EE := .q 1 .eql [.s 3, .c z] none <|
 .out [(0, .s 0), (1, .s 1), (2, .s 2), (3, .s 3), (4, .s 4), (10, .s 10), (11, .s 11), (12, .s 12), (32, .r 1)]
def e218r6 : EE := .x 4 (.call 257) [.s 0, .s 1, .s 2, .s 4] none [] <|
 .out []
def e218r7 : EE := .q 1 .not [.s 10] none <|
 .out [(0, .s 0), (1, .s 1), (2, .s 2), (3, .s 3), (4, .s 4), (10, .s 10), (11, .s 11), (12, .s 12), (39, .r 1)]
def e218r8 : EE := .x 4 (.call 258) [.s 0, .s 1, .s 2, .s 4] none [] <|
 .out [(0, .s 0), (1, .s 1), (2, .s 2), (3, .s 3), (4, .s 4), (10, .s 10), (11, .s 11), (12, .s 12)]
def e218r9 : EE := .q 1 .sub [.s 3, .c (.int .i64 1)] none <|
 .out [(0, .s 0), (1, .s 1), (2, .s 2), (3, .r 1), (4, .s 4), (10, .s 10), (11, .s 11), (12, .s 12)]
def e218r10 : EE := .x 4 (.call 259) [.s 0, .s 1, .s 2, .s 4] none [] <|
 .q 6 (.ext 0) [.r 4] none <|
 .q 7 (.ext 1) [.r 4] none <|
 .out [(0, .s 0), (1, .s 1), (2, .s 2), (3, .s 3), (4, .s 4), (10, .s 10), (11, .s 11), (12, .s 12), (13, .r 6), (14, .r 7)]
def e218r11 : EE := .q 1 .eql [.s 14, .c (.int .i64 2)] none <|
 .out [(0, .s 0), (1, .s 1), (2, .s 2), (3, .s 3), (4, .s 4), (10, .s 10), (11, .s 11), (12, .s 12), (13, .s 13), (14, .s 14), (56, .r 1)]
def e218r12 : EE := .x 4 (.call 260) [.s 0, .s 1, .s 2, .s 4] none [] <|
 .out [(0, .s 0), (1, .s 1), (2, .s 2), (3, .s 3), (4, .s 4), (10, .s 10), (11, .s 11), (12, .s 12), (13, .s 13)]
def e218r13 : EE := .q 1 .sub [.s 2, .c (.int .i64 1)] none <|
 .q 4 .sub [.s 13, .s 1] none <|
 .q 5 .sub [.r 1, .r 4] none <|
 .out [(0, .s 0), (1, .s 1), (2, .s 2), (3, .s 3), (4, .s 4), (10, .s 10), (11, .s 11), (12, .s 12), (13, .r 5)]
def e218r14 : EE := .out [(0, .s 0), (1, .s 1), (2, .s 2), (3, .s 3), (4, .s 4), (10, .s 10), (11, .s 11), (12, .s 12), (13, .s 13), (14, .c (.int .i64 1))]
def e218r15 : EE := .q 2 .mv [.s 11] (some (.s 10, true)) <|
 .q 3 .pick [.s 10, .r 2, .c (.bool false)] none <|
 .q 5 .mv [.s 14] (some (.r 3, true)) <|
 .q 6 .eql [.r 5, .c (.int .i64 1)] (some (.r 3, true)) <|
 .q 7 .pick [.r 3, .r 6, .c (.bool false)] none <|
 .out [(0, .s 0), (1, .s 1), (2, .s 2), (3, .s 3), (4, .s 4), (10, .s 10), (11, .s 11), (12, .s 12), (13, .s 13), (75, .r 7)]
def e218r16 : EE := .x 4 (.call 261) [.s 0, .s 1, .s 2, .s 4] none [] <|
 .out [(0, .s 0), (1, .s 1), (2, .s 2), (3, .s 3), (4, .s 4), (10, .s 10), (11, .s 11), (12, .s 12), (13, .s 13), (80, .r 4)]
def e218r17 : EE := .q 1 .gtr [.s 1, .c z] none <|
 .q 3 .mv [.s 4] (some (.r 1, true)) <|
 .q 4 .mv [.s 0] (some (.r 1, true)) <|
 .q 5 .mv [.s 1] (some (.r 1, true)) <|
 .q 6 .sub [.r 5, .c (.int .i64 1)] (some (.r 1, true)) <|
 .q 7 (.ixs 2) [.r 4, .r 6] (some (.r 1, true)) <|
 .q 8 (.lda 2) [.r 7] (some (.r 1, true)) <|
 .q 9 .mv [.s 0] (some (.r 1, true)) <|
 .q 10 .mv [.s 13] (some (.r 1, true)) <|
 .q 11 (.ixs 2) [.r 9, .r 10] (some (.r 1, true)) <|
 .q 12 (.lda 2) [.r 11] (some (.r 1, true)) <|
 .x 13 .callv [.r 3, .r 8, .r 12] (some (.r 1, true)) [] <|
 .q 14 .lss [.r 13, .c z] (some (.r 1, true)) <|
 .q 15 .not [.r 14] (some (.r 1, true)) <|
 .q 16 .pick [.r 1, .r 15, .c (.bool false)] none <|
 .out [(0, .s 0), (1, .s 1), (2, .s 2), (3, .s 3), (4, .s 4), (10, .s 10), (11, .s 11), (12, .s 12), (13, .s 13), (97, .r 16)]
def e218r18 : EE := .x 5 (.call 262) [.s 0, .s 1, .s 2, .s 13, .s 4] none [] <|
 .out [(0, .s 0), (2, .s 2), (3, .s 3), (4, .s 4), (10, .s 10), (11, .s 11), (15, .r 5)]
def e218r19 : EE := .out [(0, .s 0), (1, .s 15), (2, .s 2), (3, .s 3), (4, .s 4), (10, .s 10), (11, .s 11)]
def e218r20 : EE := .x 5 (.call 263) [.s 0, .s 1, .s 2, .s 13, .s 4] none [] <|
 .q 7 (.ext 0) [.r 5] none <|
 .q 8 (.ext 1) [.r 5] none <|
 .out [(0, .s 0), (1, .s 1), (2, .s 2), (3, .s 3), (4, .s 4), (12, .s 12), (16, .r 7), (17, .r 8)]
def e218r21 : EE := .out [(0, .s 0), (1, .s 1), (2, .s 2), (3, .s 3), (4, .s 4), (11, .s 17), (12, .s 12), (16, .s 16)]
def e218r22 : EE := .q 2 .sub [.s 16, .s 1] none <|
 .q 5 .sub [.s 2, .s 16] none <|
 .out [(0, .s 0), (1, .s 1), (2, .s 2), (3, .s 3), (4, .s 4), (11, .s 11), (12, .s 12), (16, .s 16), (18, .r 2), (19, .r 5)]
def e218r23 : EE := .q 1 .quo [.s 12, .c (.int .i64 8)] none <|
 .out [(0, .s 0), (1, .s 1), (2, .s 2), (3, .s 3), (4, .s 4), (11, .s 11), (16, .s 16), (18, .s 18), (19, .s 19), (20, .r 1)]
def e218r24 : EE := .q 2 .lss [.s 18, .s 19] none <|
 .out [(0, .s 0), (1, .s 1), (2, .s 2), (3, .s 3), (4, .s 4), (11, .s 11), (16, .s 16), (18, .s 18), (19, .s 19), (20, .s 20), (125, .r 2)]
def e218r25 : EE := .q 2 .geq [.s 18, .s 20] none <|
 .out [(0, .s 0), (1, .s 1), (2, .s 2), (3, .s 3), (4, .s 4), (10, .r 2), (11, .s 11), (16, .s 16)]
def e218r26 : EE := .x 5 (.call 218) [.s 0, .s 1, .s 16, .s 3, .s 4] none [] <|
 .out [(0, .s 0), (2, .s 2), (3, .s 3), (4, .s 4), (10, .s 10), (11, .s 11), (16, .s 16)]
def e218r27 : EE := .q 1 .add [.s 16, .c (.int .i64 1)] none <|
 .out [(0, .s 0), (1, .r 1), (2, .s 2), (3, .s 3), (4, .s 4), (10, .s 10), (11, .s 11)]
def e218r28 : EE := .q 2 .geq [.s 19, .s 20] none <|
 .out [(0, .s 0), (1, .s 1), (2, .s 2), (3, .s 3), (4, .s 4), (10, .r 2), (11, .s 11), (16, .s 16)]
def e218r29 : EE := .q 2 .add [.s 16, .c (.int .i64 1)] none <|
 .x 6 (.call 218) [.s 0, .r 2, .s 2, .s 3, .s 4] none [] <|
 .out [(0, .s 0), (1, .s 1), (3, .s 3), (4, .s 4), (10, .s 10), (11, .s 11), (16, .s 16)]
def e218r30 : EE := .out [(0, .s 0), (1, .s 1), (2, .s 16), (3, .s 3), (4, .s 4), (10, .s 10), (11, .s 11)]
def e218l31 : EC := (.block 1 (.seq (.reg e218r2 [0, 1, 2, 3, 4, 10, 11] 0) (.seq (.seq (.reg e218r3 [0, 1, 2, 3, 4, 10, 11, 12] 0) (.cond (.s 25) (.seq (.reg e218r4 [0, 1, 2, 4] 0) .ret) .skip)) (.seq (.seq (.reg e218r5 [0, 1, 2, 3, 4, 10, 11, 12] 0) (.cond (.s 32) (.seq (.reg e218r6 [0, 1, 2, 4] 0) .ret) .skip)) (.seq (.seq (.reg e218r7 [0, 1, 2, 3, 4, 10, 11, 12] 0) (.cond (.s 39) (.seq (.reg e218r8 [0, 1, 2, 3, 4, 10, 11, 12] 0) (.reg e218r9 [0, 1, 2, 3, 4, 10, 11, 12] 0)) .skip)) (.seq (.reg e218r10 [0, 1, 2, 3, 4, 10, 11, 12] 0) (.seq (.seq (.reg e218r11 [0, 1, 2, 3, 4, 10, 11, 12, 13, 14] 0) (.cond (.s 56) (.seq (.reg e218r12 [0, 1, 2, 3, 4, 10, 11, 12, 13] 0) (.seq (.reg e218r13 [0, 1, 2, 3, 4, 10, 11, 12, 13] 0) (.reg e218r14 [0, 1, 2, 3, 4, 10, 11, 12, 13] 0))) .skip)) (.seq (.seq (.reg e218r15 [0, 1, 2, 3, 4, 10, 11, 12, 13, 14] 0) (.cond (.s 75) (.seq (.reg e218r16 [0, 1, 2, 3, 4, 10, 11, 12, 13] 0) (.cond (.s 80) .ret .skip)) .skip)) (.seq (.seq (.reg e218r17 [0, 1, 2, 3, 4, 10, 11, 12, 13] 0) (.cond (.s 97) (.seq (.reg e218r18 [0, 1, 2, 3, 4, 10, 11, 13] 0) (.seq (.reg e218r19 [0, 2, 3, 4, 10, 11, 15] 0) (.exit 1))) .skip)) (.seq (.reg e218r20 [0, 1, 2, 3, 4, 12, 13] 0) (.seq (.reg e218r21 [0, 1, 2, 3, 4, 12, 16, 17] 0) (.seq (.reg e218r22 [0, 1, 2, 3, 4, 11, 12, 16] 0) (.seq (.reg e218r23 [0, 1, 2, 3, 4, 11, 12, 16, 18, 19] 0) (.seq (.reg e218r24 [0, 1, 2, 3, 4, 11, 16, 18, 19, 20] 0) (.cond (.s 125) (.seq (.reg e218r25 [0, 1, 2, 3, 4, 11, 16, 18, 20] 0) (.seq (.reg e218r26 [0, 1, 2, 3, 4, 10, 11, 16] 0) (.reg e218r27 [0, 2, 3, 4, 10, 11, 16] 0))) (.seq (.reg e218r28 [0, 1, 2, 3, 4, 11, 16, 19, 20] 0) (.seq (.reg e218r29 [0, 1, 2, 3, 4, 10, 11, 16] 0) (.reg e218r30 [0, 1, 3, 4, 10, 11, 16] 0))))))))))))))))))
def e218 : EFn := ⟨(.seq (.reg e218r0 [0, 1, 2, 3, 4] 0) (.seq (.reg e218r1 [0, 1, 2, 3, 4, 10] 0) (.block 0 (.loop [0, 1, 2, 3, 4, 10, 11] e218l31)))), [], 148, 0⟩
theorem g218 : Good Tryz.prog 218 e218 := ⟨Tryz.f218, Tryz.func218, by kernel_rfl, by kernel_rfl, by kernel_rfl, by kernel_rfl⟩
/-! math/bits.Len -/
def e219r0 : EE := .out [(0, .s 0)]
def e219r1 : EE := .q 1 (.conv .u32) [.s 0] none <|
 .x 2 (.call 264) [.r 1] none [] <|
 .out [(2, .r 2)]
def e219r2 : EE := .x 1 (.call 265) [.s 0] none [] <|
 .out [(2, .r 1)]
def e219 : EFn := ⟨(.seq (.reg e219r0 [0] 0) (.seq (.cond (.c (.bool false)) (.seq (.reg e219r1 [0] 0) .ret) .skip) (.seq (.reg e219r2 [0] 0) .ret))), [.slot 2], 8, 0⟩
theorem g219 : Good Tryz.prog 219 e219 := ⟨Tryz.f219, Tryz.func219, by kernel_rfl, by kernel_rfl, by kernel_rfl, by kernel_rfl⟩
/-! (*concord/core.Core).take -/
def e222r0 : EE := .q 2 .nl [.s 1] none <|
 .q 3 (.fld 0) [.r 2] none <|
 .q 4 (.lda 2) [.r 3] none <|
 .x 5 (.call 212) [.s 0, .r 4] none [] <|
 .out [(0, .s 0), (1, .s 1)]
def e222r1 : EE := .out [(0, .s 0), (1, .s 1), (4, .c z)]
def e222r2 : EE := .q 2 .nl [.s 0] none <|
 .q 3 (.fld 4) [.r 2] none <|
 .q 4 .ld [.r 3] none <|
 .q 5 .len [.r 4] none <|
 .q 6 .lss [.s 4, .r 5] none <|
 .q 8 .mv [.s 0] (some (.r 6, true)) <|
 .q 9 .nl [.r 8] (some (.r 6, true)) <|
 .q 10 (.fld 4) [.r 9] (some (.r 6, true)) <|
 .q 11 .ld [.r 10] (some (.r 6, true)) <|
 .q 12 .mv [.s 4] (some (.r 6, true)) <|
 .q 13 (.ixs 1) [.r 11, .r 12] (some (.r 6, true)) <|
 .q 14 .ld [.r 13] (some (.r 6, true)) <|
 .q 15 .nl [.r 14] (some (.r 6, true)) <|
 .q 16 (.fld 0) [.r 15] (some (.r 6, true)) <|
 .q 17 (.lda 2) [.r 16] (some (.r 6, true)) <|
 .q 18 .mv [.s 1] (some (.r 6, true)) <|
 .q 19 .nl [.r 18] (some (.r 6, true)) <|
 .q 20 (.fld 0) [.r 19] (some (.r 6, true)) <|
 .q 21 (.lda 2) [.r 20] (some (.r 6, true)) <|
 .x 22 (.call 168) [.r 17, .r 21] (some (.r 6, true)) [] <|
 .q 23 .pick [.r 6, .r 22, .c (.bool false)] none <|
 .out [(0, .s 0), (1, .s 1), (4, .s 4), (34, .r 23)]
def e222r3 : EE := .q 1 .add [.s 4, .c (.int .i64 1)] none <|
 .out [(0, .s 0), (1, .s 1), (4, .r 1)]
def e222l4 : EC := (.seq (.seq (.reg e222r2 [0, 1, 4] 0) (.cond (.s 34) .skip (.exit 0))) (.block 1 (.reg e222r3 [0, 1, 4] 0)))
def e222r5 : EE := .q 2 .nl [.s 0] none <|
 .q 3 (.fld 4) [.r 2] none <|
 .q 4 .ld [.r 3] none <|
 .x 7 (.bsl 177 1 [.nptr] [(0, 1)]) [.s 1] none [] <|
 .x 8 (.call 267) [.r 4, .s 4, .r 7] none [] <|
 .q 9 .nl [.s 0] none <|
 .q 10 (.fld 4) [.r 9] none <|
 .x 11 (.st 1) [.r 10, .r 8] none [] <|
 .out []
def e222 : EFn := ⟨(.seq (.reg e222r0 [0, 1] 0) (.seq (.reg e222r1 [0, 1] 0) (.seq (.block 0 (.loop [0, 1, 4] e222l4)) (.reg e222r5 [0, 1, 4] 0)))), [], 48, 0⟩
theorem g222 : Good Tryz.prog 222 e222 := ⟨Tryz.f222, Tryz.func222, by kernel_rfl, by kernel_rfl, by kernel_rfl, by kernel_rfl⟩
/-! internal/strconv.FormatInt -/
def e228r0 : EE := .out [(0, .s 0), (1, .s 1)]
def e228r1 : EE := .q 1 .eql [.s 1, .c (.int .i64 10)] none <|
 .out [(0, .s 0), (1, .s 1), (11, .r 1)]
def e228r2 : EE := .q 1 .leq [.c z, .s 0] none <|
 .q 3 .mv [.s 0] (some (.r 1, true)) <|
 .q 4 .lss [.r 3, .c (.int .i64 100)] (some (.r 1, true)) <|
 .q 5 .pick [.r 1, .r 4, .c (.bool false)] none <|
 .out [(0, .s 0), (17, .r 5)]
def e228r3 : EE := .x 1 (.call 275) [.s 0] none [] <|
 .out [(4, .r 1)]
def e228r4 : EE := .x 0 (.alc [(.int .u8 0), (.int .u8 0), (.int .u8 0), (.int .u8 0), (.int .u8 0), (.int .u8 0), (.int .u8 0), (.int .u8 0), (.int .u8 0), (.int .u8 0), (.int .u8 0), (.int .u8 0), (.int .u8 0), (.int .u8 0), (.int .u8 0), (.int .u8 0), (.int .u8 0), (.int .u8 0), (.int .u8 0), (.int .u8 0), (.int .u8 0), (.int .u8 0), (.int .u8 0), (.int .u8 0)] 375) [] none [] <|
 .out [(0, .s 0), (5, .r 0)]
def e228r5 : EE := .q 1 (.conv .u64) [.s 0] none <|
 .out [(0, .s 0), (5, .s 5), (6, .r 1)]
def e228r6 : EE := .q 1 .lss [.s 0, .c z] none <|
 .out [(0, .s 0), (5, .s 5), (6, .s 6), (23, .r 1)]
def e228r7 : EE := .q 1 .neg [.s 6] none <|
 .out [(0, .s 0), (5, .s 5), (6, .r 1)]
def e228r8 : EE := .x 1 (.call 276) [.s 6] none [] <|
 .out [(0, .s 0), (5, .s 5), (6, .s 6), (7, .r 1)]
def e228r9 : EE := .q 1 .add [.c (.int .i64 1), .s 7] none <|
 .q 2 (.sla 24 1 true true) [.s 5, .c (.int .i64 1), .r 1] none <|
 .x 4 (.call 277) [.r 2, .s 6] none [] <|
 .out [(0, .s 0), (5, .s 5), (7, .s 7)]
def e228r10 : EE := .q 1 .lss [.s 0, .c z] none <|
 .out [(5, .s 5), (7, .s 7), (34, .r 1)]
def e228r11 : EE := .q 0 (.ixa 24 1) [.s 5, .c z] none <|
 .x 1 (.st 1) [.r 0, .c (.int .u8 45)] none [] <|
 .out [(5, .s 5), (7, .s 7)]
def e228r12 : EE := .q 1 .add [.c (.int .i64 1), .s 7] none <|
 .q 2 (.sla 24 1 false true) [.s 5, .r 1] none <|
 .q 3 .b2s [.r 2] none <|
 .out [(4, .r 3)]
def e228r13 : EE := .q 1 .add [.c (.int .i64 1), .s 7] none <|
 .q 2 (.sla 24 1 true true) [.s 5, .c (.int .i64 1), .r 1] none <|
 .q 3 .b2s [.r 2] none <|
 .out [(4, .r 3)]
def e228r14 : EE := .q 1 (.conv .u64) [.s 0] none <|
 .q 4 .lss [.s 0, .c z] none <|
 .x 5 (.call 278) [.c .nsl, .r 1, .s 1, .r 4, .c (.bool false)] none [] <|
 .q 7 (.ext 0) [.r 5] none <|
 .q 8 (.ext 1) [.r 5] none <|
 .out [(9, .r 8)]
def e228r15 : EE := .out [(4, .s 9)]
def e228 : EFn := ⟨(.seq (.reg e228r0 [0, 1] 0) (.seq (.seq (.reg e228r1 [0, 1] 0) (.cond (.s 11) (.seq (.seq (.reg e228r2 [0] 0) (.cond (.s 17) (.seq (.reg e228r3 [0] 0) .ret) .skip)) (.seq (.reg e228r4 [0] 0) (.seq (.reg e228r5 [0, 5] 0) (.seq (.seq (.reg e228r6 [0, 5, 6] 0) (.cond (.s 23) (.reg e228r7 [0, 5, 6] 0) .skip)) (.seq (.reg e228r8 [0, 5, 6] 0) (.seq (.reg e228r9 [0, 5, 6, 7] 0) (.seq (.seq (.reg e228r10 [0, 5, 7] 0) (.cond (.s 34) (.seq (.reg e228r11 [5, 7] 0) (.seq (.reg e228r12 [5, 7] 0) .ret)) .skip)) (.seq (.reg e228r13 [5, 7] 0) .ret)))))))) .skip)) (.seq (.reg e228r14 [0, 1] 0) (.seq (.reg e228r15 [9] 0) .ret)))), [.slot 4], 54, 0⟩
theorem g228 : Good Tryz.prog 228 e228 := ⟨Tryz.f228, Tryz.func228, by kernel_rfl, by kernel_rfl, by kernel_rfl, by kernel_rfl⟩
/-! (*concord/disk.Disk).Total -/
def e229r0 : EE := .out [(0, .s 0)]
def e229r1 : EE := .out [(0, .s 0), (3, .c z)]
def e229r2 : EE := .q 1 .nl [.s 0] none <|
 .q 2 (.fld 1) [.r 1] none <|
 .q 3 .ld [.r 2] none <|
 .q 4 .len [.r 3] none <|
 .out [(3, .s 3), (9, .r 3), (10, .r 4), (11, .c z)]
def e229r3 : EE := .q 0 .lss [.s 11, .s 10] none <|
 .out [(3, .s 3), (9, .s 9), (10, .s 10), (11, .s 11), (12, .r 0)]
def e229r4 : EE := .q 0 (.ixs 3) [.s 9, .s 11] none <|
 .q 1 (.lda 3) [.r 0] none <|
 .x 2 (.alc [zs, .nsl, z] 130) [] none [] <|
 .x 3 (.st 3) [.r 2, .r 1] none [] <|
 .out [(3, .s 3), (5, .r 2), (9, .s 9), (10, .s 10), (11, .s 11)]
def e229r5 : EE := .q 1 (.fld 1) [.s 5] none <|
 .q 2 .ld [.r 1] none <|
 .q 3 .len [.r 2] none <|
 .q 4 .add [.s 3, .r 3] none <|
 .out [(3, .r 4), (9, .s 9), (10, .s 10), (11, .s 11)]
def e229r6 : EE := .q 0 .add [.s 11, .c (.int .i64 1)] none <|
 .out [(3, .s 3), (9, .s 9), (10, .s 10), (11, .r 0)]
def e229l7 : EC := (.seq (.reg e229r3 [3, 9, 10, 11] 0) (.seq (.cond (.s 12) .skip (.exit 0)) (.seq (.block 1 (.seq (.reg e229r4 [3, 9, 10, 11] 0) (.reg e229r5 [3, 5, 9, 10, 11] 0))) (.reg e229r6 [3, 9, 10, 11] 0))))
def e229r8 : EE := .out [(2, .s 3)]
def e229 : EFn := ⟨(.seq (.reg e229r0 [0] 0) (.seq (.reg e229r1 [0] 0) (.seq (.seq (.reg e229r2 [0, 3] 0) (.block 0 (.loop [3, 9, 10, 11] e229l7))) (.seq (.reg e229r8 [3] 0) .ret)))), [.slot 2], 22, 0⟩
theorem g229 : Good Tryz.prog 229 e229 := ⟨Tryz.f229, Tryz.func229, by kernel_rfl, by kernel_rfl, by kernel_rfl, by kernel_rfl⟩
/-! slices.Grow[[]byte,byte] -/
def e232r0 : EE := .out [(0, .s 0), (1, .s 1)]
def e232r1 : EE := .q 1 .lss [.s 1, .c z] none <|
 .out [(0, .s 0), (1, .s 1), (6, .r 1)]
def e232r2 : EE := .q 0 (.mki 9) [.c (.str [99, 97, 110, 110, 111, 116, 32, 98, 101, 32, 110, 101, 103, 97, 116, 105, 118, 101])] none <|
 .x 1 .bad [] none [] <|
 .out [(0, .s 0), (1, .s 1)]
def e232r3 : EE := .q 2 .cap [.s 0] none <|
 .q 4 .len [.s 0] none <|
 .q 5 .sub [.r 2, .r 4] none <|
 .q 6 .sub [.s 1, .r 5] none <|
 .out [(0, .s 0), (1, .r 6)]
def e232r4 : EE := .q 1 .gtr [.s 1, .c z] none <|
 .out [(0, .s 0), (1, .s 1), (16, .r 1)]
def e232r5 : EE := .q 2 .cap [.s 0] none <|
 .q 3 (.slc 1 false true) [.s 0, .r 2] none <|
 .x 5 (.appn 5 1 1 [(.int .u8 0)]) [.r 3, .s 1] none [] <|
 .q 7 .len [.s 0] none <|
 .q 8 (.slc 1 false true) [.r 5, .r 7] none <|
 .out [(0, .r 8)]
def e232r6 : EE := .out [(4, .s 0)]
def e232 : EFn := ⟨(.seq (.reg e232r0 [0, 1] 0) (.seq (.seq (.reg e232r1 [0, 1] 0) (.cond (.s 6) (.reg e232r2 [0, 1] 0) .skip)) (.seq (.seq (.reg e232r3 [0, 1] 0) (.seq (.reg e232r4 [0, 1] 0) (.cond (.s 16) (.reg e232r5 [0, 1] 0) .skip))) (.seq (.reg e232r6 [0] 0) .ret)))), [.slot 4], 27, 0⟩
theorem g232 : Good Tryz.prog 232 e232 := ⟨Tryz.f232, Tryz.func232, by kernel_rfl, by kernel_rfl, by kernel_rfl, by kernel_rfl⟩
/-! concord/inst.New -/
def e233r0 : EE := .out [(0, .s 0)]
def e233r1 : EE := .x 0 .mkm [] none [] <|
 .q 1 (.bld [.nmap] [(0, 1)]) [.r 0] none <|
 .x 2 (.box 338) [.r 1] none [] <|
 .out [(0, .s 0), (3, .r 2)]
def e233r2 : EE := .q 1 .len [.s 0] none <|
 .out [(3, .s 3), (9, .s 0), (10, .r 1), (11, .c z)]
def e233r3 : EE := .q 0 .lss [.s 11, .s 10] none <|
 .out [(3, .s 3), (9, .s 9), (10, .s 10), (11, .s 11), (12, .r 0)]
def e233r4 : EE := .q 0 (.ixs 2) [.s 9, .s 11] none <|
 .q 1 (.lda 2) [.r 0] none <|
 .x 2 (.alc [z, z] 80) [] none [] <|
 .x 3 (.st 2) [.r 2, .r 1] none [] <|
 .out [(3, .s 3), (5, .r 2), (9, .s 9), (10, .s 10), (11, .s 11)]
def e233r5 : EE := .q 1 .nl [.s 3] none <|
 .q 2 (.fld 0) [.r 1] none <|
 .q 3 .ld [.r 2] none <|
 .q 4 (.lda 2) [.s 5] none <|
 .q 5 (.bld [] []) [] none <|
 .x 6 (.mup true [(.i .i64), (.i .i64)]) [.r 3, .r 4, .r 5] none [] <|
 .out [(3, .s 3), (9, .s 9), (10, .s 10), (11, .s 11)]
def e233r6 : EE := .q 0 .add [.s 11, .c (.int .i64 1)] none <|
 .out [(3, .s 3), (9, .s 9), (10, .s 10), (11, .r 0)]
def e233l7 : EC := (.seq (.reg e233r3 [3, 9, 10, 11] 0) (.seq (.cond (.s 12) .skip (.exit 0)) (.seq (.block 1 (.seq (.reg e233r4 [3, 9, 10, 11] 0) (.reg e233r5 [3, 5, 9, 10, 11] 0))) (.reg e233r6 [3, 9, 10, 11] 0))))
def e233r8 : EE := .out [(2, .s 3)]
def e233 : EFn := ⟨(.seq (.reg e233r0 [0] 0) (.seq (.reg e233r1 [0] 0) (.seq (.seq (.reg e233r2 [0, 3] 0) (.block 0 (.loop [3, 9, 10, 11] e233l7))) (.seq (.reg e233r8 [3] 0) .ret)))), [.slot 2], 23, 0⟩
theorem g233 : Good Tryz.prog 233 e233 := ⟨Tryz.f233, Tryz.func233, by kernel_rfl, by kernel_rfl, by kernel_rfl, by kernel_rfl⟩
/-! (*concord/exec.plan).beyond -/
def e234r0 : EE := .x 0 (.box 80) [.s 1] none [] <|
 .out [(0, .s 0), (3, .r 0)]
def e234r1 : EE := .q 1 .nl [.s 0] none <|
 .q 2 (.fld 7) [.r 1] none <|
 .q 3 .ld [.r 2] none <|
 .x 4 .rng [.r 3] none [] <|
 .out [(3, .s 3), (10, .r 4)]
def e234r2 : EE := .x 0 .nxt [.s 10] none [] <|
 .q 1 (.ext 0) [.r 0] none <|
 .out [(3, .s 3), (10, .s 10), (12, .r 1)]
def e234r3 : EE := .q 0 .ent [.s 10] none <|
 .q 1 (.ext 0) [.r 0] none <|
 .x 2 (.alc [z, z] 80) [] none [] <|
 .x 3 (.st 2) [.r 2, .r 1] none [] <|
 .out [(3, .s 3), (5, .r 2), (10, .s 10)]
def e234r4 : EE := .q 0 (.fld 0) [.s 5] none <|
 .q 1 .ld [.r 0] none <|
 .q 2 (.fld 0) [.s 3] none <|
 .q 3 .ld [.r 2] none <|
 .q 4 .eql [.r 1, .r 3] none <|
 .q 6 (.fld 1) [.s 5] (some (.r 4, true)) <|
 .q 7 .ld [.r 6] (some (.r 4, true)) <|
 .q 8 (.fld 1) [.s 3] (some (.r 4, true)) <|
 .q 9 .ld [.r 8] (some (.r 4, true)) <|
 .q 10 .gtr [.r 7, .r 9] (some (.r 4, true)) <|
 .q 11 .pick [.r 4, .r 10, .c (.bool false)] none <|
 .out [(3, .s 3), (10, .s 10), (26, .r 11)]
def e234r5 : EE := .out [(4, .c (.bool true))]
def e234l6 : EC := (.seq (.reg e234r2 [3, 10] 0) (.seq (.cond (.s 12) .skip (.exit 0)) (.block 1 (.seq (.reg e234r3 [3, 10] 0) (.seq (.reg e234r4 [3, 5, 10] 0) (.cond (.s 26) (.seq (.reg e234r5 [] 0) .ret) .skip))))))
def e234r7 : EE := .out [(4, .c (.bool false))]
def e234 : EFn := ⟨(.seq (.reg e234r0 [0, 1] 0) (.seq (.seq (.reg e234r1 [0, 3] 0) (.block 0 (.loop [3, 10] e234l6))) (.seq (.reg e234r7 [] 0) .ret))), [.slot 4], 27, 0⟩
theorem g234 : Good Tryz.prog 234 e234 := ⟨Tryz.f234, Tryz.func234, by kernel_rfl, by kernel_rfl, by kernel_rfl, by kernel_rfl⟩
/-! (*concord/exec.plan).hangs -/
def e236r0 : EE := .x 0 (.box 80) [.s 1] none [] <|
 .x 2 (.alc [z, z] 80) [] none [] <|
 .out [(0, .s 0), (3, .r 0), (5, .r 2)]
def e236r1 : EE := .q 0 (.lda 2) [.s 3] none <|
 .x 1 (.bsl 80 1 [z, z] [(0, 2)]) [.r 0] none [] <|
 .x 2 (.call 233) [.r 1] none [] <|
 .out [(0, .s 0), (3, .s 3), (5, .s 5), (6, .r 2)]
def e236r2 : EE := .q 0 (.lda 2) [.s 3] none <|
 .x 1 (.bsl 80 1 [z, z] [(0, 2)]) [.r 0] none [] <|
 .out [(0, .s 0), (5, .s 5), (6, .s 6), (7, .r 1)]
def e236r3 : EE := .out [(0, .s 0), (5, .s 5), (6, .s 6), (7, .s 7), (8, .c z)]
def e236r4 : EE := .q 2 .len [.s 7] none <|
 .q 3 .lss [.s 8, .r 2] none <|
 .out [(0, .s 0), (5, .s 5), (6, .s 6), (7, .s 7), (8, .s 8), (25, .r 3)]
def e236r5 : EE := .q 1 .eql [.s 8, .c (.int .i64 512)] none <|
 .out [(0, .s 0), (5, .s 5), (6, .s 6), (7, .s 7), (8, .s 8), (29, .r 1)]
def e236r6 : EE := .q 0 (.bld [z, z] []) [] none <|
 .x 2 (.st 2) [.s 5, .r 0] none [] <|
 .out [(4, .c .nsl), (5, .s 5)]
def e236r7 : EE := .q 2 (.ixs 2) [.s 7, .s 8] none <|
 .q 3 (.lda 2) [.r 2] none <|
 .x 4 (.alc [z, z] 80) [] none [] <|
 .x 5 (.st 2) [.r 4, .r 3] none [] <|
 .out [(0, .s 0), (5, .s 5), (6, .s 6), (7, .s 7), (8, .s 8), (9, .r 4)]
def e236r8 : EE := .q 1 .nl [.s 0] none <|
 .q 2 (.fld 7) [.r 1] none <|
 .q 3 .ld [.r 2] none <|
 .q 4 (.lda 2) [.s 9] none <|
 .q 5 (.lkp true [(.i .i64), (.i .i64)] (.agg [z, z, z, z, z, z, z, z, zs, zs, zs, zs, z, z, z, z, z, z, z, z, (.bool false)]) false) [.r 3, .r 4] none <|
 .x 6 (.alc [z, z, z, z, z, z, z, z, zs, zs, zs, zs, z, z, z, z, z, z, z, z, (.bool false)] 86) [] none [⟨3, .ld, [.r 2], none⟩, ⟨4, (.lda 2), [.s 9], none⟩, ⟨5, (.lkp true [(.i .i64), (.i .i64)] (.agg [z, z, z, z, z, z, z, z, zs, zs, zs, zs, z, z, z, z, z, z, z, z, (.bool false)]) false), [.r 3, .r 4], none⟩] <|
 .x 7 (.st 21) [.r 6, .r 5] none [] <|
 .out [(0, .s 0), (5, .s 5), (6, .s 6), (7, .s 7), (8, .s 8), (9, .s 9), (10, .r 6)]
def e236r9 : EE := .out [(0, .s 0), (5, .s 5), (6, .s 6), (7, .s 7), (8, .s 8), (9, .s 9), (10, .s 10), (41, .c z)]
def e236r10 : EE := .q 0 .lss [.s 41, .c (.int .i64 7)] none <|
 .out [(0, .s 0), (5, .s 5), (6, .s 6), (7, .s 7), (8, .s 8), (9, .s 9), (10, .s 10), (41, .s 41), (42, .r 0)]
def e236r11 : EE := .out [(0, .s 0), (5, .s 5), (6, .s 6), (7, .s 7), (8, .s 8), (9, .s 9), (10, .s 10), (11, .s 41), (41, .s 41)]
def e236r12 : EE := .q 0 (.lda 2) [.s 9] none <|
 .q 1 (.lda 21) [.s 10] none <|
 .x 3 (.call 280) [.r 0, .r 1, .s 11] none [] <|
 .out [(0, .s 0), (5, .s 5), (6, .s 6), (7, .s 7), (8, .s 8), (9, .s 9), (10, .s 10), (11, .s 11), (12, .r 3), (41, .s 41)]
def e236r13 : EE := .q 2 .nl [.s 0] none <|
 .q 3 (.fld 0) [.r 2] none <|
 .q 4 (.ixa 7 1) [.r 3, .s 11] none <|
 .q 5 .ld [.r 4] none <|
 .q 6 .add [.r 5, .c (.int .i64 1)] none <|
 .out [(0, .s 0), (5, .s 5), (6, .s 6), (7, .s 7), (8, .s 8), (9, .s 9), (10, .s 10), (11, .s 11), (12, .s 12), (13, .r 6), (41, .s 41)]
def e236r14 : EE := .q 2 .leq [.s 13, .s 12] none <|
 .out [(0, .s 0), (5, .s 5), (6, .s 6), (7, .s 7), (8, .s 8), (9, .s 9), (10, .s 10), (11, .s 11), (12, .s 12), (13, .s 13), (41, .s 41), (57, .r 2)]
def e236r15 : EE := .q 2 (.bld [z, z] [(0, 1), (1, 1)]) [.s 11, .s 13] none <|
 .x 3 (.alc [z, z] 80) [] none [] <|
 .x 4 (.st 2) [.r 3, .r 2] none [] <|
 .out [(0, .s 0), (5, .s 5), (6, .s 6), (7, .s 7), (8, .s 8), (9, .s 9), (10, .s 10), (11, .s 11), (12, .s 12), (13, .s 13), (14, .r 3), (41, .s 41)]
def e236r16 : EE := .q 1 .nl [.s 0] none <|
 .q 2 (.fld 7) [.r 1] none <|
 .q 3 .ld [.r 2] none <|
 .q 4 (.lda 2) [.s 14] none <|
 .q 5 (.lkp true [(.i .i64), (.i .i64)] (.agg [z, z, z, z, z, z, z, z, zs, zs, zs, zs, z, z, z, z, z, z, z, z, (.bool false)]) true) [.r 3, .r 4] none <|
 .q 7 (.ext 0) [.r 5] none <|
 .q 8 (.ext 1) [.r 5] none <|
 .x 9 (.alc [z, z, z, z, z, z, z, z, zs, zs, zs, zs, z, z, z, z, z, z, z, z, (.bool false)] 86) [] none [⟨3, .ld, [.r 2], none⟩, ⟨4, (.lda 2), [.s 14], none⟩, ⟨5, (.lkp true [(.i .i64), (.i .i64)] (.agg [z, z, z, z, z, z, z, z, zs, zs, zs, zs, z, z, z, z, z, z, z, z, (.bool false)]) true), [.r 3, .r 4], none⟩] <|
 .x 10 (.st 21) [.r 9, .r 7] none [] <|
 .out [(0, .s 0), (5, .s 5), (6, .s 6), (7, .s 7), (8, .s 8), (9, .s 9), (10, .s 10), (11, .s 11), (12, .s 12), (13, .s 13), (14, .s 14), (16, .r 8), (41, .s 41)]
def e236r17 : EE := .q 1 .not [.s 16] none <|
 .out [(0, .s 0), (5, .s 5), (6, .s 6), (7, .s 7), (8, .s 8), (9, .s 9), (10, .s 10), (11, .s 11), (12, .s 12), (13, .s 13), (14, .s 14), (41, .s 41), (73, .r 1)]
def e236r18 : EE := .q 0 (.lda 2) [.s 14] none <|
 .x 2 (.st 2) [.s 5, .r 0] none [] <|
 .out [(4, .c .nsl), (5, .s 5)]
def e236r19 : EE := .q 1 (.lda 2) [.s 14] none <|
 .x 2 (.call 235) [.s 6, .r 1] none [] <|
 .out [(0, .s 0), (5, .s 5), (6, .s 6), (7, .s 7), (8, .s 8), (9, .s 9), (10, .s 10), (11, .s 11), (12, .s 12), (13, .s 13), (14, .s 14), (41, .s 41), (77, .r 2)]
def e236r20 : EE := .q 1 (.lda 2) [.s 14] none <|
 .x 2 (.bsl 80 1 [z, z] [(0, 2)]) [.r 1] none [] <|
 .x 3 (.app 80 2 16 [z, z]) [.s 7, .r 2] none [] <|
 .out [(0, .s 0), (5, .s 5), (6, .s 6), (7, .r 3), (8, .s 8), (9, .s 9), (10, .s 10), (11, .s 11), (12, .s 12), (13, .s 13), (41, .s 41)]
def e236r21 : EE := .q 1 .add [.s 13, .c (.int .i64 1)] none <|
 .out [(0, .s 0), (5, .s 5), (6, .s 6), (7, .s 7), (8, .s 8), (9, .s 9), (10, .s 10), (11, .s 11), (12, .s 12), (13, .r 1), (41, .s 41)]
def e236l22 : EC := (.seq (.seq (.reg e236r14 [0, 5, 6, 7, 8, 9, 10, 11, 12, 13, 41] 0) (.cond (.s 57) .skip (.exit 4))) (.seq (.block 5 (.seq (.reg e236r15 [0, 5, 6, 7, 8, 9, 10, 11, 12, 13, 41] 0) (.seq (.seq (.reg e236r16 [0, 5, 6, 7, 8, 9, 10, 11, 12, 13, 14, 41] 0) (.seq (.reg e236r17 [0, 5, 6, 7, 8, 9, 10, 11, 12, 13, 14, 16, 41] 0) (.cond (.s 73) (.seq (.reg e236r18 [5, 14] 0) .ret) .skip))) (.seq (.reg e236r19 [0, 5, 6, 7, 8, 9, 10, 11, 12, 13, 14, 41] 0) (.cond (.s 77) (.reg e236r20 [0, 5, 6, 7, 8, 9, 10, 11, 12, 13, 14, 41] 0) .skip))))) (.reg e236r21 [0, 5, 6, 7, 8, 9, 10, 11, 12, 13, 41] 0)))
def e236r23 : EE := .q 0 .add [.s 41, .c (.int .i64 1)] none <|
 .out [(0, .s 0), (5, .s 5), (6, .s 6), (7, .s 7), (8, .s 8), (9, .s 9), (10, .s 10), (41, .r 0)]
def e236l24 : EC := (.seq (.reg e236r10 [0, 5, 6, 7, 8, 9, 10, 41] 0) (.seq (.cond (.s 42) .skip (.exit 2)) (.seq (.block 3 (.seq (.reg e236r11 [0, 5, 6, 7, 8, 9, 10, 41] 0) (.seq (.reg e236r12 [0, 5, 6, 7, 8, 9, 10, 11, 41] 0) (.seq (.reg e236r13 [0, 5, 6, 7, 8, 9, 10, 11, 12, 41] 0) (.block 4 (.loop [0, 5, 6, 7, 8, 9, 10, 11, 12, 13, 41] e236l22)))))) (.reg e236r23 [0, 5, 6, 7, 8, 9, 10, 41] 0))))
def e236r25 : EE := .q 1 .add [.s 8, .c (.int .i64 1)] none <|
 .out [(0, .s 0), (5, .s 5), (6, .s 6), (7, .s 7), (8, .r 1)]
def e236l26 : EC := (.seq (.seq (.reg e236r4 [0, 5, 6, 7, 8] 0) (.cond (.s 25) .skip (.exit 0))) (.seq (.block 1 (.seq (.seq (.reg e236r5 [0, 5, 6, 7, 8] 0) (.cond (.s 29) (.seq (.reg e236r6 [5] 0) .ret) .skip)) (.seq (.reg e236r7 [0, 5, 6, 7, 8] 0) (.seq (.reg e236r8 [0, 5, 6, 7, 8, 9] 0) (.seq (.reg e236r9 [0, 5, 6, 7, 8, 9, 10] 0) (.block 2 (.loop [0, 5, 6, 7, 8, 9, 10, 41] e236l24))))))) (.reg e236r25 [0, 5, 6, 7, 8] 0)))
def e236r27 : EE := .q 1 (.bld [z, z] []) [] none <|
 .x 3 (.st 2) [.s 5, .r 1] none [] <|
 .out [(4, .s 7), (5, .s 5)]
def e236 : EFn := ⟨(.seq (.reg e236r0 [0, 1] 0) (.seq (.reg e236r1 [0, 3, 5] 0) (.seq (.reg e236r2 [0, 3, 5, 6] 0) (.seq (.seq (.reg e236r3 [0, 5, 6, 7] 0) (.block 0 (.loop [0, 5, 6, 7, 8] e236l26))) (.seq (.reg e236r27 [5, 7] 0) .ret))))), [.slot 4, .cells 5 2], 85, 0⟩
theorem g236 : Good Tryz.prog 236 e236 := ⟨Tryz.f236, Tryz.func236, by kernel_rfl, by kernel_rfl, by kernel_rfl, by kernel_rfl⟩
/-! (*concord/exec.plan).do -/
def e237r0 : EE := .x 0 (.box 297) [.s 0] none [] <|
 .x 1 (.box 74) [.s 1] none [] <|
 .out [(2, .r 0), (3, .r 1)]
def e237r1 : EE := .q 0 .ld [.s 3] none <|
 .x 1 (.call 166) [.r 0, .f 281] none [] <|
 .out [(2, .s 2), (3, .s 3)]
def e237r2 : EE := .q 0 .ld [.s 2] none <|
 .q 1 .ld [.s 3] none <|
 .x 2 (.call 283) [.r 0, .r 1] none [] <|
 .x 3 (.call 282) [.r 2] none [] <|
 .q 5 (.ext 0) [.r 3] none <|
 .q 6 (.ext 1) [.r 3] none <|
 .out [(2, .s 2), (3, .s 3), (4, .r 5)]
def e237r3 : EE := .q 1 .len [.s 4] none <|
 .out [(2, .s 2), (3, .s 3), (20, .s 4), (21, .r 1), (22, .c z)]
def e237r4 : EE := .q 0 .lss [.s 22, .s 21] none <|
 .out [(2, .s 2), (3, .s 3), (20, .s 20), (21, .s 21), (22, .s 22), (23, .r 0)]
def e237r5 : EE := .q 0 (.ixs 1) [.s 20, .s 22] none <|
 .q 1 .ld [.r 0] none <|
 .out [(2, .s 2), (3, .s 3), (7, .r 1), (20, .s 20), (21, .s 21), (22, .s 22)]
def e237r6 : EE := .q 1 (.mkf 285 0) [.s 2, .s 3] none <|
 .x 2 (.call 284) [.s 7, .r 1] none [] <|
 .out [(2, .s 2), (3, .s 3), (7, .s 7), (20, .s 20), (21, .s 21), (22, .s 22)]
def e237r7 : EE := .q 1 .len [.s 7] none <|
 .out [(2, .s 2), (3, .s 3), (20, .s 20), (21, .s 21), (22, .s 22), (29, .s 7), (30, .r 1), (31, .c z)]
def e237r8 : EE := .q 0 .lss [.s 31, .s 30] none <|
 .out [(2, .s 2), (3, .s 3), (20, .s 20), (21, .s 21), (22, .s 22), (29, .s 29), (30, .s 30), (31, .s 31), (32, .r 0)]
def e237r9 : EE := .q 0 (.ixs 1) [.s 29, .s 31] none <|
 .q 1 .ld [.r 0] none <|
 .out [(2, .s 2), (3, .s 3), (9, .r 1), (20, .s 20), (21, .s 21), (22, .s 22), (29, .s 29), (30, .s 30), (31, .s 31)]
def e237r10 : EE := .q 0 .ld [.s 3] none <|
 .q 2 (.ixs 2) [.r 0, .s 9] none <|
 .q 3 (.lda 2) [.r 2] none <|
 .x 4 (.alc [z, z] 80) [] none [] <|
 .x 5 (.st 2) [.r 4, .r 3] none [] <|
 .out [(2, .s 2), (3, .s 3), (10, .r 4), (20, .s 20), (21, .s 21), (22, .s 22), (29, .s 29), (30, .s 30), (31, .s 31)]
def e237r11 : EE := .q 0 .ld [.s 2] none <|
 .q 1 .ld [.s 2] none <|
 .q 2 .nl [.r 1] none <|
 .q 3 (.fld 8) [.r 2] none <|
 .q 4 .ld [.r 3] none <|
 .q 5 (.lda 2) [.s 10] none <|
 .q 6 .ld [.s 2] none <|
 .q 7 .nl [.r 6] none <|
 .q 8 (.fld 7) [.r 7] none <|
 .q 9 .ld [.r 8] none <|
 .q 10 (.lda 2) [.s 10] none <|
 .q 11 (.lkp true [(.i .i64), (.i .i64)] (.agg [z, z, z, z, z, z, z, z, zs, zs, zs, zs, z, z, z, z, z, z, z, z, (.bool false)]) false) [.r 9, .r 10] none <|
 .q 12 (.bld [z, z, z, z, z, z, z, z, z, z, zs, zs, zs, zs, z, z, z, z, z, z, z, z, (.bool false)] [(0, 2), (2, 21)]) [.r 5, .r 11] none <|
 .x 13 (.bsl 240 1 [z, z, z, z, z, z, z, z, z, z, zs, zs, zs, zs, z, z, z, z, z, z, z, z, (.bool false)] [(0, 23)]) [.r 12] none [⟨0, .ld, [.s 2], none⟩, ⟨1, .ld, [.s 2], none⟩, ⟨4, .ld, [.r 3], none⟩] <|
 .x 14 (.app 240 23 216 [z, z, z, z, z, z, z, z, z, z, zs, zs, zs, zs, z, z, z, z, z, z, z, z, (.bool false)]) [.r 4, .r 13] none [⟨0, .ld, [.s 2], none⟩] <|
 .q 15 .nl [.r 0] none <|
 .q 16 (.fld 8) [.r 15] none <|
 .x 17 (.st 1) [.r 16, .r 14] none [] <|
 .out [(2, .s 2), (3, .s 3), (10, .s 10), (20, .s 20), (21, .s 21), (22, .s 22), (29, .s 29), (30, .s 30), (31, .s 31)]
def e237r12 : EE := .q 0 .ld [.s 2] none <|
 .q 1 (.fld 0) [.s 10] none <|
 .q 2 .ld [.r 1] none <|
 .q 3 .ld [.s 2] none <|
 .q 4 (.fld 0) [.s 10] none <|
 .q 5 .ld [.r 4] none <|
 .q 6 .nl [.r 3] none <|
 .q 7 (.fld 0) [.r 6] none <|
 .q 8 (.ixa 7 1) [.r 7, .r 5] none <|
 .q 9 .ld [.r 8] none <|
 .q 10 (.fld 1) [.s 10] none <|
 .q 11 .ld [.r 10] none <|
 .q 12 .mx [.r 9, .r 11] none <|
 .q 13 .nl [.r 0] none <|
 .q 14 (.fld 0) [.r 13] none <|
 .q 15 (.ixa 7 1) [.r 14, .r 2] none <|
 .x 16 (.st 1) [.r 15, .r 12] none [] <|
 .out [(2, .s 2), (3, .s 3), (20, .s 20), (21, .s 21), (22, .s 22), (29, .s 29), (30, .s 30), (31, .s 31)]
def e237r13 : EE := .q 0 .add [.s 31, .c (.int .i64 1)] none <|
 .out [(2, .s 2), (3, .s 3), (20, .s 20), (21, .s 21), (22, .s 22), (29, .s 29), (30, .s 30), (31, .r 0)]
def e237l14 : EC := (.seq (.reg e237r8 [2, 3, 20, 21, 22, 29, 30, 31] 0) (.seq (.cond (.s 32) .skip (.exit 2)) (.seq (.block 3 (.seq (.reg e237r9 [2, 3, 20, 21, 22, 29, 30, 31] 0) (.seq (.reg e237r10 [2, 3, 9, 20, 21, 22, 29, 30, 31] 0) (.seq (.reg e237r11 [2, 3, 10, 20, 21, 22, 29, 30, 31] 0) (.reg e237r12 [2, 3, 10, 20, 21, 22, 29, 30, 31] 0))))) (.reg e237r13 [2, 3, 20, 21, 22, 29, 30, 31] 0))))
def e237r15 : EE := .q 0 .add [.s 22, .c (.int .i64 1)] none <|
 .out [(2, .s 2), (3, .s 3), (20, .s 20), (21, .s 21), (22, .r 0)]
def e237l16 : EC := (.seq (.reg e237r4 [2, 3, 20, 21, 22] 0) (.seq (.cond (.s 23) .skip (.exit 0)) (.seq (.block 1 (.seq (.reg e237r5 [2, 3, 20, 21, 22] 0) (.seq (.reg e237r6 [2, 3, 7, 20, 21, 22] 0) (.seq (.reg e237r7 [2, 3, 7, 20, 21, 22] 0) (.block 2 (.loop [2, 3, 20, 21, 22, 29, 30, 31] e237l14)))))) (.reg e237r15 [2, 3, 20, 21, 22] 0))))
def e237 : EFn := ⟨(.seq (.reg e237r0 [0, 1] 0) (.seq (.reg e237r1 [2, 3] 0) (.seq (.reg e237r2 [2, 3] 0) (.seq (.reg e237r3 [2, 3, 4] 0) (.block 0 (.loop [2, 3, 20, 21, 22] e237l16)))))), [], 74, 0⟩
theorem g237 : Good Tryz.prog 237 e237 := ⟨Tryz.f237, Tryz.func237, by kernel_rfl, by kernel_rfl, by kernel_rfl, by kernel_rfl⟩
/-! concord/dedup.known -/
def e239r0 : EE := .out [(0, .s 0)]
def e239r1 : EE := .q 1 .geq [.s 0, .c (.int .i64 1)] none <|
 .q 3 .mv [.s 0] (some (.r 1, true)) <|
 .q 4 .leq [.r 3, .c (.int .i64 8)] (some (.r 1, true)) <|
 .q 5 .pick [.r 1, .r 4, .c (.bool false)] none <|
 .out [(2, .r 5)]
def e239 : EFn := ⟨(.seq (.reg e239r0 [0] 0) (.seq (.reg e239r1 [0] 0) .ret)), [.slot 2], 9, 0⟩
theorem g239 : Good Tryz.prog 239 e239 := ⟨Tryz.f239, Tryz.func239, by kernel_rfl, by kernel_rfl, by kernel_rfl, by kernel_rfl⟩
/-! concord/dedup.copied -/
def e240r0 : EE := .x 0 (.box 68) [.s 0] none [] <|
 .x 1 (.alc [z, (.bool false), zs, z, .nsl] 68) [] none [] <|
 .out [(1, .r 0), (2, .r 1)]
def e240r1 : EE := .q 0 (.fld 4) [.s 1] none <|
 .q 1 .ld [.r 0] none <|
 .x 2 (.call 29) [.r 1] none [] <|
 .q 3 (.fld 4) [.s 1] none <|
 .x 4 (.st 1) [.r 3, .r 2] none [] <|
 .out [(1, .s 1), (2, .s 2)]
def e240r2 : EE := .q 0 (.lda 5) [.s 1] none <|
 .x 1 (.st 5) [.s 2, .r 0] none [] <|
 .out [(2, .s 2)]
def e240 : EFn := ⟨(.seq (.reg e240r0 [0] 0) (.seq (.reg e240r1 [1, 2] 0) (.seq (.reg e240r2 [1, 2] 0) .ret))), [.cells 2 5], 8, 0⟩
theorem g240 : Good Tryz.prog 240 e240 := ⟨Tryz.f240, Tryz.func240, by kernel_rfl, by kernel_rfl, by kernel_rfl, by kernel_rfl⟩
/-! concord/kv.Get -/
def e241r0 : EE := .x 0 (.alc [zs, zs, z] 94) [] none [] <|
 .out [(0, .s 0), (1, .s 1), (4, .r 0)]
def e241r1 : EE := .x 2 (.call 287) [.s 0, .s 1] none [] <|
 .q 4 (.ext 0) [.r 2] none <|
 .q 5 (.ext 1) [.r 2] none <|
 .out [(0, .s 0), (4, .s 4), (6, .r 4), (7, .r 5)]
def e241r2 : EE := .q 1 .not [.s 7] none <|
 .out [(0, .s 0), (4, .s 4), (6, .s 6), (15, .r 1)]
def e241r3 : EE := .q 0 (.bld [zs, zs, z] []) [] none <|
 .x 1 (.st 3) [.s 4, .r 0] none [] <|
 .out [(4, .s 4), (5, .c (.bool false))]
def e241r4 : EE := .q 2 (.ixs 3) [.s 0, .s 6] none <|
 .q 3 (.lda 3) [.r 2] none <|
 .x 4 (.st 3) [.s 4, .r 3] none [] <|
 .out [(4, .s 4), (5, .c (.bool true))]
def e241 : EFn := ⟨(.seq (.reg e241r0 [0, 1] 0) (.seq (.reg e241r1 [0, 1, 4] 0) (.seq (.seq (.reg e241r2 [0, 4, 6, 7] 0) (.cond (.s 15) (.seq (.reg e241r3 [4] 0) .ret) .skip)) (.seq (.reg e241r4 [0, 4, 6] 0) .ret)))), [.cells 4 3, .slot 5], 21, 0⟩
theorem g241 : Good Tryz.prog 241 e241 := ⟨Tryz.f241, Tryz.func241, by kernel_rfl, by kernel_rfl, by kernel_rfl, by kernel_rfl⟩
/-! concord/kv.Put -/
def e242r0 : EE := .out [(0, .s 0), (1, .s 1), (2, .s 2)]
def e242r1 : EE := .x 2 (.call 287) [.s 0, .s 1] none [] <|
 .q 4 (.ext 0) [.r 2] none <|
 .q 5 (.ext 1) [.r 2] none <|
 .out [(0, .s 0), (1, .s 1), (2, .s 2), (8, .r 4), (9, .r 5)]
def e242r2 : EE := .q 1 .not [.s 9] none <|
 .q 3 .mv [.s 0] (some (.r 1, true)) <|
 .q 4 .len [.r 3] (some (.r 1, true)) <|
 .q 5 .geq [.r 4, .c (.int .i64 32)] (some (.r 1, true)) <|
 .q 6 .pick [.r 1, .r 5, .c (.bool false)] none <|
 .out [(0, .s 0), (1, .s 1), (2, .s 2), (8, .s 8), (9, .s 9), (23, .r 6)]
def e242r3 : EE := .out [(6, .c .nsl), (7, .c (.int .i64 7))]
def e242r4 : EE := .x 1 (.call 29) [.s 0] none [] <|
 .out [(1, .s 1), (2, .s 2), (8, .s 8), (9, .s 9), (10, .r 1)]
def e242r5 : EE := .q 1 .not [.s 9] none <|
 .out [(1, .s 1), (2, .s 2), (8, .s 8), (10, .s 10), (27, .r 1)]
def e242r6 : EE := .q 3 (.bld [zs, zs, z] [(0, 1)]) [.s 1] none <|
 .x 4 (.bsl 94 1 [zs, zs, z] [(0, 3)]) [.r 3] none [] <|
 .x 5 (.call 288) [.s 10, .s 8, .r 4] none [] <|
 .out [(2, .s 2), (8, .s 8), (10, .r 5)]
def e242r7 : EE := .q 3 (.ixs 3) [.s 10, .s 8] none <|
 .q 4 (.fld 1) [.r 3] none <|
 .x 5 (.st 1) [.r 4, .s 2] none [] <|
 .out [(8, .s 8), (10, .s 10)]
def e242r8 : EE := .q 2 (.ixs 3) [.s 10, .s 8] none <|
 .q 3 (.fld 2) [.r 2] none <|
 .q 4 .ld [.r 3] none <|
 .q 5 .add [.r 4, .c (.int .i64 1)] none <|
 .q 6 (.ixs 3) [.s 10, .s 8] none <|
 .q 7 (.fld 2) [.r 6] none <|
 .x 8 (.st 1) [.r 7, .r 5] none [] <|
 .out [(10, .s 10)]
def e242r9 : EE := .out [(6, .s 10), (7, .c z)]
def e242 : EFn := ⟨(.seq (.reg e242r0 [0, 1, 2] 0) (.seq (.reg e242r1 [0, 1, 2] 0) (.seq (.seq (.reg e242r2 [0, 1, 2, 8, 9] 0) (.cond (.s 23) (.seq (.reg e242r3 [] 0) .ret) .skip)) (.seq (.reg e242r4 [0, 1, 2, 8, 9] 0) (.seq (.seq (.reg e242r5 [1, 2, 8, 9, 10] 0) (.cond (.s 27) (.reg e242r6 [1, 2, 8, 10] 0) .skip)) (.seq (.reg e242r7 [2, 8, 10] 0) (.seq (.reg e242r8 [8, 10] 0) (.seq (.reg e242r9 [10] 0) .ret)))))))), [.slot 6, .slot 7], 48, 0⟩
theorem g242 : Good Tryz.prog 242 e242 := ⟨Tryz.f242, Tryz.func242, by kernel_rfl, by kernel_rfl, by kernel_rfl, by kernel_rfl⟩
/-! slices.IndexFunc[[]*concord/core.lead,*concord/core.lead] -/
def e247r0 : EE := .out [(0, .s 0), (1, .s 1)]
def e247r1 : EE := .q 1 .len [.s 0] none <|
 .out [(0, .s 0), (1, .s 1), (7, .r 1), (8, .c z)]
def e247r2 : EE := .q 0 .lss [.s 8, .s 7] none <|
 .out [(0, .s 0), (1, .s 1), (7, .s 7), (8, .s 8), (9, .r 0)]
def e247r3 : EE := .out [(0, .s 0), (1, .s 1), (5, .s 8), (7, .s 7), (8, .s 8)]
def e247r4 : EE := .q 3 (.ixs 1) [.s 0, .s 5] none <|
 .q 4 .ld [.r 3] none <|
 .x 5 .callv [.s 1, .r 4] none [] <|
 .out [(0, .s 0), (1, .s 1), (5, .s 5), (7, .s 7), (8, .s 8), (16, .r 5)]
def e247r5 : EE := .out [(4, .s 5)]
def e247r6 : EE := .q 0 .add [.s 8, .c (.int .i64 1)] none <|
 .out [(0, .s 0), (1, .s 1), (7, .s 7), (8, .r 0)]
def e247l7 : EC := (.seq (.reg e247r2 [0, 1, 7, 8] 0) (.seq (.cond (.s 9) .skip (.exit 0)) (.seq (.block 1 (.seq (.reg e247r3 [0, 1, 7, 8] 0) (.seq (.reg e247r4 [0, 1, 5, 7, 8] 0) (.cond (.s 16) (.seq (.reg e247r5 [5] 0) .ret) .skip)))) (.reg e247r6 [0, 1, 7, 8] 0))))
def e247r8 : EE := .out [(4, .c (.int .i64 (-1)))]
def e247 : EFn := ⟨(.seq (.reg e247r0 [0, 1] 0) (.seq (.seq (.reg e247r1 [0, 1] 0) (.block 0 (.loop [0, 1, 7, 8] e247l7))) (.seq (.reg e247r8 [] 0) .ret))), [.slot 4], 19, 0⟩
theorem g247 : Good Tryz.prog 247 e247 := ⟨Tryz.f247, Tryz.func247, by kernel_rfl, by kernel_rfl, by kernel_rfl, by kernel_rfl⟩
/-! concord/letter.ballot -/
def e248r0 : EE := .x 0 (.box 82) [.s 1] none [] <|
 .out [(0, .s 0), (3, .r 0)]
def e248r1 : EE := .q 1 (.fld 0) [.s 3] none <|
 .q 2 .ld [.r 1] none <|
 .q 4 (.fld 1) [.s 3] none <|
 .q 5 .ld [.r 4] none <|
 .x 3 (.call 75) [.s 0, .r 2] none [⟨5, .ld, [.r 4], none⟩] <|
 .x 6 (.call 75) [.r 3, .r 5] none [] <|
 .out [(4, .r 6)]
def e248 : EFn := ⟨(.seq (.reg e248r0 [0, 1] 0) (.seq (.reg e248r1 [0, 3] 0) .ret)), [.slot 4], 12, 0⟩
theorem g248 : Good Tryz.prog 248 e248 := ⟨Tryz.f248, Tryz.func248, by kernel_rfl, by kernel_rfl, by kernel_rfl, by kernel_rfl⟩
end Go.Ev
