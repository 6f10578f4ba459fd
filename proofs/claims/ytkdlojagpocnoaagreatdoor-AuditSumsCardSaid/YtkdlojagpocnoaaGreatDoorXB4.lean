import Derived.Test.YtkdlojagpocnoaaGreatDoorEvB
import Derived.Test.YtkdlojagpocnoaaGreatDoorProg
set_option linter.unusedVariables false
namespace Go.Ev
open Go.Fw Go.Proofs
/-! internal/strconv.small -/
def e285r0 : EE := .out [(0, .s 0)]
def e285r1 : EE := .q 1 .lss [.s 0, .c (.int .i64 10)] none <|
 .out [(0, .s 0), (4, .r 1)]
def e285r2 : EE := .q 2 .add [.s 0, .c (.int .i64 1)] none <|
 .q 3 (.slcs true true) [.c (.str [48, 49, 50, 51, 52, 53, 54, 55, 56, 57, 97, 98, 99, 100, 101, 102, 103, 104, 105, 106, 107, 108, 109, 110, 111, 112, 113, 114, 115, 116, 117, 118, 119, 120, 121, 122]), .s 0, .r 2] none <|
 .out [(2, .r 3)]
def e285r3 : EE := .q 1 .mul [.s 0, .c (.int .i64 2)] none <|
 .q 3 .mul [.s 0, .c (.int .i64 2)] none <|
 .q 4 .add [.r 3, .c (.int .i64 2)] none <|
 .q 5 (.slcs true true) [.c (.str [48, 48, 48, 49, 48, 50, 48, 51, 48, 52, 48, 53, 48, 54, 48, 55, 48, 56, 48, 57, 49, 48, 49, 49, 49, 50, 49, 51, 49, 52, 49, 53, 49, 54, 49, 55, 49, 56, 49, 57, 50, 48, 50, 49, 50, 50, 50, 51, 50, 52, 50, 53, 50, 54, 50, 55, 50, 56, 50, 57, 51, 48, 51, 49, 51, 50, 51, 51, 51, 52, 51, 53, 51, 54, 51, 55, 51, 56, 51, 57, 52, 48, 52, 49, 52, 50, 52, 51, 52, 52, 52, 53, 52, 54, 52, 55, 52, 56, 52, 57, 53, 48, 53, 49, 53, 50, 53, 51, 53, 52, 53, 53, 53, 54, 53, 55, 53, 56, 53, 57, 54, 48, 54, 49, 54, 50, 54, 51, 54, 52, 54, 53, 54, 54, 54, 55, 54, 56, 54, 57, 55, 48, 55, 49, 55, 50, 55, 51, 55, 52, 55, 53, 55, 54, 55, 55, 55, 56, 55, 57, 56, 48, 56, 49, 56, 50, 56, 51, 56, 52, 56, 53, 56, 54, 56, 55, 56, 56, 56, 57, 57, 48, 57, 49, 57, 50, 57, 51, 57, 52, 57, 53, 57, 54, 57, 55, 57, 56, 57, 57]), .r 1, .r 4] none <|
 .out [(2, .r 5)]
def e285 : EFn := ⟨(.seq (.reg e285r0 [0] 0) (.seq (.seq (.reg e285r1 [0] 0) (.cond (.s 4) (.seq (.reg e285r2 [0] 0) .ret) .skip)) (.seq (.reg e285r3 [0] 0) .ret))), [.slot 2], 15, 0⟩
theorem g285 : Good Tryz.prog 285 e285 := ⟨Tryz.f285, Tryz.func285, by kernel_rfl, by kernel_rfl, by kernel_rfl, by kernel_rfl⟩
/-! (*concord/disk.Disk).Total -/
def e299r0 : EE := .out [(0, .s 0)]
def e299r1 : EE := .out [(0, .s 0), (3, .c z)]
def e299r2 : EE := .q 1 .nl [.s 0] none <|
 .q 2 (.fld 1) [.r 1] none <|
 .q 3 .ld [.r 2] none <|
 .q 4 .len [.r 3] none <|
 .out [(3, .s 3), (9, .r 3), (10, .r 4), (11, .c z)]
def e299r3 : EE := .q 0 .lss [.s 11, .s 10] none <|
 .out [(3, .s 3), (9, .s 9), (10, .s 10), (11, .s 11), (12, .r 0)]
def e299r4 : EE := .q 0 (.ixs 3) [.s 9, .s 11] none <|
 .q 1 (.lda 3) [.r 0] none <|
 .x 2 (.alc [zs, .nsl, z] 256) [] none [] <|
 .x 3 (.st 3) [.r 2, .r 1] none [] <|
 .out [(3, .s 3), (5, .r 2), (9, .s 9), (10, .s 10), (11, .s 11)]
def e299r5 : EE := .q 1 (.fld 1) [.s 5] none <|
 .q 2 .ld [.r 1] none <|
 .q 3 .len [.r 2] none <|
 .q 4 .add [.s 3, .r 3] none <|
 .out [(3, .r 4), (9, .s 9), (10, .s 10), (11, .s 11)]
def e299r6 : EE := .q 0 .add [.s 11, .c (.int .i64 1)] none <|
 .out [(3, .s 3), (9, .s 9), (10, .s 10), (11, .r 0)]
def e299l7 : EC := (.seq (.reg e299r3 [3, 9, 10, 11] 0) (.seq (.cond (.s 12) .skip (.exit 0)) (.seq (.block 1 (.seq (.reg e299r4 [3, 9, 10, 11] 0) (.reg e299r5 [3, 5, 9, 10, 11] 0))) (.reg e299r6 [3, 9, 10, 11] 0))))
def e299r8 : EE := .out [(2, .s 3)]
def e299 : EFn := ⟨(.seq (.reg e299r0 [0] 0) (.seq (.reg e299r1 [0] 0) (.seq (.seq (.reg e299r2 [0, 3] 0) (.block 0 (.loop [3, 9, 10, 11] e299l7))) (.seq (.reg e299r8 [3] 0) .ret)))), [.slot 2], 22, 0⟩
theorem g299 : Good Tryz.prog 299 e299 := ⟨Tryz.f299, Tryz.func299, by kernel_rfl, by kernel_rfl, by kernel_rfl, by kernel_rfl⟩
/-! slices.Grow[[]byte,byte] -/
def e302r0 : EE := .out [(0, .s 0), (1, .s 1)]
def e302r1 : EE := .q 1 .lss [.s 1, .c z] none <|
 .out [(0, .s 0), (1, .s 1), (6, .r 1)]
def e302r2 : EE := .q 0 (.mki 9) [.c (.str [99, 97, 110, 110, 111, 116, 32, 98, 101, 32, 110, 101, 103, 97, 116, 105, 118, 101])] none <|
 .x 1 .bad [] none [] <|
 .out [(0, .s 0), (1, .s 1)]
def e302r3 : EE := .q 2 .cap [.s 0] none <|
 .q 4 .len [.s 0] none <|
 .q 5 .sub [.r 2, .r 4] none <|
 .q 6 .sub [.s 1, .r 5] none <|
 .out [(0, .s 0), (1, .r 6)]
def e302r4 : EE := .q 1 .gtr [.s 1, .c z] none <|
 .out [(0, .s 0), (1, .s 1), (16, .r 1)]
def e302r5 : EE := .q 2 .cap [.s 0] none <|
 .q 3 (.slc 1 false true) [.s 0, .r 2] none <|
 .x 5 (.appn 5 1 1 [(.int .u8 0)]) [.r 3, .s 1] none [] <|
 .q 7 .len [.s 0] none <|
 .q 8 (.slc 1 false true) [.r 5, .r 7] none <|
 .out [(0, .r 8)]
def e302r6 : EE := .out [(4, .s 0)]
def e302 : EFn := ⟨(.seq (.reg e302r0 [0, 1] 0) (.seq (.seq (.reg e302r1 [0, 1] 0) (.cond (.s 6) (.reg e302r2 [0, 1] 0) .skip)) (.seq (.seq (.reg e302r3 [0, 1] 0) (.seq (.reg e302r4 [0, 1] 0) (.cond (.s 16) (.reg e302r5 [0, 1] 0) .skip))) (.seq (.reg e302r6 [0] 0) .ret)))), [.slot 4], 27, 0⟩
theorem g302 : Good Tryz.prog 302 e302 := ⟨Tryz.f302, Tryz.func302, by kernel_rfl, by kernel_rfl, by kernel_rfl, by kernel_rfl⟩
/-! concord/inst.New -/
def e303r0 : EE := .out [(0, .s 0)]
def e303r1 : EE := .x 0 .mkm [] none [] <|
 .q 1 (.bld [.nmap] [(0, 1)]) [.r 0] none <|
 .x 2 (.box 417) [.r 1] none [] <|
 .out [(0, .s 0), (3, .r 2)]
def e303r2 : EE := .q 1 .len [.s 0] none <|
 .out [(3, .s 3), (9, .s 0), (10, .r 1), (11, .c z)]
def e303r3 : EE := .q 0 .lss [.s 11, .s 10] none <|
 .out [(3, .s 3), (9, .s 9), (10, .s 10), (11, .s 11), (12, .r 0)]
def e303r4 : EE := .q 0 (.ixs 2) [.s 9, .s 11] none <|
 .q 1 (.lda 2) [.r 0] none <|
 .x 2 (.alc [z, z] 40) [] none [] <|
 .x 3 (.st 2) [.r 2, .r 1] none [] <|
 .out [(3, .s 3), (5, .r 2), (9, .s 9), (10, .s 10), (11, .s 11)]
def e303r5 : EE := .q 1 .nl [.s 3] none <|
 .q 2 (.fld 0) [.r 1] none <|
 .q 3 .ld [.r 2] none <|
 .q 4 (.lda 2) [.s 5] none <|
 .q 5 (.bld [] []) [] none <|
 .x 6 (.mup true [(.i .i64), (.i .i64)]) [.r 3, .r 4, .r 5] none [] <|
 .out [(3, .s 3), (9, .s 9), (10, .s 10), (11, .s 11)]
def e303r6 : EE := .q 0 .add [.s 11, .c (.int .i64 1)] none <|
 .out [(3, .s 3), (9, .s 9), (10, .s 10), (11, .r 0)]
def e303l7 : EC := (.seq (.reg e303r3 [3, 9, 10, 11] 0) (.seq (.cond (.s 12) .skip (.exit 0)) (.seq (.block 1 (.seq (.reg e303r4 [3, 9, 10, 11] 0) (.reg e303r5 [3, 5, 9, 10, 11] 0))) (.reg e303r6 [3, 9, 10, 11] 0))))
def e303r8 : EE := .out [(2, .s 3)]
def e303 : EFn := ⟨(.seq (.reg e303r0 [0] 0) (.seq (.reg e303r1 [0] 0) (.seq (.seq (.reg e303r2 [0, 3] 0) (.block 0 (.loop [3, 9, 10, 11] e303l7))) (.seq (.reg e303r8 [3] 0) .ret)))), [.slot 2], 23, 0⟩
theorem g303 : Good Tryz.prog 303 e303 := ⟨Tryz.f303, Tryz.func303, by kernel_rfl, by kernel_rfl, by kernel_rfl, by kernel_rfl⟩
/-! (*concord/exec.plan).beyond -/
def e304r0 : EE := .x 0 (.box 40) [.s 1] none [] <|
 .out [(0, .s 0), (3, .r 0)]
def e304r1 : EE := .q 1 .nl [.s 0] none <|
 .q 2 (.fld 7) [.r 1] none <|
 .q 3 .ld [.r 2] none <|
 .x 4 .rng [.r 3] none [] <|
 .out [(3, .s 3), (10, .r 4)]
def e304r2 : EE := .x 0 .nxt [.s 10] none [] <|
 .q 1 (.ext 0) [.r 0] none <|
 .out [(3, .s 3), (10, .s 10), (12, .r 1)]
def e304r3 : EE := .q 0 .ent [.s 10] none <|
 .q 1 (.ext 0) [.r 0] none <|
 .x 2 (.alc [z, z] 40) [] none [] <|
 .x 3 (.st 2) [.r 2, .r 1] none [] <|
 .out [(3, .s 3), (5, .r 2), (10, .s 10)]
def e304r4 : EE := .q 0 (.fld 0) [.s 5] none <|
 .q 1 .ld [.r 0] none <|
 .q 2 (.fld 0) [.s 3] none <|
 .q 3 .ld [.r 2] none <|
 .q 4 .eql [.r 1, .r 3] none <|
 .q 6 (.fld 1) [.s 5] (some (.r 4, true)) <|
 .q 7 .ld [.r 6] (some (.r 4, true)) <|
 .q 8 (.fld 1) [.s 3] (some (.r 4, true)) <|
 .q 9 .ld [.r 8] (some (.r 4, true)) <|
 .q 10 .gtr [.r 7, .r 9] (some (.r 4, true)) <|
 .q 11 .pick [.r 4, .r 10, .c (.bool false)] none <|
 .out [(3, .s 3), (10, .s 10), (26, .r 11)]
def e304r5 : EE := .out [(4, .c (.bool true))]
def e304l6 : EC := (.seq (.reg e304r2 [3, 10] 0) (.seq (.cond (.s 12) .skip (.exit 0)) (.block 1 (.seq (.reg e304r3 [3, 10] 0) (.seq (.reg e304r4 [3, 5, 10] 0) (.cond (.s 26) (.seq (.reg e304r5 [] 0) .ret) .skip))))))
def e304r7 : EE := .out [(4, .c (.bool false))]
def e304 : EFn := ⟨(.seq (.reg e304r0 [0, 1] 0) (.seq (.seq (.reg e304r1 [0, 3] 0) (.block 0 (.loop [3, 10] e304l6))) (.seq (.reg e304r7 [] 0) .ret))), [.slot 4], 27, 0⟩
theorem g304 : Good Tryz.prog 304 e304 := ⟨Tryz.f304, Tryz.func304, by kernel_rfl, by kernel_rfl, by kernel_rfl, by kernel_rfl⟩
/-! (*concord/exec.plan).hangs -/
def e306r0 : EE := .x 0 (.box 40) [.s 1] none [] <|
 .x 2 (.alc [z, z] 40) [] none [] <|
 .out [(0, .s 0), (3, .r 0), (5, .r 2)]
def e306r1 : EE := .q 0 (.lda 2) [.s 3] none <|
 .x 1 (.bsl 40 1 [z, z] [(0, 2)]) [.r 0] none [] <|
 .x 2 (.call 303) [.r 1] none [] <|
 .out [(0, .s 0), (3, .s 3), (5, .s 5), (6, .r 2)]
def e306r2 : EE := .q 0 (.lda 2) [.s 3] none <|
 .x 1 (.bsl 40 1 [z, z] [(0, 2)]) [.r 0] none [] <|
 .out [(0, .s 0), (5, .s 5), (6, .s 6), (7, .r 1)]
def e306r3 : EE := .out [(0, .s 0), (5, .s 5), (6, .s 6), (7, .s 7), (8, .c z)]
def e306r4 : EE := .q 2 .len [.s 7] none <|
 .q 3 .lss [.s 8, .r 2] none <|
 .out [(0, .s 0), (5, .s 5), (6, .s 6), (7, .s 7), (8, .s 8), (25, .r 3)]
def e306r5 : EE := .q 1 .eql [.s 8, .c (.int .i64 512)] none <|
 .out [(0, .s 0), (5, .s 5), (6, .s 6), (7, .s 7), (8, .s 8), (29, .r 1)]
def e306r6 : EE := .q 0 (.bld [z, z] []) [] none <|
 .x 2 (.st 2) [.s 5, .r 0] none [] <|
 .out [(4, .c .nsl), (5, .s 5)]
def e306r7 : EE := .q 2 (.ixs 2) [.s 7, .s 8] none <|
 .q 3 (.lda 2) [.r 2] none <|
 .x 4 (.alc [z, z] 40) [] none [] <|
 .x 5 (.st 2) [.r 4, .r 3] none [] <|
 .out [(0, .s 0), (5, .s 5), (6, .s 6), (7, .s 7), (8, .s 8), (9, .r 4)]
def e306r8 : EE := .q 1 .nl [.s 0] none <|
 .q 2 (.fld 7) [.r 1] none <|
 .q 3 .ld [.r 2] none <|
 .q 4 (.lda 2) [.s 9] none <|
 .q 5 (.lkp true [(.i .i64), (.i .i64)] (.agg [z, z, z, z, z, z, z, z, zs, zs, zs, zs, z, z, z, z, z, z, z, z, (.bool false)]) false) [.r 3, .r 4] none <|
 .x 6 (.alc [z, z, z, z, z, z, z, z, zs, zs, zs, zs, z, z, z, z, z, z, z, z, (.bool false)] 48) [] none [⟨3, .ld, [.r 2], none⟩, ⟨4, (.lda 2), [.s 9], none⟩, ⟨5, (.lkp true [(.i .i64), (.i .i64)] (.agg [z, z, z, z, z, z, z, z, zs, zs, zs, zs, z, z, z, z, z, z, z, z, (.bool false)]) false), [.r 3, .r 4], none⟩] <|
 .x 7 (.st 21) [.r 6, .r 5] none [] <|
 .out [(0, .s 0), (5, .s 5), (6, .s 6), (7, .s 7), (8, .s 8), (9, .s 9), (10, .r 6)]
def e306r9 : EE := .out [(0, .s 0), (5, .s 5), (6, .s 6), (7, .s 7), (8, .s 8), (9, .s 9), (10, .s 10), (41, .c z)]
def e306r10 : EE := .q 0 .lss [.s 41, .c (.int .i64 7)] none <|
 .out [(0, .s 0), (5, .s 5), (6, .s 6), (7, .s 7), (8, .s 8), (9, .s 9), (10, .s 10), (41, .s 41), (42, .r 0)]
def e306r11 : EE := .out [(0, .s 0), (5, .s 5), (6, .s 6), (7, .s 7), (8, .s 8), (9, .s 9), (10, .s 10), (11, .s 41), (41, .s 41)]
def e306r12 : EE := .q 0 (.lda 2) [.s 9] none <|
 .q 1 (.lda 21) [.s 10] none <|
 .x 3 (.call 344) [.r 0, .r 1, .s 11] none [] <|
 .out [(0, .s 0), (5, .s 5), (6, .s 6), (7, .s 7), (8, .s 8), (9, .s 9), (10, .s 10), (11, .s 11), (12, .r 3), (41, .s 41)]
def e306r13 : EE := .q 2 .nl [.s 0] none <|
 .q 3 (.fld 0) [.r 2] none <|
 .q 4 (.ixa 7 1) [.r 3, .s 11] none <|
 .q 5 .ld [.r 4] none <|
 .q 6 .add [.r 5, .c (.int .i64 1)] none <|
 .out [(0, .s 0), (5, .s 5), (6, .s 6), (7, .s 7), (8, .s 8), (9, .s 9), (10, .s 10), (11, .s 11), (12, .s 12), (13, .r 6), (41, .s 41)]
def e306r14 : EE := .q 2 .leq [.s 13, .s 12] none <|
 .out [(0, .s 0), (5, .s 5), (6, .s 6), (7, .s 7), (8, .s 8), (9, .s 9), (10, .s 10), (11, .s 11), (12, .s 12), (13, .s 13), (41, .s 41), (57, .r 2)]
def e306r15 : EE := .q 2 (.bld [z, z] [(0, 1), (1, 1)]) [.s 11, .s 13] none <|
 .x 3 (.alc [z, z] 40) [] none [] <|
 .x 4 (.st 2) [.r 3, .r 2] none [] <|
 .out [(0, .s 0), (5, .s 5), (6, .s 6), (7, .s 7), (8, .s 8), (9, .s 9), (10, .s 10), (11, .s 11), (12, .s 12), (13, .s 13), (14, .r 3), (41, .s 41)]
def e306r16 : EE := .q 1 .nl [.s 0] none <|
 .q 2 (.fld 7) [.r 1] none <|
 .q 3 .ld [.r 2] none <|
 .q 4 (.lda 2) [.s 14] none <|
 .q 5 (.lkp true [(.i .i64), (.i .i64)] (.agg [z, z, z, z, z, z, z, z, zs, zs, zs, zs, z, z, z, z, z, z, z, z, (.bool false)]) true) [.r 3, .r 4] none <|
 .q 7 (.ext 0) [.r 5] none <|
 .q 8 (.ext 1) [.r 5] none <|
 .x 9 (.alc [z, z, z, z, z, z, z, z, zs, zs, zs, zs, z, z, z, z, z, z, z, z, (.bool false)] 48) [] none [⟨3, .ld, [.r 2], none⟩, ⟨4, (.lda 2), [.s 14], none⟩, ⟨5, (.lkp true [(.i .i64), (.i .i64)] (.agg [z, z, z, z, z, z, z, z, zs, zs, zs, zs, z, z, z, z, z, z, z, z, (.bool false)]) true), [.r 3, .r 4], none⟩] <|
 .x 10 (.st 21) [.r 9, .r 7] none [] <|
 .out [(0, .s 0), (5, .s 5), (6, .s 6), (7, .s 7), (8, .s 8), (9, .s 9), (10, .s 10), (11, .s 11), (12, .s 12), (13, .s 13), (14, .s 14), (16, .r 8), (41, .s 41)]
def e306r17 : EE := .q 1 .not [.s 16] none <|
 .out [(0, .s 0), (5, .s 5), (6, .s 6), (7, .s 7), (8, .s 8), (9, .s 9), (10, .s 10), (11, .s 11), (12, .s 12), (13, .s 13), (14, .s 14), (41, .s 41), (73, .r 1)]
def e306r18 : EE := .q 0 (.lda 2) [.s 14] none <|
 .x 2 (.st 2) [.s 5, .r 0] none [] <|
 .out [(4, .c .nsl), (5, .s 5)]
def e306r19 : EE := .q 1 (.lda 2) [.s 14] none <|
 .x 2 (.call 305) [.s 6, .r 1] none [] <|
 .out [(0, .s 0), (5, .s 5), (6, .s 6), (7, .s 7), (8, .s 8), (9, .s 9), (10, .s 10), (11, .s 11), (12, .s 12), (13, .s 13), (14, .s 14), (41, .s 41), (77, .r 2)]
def e306r20 : EE := .q 1 (.lda 2) [.s 14] none <|
 .x 2 (.bsl 40 1 [z, z] [(0, 2)]) [.r 1] none [] <|
 .x 3 (.app 40 2 16 [z, z]) [.s 7, .r 2] none [] <|
 .out [(0, .s 0), (5, .s 5), (6, .s 6), (7, .r 3), (8, .s 8), (9, .s 9), (10, .s 10), (11, .s 11), (12, .s 12), (13, .s 13), (41, .s 41)]
def e306r21 : EE := .q 1 .add [.s 13, .c (.int .i64 1)] none <|
 .out [(0, .s 0), (5, .s 5), (6, .s 6), (7, .s 7), (8, .s 8), (9, .s 9), (10, .s 10), (11, .s 11), (12, .s 12), (13, .r 1), (41, .s 41)]
def e306l22 : EC := (.seq (.seq (.reg e306r14 [0, 5, 6, 7, 8, 9, 10, 11, 12, 13, 41] 0) (.cond (.s 57) .skip (.exit 4))) (.seq (.block 5 (.seq (.reg e306r15 [0, 5, 6, 7, 8, 9, 10, 11, 12, 13, 41] 0) (.seq (.seq (.reg e306r16 [0, 5, 6, 7, 8, 9, 10, 11, 12, 13, 14, 41] 0) (.seq (.reg e306r17 [0, 5, 6, 7, 8, 9, 10, 11, 12, 13, 14, 16, 41] 0) (.cond (.s 73) (.seq (.reg e306r18 [5, 14] 0) .ret) .skip))) (.seq (.reg e306r19 [0, 5, 6, 7, 8, 9, 10, 11, 12, 13, 14, 41] 0) (.cond (.s 77) (.reg e306r20 [0, 5, 6, 7, 8, 9, 10, 11, 12, 13, 14, 41] 0) .skip))))) (.reg e306r21 [0, 5, 6, 7, 8, 9, 10, 11, 12, 13, 41] 0)))
def e306r23 : EE := .q 0 .add [.s 41, .c (.int .i64 1)] none <|
 .out [(0, .s 0), (5, .s 5), (6, .s 6), (7, .s 7), (8, .s 8), (9, .s 9), (10, .s 10), (41, .r 0)]
def e306l24 : EC := (.seq (.reg e306r10 [0, 5, 6, 7, 8, 9, 10, 41] 0) (.seq (.cond (.s 42) .skip (.exit 2)) (.seq (.block 3 (.seq (.reg e306r11 [0, 5, 6, 7, 8, 9, 10, 41] 0) (.seq (.reg e306r12 [0, 5, 6, 7, 8, 9, 10, 11, 41] 0) (.seq (.reg e306r13 [0, 5, 6, 7, 8, 9, 10, 11, 12, 41] 0) (.block 4 (.loop [0, 5, 6, 7, 8, 9, 10, 11, 12, 13, 41] e306l22)))))) (.reg e306r23 [0, 5, 6, 7, 8, 9, 10, 41] 0))))
def e306r25 : EE := .q 1 .add [.s 8, .c (.int .i64 1)] none <|
 .out [(0, .s 0), (5, .s 5), (6, .s 6), (7, .s 7), (8, .r 1)]
def e306l26 : EC := (.seq (.seq (.reg e306r4 [0, 5, 6, 7, 8] 0) (.cond (.s 25) .skip (.exit 0))) (.seq (.block 1 (.seq (.seq (.reg e306r5 [0, 5, 6, 7, 8] 0) (.cond (.s 29) (.seq (.reg e306r6 [5] 0) .ret) .skip)) (.seq (.reg e306r7 [0, 5, 6, 7, 8] 0) (.seq (.reg e306r8 [0, 5, 6, 7, 8, 9] 0) (.seq (.reg e306r9 [0, 5, 6, 7, 8, 9, 10] 0) (.block 2 (.loop [0, 5, 6, 7, 8, 9, 10, 41] e306l24))))))) (.reg e306r25 [0, 5, 6, 7, 8] 0)))
def e306r27 : EE := .q 1 (.bld [z, z] []) [] none <|
 .x 3 (.st 2) [.s 5, .r 1] none [] <|
 .out [(4, .s 7), (5, .s 5)]
def e306 : EFn := ⟨(.seq (.reg e306r0 [0, 1] 0) (.seq (.reg e306r1 [0, 3, 5] 0) (.seq (.reg e306r2 [0, 3, 5, 6] 0) (.seq (.seq (.reg e306r3 [0, 5, 6, 7] 0) (.block 0 (.loop [0, 5, 6, 7, 8] e306l26))) (.seq (.reg e306r27 [5, 7] 0) .ret))))), [.slot 4, .cells 5 2], 85, 0⟩
theorem g306 : Good Tryz.prog 306 e306 := ⟨Tryz.f306, Tryz.func306, by kernel_rfl, by kernel_rfl, by kernel_rfl, by kernel_rfl⟩
/-! (*concord/exec.plan).do -/
def e307r0 : EE := .x 0 (.box 366) [.s 0] none [] <|
 .x 1 (.box 94) [.s 1] none [] <|
 .out [(2, .r 0), (3, .r 1)]
def e307r1 : EE := .q 0 .ld [.s 3] none <|
 .x 1 (.call 265) [.r 0, .f 345] none [] <|
 .out [(2, .s 2), (3, .s 3)]
def e307r2 : EE := .q 0 .ld [.s 2] none <|
 .q 1 .ld [.s 3] none <|
 .x 2 (.call 347) [.r 0, .r 1] none [] <|
 .x 3 (.call 346) [.r 2] none [] <|
 .q 5 (.ext 0) [.r 3] none <|
 .q 6 (.ext 1) [.r 3] none <|
 .out [(2, .s 2), (3, .s 3), (4, .r 5)]
def e307r3 : EE := .q 1 .len [.s 4] none <|
 .out [(2, .s 2), (3, .s 3), (20, .s 4), (21, .r 1), (22, .c z)]
def e307r4 : EE := .q 0 .lss [.s 22, .s 21] none <|
 .out [(2, .s 2), (3, .s 3), (20, .s 20), (21, .s 21), (22, .s 22), (23, .r 0)]
def e307r5 : EE := .q 0 (.ixs 1) [.s 20, .s 22] none <|
 .q 1 .ld [.r 0] none <|
 .out [(2, .s 2), (3, .s 3), (7, .r 1), (20, .s 20), (21, .s 21), (22, .s 22)]
def e307r6 : EE := .q 1 (.mkf 349 0) [.s 2, .s 3] none <|
 .x 2 (.call 348) [.s 7, .r 1] none [] <|
 .out [(2, .s 2), (3, .s 3), (7, .s 7), (20, .s 20), (21, .s 21), (22, .s 22)]
def e307r7 : EE := .q 1 .len [.s 7] none <|
 .out [(2, .s 2), (3, .s 3), (20, .s 20), (21, .s 21), (22, .s 22), (29, .s 7), (30, .r 1), (31, .c z)]
def e307r8 : EE := .q 0 .lss [.s 31, .s 30] none <|
 .out [(2, .s 2), (3, .s 3), (20, .s 20), (21, .s 21), (22, .s 22), (29, .s 29), (30, .s 30), (31, .s 31), (32, .r 0)]
def e307r9 : EE := .q 0 (.ixs 1) [.s 29, .s 31] none <|
 .q 1 .ld [.r 0] none <|
 .out [(2, .s 2), (3, .s 3), (9, .r 1), (20, .s 20), (21, .s 21), (22, .s 22), (29, .s 29), (30, .s 30), (31, .s 31)]
def e307r10 : EE := .q 0 .ld [.s 3] none <|
 .q 2 (.ixs 2) [.r 0, .s 9] none <|
 .q 3 (.lda 2) [.r 2] none <|
 .x 4 (.alc [z, z] 40) [] none [] <|
 .x 5 (.st 2) [.r 4, .r 3] none [] <|
 .out [(2, .s 2), (3, .s 3), (10, .r 4), (20, .s 20), (21, .s 21), (22, .s 22), (29, .s 29), (30, .s 30), (31, .s 31)]
def e307r11 : EE := .q 0 .ld [.s 2] none <|
 .q 1 .ld [.s 2] none <|
 .q 2 .nl [.r 1] none <|
 .q 3 (.fld 8) [.r 2] none <|
 .q 4 .ld [.r 3] none <|
 .q 5 (.lda 2) [.s 10] none <|
 .q 6 .ld [.s 2] none <|
 .q 7 .nl [.r 6] none <|
 .q 8 (.fld 7) [.r 7] none <|
 .q 9 .ld [.r 8] none <|
 .q 10 (.lda 2) [.s 10] none <|
 .q 11 (.lkp true [(.i .i64), (.i .i64)] (.agg [z, z, z, z, z, z, z, z, zs, zs, zs, zs, z, z, z, z, z, z, z, z, (.bool false)]) false) [.r 9, .r 10] none <|
 .q 12 (.bld [z, z, z, z, z, z, z, z, z, z, zs, zs, zs, zs, z, z, z, z, z, z, z, z, (.bool false)] [(0, 2), (2, 21)]) [.r 5, .r 11] none <|
 .x 13 (.bsl 311 1 [z, z, z, z, z, z, z, z, z, z, zs, zs, zs, zs, z, z, z, z, z, z, z, z, (.bool false)] [(0, 23)]) [.r 12] none [⟨0, .ld, [.s 2], none⟩, ⟨1, .ld, [.s 2], none⟩, ⟨4, .ld, [.r 3], none⟩] <|
 .x 14 (.app 311 23 216 [z, z, z, z, z, z, z, z, z, z, zs, zs, zs, zs, z, z, z, z, z, z, z, z, (.bool false)]) [.r 4, .r 13] none [⟨0, .ld, [.s 2], none⟩] <|
 .q 15 .nl [.r 0] none <|
 .q 16 (.fld 8) [.r 15] none <|
 .x 17 (.st 1) [.r 16, .r 14] none [] <|
 .out [(2, .s 2), (3, .s 3), (10, .s 10), (20, .s 20), (21, .s 21), (22, .s 22), (29, .s 29), (30, .s 30), (31, .s 31)]
def e307r12 : EE := .q 0 .ld [.s 2] none <|
 .q 1 (.fld 0) [.s 10] none <|
 .q 2 .ld [.r 1] none <|
 .q 3 .ld [.s 2] none <|
 .q 4 (.fld 0) [.s 10] none <|
 .q 5 .ld [.r 4] none <|
 .q 6 .nl [.r 3] none <|
 .q 7 (.fld 0) [.r 6] none <|
 .q 8 (.ixa 7 1) [.r 7, .r 5] none <|
 .q 9 .ld [.r 8] none <|
 .q 10 (.fld 1) [.s 10] none <|
 .q 11 .ld [.r 10] none <|
 .q 12 .mx [.r 9, .r 11] none <|
 .q 13 .nl [.r 0] none <|
 .q 14 (.fld 0) [.r 13] none <|
 .q 15 (.ixa 7 1) [.r 14, .r 2] none <|
 .x 16 (.st 1) [.r 15, .r 12] none [] <|
 .out [(2, .s 2), (3, .s 3), (20, .s 20), (21, .s 21), (22, .s 22), (29, .s 29), (30, .s 30), (31, .s 31)]
def e307r13 : EE := .q 0 .add [.s 31, .c (.int .i64 1)] none <|
 .out [(2, .s 2), (3, .s 3), (20, .s 20), (21, .s 21), (22, .s 22), (29, .s 29), (30, .s 30), (31, .r 0)]
def e307l14 : EC := (.seq (.reg e307r8 [2, 3, 20, 21, 22, 29, 30, 31] 0) (.seq (.cond (.s 32) .skip (.exit 2)) (.seq (.block 3 (.seq (.reg e307r9 [2, 3, 20, 21, 22, 29, 30, 31] 0) (.seq (.reg e307r10 [2, 3, 9, 20, 21, 22, 29, 30, 31] 0) (.seq (.reg e307r11 [2, 3, 10, 20, 21, 22, 29, 30, 31] 0) (.reg e307r12 [2, 3, 10, 20, 21, 22, 29, 30, 31] 0))))) (.reg e307r13 [2, 3, 20, 21, 22, 29, 30, 31] 0))))
def e307r15 : EE := .q 0 .add [.s 22, .c (.int .i64 1)] none <|
 .out [(2, .s 2), (3, .s 3), (20, .s 20), (21, .s 21), (22, .r 0)]
def e307l16 : EC := (.seq (.reg e307r4 [2, 3, 20, 21, 22] 0) (.seq (.cond (.s 23) .skip (.exit 0)) (.seq (.block 1 (.seq (.reg e307r5 [2, 3, 20, 21, 22] 0) (.seq (.reg e307r6 [2, 3, 7, 20, 21, 22] 0) (.seq (.reg e307r7 [2, 3, 7, 20, 21, 22] 0) (.block 2 (.loop [2, 3, 20, 21, 22, 29, 30, 31] e307l14)))))) (.reg e307r15 [2, 3, 20, 21, 22] 0))))
def e307 : EFn := ⟨(.seq (.reg e307r0 [0, 1] 0) (.seq (.reg e307r1 [2, 3] 0) (.seq (.reg e307r2 [2, 3] 0) (.seq (.reg e307r3 [2, 3, 4] 0) (.block 0 (.loop [2, 3, 20, 21, 22] e307l16)))))), [], 74, 0⟩
theorem g307 : Good Tryz.prog 307 e307 := ⟨Tryz.f307, Tryz.func307, by kernel_rfl, by kernel_rfl, by kernel_rfl, by kernel_rfl⟩
/-! slices.IndexFunc[[]*concord/core.lead,*concord/core.lead] -/
def e311r0 : EE := .out [(0, .s 0), (1, .s 1)]
def e311r1 : EE := .q 1 .len [.s 0] none <|
 .out [(0, .s 0), (1, .s 1), (7, .r 1), (8, .c z)]
def e311r2 : EE := .q 0 .lss [.s 8, .s 7] none <|
 .out [(0, .s 0), (1, .s 1), (7, .s 7), (8, .s 8), (9, .r 0)]
def e311r3 : EE := .out [(0, .s 0), (1, .s 1), (5, .s 8), (7, .s 7), (8, .s 8)]
def e311r4 : EE := .q 3 (.ixs 1) [.s 0, .s 5] none <|
 .q 4 .ld [.r 3] none <|
 .x 5 .callv [.s 1, .r 4] none [] <|
 .out [(0, .s 0), (1, .s 1), (5, .s 5), (7, .s 7), (8, .s 8), (16, .r 5)]
def e311r5 : EE := .out [(4, .s 5)]
def e311r6 : EE := .q 0 .add [.s 8, .c (.int .i64 1)] none <|
 .out [(0, .s 0), (1, .s 1), (7, .s 7), (8, .r 0)]
def e311l7 : EC := (.seq (.reg e311r2 [0, 1, 7, 8] 0) (.seq (.cond (.s 9) .skip (.exit 0)) (.seq (.block 1 (.seq (.reg e311r3 [0, 1, 7, 8] 0) (.seq (.reg e311r4 [0, 1, 5, 7, 8] 0) (.cond (.s 16) (.seq (.reg e311r5 [5] 0) .ret) .skip)))) (.reg e311r6 [0, 1, 7, 8] 0))))
def e311r8 : EE := .out [(4, .c (.int .i64 (-1)))]
def e311 : EFn := ⟨(.seq (.reg e311r0 [0, 1] 0) (.seq (.seq (.reg e311r1 [0, 1] 0) (.block 0 (.loop [0, 1, 7, 8] e311l7))) (.seq (.reg e311r8 [] 0) .ret))), [.slot 4], 19, 0⟩
theorem g311 : Good Tryz.prog 311 e311 := ⟨Tryz.f311, Tryz.func311, by kernel_rfl, by kernel_rfl, by kernel_rfl, by kernel_rfl⟩
/-! concord/letter.ballot -/
def e312r0 : EE := .x 0 (.box 42) [.s 1] none [] <|
 .out [(0, .s 0), (3, .r 0)]
def e312r1 : EE := .q 1 (.fld 0) [.s 3] none <|
 .q 2 .ld [.r 1] none <|
 .q 4 (.fld 1) [.s 3] none <|
 .q 5 .ld [.r 4] none <|
 .x 3 (.call 109) [.s 0, .r 2] none [⟨5, .ld, [.r 4], none⟩] <|
 .x 6 (.call 109) [.r 3, .r 5] none [] <|
 .out [(4, .r 6)]
def e312 : EFn := ⟨(.seq (.reg e312r0 [0, 1] 0) (.seq (.reg e312r1 [0, 3] 0) .ret)), [.slot 4], 12, 0⟩
theorem g312 : Good Tryz.prog 312 e312 := ⟨Tryz.f312, Tryz.func312, by kernel_rfl, by kernel_rfl, by kernel_rfl, by kernel_rfl⟩
/-! concord/cmd.Put -/
def e313r0 : EE := .x 0 (.box 33) [.s 1] none [] <|
 .out [(0, .s 0), (3, .r 0)]
def e313r1 : EE := .q 0 (.lda 7) [.s 3] none <|
 .x 1 (.call 41) [.r 0] none [] <|
 .q 2 .not [.r 1] none <|
 .out [(0, .s 0), (3, .s 3), (7, .r 2)]
def e313r2 : EE := .x 1 (.app 5 1 1 [(.int .u8 0)]) [.c .nsl, .s 0] none [] <|
 .out [(4, .r 1)]
def e313r3 : EE := .q 1 (.fld 0) [.s 3] none <|
 .q 2 .ld [.r 1] none <|
 .x 3 (.call 109) [.s 0, .r 2] none [] <|
 .out [(0, .r 3), (3, .s 3)]
def e313r4 : EE := .q 0 (.fld 0) [.s 3] none <|
 .q 1 .ld [.r 0] none <|
 .q 2 .eql [.r 1, .c z] none <|
 .out [(0, .s 0), (3, .s 3), (16, .r 2)]
def e313r5 : EE := .out [(4, .s 0)]
def e313r6 : EE := .q 1 (.fld 1) [.s 3] none <|
 .q 2 .ld [.r 1] none <|
 .q 4 (.fld 2) [.s 3] none <|
 .q 5 .ld [.r 4] none <|
 .q 7 (.fld 3) [.s 3] none <|
 .q 8 .ld [.r 7] none <|
 .x 3 (.call 109) [.s 0, .r 2] none [⟨5, .ld, [.r 4], none⟩, ⟨8, .ld, [.r 7], none⟩] <|
 .x 6 (.call 109) [.r 3, .r 5] none [⟨8, .ld, [.r 7], none⟩] <|
 .x 9 (.call 259) [.r 6, .r 8] none [] <|
 .out [(0, .r 9), (3, .s 3)]
def e313r7 : EE := .q 0 (.fld 0) [.s 3] none <|
 .q 1 .ld [.r 0] none <|
 .out [(0, .s 0), (3, .s 3), (29, .r 1)]
def e313r8 : EE := .q 0 .eql [.s 29, .c (.int .i64 2)] none <|
 .out [(0, .s 0), (3, .s 3), (29, .s 29), (30, .r 0)]
def e313r9 : EE := .q 1 (.fld 6) [.s 3] none <|
 .q 2 .ld [.r 1] none <|
 .x 3 (.call 259) [.s 0, .r 2] none [] <|
 .out [(0, .r 3)]
def e313r10 : EE := .q 0 .eql [.s 29, .c (.int .i64 4)] none <|
 .out [(0, .s 0), (3, .s 3), (29, .s 29), (36, .r 0)]
def e313r11 : EE := .q 1 (.fld 5) [.s 3] none <|
 .q 2 .ld [.r 1] none <|
 .q 4 (.fld 6) [.s 3] none <|
 .q 5 .ld [.r 4] none <|
 .x 3 (.call 259) [.s 0, .r 2] none [⟨5, .ld, [.r 4], none⟩] <|
 .x 6 (.call 259) [.r 3, .r 5] none [] <|
 .out [(0, .r 6)]
def e313r12 : EE := .q 0 .eql [.s 29, .c (.int .i64 5)] none <|
 .out [(0, .s 0), (3, .s 3), (45, .r 0)]
def e313r13 : EE := .q 1 (.fld 4) [.s 3] none <|
 .q 2 .ld [.r 1] none <|
 .x 3 (.call 259) [.s 0, .r 2] none [] <|
 .out [(0, .r 3)]
def e313r14 : EE := .out [(4, .s 0)]
def e313 : EFn := ⟨(.seq (.reg e313r0 [0, 1] 0) (.seq (.seq (.reg e313r1 [0, 3] 0) (.cond (.s 7) (.seq (.reg e313r2 [0] 0) .ret) .skip)) (.seq (.reg e313r3 [0, 3] 0) (.seq (.seq (.reg e313r4 [0, 3] 0) (.cond (.s 16) (.seq (.reg e313r5 [0] 0) .ret) .skip)) (.seq (.reg e313r6 [0, 3] 0) (.seq (.seq (.reg e313r7 [0, 3] 0) (.block 0 (.seq (.reg e313r8 [0, 3, 29] 0) (.cond (.s 30) (.reg e313r9 [0, 3] 0) (.seq (.reg e313r10 [0, 3, 29] 0) (.cond (.s 36) (.reg e313r11 [0, 3] 0) (.seq (.reg e313r12 [0, 3, 29] 0) (.cond (.s 45) (.reg e313r13 [0, 3] 0) .skip)))))))) (.seq (.reg e313r14 [0] 0) .ret))))))), [.slot 4], 52, 0⟩
theorem g313 : Good Tryz.prog 313 e313 := ⟨Tryz.f313, Tryz.func313, by kernel_rfl, by kernel_rfl, by kernel_rfl, by kernel_rfl⟩
/-! concord/deps.Put -/
def e314r0 : EE := .x 0 (.box 46) [.s 1] none [] <|
 .out [(0, .s 0), (3, .r 0)]
def e314r1 : EE := .q 1 (.fld 0) [.s 3] none <|
 .q 2 .ld [.r 1] none <|
 .x 3 (.call 109) [.s 0, .r 2] none [] <|
 .out [(0, .r 3), (3, .s 3)]
def e314r2 : EE := .q 0 (.fld 1) [.s 3] none <|
 .q 1 (.lda 7) [.r 0] none <|
 .out [(0, .s 0), (12, .r 1), (13, .c z)]
def e314r3 : EE := .q 0 .lss [.s 13, .c (.int .i64 7)] none <|
 .out [(0, .s 0), (12, .s 12), (13, .s 13), (14, .r 0)]
def e314r4 : EE := .q 0 (.idx 7 1) [.s 12, .s 13] none <|
 .out [(0, .s 0), (6, .r 0), (12, .s 12), (13, .s 13)]
def e314r5 : EE := .x 2 (.call 109) [.s 0, .s 6] none [] <|
 .out [(0, .r 2), (12, .s 12), (13, .s 13)]
def e314r6 : EE := .q 0 .add [.s 13, .c (.int .i64 1)] none <|
 .out [(0, .s 0), (12, .s 12), (13, .r 0)]
def e314l7 : EC := (.seq (.reg e314r3 [0, 12, 13] 0) (.seq (.cond (.s 14) .skip (.exit 0)) (.seq (.block 1 (.seq (.reg e314r4 [0, 12, 13] 0) (.reg e314r5 [0, 6, 12, 13] 0))) (.reg e314r6 [0, 12, 13] 0))))
def e314r8 : EE := .out [(4, .s 0)]
def e314 : EFn := ⟨(.seq (.reg e314r0 [0, 1] 0) (.seq (.reg e314r1 [0, 3] 0) (.seq (.seq (.reg e314r2 [0, 3] 0) (.block 0 (.loop [0, 12, 13] e314l7))) (.seq (.reg e314r8 [0] 0) .ret)))), [.slot 4], 21, 0⟩
theorem g314 : Good Tryz.prog 314 e314 := ⟨Tryz.f314, Tryz.func314, by kernel_rfl, by kernel_rfl, by kernel_rfl, by kernel_rfl⟩
/-! slices.pdqsortCmpFunc[concord/api.Inst] -/
def e315r0 : EE := .out [(0, .s 0), (1, .s 1), (2, .s 2), (3, .s 3), (4, .s 4), (10, .c (.bool true))]
def e315r1 : EE := .out [(0, .s 0), (1, .s 1), (2, .s 2), (3, .s 3), (4, .s 4), (10, .s 10), (11, .c (.bool true))]
def e315r2 : EE := .q 2 .sub [.s 2, .s 1] none <|
 .out [(0, .s 0), (1, .s 1), (2, .s 2), (3, .s 3), (4, .s 4), (10, .s 10), (11, .s 11), (12, .r 2)]
def e315r3 : EE := .q 1 .leq [.s 12, .c (.int .i64 12)] none <|
 .out [(0, .s 0), (1, .s 1), (2, .s 2), (3, .s 3), (4, .s 4), (10, .s 10), (11, .s 11), (12, .s 12), (25, .r 1)]
def e315r4 : EE := .x 4 (.call 351) [.s 0, .s 1, .s 2, .s 4] none [] <|
 .out []
def e315r5 : EE := .q 1 .eql [.s 3, .c z] none <|
 .out [(0, .s 0), (1, .s 1), (2, .s 2), (3, .s 3), (4, .s 4), (10, .s 10), (11, .s 11), (12, .s 12), (32, .r 1)]
def e315r6 : EE := .x 4 (.call 352) [.s 0, .s 1, .s 2, .s 4] none [] <|
 .out []
def e315r7 : EE := .q 1 .not [.s 10] none <|
 .out [(0, .s 0), (1, .s 1), (2, .s 2), (3, .s 3), (4, .s 4), (10, .s 10), (11, .s 11), (12, .s 12), (39, .r 1)]
def e315r8 : EE := .x 4 (.call 353) [.s 0, .s 1, .s 2, .s 4] none [] <|
 .out [(0, .s 0), (1, .s 1), (2, .s 2), (3, .s 3), (4, .s 4), (10, .s 10), (11, .s 11), (12, .s 12)]
def e315r9 : EE := .q 1 .sub [.s 3, .c (.int .i64 1)] none <|
 .out [(0, .s 0), (1, .s 1), (2, .s 2), (3, .r 1), (4, .s 4), (10, .s 10), (11, .s 11), (12, .s 12)]
def e315r10 : EE := .x 4 (.call 354) [.s 0, .s 1, .s 2, .s 4] none [] <|
 .q 6 (.ext 0) [.r 4] none <|
 .q 7 (.ext 1) [.r 4] none <|
 .out [(0, .s 0), (1, .s 1), (2, .s 2), (3, .s 3), (4, .s 4), (10, .s 10), (11, .s 11), (12, .s 12), (13, .r 6), (14, .r 7)]
def e315r11 : EE := .q 1 .eql [.s 14, .c (.int .i64 2)] none <|
 .out [(0, .s 0), (1, .s 1), (2, .s 2), (3, .s 3), (4, .s 4), (10, .s 10), (11, .s 11), (12, .s 12), (13, .s 13), (14, .s 14), (56, .r 1)]
def e315r12 : EE := .x 4 (.call 355) [.s 0, .s 1, .s 2, .s 4] none [] <|
 .out [(0, .s 0), (1, .s 1), (2, .s 2), (3, .s 3), (4, .s 4), (10, .s 10), (11, .s 11), (12, .s 12), (13, .s 13)]
def e315r13 : EE := .q 1 .sub [.s 2, .c (.int .i64 1)] none <|
 .q 4 .sub [.s 13, .s 1] none <|
 .q 5 .sub [.r 1, .r 4] none <|
 .out [(0, .s 0), (1, .s 1), (2, .s 2), (3, .s 3), (4, .s 4), (10, .s 10), (11, .s 11), (12, .s 12), (13, .r 5)]
def e315r14 : EE := .out [(0, .s 0), (1, .s 1), (2, .s 2), (3, .s 3), (4, .s 4), (10, .s 10), (11, .s 11), (12, .s 12), (13, .s 13), (14, .c (.int .i64 1))]
def e315r15 : EE := .q 2 .mv [.s 11] (some (.s 10, true)) <|
 .q 3 .pick [.s 10, .r 2, .c (.bool false)] none <|
 .q 5 .mv [.s 14] (some (.r 3, true)) <|
 .q 6 .eql [.r 5, .c (.int .i64 1)] (some (.r 3, true)) <|
 .q 7 .pick [.r 3, .r 6, .c (.bool false)] none <|
 .out [(0, .s 0), (1, .s 1), (2, .s 2), (3, .s 3), (4, .s 4), (10, .s 10), (11, .s 11), (12, .s 12), (13, .s 13), (75, .r 7)]
def e315r16 : EE := .x 4 (.call 356) [.s 0, .s 1, .s 2, .s 4] none [] <|
 .out [(0, .s 0), (1, .s 1), (2, .s 2), (3, .s 3), (4, .s 4), (10, .s 10), (11, .s 11), (12, .s 12), (13, .s 13), (80, .r 4)]
def e315r17 : EE := .q 1 .gtr [.s 1, .c z] none <|
 .q 3 .mv [.s 4] (some (.r 1, true)) <|
 .q 4 .mv [.s 0] (some (.r 1, true)) <|
 .q 5 .mv [.s 1] (some (.r 1, true)) <|
 .q 6 .sub [.r 5, .c (.int .i64 1)] (some (.r 1, true)) <|
 .q 7 (.ixs 2) [.r 4, .r 6] (some (.r 1, true)) <|
 .q 8 (.lda 2) [.r 7] (some (.r 1, true)) <|
 .q 9 .mv [.s 0] (some (.r 1, true)) <|
 .q 10 .mv [.s 13] (some (.r 1, true)) <|
 .q 11 (.ixs 2) [.r 9, .r 10] (some (.r 1, true)) <|
 .q 12 (.lda 2) [.r 11] (some (.r 1, true)) <|
 .x 13 .callv [.r 3, .r 8, .r 12] (some (.r 1, true)) [] <|
 .q 14 .lss [.r 13, .c z] (some (.r 1, true)) <|
 .q 15 .not [.r 14] (some (.r 1, true)) <|
 .q 16 .pick [.r 1, .r 15, .c (.bool false)] none <|
 .out [(0, .s 0), (1, .s 1), (2, .s 2), (3, .s 3), (4, .s 4), (10, .s 10), (11, .s 11), (12, .s 12), (13, .s 13), (97, .r 16)]
def e315r18 : EE := .x 5 (.call 357) [.s 0, .s 1, .s 2, .s 13, .s 4] none [] <|
 .out [(0, .s 0), (2, .s 2), (3, .s 3), (4, .s 4), (10, .s 10), (11, .s 11), (15, .r 5)]
def e315r19 : EE := .out [(0, .s 0), (1, .s 15), (2, .s 2), (3, .s 3), (4, .s 4), (10, .s 10), (11, .s 11)]
def e315r20 : EE := .x 5 (.call 358) [.s 0, .s 1, .s 2, .s 13, .s 4] none [] <|
 .q 7 (.ext 0) [.r 5] none <|
 .q 8 (.ext 1) [.r 5] none <|
 .out [(0, .s 0), (1, .s 1), (2, .s 2), (3, .s 3), (4, .s 4), (12, .s 12), (16, .r 7), (17, .r 8)]
def e315r21 : EE := .out [(0, .s 0), (1, .s 1), (2, .s 2), (3, .s 3), (4, .s 4), (11, .s 17), (12, .s 12), (16, .s 16)]
def e315r22 : EE := .q 2 .sub [.s 16, .s 1] none <|
 .q 5 .sub [.s 2, .s 16] none <|
 .out [(0, .s 0), (1, .s 1), (2, .s 2), (3, .s 3), (4, .s 4), (11, .s 11), (12, .s 12), (16, .s 16), (18, .r 2), (19, .r 5)]
def e315r23 : EE := .q 1 .quo [.s 12, .c (.int .i64 8)] none <|
 .out [(0, .s 0), (1, .s 1), (2, .s 2), (3, .s 3), (4, .s 4), (11, .s 11), (16, .s 16), (18, .s 18), (19, .s 19), (20, .r 1)]
def e315r24 : EE := .q 2 .lss [.s 18, .s 19] none <|
 .out [(0, .s 0), (1, .s 1), (2, .s 2), (3, .s 3), (4, .s 4), (11, .s 11), (16, .s 16), (18, .s 18), (19, .s 19), (20, .s 20), (125, .r 2)]
def e315r25 : EE := .q 2 .geq [.s 18, .s 20] none <|
 .out [(0, .s 0), (1, .s 1), (2, .s 2), (3, .s 3), (4, .s 4), (10, .r 2), (11, .s 11), (16, .s 16)]
def e315r26 : EE := .x 5 (.call 315) [.s 0, .s 1, .s 16, .s 3, .s 4] none [] <|
 .out [(0, .s 0), (2, .s 2), (3, .s 3), (4, .s 4), (10, .s 10), (11, .s 11), (16, .s 16)]
def e315r27 : EE := .q 1 .add [.s 16, .c (.int .i64 1)] none <|
 .out [(0, .s 0), (1, .r 1), (2, .s 2), (3, .s 3), (4, .s 4), (10, .s 10), (11, .s 11)]
def e315r28 : EE := .q 2 .geq [.s 19, .s 20] none <|
 .out [(0, .s 0), (1, .s 1), (2, .s 2), (3, .s 3), (4, .s 4), (10, .r 2), (11, .s 11), (16, .s 16)]
def e315r29 : EE := .q 2 .add [.s 16, .c (.int .i64 1)] none <|
 .x 6 (.call 315) [.s 0, .r 2, .s 2, .s 3, .s 4] none [] <|
 .out [(0, .s 0), (1, .s 1), (3, .s 3), (4, .s 4), (10, .s 10), (11, .s 11), (16, .s 16)]
def e315r30 : EE := .out [(0, .s 0), (1, .s 1), (2, .s 16), (3, .s 3), (4, .s 4), (10, .s 10), (11, .s 11)]
def e315l31 : EC := (.block 1 (.seq (.reg e315r2 [0, 1, 2, 3, 4, 10, 11] 0) (.seq (.seq (.reg e315r3 [0, 1, 2, 3, 4, 10, 11, 12] 0) (.cond (.s 25) (.seq (.reg e315r4 [0, 1, 2, 4] 0) .ret) .skip)) (.seq (.seq (.reg e315r5 [0, 1, 2, 3, 4, 10, 11, 12] 0) (.cond (.s 32) (.seq (.reg e315r6 [0, 1, 2, 4] 0) .ret) .skip)) (.seq (.seq (.reg e315r7 [0, 1, 2, 3, 4, 10, 11, 12] 0) (.cond (.s 39) (.seq (.reg e315r8 [0, 1, 2, 3, 4, 10, 11, 12] 0) (.reg e315r9 [0, 1, 2, 3, 4, 10, 11, 12] 0)) .skip)) (.seq (.reg e315r10 [0, 1, 2, 3, 4, 10, 11, 12] 0) (.seq (.seq (.reg e315r11 [0, 1, 2, 3, 4, 10, 11, 12, 13, 14] 0) (.cond (.s 56) (.seq (.reg e315r12 [0, 1, 2, 3, 4, 10, 11, 12, 13] 0) (.seq (.reg e315r13 [0, 1, 2, 3, 4, 10, 11, 12, 13] 0) (.reg e315r14 [0, 1, 2, 3, 4, 10, 11, 12, 13] 0))) .skip)) (.seq (.seq (.reg e315r15 [0, 1, 2, 3, 4, 10, 11, 12, 13, 14] 0) (.cond (.s 75) (.seq (.reg e315r16 [0, 1, 2, 3, 4, 10, 11, 12, 13] 0) (.cond (.s 80) .ret .skip)) .skip)) (.seq (.seq (.reg e315r17 [0, 1, 2, 3, 4, 10, 11, 12, 13] 0) (.cond (.s 97) (.seq (.reg e315r18 [0, 1, 2, 3, 4, 10, 11, 13] 0) (.seq (.reg e315r19 [0, 2, 3, 4, 10, 11, 15] 0) (.exit 1))) .skip)) (.seq (.reg e315r20 [0, 1, 2, 3, 4, 12, 13] 0) (.seq (.reg e315r21 [0, 1, 2, 3, 4, 12, 16, 17] 0) (.seq (.reg e315r22 [0, 1, 2, 3, 4, 11, 12, 16] 0) (.seq (.reg e315r23 [0, 1, 2, 3, 4, 11, 12, 16, 18, 19] 0) (.seq (.reg e315r24 [0, 1, 2, 3, 4, 11, 16, 18, 19, 20] 0) (.cond (.s 125) (.seq (.reg e315r25 [0, 1, 2, 3, 4, 11, 16, 18, 20] 0) (.seq (.reg e315r26 [0, 1, 2, 3, 4, 10, 11, 16] 0) (.reg e315r27 [0, 2, 3, 4, 10, 11, 16] 0))) (.seq (.reg e315r28 [0, 1, 2, 3, 4, 11, 16, 19, 20] 0) (.seq (.reg e315r29 [0, 1, 2, 3, 4, 10, 11, 16] 0) (.reg e315r30 [0, 1, 3, 4, 10, 11, 16] 0))))))))))))))))))
def e315 : EFn := ⟨(.seq (.reg e315r0 [0, 1, 2, 3, 4] 0) (.seq (.reg e315r1 [0, 1, 2, 3, 4, 10] 0) (.block 0 (.loop [0, 1, 2, 3, 4, 10, 11] e315l31)))), [], 148, 0⟩
theorem g315 : Good Tryz.prog 315 e315 := ⟨Tryz.f315, Tryz.func315, by kernel_rfl, by kernel_rfl, by kernel_rfl, by kernel_rfl⟩
/-! math/bits.Len -/
def e316r0 : EE := .out [(0, .s 0)]
def e316r1 : EE := .q 1 (.conv .u32) [.s 0] none <|
 .x 2 (.call 359) [.r 1] none [] <|
 .out [(2, .r 2)]
def e316r2 : EE := .x 1 (.call 328) [.s 0] none [] <|
 .out [(2, .r 1)]
def e316 : EFn := ⟨(.seq (.reg e316r0 [0] 0) (.seq (.cond (.c (.bool false)) (.seq (.reg e316r1 [0] 0) .ret) .skip) (.seq (.reg e316r2 [0] 0) .ret))), [.slot 2], 8, 0⟩
theorem g316 : Good Tryz.prog 316 e316 := ⟨Tryz.f316, Tryz.func316, by kernel_rfl, by kernel_rfl, by kernel_rfl, by kernel_rfl⟩
/-! concord/quorum.Fast -/
def e321r0 : EE := .out [(0, .s 0)]
def e321r1 : EE := .q 1 .sub [.s 0, .c (.int .i64 1)] none <|
 .out [(2, .r 1)]
def e321 : EFn := ⟨(.seq (.reg e321r0 [0] 0) (.seq (.reg e321r1 [0] 0) .ret)), [.slot 2], 5, 0⟩
theorem g321 : Good Tryz.prog 321 e321 := ⟨Tryz.f321, Tryz.func321, by kernel_rfl, by kernel_rfl, by kernel_rfl, by kernel_rfl⟩
/-! concord/kv.find -/
def e323r0 : EE := .out [(0, .s 0), (1, .s 1)]
def e323r1 : EE := .q 1 .len [.s 0] none <|
 .out [(0, .s 0), (1, .s 1), (8, .s 0), (9, .r 1), (10, .c z)]
def e323r2 : EE := .q 0 .lss [.s 10, .s 9] none <|
 .out [(0, .s 0), (1, .s 1), (8, .s 8), (9, .s 9), (10, .s 10), (11, .r 0)]
def e323r3 : EE := .q 1 (.ixs 3) [.s 8, .s 10] none <|
 .q 2 (.lda 3) [.r 1] none <|
 .x 3 (.alc [zs, zs, z] 124) [] none [] <|
 .x 5 (.st 3) [.r 3, .r 2] none [] <|
 .out [(0, .s 0), (1, .s 1), (6, .s 10), (7, .r 3), (8, .s 8), (9, .s 9), (10, .s 10)]
def e323r4 : EE := .q 0 (.fld 0) [.s 7] none <|
 .q 1 .ld [.r 0] none <|
 .q 3 .sgeq [.r 1, .s 1] none <|
 .out [(0, .s 0), (1, .s 1), (6, .s 6), (7, .s 7), (8, .s 8), (9, .s 9), (10, .s 10), (18, .r 3)]
def e323r5 : EE := .q 1 (.fld 0) [.s 7] none <|
 .q 2 .ld [.r 1] none <|
 .q 4 .seql [.r 2, .s 1] none <|
 .out [(4, .s 6), (5, .r 4)]
def e323r6 : EE := .q 0 .add [.s 10, .c (.int .i64 1)] none <|
 .out [(0, .s 0), (1, .s 1), (8, .s 8), (9, .s 9), (10, .r 0)]
def e323l7 : EC := (.seq (.reg e323r2 [0, 1, 8, 9, 10] 0) (.seq (.cond (.s 11) .skip (.exit 0)) (.seq (.block 1 (.seq (.reg e323r3 [0, 1, 8, 9, 10] 0) (.seq (.reg e323r4 [0, 1, 6, 7, 8, 9, 10] 0) (.cond (.s 18) (.seq (.reg e323r5 [1, 6, 7] 0) .ret) .skip)))) (.reg e323r6 [0, 1, 8, 9, 10] 0))))
def e323r8 : EE := .q 1 .len [.s 0] none <|
 .out [(4, .r 1), (5, .c (.bool false))]
def e323 : EFn := ⟨(.seq (.reg e323r0 [0, 1] 0) (.seq (.seq (.reg e323r1 [0, 1] 0) (.block 0 (.loop [0, 1, 8, 9, 10] e323l7))) (.seq (.reg e323r8 [0] 0) .ret))), [.slot 4, .slot 5], 27, 0⟩
theorem g323 : Good Tryz.prog 323 e323 := ⟨Tryz.f323, Tryz.func323, by kernel_rfl, by kernel_rfl, by kernel_rfl, by kernel_rfl⟩
/-! slices.Insert[[]concord/api.Pair,concord/api.Pair] -/
def e324r0 : EE := .out [(0, .s 0), (1, .s 1), (2, .s 2)]
def e324r1 : EE := .q 2 (.slc 3 true false) [.s 0, .s 1] none <|
 .out [(0, .s 0), (1, .s 1), (2, .s 2)]
def e324r2 : EE := .q 1 .len [.s 2] none <|
 .out [(0, .s 0), (1, .s 1), (2, .s 2), (7, .r 1)]
def e324r3 : EE := .q 1 .eql [.s 7, .c z] none <|
 .out [(0, .s 0), (1, .s 1), (2, .s 2), (7, .s 7), (16, .r 1)]
def e324r4 : EE := .out [(6, .s 0)]
def e324r5 : EE := .q 1 .len [.s 0] none <|
 .out [(0, .s 0), (1, .s 1), (2, .s 2), (7, .s 7), (8, .r 1)]
def e324r6 : EE := .q 2 .eql [.s 1, .s 8] none <|
 .out [(0, .s 0), (1, .s 1), (2, .s 2), (7, .s 7), (8, .s 8), (22, .r 2)]
def e324r7 : EE := .x 2 (.app 124 3 40 [zs, zs, z]) [.s 0, .s 2] none [] <|
 .out [(6, .r 2)]
def e324r8 : EE := .q 2 .add [.s 8, .s 7] none <|
 .q 4 .cap [.s 0] none <|
 .q 5 .gtr [.r 2, .r 4] none <|
 .out [(0, .s 0), (1, .s 1), (2, .s 2), (7, .s 7), (8, .s 8), (31, .r 5)]
def e324r9 : EE := .q 2 (.slc 3 false true) [.s 0, .s 1] none <|
 .q 5 .add [.s 8, .s 7] none <|
 .q 7 .sub [.r 5, .s 1] none <|
 .x 8 (.appn 124 3 40 [zs, zs, z]) [.r 2, .r 7] none [] <|
 .out [(0, .s 0), (1, .s 1), (2, .s 2), (7, .s 7), (9, .r 8)]
def e324r10 : EE := .q 2 (.slc 3 true false) [.s 9, .s 1] none <|
 .x 4 (.cpy 3) [.r 2, .s 2] none [] <|
 .out [(0, .s 0), (1, .s 1), (7, .s 7), (9, .s 9)]
def e324r11 : EE := .q 3 .add [.s 1, .s 7] none <|
 .q 4 (.slc 3 true false) [.s 9, .r 3] none <|
 .q 7 (.slc 3 true false) [.s 0, .s 1] none <|
 .x 8 (.cpy 3) [.r 4, .r 7] none [] <|
 .out [(9, .s 9)]
def e324r12 : EE := .out [(6, .s 9)]
def e324r13 : EE := .q 3 .add [.s 8, .s 7] none <|
 .q 4 (.slc 3 false true) [.s 0, .r 3] none <|
 .out [(0, .r 4), (1, .s 1), (2, .s 2), (7, .s 7), (8, .s 8)]
def e324r14 : EE := .q 4 .add [.s 1, .s 7] none <|
 .q 5 (.slc 3 true false) [.s 0, .r 4] none <|
 .x 6 .bad [] none [] <|
 .q 7 .not [.r 6] none <|
 .out [(0, .s 0), (1, .s 1), (2, .s 2), (7, .s 7), (8, .s 8), (68, .r 7)]
def e324r15 : EE := .q 3 .add [.s 1, .s 7] none <|
 .q 4 (.slc 3 true false) [.s 0, .r 3] none <|
 .q 7 (.slc 3 true false) [.s 0, .s 1] none <|
 .x 8 (.cpy 3) [.r 4, .r 7] none [] <|
 .out [(0, .s 0), (1, .s 1), (2, .s 2)]
def e324r16 : EE := .q 2 (.slc 3 true false) [.s 0, .s 1] none <|
 .x 4 (.cpy 3) [.r 2, .s 2] none [] <|
 .out [(0, .s 0)]
def e324r17 : EE := .out [(6, .s 0)]
def e324r18 : EE := .q 2 (.slc 3 true false) [.s 0, .s 8] none <|
 .x 4 (.cpy 3) [.r 2, .s 2] none [] <|
 .out [(0, .s 0), (1, .s 1), (7, .s 7)]
def e324r19 : EE := .q 2 (.slc 3 true false) [.s 0, .s 1] none <|
 .x 4 (.call 363) [.r 2, .s 7] none [] <|
 .out [(0, .s 0)]
def e324r20 : EE := .out [(6, .s 0)]
def e324 : EFn := ⟨(.seq (.reg e324r0 [0, 1, 2] 0) (.seq (.reg e324r1 [0, 1, 2] 0) (.seq (.reg e324r2 [0, 1, 2] 0) (.seq (.seq (.reg e324r3 [0, 1, 2, 7] 0) (.cond (.s 16) (.seq (.reg e324r4 [0] 0) .ret) .skip)) (.seq (.reg e324r5 [0, 1, 2, 7] 0) (.seq (.seq (.reg e324r6 [0, 1, 2, 7, 8] 0) (.cond (.s 22) (.seq (.reg e324r7 [0, 2] 0) .ret) .skip)) (.seq (.seq (.reg e324r8 [0, 1, 2, 7, 8] 0) (.cond (.s 31) (.seq (.reg e324r9 [0, 1, 2, 7, 8] 0) (.seq (.reg e324r10 [0, 1, 2, 7, 9] 0) (.seq (.reg e324r11 [0, 1, 7, 9] 0) (.seq (.reg e324r12 [9] 0) .ret)))) .skip)) (.seq (.reg e324r13 [0, 1, 2, 7, 8] 0) (.seq (.seq (.reg e324r14 [0, 1, 2, 7, 8] 0) (.cond (.s 68) (.seq (.reg e324r15 [0, 1, 2, 7] 0) (.seq (.reg e324r16 [0, 1, 2] 0) (.seq (.reg e324r17 [0] 0) .ret))) .skip)) (.seq (.reg e324r18 [0, 1, 2, 7, 8] 0) (.seq (.reg e324r19 [0, 1, 7] 0) (.seq (.reg e324r20 [0] 0) .ret)))))))))))), [.slot 6], 95, 0⟩
theorem g324 : Good Tryz.prog 324 e324 := ⟨Tryz.f324, Tryz.func324, by kernel_rfl, by kernel_rfl, by kernel_rfl, by kernel_rfl⟩
/-! math/bits.Len64 -/
def e328r0 : EE := .out [(0, .s 0), (2, .c z)]
def e328r1 : EE := .q 1 .geq [.s 0, .c (.int .u64 4294967296)] none <|
 .out [(0, .s 0), (2, .s 2), (4, .r 1)]
def e328r2 : EE := .q 1 .shr [.s 0, .c (.int .u64 32)] none <|
 .out [(0, .r 1)]
def e328r3 : EE := .out [(0, .s 0), (2, .c (.int .i64 32))]
def e328r4 : EE := .q 1 .geq [.s 0, .c (.int .u64 65536)] none <|
 .out [(0, .s 0), (2, .s 2), (8, .r 1)]
def e328r5 : EE := .q 1 .shr [.s 0, .c (.int .u64 16)] none <|
 .out [(0, .r 1), (2, .s 2)]
def e328r6 : EE := .q 1 .add [.s 2, .c (.int .i64 16)] none <|
 .out [(0, .s 0), (2, .r 1)]
def e328r7 : EE := .q 1 .geq [.s 0, .c (.int .u64 256)] none <|
 .out [(0, .s 0), (2, .s 2), (14, .r 1)]
def e328r8 : EE := .q 1 .shr [.s 0, .c (.int .u64 8)] none <|
 .out [(0, .r 1), (2, .s 2)]
def e328r9 : EE := .q 1 .add [.s 2, .c (.int .i64 8)] none <|
 .out [(0, .s 0), (2, .r 1)]
def e328r10 : EE := .q 2 (.conv .u8) [.s 0] none <|
 .q 3 .idxs [.c (.str [0, 1, 2, 2, 3, 3, 3, 3, 4, 4, 4, 4, 4, 4, 4, 4, 5, 5, 5, 5, 5, 5, 5, 5, 5, 5, 5, 5, 5, 5, 5, 5, 6, 6, 6, 6, 6, 6, 6, 6, 6, 6, 6, 6, 6, 6, 6, 6, 6, 6, 6, 6, 6, 6, 6, 6, 6, 6, 6, 6, 6, 6, 6, 6, 7, 7, 7, 7, 7, 7, 7, 7, 7, 7, 7, 7, 7, 7, 7, 7, 7, 7, 7, 7, 7, 7, 7, 7, 7, 7, 7, 7, 7, 7, 7, 7, 7, 7, 7, 7, 7, 7, 7, 7, 7, 7, 7, 7, 7, 7, 7, 7, 7, 7, 7, 7, 7, 7, 7, 7, 7, 7, 7, 7, 7, 7, 7, 7, 8, 8, 8, 8, 8, 8, 8, 8, 8, 8, 8, 8, 8, 8, 8, 8, 8, 8, 8, 8, 8, 8, 8, 8, 8, 8, 8, 8, 8, 8, 8, 8, 8, 8, 8, 8, 8, 8, 8, 8, 8, 8, 8, 8, 8, 8, 8, 8, 8, 8, 8, 8, 8, 8, 8, 8, 8, 8, 8, 8, 8, 8, 8, 8, 8, 8, 8, 8, 8, 8, 8, 8, 8, 8, 8, 8, 8, 8, 8, 8, 8, 8, 8, 8, 8, 8, 8, 8, 8, 8, 8, 8, 8, 8, 8, 8, 8, 8, 8, 8, 8, 8, 8, 8, 8, 8, 8, 8, 8, 8, 8, 8, 8, 8, 8, 8, 8, 8, 8, 8, 8, 8, 8, 8, 8, 8, 8, 8]), .r 2] none <|
 .q 4 (.conv .i64) [.r 3] none <|
 .q 5 .add [.s 2, .r 4] none <|
 .out [(2, .r 5)]
def e328 : EFn := ⟨(.seq (.reg e328r0 [0] 0) (.seq (.seq (.reg e328r1 [0, 2] 0) (.cond (.s 4) (.seq (.reg e328r2 [0] 0) (.reg e328r3 [0] 0)) .skip)) (.seq (.seq (.reg e328r4 [0, 2] 0) (.cond (.s 8) (.seq (.reg e328r5 [0, 2] 0) (.reg e328r6 [0, 2] 0)) .skip)) (.seq (.seq (.reg e328r7 [0, 2] 0) (.cond (.s 14) (.seq (.reg e328r8 [0, 2] 0) (.reg e328r9 [0, 2] 0)) .skip)) (.seq (.reg e328r10 [0, 2] 0) .ret))))), [.slot 2], 25, 0⟩
theorem g328 : Good Tryz.prog 328 e328 := ⟨Tryz.f328, Tryz.func328, by kernel_rfl, by kernel_rfl, by kernel_rfl, by kernel_rfl⟩
/-! concord/exec.upto -/
def e344r0 : EE := .x 0 (.box 40) [.s 0] none [] <|
 .x 1 (.box 48) [.s 1] none [] <|
 .out [(2, .s 2), (3, .r 0), (4, .r 1)]
def e344r1 : EE := .q 1 (.fld 0) [.s 3] none <|
 .q 2 .ld [.r 1] none <|
 .q 3 .eql [.s 2, .r 2] none <|
 .out [(2, .s 2), (3, .s 3), (4, .s 4), (10, .r 3)]
def e344r2 : EE := .q 1 (.fld 12) [.s 4] none <|
 .q 2 (.fld 1) [.r 1] none <|
 .q 3 (.ixa 7 1) [.r 2, .s 2] none <|
 .q 4 .ld [.r 3] none <|
 .q 5 (.fld 1) [.s 3] none <|
 .q 6 .ld [.r 5] none <|
 .q 7 .sub [.r 6, .c (.int .i64 1)] none <|
 .q 8 .mx [.r 4, .r 7] none <|
 .out [(6, .r 8)]
def e344r3 : EE := .q 1 (.fld 12) [.s 4] none <|
 .q 2 (.fld 1) [.r 1] none <|
 .q 3 (.ixa 7 1) [.r 2, .s 2] none <|
 .q 4 .ld [.r 3] none <|
 .out [(6, .r 4)]
def e344 : EFn := ⟨(.seq (.reg e344r0 [0, 1, 2] 0) (.seq (.seq (.reg e344r1 [2, 3, 4] 0) (.cond (.s 10) (.seq (.reg e344r2 [2, 3, 4] 0) .ret) .skip)) (.seq (.reg e344r3 [2, 4] 0) .ret))), [.slot 6], 25, 0⟩
theorem g344 : Good Tryz.prog 344 e344 := ⟨Tryz.f344, Tryz.func344, by kernel_rfl, by kernel_rfl, by kernel_rfl, by kernel_rfl⟩
/-! concord/graph.Parts -/
def e346r0 : EE := .out [(0, .s 0)]
def e346r1 : EE := .q 1 .len [.s 0] none <|
 .out [(0, .s 0), (4, .r 1)]
def e346r2 : EE := .q 1 .gtr [.s 4, .c (.int .i64 512)] none <|
 .out [(0, .s 0), (4, .s 4), (13, .r 1)]
def e346r3 : EE := .out [(2, .c .nsl), (3, .c (.int .i64 2))]
def e346r4 : EE := .both false
 (.x 2 (.mks 3 8 [z]) [.s 4, .s 4] none [] <|
 .both false
 (.x 4 (.mks 3 8 [z]) [.s 4, .s 4] none [] <|
 .both false
 (.x 6 (.mks 4 1 [(.bool false)]) [.s 4, .s 4] none [] <|
 .x 8 (.mks 3 8 [z]) [.s 4, .s 4] none [] <|
 .q 9 (.bld [.nsl, .nsl, .nsl, .nsl, .nsl, .nsl, z, z] [(0, 1), (1, 1), (2, 1), (3, 1), (5, 1)]) [.s 0, .r 2, .r 4, .r 6, .r 8] none <|
 .x 10 (.box 474) [.r 9] none [] <|
 .out [(0, .s 0), (4, .s 4), (5, .r 10)])
 (.x 8 (.mks 3 8 [z]) [.s 4, .s 4] none [] <|
 .x 6 (.mks 4 1 [(.bool false)]) [.s 4, .s 4] none [] <|
 .q 9 (.bld [.nsl, .nsl, .nsl, .nsl, .nsl, .nsl, z, z] [(0, 1), (1, 1), (2, 1), (3, 1), (5, 1)]) [.s 0, .r 2, .r 4, .r 6, .r 8] none <|
 .x 10 (.box 474) [.r 9] none [] <|
 .out [(0, .s 0), (4, .s 4), (5, .r 10)]))
 (.both false
 (.x 6 (.mks 4 1 [(.bool false)]) [.s 4, .s 4] none [] <|
 .both false
 (.x 4 (.mks 3 8 [z]) [.s 4, .s 4] none [] <|
 .x 8 (.mks 3 8 [z]) [.s 4, .s 4] none [] <|
 .q 9 (.bld [.nsl, .nsl, .nsl, .nsl, .nsl, .nsl, z, z] [(0, 1), (1, 1), (2, 1), (3, 1), (5, 1)]) [.s 0, .r 2, .r 4, .r 6, .r 8] none <|
 .x 10 (.box 474) [.r 9] none [] <|
 .out [(0, .s 0), (4, .s 4), (5, .r 10)])
 (.x 8 (.mks 3 8 [z]) [.s 4, .s 4] none [] <|
 .x 4 (.mks 3 8 [z]) [.s 4, .s 4] none [] <|
 .q 9 (.bld [.nsl, .nsl, .nsl, .nsl, .nsl, .nsl, z, z] [(0, 1), (1, 1), (2, 1), (3, 1), (5, 1)]) [.s 0, .r 2, .r 4, .r 6, .r 8] none <|
 .x 10 (.box 474) [.r 9] none [] <|
 .out [(0, .s 0), (4, .s 4), (5, .r 10)]))
 (.x 8 (.mks 3 8 [z]) [.s 4, .s 4] none [] <|
 .both false
 (.x 4 (.mks 3 8 [z]) [.s 4, .s 4] none [] <|
 .x 6 (.mks 4 1 [(.bool false)]) [.s 4, .s 4] none [] <|
 .q 9 (.bld [.nsl, .nsl, .nsl, .nsl, .nsl, .nsl, z, z] [(0, 1), (1, 1), (2, 1), (3, 1), (5, 1)]) [.s 0, .r 2, .r 4, .r 6, .r 8] none <|
 .x 10 (.box 474) [.r 9] none [] <|
 .out [(0, .s 0), (4, .s 4), (5, .r 10)])
 (.x 6 (.mks 4 1 [(.bool false)]) [.s 4, .s 4] none [] <|
 .x 4 (.mks 3 8 [z]) [.s 4, .s 4] none [] <|
 .q 9 (.bld [.nsl, .nsl, .nsl, .nsl, .nsl, .nsl, z, z] [(0, 1), (1, 1), (2, 1), (3, 1), (5, 1)]) [.s 0, .r 2, .r 4, .r 6, .r 8] none <|
 .x 10 (.box 474) [.r 9] none [] <|
 .out [(0, .s 0), (4, .s 4), (5, .r 10)]))))
 (.both false
 (.x 4 (.mks 3 8 [z]) [.s 4, .s 4] none [] <|
 .both false
 (.x 2 (.mks 3 8 [z]) [.s 4, .s 4] none [] <|
 .both false
 (.x 6 (.mks 4 1 [(.bool false)]) [.s 4, .s 4] none [] <|
 .x 8 (.mks 3 8 [z]) [.s 4, .s 4] none [] <|
 .q 9 (.bld [.nsl, .nsl, .nsl, .nsl, .nsl, .nsl, z, z] [(0, 1), (1, 1), (2, 1), (3, 1), (5, 1)]) [.s 0, .r 2, .r 4, .r 6, .r 8] none <|
 .x 10 (.box 474) [.r 9] none [] <|
 .out [(0, .s 0), (4, .s 4), (5, .r 10)])
 (.x 8 (.mks 3 8 [z]) [.s 4, .s 4] none [] <|
 .x 6 (.mks 4 1 [(.bool false)]) [.s 4, .s 4] none [] <|
 .q 9 (.bld [.nsl, .nsl, .nsl, .nsl, .nsl, .nsl, z, z] [(0, 1), (1, 1), (2, 1), (3, 1), (5, 1)]) [.s 0, .r 2, .r 4, .r 6, .r 8] none <|
 .x 10 (.box 474) [.r 9] none [] <|
 .out [(0, .s 0), (4, .s 4), (5, .r 10)]))
 (.both false
 (.x 6 (.mks 4 1 [(.bool false)]) [.s 4, .s 4] none [] <|
 .both false
 (.x 2 (.mks 3 8 [z]) [.s 4, .s 4] none [] <|
 .x 8 (.mks 3 8 [z]) [.s 4, .s 4] none [] <|
 .q 9 (.bld [.nsl, .nsl, .nsl, .nsl, .nsl, .nsl, z, z] [(0, 1), (1, 1), (2, 1), (3, 1), (5, 1)]) [.s 0, .r 2, .r 4, .r 6, .r 8] none <|
 .x 10 (.box 474) [.r 9] none [] <|
 .out [(0, .s 0), (4, .s 4), (5, .r 10)])
 (.x 8 (.mks 3 8 [z]) [.s 4, .s 4] none [] <|
 .x 2 (.mks 3 8 [z]) [.s 4, .s 4] none [] <|
 .q 9 (.bld [.nsl, .nsl, .nsl, .nsl, .nsl, .nsl, z, z] [(0, 1), (1, 1), (2, 1), (3, 1), (5, 1)]) [.s 0, .r 2, .r 4, .r 6, .r 8] none <|
 .x 10 (.box 474) [.r 9] none [] <|
 .out [(0, .s 0), (4, .s 4), (5, .r 10)]))
 (.x 8 (.mks 3 8 [z]) [.s 4, .s 4] none [] <|
 .both false
 (.x 2 (.mks 3 8 [z]) [.s 4, .s 4] none [] <|
 .x 6 (.mks 4 1 [(.bool false)]) [.s 4, .s 4] none [] <|
 .q 9 (.bld [.nsl, .nsl, .nsl, .nsl, .nsl, .nsl, z, z] [(0, 1), (1, 1), (2, 1), (3, 1), (5, 1)]) [.s 0, .r 2, .r 4, .r 6, .r 8] none <|
 .x 10 (.box 474) [.r 9] none [] <|
 .out [(0, .s 0), (4, .s 4), (5, .r 10)])
 (.x 6 (.mks 4 1 [(.bool false)]) [.s 4, .s 4] none [] <|
 .x 2 (.mks 3 8 [z]) [.s 4, .s 4] none [] <|
 .q 9 (.bld [.nsl, .nsl, .nsl, .nsl, .nsl, .nsl, z, z] [(0, 1), (1, 1), (2, 1), (3, 1), (5, 1)]) [.s 0, .r 2, .r 4, .r 6, .r 8] none <|
 .x 10 (.box 474) [.r 9] none [] <|
 .out [(0, .s 0), (4, .s 4), (5, .r 10)]))))
 (.both false
 (.x 6 (.mks 4 1 [(.bool false)]) [.s 4, .s 4] none [] <|
 .both false
 (.x 2 (.mks 3 8 [z]) [.s 4, .s 4] none [] <|
 .both false
 (.x 4 (.mks 3 8 [z]) [.s 4, .s 4] none [] <|
 .x 8 (.mks 3 8 [z]) [.s 4, .s 4] none [] <|
 .q 9 (.bld [.nsl, .nsl, .nsl, .nsl, .nsl, .nsl, z, z] [(0, 1), (1, 1), (2, 1), (3, 1), (5, 1)]) [.s 0, .r 2, .r 4, .r 6, .r 8] none <|
 .x 10 (.box 474) [.r 9] none [] <|
 .out [(0, .s 0), (4, .s 4), (5, .r 10)])
 (.x 8 (.mks 3 8 [z]) [.s 4, .s 4] none [] <|
 .x 4 (.mks 3 8 [z]) [.s 4, .s 4] none [] <|
 .q 9 (.bld [.nsl, .nsl, .nsl, .nsl, .nsl, .nsl, z, z] [(0, 1), (1, 1), (2, 1), (3, 1), (5, 1)]) [.s 0, .r 2, .r 4, .r 6, .r 8] none <|
 .x 10 (.box 474) [.r 9] none [] <|
 .out [(0, .s 0), (4, .s 4), (5, .r 10)]))
 (.both false
 (.x 4 (.mks 3 8 [z]) [.s 4, .s 4] none [] <|
 .both false
 (.x 2 (.mks 3 8 [z]) [.s 4, .s 4] none [] <|
 .x 8 (.mks 3 8 [z]) [.s 4, .s 4] none [] <|
 .q 9 (.bld [.nsl, .nsl, .nsl, .nsl, .nsl, .nsl, z, z] [(0, 1), (1, 1), (2, 1), (3, 1), (5, 1)]) [.s 0, .r 2, .r 4, .r 6, .r 8] none <|
 .x 10 (.box 474) [.r 9] none [] <|
 .out [(0, .s 0), (4, .s 4), (5, .r 10)])
 (.x 8 (.mks 3 8 [z]) [.s 4, .s 4] none [] <|
 .x 2 (.mks 3 8 [z]) [.s 4, .s 4] none [] <|
 .q 9 (.bld [.nsl, .nsl, .nsl, .nsl, .nsl, .nsl, z, z] [(0, 1), (1, 1), (2, 1), (3, 1), (5, 1)]) [.s 0, .r 2, .r 4, .r 6, .r 8] none <|
 .x 10 (.box 474) [.r 9] none [] <|
 .out [(0, .s 0), (4, .s 4), (5, .r 10)]))
 (.x 8 (.mks 3 8 [z]) [.s 4, .s 4] none [] <|
 .both false
 (.x 2 (.mks 3 8 [z]) [.s 4, .s 4] none [] <|
 .x 4 (.mks 3 8 [z]) [.s 4, .s 4] none [] <|
 .q 9 (.bld [.nsl, .nsl, .nsl, .nsl, .nsl, .nsl, z, z] [(0, 1), (1, 1), (2, 1), (3, 1), (5, 1)]) [.s 0, .r 2, .r 4, .r 6, .r 8] none <|
 .x 10 (.box 474) [.r 9] none [] <|
 .out [(0, .s 0), (4, .s 4), (5, .r 10)])
 (.x 4 (.mks 3 8 [z]) [.s 4, .s 4] none [] <|
 .x 2 (.mks 3 8 [z]) [.s 4, .s 4] none [] <|
 .q 9 (.bld [.nsl, .nsl, .nsl, .nsl, .nsl, .nsl, z, z] [(0, 1), (1, 1), (2, 1), (3, 1), (5, 1)]) [.s 0, .r 2, .r 4, .r 6, .r 8] none <|
 .x 10 (.box 474) [.r 9] none [] <|
 .out [(0, .s 0), (4, .s 4), (5, .r 10)]))))
 (.x 8 (.mks 3 8 [z]) [.s 4, .s 4] none [] <|
 .both false
 (.x 2 (.mks 3 8 [z]) [.s 4, .s 4] none [] <|
 .both false
 (.x 4 (.mks 3 8 [z]) [.s 4, .s 4] none [] <|
 .x 6 (.mks 4 1 [(.bool false)]) [.s 4, .s 4] none [] <|
 .q 9 (.bld [.nsl, .nsl, .nsl, .nsl, .nsl, .nsl, z, z] [(0, 1), (1, 1), (2, 1), (3, 1), (5, 1)]) [.s 0, .r 2, .r 4, .r 6, .r 8] none <|
 .x 10 (.box 474) [.r 9] none [] <|
 .out [(0, .s 0), (4, .s 4), (5, .r 10)])
 (.x 6 (.mks 4 1 [(.bool false)]) [.s 4, .s 4] none [] <|
 .x 4 (.mks 3 8 [z]) [.s 4, .s 4] none [] <|
 .q 9 (.bld [.nsl, .nsl, .nsl, .nsl, .nsl, .nsl, z, z] [(0, 1), (1, 1), (2, 1), (3, 1), (5, 1)]) [.s 0, .r 2, .r 4, .r 6, .r 8] none <|
 .x 10 (.box 474) [.r 9] none [] <|
 .out [(0, .s 0), (4, .s 4), (5, .r 10)]))
 (.both false
 (.x 4 (.mks 3 8 [z]) [.s 4, .s 4] none [] <|
 .both false
 (.x 2 (.mks 3 8 [z]) [.s 4, .s 4] none [] <|
 .x 6 (.mks 4 1 [(.bool false)]) [.s 4, .s 4] none [] <|
 .q 9 (.bld [.nsl, .nsl, .nsl, .nsl, .nsl, .nsl, z, z] [(0, 1), (1, 1), (2, 1), (3, 1), (5, 1)]) [.s 0, .r 2, .r 4, .r 6, .r 8] none <|
 .x 10 (.box 474) [.r 9] none [] <|
 .out [(0, .s 0), (4, .s 4), (5, .r 10)])
 (.x 6 (.mks 4 1 [(.bool false)]) [.s 4, .s 4] none [] <|
 .x 2 (.mks 3 8 [z]) [.s 4, .s 4] none [] <|
 .q 9 (.bld [.nsl, .nsl, .nsl, .nsl, .nsl, .nsl, z, z] [(0, 1), (1, 1), (2, 1), (3, 1), (5, 1)]) [.s 0, .r 2, .r 4, .r 6, .r 8] none <|
 .x 10 (.box 474) [.r 9] none [] <|
 .out [(0, .s 0), (4, .s 4), (5, .r 10)]))
 (.x 6 (.mks 4 1 [(.bool false)]) [.s 4, .s 4] none [] <|
 .both false
 (.x 2 (.mks 3 8 [z]) [.s 4, .s 4] none [] <|
 .x 4 (.mks 3 8 [z]) [.s 4, .s 4] none [] <|
 .q 9 (.bld [.nsl, .nsl, .nsl, .nsl, .nsl, .nsl, z, z] [(0, 1), (1, 1), (2, 1), (3, 1), (5, 1)]) [.s 0, .r 2, .r 4, .r 6, .r 8] none <|
 .x 10 (.box 474) [.r 9] none [] <|
 .out [(0, .s 0), (4, .s 4), (5, .r 10)])
 (.x 4 (.mks 3 8 [z]) [.s 4, .s 4] none [] <|
 .x 2 (.mks 3 8 [z]) [.s 4, .s 4] none [] <|
 .q 9 (.bld [.nsl, .nsl, .nsl, .nsl, .nsl, .nsl, z, z] [(0, 1), (1, 1), (2, 1), (3, 1), (5, 1)]) [.s 0, .r 2, .r 4, .r 6, .r 8] none <|
 .x 10 (.box 474) [.r 9] none [] <|
 .out [(0, .s 0), (4, .s 4), (5, .r 10)]))))))
def e346r5 : EE := .out [(0, .s 0), (5, .s 5), (25, .s 4), (26, .c z)]
def e346r6 : EE := .q 0 .lss [.s 26, .s 25] none <|
 .out [(0, .s 0), (5, .s 5), (25, .s 25), (26, .s 26), (27, .r 0)]
def e346r7 : EE := .out [(0, .s 0), (5, .s 5), (6, .s 26), (25, .s 25), (26, .s 26)]
def e346r8 : EE := .q 1 .nl [.s 5] none <|
 .q 2 (.fld 1) [.r 1] none <|
 .q 3 .ld [.r 2] none <|
 .q 5 (.ixs 1) [.r 3, .s 6] none <|
 .q 6 .ld [.r 5] none <|
 .q 7 .eql [.r 6, .c z] none <|
 .out [(0, .s 0), (5, .s 5), (6, .s 6), (25, .s 25), (26, .s 26), (36, .r 7)]
def e346r9 : EE := .x 2 (.call 371) [.s 5, .s 6] none [] <|
 .out [(0, .s 0), (5, .s 5), (25, .s 25), (26, .s 26)]
def e346r10 : EE := .q 0 .add [.s 26, .c (.int .i64 1)] none <|
 .out [(0, .s 0), (5, .s 5), (25, .s 25), (26, .r 0)]
def e346l11 : EC := (.seq (.reg e346r6 [0, 5, 25, 26] 0) (.seq (.cond (.s 27) .skip (.exit 0)) (.seq (.block 1 (.seq (.reg e346r7 [0, 5, 25, 26] 0) (.seq (.reg e346r8 [0, 5, 6, 25, 26] 0) (.cond (.s 36) (.reg e346r9 [0, 5, 6, 25, 26] 0) .skip)))) (.reg e346r10 [0, 5, 25, 26] 0))))
def e346r12 : EE := .q 1 .nl [.s 5] none <|
 .q 2 (.fld 6) [.r 1] none <|
 .q 3 .ld [.r 2] none <|
 .x 4 (.mks 68 24 [.nsl]) [.r 3, .r 3] none [] <|
 .out [(0, .s 0), (5, .s 5), (7, .r 4)]
def e346r13 : EE := .q 1 .nl [.s 5] none <|
 .q 2 (.fld 5) [.r 1] none <|
 .q 3 .ld [.r 2] none <|
 .q 4 .len [.r 3] none <|
 .out [(0, .s 0), (5, .s 5), (7, .s 7), (49, .r 3), (50, .r 4), (51, .c z)]
def e346r14 : EE := .q 0 .lss [.s 51, .s 50] none <|
 .out [(0, .s 0), (5, .s 5), (7, .s 7), (49, .s 49), (50, .s 50), (51, .s 51), (52, .r 0)]
def e346r15 : EE := .q 1 (.ixs 1) [.s 49, .s 51] none <|
 .q 2 .ld [.r 1] none <|
 .out [(0, .s 0), (5, .s 5), (7, .s 7), (8, .s 51), (9, .r 2), (49, .s 49), (50, .s 50), (51, .s 51)]
def e346r16 : EE := .q 4 (.ixs 1) [.s 7, .s 9] none <|
 .q 5 .ld [.r 4] none <|
 .x 7 (.bsl 3 1 [z] [(0, 1)]) [.s 8] none [] <|
 .x 8 (.app 3 1 8 [z]) [.r 5, .r 7] none [] <|
 .q 9 (.ixs 1) [.s 7, .s 9] none <|
 .x 10 (.st 1) [.r 9, .r 8] none [] <|
 .out [(0, .s 0), (5, .s 5), (7, .s 7), (49, .s 49), (50, .s 50), (51, .s 51)]
def e346r17 : EE := .q 0 .add [.s 51, .c (.int .i64 1)] none <|
 .out [(0, .s 0), (5, .s 5), (7, .s 7), (49, .s 49), (50, .s 50), (51, .r 0)]
def e346l18 : EC := (.seq (.reg e346r14 [0, 5, 7, 49, 50, 51] 0) (.seq (.cond (.s 52) .skip (.exit 2)) (.seq (.block 3 (.seq (.reg e346r15 [0, 5, 7, 49, 50, 51] 0) (.reg e346r16 [0, 5, 7, 8, 9, 49, 50, 51] 0))) (.reg e346r17 [0, 5, 7, 49, 50, 51] 0))))
def e346r19 : EE := .q 2 .nl [.s 5] none <|
 .q 3 (.fld 5) [.r 2] none <|
 .q 4 .ld [.r 3] none <|
 .x 6 (.call 372) [.s 0, .r 4, .s 7] none [] <|
 .out [(2, .r 6), (3, .c z)]
def e346 : EFn := ⟨(.seq (.reg e346r0 [0] 0) (.seq (.reg e346r1 [0] 0) (.seq (.seq (.reg e346r2 [0, 4] 0) (.cond (.s 13) (.seq (.reg e346r3 [] 0) .ret) .skip)) (.seq (.reg e346r4 [0, 4] 11) (.seq (.seq (.reg e346r5 [0, 4, 5] 0) (.block 0 (.loop [0, 5, 25, 26] e346l11))) (.seq (.reg e346r12 [0, 5] 0) (.seq (.seq (.reg e346r13 [0, 5, 7] 0) (.block 2 (.loop [0, 5, 7, 49, 50, 51] e346l18))) (.seq (.reg e346r19 [0, 5, 7] 0) .ret)))))))), [.slot 2, .slot 3], 74, 0⟩
theorem g346 : Good Tryz.prog 346 e346 := ⟨Tryz.f346, Tryz.func346, by kernel_rfl, by kernel_rfl, by kernel_rfl, by kernel_rfl⟩
/-! (*concord/exec.plan).edges -/
def e347r0 : EE := .out [(0, .s 0), (1, .s 1)]
def e347r1 : EE := .q 1 .len [.s 1] none <|
 .x 2 (.mks 68 24 [.nsl]) [.r 1, .r 1] none [] <|
 .out [(0, .s 0), (1, .s 1), (5, .r 2)]
def e347r2 : EE := .q 1 .len [.s 1] none <|
 .out [(0, .s 0), (1, .s 1), (5, .s 5), (14, .s 1), (15, .r 1), (16, .c z)]
def e347r3 : EE := .q 0 .lss [.s 16, .s 15] none <|
 .out [(0, .s 0), (1, .s 1), (5, .s 5), (14, .s 14), (15, .s 15), (16, .s 16), (17, .r 0)]
def e347r4 : EE := .q 1 (.ixs 2) [.s 14, .s 16] none <|
 .q 2 (.lda 2) [.r 1] none <|
 .x 3 (.alc [z, z] 40) [] none [] <|
 .x 5 (.st 2) [.r 3, .r 2] none [] <|
 .out [(0, .s 0), (1, .s 1), (5, .s 5), (6, .s 16), (7, .r 3), (14, .s 14), (15, .s 15), (16, .s 16)]
def e347r5 : EE := .q 1 .nl [.s 0] none <|
 .q 2 (.fld 7) [.r 1] none <|
 .q 3 .ld [.r 2] none <|
 .q 4 (.lda 2) [.s 7] none <|
 .q 5 (.lkp true [(.i .i64), (.i .i64)] (.agg [z, z, z, z, z, z, z, z, zs, zs, zs, zs, z, z, z, z, z, z, z, z, (.bool false)]) false) [.r 3, .r 4] none <|
 .q 6 (.prta 12 8) [.r 5] none <|
 .q 7 (.prta 1 7) [.r 6] none <|
 .x 8 (.alc [z, z, z, z, z, z, z] 44) [] none [⟨3, .ld, [.r 2], none⟩, ⟨4, (.lda 2), [.s 7], none⟩, ⟨5, (.lkp true [(.i .i64), (.i .i64)] (.agg [z, z, z, z, z, z, z, z, zs, zs, zs, zs, z, z, z, z, z, z, z, z, (.bool false)]) false), [.r 3, .r 4], none⟩] <|
 .x 9 (.st 7) [.r 8, .r 7] none [] <|
 .out [(0, .s 0), (1, .s 1), (5, .s 5), (6, .s 6), (7, .s 7), (8, .r 8), (14, .s 14), (15, .s 15), (16, .s 16)]
def e347r6 : EE := .q 1 .len [.s 1] none <|
 .out [(0, .s 0), (1, .s 1), (5, .s 5), (6, .s 6), (7, .s 7), (8, .s 8), (14, .s 14), (15, .s 15), (16, .s 16), (29, .s 1), (30, .r 1), (31, .c z)]
def e347r7 : EE := .q 0 .lss [.s 31, .s 30] none <|
 .out [(0, .s 0), (1, .s 1), (5, .s 5), (6, .s 6), (7, .s 7), (8, .s 8), (14, .s 14), (15, .s 15), (16, .s 16), (29, .s 29), (30, .s 30), (31, .s 31), (32, .r 0)]
def e347r8 : EE := .q 1 (.ixs 2) [.s 29, .s 31] none <|
 .q 2 (.lda 2) [.r 1] none <|
 .x 3 (.alc [z, z] 40) [] none [] <|
 .x 5 (.st 2) [.r 3, .r 2] none [] <|
 .out [(0, .s 0), (1, .s 1), (5, .s 5), (6, .s 6), (7, .s 7), (8, .s 8), (9, .s 31), (10, .r 3), (14, .s 14), (15, .s 15), (16, .s 16), (29, .s 29), (30, .s 30), (31, .s 31)]
def e347r9 : EE := .q 2 .neq [.s 6, .s 9] none <|
 .q 4 (.lda 7) [.s 8] (some (.r 2, true)) <|
 .q 5 (.lda 2) [.s 10] (some (.r 2, true)) <|
 .x 6 (.call 73) [.r 4, .r 5] (some (.r 2, true)) [] <|
 .q 7 .mv [.r 6] (some (.r 2, true)) <|
 .q 8 (.fld 0) [.s 10] (some (.r 7, false)) <|
 .q 9 .ld [.r 8] (some (.r 7, false)) <|
 .q 10 (.fld 0) [.s 7] (some (.r 7, false)) <|
 .q 11 .ld [.r 10] (some (.r 7, false)) <|
 .q 12 .eql [.r 9, .r 11] (some (.r 7, false)) <|
 .q 13 .mv [.r 12] (some (.r 7, false)) <|
 .q 14 (.fld 1) [.s 10] (some (.r 13, true)) <|
 .q 15 .ld [.r 14] (some (.r 13, true)) <|
 .q 16 (.fld 1) [.s 7] (some (.r 13, true)) <|
 .q 17 .ld [.r 16] (some (.r 13, true)) <|
 .q 18 .lss [.r 15, .r 17] (some (.r 13, true)) <|
 .q 19 .pick [.r 13, .r 18, .c (.bool false)] (some (.r 7, false)) <|
 .q 20 .pick [.r 7, .c (.bool true), .r 19] (some (.r 2, true)) <|
 .q 21 .pick [.r 2, .r 20, .c (.bool false)] none <|
 .out [(0, .s 0), (1, .s 1), (5, .s 5), (6, .s 6), (7, .s 7), (8, .s 8), (9, .s 9), (14, .s 14), (15, .s 15), (16, .s 16), (29, .s 29), (30, .s 30), (31, .s 31), (57, .r 21)]
def e347r10 : EE := .q 4 (.ixs 1) [.s 5, .s 6] none <|
 .q 5 .ld [.r 4] none <|
 .x 7 (.bsl 3 1 [z] [(0, 1)]) [.s 9] none [] <|
 .x 8 (.app 3 1 8 [z]) [.r 5, .r 7] none [] <|
 .q 9 (.ixs 1) [.s 5, .s 6] none <|
 .x 10 (.st 1) [.r 9, .r 8] none [] <|
 .out [(0, .s 0), (1, .s 1), (5, .s 5), (6, .s 6), (7, .s 7), (8, .s 8), (14, .s 14), (15, .s 15), (16, .s 16), (29, .s 29), (30, .s 30), (31, .s 31)]
def e347r11 : EE := .q 0 .add [.s 31, .c (.int .i64 1)] none <|
 .out [(0, .s 0), (1, .s 1), (5, .s 5), (6, .s 6), (7, .s 7), (8, .s 8), (14, .s 14), (15, .s 15), (16, .s 16), (29, .s 29), (30, .s 30), (31, .r 0)]
def e347l12 : EC := (.seq (.reg e347r7 [0, 1, 5, 6, 7, 8, 14, 15, 16, 29, 30, 31] 0) (.seq (.cond (.s 32) .skip (.exit 2)) (.seq (.block 3 (.seq (.reg e347r8 [0, 1, 5, 6, 7, 8, 14, 15, 16, 29, 30, 31] 0) (.seq (.reg e347r9 [0, 1, 5, 6, 7, 8, 9, 10, 14, 15, 16, 29, 30, 31] 0) (.cond (.s 57) (.reg e347r10 [0, 1, 5, 6, 7, 8, 9, 14, 15, 16, 29, 30, 31] 0) .skip)))) (.reg e347r11 [0, 1, 5, 6, 7, 8, 14, 15, 16, 29, 30, 31] 0))))
def e347r13 : EE := .q 0 .add [.s 16, .c (.int .i64 1)] none <|
 .out [(0, .s 0), (1, .s 1), (5, .s 5), (14, .s 14), (15, .s 15), (16, .r 0)]
def e347l14 : EC := (.seq (.reg e347r3 [0, 1, 5, 14, 15, 16] 0) (.seq (.cond (.s 17) .skip (.exit 0)) (.seq (.block 1 (.seq (.reg e347r4 [0, 1, 5, 14, 15, 16] 0) (.seq (.reg e347r5 [0, 1, 5, 6, 7, 14, 15, 16] 0) (.seq (.reg e347r6 [0, 1, 5, 6, 7, 8, 14, 15, 16] 0) (.block 2 (.loop [0, 1, 5, 6, 7, 8, 14, 15, 16, 29, 30, 31] e347l12)))))) (.reg e347r13 [0, 1, 5, 14, 15, 16] 0))))
def e347r15 : EE := .out [(4, .s 5)]
def e347 : EFn := ⟨(.seq (.reg e347r0 [0, 1] 0) (.seq (.reg e347r1 [0, 1] 0) (.seq (.seq (.reg e347r2 [0, 1, 5] 0) (.block 0 (.loop [0, 1, 5, 14, 15, 16] e347l14))) (.seq (.reg e347r15 [5] 0) .ret)))), [.slot 4], 71, 0⟩
theorem g347 : Good Tryz.prog 347 e347 := ⟨Tryz.f347, Tryz.func347, by kernel_rfl, by kernel_rfl, by kernel_rfl, by kernel_rfl⟩
/-! slices.SortStableFunc[[]int,int] -/
def e348r0 : EE := .q 2 .len [.s 0] none <|
 .x 4 (.call 373) [.s 0, .r 2, .s 1] none [] <|
 .out []
def e348 : EFn := ⟨(.reg e348r0 [0, 1] 0), [], 9, 0⟩
theorem g348 : Good Tryz.prog 348 e348 := ⟨Tryz.f348, Tryz.func348, by kernel_rfl, by kernel_rfl, by kernel_rfl, by kernel_rfl⟩
/-! slices.insertionSortCmpFunc[concord/api.Inst] -/
def e351r0 : EE := .q 1 .add [.s 1, .c (.int .i64 1)] none <|
 .out [(0, .s 0), (1, .s 1), (2, .s 2), (3, .s 3), (8, .r 1)]
def e351r1 : EE := .q 2 .lss [.s 8, .s 2] none <|
 .out [(0, .s 0), (1, .s 1), (2, .s 2), (3, .s 3), (8, .s 8), (14, .r 2)]
def e351r2 : EE := .out [(0, .s 0), (1, .s 1), (2, .s 2), (3, .s 3), (8, .s 8), (9, .s 8)]
def e351r3 : EE := .q 2 .gtr [.s 9, .s 1] none <|
 .q 4 .mv [.s 3] (some (.r 2, true)) <|
 .q 5 .mv [.s 0] (some (.r 2, true)) <|
 .q 6 .mv [.s 9] (some (.r 2, true)) <|
 .q 7 (.ixs 2) [.r 5, .r 6] (some (.r 2, true)) <|
 .q 8 (.lda 2) [.r 7] (some (.r 2, true)) <|
 .q 9 .mv [.s 0] (some (.r 2, true)) <|
 .q 10 .mv [.s 9] (some (.r 2, true)) <|
 .q 11 .sub [.r 10, .c (.int .i64 1)] (some (.r 2, true)) <|
 .q 12 (.ixs 2) [.r 9, .r 11] (some (.r 2, true)) <|
 .q 13 (.lda 2) [.r 12] (some (.r 2, true)) <|
 .x 14 .callv [.r 4, .r 8, .r 13] (some (.r 2, true)) [] <|
 .q 15 .lss [.r 14, .c z] (some (.r 2, true)) <|
 .q 16 .pick [.r 2, .r 15, .c (.bool false)] none <|
 .out [(0, .s 0), (1, .s 1), (2, .s 2), (3, .s 3), (8, .s 8), (9, .s 9), (34, .r 16)]
def e351r4 : EE := .q 4 .sub [.s 9, .c (.int .i64 1)] none <|
 .q 7 .sub [.s 9, .c (.int .i64 1)] none <|
 .q 8 (.ixs 2) [.s 0, .r 7] none <|
 .q 9 (.lda 2) [.r 8] none <|
 .q 12 (.ixs 2) [.s 0, .s 9] none <|
 .q 13 (.lda 2) [.r 12] none <|
 .q 14 (.ixs 2) [.s 0, .s 9] none <|
 .x 15 (.st 2) [.r 14, .r 9] none [] <|
 .q 16 (.ixs 2) [.s 0, .r 4] none <|
 .x 17 (.st 2) [.r 16, .r 13] none [] <|
 .out [(0, .s 0), (1, .s 1), (2, .s 2), (3, .s 3), (8, .s 8), (9, .s 9)]
def e351r5 : EE := .q 1 .sub [.s 9, .c (.int .i64 1)] none <|
 .out [(0, .s 0), (1, .s 1), (2, .s 2), (3, .s 3), (8, .s 8), (9, .r 1)]
def e351l6 : EC := (.seq (.seq (.reg e351r3 [0, 1, 2, 3, 8, 9] 0) (.cond (.s 34) .skip (.exit 2))) (.seq (.block 3 (.reg e351r4 [0, 1, 2, 3, 8, 9] 0)) (.reg e351r5 [0, 1, 2, 3, 8, 9] 0)))
def e351r7 : EE := .q 1 .add [.s 8, .c (.int .i64 1)] none <|
 .out [(0, .s 0), (1, .s 1), (2, .s 2), (3, .s 3), (8, .r 1)]
def e351l8 : EC := (.seq (.seq (.reg e351r1 [0, 1, 2, 3, 8] 0) (.cond (.s 14) .skip (.exit 0))) (.seq (.block 1 (.seq (.reg e351r2 [0, 1, 2, 3, 8] 0) (.block 2 (.loop [0, 1, 2, 3, 8, 9] e351l6)))) (.reg e351r7 [0, 1, 2, 3, 8] 0)))
def e351 : EFn := ⟨(.seq (.reg e351r0 [0, 1, 2, 3] 0) (.block 0 (.loop [0, 1, 2, 3, 8] e351l8))), [], 53, 0⟩
theorem g351 : Good Tryz.prog 351 e351 := ⟨Tryz.f351, Tryz.func351, by kernel_rfl, by kernel_rfl, by kernel_rfl, by kernel_rfl⟩
/-! (*concord/graph.walk).from -/
def e371r0 : EE := .x 2 (.call 385) [.s 0, .s 1] none [] <|
 .x 3 (.bsl 491 1 [z, z] [(0, 2)]) [.r 2] none [] <|
 .out [(0, .s 0), (4, .r 3)]
def e371r1 : EE := .q 1 .len [.s 4] none <|
 .q 2 .gtr [.r 1, .c z] none <|
 .out [(0, .s 0), (4, .s 4), (15, .r 2)]
def e371r2 : EE := .q 2 .len [.s 4] none <|
 .q 3 .sub [.r 2, .c (.int .i64 1)] none <|
 .q 4 (.ixs 2) [.s 4, .r 3] none <|
 .out [(0, .s 0), (4, .s 4), (5, .r 4)]
def e371r3 : EE := .q 1 .nl [.s 5] none <|
 .q 2 (.fld 1) [.r 1] none <|
 .q 3 .ld [.r 2] none <|
 .q 5 .nl [.s 0] none <|
 .q 6 (.fld 0) [.r 5] none <|
 .q 7 .ld [.r 6] none <|
 .q 9 .nl [.s 5] none <|
 .q 10 (.fld 0) [.r 9] none <|
 .q 11 .ld [.r 10] none <|
 .q 12 (.ixs 1) [.r 7, .r 11] none <|
 .q 13 .ld [.r 12] none <|
 .q 14 .len [.r 13] none <|
 .q 15 .eql [.r 3, .r 14] none <|
 .out [(0, .s 0), (4, .s 4), (5, .s 5), (36, .r 15)]
def e371r4 : EE := .q 1 .nl [.s 5] none <|
 .q 2 (.fld 0) [.r 1] none <|
 .q 3 .ld [.r 2] none <|
 .out [(0, .s 0), (4, .s 4), (6, .r 3)]
def e371r5 : EE := .x 2 (.call 386) [.s 0, .s 6] none [] <|
 .out [(0, .s 0), (4, .s 4), (6, .s 6)]
def e371r6 : EE := .q 2 .len [.s 4] none <|
 .q 3 .sub [.r 2, .c (.int .i64 1)] none <|
 .q 4 (.slc 2 false true) [.s 4, .r 3] none <|
 .out [(0, .s 0), (4, .r 4), (6, .s 6)]
def e371r7 : EE := .q 1 .len [.s 4] none <|
 .q 2 .gtr [.r 1, .c z] none <|
 .out [(0, .s 0), (4, .s 4), (6, .s 6), (51, .r 2)]
def e371r8 : EE := .q 2 .len [.s 4] none <|
 .q 3 .sub [.r 2, .c (.int .i64 1)] none <|
 .q 4 (.ixs 2) [.s 4, .r 3] none <|
 .q 5 (.fld 0) [.r 4] none <|
 .q 6 .ld [.r 5] none <|
 .out [(0, .s 0), (4, .s 4), (6, .s 6), (7, .r 6)]
def e371r9 : EE := .q 1 .nl [.s 0] none <|
 .q 2 (.fld 2) [.r 1] none <|
 .q 3 .ld [.r 2] none <|
 .q 6 .nl [.s 0] none <|
 .q 7 (.fld 2) [.r 6] none <|
 .q 8 .ld [.r 7] none <|
 .q 10 (.ixs 1) [.r 8, .s 7] none <|
 .q 11 .ld [.r 10] none <|
 .q 13 .nl [.s 0] none <|
 .q 14 (.fld 2) [.r 13] none <|
 .q 15 .ld [.r 14] none <|
 .q 17 (.ixs 1) [.r 15, .s 6] none <|
 .q 18 .ld [.r 17] none <|
 .q 19 .mn [.r 11, .r 18] none <|
 .q 20 (.ixs 1) [.r 3, .s 7] none <|
 .x 21 (.st 1) [.r 20, .r 19] none [] <|
 .out [(0, .s 0), (4, .s 4)]
def e371r10 : EE := .q 1 .nl [.s 0] none <|
 .q 2 (.fld 0) [.r 1] none <|
 .q 3 .ld [.r 2] none <|
 .q 5 .nl [.s 5] none <|
 .q 6 (.fld 0) [.r 5] none <|
 .q 7 .ld [.r 6] none <|
 .q 8 (.ixs 1) [.r 3, .r 7] none <|
 .q 9 .ld [.r 8] none <|
 .q 11 .nl [.s 5] none <|
 .q 12 (.fld 1) [.r 11] none <|
 .q 13 .ld [.r 12] none <|
 .q 14 (.ixs 1) [.r 9, .r 13] none <|
 .q 15 .ld [.r 14] none <|
 .out [(0, .s 0), (4, .s 4), (5, .s 5), (8, .r 15)]
def e371r11 : EE := .q 1 .nl [.s 5] none <|
 .q 2 (.fld 1) [.r 1] none <|
 .q 3 .ld [.r 2] none <|
 .q 4 .add [.r 3, .c (.int .i64 1)] none <|
 .q 5 .nl [.s 5] none <|
 .q 6 (.fld 1) [.r 5] none <|
 .x 7 (.st 1) [.r 6, .r 4] none [] <|
 .out [(0, .s 0), (4, .s 4), (5, .s 5), (8, .s 8)]
def e371r12 : EE := .q 1 .lss [.s 8, .c z] none <|
 .q 3 .mv [.s 8] (some (.r 1, false)) <|
 .q 4 .mv [.s 0] (some (.r 1, false)) <|
 .q 5 .nl [.r 4] (some (.r 1, false)) <|
 .q 6 (.fld 0) [.r 5] (some (.r 1, false)) <|
 .q 7 .ld [.r 6] (some (.r 1, false)) <|
 .q 8 .len [.r 7] (some (.r 1, false)) <|
 .q 9 .geq [.r 3, .r 8] (some (.r 1, false)) <|
 .q 10 .pick [.r 1, .c (.bool true), .r 9] none <|
 .out [(0, .s 0), (4, .s 4), (5, .s 5), (8, .s 8), (103, .r 10)]
def e371r13 : EE := .q 1 .nl [.s 0] none <|
 .q 2 (.fld 1) [.r 1] none <|
 .q 3 .ld [.r 2] none <|
 .q 5 (.ixs 1) [.r 3, .s 8] none <|
 .q 6 .ld [.r 5] none <|
 .q 7 .eql [.r 6, .c z] none <|
 .out [(0, .s 0), (4, .s 4), (5, .s 5), (8, .s 8), (115, .r 7)]
def e371r14 : EE := .x 3 (.call 385) [.s 0, .s 8] none [] <|
 .x 4 (.bsl 491 1 [z, z] [(0, 2)]) [.r 3] none [] <|
 .x 5 (.app 491 2 16 [z, z]) [.s 4, .r 4] none [] <|
 .out [(0, .s 0), (4, .r 5)]
def e371r15 : EE := .q 1 .nl [.s 0] none <|
 .q 2 (.fld 3) [.r 1] none <|
 .q 3 .ld [.r 2] none <|
 .q 5 (.ixs 1) [.r 3, .s 8] none <|
 .q 6 .ld [.r 5] none <|
 .out [(0, .s 0), (4, .s 4), (5, .s 5), (8, .s 8), (130, .r 6)]
def e371r16 : EE := .q 1 .nl [.s 0] none <|
 .q 2 (.fld 2) [.r 1] none <|
 .q 3 .ld [.r 2] none <|
 .q 5 .nl [.s 5] none <|
 .q 6 (.fld 0) [.r 5] none <|
 .q 7 .ld [.r 6] none <|
 .q 9 .nl [.s 0] none <|
 .q 10 (.fld 2) [.r 9] none <|
 .q 11 .ld [.r 10] none <|
 .q 13 .nl [.s 5] none <|
 .q 14 (.fld 0) [.r 13] none <|
 .q 15 .ld [.r 14] none <|
 .q 16 (.ixs 1) [.r 11, .r 15] none <|
 .q 17 .ld [.r 16] none <|
 .q 19 .nl [.s 0] none <|
 .q 20 (.fld 1) [.r 19] none <|
 .q 21 .ld [.r 20] none <|
 .q 23 (.ixs 1) [.r 21, .s 8] none <|
 .q 24 .ld [.r 23] none <|
 .q 25 .mn [.r 17, .r 24] none <|
 .q 26 (.ixs 1) [.r 3, .r 7] none <|
 .x 27 (.st 1) [.r 26, .r 25] none [] <|
 .out [(0, .s 0), (4, .s 4)]
def e371l17 : EC := (.seq (.seq (.reg e371r1 [0, 4] 0) (.cond (.s 15) .skip (.exit 0))) (.block 1 (.seq (.reg e371r2 [0, 4] 0) (.seq (.seq (.reg e371r3 [0, 4, 5] 0) (.cond (.s 36) (.seq (.reg e371r4 [0, 4, 5] 0) (.seq (.reg e371r5 [0, 4, 6] 0) (.seq (.reg e371r6 [0, 4, 6] 0) (.seq (.seq (.reg e371r7 [0, 4, 6] 0) (.cond (.s 51) (.seq (.reg e371r8 [0, 4, 6] 0) (.reg e371r9 [0, 4, 6, 7] 0)) .skip)) (.exit 1))))) .skip)) (.seq (.reg e371r10 [0, 4, 5] 0) (.seq (.reg e371r11 [0, 4, 5, 8] 0) (.block 2 (.seq (.reg e371r12 [0, 4, 5, 8] 0) (.cond (.s 103) .skip (.seq (.reg e371r13 [0, 4, 5, 8] 0) (.cond (.s 115) (.reg e371r14 [0, 4, 8] 0) (.seq (.reg e371r15 [0, 4, 5, 8] 0) (.cond (.s 130) (.reg e371r16 [0, 4, 5, 8] 0) .skip)))))))))))))
def e371 : EFn := ⟨(.seq (.reg e371r0 [0, 1] 0) (.block 0 (.loop [0, 4] e371l17))), [], 165, 0⟩
theorem g371 : Good Tryz.prog 371 e371 := ⟨Tryz.f371, Tryz.func371, by kernel_rfl, by kernel_rfl, by kernel_rfl, by kernel_rfl⟩
/-! concord/graph.order -/
def e372r0 : EE := .out [(0, .s 0), (1, .s 1), (2, .s 2)]
def e372r1 : EE := .q 1 .len [.s 2] none <|
 .x 2 (.mks 3 8 [z]) [.r 1, .r 1] none [] <|
 .out [(0, .s 0), (1, .s 1), (2, .s 2), (7, .r 2)]
def e372r2 : EE := .q 1 .len [.s 2] none <|
 .x 2 (.mks 68 24 [.nsl]) [.r 1, .r 1] none [] <|
 .out [(0, .s 0), (1, .s 1), (2, .s 2), (7, .s 7), (8, .r 2)]
def e372r3 : EE := .q 1 .len [.s 0] none <|
 .out [(0, .s 0), (1, .s 1), (2, .s 2), (7, .s 7), (8, .s 8), (25, .s 0), (26, .r 1), (27, .c z)]
def e372r4 : EE := .q 0 .lss [.s 27, .s 26] none <|
 .out [(0, .s 0), (1, .s 1), (2, .s 2), (7, .s 7), (8, .s 8), (25, .s 25), (26, .s 26), (27, .s 27), (28, .r 0)]
def e372r5 : EE := .q 1 (.ixs 1) [.s 25, .s 27] none <|
 .q 2 .ld [.r 1] none <|
 .out [(0, .s 0), (1, .s 1), (2, .s 2), (7, .s 7), (8, .s 8), (9, .s 27), (10, .r 2), (25, .s 25), (26, .s 26), (27, .s 27)]
def e372r6 : EE := .q 1 .len [.s 10] none <|
 .out [(0, .s 0), (1, .s 1), (2, .s 2), (7, .s 7), (8, .s 8), (9, .s 9), (25, .s 25), (26, .s 26), (27, .s 27), (32, .s 10), (33, .r 1), (34, .c z)]
def e372r7 : EE := .q 0 .lss [.s 34, .s 33] none <|
 .out [(0, .s 0), (1, .s 1), (2, .s 2), (7, .s 7), (8, .s 8), (9, .s 9), (25, .s 25), (26, .s 26), (27, .s 27), (32, .s 32), (33, .s 33), (34, .s 34), (35, .r 0)]
def e372r8 : EE := .q 0 (.ixs 1) [.s 32, .s 34] none <|
 .q 1 .ld [.r 0] none <|
 .out [(0, .s 0), (1, .s 1), (2, .s 2), (7, .s 7), (8, .s 8), (9, .s 9), (12, .r 1), (25, .s 25), (26, .s 26), (27, .s 27), (32, .s 32), (33, .s 33), (34, .s 34)]
def e372r9 : EE := .q 1 .geq [.s 12, .c z] none <|
 .q 3 .mv [.s 12] (some (.r 1, true)) <|
 .q 4 .mv [.s 0] (some (.r 1, true)) <|
 .q 5 .len [.r 4] (some (.r 1, true)) <|
 .q 6 .lss [.r 3, .r 5] (some (.r 1, true)) <|
 .q 7 .pick [.r 1, .r 6, .c (.bool false)] none <|
 .q 9 .mv [.s 1] (some (.r 7, true)) <|
 .q 10 .mv [.s 12] (some (.r 7, true)) <|
 .q 11 (.ixs 1) [.r 9, .r 10] (some (.r 7, true)) <|
 .q 12 .ld [.r 11] (some (.r 7, true)) <|
 .q 13 .mv [.s 1] (some (.r 7, true)) <|
 .q 14 .mv [.s 9] (some (.r 7, true)) <|
 .q 15 (.ixs 1) [.r 13, .r 14] (some (.r 7, true)) <|
 .q 16 .ld [.r 15] (some (.r 7, true)) <|
 .q 17 .neq [.r 12, .r 16] (some (.r 7, true)) <|
 .q 18 .pick [.r 7, .r 17, .c (.bool false)] none <|
 .out [(0, .s 0), (1, .s 1), (2, .s 2), (7, .s 7), (8, .s 8), (9, .s 9), (12, .s 12), (25, .s 25), (26, .s 26), (27, .s 27), (32, .s 32), (33, .s 33), (34, .s 34), (56, .r 18)]
def e372r10 : EE := .q 3 (.ixs 1) [.s 1, .s 9] none <|
 .q 4 .ld [.r 3] none <|
 .q 5 (.ixs 1) [.s 7, .r 4] none <|
 .q 6 .ld [.r 5] none <|
 .q 7 .add [.r 6, .c (.int .i64 1)] none <|
 .q 8 (.ixs 1) [.s 7, .r 4] none <|
 .x 9 (.st 1) [.r 8, .r 7] none [] <|
 .out [(0, .s 0), (1, .s 1), (2, .s 2), (7, .s 7), (8, .s 8), (9, .s 9), (12, .s 12), (25, .s 25), (26, .s 26), (27, .s 27), (32, .s 32), (33, .s 33), (34, .s 34)]
def e372r11 : EE := .q 3 (.ixs 1) [.s 1, .s 12] none <|
 .q 4 .ld [.r 3] none <|
 .q 8 (.ixs 1) [.s 1, .s 12] none <|
 .q 9 .ld [.r 8] none <|
 .q 10 (.ixs 1) [.s 8, .r 9] none <|
 .q 11 .ld [.r 10] none <|
 .q 14 (.ixs 1) [.s 1, .s 9] none <|
 .q 15 .ld [.r 14] none <|
 .x 16 (.bsl 3 1 [z] [(0, 1)]) [.r 15] none [⟨4, .ld, [.r 3], none⟩, ⟨9, .ld, [.r 8], none⟩, ⟨11, .ld, [.r 10], none⟩] <|
 .x 17 (.app 3 1 8 [z]) [.r 11, .r 16] none [⟨4, .ld, [.r 3], none⟩] <|
 .q 18 (.ixs 1) [.s 8, .r 4] none <|
 .x 19 (.st 1) [.r 18, .r 17] none [] <|
 .out [(0, .s 0), (1, .s 1), (2, .s 2), (7, .s 7), (8, .s 8), (9, .s 9), (25, .s 25), (26, .s 26), (27, .s 27), (32, .s 32), (33, .s 33), (34, .s 34)]
def e372r12 : EE := .q 0 .add [.s 34, .c (.int .i64 1)] none <|
 .out [(0, .s 0), (1, .s 1), (2, .s 2), (7, .s 7), (8, .s 8), (9, .s 9), (25, .s 25), (26, .s 26), (27, .s 27), (32, .s 32), (33, .s 33), (34, .r 0)]
def e372l13 : EC := (.seq (.reg e372r7 [0, 1, 2, 7, 8, 9, 25, 26, 27, 32, 33, 34] 0) (.seq (.cond (.s 35) .skip (.exit 2)) (.seq (.block 3 (.seq (.reg e372r8 [0, 1, 2, 7, 8, 9, 25, 26, 27, 32, 33, 34] 0) (.seq (.reg e372r9 [0, 1, 2, 7, 8, 9, 12, 25, 26, 27, 32, 33, 34] 0) (.cond (.s 56) (.seq (.reg e372r10 [0, 1, 2, 7, 8, 9, 12, 25, 26, 27, 32, 33, 34] 0) (.reg e372r11 [0, 1, 2, 7, 8, 9, 12, 25, 26, 27, 32, 33, 34] 0)) .skip)))) (.reg e372r12 [0, 1, 2, 7, 8, 9, 25, 26, 27, 32, 33, 34] 0))))
def e372r14 : EE := .q 0 .add [.s 27, .c (.int .i64 1)] none <|
 .out [(0, .s 0), (1, .s 1), (2, .s 2), (7, .s 7), (8, .s 8), (25, .s 25), (26, .s 26), (27, .r 0)]
def e372l15 : EC := (.seq (.reg e372r4 [0, 1, 2, 7, 8, 25, 26, 27] 0) (.seq (.cond (.s 28) .skip (.exit 0)) (.seq (.block 1 (.seq (.reg e372r5 [0, 1, 2, 7, 8, 25, 26, 27] 0) (.seq (.reg e372r6 [0, 1, 2, 7, 8, 9, 10, 25, 26, 27] 0) (.block 2 (.loop [0, 1, 2, 7, 8, 9, 25, 26, 27, 32, 33, 34] e372l13))))) (.reg e372r14 [0, 1, 2, 7, 8, 25, 26, 27] 0))))
def e372r16 : EE := .q 1 .len [.s 2] none <|
 .x 2 (.mks 3 8 [z]) [.r 1, .r 1] none [] <|
 .out [(2, .s 2), (7, .s 7), (8, .s 8), (13, .r 2)]
def e372r17 : EE := .out [(2, .s 2), (7, .s 7), (8, .s 8), (13, .s 13), (14, .c .nsl)]
def e372r18 : EE := .q 1 .len [.s 14] none <|
 .q 3 .len [.s 2] none <|
 .q 4 .lss [.r 1, .r 3] none <|
 .out [(2, .s 2), (7, .s 7), (8, .s 8), (13, .s 13), (14, .s 14), (94, .r 4)]
def e372r19 : EE := .out [(2, .s 2), (7, .s 7), (8, .s 8), (13, .s 13), (14, .s 14), (15, .c (.int .i64 (-1)))]
def e372r20 : EE := .q 1 .len [.s 2] none <|
 .out [(2, .s 2), (7, .s 7), (8, .s 8), (13, .s 13), (14, .s 14), (15, .s 15), (96, .r 1), (97, .c z)]
def e372r21 : EE := .q 0 .lss [.s 97, .s 96] none <|
 .out [(2, .s 2), (7, .s 7), (8, .s 8), (13, .s 13), (14, .s 14), (15, .s 15), (96, .s 96), (97, .s 97), (98, .r 0)]
def e372r22 : EE := .out [(2, .s 2), (7, .s 7), (8, .s 8), (13, .s 13), (14, .s 14), (15, .s 15), (16, .s 97), (96, .s 96), (97, .s 97)]
def e372r23 : EE := .q 2 (.ixs 1) [.s 13, .s 16] none <|
 .q 3 .ld [.r 2] none <|
 .q 4 .eql [.r 3, .c z] none <|
 .q 6 .mv [.s 7] (some (.r 4, true)) <|
 .q 7 .mv [.s 16] (some (.r 4, true)) <|
 .q 8 (.ixs 1) [.r 6, .r 7] (some (.r 4, true)) <|
 .q 9 .ld [.r 8] (some (.r 4, true)) <|
 .q 10 .eql [.r 9, .c z] (some (.r 4, true)) <|
 .q 11 .pick [.r 4, .r 10, .c (.bool false)] none <|
 .q 13 .mv [.s 15] (some (.r 11, true)) <|
 .q 14 .lss [.r 13, .c z] (some (.r 11, true)) <|
 .q 15 .mv [.r 14] (some (.r 11, true)) <|
 .q 16 .mv [.s 2] (some (.r 15, false)) <|
 .q 17 .mv [.s 16] (some (.r 15, false)) <|
 .q 18 (.ixs 1) [.r 16, .r 17] (some (.r 15, false)) <|
 .q 19 .ld [.r 18] (some (.r 15, false)) <|
 .q 20 (.ixs 1) [.r 19, .c z] (some (.r 15, false)) <|
 .q 21 .ld [.r 20] (some (.r 15, false)) <|
 .q 22 .mv [.s 2] (some (.r 15, false)) <|
 .q 23 .mv [.s 15] (some (.r 15, false)) <|
 .q 24 (.ixs 1) [.r 22, .r 23] (some (.r 15, false)) <|
 .q 25 .ld [.r 24] (some (.r 15, false)) <|
 .q 26 (.ixs 1) [.r 25, .c z] (some (.r 15, false)) <|
 .q 27 .ld [.r 26] (some (.r 15, false)) <|
 .q 28 .lss [.r 21, .r 27] (some (.r 15, false)) <|
 .q 29 .pick [.r 15, .c (.bool true), .r 28] (some (.r 11, true)) <|
 .q 30 .pick [.r 11, .r 29, .c (.bool false)] none <|
 .out [(2, .s 2), (7, .s 7), (8, .s 8), (13, .s 13), (14, .s 14), (15, .s 15), (16, .s 16), (96, .s 96), (97, .s 97), (130, .r 30)]
def e372r24 : EE := .out [(2, .s 2), (7, .s 7), (8, .s 8), (13, .s 13), (14, .s 14), (15, .s 16), (96, .s 96), (97, .s 97)]
def e372r25 : EE := .q 0 .add [.s 97, .c (.int .i64 1)] none <|
 .out [(2, .s 2), (7, .s 7), (8, .s 8), (13, .s 13), (14, .s 14), (15, .s 15), (96, .s 96), (97, .r 0)]
def e372l26 : EC := (.seq (.reg e372r21 [2, 7, 8, 13, 14, 15, 96, 97] 0) (.seq (.cond (.s 98) .skip (.exit 6)) (.seq (.block 7 (.seq (.reg e372r22 [2, 7, 8, 13, 14, 15, 96, 97] 0) (.seq (.reg e372r23 [2, 7, 8, 13, 14, 15, 16, 96, 97] 0) (.cond (.s 130) (.reg e372r24 [2, 7, 8, 13, 14, 16, 96, 97] 0) .skip)))) (.reg e372r25 [2, 7, 8, 13, 14, 15, 96, 97] 0))))
def e372r27 : EE := .q 2 (.ixs 1) [.s 13, .s 15] none <|
 .x 3 (.st 1) [.r 2, .c (.int .i64 1)] none [] <|
 .out [(2, .s 2), (7, .s 7), (8, .s 8), (13, .s 13), (14, .s 14), (15, .s 15)]
def e372r28 : EE := .q 3 (.ixs 1) [.s 2, .s 15] none <|
 .q 4 .ld [.r 3] none <|
 .x 5 (.bsl 68 1 [.nsl] [(0, 1)]) [.r 4] none [] <|
 .x 6 (.app 68 1 24 [.nsl]) [.s 14, .r 5] none [] <|
 .out [(2, .s 2), (7, .s 7), (8, .s 8), (13, .s 13), (14, .r 6), (15, .s 15)]
def e372r29 : EE := .q 2 (.ixs 1) [.s 8, .s 15] none <|
 .q 3 .ld [.r 2] none <|
 .q 4 .len [.r 3] none <|
 .out [(2, .s 2), (7, .s 7), (8, .s 8), (13, .s 13), (14, .s 14), (146, .r 3), (147, .r 4), (148, .c z)]
def e372r30 : EE := .q 0 .lss [.s 148, .s 147] none <|
 .out [(2, .s 2), (7, .s 7), (8, .s 8), (13, .s 13), (14, .s 14), (146, .s 146), (147, .s 147), (148, .s 148), (149, .r 0)]
def e372r31 : EE := .q 0 (.ixs 1) [.s 146, .s 148] none <|
 .q 1 .ld [.r 0] none <|
 .out [(2, .s 2), (7, .s 7), (8, .s 8), (13, .s 13), (14, .s 14), (18, .r 1), (146, .s 146), (147, .s 147), (148, .s 148)]
def e372r32 : EE := .q 2 (.ixs 1) [.s 7, .s 18] none <|
 .q 3 .ld [.r 2] none <|
 .q 4 .sub [.r 3, .c (.int .i64 1)] none <|
 .q 5 (.ixs 1) [.s 7, .s 18] none <|
 .x 6 (.st 1) [.r 5, .r 4] none [] <|
 .out [(2, .s 2), (7, .s 7), (8, .s 8), (13, .s 13), (14, .s 14), (146, .s 146), (147, .s 147), (148, .s 148)]
def e372r33 : EE := .q 0 .add [.s 148, .c (.int .i64 1)] none <|
 .out [(2, .s 2), (7, .s 7), (8, .s 8), (13, .s 13), (14, .s 14), (146, .s 146), (147, .s 147), (148, .r 0)]
def e372l34 : EC := (.seq (.reg e372r30 [2, 7, 8, 13, 14, 146, 147, 148] 0) (.seq (.cond (.s 149) .skip (.exit 8)) (.seq (.block 9 (.seq (.reg e372r31 [2, 7, 8, 13, 14, 146, 147, 148] 0) (.reg e372r32 [2, 7, 8, 13, 14, 18, 146, 147, 148] 0))) (.reg e372r33 [2, 7, 8, 13, 14, 146, 147, 148] 0))))
def e372l35 : EC := (.seq (.seq (.reg e372r18 [2, 7, 8, 13, 14] 0) (.cond (.s 94) .skip (.exit 4))) (.block 5 (.seq (.reg e372r19 [2, 7, 8, 13, 14] 0) (.seq (.seq (.reg e372r20 [2, 7, 8, 13, 14, 15] 0) (.block 6 (.loop [2, 7, 8, 13, 14, 15, 96, 97] e372l26))) (.seq (.reg e372r27 [2, 7, 8, 13, 14, 15] 0) (.seq (.reg e372r28 [2, 7, 8, 13, 14, 15] 0) (.seq (.reg e372r29 [2, 7, 8, 13, 14, 15] 0) (.block 8 (.loop [2, 7, 8, 13, 14, 146, 147, 148] e372l34)))))))))
def e372r36 : EE := .out [(6, .s 14)]
def e372 : EFn := ⟨(.seq (.reg e372r0 [0, 1, 2] 0) (.seq (.reg e372r1 [0, 1, 2] 0) (.seq (.reg e372r2 [0, 1, 2, 7] 0) (.seq (.seq (.reg e372r3 [0, 1, 2, 7, 8] 0) (.block 0 (.loop [0, 1, 2, 7, 8, 25, 26, 27] e372l15))) (.seq (.reg e372r16 [2, 7, 8] 0) (.seq (.reg e372r17 [2, 7, 8, 13] 0) (.seq (.block 4 (.loop [2, 7, 8, 13, 14] e372l35)) (.seq (.reg e372r36 [14] 0) .ret)))))))), [.slot 6], 160, 0⟩
theorem g372 : Good Tryz.prog 372 e372 := ⟨Tryz.f372, Tryz.func372, by kernel_rfl, by kernel_rfl, by kernel_rfl, by kernel_rfl⟩
/-! slices.stableCmpFunc[int] -/
def e373r0 : EE := .out [(0, .s 0), (1, .s 1), (2, .s 2), (6, .c (.int .i64 20))]
def e373r1 : EE := .out [(0, .s 0), (1, .s 1), (2, .s 2), (6, .s 6), (7, .c z), (8, .s 6)]
def e373r2 : EE := .q 2 .leq [.s 8, .s 1] none <|
 .out [(0, .s 0), (1, .s 1), (2, .s 2), (6, .s 6), (7, .s 7), (8, .s 8), (13, .r 2)]
def e373r3 : EE := .x 4 (.call 387) [.s 0, .s 7, .s 8, .s 2] none [] <|
 .out [(0, .s 0), (1, .s 1), (2, .s 2), (6, .s 6), (8, .s 8)]
def e373r4 : EE := .out [(0, .s 0), (1, .s 1), (2, .s 2), (6, .s 6), (7, .s 8), (8, .s 8)]
def e373r5 : EE := .q 2 .add [.s 8, .s 6] none <|
 .out [(0, .s 0), (1, .s 1), (2, .s 2), (6, .s 6), (7, .s 7), (8, .r 2)]
def e373l6 : EC := (.seq (.seq (.reg e373r2 [0, 1, 2, 6, 7, 8] 0) (.cond (.s 13) .skip (.exit 0))) (.block 1 (.seq (.reg e373r3 [0, 1, 2, 6, 7, 8] 0) (.seq (.reg e373r4 [0, 1, 2, 6, 8] 0) (.reg e373r5 [0, 1, 2, 6, 7, 8] 0)))))
def e373r7 : EE := .x 4 (.call 387) [.s 0, .s 7, .s 1, .s 2] none [] <|
 .out [(0, .s 0), (1, .s 1), (2, .s 2), (6, .s 6)]
def e373r8 : EE := .q 2 .lss [.s 6, .s 1] none <|
 .out [(0, .s 0), (1, .s 1), (2, .s 2), (6, .s 6), (30, .r 2)]
def e373r9 : EE := .q 1 .mul [.c (.int .i64 2), .s 6] none <|
 .out [(0, .s 0), (1, .s 1), (2, .s 2), (6, .s 6), (7, .c z), (8, .r 1)]
def e373r10 : EE := .q 2 .leq [.s 8, .s 1] none <|
 .out [(0, .s 0), (1, .s 1), (2, .s 2), (6, .s 6), (7, .s 7), (8, .s 8), (35, .r 2)]
def e373r11 : EE := .q 4 .add [.s 7, .s 6] none <|
 .x 7 (.call 388) [.s 0, .s 7, .r 4, .s 8, .s 2] none [] <|
 .out [(0, .s 0), (1, .s 1), (2, .s 2), (6, .s 6), (8, .s 8)]
def e373r12 : EE := .out [(0, .s 0), (1, .s 1), (2, .s 2), (6, .s 6), (7, .s 8), (8, .s 8)]
def e373r13 : EE := .q 2 .mul [.c (.int .i64 2), .s 6] none <|
 .q 3 .add [.s 8, .r 2] none <|
 .out [(0, .s 0), (1, .s 1), (2, .s 2), (6, .s 6), (7, .s 7), (8, .r 3)]
def e373l14 : EC := (.seq (.seq (.reg e373r10 [0, 1, 2, 6, 7, 8] 0) (.cond (.s 35) .skip (.exit 4))) (.block 5 (.seq (.reg e373r11 [0, 1, 2, 6, 7, 8] 0) (.seq (.reg e373r12 [0, 1, 2, 6, 8] 0) (.reg e373r13 [0, 1, 2, 6, 7, 8] 0)))))
def e373r15 : EE := .q 2 .add [.s 7, .s 6] none <|
 .out [(0, .s 0), (1, .s 1), (2, .s 2), (6, .s 6), (7, .s 7), (9, .r 2)]
def e373r16 : EE := .q 2 .lss [.s 9, .s 1] none <|
 .out [(0, .s 0), (1, .s 1), (2, .s 2), (6, .s 6), (7, .s 7), (9, .s 9), (54, .r 2)]
def e373r17 : EE := .x 5 (.call 388) [.s 0, .s 7, .s 9, .s 1, .s 2] none [] <|
 .out [(0, .s 0), (1, .s 1), (2, .s 2), (6, .s 6)]
def e373r18 : EE := .q 1 .mul [.s 6, .c (.int .i64 2)] none <|
 .out [(0, .s 0), (1, .s 1), (2, .s 2), (6, .r 1)]
def e373l19 : EC := (.seq (.seq (.reg e373r8 [0, 1, 2, 6] 0) (.cond (.s 30) .skip (.exit 2))) (.block 3 (.seq (.reg e373r9 [0, 1, 2, 6] 0) (.seq (.block 4 (.loop [0, 1, 2, 6, 7, 8] e373l14)) (.seq (.seq (.reg e373r15 [0, 1, 2, 6, 7] 0) (.seq (.reg e373r16 [0, 1, 2, 6, 7, 9] 0) (.cond (.s 54) (.reg e373r17 [0, 1, 2, 6, 7, 9] 0) .skip))) (.reg e373r18 [0, 1, 2, 6] 0))))))
def e373 : EFn := ⟨(.seq (.reg e373r0 [0, 1, 2] 0) (.seq (.reg e373r1 [0, 1, 2, 6] 0) (.seq (.block 0 (.loop [0, 1, 2, 6, 7, 8] e373l6)) (.seq (.reg e373r7 [0, 1, 2, 6, 7] 0) (.block 2 (.loop [0, 1, 2, 6] e373l19)))))), [], 63, 0⟩
theorem g373 : Good Tryz.prog 373 e373 := ⟨Tryz.f373, Tryz.func373, by kernel_rfl, by kernel_rfl, by kernel_rfl, by kernel_rfl⟩
/-! (*concord/graph.walk).come -/
def e385r0 : EE := .x 0 (.alc [z, z] 491) [] none [] <|
 .out [(0, .s 0), (1, .s 1), (4, .r 0)]
def e385r1 : EE := .q 1 .nl [.s 0] none <|
 .q 2 (.fld 7) [.r 1] none <|
 .q 3 .ld [.r 2] none <|
 .q 4 .add [.r 3, .c (.int .i64 1)] none <|
 .q 5 .nl [.s 0] none <|
 .q 6 (.fld 7) [.r 5] none <|
 .x 7 (.st 1) [.r 6, .r 4] none [] <|
 .out [(0, .s 0), (1, .s 1), (4, .s 4)]
def e385r2 : EE := .q 1 .nl [.s 0] none <|
 .q 2 (.fld 1) [.r 1] none <|
 .q 3 .ld [.r 2] none <|
 .q 6 .nl [.s 0] none <|
 .q 7 (.fld 2) [.r 6] none <|
 .q 8 .ld [.r 7] none <|
 .q 11 .nl [.s 0] none <|
 .q 12 (.fld 3) [.r 11] none <|
 .q 13 .ld [.r 12] none <|
 .q 16 .nl [.s 0] none <|
 .q 17 (.fld 7) [.r 16] none <|
 .q 18 .ld [.r 17] none <|
 .q 20 .nl [.s 0] none <|
 .q 21 (.fld 7) [.r 20] none <|
 .q 22 .ld [.r 21] none <|
 .q 23 (.ixs 1) [.r 3, .s 1] none <|
 .x 24 (.st 1) [.r 23, .r 18] none [] <|
 .q 25 (.ixs 1) [.r 8, .s 1] none <|
 .x 26 (.st 1) [.r 25, .r 22] none [] <|
 .q 27 (.ixs 1) [.r 13, .s 1] none <|
 .x 28 (.st 1) [.r 27, .c (.bool true)] none [] <|
 .out [(0, .s 0), (1, .s 1), (4, .s 4)]
def e385r3 : EE := .q 2 .nl [.s 0] none <|
 .q 3 (.fld 4) [.r 2] none <|
 .q 4 .ld [.r 3] none <|
 .x 6 (.bsl 3 1 [z] [(0, 1)]) [.s 1] none [] <|
 .x 7 (.app 3 1 8 [z]) [.r 4, .r 6] none [] <|
 .q 8 .nl [.s 0] none <|
 .q 9 (.fld 4) [.r 8] none <|
 .x 10 (.st 1) [.r 9, .r 7] none [] <|
 .out [(1, .s 1), (4, .s 4)]
def e385r4 : EE := .q 1 (.bld [z, z] [(0, 1), (1, 1)]) [.s 1, .c z] none <|
 .x 2 (.st 2) [.s 4, .r 1] none [] <|
 .out [(4, .s 4)]
def e385 : EFn := ⟨(.seq (.reg e385r0 [0, 1] 0) (.seq (.reg e385r1 [0, 1, 4] 0) (.seq (.reg e385r2 [0, 1, 4] 0) (.seq (.reg e385r3 [0, 1, 4] 0) (.seq (.reg e385r4 [1, 4] 0) .ret))))), [.cells 4 2], 50, 0⟩
theorem g385 : Good Tryz.prog 385 e385 := ⟨Tryz.f385, Tryz.func385, by kernel_rfl, by kernel_rfl, by kernel_rfl, by kernel_rfl⟩
/-! (*concord/graph.walk).leave -/
def e386r0 : EE := .q 1 .nl [.s 0] none <|
 .q 2 (.fld 2) [.r 1] none <|
 .q 3 .ld [.r 2] none <|
 .q 5 (.ixs 1) [.r 3, .s 1] none <|
 .q 6 .ld [.r 5] none <|
 .q 8 .nl [.s 0] none <|
 .q 9 (.fld 1) [.r 8] none <|
 .q 10 .ld [.r 9] none <|
 .q 12 (.ixs 1) [.r 10, .s 1] none <|
 .q 13 .ld [.r 12] none <|
 .q 14 .neq [.r 6, .r 13] none <|
 .out [(0, .s 0), (1, .s 1), (19, .r 14)]
def e386r1 : EE := .q 1 .nl [.s 0] none <|
 .q 2 (.fld 4) [.r 1] none <|
 .q 3 .ld [.r 2] none <|
 .q 5 .nl [.s 0] none <|
 .q 6 (.fld 4) [.r 5] none <|
 .q 7 .ld [.r 6] none <|
 .q 8 .len [.r 7] none <|
 .q 9 .sub [.r 8, .c (.int .i64 1)] none <|
 .q 10 (.ixs 1) [.r 3, .r 9] none <|
 .q 11 .ld [.r 10] none <|
 .out [(0, .s 0), (1, .s 1), (4, .r 11)]
def e386r2 : EE := .q 2 .nl [.s 0] none <|
 .q 3 (.fld 4) [.r 2] none <|
 .q 4 .ld [.r 3] none <|
 .q 6 .nl [.s 0] none <|
 .q 7 (.fld 4) [.r 6] none <|
 .q 8 .ld [.r 7] none <|
 .q 9 .len [.r 8] none <|
 .q 10 .sub [.r 9, .c (.int .i64 1)] none <|
 .q 11 (.slc 1 false true) [.r 4, .r 10] none <|
 .q 12 .nl [.s 0] none <|
 .q 13 (.fld 4) [.r 12] none <|
 .x 14 (.st 1) [.r 13, .r 11] none [] <|
 .out [(0, .s 0), (1, .s 1), (4, .s 4)]
def e386r3 : EE := .q 1 .nl [.s 0] none <|
 .q 2 (.fld 3) [.r 1] none <|
 .q 3 .ld [.r 2] none <|
 .q 6 .nl [.s 0] none <|
 .q 7 (.fld 5) [.r 6] none <|
 .q 8 .ld [.r 7] none <|
 .q 11 .nl [.s 0] none <|
 .q 12 (.fld 6) [.r 11] none <|
 .q 13 .ld [.r 12] none <|
 .q 14 (.ixs 1) [.r 3, .s 4] none <|
 .x 15 (.st 1) [.r 14, .c (.bool false)] none [] <|
 .q 16 (.ixs 1) [.r 8, .s 4] none <|
 .x 17 (.st 1) [.r 16, .r 13] none [] <|
 .out [(0, .s 0), (1, .s 1), (4, .s 4)]
def e386r4 : EE := .q 2 .eql [.s 4, .s 1] none <|
 .out [(0, .s 0), (1, .s 1), (64, .r 2)]
def e386l5 : EC := (.block 1 (.seq (.reg e386r1 [0, 1] 0) (.seq (.reg e386r2 [0, 1, 4] 0) (.seq (.reg e386r3 [0, 1, 4] 0) (.seq (.reg e386r4 [0, 1, 4] 0) (.cond (.s 64) (.exit 0) .skip))))))
def e386r6 : EE := .q 1 .nl [.s 0] none <|
 .q 2 (.fld 6) [.r 1] none <|
 .q 3 .ld [.r 2] none <|
 .q 4 .add [.r 3, .c (.int .i64 1)] none <|
 .q 5 .nl [.s 0] none <|
 .q 6 (.fld 6) [.r 5] none <|
 .x 7 (.st 1) [.r 6, .r 4] none [] <|
 .out []
def e386 : EFn := ⟨(.seq (.seq (.reg e386r0 [0, 1] 0) (.cond (.s 19) .ret .skip)) (.seq (.block 0 (.loop [0, 1] e386l5)) (.reg e386r6 [0] 0))), [], 72, 0⟩
theorem g386 : Good Tryz.prog 386 e386 := ⟨Tryz.f386, Tryz.func386, by kernel_rfl, by kernel_rfl, by kernel_rfl, by kernel_rfl⟩
end Go.Ev
