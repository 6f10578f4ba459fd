import Derived.Test.YtbbddikmjkbglaaGreatDoorEvB
import Derived.Test.YtbbddikmjkbglaaGreatDoorProg
set_option linter.unusedVariables false
namespace Go.Ev
open Go.Fw Go.Proofs
/-! concord/word.Put -/
def e202r0 : EE := .out [(0, .s 0), (1, .s 1), (2, .s 2)]
def e202r1 : EE := .q 1 .len [.s 0] none <|
 .q 2 .add [.r 1, .c (.int .i64 8)] none <|
 .x 3 (.mks 5 1 [(.int .u8 0)]) [.c z, .r 2] none [] <|
 .x 5 (.app 5 1 1 [(.int .u8 0)]) [.r 3, .s 0] none [] <|
 .out [(1, .s 1), (2, .s 2), (7, .r 5)]
def e202r2 : EE := .q 1 .mx [.s 1, .c z] none <|
 .q 2 .mn [.r 1, .c (.int .i64 8)] none <|
 .out [(2, .s 2), (7, .s 7), (16, .r 2), (17, .c z)]
def e202r3 : EE := .q 0 .lss [.s 17, .s 16] none <|
 .out [(2, .s 2), (7, .s 7), (16, .s 16), (17, .s 17), (18, .r 0)]
def e202r4 : EE := .q 2 (.conv .u8) [.s 2] none <|
 .x 3 (.bsl 5 1 [(.int .u8 0)] [(0, 1)]) [.r 2] none [] <|
 .x 4 (.app 5 1 1 [(.int .u8 0)]) [.s 7, .r 3] none [] <|
 .out [(2, .s 2), (7, .r 4), (16, .s 16), (17, .s 17)]
def e202r5 : EE := .q 1 .shr [.s 2, .c (.int .u64 8)] none <|
 .out [(2, .r 1), (7, .s 7), (16, .s 16), (17, .s 17)]
def e202r6 : EE := .q 0 .add [.s 17, .c (.int .i64 1)] none <|
 .out [(2, .s 2), (7, .s 7), (16, .s 16), (17, .r 0)]
def e202l7 : EC := (.seq (.reg e202r3 [2, 7, 16, 17] 0) (.seq (.cond (.s 18) .skip (.exit 0)) (.seq (.block 1 (.seq (.reg e202r4 [2, 7, 16, 17] 0) (.reg e202r5 [2, 7, 16, 17] 0))) (.reg e202r6 [2, 7, 16, 17] 0))))
def e202r8 : EE := .out [(6, .s 7)]
def e202 : EFn := ⟨(.seq (.reg e202r0 [0, 1, 2] 0) (.seq (.reg e202r1 [0, 1, 2] 0) (.seq (.seq (.reg e202r2 [1, 2, 7] 0) (.block 0 (.loop [2, 7, 16, 17] e202l7))) (.seq (.reg e202r8 [7] 0) .ret)))), [.slot 6], 28, 0⟩
theorem g202 : Good Tryz.prog 202 e202 := ⟨Tryz.f202, Tryz.func202, by kernel_rfl, by kernel_rfl, by kernel_rfl, by kernel_rfl⟩
/-! concord/pack.num -/
def e203r0 : EE := .out [(0, .s 0), (1, .s 1)]
def e203r1 : EE := .x 1 (.call 269) [.s 1] none [] <|
 .out [(0, .s 0), (5, .r 1)]
def e203r2 : EE := .q 1 .geq [.s 5, .c (.int .u64 128)] none <|
 .out [(0, .s 0), (5, .s 5), (9, .r 1)]
def e203r3 : EE := .q 2 (.conv .u8) [.s 5] none <|
 .q 3 .or [.r 2, .c (.int .u8 128)] none <|
 .x 4 (.bsl 5 1 [(.int .u8 0)] [(0, 1)]) [.r 3] none [] <|
 .x 5 (.app 5 1 1 [(.int .u8 0)]) [.s 0, .r 4] none [] <|
 .out [(0, .r 5), (5, .s 5)]
def e203r4 : EE := .q 1 .shr [.s 5, .c (.int .u64 7)] none <|
 .out [(0, .s 0), (5, .r 1)]
def e203l5 : EC := (.seq (.seq (.reg e203r2 [0, 5] 0) (.cond (.s 9) .skip (.exit 0))) (.block 1 (.seq (.reg e203r3 [0, 5] 0) (.reg e203r4 [0, 5] 0))))
def e203r6 : EE := .q 2 (.conv .u8) [.s 5] none <|
 .x 3 (.bsl 5 1 [(.int .u8 0)] [(0, 1)]) [.r 2] none [] <|
 .x 4 (.app 5 1 1 [(.int .u8 0)]) [.s 0, .r 3] none [] <|
 .out [(4, .r 4)]
def e203 : EFn := ⟨(.seq (.reg e203r0 [0, 1] 0) (.seq (.reg e203r1 [0, 1] 0) (.seq (.block 0 (.loop [0, 5] e203l5)) (.seq (.reg e203r6 [0, 5] 0) .ret)))), [.slot 4], 23, 0⟩
theorem g203 : Good Tryz.prog 203 e203 := ⟨Tryz.f203, Tryz.func203, by kernel_rfl, by kernel_rfl, by kernel_rfl, by kernel_rfl⟩
/-! (*concord/disk.Disk).Append -/
def e204r0 : EE := .out [(0, .s 0), (1, .s 1), (2, .s 2)]
def e204r1 : EE := .q 1 .nl [.s 0] none <|
 .q 2 (.fld 2) [.r 1] none <|
 .q 3 .ld [.r 2] none <|
 .out [(0, .s 0), (1, .s 1), (2, .s 2), (10, .r 3)]
def e204r2 : EE := .out [(6, .c (.int .i64 10))]
def e204r3 : EE := .x 1 (.call 270) [.s 1] none [] <|
 .q 2 .not [.r 1] none <|
 .out [(0, .s 0), (1, .s 1), (2, .s 2), (15, .r 2)]
def e204r4 : EE := .out [(6, .c (.int .i64 11))]
def e204r5 : EE := .q 1 .len [.s 2] none <|
 .x 3 (.call 271) [.s 0] none [] <|
 .q 4 .gtr [.r 1, .r 3] none <|
 .out [(0, .s 0), (1, .s 1), (2, .s 2), (19, .r 4)]
def e204r6 : EE := .out [(6, .c (.int .i64 7))]
def e204r7 : EE := .x 1 (.call 188) [.s 0] none [] <|
 .out [(0, .s 0), (1, .s 1), (2, .s 2), (7, .r 1)]
def e204r8 : EE := .q 1 .neq [.s 7, .c z] none <|
 .out [(0, .s 0), (1, .s 1), (2, .s 2), (7, .s 7), (28, .r 1)]
def e204r9 : EE := .out [(6, .s 7)]
def e204r10 : EE := .x 2 (.call 180) [.s 0, .s 1] none [] <|
 .q 4 (.ext 0) [.r 2] none <|
 .q 5 (.ext 1) [.r 2] none <|
 .out [(0, .s 0), (1, .s 1), (2, .s 2), (8, .r 4), (9, .r 5)]
def e204r11 : EE := .q 1 .not [.s 9] none <|
 .out [(0, .s 0), (1, .s 1), (2, .s 2), (8, .s 8), (37, .r 1)]
def e204r12 : EE := .q 2 .nl [.s 0] none <|
 .q 3 (.fld 1) [.r 2] none <|
 .q 4 .ld [.r 3] none <|
 .q 7 (.bld [zs, .nsl, z] [(0, 1)]) [.s 1] none <|
 .x 8 (.bsl 185 1 [zs, .nsl, z] [(0, 3)]) [.r 7] none [] <|
 .x 9 (.call 272) [.r 4, .s 8, .r 8] none [] <|
 .q 10 .nl [.s 0] none <|
 .q 11 (.fld 1) [.r 10] none <|
 .x 12 (.st 1) [.r 11, .r 9] none [] <|
 .out [(0, .s 0), (2, .s 2), (8, .s 8)]
def e204r13 : EE := .q 1 .nl [.s 0] none <|
 .q 2 (.fld 1) [.r 1] none <|
 .q 3 .ld [.r 2] none <|
 .q 6 .nl [.s 0] none <|
 .q 7 (.fld 1) [.r 6] none <|
 .q 8 .ld [.r 7] none <|
 .q 10 (.ixs 3) [.r 8, .s 8] none <|
 .q 11 (.fld 1) [.r 10] none <|
 .q 12 .ld [.r 11] none <|
 .x 14 (.bsl 61 2 [.nsl, .nsl] [(0, 1), (1, 1)]) [.r 12, .s 2] none [⟨3, .ld, [.r 2], none⟩] <|
 .x 15 (.call 273) [.r 14] none [⟨3, .ld, [.r 2], none⟩] <|
 .q 16 (.ixs 3) [.r 3, .s 8] none <|
 .q 17 (.fld 1) [.r 16] none <|
 .x 18 (.st 1) [.r 17, .r 15] none [] <|
 .out []
def e204r14 : EE := .out [(6, .c z)]
def e204 : EFn := ⟨(.seq (.reg e204r0 [0, 1, 2] 0) (.seq (.block 0 (.seq (.reg e204r1 [0, 1, 2] 0) (.cond (.s 10) (.seq (.reg e204r2 [] 0) .ret) (.seq (.reg e204r3 [0, 1, 2] 0) (.cond (.s 15) (.seq (.reg e204r4 [] 0) .ret) (.seq (.reg e204r5 [0, 1, 2] 0) (.cond (.s 19) (.seq (.reg e204r6 [] 0) .ret) .skip))))))) (.seq (.seq (.reg e204r7 [0, 1, 2] 0) (.seq (.reg e204r8 [0, 1, 2, 7] 0) (.cond (.s 28) (.seq (.reg e204r9 [7] 0) .ret) .skip))) (.seq (.reg e204r10 [0, 1, 2] 0) (.seq (.seq (.reg e204r11 [0, 1, 2, 8, 9] 0) (.cond (.s 37) (.reg e204r12 [0, 1, 2, 8] 0) .skip)) (.seq (.reg e204r13 [0, 2, 8] 0) (.seq (.reg e204r14 [] 0) .ret))))))), [.slot 6], 68, 0⟩
theorem g204 : Good Tryz.prog 204 e204 := ⟨Tryz.f204, Tryz.func204, by kernel_rfl, by kernel_rfl, by kernel_rfl, by kernel_rfl⟩
/-! (*concord/core.Core).Drain -/
def e205r0 : EE := .out [(0, .s 0)]
def e205r1 : EE := .q 1 .nl [.s 0] none <|
 .q 2 (.fld 6) [.r 1] none <|
 .q 3 .ld [.r 2] none <|
 .q 5 .nl [.s 0] none <|
 .q 6 (.fld 7) [.r 5] none <|
 .q 7 .ld [.r 6] none <|
 .out [(0, .s 0), (4, .r 3), (5, .r 7)]
def e205r2 : EE := .q 2 .nl [.s 0] none <|
 .q 3 (.fld 6) [.r 2] none <|
 .x 4 (.st 1) [.r 3, .c .nsl] none [] <|
 .q 5 .nl [.s 0] none <|
 .q 6 (.fld 7) [.r 5] none <|
 .x 7 (.st 1) [.r 6, .c .nsl] none [] <|
 .out [(4, .s 4), (5, .s 5)]
def e205r3 : EE := .out [(2, .s 4), (3, .s 5)]
def e205 : EFn := ⟨(.seq (.reg e205r0 [0] 0) (.seq (.reg e205r1 [0] 0) (.seq (.reg e205r2 [0, 4, 5] 0) (.seq (.reg e205r3 [4, 5] 0) .ret)))), [.slot 2, .slot 3], 22, 0⟩
theorem g205 : Good Tryz.prog 205 e205 := ⟨Tryz.f205, Tryz.func205, by kernel_rfl, by kernel_rfl, by kernel_rfl, by kernel_rfl⟩
/-! (*concord/wal.Wal).Add -/
def e207r0 : EE := .out [(0, .s 0), (1, .s 1)]
def e207r1 : EE := .q 1 .nl [.s 0] none <|
 .q 2 (.fld 3) [.r 1] none <|
 .q 3 .ld [.r 2] none <|
 .out [(0, .s 0), (1, .s 1), (14, .r 3)]
def e207r2 : EE := .out [(4, .c (.int .i64 10))]
def e207r3 : EE := .q 1 .nl [.s 0] none <|
 .q 2 (.fld 1) [.r 1] none <|
 .q 3 (.fld 0) [.r 2] none <|
 .q 4 .ld [.r 3] none <|
 .q 5 .eql [.r 4, .c z] none <|
 .out [(0, .s 0), (1, .s 1), (20, .r 5)]
def e207r4 : EE := .out [(4, .c (.int .i64 8))]
def e207r5 : EE := .x 1 (.call 127) [.c .nsl, .s 1] none [] <|
 .q 3 (.ext 0) [.r 1] none <|
 .q 4 (.ext 1) [.r 1] none <|
 .out [(0, .s 0), (1, .s 1), (5, .r 3), (6, .r 4)]
def e207r6 : EE := .q 1 .not [.s 6] none <|
 .out [(0, .s 0), (1, .s 1), (5, .s 5), (27, .r 1)]
def e207r7 : EE := .out [(4, .c (.int .i64 1))]
def e207r8 : EE := .q 1 .len [.s 1] none <|
 .q 2 .eql [.r 1, .c z] none <|
 .out [(0, .s 0), (5, .s 5), (30, .r 2)]
def e207r9 : EE := .out [(4, .c z)]
def e207r10 : EE := .q 1 .nl [.s 0] none <|
 .q 2 (.fld 1) [.r 1] none <|
 .q 3 (.lda 2) [.r 2] none <|
 .x 4 (.alc [z, z] 226) [] none [] <|
 .x 5 (.st 2) [.r 4, .r 3] none [] <|
 .out [(0, .s 0), (5, .s 5), (7, .r 4)]
def e207r11 : EE := .q 1 .nl [.s 0] none <|
 .q 2 (.fld 0) [.r 1] none <|
 .q 3 .ld [.r 2] none <|
 .q 4 (.lda 2) [.s 7] none <|
 .x 5 (.call 114) [.r 4] none [⟨3, .ld, [.r 2], none⟩] <|
 .x 6 (.call 108) [.r 3, .r 5] none [] <|
 .q 8 (.ext 0) [.r 6] none <|
 .q 9 (.ext 1) [.r 6] none <|
 .out [(0, .s 0), (5, .s 5), (7, .s 7), (8, .r 8)]
def e207r12 : EE := .q 1 .len [.s 8] none <|
 .q 2 .gtr [.r 1, .c (.int .i64 4096)] none <|
 .q 4 (.fld 1) [.s 7] (some (.r 2, true)) <|
 .q 5 .ld [.r 4] (some (.r 2, true)) <|
 .q 6 .lss [.r 5, .c (.int .i64 999999999)] (some (.r 2, true)) <|
 .q 7 .pick [.r 2, .r 6, .c (.bool false)] none <|
 .out [(0, .s 0), (5, .s 5), (7, .s 7), (52, .r 7)]
def e207r13 : EE := .q 0 (.fld 1) [.s 7] none <|
 .q 1 .ld [.r 0] none <|
 .q 2 .add [.r 1, .c (.int .i64 1)] none <|
 .q 3 (.fld 1) [.s 7] none <|
 .x 4 (.st 1) [.r 3, .r 2] none [] <|
 .out [(0, .s 0), (5, .s 5), (7, .s 7)]
def e207r14 : EE := .q 1 (.lda 2) [.s 7] none <|
 .x 3 (.call 130) [.s 0, .r 1, .s 5] none [] <|
 .out [(0, .s 0), (7, .s 7), (10, .r 3)]
def e207r15 : EE := .q 1 .neq [.s 10, .c z] none <|
 .out [(0, .s 0), (7, .s 7), (10, .s 10), (62, .r 1)]
def e207r16 : EE := .out [(4, .s 10)]
def e207r17 : EE := .q 1 (.lda 2) [.s 7] none <|
 .q 2 .nl [.s 0] none <|
 .q 3 (.fld 1) [.r 2] none <|
 .x 4 (.st 2) [.r 3, .r 1] none [] <|
 .out []
def e207r18 : EE := .out [(4, .c z)]
def e207 : EFn := ⟨(.seq (.reg e207r0 [0, 1] 0) (.seq (.seq (.reg e207r1 [0, 1] 0) (.cond (.s 14) (.seq (.reg e207r2 [] 0) .ret) .skip)) (.seq (.seq (.reg e207r3 [0, 1] 0) (.cond (.s 20) (.seq (.reg e207r4 [] 0) .ret) .skip)) (.seq (.reg e207r5 [0, 1] 0) (.seq (.seq (.reg e207r6 [0, 1, 5, 6] 0) (.cond (.s 27) (.seq (.reg e207r7 [] 0) .ret) .skip)) (.seq (.seq (.reg e207r8 [0, 1, 5] 0) (.cond (.s 30) (.seq (.reg e207r9 [] 0) .ret) .skip)) (.seq (.reg e207r10 [0, 5] 0) (.seq (.seq (.reg e207r11 [0, 5, 7] 0) (.seq (.reg e207r12 [0, 5, 7, 8] 0) (.cond (.s 52) (.reg e207r13 [0, 5, 7] 0) .skip))) (.seq (.seq (.reg e207r14 [0, 5, 7] 0) (.seq (.reg e207r15 [0, 7, 10] 0) (.cond (.s 62) (.seq (.reg e207r16 [10] 0) .ret) .skip))) (.seq (.reg e207r17 [0, 7] 0) (.seq (.reg e207r18 [] 0) .ret))))))))))), [.slot 4], 68, 0⟩
theorem g207 : Good Tryz.prog 207 e207 := ⟨Tryz.f207, Tryz.func207, by kernel_rfl, by kernel_rfl, by kernel_rfl, by kernel_rfl⟩
/-! concord/exec.Plan -/
def e209r0 : EE := .x 0 (.box 123) [.s 0] none [] <|
 .out [(1, .s 1), (2, .r 0)]
def e209r1 : EE := .q 0 (.lda 7) [.s 2] none <|
 .x 1 .mkm [] none [] <|
 .q 2 (.bld [z, z, z, z, z, z, z, .nmap, .nsl] [(0, 7), (7, 1)]) [.r 0, .r 1] none <|
 .x 3 (.box 397) [.r 2] none [] <|
 .out [(1, .s 1), (6, .r 3)]
def e209r2 : EE := .q 1 .len [.s 1] none <|
 .out [(6, .s 6), (17, .s 1), (18, .r 1), (19, .c z)]
def e209r3 : EE := .q 0 .lss [.s 19, .s 18] none <|
 .out [(6, .s 6), (17, .s 17), (18, .s 18), (19, .s 19), (20, .r 0)]
def e209r4 : EE := .q 0 (.ixs 23) [.s 17, .s 19] none <|
 .q 1 (.lda 23) [.r 0] none <|
 .x 2 (.alc [z, z, z, z, z, z, z, z, z, z, zs, zs, zs, zs, z, z, z, z, z, z, z, z, (.bool false)] 329) [] none [] <|
 .x 3 (.st 23) [.r 2, .r 1] none [] <|
 .out [(6, .s 6), (8, .r 2), (17, .s 17), (18, .s 18), (19, .s 19)]
def e209r5 : EE := .q 1 .nl [.s 6] none <|
 .q 2 (.fld 7) [.r 1] none <|
 .q 3 .ld [.r 2] none <|
 .q 4 (.fld 0) [.s 8] none <|
 .q 5 (.lda 2) [.r 4] none <|
 .q 6 (.lkp true [(.i .i64), (.i .i64)] (.agg [z, z, z, z, z, z, z, z, zs, zs, zs, zs, z, z, z, z, z, z, z, z, (.bool false)]) true) [.r 3, .r 5] none <|
 .q 8 (.ext 0) [.r 6] none <|
 .q 9 (.ext 1) [.r 6] none <|
 .x 10 (.alc [z, z, z, z, z, z, z, z, zs, zs, zs, zs, z, z, z, z, z, z, z, z, (.bool false)] 127) [] none [⟨3, .ld, [.r 2], none⟩, ⟨5, (.lda 2), [.r 4], none⟩, ⟨6, (.lkp true [(.i .i64), (.i .i64)] (.agg [z, z, z, z, z, z, z, z, zs, zs, zs, zs, z, z, z, z, z, z, z, z, (.bool false)]) true), [.r 3, .r 5], none⟩] <|
 .x 11 (.st 21) [.r 10, .r 8] none [] <|
 .out [(6, .s 6), (8, .s 8), (10, .r 9), (17, .s 17), (18, .s 18), (19, .s 19)]
def e209r6 : EE := .q 2 (.fld 2) [.s 8] (some (.s 10, false)) <|
 .q 3 (.fld 0) [.r 2] (some (.s 10, false)) <|
 .q 4 .ld [.r 3] (some (.s 10, false)) <|
 .q 5 .neq [.r 4, .c (.int .i64 3)] (some (.s 10, false)) <|
 .q 6 .pick [.s 10, .c (.bool true), .r 5] none <|
 .out [(6, .s 6), (8, .s 8), (17, .s 17), (18, .s 18), (19, .s 19), (39, .r 6)]
def e209r7 : EE := .q 1 .nl [.s 6] none <|
 .q 2 (.fld 7) [.r 1] none <|
 .q 3 .ld [.r 2] none <|
 .q 4 (.fld 0) [.s 8] none <|
 .q 5 (.lda 2) [.r 4] none <|
 .q 6 (.fld 2) [.s 8] none <|
 .q 7 (.lda 21) [.r 6] none <|
 .x 8 (.mup true [(.i .i64), (.i .i64)]) [.r 3, .r 5, .r 7] none [] <|
 .out [(6, .s 6), (17, .s 17), (18, .s 18), (19, .s 19)]
def e209r8 : EE := .q 0 .add [.s 19, .c (.int .i64 1)] none <|
 .out [(6, .s 6), (17, .s 17), (18, .s 18), (19, .r 0)]
def e209l9 : EC := (.seq (.reg e209r3 [6, 17, 18, 19] 0) (.seq (.cond (.s 20) .skip (.exit 0)) (.seq (.block 1 (.seq (.reg e209r4 [6, 17, 18, 19] 0) (.seq (.seq (.reg e209r5 [6, 8, 17, 18, 19] 0) (.seq (.reg e209r6 [6, 8, 10, 17, 18, 19] 0) (.cond (.s 39) (.exit 1) .skip))) (.reg e209r7 [6, 8, 17, 18, 19] 0)))) (.reg e209r8 [6, 17, 18, 19] 0))))
def e209r10 : EE := .x 1 (.call 274) [.s 6] none [] <|
 .q 3 (.ext 0) [.r 1] none <|
 .q 4 (.ext 1) [.r 1] none <|
 .out [(6, .s 6), (11, .r 3), (12, .r 4)]
def e209r11 : EE := .q 1 .not [.s 11] none <|
 .out [(6, .s 6), (12, .s 12), (55, .r 1)]
def e209r12 : EE := .q 1 .nl [.s 6] none <|
 .q 2 (.fld 8) [.r 1] none <|
 .q 3 .ld [.r 2] none <|
 .x 5 (.call 275) [.s 12] none [⟨3, .ld, [.r 2], none⟩] <|
 .out [(4, .r 3), (5, .r 5)]
def e209l13 : EC := (.block 3 (.seq (.reg e209r10 [6] 0) (.seq (.reg e209r11 [6, 11, 12] 0) (.cond (.s 55) (.seq (.reg e209r12 [6, 12] 0) .ret) .skip))))
def e209 : EFn := ⟨(.seq (.reg e209r0 [0, 1] 0) (.seq (.reg e209r1 [1, 2] 0) (.seq (.seq (.reg e209r2 [1, 6] 0) (.block 0 (.loop [6, 17, 18, 19] e209l9))) (.block 2 (.loop [6] e209l13))))), [.slot 4, .slot 5], 62, 0⟩
theorem g209 : Good Tryz.prog 209 e209 := ⟨Tryz.f209, Tryz.func209, by kernel_rfl, by kernel_rfl, by kernel_rfl, by kernel_rfl⟩
/-! (*concord/node.Node).committed -/
def e210r0 : EE := .out [(0, .s 0)]
def e210r1 : EE := .out [(0, .s 0), (3, .c .nsl)]
def e210r2 : EE := .q 1 .nl [.s 0] none <|
 .q 2 (.fld 4) [.r 1] none <|
 .q 3 .ld [.r 2] none <|
 .x 4 (.call 217) [.r 3] none [] <|
 .q 5 .len [.r 4] none <|
 .out [(0, .s 0), (3, .s 3), (12, .r 4), (13, .r 5), (14, .c z)]
def e210r3 : EE := .q 0 .lss [.s 14, .s 13] none <|
 .out [(0, .s 0), (3, .s 3), (12, .s 12), (13, .s 13), (14, .s 14), (15, .r 0)]
def e210r4 : EE := .q 0 (.ixs 2) [.s 12, .s 14] none <|
 .q 1 (.lda 2) [.r 0] none <|
 .x 2 (.alc [z, z] 119) [] none [] <|
 .x 3 (.st 2) [.r 2, .r 1] none [] <|
 .out [(0, .s 0), (3, .s 3), (5, .r 2), (12, .s 12), (13, .s 13), (14, .s 14)]
def e210r5 : EE := .q 1 .nl [.s 0] none <|
 .q 2 (.fld 4) [.r 1] none <|
 .q 3 .ld [.r 2] none <|
 .q 4 (.lda 2) [.s 5] none <|
 .both false
 (.x 5 (.call 159) [.r 3, .r 4] none [] <|
 .q 7 (.ext 0) [.r 5] none <|
 .q 8 (.ext 1) [.r 5] none <|
 .x 9 (.alc [z, z, z, z, z, z, z, z, zs, zs, zs, zs, z, z, z, z, z, z, z, z, (.bool false)] 127) [] none [⟨3, .ld, [.r 2], none⟩, ⟨4, (.lda 2), [.s 5], none⟩] <|
 .x 10 (.st 21) [.r 9, .r 7] none [] <|
 .out [(0, .s 0), (3, .s 3), (5, .s 5), (6, .r 9), (12, .s 12), (13, .s 13), (14, .s 14)])
 (.x 9 (.alc [z, z, z, z, z, z, z, z, zs, zs, zs, zs, z, z, z, z, z, z, z, z, (.bool false)] 127) [] none [⟨3, .ld, [.r 2], none⟩, ⟨4, (.lda 2), [.s 5], none⟩] <|
 .x 5 (.call 159) [.r 3, .r 4] none [] <|
 .q 7 (.ext 0) [.r 5] none <|
 .q 8 (.ext 1) [.r 5] none <|
 .x 10 (.st 21) [.r 9, .r 7] none [] <|
 .out [(0, .s 0), (3, .s 3), (5, .s 5), (6, .r 9), (12, .s 12), (13, .s 13), (14, .s 14)])
def e210r6 : EE := .q 0 (.fld 1) [.s 5] none <|
 .q 1 .ld [.r 0] none <|
 .q 3 (.fld 0) [.s 5] none <|
 .q 4 .ld [.r 3] none <|
 .q 5 .nl [.s 0] none <|
 .q 6 (.fld 55) [.r 5] none <|
 .q 7 (.ixa 7 1) [.r 6, .r 4] none <|
 .q 8 .ld [.r 7] none <|
 .q 9 .gtr [.r 1, .r 8] none <|
 .q 11 (.fld 0) [.s 6] (some (.r 9, true)) <|
 .q 12 .ld [.r 11] (some (.r 9, true)) <|
 .q 13 .eql [.r 12, .c (.int .i64 3)] (some (.r 9, true)) <|
 .q 14 .pick [.r 9, .r 13, .c (.bool false)] none <|
 .out [(0, .s 0), (3, .s 3), (5, .s 5), (6, .s 6), (12, .s 12), (13, .s 13), (14, .s 14), (41, .r 14)]
def e210r7 : EE := .q 1 (.lda 2) [.s 5] none <|
 .q 2 (.lda 21) [.s 6] none <|
 .q 3 (.bld [z, z, z, z, z, z, z, z, z, z, zs, zs, zs, zs, z, z, z, z, z, z, z, z, (.bool false)] [(0, 2), (2, 21)]) [.r 1, .r 2] none <|
 .x 4 (.bsl 329 1 [z, z, z, z, z, z, z, z, z, z, zs, zs, zs, zs, z, z, z, z, z, z, z, z, (.bool false)] [(0, 23)]) [.r 3] none [] <|
 .x 5 (.app 329 23 216 [z, z, z, z, z, z, z, z, z, z, zs, zs, zs, zs, z, z, z, z, z, z, z, z, (.bool false)]) [.s 3, .r 4] none [] <|
 .out [(0, .s 0), (3, .r 5), (12, .s 12), (13, .s 13), (14, .s 14)]
def e210r8 : EE := .q 0 .add [.s 14, .c (.int .i64 1)] none <|
 .out [(0, .s 0), (3, .s 3), (12, .s 12), (13, .s 13), (14, .r 0)]
def e210l9 : EC := (.seq (.reg e210r3 [0, 3, 12, 13, 14] 0) (.seq (.cond (.s 15) .skip (.exit 0)) (.seq (.block 1 (.seq (.reg e210r4 [0, 3, 12, 13, 14] 0) (.seq (.reg e210r5 [0, 3, 5, 12, 13, 14] 11) (.seq (.reg e210r6 [0, 3, 5, 6, 12, 13, 14] 0) (.cond (.s 41) (.reg e210r7 [0, 3, 5, 6, 12, 13, 14] 0) .skip))))) (.reg e210r8 [0, 3, 12, 13, 14] 0))))
def e210r10 : EE := .out [(2, .s 3)]
def e210 : EFn := ⟨(.seq (.reg e210r0 [0] 0) (.seq (.reg e210r1 [0] 0) (.seq (.seq (.reg e210r2 [0, 3] 0) (.block 0 (.loop [0, 3, 12, 13, 14] e210l9))) (.seq (.reg e210r10 [3] 0) .ret)))), [.slot 2], 50, 0⟩
theorem g210 : Good Tryz.prog 210 e210 := ⟨Tryz.f210, Tryz.func210, by kernel_rfl, by kernel_rfl, by kernel_rfl, by kernel_rfl⟩
/-! (*concord/front.Fronts).Stable -/
def e215r0 : EE := .x 0 (.alc [z, z, z, z, z, z, z] 123) [] none [] <|
 .out [(0, .s 0), (2, .r 0)]
def e215r1 : EE := .q 2 .nl [.s 0] none <|
 .q 3 (.fld 1) [.r 2] none <|
 .q 4 .ld [.r 3] none <|
 .q 5 .nl [.s 0] none <|
 .q 6 (.fld 2) [.r 5] none <|
 .q 7 (.ixa 7 7) [.r 6, .r 4] none <|
 .q 8 (.lda 7) [.r 7] none <|
 .x 9 (.alc [z, z, z, z, z, z, z] 123) [] none [⟨4, .ld, [.r 3], none⟩, ⟨8, (.lda 7), [.r 7], none⟩] <|
 .x 10 (.st 7) [.r 9, .r 8] none [] <|
 .out [(0, .s 0), (2, .s 2), (3, .r 9)]
def e215r2 : EE := .q 1 .nl [.s 0] none <|
 .q 2 (.fld 0) [.r 1] none <|
 .q 3 .ld [.r 2] none <|
 .out [(0, .s 0), (2, .s 2), (3, .s 3), (19, .r 3), (20, .c z)]
def e215r3 : EE := .q 0 .lss [.s 20, .s 19] none <|
 .out [(0, .s 0), (2, .s 2), (3, .s 3), (19, .s 19), (20, .s 20), (21, .r 0)]
def e215r4 : EE := .out [(0, .s 0), (2, .s 2), (3, .s 3), (4, .s 20), (19, .s 19), (20, .s 20)]
def e215r5 : EE := .q 2 .nl [.s 0] none <|
 .q 3 (.fld 2) [.r 2] none <|
 .q 4 (.ixa 7 7) [.r 3, .s 4] none <|
 .q 5 (.lda 7) [.r 4] none <|
 .out [(0, .s 0), (2, .s 2), (3, .s 3), (19, .s 19), (20, .s 20), (28, .r 5), (29, .c z)]
def e215r6 : EE := .q 0 .lss [.s 29, .c (.int .i64 7)] none <|
 .out [(0, .s 0), (2, .s 2), (3, .s 3), (19, .s 19), (20, .s 20), (28, .s 28), (29, .s 29), (30, .r 0)]
def e215r7 : EE := .q 1 (.idx 7 1) [.s 28, .s 29] none <|
 .out [(0, .s 0), (2, .s 2), (3, .s 3), (5, .s 29), (6, .r 1), (19, .s 19), (20, .s 20), (28, .s 28), (29, .s 29)]
def e215r8 : EE := .q 2 (.ixa 7 1) [.s 3, .s 5] none <|
 .q 3 .ld [.r 2] none <|
 .q 5 .mn [.r 3, .s 6] none <|
 .q 6 (.ixa 7 1) [.s 3, .s 5] none <|
 .x 7 (.st 1) [.r 6, .r 5] none [] <|
 .out [(0, .s 0), (2, .s 2), (3, .s 3), (19, .s 19), (20, .s 20), (28, .s 28), (29, .s 29)]
def e215r9 : EE := .q 0 .add [.s 29, .c (.int .i64 1)] none <|
 .out [(0, .s 0), (2, .s 2), (3, .s 3), (19, .s 19), (20, .s 20), (28, .s 28), (29, .r 0)]
def e215l10 : EC := (.seq (.reg e215r6 [0, 2, 3, 19, 20, 28, 29] 0) (.seq (.cond (.s 30) .skip (.exit 2)) (.seq (.block 3 (.seq (.reg e215r7 [0, 2, 3, 19, 20, 28, 29] 0) (.reg e215r8 [0, 2, 3, 5, 6, 19, 20, 28, 29] 0))) (.reg e215r9 [0, 2, 3, 19, 20, 28, 29] 0))))
def e215r11 : EE := .q 0 .add [.s 20, .c (.int .i64 1)] none <|
 .out [(0, .s 0), (2, .s 2), (3, .s 3), (19, .s 19), (20, .r 0)]
def e215l12 : EC := (.seq (.reg e215r3 [0, 2, 3, 19, 20] 0) (.seq (.cond (.s 21) .skip (.exit 0)) (.seq (.block 1 (.seq (.reg e215r4 [0, 2, 3, 19, 20] 0) (.seq (.reg e215r5 [0, 2, 3, 4, 19, 20] 0) (.block 2 (.loop [0, 2, 3, 19, 20, 28, 29] e215l10))))) (.reg e215r11 [0, 2, 3, 19, 20] 0))))
def e215r13 : EE := .q 0 (.lda 7) [.s 3] none <|
 .x 1 (.st 7) [.s 2, .r 0] none [] <|
 .out [(2, .s 2)]
def e215 : EFn := ⟨(.seq (.reg e215r0 [0] 0) (.seq (.reg e215r1 [0, 2] 0) (.seq (.seq (.reg e215r2 [0, 2, 3] 0) (.block 0 (.loop [0, 2, 3, 19, 20] e215l12))) (.seq (.reg e215r13 [2, 3] 0) .ret)))), [.cells 2 7], 43, 0⟩
theorem g215 : Good Tryz.prog 215 e215 := ⟨Tryz.f215, Tryz.func215, by kernel_rfl, by kernel_rfl, by kernel_rfl, by kernel_rfl⟩
/-! (*concord/core.Core).Cells -/
def e217r0 : EE := .out [(0, .s 0)]
def e217r1 : EE := .q 1 .nl [.s 0] none <|
 .q 2 (.fld 2) [.r 1] none <|
 .q 3 .ld [.r 2] none <|
 .x 4 (.call 148) [.r 3] none [] <|
 .out [(2, .r 4)]
def e217 : EFn := ⟨(.seq (.reg e217r0 [0] 0) (.seq (.reg e217r1 [0] 0) .ret)), [.slot 2], 8, 0⟩
theorem g217 : Good Tryz.prog 217 e217 := ⟨Tryz.f217, Tryz.func217, by kernel_rfl, by kernel_rfl, by kernel_rfl, by kernel_rfl⟩
/-! slices.SortFunc[[]concord/api.Inst,concord/api.Inst] -/
def e238r0 : EE := .q 1 .len [.s 0] none <|
 .out [(0, .s 0), (1, .s 1), (4, .r 1)]
def e238r1 : EE := .q 3 (.conv .u64) [.s 4] none <|
 .x 4 (.call 294) [.r 3] none [] <|
 .x 6 (.call 293) [.s 0, .c z, .s 4, .r 4, .s 1] none [] <|
 .out []
def e238 : EFn := ⟨(.seq (.reg e238r0 [0, 1] 0) (.reg e238r1 [0, 1, 4] 0)), [], 14, 0⟩
theorem g238 : Good Tryz.prog 238 e238 := ⟨Tryz.f238, Tryz.func238, by kernel_rfl, by kernel_rfl, by kernel_rfl, by kernel_rfl⟩
/-! (*concord/log.Log).Top -/
def e248r0 : EE := .x 0 (.alc [z, z, z, z, z, z, z] 123) [] none [] <|
 .out [(0, .s 0), (2, .r 0)]
def e248r1 : EE := .q 1 .nl [.s 0] none <|
 .q 2 (.fld 1) [.r 1] none <|
 .q 3 (.lda 7) [.r 2] none <|
 .x 4 (.alc [z, z, z, z, z, z, z] 123) [] none [] <|
 .x 5 (.st 7) [.r 4, .r 3] none [] <|
 .out [(0, .s 0), (2, .s 2), (3, .r 4)]
def e248r2 : EE := .q 1 .nl [.s 0] none <|
 .q 2 (.fld 0) [.r 1] none <|
 .q 3 .ld [.r 2] none <|
 .x 4 .rng [.r 3] none [] <|
 .out [(2, .s 2), (3, .s 3), (13, .r 4)]
def e248r3 : EE := .x 0 .nxt [.s 13] none [] <|
 .q 1 (.ext 0) [.r 0] none <|
 .out [(2, .s 2), (3, .s 3), (13, .s 13), (15, .r 1)]
def e248r4 : EE := .q 0 .ent [.s 13] none <|
 .q 1 (.ext 0) [.r 0] none <|
 .x 2 (.alc [z, z] 119) [] none [] <|
 .x 3 (.st 2) [.r 2, .r 1] none [] <|
 .out [(2, .s 2), (3, .s 3), (4, .r 2), (13, .s 13)]
def e248r5 : EE := .q 0 (.fld 0) [.s 4] none <|
 .q 1 .ld [.r 0] none <|
 .q 2 (.fld 0) [.s 4] none <|
 .q 3 .ld [.r 2] none <|
 .q 4 (.ixa 7 1) [.s 3, .r 3] none <|
 .q 5 .ld [.r 4] none <|
 .q 6 (.fld 1) [.s 4] none <|
 .q 7 .ld [.r 6] none <|
 .q 8 .mx [.r 5, .r 7] none <|
 .q 9 (.ixa 7 1) [.s 3, .r 1] none <|
 .x 10 (.st 1) [.r 9, .r 8] none [] <|
 .out [(2, .s 2), (3, .s 3), (13, .s 13)]
def e248l6 : EC := (.seq (.reg e248r3 [2, 3, 13] 0) (.seq (.cond (.s 15) .skip (.exit 0)) (.block 1 (.seq (.reg e248r4 [2, 3, 13] 0) (.reg e248r5 [2, 3, 4, 13] 0)))))
def e248r7 : EE := .q 0 (.lda 7) [.s 3] none <|
 .x 1 (.st 7) [.s 2, .r 0] none [] <|
 .out [(2, .s 2)]
def e248 : EFn := ⟨(.seq (.reg e248r0 [0] 0) (.seq (.reg e248r1 [0, 2] 0) (.seq (.seq (.reg e248r2 [0, 2, 3] 0) (.block 0 (.loop [2, 3, 13] e248l6))) (.seq (.reg e248r7 [2, 3] 0) .ret)))), [.cells 2 7], 29, 0⟩
theorem g248 : Good Tryz.prog 248 e248 := ⟨Tryz.f248, Tryz.func248, by kernel_rfl, by kernel_rfl, by kernel_rfl, by kernel_rfl⟩
/-! (*concord/log.Log).Cut -/
def e249r0 : EE := .x 0 (.alc [z, z, z, z, z, z, z] 123) [] none [] <|
 .out [(0, .s 0), (2, .r 0)]
def e249r1 : EE := .q 1 .nl [.s 0] none <|
 .q 2 (.fld 1) [.r 1] none <|
 .q 3 (.lda 7) [.r 2] none <|
 .x 4 (.st 7) [.s 2, .r 3] none [] <|
 .out [(2, .s 2)]
def e249 : EFn := ⟨(.seq (.reg e249r0 [0] 0) (.seq (.reg e249r1 [0, 2] 0) .ret)), [.cells 2 7], 7, 0⟩
theorem g249 : Good Tryz.prog 249 e249 := ⟨Tryz.f249, Tryz.func249, by kernel_rfl, by kernel_rfl, by kernel_rfl, by kernel_rfl⟩
/-! concord/dedup.Note -/
def e250r0 : EE := .x 0 (.box 134) [.s 0] none [] <|
 .x 1 (.box 73) [.s 3] none [] <|
 .x 2 (.alc [z, z, (.bool false), zs, z, .nsl, z, z, (.bool false), zs, z, .nsl, z, z, (.bool false), zs, z, .nsl, z, z, (.bool false), zs, z, .nsl, z, z, (.bool false), zs, z, .nsl, z, z, (.bool false), zs, z, .nsl, z, z, (.bool false), zs, z, .nsl, z, z, (.bool false), zs, z, .nsl] 134) [] none [] <|
 .out [(1, .s 1), (2, .s 2), (4, .r 0), (7, .r 1), (8, .r 2)]
def e250r1 : EE := .x 1 (.call 298) [.s 1] none [] <|
 .out [(1, .s 1), (2, .s 2), (4, .s 4), (7, .s 7), (8, .s 8), (11, .r 1)]
def e250r2 : EE := .q 1 .sub [.s 1, .c (.int .i64 1)] none <|
 .q 3 (.lda 5) [.s 7] none <|
 .q 4 (.bld [z, z, (.bool false), zs, z, .nsl] [(0, 1), (1, 5)]) [.s 2, .r 3] none <|
 .q 5 (.ixa 8 6) [.s 4, .r 1] none <|
 .x 6 (.st 6) [.r 5, .r 4] none [] <|
 .out [(4, .s 4), (8, .s 8)]
def e250r3 : EE := .out [(4, .s 4), (8, .s 8), (18, .c z)]
def e250r4 : EE := .q 0 .lss [.s 18, .c (.int .i64 8)] none <|
 .out [(4, .s 4), (8, .s 8), (18, .s 18), (19, .r 0)]
def e250r5 : EE := .out [(4, .s 4), (8, .s 8), (9, .s 18), (18, .s 18)]
def e250r6 : EE := .q 2 (.ixa 8 6) [.s 4, .s 9] none <|
 .q 3 (.fld 1) [.r 2] none <|
 .q 4 (.lda 5) [.r 3] none <|
 .x 5 (.call 299) [.r 4] none [] <|
 .q 6 (.ixa 8 6) [.s 4, .s 9] none <|
 .q 7 (.fld 1) [.r 6] none <|
 .x 8 (.st 5) [.r 7, .r 5] none [] <|
 .out [(4, .s 4), (8, .s 8), (18, .s 18)]
def e250r7 : EE := .q 0 .add [.s 18, .c (.int .i64 1)] none <|
 .out [(4, .s 4), (8, .s 8), (18, .r 0)]
def e250l8 : EC := (.seq (.reg e250r4 [4, 8, 18] 0) (.seq (.cond (.s 19) .skip (.exit 0)) (.seq (.block 1 (.seq (.reg e250r5 [4, 8, 18] 0) (.reg e250r6 [4, 8, 9, 18] 0))) (.reg e250r7 [4, 8, 18] 0))))
def e250r9 : EE := .q 0 (.lda 48) [.s 4] none <|
 .x 1 (.st 48) [.s 8, .r 0] none [] <|
 .out [(8, .s 8)]
def e250 : EFn := ⟨(.seq (.reg e250r0 [0, 1, 2, 3] 0) (.seq (.seq (.reg e250r1 [1, 2, 4, 7, 8] 0) (.cond (.s 11) (.reg e250r2 [1, 2, 4, 7, 8] 0) .skip)) (.seq (.seq (.reg e250r3 [4, 8] 0) (.block 0 (.loop [4, 8, 18] e250l8))) (.seq (.reg e250r9 [4, 8] 0) .ret)))), [.cells 8 48], 31, 0⟩
theorem g250 : Good Tryz.prog 250 e250 := ⟨Tryz.f250, Tryz.func250, by kernel_rfl, by kernel_rfl, by kernel_rfl, by kernel_rfl⟩
/-! concord/sum.On -/
def e259r0 : EE := .out [(0, .s 0), (1, .s 1)]
def e259r1 : EE := .q 1 .cpl [.s 0] none <|
 .out [(0, .r 1), (1, .s 1)]
def e259r2 : EE := .q 1 .len [.s 1] none <|
 .out [(0, .s 0), (10, .s 1), (11, .r 1), (12, .c z)]
def e259r3 : EE := .q 0 .lss [.s 12, .s 11] none <|
 .out [(0, .s 0), (10, .s 10), (11, .s 11), (12, .s 12), (13, .r 0)]
def e259r4 : EE := .q 0 (.ixs 1) [.s 10, .s 12] none <|
 .q 1 .ld [.r 0] none <|
 .out [(0, .s 0), (6, .r 1), (10, .s 10), (11, .s 11), (12, .s 12)]
def e259r5 : EE := .q 2 (.conv .u32) [.s 6] none <|
 .q 3 .xor [.s 0, .r 2] none <|
 .out [(0, .r 3), (10, .s 10), (11, .s 11), (12, .s 12)]
def e259r6 : EE := .out [(0, .s 0), (10, .s 10), (11, .s 11), (12, .s 12), (20, .c z)]
def e259r7 : EE := .q 0 .lss [.s 20, .c (.int .i64 8)] none <|
 .out [(0, .s 0), (10, .s 10), (11, .s 11), (12, .s 12), (20, .s 20), (21, .r 0)]
def e259r8 : EE := .q 1 .and [.s 0, .c (.int .u32 1)] none <|
 .out [(0, .s 0), (7, .r 1), (10, .s 10), (11, .s 11), (12, .s 12), (20, .s 20)]
def e259r9 : EE := .q 1 .shr [.s 0, .c (.int .u64 1)] none <|
 .out [(0, .r 1), (7, .s 7), (10, .s 10), (11, .s 11), (12, .s 12), (20, .s 20)]
def e259r10 : EE := .q 1 .eql [.s 7, .c (.int .u32 1)] none <|
 .out [(0, .s 0), (10, .s 10), (11, .s 11), (12, .s 12), (20, .s 20), (27, .r 1)]
def e259r11 : EE := .q 1 .xor [.s 0, .c (.int .u32 3988292384)] none <|
 .out [(0, .r 1), (10, .s 10), (11, .s 11), (12, .s 12), (20, .s 20)]
def e259r12 : EE := .q 0 .add [.s 20, .c (.int .i64 1)] none <|
 .out [(0, .s 0), (10, .s 10), (11, .s 11), (12, .s 12), (20, .r 0)]
def e259l13 : EC := (.seq (.reg e259r7 [0, 10, 11, 12, 20] 0) (.seq (.cond (.s 21) .skip (.exit 2)) (.seq (.block 3 (.seq (.reg e259r8 [0, 10, 11, 12, 20] 0) (.seq (.reg e259r9 [0, 7, 10, 11, 12, 20] 0) (.seq (.reg e259r10 [0, 7, 10, 11, 12, 20] 0) (.cond (.s 27) (.reg e259r11 [0, 10, 11, 12, 20] 0) .skip))))) (.reg e259r12 [0, 10, 11, 12, 20] 0))))
def e259r14 : EE := .q 0 .add [.s 12, .c (.int .i64 1)] none <|
 .out [(0, .s 0), (10, .s 10), (11, .s 11), (12, .r 0)]
def e259l15 : EC := (.seq (.reg e259r3 [0, 10, 11, 12] 0) (.seq (.cond (.s 13) .skip (.exit 0)) (.seq (.block 1 (.seq (.reg e259r4 [0, 10, 11, 12] 0) (.seq (.reg e259r5 [0, 6, 10, 11, 12] 0) (.seq (.reg e259r6 [0, 10, 11, 12] 0) (.block 2 (.loop [0, 10, 11, 12, 20] e259l13)))))) (.reg e259r14 [0, 10, 11, 12] 0))))
def e259r16 : EE := .q 1 .cpl [.s 0] none <|
 .out [(4, .r 1)]
def e259 : EFn := ⟨(.seq (.reg e259r0 [0, 1] 0) (.seq (.reg e259r1 [0, 1] 0) (.seq (.seq (.reg e259r2 [0, 1] 0) (.block 0 (.loop [0, 10, 11, 12] e259l15))) (.seq (.reg e259r16 [0] 0) .ret)))), [.slot 4], 34, 0⟩
theorem g259 : Good Tryz.prog 259 e259 := ⟨Tryz.f259, Tryz.func259, by kernel_rfl, by kernel_rfl, by kernel_rfl, by kernel_rfl⟩
/-! concord/word.Zig -/
def e269r0 : EE := .out [(0, .s 0)]
def e269r1 : EE := .q 1 (.conv .u64) [.s 0] none <|
 .q 2 .shl [.r 1, .c (.int .u64 1)] none <|
 .q 4 .shr [.s 0, .c (.int .u64 63)] none <|
 .q 5 (.conv .u64) [.r 4] none <|
 .q 6 .xor [.r 2, .r 5] none <|
 .out [(2, .r 6)]
def e269 : EFn := ⟨(.seq (.reg e269r0 [0] 0) (.seq (.reg e269r1 [0] 0) .ret)), [.slot 2], 10, 0⟩
theorem g269 : Good Tryz.prog 269 e269 := ⟨Tryz.f269, Tryz.func269, by kernel_rfl, by kernel_rfl, by kernel_rfl, by kernel_rfl⟩
/-! concord/disk.may -/
def e270r0 : EE := .out [(0, .s 0)]
def e270r1 : EE := .q 1 .seql [.s 0, .c zs] none <|
 .q 3 .mv [.s 0] (some (.r 1, false)) <|
 .q 4 .lenz [.r 3] (some (.r 1, false)) <|
 .q 5 .gtr [.r 4, .c (.int .i64 24)] (some (.r 1, false)) <|
 .q 6 .pick [.r 1, .c (.bool true), .r 5] none <|
 .out [(0, .s 0), (10, .r 6)]
def e270r2 : EE := .out [(2, .c (.bool false))]
def e270r3 : EE := .q 1 .lenz [.s 0] none <|
 .out [(0, .s 0), (12, .r 1), (13, .c z)]
def e270r4 : EE := .q 0 .lss [.s 13, .s 12] none <|
 .out [(0, .s 0), (12, .s 12), (13, .s 13), (14, .r 0)]
def e270r5 : EE := .out [(0, .s 0), (3, .s 13), (12, .s 12), (13, .s 13)]
def e270r6 : EE := .q 2 .idxs [.s 0, .s 3] none <|
 .q 3 .lss [.r 2, .c (.int .u8 33)] none <|
 .q 5 .mv [.s 0] (some (.r 3, false)) <|
 .q 6 .mv [.s 3] (some (.r 3, false)) <|
 .q 7 .idxs [.r 5, .r 6] (some (.r 3, false)) <|
 .q 8 .gtr [.r 7, .c (.int .u8 126)] (some (.r 3, false)) <|
 .q 9 .pick [.r 3, .c (.bool true), .r 8] none <|
 .out [(0, .s 0), (12, .s 12), (13, .s 13), (25, .r 9)]
def e270r7 : EE := .out [(2, .c (.bool false))]
def e270r8 : EE := .q 0 .add [.s 13, .c (.int .i64 1)] none <|
 .out [(0, .s 0), (12, .s 12), (13, .r 0)]
def e270l9 : EC := (.seq (.reg e270r4 [0, 12, 13] 0) (.seq (.cond (.s 14) .skip (.exit 0)) (.seq (.block 1 (.seq (.reg e270r5 [0, 12, 13] 0) (.seq (.reg e270r6 [0, 3, 12, 13] 0) (.cond (.s 25) (.seq (.reg e270r7 [] 0) .ret) .skip)))) (.reg e270r8 [0, 12, 13] 0))))
def e270r10 : EE := .out [(2, .c (.bool true))]
def e270 : EFn := ⟨(.seq (.reg e270r0 [0] 0) (.seq (.seq (.reg e270r1 [0] 0) (.cond (.s 10) (.seq (.reg e270r2 [] 0) .ret) .skip)) (.seq (.seq (.reg e270r3 [0] 0) (.block 0 (.loop [0, 12, 13] e270l9))) (.seq (.reg e270r10 [] 0) .ret)))), [.slot 2], 27, 0⟩
theorem g270 : Good Tryz.prog 270 e270 := ⟨Tryz.f270, Tryz.func270, by kernel_rfl, by kernel_rfl, by kernel_rfl, by kernel_rfl⟩
/-! (*concord/disk.Disk).Room -/
def e271r0 : EE := .out [(0, .s 0)]
def e271r1 : EE := .q 1 .nl [.s 0] none <|
 .q 2 (.fld 0) [.r 1] none <|
 .q 3 .ld [.r 2] none <|
 .x 5 (.call 308) [.s 0] none [⟨3, .ld, [.r 2], none⟩] <|
 .q 6 .sub [.r 3, .r 5] none <|
 .out [(2, .r 6)]
def e271 : EFn := ⟨(.seq (.reg e271r0 [0] 0) (.seq (.reg e271r1 [0] 0) .ret)), [.slot 2], 10, 0⟩
theorem g271 : Good Tryz.prog 271 e271 := ⟨Tryz.f271, Tryz.func271, by kernel_rfl, by kernel_rfl, by kernel_rfl, by kernel_rfl⟩
/-! slices.Insert[[]concord/disk.file,concord/disk.file] -/
def e272r0 : EE := .out [(0, .s 0), (1, .s 1), (2, .s 2)]
def e272r1 : EE := .q 2 (.slc 3 true false) [.s 0, .s 1] none <|
 .out [(0, .s 0), (1, .s 1), (2, .s 2)]
def e272r2 : EE := .q 1 .len [.s 2] none <|
 .out [(0, .s 0), (1, .s 1), (2, .s 2), (7, .r 1)]
def e272r3 : EE := .q 1 .eql [.s 7, .c z] none <|
 .out [(0, .s 0), (1, .s 1), (2, .s 2), (7, .s 7), (16, .r 1)]
def e272r4 : EE := .out [(6, .s 0)]
def e272r5 : EE := .q 1 .len [.s 0] none <|
 .out [(0, .s 0), (1, .s 1), (2, .s 2), (7, .s 7), (8, .r 1)]
def e272r6 : EE := .q 2 .eql [.s 1, .s 8] none <|
 .out [(0, .s 0), (1, .s 1), (2, .s 2), (7, .s 7), (8, .s 8), (22, .r 2)]
def e272r7 : EE := .x 2 (.app 185 3 48 [zs, .nsl, z]) [.s 0, .s 2] none [] <|
 .out [(6, .r 2)]
def e272r8 : EE := .q 2 .add [.s 8, .s 7] none <|
 .q 4 .cap [.s 0] none <|
 .q 5 .gtr [.r 2, .r 4] none <|
 .out [(0, .s 0), (1, .s 1), (2, .s 2), (7, .s 7), (8, .s 8), (31, .r 5)]
def e272r9 : EE := .q 2 (.slc 3 false true) [.s 0, .s 1] none <|
 .q 5 .add [.s 8, .s 7] none <|
 .q 7 .sub [.r 5, .s 1] none <|
 .x 8 (.appn 185 3 48 [zs, .nsl, z]) [.r 2, .r 7] none [] <|
 .out [(0, .s 0), (1, .s 1), (2, .s 2), (7, .s 7), (9, .r 8)]
def e272r10 : EE := .q 2 (.slc 3 true false) [.s 9, .s 1] none <|
 .x 4 (.cpy 3) [.r 2, .s 2] none [] <|
 .out [(0, .s 0), (1, .s 1), (7, .s 7), (9, .s 9)]
def e272r11 : EE := .q 3 .add [.s 1, .s 7] none <|
 .q 4 (.slc 3 true false) [.s 9, .r 3] none <|
 .q 7 (.slc 3 true false) [.s 0, .s 1] none <|
 .x 8 (.cpy 3) [.r 4, .r 7] none [] <|
 .out [(9, .s 9)]
def e272r12 : EE := .out [(6, .s 9)]
def e272r13 : EE := .q 3 .add [.s 8, .s 7] none <|
 .q 4 (.slc 3 false true) [.s 0, .r 3] none <|
 .out [(0, .r 4), (1, .s 1), (2, .s 2), (7, .s 7), (8, .s 8)]
def e272r14 : EE := .q 4 .add [.s 1, .s 7] none <|
 .q 5 (.slc 3 true false) [.s 0, .r 4] none <|
 .x 6 .bad [] none [] <|
 .q 7 .not [.r 6] none <|
 .out [(0, .s 0), (1, .s 1), (2, .s 2), (7, .s 7), (8, .s 8), (68, .r 7)]
def e272r15 : EE := .q 3 .add [.s 1, .s 7] none <|
 .q 4 (.slc 3 true false) [.s 0, .r 3] none <|
 .q 7 (.slc 3 true false) [.s 0, .s 1] none <|
 .x 8 (.cpy 3) [.r 4, .r 7] none [] <|
 .out [(0, .s 0), (1, .s 1), (2, .s 2)]
def e272r16 : EE := .q 2 (.slc 3 true false) [.s 0, .s 1] none <|
 .x 4 (.cpy 3) [.r 2, .s 2] none [] <|
 .out [(0, .s 0)]
def e272r17 : EE := .out [(6, .s 0)]
def e272r18 : EE := .q 2 (.slc 3 true false) [.s 0, .s 8] none <|
 .x 4 (.cpy 3) [.r 2, .s 2] none [] <|
 .out [(0, .s 0), (1, .s 1), (7, .s 7)]
def e272r19 : EE := .q 2 (.slc 3 true false) [.s 0, .s 1] none <|
 .x 4 (.call 310) [.r 2, .s 7] none [] <|
 .out [(0, .s 0)]
def e272r20 : EE := .out [(6, .s 0)]
def e272 : EFn := ⟨(.seq (.reg e272r0 [0, 1, 2] 0) (.seq (.reg e272r1 [0, 1, 2] 0) (.seq (.reg e272r2 [0, 1, 2] 0) (.seq (.seq (.reg e272r3 [0, 1, 2, 7] 0) (.cond (.s 16) (.seq (.reg e272r4 [0] 0) .ret) .skip)) (.seq (.reg e272r5 [0, 1, 2, 7] 0) (.seq (.seq (.reg e272r6 [0, 1, 2, 7, 8] 0) (.cond (.s 22) (.seq (.reg e272r7 [0, 2] 0) .ret) .skip)) (.seq (.seq (.reg e272r8 [0, 1, 2, 7, 8] 0) (.cond (.s 31) (.seq (.reg e272r9 [0, 1, 2, 7, 8] 0) (.seq (.reg e272r10 [0, 1, 2, 7, 9] 0) (.seq (.reg e272r11 [0, 1, 7, 9] 0) (.seq (.reg e272r12 [9] 0) .ret)))) .skip)) (.seq (.reg e272r13 [0, 1, 2, 7, 8] 0) (.seq (.seq (.reg e272r14 [0, 1, 2, 7, 8] 0) (.cond (.s 68) (.seq (.reg e272r15 [0, 1, 2, 7] 0) (.seq (.reg e272r16 [0, 1, 2] 0) (.seq (.reg e272r17 [0] 0) .ret))) .skip)) (.seq (.reg e272r18 [0, 1, 2, 7, 8] 0) (.seq (.reg e272r19 [0, 1, 7] 0) (.seq (.reg e272r20 [0] 0) .ret)))))))))))), [.slot 6], 95, 0⟩
theorem g272 : Good Tryz.prog 272 e272 := ⟨Tryz.f272, Tryz.func272, by kernel_rfl, by kernel_rfl, by kernel_rfl, by kernel_rfl⟩
/-! slices.Concat[[]byte,byte] -/
def e273r0 : EE := .out [(0, .s 0)]
def e273r1 : EE := .out [(0, .s 0), (3, .c z)]
def e273r2 : EE := .q 1 .len [.s 0] none <|
 .out [(0, .s 0), (3, .s 3), (9, .s 0), (10, .r 1), (11, .c z)]
def e273r3 : EE := .q 0 .lss [.s 11, .s 10] none <|
 .out [(0, .s 0), (3, .s 3), (9, .s 9), (10, .s 10), (11, .s 11), (12, .r 0)]
def e273r4 : EE := .q 0 (.ixs 1) [.s 9, .s 11] none <|
 .q 1 .ld [.r 0] none <|
 .out [(0, .s 0), (3, .s 3), (5, .r 1), (9, .s 9), (10, .s 10), (11, .s 11)]
def e273r5 : EE := .q 2 .len [.s 5] none <|
 .q 3 .add [.s 3, .r 2] none <|
 .out [(0, .s 0), (3, .r 3), (9, .s 9), (10, .s 10), (11, .s 11)]
def e273r6 : EE := .q 1 .lss [.s 3, .c z] none <|
 .out [(0, .s 0), (3, .s 3), (9, .s 9), (10, .s 10), (11, .s 11), (20, .r 1)]
def e273r7 : EE := .q 0 (.mki 9) [.c (.str [108, 101, 110, 32, 111, 117, 116, 32, 111, 102, 32, 114, 97, 110, 103, 101])] none <|
 .x 1 .bad [] none [] <|
 .out [(0, .s 0), (3, .s 3), (9, .s 9), (10, .s 10), (11, .s 11)]
def e273r8 : EE := .q 0 .add [.s 11, .c (.int .i64 1)] none <|
 .out [(0, .s 0), (3, .s 3), (9, .s 9), (10, .s 10), (11, .r 0)]
def e273l9 : EC := (.seq (.reg e273r3 [0, 3, 9, 10, 11] 0) (.seq (.cond (.s 12) .skip (.exit 0)) (.seq (.block 1 (.seq (.reg e273r4 [0, 3, 9, 10, 11] 0) (.seq (.reg e273r5 [0, 3, 5, 9, 10, 11] 0) (.seq (.reg e273r6 [0, 3, 9, 10, 11] 0) (.cond (.s 20) (.reg e273r7 [0, 3, 9, 10, 11] 0) .skip))))) (.reg e273r8 [0, 3, 9, 10, 11] 0))))
def e273r10 : EE := .x 1 (.call 311) [.c .nsl, .s 3] none [] <|
 .out [(0, .s 0), (6, .r 1)]
def e273r11 : EE := .q 1 .len [.s 0] none <|
 .out [(6, .s 6), (25, .s 0), (26, .r 1), (27, .c z)]
def e273r12 : EE := .q 0 .lss [.s 27, .s 26] none <|
 .out [(6, .s 6), (25, .s 25), (26, .s 26), (27, .s 27), (28, .r 0)]
def e273r13 : EE := .q 0 (.ixs 1) [.s 25, .s 27] none <|
 .q 1 .ld [.r 0] none <|
 .out [(6, .s 6), (8, .r 1), (25, .s 25), (26, .s 26), (27, .s 27)]
def e273r14 : EE := .x 2 (.app 5 1 1 [(.int .u8 0)]) [.s 6, .s 8] none [] <|
 .out [(6, .r 2), (25, .s 25), (26, .s 26), (27, .s 27)]
def e273r15 : EE := .q 0 .add [.s 27, .c (.int .i64 1)] none <|
 .out [(6, .s 6), (25, .s 25), (26, .s 26), (27, .r 0)]
def e273l16 : EC := (.seq (.reg e273r12 [6, 25, 26, 27] 0) (.seq (.cond (.s 28) .skip (.exit 2)) (.seq (.block 3 (.seq (.reg e273r13 [6, 25, 26, 27] 0) (.reg e273r14 [6, 8, 25, 26, 27] 0))) (.reg e273r15 [6, 25, 26, 27] 0))))
def e273r17 : EE := .out [(2, .s 6)]
def e273 : EFn := ⟨(.seq (.reg e273r0 [0] 0) (.seq (.reg e273r1 [0] 0) (.seq (.seq (.reg e273r2 [0, 3] 0) (.block 0 (.loop [0, 3, 9, 10, 11] e273l9))) (.seq (.reg e273r10 [0, 3] 0) (.seq (.seq (.reg e273r11 [0, 6] 0) (.block 2 (.loop [6, 25, 26, 27] e273l16))) (.seq (.reg e273r17 [6] 0) .ret)))))), [.slot 2], 36, 0⟩
theorem g273 : Good Tryz.prog 273 e273 := ⟨Tryz.f273, Tryz.func273, by kernel_rfl, by kernel_rfl, by kernel_rfl, by kernel_rfl⟩
/-! (*concord/exec.plan).round -/
def e274r0 : EE := .out [(0, .s 0)]
def e274r1 : EE := .x 0 (.call 312) [.c .nsl] none [] <|
 .out [(0, .s 0), (4, .c (.bool false)), (5, .r 0)]
def e274r2 : EE := .out [(0, .s 0), (4, .s 4), (5, .s 5), (13, .c z)]
def e274r3 : EE := .q 0 .lss [.s 13, .c (.int .i64 7)] none <|
 .out [(0, .s 0), (4, .s 4), (5, .s 5), (13, .s 13), (14, .r 0)]
def e274r4 : EE := .out [(0, .s 0), (4, .s 4), (5, .s 5), (6, .s 13), (13, .s 13)]
def e274r5 : EE := .q 3 .nl [.s 0] none <|
 .q 4 (.fld 0) [.r 3] none <|
 .q 5 (.ixa 7 1) [.r 4, .s 6] none <|
 .q 6 .ld [.r 5] none <|
 .q 7 .add [.r 6, .c (.int .i64 1)] none <|
 .q 8 (.bld [z, z] [(0, 1), (1, 1)]) [.s 6, .r 7] none <|
 .x 9 (.alc [z, z] 119) [] none [] <|
 .x 10 (.st 2) [.r 9, .r 8] none [] <|
 .out [(0, .s 0), (4, .s 4), (5, .s 5), (7, .r 9), (13, .s 13)]
def e274r6 : EE := .q 1 .nl [.s 0] none <|
 .q 2 (.fld 7) [.r 1] none <|
 .q 3 .ld [.r 2] none <|
 .q 4 (.lda 2) [.s 7] none <|
 .q 5 (.lkp true [(.i .i64), (.i .i64)] (.agg [z, z, z, z, z, z, z, z, zs, zs, zs, zs, z, z, z, z, z, z, z, z, (.bool false)]) true) [.r 3, .r 4] none <|
 .q 7 (.ext 0) [.r 5] none <|
 .q 8 (.ext 1) [.r 5] none <|
 .x 9 (.alc [z, z, z, z, z, z, z, z, zs, zs, zs, zs, z, z, z, z, z, z, z, z, (.bool false)] 127) [] none [⟨3, .ld, [.r 2], none⟩, ⟨4, (.lda 2), [.s 7], none⟩, ⟨5, (.lkp true [(.i .i64), (.i .i64)] (.agg [z, z, z, z, z, z, z, z, zs, zs, zs, zs, z, z, z, z, z, z, z, z, (.bool false)]) true), [.r 3, .r 4], none⟩] <|
 .x 10 (.st 21) [.r 9, .r 7] none [] <|
 .out [(0, .s 0), (4, .s 4), (5, .s 5), (7, .s 7), (9, .r 8), (13, .s 13)]
def e274r7 : EE := .q 1 .not [.s 9] none <|
 .out [(0, .s 0), (4, .s 4), (5, .s 5), (7, .s 7), (13, .s 13), (35, .r 1)]
def e274r8 : EE := .q 1 (.lda 2) [.s 7] none <|
 .x 2 (.call 313) [.s 0, .r 1] none [] <|
 .out [(0, .s 0), (4, .s 4), (5, .s 5), (7, .s 7), (13, .s 13), (38, .r 2)]
def e274r9 : EE := .q 1 (.lda 2) [.s 7] none <|
 .x 2 (.call 314) [.s 5, .r 1] none [] <|
 .out [(0, .s 0), (4, .s 4), (5, .s 5), (13, .s 13)]
def e274r10 : EE := .q 1 (.lda 2) [.s 7] none <|
 .x 2 (.call 315) [.s 0, .r 1] none [] <|
 .q 4 (.ext 0) [.r 2] none <|
 .q 5 (.ext 1) [.r 2] none <|
 .x 6 (.alc [z, z] 119) [] none [] <|
 .x 8 (.st 2) [.r 6, .r 5] none [] <|
 .out [(0, .s 0), (4, .s 4), (5, .s 5), (10, .r 4), (11, .r 6), (13, .s 13)]
def e274r11 : EE := .q 1 .len [.s 10] none <|
 .q 2 .gtr [.r 1, .c z] none <|
 .out [(0, .s 0), (4, .s 4), (5, .s 5), (10, .s 10), (11, .s 11), (13, .s 13), (48, .r 2)]
def e274r12 : EE := .x 2 (.call 316) [.s 0, .s 10] none [] <|
 .out [(0, .s 0), (5, .s 5), (13, .s 13)]
def e274r13 : EE := .out [(0, .s 0), (4, .c (.bool true)), (5, .s 5), (13, .s 13)]
def e274r14 : EE := .q 0 (.lda 2) [.s 11] none <|
 .q 1 (.bld [z, z] []) [] none <|
 .q 2 (.eqc true [(.i .i64), (.i .i64)]) [.r 0, .r 1] none <|
 .out [(0, .s 0), (4, .s 4), (5, .s 5), (11, .s 11), (13, .s 13), (55, .r 2)]
def e274r15 : EE := .q 1 (.lda 2) [.s 11] none <|
 .x 2 (.call 314) [.s 5, .r 1] none [] <|
 .out [(0, .s 0), (4, .s 4), (5, .s 5), (13, .s 13)]
def e274r16 : EE := .q 0 .add [.s 13, .c (.int .i64 1)] none <|
 .out [(0, .s 0), (4, .s 4), (5, .s 5), (13, .r 0)]
def e274l17 : EC := (.seq (.reg e274r3 [0, 4, 5, 13] 0) (.seq (.cond (.s 14) .skip (.exit 0)) (.seq (.block 1 (.seq (.reg e274r4 [0, 4, 5, 13] 0) (.seq (.reg e274r5 [0, 4, 5, 6, 13] 0) (.seq (.seq (.reg e274r6 [0, 4, 5, 7, 13] 0) (.seq (.reg e274r7 [0, 4, 5, 7, 9, 13] 0) (.cond (.s 35) (.seq (.seq (.reg e274r8 [0, 4, 5, 7, 13] 0) (.cond (.s 38) (.reg e274r9 [0, 4, 5, 7, 13] 0) .skip)) (.exit 1)) .skip))) (.seq (.reg e274r10 [0, 4, 5, 7, 13] 0) (.block 2 (.seq (.reg e274r11 [0, 4, 5, 10, 11, 13] 0) (.cond (.s 48) (.seq (.reg e274r12 [0, 5, 10, 13] 0) (.reg e274r13 [0, 5, 13] 0)) (.seq (.reg e274r14 [0, 4, 5, 11, 13] 0) (.cond (.s 55) (.reg e274r15 [0, 4, 5, 11, 13] 0) .skip)))))))))) (.reg e274r16 [0, 4, 5, 13] 0))))
def e274r18 : EE := .out [(2, .s 4), (3, .s 5)]
def e274 : EFn := ⟨(.seq (.reg e274r0 [0] 0) (.seq (.reg e274r1 [0] 0) (.seq (.seq (.reg e274r2 [0, 4, 5] 0) (.block 0 (.loop [0, 4, 5, 13] e274l17))) (.seq (.reg e274r18 [4, 5] 0) .ret)))), [.slot 2, .slot 3], 65, 0⟩
theorem g274 : Good Tryz.prog 274 e274 := ⟨Tryz.f274, Tryz.func274, by kernel_rfl, by kernel_rfl, by kernel_rfl, by kernel_rfl⟩
/-! (*concord/inst.Set).List -/
def e275r0 : EE := .out [(0, .s 0)]
def e275r1 : EE := .out [(0, .s 0), (3, .c .nsl)]
def e275r2 : EE := .q 1 .nl [.s 0] none <|
 .q 2 (.fld 0) [.r 1] none <|
 .q 3 .ld [.r 2] none <|
 .x 4 .rng [.r 3] none [] <|
 .out [(3, .s 3), (9, .r 4)]
def e275r3 : EE := .x 0 .nxt [.s 9] none [] <|
 .q 1 (.ext 0) [.r 0] none <|
 .out [(3, .s 3), (9, .s 9), (11, .r 1)]
def e275r4 : EE := .q 0 .ent [.s 9] none <|
 .q 1 (.ext 0) [.r 0] none <|
 .x 2 (.alc [z, z] 119) [] none [] <|
 .x 3 (.st 2) [.r 2, .r 1] none [] <|
 .out [(3, .s 3), (4, .r 2), (9, .s 9)]
def e275r5 : EE := .q 1 (.lda 2) [.s 4] none <|
 .x 2 (.bsl 119 1 [z, z] [(0, 2)]) [.r 1] none [] <|
 .x 3 (.app 119 2 16 [z, z]) [.s 3, .r 2] none [] <|
 .out [(3, .r 3), (9, .s 9)]
def e275l6 : EC := (.seq (.reg e275r3 [3, 9] 0) (.seq (.cond (.s 11) .skip (.exit 0)) (.block 1 (.seq (.reg e275r4 [3, 9] 0) (.reg e275r5 [3, 4, 9] 0)))))
def e275r7 : EE := .x 1 (.call 238) [.s 3, .f 317] none [] <|
 .out [(3, .s 3)]
def e275r8 : EE := .out [(2, .s 3)]
def e275 : EFn := ⟨(.seq (.reg e275r0 [0] 0) (.seq (.reg e275r1 [0] 0) (.seq (.seq (.reg e275r2 [0, 3] 0) (.block 0 (.loop [3, 9] e275l6))) (.seq (.reg e275r7 [3] 0) (.seq (.reg e275r8 [3] 0) .ret))))), [.slot 2], 21, 0⟩
theorem g275 : Good Tryz.prog 275 e275 := ⟨Tryz.f275, Tryz.func275, by kernel_rfl, by kernel_rfl, by kernel_rfl, by kernel_rfl⟩
/-! slices.pdqsortCmpFunc[concord/api.Inst] -/
def e293r0 : EE := .out [(0, .s 0), (1, .s 1), (2, .s 2), (3, .s 3), (4, .s 4), (10, .c (.bool true))]
def e293r1 : EE := .out [(0, .s 0), (1, .s 1), (2, .s 2), (3, .s 3), (4, .s 4), (10, .s 10), (11, .c (.bool true))]
def e293r2 : EE := .q 2 .sub [.s 2, .s 1] none <|
 .out [(0, .s 0), (1, .s 1), (2, .s 2), (3, .s 3), (4, .s 4), (10, .s 10), (11, .s 11), (12, .r 2)]
def e293r3 : EE := .q 1 .leq [.s 12, .c (.int .i64 12)] none <|
 .out [(0, .s 0), (1, .s 1), (2, .s 2), (3, .s 3), (4, .s 4), (10, .s 10), (11, .s 11), (12, .s 12), (25, .r 1)]
def e293r4 : EE := .x 4 (.call 328) [.s 0, .s 1, .s 2, .s 4] none [] <|
 .out []
def e293r5 : EE := .q 1 .eql [.s 3, .c z] none <|
 .out [(0, .s 0), (1, .s 1), (2, .s 2), (3, .s 3), (4, .s 4), (10, .s 10), (11, .s 11), (12, .s 12), (32, .r 1)]
def e293r6 : EE := .x 4 (.call 329) [.s 0, .s 1, .s 2, .s 4] none [] <|
 .out []
def e293r7 : EE := .q 1 .not [.s 10] none <|
 .out [(0, .s 0), (1, .s 1), (2, .s 2), (3, .s 3), (4, .s 4), (10, .s 10), (11, .s 11), (12, .s 12), (39, .r 1)]
def e293r8 : EE := .x 4 (.call 330) [.s 0, .s 1, .s 2, .s 4] none [] <|
 .out [(0, .s 0), (1, .s 1), (2, .s 2), (3, .s 3), (4, .s 4), (10, .s 10), (11, .s 11), (12, .s 12)]
def e293r9 : EE := .q 1 .sub [.s 3, .c (.int .i64 1)] none <|
 .out [(0, .s 0), (1, .s 1), (2, .s 2), (3, .r 1), (4, .s 4), (10, .s 10), (11, .s 11), (12, .s 12)]
def e293r10 : EE := .x 4 (.call 331) [.s 0, .s 1, .s 2, .s 4] none [] <|
 .q 6 (.ext 0) [.r 4] none <|
 .q 7 (.ext 1) [.r 4] none <|
 .out [(0, .s 0), (1, .s 1), (2, .s 2), (3, .s 3), (4, .s 4), (10, .s 10), (11, .s 11), (12, .s 12), (13, .r 6), (14, .r 7)]
def e293r11 : EE := .q 1 .eql [.s 14, .c (.int .i64 2)] none <|
 .out [(0, .s 0), (1, .s 1), (2, .s 2), (3, .s 3), (4, .s 4), (10, .s 10), (11, .s 11), (12, .s 12), (13, .s 13), (14, .s 14), (56, .r 1)]
def e293r12 : EE := .x 4 (.call 332) [.s 0, .s 1, .s 2, .s 4] none [] <|
 .out [(0, .s 0), (1, .s 1), (2, .s 2), (3, .s 3), (4, .s 4), (10, .s 10), (11, .s 11), (12, .s 12), (13, .s 13)]
def e293r13 : EE := .q 1 .sub [.s 2, .c (.int .i64 1)] none <|
 .q 4 .sub [.s 13, .s 1] none <|
 .q 5 .sub [.r 1, .r 4] none <|
 .out [(0, .s 0), (1, .s 1), (2, .s 2), (3, .s 3), (4, .s 4), (10, .s 10), (11, .s 11), (12, .s 12), (13, .r 5)]
def e293r14 : EE := .out [(0, .s 0), (1, .s 1), (2, .s 2), (3, .s 3), (4, .s 4), (10, .s 10), (11, .s 11), (12, .s 12), (13, .s 13), (14, .c (.int .i64 1))]
def e293r15 : EE := .q 2 .mv [.s 11] (some (.s 10, true)) <|
 .q 3 .pick [.s 10, .r 2, .c (.bool false)] none <|
 .q 5 .mv [.s 14] (some (.r 3, true)) <|
 .q 6 .eql [.r 5, .c (.int .i64 1)] (some (.r 3, true)) <|
 .q 7 .pick [.r 3, .r 6, .c (.bool false)] none <|
 .out [(0, .s 0), (1, .s 1), (2, .s 2), (3, .s 3), (4, .s 4), (10, .s 10), (11, .s 11), (12, .s 12), (13, .s 13), (75, .r 7)]
def e293r16 : EE := .x 4 (.call 333) [.s 0, .s 1, .s 2, .s 4] none [] <|
 .out [(0, .s 0), (1, .s 1), (2, .s 2), (3, .s 3), (4, .s 4), (10, .s 10), (11, .s 11), (12, .s 12), (13, .s 13), (80, .r 4)]
def e293r17 : EE := .q 1 .gtr [.s 1, .c z] none <|
 .q 3 .mv [.s 4] (some (.r 1, true)) <|
 .q 4 .mv [.s 0] (some (.r 1, true)) <|
 .q 5 .mv [.s 1] (some (.r 1, true)) <|
 .q 6 .sub [.r 5, .c (.int .i64 1)] (some (.r 1, true)) <|
 .q 7 (.ixs 2) [.r 4, .r 6] (some (.r 1, true)) <|
 .q 8 (.lda 2) [.r 7] (some (.r 1, true)) <|
 .q 9 .mv [.s 0] (some (.r 1, true)) <|
 .q 10 .mv [.s 13] (some (.r 1, true)) <|
 .q 11 (.ixs 2) [.r 9, .r 10] (some (.r 1, true)) <|
 .q 12 (.lda 2) [.r 11] (some (.r 1, true)) <|
 .x 13 .callv [.r 3, .r 8, .r 12] (some (.r 1, true)) [] <|
 .q 14 .lss [.r 13, .c z] (some (.r 1, true)) <|
 .q 15 .not [.r 14] (some (.r 1, true)) <|
 .q 16 .pick [.r 1, .r 15, .c (.bool false)] none <|
 .out [(0, .s 0), (1, .s 1), (2, .s 2), (3, .s 3), (4, .s 4), (10, .s 10), (11, .s 11), (12, .s 12), (13, .s 13), (97, .r 16)]
def e293r18 : EE := .x 5 (.call 334) [.s 0, .s 1, .s 2, .s 13, .s 4] none [] <|
 .out [(0, .s 0), (2, .s 2), (3, .s 3), (4, .s 4), (10, .s 10), (11, .s 11), (15, .r 5)]
def e293r19 : EE := .out [(0, .s 0), (1, .s 15), (2, .s 2), (3, .s 3), (4, .s 4), (10, .s 10), (11, .s 11)]
def e293r20 : EE := .x 5 (.call 335) [.s 0, .s 1, .s 2, .s 13, .s 4] none [] <|
 .q 7 (.ext 0) [.r 5] none <|
 .q 8 (.ext 1) [.r 5] none <|
 .out [(0, .s 0), (1, .s 1), (2, .s 2), (3, .s 3), (4, .s 4), (12, .s 12), (16, .r 7), (17, .r 8)]
def e293r21 : EE := .out [(0, .s 0), (1, .s 1), (2, .s 2), (3, .s 3), (4, .s 4), (11, .s 17), (12, .s 12), (16, .s 16)]
def e293r22 : EE := .q 2 .sub [.s 16, .s 1] none <|
 .q 5 .sub [.s 2, .s 16] none <|
 .out [(0, .s 0), (1, .s 1), (2, .s 2), (3, .s 3), (4, .s 4), (11, .s 11), (12, .s 12), (16, .s 16), (18, .r 2), (19, .r 5)]
def e293r23 : EE := .q 1 .quo [.s 12, .c (.int .i64 8)] none <|
 .out [(0, .s 0), (1, .s 1), (2, .s 2), (3, .s 3), (4, .s 4), (11, .s 11), (16, .s 16), (18, .s 18), (19, .s 19), (20, .r 1)]
def e293r24 : EE := .q 2 .lss [.s 18, .s 19] none <|
 .out [(0, .s 0), (1, .s 1), (2, .s 2), (3, .s 3), (4, .s 4), (11, .s 11), (16, .s 16), (18, .s 18), (19, .s 19), (20, .s 20), (125, .r 2)]
def e293r25 : EE := .q 2 .geq [.s 18, .s 20] none <|
 .out [(0, .s 0), (1, .s 1), (2, .s 2), (3, .s 3), (4, .s 4), (10, .r 2), (11, .s 11), (16, .s 16)]
def e293r26 : EE := .x 5 (.call 293) [.s 0, .s 1, .s 16, .s 3, .s 4] none [] <|
 .out [(0, .s 0), (2, .s 2), (3, .s 3), (4, .s 4), (10, .s 10), (11, .s 11), (16, .s 16)]
def e293r27 : EE := .q 1 .add [.s 16, .c (.int .i64 1)] none <|
 .out [(0, .s 0), (1, .r 1), (2, .s 2), (3, .s 3), (4, .s 4), (10, .s 10), (11, .s 11)]
def e293r28 : EE := .q 2 .geq [.s 19, .s 20] none <|
 .out [(0, .s 0), (1, .s 1), (2, .s 2), (3, .s 3), (4, .s 4), (10, .r 2), (11, .s 11), (16, .s 16)]
def e293r29 : EE := .q 2 .add [.s 16, .c (.int .i64 1)] none <|
 .x 6 (.call 293) [.s 0, .r 2, .s 2, .s 3, .s 4] none [] <|
 .out [(0, .s 0), (1, .s 1), (3, .s 3), (4, .s 4), (10, .s 10), (11, .s 11), (16, .s 16)]
def e293r30 : EE := .out [(0, .s 0), (1, .s 1), (2, .s 16), (3, .s 3), (4, .s 4), (10, .s 10), (11, .s 11)]
def e293l31 : EC := (.block 1 (.seq (.reg e293r2 [0, 1, 2, 3, 4, 10, 11] 0) (.seq (.seq (.reg e293r3 [0, 1, 2, 3, 4, 10, 11, 12] 0) (.cond (.s 25) (.seq (.reg e293r4 [0, 1, 2, 4] 0) .ret) .skip)) (.seq (.seq (.reg e293r5 [0, 1, 2, 3, 4, 10, 11, 12] 0) (.cond (.s 32) (.seq (.reg e293r6 [0, 1, 2, 4] 0) .ret) .skip)) (.seq (.seq (.reg e293r7 [0, 1, 2, 3, 4, 10, 11, 12] 0) (.cond (.s 39) (.seq (.reg e293r8 [0, 1, 2, 3, 4, 10, 11, 12] 0) (.reg e293r9 [0, 1, 2, 3, 4, 10, 11, 12] 0)) .skip)) (.seq (.reg e293r10 [0, 1, 2, 3, 4, 10, 11, 12] 0) (.seq (.seq (.reg e293r11 [0, 1, 2, 3, 4, 10, 11, 12, 13, 14] 0) (.cond (.s 56) (.seq (.reg e293r12 [0, 1, 2, 3, 4, 10, 11, 12, 13] 0) (.seq (.reg e293r13 [0, 1, 2, 3, 4, 10, 11, 12, 13] 0) (.reg e293r14 [0, 1, 2, 3, 4, 10, 11, 12, 13] 0))) .skip)) (.seq (.seq (.reg e293r15 [0, 1, 2, 3, 4, 10, 11, 12, 13, 14] 0) (.cond (.s 75) (.seq (.reg e293r16 [0, 1, 2, 3, 4, 10, 11, 12, 13] 0) (.cond (.s 80) .ret .skip)) .skip)) (.seq (.seq (.reg e293r17 [0, 1, 2, 3, 4, 10, 11, 12, 13] 0) (.cond (.s 97) (.seq (.reg e293r18 [0, 1, 2, 3, 4, 10, 11, 13] 0) (.seq (.reg e293r19 [0, 2, 3, 4, 10, 11, 15] 0) (.exit 1))) .skip)) (.seq (.reg e293r20 [0, 1, 2, 3, 4, 12, 13] 0) (.seq (.reg e293r21 [0, 1, 2, 3, 4, 12, 16, 17] 0) (.seq (.reg e293r22 [0, 1, 2, 3, 4, 11, 12, 16] 0) (.seq (.reg e293r23 [0, 1, 2, 3, 4, 11, 12, 16, 18, 19] 0) (.seq (.reg e293r24 [0, 1, 2, 3, 4, 11, 16, 18, 19, 20] 0) (.cond (.s 125) (.seq (.reg e293r25 [0, 1, 2, 3, 4, 11, 16, 18, 20] 0) (.seq (.reg e293r26 [0, 1, 2, 3, 4, 10, 11, 16] 0) (.reg e293r27 [0, 2, 3, 4, 10, 11, 16] 0))) (.seq (.reg e293r28 [0, 1, 2, 3, 4, 11, 16, 19, 20] 0) (.seq (.reg e293r29 [0, 1, 2, 3, 4, 10, 11, 16] 0) (.reg e293r30 [0, 1, 3, 4, 10, 11, 16] 0))))))))))))))))))
def e293 : EFn := ⟨(.seq (.reg e293r0 [0, 1, 2, 3, 4] 0) (.seq (.reg e293r1 [0, 1, 2, 3, 4, 10] 0) (.block 0 (.loop [0, 1, 2, 3, 4, 10, 11] e293l31)))), [], 148, 0⟩
theorem g293 : Good Tryz.prog 293 e293 := ⟨Tryz.f293, Tryz.func293, by kernel_rfl, by kernel_rfl, by kernel_rfl, by kernel_rfl⟩
/-! math/bits.Len -/
def e294r0 : EE := .out [(0, .s 0)]
def e294r1 : EE := .q 1 (.conv .u32) [.s 0] none <|
 .x 2 (.call 336) [.r 1] none [] <|
 .out [(2, .r 2)]
def e294r2 : EE := .x 1 (.call 166) [.s 0] none [] <|
 .out [(2, .r 1)]
def e294 : EFn := ⟨(.seq (.reg e294r0 [0] 0) (.seq (.cond (.c (.bool false)) (.seq (.reg e294r1 [0] 0) .ret) .skip) (.seq (.reg e294r2 [0] 0) .ret))), [.slot 2], 8, 0⟩
theorem g294 : Good Tryz.prog 294 e294 := ⟨Tryz.f294, Tryz.func294, by kernel_rfl, by kernel_rfl, by kernel_rfl, by kernel_rfl⟩
/-! concord/dedup.known -/
def e298r0 : EE := .out [(0, .s 0)]
def e298r1 : EE := .q 1 .geq [.s 0, .c (.int .i64 1)] none <|
 .q 3 .mv [.s 0] (some (.r 1, true)) <|
 .q 4 .leq [.r 3, .c (.int .i64 8)] (some (.r 1, true)) <|
 .q 5 .pick [.r 1, .r 4, .c (.bool false)] none <|
 .out [(2, .r 5)]
def e298 : EFn := ⟨(.seq (.reg e298r0 [0] 0) (.seq (.reg e298r1 [0] 0) .ret)), [.slot 2], 9, 0⟩
theorem g298 : Good Tryz.prog 298 e298 := ⟨Tryz.f298, Tryz.func298, by kernel_rfl, by kernel_rfl, by kernel_rfl, by kernel_rfl⟩
/-! concord/dedup.copied -/
def e299r0 : EE := .x 0 (.box 73) [.s 0] none [] <|
 .x 1 (.alc [z, (.bool false), zs, z, .nsl] 73) [] none [] <|
 .out [(1, .r 0), (2, .r 1)]
def e299r1 : EE := .q 0 (.fld 4) [.s 1] none <|
 .q 1 .ld [.r 0] none <|
 .x 2 (.call 47) [.r 1] none [] <|
 .q 3 (.fld 4) [.s 1] none <|
 .x 4 (.st 1) [.r 3, .r 2] none [] <|
 .out [(1, .s 1), (2, .s 2)]
def e299r2 : EE := .q 0 (.lda 5) [.s 1] none <|
 .x 1 (.st 5) [.s 2, .r 0] none [] <|
 .out [(2, .s 2)]
def e299 : EFn := ⟨(.seq (.reg e299r0 [0] 0) (.seq (.reg e299r1 [1, 2] 0) (.seq (.reg e299r2 [1, 2] 0) .ret))), [.cells 2 5], 8, 0⟩
theorem g299 : Good Tryz.prog 299 e299 := ⟨Tryz.f299, Tryz.func299, by kernel_rfl, by kernel_rfl, by kernel_rfl, by kernel_rfl⟩
/-! (*concord/disk.Disk).Total -/
def e308r0 : EE := .out [(0, .s 0)]
def e308r1 : EE := .out [(0, .s 0), (3, .c z)]
def e308r2 : EE := .q 1 .nl [.s 0] none <|
 .q 2 (.fld 1) [.r 1] none <|
 .q 3 .ld [.r 2] none <|
 .q 4 .len [.r 3] none <|
 .out [(3, .s 3), (9, .r 3), (10, .r 4), (11, .c z)]
def e308r3 : EE := .q 0 .lss [.s 11, .s 10] none <|
 .out [(3, .s 3), (9, .s 9), (10, .s 10), (11, .s 11), (12, .r 0)]
def e308r4 : EE := .q 0 (.ixs 3) [.s 9, .s 11] none <|
 .q 1 (.lda 3) [.r 0] none <|
 .x 2 (.alc [zs, .nsl, z] 185) [] none [] <|
 .x 3 (.st 3) [.r 2, .r 1] none [] <|
 .out [(3, .s 3), (5, .r 2), (9, .s 9), (10, .s 10), (11, .s 11)]
def e308r5 : EE := .q 1 (.fld 1) [.s 5] none <|
 .q 2 .ld [.r 1] none <|
 .q 3 .len [.r 2] none <|
 .q 4 .add [.s 3, .r 3] none <|
 .out [(3, .r 4), (9, .s 9), (10, .s 10), (11, .s 11)]
def e308r6 : EE := .q 0 .add [.s 11, .c (.int .i64 1)] none <|
 .out [(3, .s 3), (9, .s 9), (10, .s 10), (11, .r 0)]
def e308l7 : EC := (.seq (.reg e308r3 [3, 9, 10, 11] 0) (.seq (.cond (.s 12) .skip (.exit 0)) (.seq (.block 1 (.seq (.reg e308r4 [3, 9, 10, 11] 0) (.reg e308r5 [3, 5, 9, 10, 11] 0))) (.reg e308r6 [3, 9, 10, 11] 0))))
def e308r8 : EE := .out [(2, .s 3)]
def e308 : EFn := ⟨(.seq (.reg e308r0 [0] 0) (.seq (.reg e308r1 [0] 0) (.seq (.seq (.reg e308r2 [0, 3] 0) (.block 0 (.loop [3, 9, 10, 11] e308l7))) (.seq (.reg e308r8 [3] 0) .ret)))), [.slot 2], 22, 0⟩
theorem g308 : Good Tryz.prog 308 e308 := ⟨Tryz.f308, Tryz.func308, by kernel_rfl, by kernel_rfl, by kernel_rfl, by kernel_rfl⟩
/-! slices.Grow[[]byte,byte] -/
def e311r0 : EE := .out [(0, .s 0), (1, .s 1)]
def e311r1 : EE := .q 1 .lss [.s 1, .c z] none <|
 .out [(0, .s 0), (1, .s 1), (6, .r 1)]
def e311r2 : EE := .q 0 (.mki 9) [.c (.str [99, 97, 110, 110, 111, 116, 32, 98, 101, 32, 110, 101, 103, 97, 116, 105, 118, 101])] none <|
 .x 1 .bad [] none [] <|
 .out [(0, .s 0), (1, .s 1)]
def e311r3 : EE := .q 2 .cap [.s 0] none <|
 .q 4 .len [.s 0] none <|
 .q 5 .sub [.r 2, .r 4] none <|
 .q 6 .sub [.s 1, .r 5] none <|
 .out [(0, .s 0), (1, .r 6)]
def e311r4 : EE := .q 1 .gtr [.s 1, .c z] none <|
 .out [(0, .s 0), (1, .s 1), (16, .r 1)]
def e311r5 : EE := .q 2 .cap [.s 0] none <|
 .q 3 (.slc 1 false true) [.s 0, .r 2] none <|
 .x 5 (.appn 5 1 1 [(.int .u8 0)]) [.r 3, .s 1] none [] <|
 .q 7 .len [.s 0] none <|
 .q 8 (.slc 1 false true) [.r 5, .r 7] none <|
 .out [(0, .r 8)]
def e311r6 : EE := .out [(4, .s 0)]
def e311 : EFn := ⟨(.seq (.reg e311r0 [0, 1] 0) (.seq (.seq (.reg e311r1 [0, 1] 0) (.cond (.s 6) (.reg e311r2 [0, 1] 0) .skip)) (.seq (.seq (.reg e311r3 [0, 1] 0) (.seq (.reg e311r4 [0, 1] 0) (.cond (.s 16) (.reg e311r5 [0, 1] 0) .skip))) (.seq (.reg e311r6 [0] 0) .ret)))), [.slot 4], 27, 0⟩
theorem g311 : Good Tryz.prog 311 e311 := ⟨Tryz.f311, Tryz.func311, by kernel_rfl, by kernel_rfl, by kernel_rfl, by kernel_rfl⟩
/-! concord/inst.New -/
def e312r0 : EE := .out [(0, .s 0)]
def e312r1 : EE := .x 0 .mkm [] none [] <|
 .q 1 (.bld [.nmap] [(0, 1)]) [.r 0] none <|
 .x 2 (.box 439) [.r 1] none [] <|
 .out [(0, .s 0), (3, .r 2)]
def e312r2 : EE := .q 1 .len [.s 0] none <|
 .out [(3, .s 3), (9, .s 0), (10, .r 1), (11, .c z)]
def e312r3 : EE := .q 0 .lss [.s 11, .s 10] none <|
 .out [(3, .s 3), (9, .s 9), (10, .s 10), (11, .s 11), (12, .r 0)]
def e312r4 : EE := .q 0 (.ixs 2) [.s 9, .s 11] none <|
 .q 1 (.lda 2) [.r 0] none <|
 .x 2 (.alc [z, z] 119) [] none [] <|
 .x 3 (.st 2) [.r 2, .r 1] none [] <|
 .out [(3, .s 3), (5, .r 2), (9, .s 9), (10, .s 10), (11, .s 11)]
def e312r5 : EE := .q 1 .nl [.s 3] none <|
 .q 2 (.fld 0) [.r 1] none <|
 .q 3 .ld [.r 2] none <|
 .q 4 (.lda 2) [.s 5] none <|
 .q 5 (.bld [] []) [] none <|
 .x 6 (.mup true [(.i .i64), (.i .i64)]) [.r 3, .r 4, .r 5] none [] <|
 .out [(3, .s 3), (9, .s 9), (10, .s 10), (11, .s 11)]
def e312r6 : EE := .q 0 .add [.s 11, .c (.int .i64 1)] none <|
 .out [(3, .s 3), (9, .s 9), (10, .s 10), (11, .r 0)]
def e312l7 : EC := (.seq (.reg e312r3 [3, 9, 10, 11] 0) (.seq (.cond (.s 12) .skip (.exit 0)) (.seq (.block 1 (.seq (.reg e312r4 [3, 9, 10, 11] 0) (.reg e312r5 [3, 5, 9, 10, 11] 0))) (.reg e312r6 [3, 9, 10, 11] 0))))
def e312r8 : EE := .out [(2, .s 3)]
def e312 : EFn := ⟨(.seq (.reg e312r0 [0] 0) (.seq (.reg e312r1 [0] 0) (.seq (.seq (.reg e312r2 [0, 3] 0) (.block 0 (.loop [3, 9, 10, 11] e312l7))) (.seq (.reg e312r8 [3] 0) .ret)))), [.slot 2], 23, 0⟩
theorem g312 : Good Tryz.prog 312 e312 := ⟨Tryz.f312, Tryz.func312, by kernel_rfl, by kernel_rfl, by kernel_rfl, by kernel_rfl⟩
/-! (*concord/exec.plan).beyond -/
def e313r0 : EE := .x 0 (.box 119) [.s 1] none [] <|
 .out [(0, .s 0), (3, .r 0)]
def e313r1 : EE := .q 1 .nl [.s 0] none <|
 .q 2 (.fld 7) [.r 1] none <|
 .q 3 .ld [.r 2] none <|
 .x 4 .rng [.r 3] none [] <|
 .out [(3, .s 3), (10, .r 4)]
def e313r2 : EE := .x 0 .nxt [.s 10] none [] <|
 .q 1 (.ext 0) [.r 0] none <|
 .out [(3, .s 3), (10, .s 10), (12, .r 1)]
def e313r3 : EE := .q 0 .ent [.s 10] none <|
 .q 1 (.ext 0) [.r 0] none <|
 .x 2 (.alc [z, z] 119) [] none [] <|
 .x 3 (.st 2) [.r 2, .r 1] none [] <|
 .out [(3, .s 3), (5, .r 2), (10, .s 10)]
def e313r4 : EE := .q 0 (.fld 0) [.s 5] none <|
 .q 1 .ld [.r 0] none <|
 .q 2 (.fld 0) [.s 3] none <|
 .q 3 .ld [.r 2] none <|
 .q 4 .eql [.r 1, .r 3] none <|
 .q 6 (.fld 1) [.s 5] (some (.r 4, true)) <|
 .q 7 .ld [.r 6] (some (.r 4, true)) <|
 .q 8 (.fld 1) [.s 3] (some (.r 4, true)) <|
 .q 9 .ld [.r 8] (some (.r 4, true)) <|
 .q 10 .gtr [.r 7, .r 9] (some (.r 4, true)) <|
 .q 11 .pick [.r 4, .r 10, .c (.bool false)] none <|
 .out [(3, .s 3), (10, .s 10), (26, .r 11)]
def e313r5 : EE := .out [(4, .c (.bool true))]
def e313l6 : EC := (.seq (.reg e313r2 [3, 10] 0) (.seq (.cond (.s 12) .skip (.exit 0)) (.block 1 (.seq (.reg e313r3 [3, 10] 0) (.seq (.reg e313r4 [3, 5, 10] 0) (.cond (.s 26) (.seq (.reg e313r5 [] 0) .ret) .skip))))))
def e313r7 : EE := .out [(4, .c (.bool false))]
def e313 : EFn := ⟨(.seq (.reg e313r0 [0, 1] 0) (.seq (.seq (.reg e313r1 [0, 3] 0) (.block 0 (.loop [3, 10] e313l6))) (.seq (.reg e313r7 [] 0) .ret))), [.slot 4], 27, 0⟩
theorem g313 : Good Tryz.prog 313 e313 := ⟨Tryz.f313, Tryz.func313, by kernel_rfl, by kernel_rfl, by kernel_rfl, by kernel_rfl⟩
/-! slices.insertionSortCmpFunc[concord/api.Inst] -/
def e328r0 : EE := .q 1 .add [.s 1, .c (.int .i64 1)] none <|
 .out [(0, .s 0), (1, .s 1), (2, .s 2), (3, .s 3), (8, .r 1)]
def e328r1 : EE := .q 2 .lss [.s 8, .s 2] none <|
 .out [(0, .s 0), (1, .s 1), (2, .s 2), (3, .s 3), (8, .s 8), (14, .r 2)]
def e328r2 : EE := .out [(0, .s 0), (1, .s 1), (2, .s 2), (3, .s 3), (8, .s 8), (9, .s 8)]
def e328r3 : EE := .q 2 .gtr [.s 9, .s 1] none <|
 .q 4 .mv [.s 3] (some (.r 2, true)) <|
 .q 5 .mv [.s 0] (some (.r 2, true)) <|
 .q 6 .mv [.s 9] (some (.r 2, true)) <|
 .q 7 (.ixs 2) [.r 5, .r 6] (some (.r 2, true)) <|
 .q 8 (.lda 2) [.r 7] (some (.r 2, true)) <|
 .q 9 .mv [.s 0] (some (.r 2, true)) <|
 .q 10 .mv [.s 9] (some (.r 2, true)) <|
 .q 11 .sub [.r 10, .c (.int .i64 1)] (some (.r 2, true)) <|
 .q 12 (.ixs 2) [.r 9, .r 11] (some (.r 2, true)) <|
 .q 13 (.lda 2) [.r 12] (some (.r 2, true)) <|
 .x 14 .callv [.r 4, .r 8, .r 13] (some (.r 2, true)) [] <|
 .q 15 .lss [.r 14, .c z] (some (.r 2, true)) <|
 .q 16 .pick [.r 2, .r 15, .c (.bool false)] none <|
 .out [(0, .s 0), (1, .s 1), (2, .s 2), (3, .s 3), (8, .s 8), (9, .s 9), (34, .r 16)]
def e328r4 : EE := .q 4 .sub [.s 9, .c (.int .i64 1)] none <|
 .q 7 .sub [.s 9, .c (.int .i64 1)] none <|
 .q 8 (.ixs 2) [.s 0, .r 7] none <|
 .q 9 (.lda 2) [.r 8] none <|
 .q 12 (.ixs 2) [.s 0, .s 9] none <|
 .q 13 (.lda 2) [.r 12] none <|
 .q 14 (.ixs 2) [.s 0, .s 9] none <|
 .x 15 (.st 2) [.r 14, .r 9] none [] <|
 .q 16 (.ixs 2) [.s 0, .r 4] none <|
 .x 17 (.st 2) [.r 16, .r 13] none [] <|
 .out [(0, .s 0), (1, .s 1), (2, .s 2), (3, .s 3), (8, .s 8), (9, .s 9)]
def e328r5 : EE := .q 1 .sub [.s 9, .c (.int .i64 1)] none <|
 .out [(0, .s 0), (1, .s 1), (2, .s 2), (3, .s 3), (8, .s 8), (9, .r 1)]
def e328l6 : EC := (.seq (.seq (.reg e328r3 [0, 1, 2, 3, 8, 9] 0) (.cond (.s 34) .skip (.exit 2))) (.seq (.block 3 (.reg e328r4 [0, 1, 2, 3, 8, 9] 0)) (.reg e328r5 [0, 1, 2, 3, 8, 9] 0)))
def e328r7 : EE := .q 1 .add [.s 8, .c (.int .i64 1)] none <|
 .out [(0, .s 0), (1, .s 1), (2, .s 2), (3, .s 3), (8, .r 1)]
def e328l8 : EC := (.seq (.seq (.reg e328r1 [0, 1, 2, 3, 8] 0) (.cond (.s 14) .skip (.exit 0))) (.seq (.block 1 (.seq (.reg e328r2 [0, 1, 2, 3, 8] 0) (.block 2 (.loop [0, 1, 2, 3, 8, 9] e328l6)))) (.reg e328r7 [0, 1, 2, 3, 8] 0)))
def e328 : EFn := ⟨(.seq (.reg e328r0 [0, 1, 2, 3] 0) (.block 0 (.loop [0, 1, 2, 3, 8] e328l8))), [], 53, 0⟩
theorem g328 : Good Tryz.prog 328 e328 := ⟨Tryz.f328, Tryz.func328, by kernel_rfl, by kernel_rfl, by kernel_rfl, by kernel_rfl⟩
end Go.Ev
