import Derived.Test.YtkdlojagpocnoaaGreatDoorEvB
import Derived.Test.YtkdlojagpocnoaaGreatDoorProg
set_option linter.unusedVariables false
namespace Go.Ev
open Go.Fw Go.Proofs
/-! concord/word.Get -/
def e165r0 : EE := .out [(0, .s 0), (1, .s 1), (2, .s 2)]
def e165r1 : EE := .q 1 .lss [.s 2, .c (.int .i64 1)] none <|
 .q 3 .mv [.s 2] (some (.r 1, false)) <|
 .q 4 .gtr [.r 3, .c (.int .i64 8)] (some (.r 1, false)) <|
 .q 5 .pick [.r 1, .c (.bool true), .r 4] none <|
 .q 7 .mv [.s 1] (some (.r 5, false)) <|
 .q 8 .lss [.r 7, .c z] (some (.r 5, false)) <|
 .q 9 .pick [.r 5, .c (.bool true), .r 8] none <|
 .q 11 .mv [.s 1] (some (.r 9, false)) <|
 .q 12 .mv [.s 0] (some (.r 9, false)) <|
 .q 13 .len [.r 12] (some (.r 9, false)) <|
 .q 14 .gtr [.r 11, .r 13] (some (.r 9, false)) <|
 .q 15 .pick [.r 9, .c (.bool true), .r 14] none <|
 .out [(0, .s 0), (1, .s 1), (2, .s 2), (26, .r 15)]
def e165r2 : EE := .out [(6, .c (.int .u64 0)), (7, .c (.int .i64 1))]
def e165r3 : EE := .q 1 .len [.s 0] none <|
 .q 3 .sub [.r 1, .s 1] none <|
 .q 5 .lss [.r 3, .s 2] none <|
 .out [(0, .s 0), (1, .s 1), (2, .s 2), (32, .r 5)]
def e165r4 : EE := .out [(6, .c (.int .u64 0)), (7, .c (.int .i64 3))]
def e165r5 : EE := .out [(0, .s 0), (1, .s 1), (2, .s 2), (8, .c (.int .u64 0))]
def e165r6 : EE := .q 4 .add [.s 1, .s 2] none <|
 .q 5 (.slc 1 true true) [.s 0, .s 1, .r 4] none <|
 .q 6 .len [.r 5] none <|
 .out [(8, .s 8), (38, .r 5), (39, .r 6), (40, .c z)]
def e165r7 : EE := .q 0 .lss [.s 40, .s 39] none <|
 .out [(8, .s 8), (38, .s 38), (39, .s 39), (40, .s 40), (41, .r 0)]
def e165r8 : EE := .q 1 (.ixs 1) [.s 38, .s 40] none <|
 .q 2 .ld [.r 1] none <|
 .out [(8, .s 8), (9, .s 40), (10, .r 2), (38, .s 38), (39, .s 39), (40, .s 40)]
def e165r9 : EE := .q 2 (.conv .u64) [.s 10] none <|
 .q 4 .mul [.c (.int .i64 8), .s 9] none <|
 .q 5 (.conv .u64) [.r 4] none <|
 .q 6 .shl [.r 2, .r 5] none <|
 .q 7 .or [.s 8, .r 6] none <|
 .out [(8, .r 7), (38, .s 38), (39, .s 39), (40, .s 40)]
def e165r10 : EE := .q 0 .add [.s 40, .c (.int .i64 1)] none <|
 .out [(8, .s 8), (38, .s 38), (39, .s 39), (40, .r 0)]
def e165l11 : EC := (.seq (.reg e165r7 [8, 38, 39, 40] 0) (.seq (.cond (.s 41) .skip (.exit 0)) (.seq (.block 1 (.seq (.reg e165r8 [8, 38, 39, 40] 0) (.reg e165r9 [8, 9, 10, 38, 39, 40] 0))) (.reg e165r10 [8, 38, 39, 40] 0))))
def e165r12 : EE := .out [(6, .s 8), (7, .c z)]
def e165 : EFn := ⟨(.seq (.reg e165r0 [0, 1, 2] 0) (.seq (.seq (.reg e165r1 [0, 1, 2] 0) (.cond (.s 26) (.seq (.reg e165r2 [] 0) .ret) .skip)) (.seq (.seq (.reg e165r3 [0, 1, 2] 0) (.cond (.s 32) (.seq (.reg e165r4 [] 0) .ret) .skip)) (.seq (.reg e165r5 [0, 1, 2] 0) (.seq (.seq (.reg e165r6 [0, 1, 2, 8] 0) (.block 0 (.loop [8, 38, 39, 40] e165l11))) (.seq (.reg e165r12 [8] 0) .ret)))))), [.slot 6, .slot 7], 55, 0⟩
theorem g165 : Good Tryz.prog 165 e165 := ⟨Tryz.f165, Tryz.func165, by kernel_rfl, by kernel_rfl, by kernel_rfl, by kernel_rfl⟩
/-! concord/sum.Of -/
def e166r0 : EE := .out [(0, .s 0)]
def e166r1 : EE := .x 1 (.call 238) [.c (.int .u32 0), .s 0] none [] <|
 .out [(2, .r 1)]
def e166 : EFn := ⟨(.seq (.reg e166r0 [0] 0) (.seq (.reg e166r1 [0] 0) .ret)), [.slot 2], 5, 0⟩
theorem g166 : Good Tryz.prog 166 e166 := ⟨Tryz.f166, Tryz.func166, by kernel_rfl, by kernel_rfl, by kernel_rfl, by kernel_rfl⟩
/-! (*concord/pack.Reader).Wrong -/
def e167r0 : EE := .out [(0, .s 0)]
def e167r1 : EE := .q 1 .nl [.s 0] none <|
 .q 2 (.fld 2) [.r 1] none <|
 .q 3 .ld [.r 2] none <|
 .out [(2, .r 3)]
def e167 : EFn := ⟨(.seq (.reg e167r0 [0] 0) (.seq (.reg e167r1 [0] 0) .ret)), [.slot 2], 7, 0⟩
theorem g167 : Good Tryz.prog 167 e167 := ⟨Tryz.f167, Tryz.func167, by kernel_rfl, by kernel_rfl, by kernel_rfl, by kernel_rfl⟩
/-! (*concord/disk.Disk).known -/
def e171r0 : EE := .out [(0, .s 0), (1, .s 1)]
def e171r1 : EE := .q 1 .nl [.s 0] none <|
 .q 2 (.fld 2) [.r 1] none <|
 .q 3 .ld [.r 2] none <|
 .out [(0, .s 0), (1, .s 1), (11, .r 3)]
def e171r2 : EE := .out [(4, .c z), (5, .c (.int .i64 10))]
def e171r3 : EE := .x 2 (.call 164) [.s 0, .s 1] none [] <|
 .q 4 (.ext 0) [.r 2] none <|
 .q 5 (.ext 1) [.r 2] none <|
 .out [(6, .r 4), (7, .r 5)]
def e171r4 : EE := .q 1 .not [.s 7] none <|
 .out [(6, .s 6), (19, .r 1)]
def e171r5 : EE := .out [(4, .c z), (5, .c (.int .i64 8))]
def e171r6 : EE := .out [(4, .s 6), (5, .c z)]
def e171 : EFn := ⟨(.seq (.reg e171r0 [0, 1] 0) (.seq (.seq (.reg e171r1 [0, 1] 0) (.cond (.s 11) (.seq (.reg e171r2 [] 0) .ret) .skip)) (.seq (.reg e171r3 [0, 1] 0) (.seq (.seq (.reg e171r4 [6, 7] 0) (.cond (.s 19) (.seq (.reg e171r5 [] 0) .ret) .skip)) (.seq (.reg e171r6 [6] 0) .ret))))), [.slot 4, .slot 5], 21, 0⟩
theorem g171 : Good Tryz.prog 171 e171 := ⟨Tryz.f171, Tryz.func171, by kernel_rfl, by kernel_rfl, by kernel_rfl, by kernel_rfl⟩
/-! (*concord/disk.Disk).power -/
def e172r0 : EE := .out [(0, .s 0)]
def e172r1 : EE := .q 1 .nl [.s 0] none <|
 .q 2 (.fld 3) [.r 1] none <|
 .q 3 .ld [.r 2] none <|
 .q 5 .mv [.s 0] (some (.r 3, true)) <|
 .q 6 .nl [.r 5] (some (.r 3, true)) <|
 .q 7 (.fld 4) [.r 6] (some (.r 3, true)) <|
 .q 8 .ld [.r 7] (some (.r 3, true)) <|
 .q 9 .eql [.r 8, .c z] (some (.r 3, true)) <|
 .q 10 .pick [.r 3, .r 9, .c (.bool false)] none <|
 .out [(0, .s 0), (13, .r 10)]
def e172r2 : EE := .q 1 .nl [.s 0] none <|
 .q 2 (.fld 2) [.r 1] none <|
 .x 3 (.st 1) [.r 2, .c (.bool true)] none [] <|
 .out []
def e172r3 : EE := .out [(2, .c (.int .i64 10))]
def e172r4 : EE := .q 1 .nl [.s 0] none <|
 .q 2 (.fld 3) [.r 1] none <|
 .q 3 .ld [.r 2] none <|
 .out [(0, .s 0), (20, .r 3)]
def e172r5 : EE := .q 1 .nl [.s 0] none <|
 .q 2 (.fld 4) [.r 1] none <|
 .q 3 .ld [.r 2] none <|
 .q 4 .sub [.r 3, .c (.int .i64 1)] none <|
 .q 5 .nl [.s 0] none <|
 .q 6 (.fld 4) [.r 5] none <|
 .x 7 (.st 1) [.r 6, .r 4] none [] <|
 .out []
def e172r6 : EE := .out [(2, .c z)]
def e172 : EFn := ⟨(.seq (.reg e172r0 [0] 0) (.seq (.seq (.reg e172r1 [0] 0) (.cond (.s 13) (.seq (.reg e172r2 [0] 0) (.seq (.reg e172r3 [] 0) .ret)) .skip)) (.seq (.seq (.reg e172r4 [0] 0) (.cond (.s 20) (.reg e172r5 [0] 0) .skip)) (.seq (.reg e172r6 [] 0) .ret)))), [.slot 2], 28, 0⟩
theorem g172 : Good Tryz.prog 172 e172 := ⟨Tryz.f172, Tryz.func172, by kernel_rfl, by kernel_rfl, by kernel_rfl, by kernel_rfl⟩
/-! (*concord/disk.Disk).Names -/
def e174r0 : EE := .out [(0, .s 0)]
def e174r1 : EE := .out [(0, .s 0), (3, .c .nsl)]
def e174r2 : EE := .q 1 .nl [.s 0] none <|
 .q 2 (.fld 1) [.r 1] none <|
 .q 3 .ld [.r 2] none <|
 .q 4 .len [.r 3] none <|
 .out [(3, .s 3), (9, .r 3), (10, .r 4), (11, .c z)]
def e174r3 : EE := .q 0 .lss [.s 11, .s 10] none <|
 .out [(3, .s 3), (9, .s 9), (10, .s 10), (11, .s 11), (12, .r 0)]
def e174r4 : EE := .q 0 (.ixs 3) [.s 9, .s 11] none <|
 .q 1 (.lda 3) [.r 0] none <|
 .x 2 (.alc [zs, .nsl, z] 256) [] none [] <|
 .x 3 (.st 3) [.r 2, .r 1] none [] <|
 .out [(3, .s 3), (5, .r 2), (9, .s 9), (10, .s 10), (11, .s 11)]
def e174r5 : EE := .q 1 (.fld 0) [.s 5] none <|
 .q 2 .ld [.r 1] none <|
 .x 3 (.bsl 9 1 [zs] [(0, 1)]) [.r 2] none [] <|
 .x 4 (.app 9 1 16 [zs]) [.s 3, .r 3] none [] <|
 .out [(3, .r 4), (9, .s 9), (10, .s 10), (11, .s 11)]
def e174r6 : EE := .q 0 .add [.s 11, .c (.int .i64 1)] none <|
 .out [(3, .s 3), (9, .s 9), (10, .s 10), (11, .r 0)]
def e174l7 : EC := (.seq (.reg e174r3 [3, 9, 10, 11] 0) (.seq (.cond (.s 12) .skip (.exit 0)) (.seq (.block 1 (.seq (.reg e174r4 [3, 9, 10, 11] 0) (.reg e174r5 [3, 5, 9, 10, 11] 0))) (.reg e174r6 [3, 9, 10, 11] 0))))
def e174r8 : EE := .out [(2, .s 3)]
def e174 : EFn := ⟨(.seq (.reg e174r0 [0] 0) (.seq (.reg e174r1 [0] 0) (.seq (.seq (.reg e174r2 [0, 3] 0) (.block 0 (.loop [3, 9, 10, 11] e174l7))) (.seq (.reg e174r8 [3] 0) .ret)))), [.slot 2], 22, 0⟩
theorem g174 : Good Tryz.prog 174 e174 := ⟨Tryz.f174, Tryz.func174, by kernel_rfl, by kernel_rfl, by kernel_rfl, by kernel_rfl⟩
/-! concord/wal.placed -/
def e175r0 : EE := .x 0 (.alc [z, z] 190) [] none [] <|
 .out [(0, .s 0), (2, .r 0)]
def e175r1 : EE := .x 1 (.call 242) [.s 0, .c (.str [108, 111, 103, 46])] none [] <|
 .x 2 (.call 162) [.r 1, .c (.str [46])] none [] <|
 .q 4 (.ext 0) [.r 2] none <|
 .q 5 (.ext 1) [.r 2] none <|
 .q 6 (.ext 2) [.r 2] none <|
 .out [(0, .s 0), (2, .s 2), (4, .r 4), (5, .r 5), (6, .r 6)]
def e175r2 : EE := .x 1 (.call 231) [.s 4] none [] <|
 .q 3 (.ext 0) [.r 1] none <|
 .q 4 (.ext 1) [.r 1] none <|
 .out [(0, .s 0), (2, .s 2), (5, .s 5), (6, .s 6), (7, .r 3)]
def e175r3 : EE := .x 1 (.call 231) [.s 5] none [] <|
 .q 3 (.ext 0) [.r 1] none <|
 .q 4 (.ext 1) [.r 1] none <|
 .out [(0, .s 0), (2, .s 2), (6, .s 6), (7, .s 7), (9, .r 3)]
def e175r4 : EE := .q 2 (.bld [z, z] [(0, 1), (1, 1)]) [.s 7, .s 9] none <|
 .x 3 (.alc [z, z] 190) [] none [] <|
 .x 4 (.st 2) [.r 3, .r 2] none [] <|
 .out [(0, .s 0), (2, .s 2), (6, .s 6), (7, .s 7), (9, .s 9), (11, .r 3)]
def e175r5 : EE := .q 0 (.lda 2) [.s 11] none <|
 .q 3 .mv [.s 7] (some (.s 6, true)) <|
 .q 4 .gtr [.r 3, .c z] (some (.s 6, true)) <|
 .q 5 .pick [.s 6, .r 4, .c (.bool false)] none <|
 .q 7 .mv [.s 7] (some (.r 5, true)) <|
 .q 8 .leq [.r 7, .c (.int .i64 999999999)] (some (.r 5, true)) <|
 .q 9 .pick [.r 5, .r 8, .c (.bool false)] none <|
 .q 11 .mv [.s 9] (some (.r 9, true)) <|
 .q 12 .gtr [.r 11, .c z] (some (.r 9, true)) <|
 .q 13 .pick [.r 9, .r 12, .c (.bool false)] none <|
 .q 15 .mv [.s 9] (some (.r 13, true)) <|
 .q 16 .leq [.r 15, .c (.int .i64 999999999)] (some (.r 13, true)) <|
 .q 17 .pick [.r 13, .r 16, .c (.bool false)] none <|
 .q 19 (.lda 2) [.s 11] (some (.r 17, true)) <|
 .q 21 .mv [.s 0] (some (.r 17, true)) <|
 .x 20 (.call 94) [.r 19] (some (.r 17, true)) [⟨0, (.lda 2), [.s 11], none⟩] <|
 .q 22 .seql [.r 20, .r 21] (some (.r 17, true)) <|
 .q 23 .pick [.r 17, .r 22, .c (.bool false)] none <|
 .x 24 (.st 2) [.s 2, .r 0] none [] <|
 .out [(2, .s 2), (3, .r 23)]
def e175 : EFn := ⟨(.seq (.reg e175r0 [0] 0) (.seq (.reg e175r1 [0, 2] 0) (.seq (.reg e175r2 [0, 2, 4, 5, 6] 0) (.seq (.reg e175r3 [0, 2, 5, 6, 7] 0) (.seq (.reg e175r4 [0, 2, 6, 7, 9] 0) (.seq (.reg e175r5 [0, 2, 6, 7, 9, 11] 0) .ret)))))), [.cells 2 2, .slot 3], 56, 0⟩
theorem g175 : Good Tryz.prog 175 e175 := ⟨Tryz.f175, Tryz.func175, by kernel_rfl, by kernel_rfl, by kernel_rfl, by kernel_rfl⟩
/-! concord/frame.Scan -/
def e176r0 : EE := .out [(0, .s 0)]
def e176r1 : EE := .out [(0, .s 0), (4, .c .nsl)]
def e176r2 : EE := .out [(0, .s 0), (4, .s 4), (5, .c z)]
def e176r3 : EE := .x 2 (.call 243) [.s 0, .s 5] none [] <|
 .q 4 (.ext 0) [.r 2] none <|
 .q 5 (.ext 1) [.r 2] none <|
 .q 6 (.ext 2) [.r 2] none <|
 .out [(0, .s 0), (4, .s 4), (5, .s 5), (6, .r 4), (7, .r 5), (8, .r 6)]
def e176r4 : EE := .q 1 .neq [.s 8, .c z] none <|
 .out [(0, .s 0), (4, .s 4), (5, .s 5), (6, .s 6), (7, .s 7), (17, .r 1)]
def e176r5 : EE := .out [(2, .s 4), (3, .s 5)]
def e176r6 : EE := .x 2 (.bsl 103 1 [.nsl] [(0, 1)]) [.s 6] none [] <|
 .x 3 (.app 103 1 24 [.nsl]) [.s 4, .r 2] none [] <|
 .out [(0, .s 0), (4, .r 3), (5, .s 7)]
def e176l7 : EC := (.block 1 (.seq (.reg e176r3 [0, 4, 5] 0) (.seq (.seq (.reg e176r4 [0, 4, 5, 6, 7, 8] 0) (.cond (.s 17) (.seq (.reg e176r5 [4, 5] 0) .ret) .skip)) (.reg e176r6 [0, 4, 6, 7] 0))))
def e176 : EFn := ⟨(.seq (.reg e176r0 [0] 0) (.seq (.reg e176r1 [0] 0) (.seq (.reg e176r2 [0, 4] 0) (.block 0 (.loop [0, 4, 5] e176l7))))), [.slot 2, .slot 3], 25, 0⟩
theorem g176 : Good Tryz.prog 176 e176 := ⟨Tryz.f176, Tryz.func176, by kernel_rfl, by kernel_rfl, by kernel_rfl, by kernel_rfl⟩
/-! concord/pack.grown -/
def e177r0 : EE := .out [(0, .s 0), (1, .s 1)]
def e177r1 : EE := .q 1 .len [.s 0] none <|
 .q 3 .add [.r 1, .s 1] none <|
 .x 4 (.mks 5 1 [(.int .u8 0)]) [.c z, .r 3] none [] <|
 .x 6 (.app 5 1 1 [(.int .u8 0)]) [.r 4, .s 0] none [] <|
 .out [(4, .r 6)]
def e177 : EFn := ⟨(.seq (.reg e177r0 [0, 1] 0) (.seq (.reg e177r1 [0, 1] 0) .ret)), [.slot 4], 12, 0⟩
theorem g177 : Good Tryz.prog 177 e177 := ⟨Tryz.f177, Tryz.func177, by kernel_rfl, by kernel_rfl, by kernel_rfl, by kernel_rfl⟩
/-! concord/word.Zag -/
def e179r0 : EE := .out [(0, .s 0)]
def e179r1 : EE := .q 1 .shr [.s 0, .c (.int .u64 1)] none <|
 .q 2 (.conv .i64) [.r 1] none <|
 .q 4 .and [.s 0, .c (.int .u64 1)] none <|
 .q 5 (.conv .i64) [.r 4] none <|
 .q 6 .neg [.r 5] none <|
 .q 7 .xor [.r 2, .r 6] none <|
 .out [(2, .r 7)]
def e179 : EFn := ⟨(.seq (.reg e179r0 [0] 0) (.seq (.reg e179r1 [0] 0) .ret)), [.slot 2], 11, 0⟩
theorem g179 : Good Tryz.prog 179 e179 := ⟨Tryz.f179, Tryz.func179, by kernel_rfl, by kernel_rfl, by kernel_rfl, by kernel_rfl⟩
/-! (*concord/log.Log).Trim -/
def e180r0 : EE := .x 0 (.box 44) [.s 1] none [] <|
 .out [(0, .s 0), (3, .r 0)]
def e180r1 : EE := .q 0 (.lda 7) [.s 3] none <|
 .out [(0, .s 0), (7, .r 0), (8, .c z)]
def e180r2 : EE := .q 0 .lss [.s 8, .c (.int .i64 7)] none <|
 .out [(0, .s 0), (7, .s 7), (8, .s 8), (9, .r 0)]
def e180r3 : EE := .q 1 (.idx 7 1) [.s 7, .s 8] none <|
 .out [(0, .s 0), (4, .s 8), (5, .r 1), (7, .s 7), (8, .s 8)]
def e180r4 : EE := .q 4 .nl [.s 0] none <|
 .q 5 (.fld 1) [.r 4] none <|
 .q 6 (.ixa 7 1) [.r 5, .s 4] none <|
 .q 7 .ld [.r 6] none <|
 .q 9 .mx [.s 5, .c z] none <|
 .q 10 .mn [.r 9, .c (.int .i64 1073741824)] none <|
 .q 11 .mx [.r 7, .r 10] none <|
 .q 12 .nl [.s 0] none <|
 .q 13 (.fld 1) [.r 12] none <|
 .q 14 (.ixa 7 1) [.r 13, .s 4] none <|
 .x 15 (.st 1) [.r 14, .r 11] none [] <|
 .out [(0, .s 0), (7, .s 7), (8, .s 8)]
def e180r5 : EE := .q 0 .add [.s 8, .c (.int .i64 1)] none <|
 .out [(0, .s 0), (7, .s 7), (8, .r 0)]
def e180l6 : EC := (.seq (.reg e180r2 [0, 7, 8] 0) (.seq (.cond (.s 9) .skip (.exit 0)) (.seq (.block 1 (.seq (.reg e180r3 [0, 7, 8] 0) (.reg e180r4 [0, 4, 5, 7, 8] 0))) (.reg e180r5 [0, 7, 8] 0))))
def e180r7 : EE := .q 1 .nl [.s 0] none <|
 .q 2 (.fld 0) [.r 1] none <|
 .q 3 .ld [.r 2] none <|
 .x 4 .rng [.r 3] none [] <|
 .out [(0, .s 0), (32, .r 4)]
def e180r8 : EE := .x 0 .nxt [.s 32] none [] <|
 .q 1 (.ext 0) [.r 0] none <|
 .out [(0, .s 0), (32, .s 32), (34, .r 1)]
def e180r9 : EE := .q 0 .ent [.s 32] none <|
 .q 1 (.ext 0) [.r 0] none <|
 .x 2 (.alc [z, z] 40) [] none [] <|
 .x 3 (.st 2) [.r 2, .r 1] none [] <|
 .out [(0, .s 0), (6, .r 2), (32, .s 32)]
def e180r10 : EE := .q 1 (.lda 2) [.s 6] none <|
 .x 2 (.call 135) [.s 0, .r 1] none [] <|
 .out [(0, .s 0), (6, .s 6), (32, .s 32), (39, .r 2)]
def e180r11 : EE := .q 1 .nl [.s 0] none <|
 .q 2 (.fld 0) [.r 1] none <|
 .q 3 .ld [.r 2] none <|
 .q 4 (.lda 2) [.s 6] none <|
 .x 5 (.dlt true [(.i .i64), (.i .i64)]) [.r 3, .r 4] none [] <|
 .out [(0, .s 0), (32, .s 32)]
def e180l12 : EC := (.seq (.reg e180r8 [0, 32] 0) (.seq (.cond (.s 34) .skip (.exit 2)) (.block 3 (.seq (.reg e180r9 [0, 32] 0) (.seq (.reg e180r10 [0, 6, 32] 0) (.cond (.s 39) (.reg e180r11 [0, 6, 32] 0) .skip))))))
def e180 : EFn := ⟨(.seq (.reg e180r0 [0, 1] 0) (.seq (.seq (.reg e180r1 [0, 3] 0) (.block 0 (.loop [0, 7, 8] e180l6))) (.seq (.reg e180r7 [0] 0) (.block 2 (.loop [0, 32] e180l12))))), [], 45, 0⟩
theorem g180 : Good Tryz.prog 180 e180 := ⟨Tryz.f180, Tryz.func180, by kernel_rfl, by kernel_rfl, by kernel_rfl, by kernel_rfl⟩
/-! concord/letter.GetCell -/
def e181r0 : EE := .x 0 (.alc [z, z, z, z, z, z, z, z, zs, zs, zs, zs, z, z, z, z, z, z, z, z, (.bool false)] 48) [] none [] <|
 .out [(0, .s 0), (2, .r 0)]
def e181r1 : EE := .x 1 (.call 98) [.s 0] none [] <|
 .q 2 (.bld [z, z, z, z, z, z, z, z, zs, zs, zs, zs, z, z, z, z, z, z, z, z, (.bool false)] [(0, 1)]) [.r 1] none <|
 .x 3 (.alc [z, z, z, z, z, z, z, z, zs, zs, zs, zs, z, z, z, z, z, z, z, z, (.bool false)] 48) [] none [] <|
 .x 4 (.st 21) [.r 3, .r 2] none [] <|
 .out [(0, .s 0), (2, .s 2), (3, .r 3)]
def e181r2 : EE := .x 1 (.call 244) [.s 0] none [] <|
 .q 2 (.fld 1) [.s 3] none <|
 .x 3 (.st 2) [.r 2, .r 1] none [] <|
 .out [(0, .s 0), (2, .s 2), (3, .s 3)]
def e181r3 : EE := .q 0 (.fld 0) [.s 3] none <|
 .q 1 .ld [.r 0] none <|
 .q 2 .neq [.r 1, .c z] none <|
 .out [(0, .s 0), (2, .s 2), (3, .s 3), (12, .r 2)]
def e181r4 : EE := .x 1 (.call 244) [.s 0] none [] <|
 .q 2 (.fld 3) [.s 3] none <|
 .x 3 (.st 2) [.r 2, .r 1] none [] <|
 .out [(0, .s 0), (2, .s 2), (3, .s 3)]
def e181r5 : EE := .x 1 (.call 245) [.s 0] none [] <|
 .q 2 (.fld 5) [.s 3] none <|
 .x 3 (.st 7) [.r 2, .r 1] none [] <|
 .out [(0, .s 0), (2, .s 2), (3, .s 3)]
def e181r6 : EE := .x 1 (.call 246) [.s 0] none [] <|
 .q 2 (.fld 12) [.s 3] none <|
 .x 3 (.st 8) [.r 2, .r 1] none [] <|
 .out [(0, .s 0), (2, .s 2), (3, .s 3)]
def e181r7 : EE := .x 1 (.call 240) [.s 0] none [] <|
 .q 2 (.fld 20) [.s 3] none <|
 .x 3 (.st 1) [.r 2, .r 1] none [] <|
 .out [(0, .s 0), (2, .s 2), (3, .s 3)]
def e181r8 : EE := .x 1 (.call 167) [.s 0] none [] <|
 .q 2 .eql [.r 1, .c z] none <|
 .q 4 (.lda 21) [.s 3] (some (.r 2, true)) <|
 .x 5 (.call 131) [.r 4] (some (.r 2, true)) [] <|
 .q 6 .not [.r 5] (some (.r 2, true)) <|
 .q 7 .pick [.r 2, .r 6, .c (.bool false)] none <|
 .out [(0, .s 0), (2, .s 2), (3, .s 3), (32, .r 7)]
def e181r9 : EE := .x 1 (.call 247) [.s 0] none [] <|
 .out [(0, .s 0), (2, .s 2), (3, .s 3)]
def e181r10 : EE := .x 1 (.call 167) [.s 0] none [] <|
 .q 2 .neq [.r 1, .c z] none <|
 .out [(2, .s 2), (3, .s 3), (37, .r 2)]
def e181r11 : EE := .q 0 (.bld [z, z, z, z, z, z, z, z, zs, zs, zs, zs, z, z, z, z, z, z, z, z, (.bool false)] []) [] none <|
 .x 1 (.st 21) [.s 2, .r 0] none [] <|
 .out [(2, .s 2)]
def e181r12 : EE := .q 0 (.lda 21) [.s 3] none <|
 .x 1 (.st 21) [.s 2, .r 0] none [] <|
 .out [(2, .s 2)]
def e181 : EFn := ⟨(.seq (.reg e181r0 [0] 0) (.seq (.reg e181r1 [0, 2] 0) (.seq (.reg e181r2 [0, 2, 3] 0) (.seq (.seq (.reg e181r3 [0, 2, 3] 0) (.cond (.s 12) (.seq (.reg e181r4 [0, 2, 3] 0) (.seq (.reg e181r5 [0, 2, 3] 0) (.seq (.reg e181r6 [0, 2, 3] 0) (.reg e181r7 [0, 2, 3] 0)))) .skip)) (.seq (.seq (.reg e181r8 [0, 2, 3] 0) (.cond (.s 32) (.reg e181r9 [0, 2, 3] 0) .skip)) (.seq (.seq (.reg e181r10 [0, 2, 3] 0) (.cond (.s 37) (.seq (.reg e181r11 [2] 0) .ret) .skip)) (.seq (.reg e181r12 [2, 3] 0) .ret))))))), [.cells 2 21], 40, 0⟩
theorem g181 : Good Tryz.prog 181 e181 := ⟨Tryz.f181, Tryz.func181, by kernel_rfl, by kernel_rfl, by kernel_rfl, by kernel_rfl⟩
/-! concord/log.may -/
def e182r0 : EE := .x 0 (.box 48) [.s 0] none [] <|
 .x 1 (.box 48) [.s 1] none [] <|
 .out [(2, .r 0), (3, .r 1)]
def e182r1 : EE := .q 0 (.fld 0) [.s 2] none <|
 .q 1 .ld [.r 0] none <|
 .q 2 .eql [.r 1, .c (.int .i64 3)] none <|
 .q 4 (.fld 0) [.s 3] (some (.r 2, true)) <|
 .q 5 .ld [.r 4] (some (.r 2, true)) <|
 .q 6 .neq [.r 5, .c (.int .i64 3)] (some (.r 2, true)) <|
 .q 7 .mv [.r 6] (some (.r 2, true)) <|
 .q 8 (.fld 5) [.s 3] (some (.r 7, false)) <|
 .q 9 (.lda 7) [.r 8] (some (.r 7, false)) <|
 .q 10 (.fld 5) [.s 2] (some (.r 7, false)) <|
 .q 11 (.lda 7) [.r 10] (some (.r 7, false)) <|
 .q 12 (.eqc true [(.i .i64), (.i .i64), (.i .i64), .s, .s, .s, .s]) [.r 9, .r 11] (some (.r 7, false)) <|
 .q 13 .pick [.r 7, .c (.bool true), .r 12] (some (.r 2, true)) <|
 .q 14 .mv [.r 13] (some (.r 2, true)) <|
 .q 15 (.fld 12) [.s 3] (some (.r 14, false)) <|
 .q 16 (.lda 8) [.r 15] (some (.r 14, false)) <|
 .q 17 (.fld 12) [.s 2] (some (.r 14, false)) <|
 .q 18 (.lda 8) [.r 17] (some (.r 14, false)) <|
 .q 19 (.eqc true [(.i .i64), (.i .i64), (.i .i64), (.i .i64), (.i .i64), (.i .i64), (.i .i64), (.i .i64)]) [.r 16, .r 18] (some (.r 14, false)) <|
 .q 20 .pick [.r 14, .c (.bool true), .r 19] (some (.r 2, true)) <|
 .q 21 .pick [.r 2, .r 20, .c (.bool false)] none <|
 .out [(2, .s 2), (3, .s 3), (26, .r 21)]
def e182r2 : EE := .out [(4, .c (.bool false))]
def e182r3 : EE := .q 0 (.fld 1) [.s 3] none <|
 .q 1 (.lda 2) [.r 0] none <|
 .q 2 (.fld 1) [.s 2] none <|
 .q 3 (.lda 2) [.r 2] none <|
 .x 4 (.call 205) [.r 1, .r 3] none [] <|
 .q 6 (.fld 3) [.s 3] (some (.r 4, false)) <|
 .q 7 (.lda 2) [.r 6] (some (.r 4, false)) <|
 .q 8 (.fld 3) [.s 2] (some (.r 4, false)) <|
 .q 9 (.lda 2) [.r 8] (some (.r 4, false)) <|
 .x 10 (.call 205) [.r 7, .r 9] (some (.r 4, false)) [] <|
 .q 11 .pick [.r 4, .c (.bool true), .r 10] none <|
 .out [(2, .s 2), (3, .s 3), (38, .r 11)]
def e182r4 : EE := .out [(4, .c (.bool false))]
def e182r5 : EE := .q 0 (.fld 0) [.s 3] none <|
 .q 1 .ld [.r 0] none <|
 .q 2 (.fld 0) [.s 2] none <|
 .q 3 .ld [.r 2] none <|
 .q 4 .geq [.r 1, .r 3] none <|
 .q 6 (.fld 3) [.s 3] (some (.r 4, false)) <|
 .q 7 (.lda 2) [.r 6] (some (.r 4, false)) <|
 .q 8 (.fld 3) [.s 2] (some (.r 4, false)) <|
 .q 9 (.lda 2) [.r 8] (some (.r 4, false)) <|
 .q 10 (.eqc true [(.i .i64), (.i .i64)]) [.r 7, .r 9] (some (.r 4, false)) <|
 .q 11 .pick [.r 4, .c (.bool true), .r 10] none <|
 .out [(4, .r 11)]
def e182 : EFn := ⟨(.seq (.reg e182r0 [0, 1] 0) (.seq (.seq (.reg e182r1 [2, 3] 0) (.cond (.s 26) (.seq (.reg e182r2 [] 0) .ret) .skip)) (.seq (.seq (.reg e182r3 [2, 3] 0) (.cond (.s 38) (.seq (.reg e182r4 [] 0) .ret) .skip)) (.seq (.reg e182r5 [2, 3] 0) .ret)))), [.slot 4], 51, 0⟩
theorem g182 : Good Tryz.prog 182 e182 := ⟨Tryz.f182, Tryz.func182, by kernel_rfl, by kernel_rfl, by kernel_rfl, by kernel_rfl⟩
/-! (*concord/interf.Index).Note -/
def e183r0 : EE := .x 0 (.box 40) [.s 1] none [] <|
 .x 1 (.box 33) [.s 2] none [] <|
 .out [(0, .s 0), (3, .s 3), (5, .r 0), (6, .r 1)]
def e183r1 : EE := .q 0 (.lda 2) [.s 5] none <|
 .x 1 (.call 129) [.r 0] none [] <|
 .q 2 .not [.r 1] none <|
 .q 4 (.fld 1) [.s 5] (some (.r 2, false)) <|
 .q 5 .ld [.r 4] (some (.r 2, false)) <|
 .q 6 .mv [.s 0] (some (.r 2, false)) <|
 .q 7 (.fld 0) [.s 5] (some (.r 2, false)) <|
 .q 8 .ld [.r 7] (some (.r 2, false)) <|
 .q 9 .nl [.r 6] (some (.r 2, false)) <|
 .q 10 (.fld 1) [.r 9] (some (.r 2, false)) <|
 .q 11 (.ixa 7 1) [.r 10, .r 8] (some (.r 2, false)) <|
 .q 12 .ld [.r 11] (some (.r 2, false)) <|
 .q 13 .leq [.r 5, .r 12] (some (.r 2, false)) <|
 .q 14 .pick [.r 2, .c (.bool true), .r 13] none <|
 .q 16 (.lda 7) [.s 6] (some (.r 14, false)) <|
 .x 17 (.call 41) [.r 16] (some (.r 14, false)) [] <|
 .q 18 .not [.r 17] (some (.r 14, false)) <|
 .q 19 .pick [.r 14, .c (.bool true), .r 18] none <|
 .q 21 .mv [.s 3] (some (.r 19, false)) <|
 .q 22 .lss [.r 21, .c z] (some (.r 19, false)) <|
 .q 23 .pick [.r 19, .c (.bool true), .r 22] none <|
 .q 25 .mv [.s 3] (some (.r 23, false)) <|
 .q 26 .gtr [.r 25, .c (.int .i64 1099511627776)] (some (.r 23, false)) <|
 .q 27 .pick [.r 23, .c (.bool true), .r 26] none <|
 .out [(0, .s 0), (3, .s 3), (5, .s 5), (6, .s 6), (36, .r 27)]
def e183r2 : EE := .out [(8, .c (.bool false))]
def e183r3 : EE := .q 1 .nl [.s 0] none <|
 .q 2 (.fld 0) [.r 1] none <|
 .q 3 .ld [.r 2] none <|
 .q 4 (.lda 2) [.s 5] none <|
 .q 5 (.lda 7) [.s 6] none <|
 .q 7 (.bld [z, z, z, zs, zs, zs, zs, z] [(0, 7), (7, 1)]) [.r 5, .s 3] none <|
 .x 8 (.mup true [(.i .i64), (.i .i64)]) [.r 3, .r 4, .r 7] none [] <|
 .out []
def e183r4 : EE := .out [(8, .c (.bool true))]
def e183 : EFn := ⟨(.seq (.reg e183r0 [0, 1, 2, 3] 0) (.seq (.seq (.reg e183r1 [0, 3, 5, 6] 0) (.cond (.s 36) (.seq (.reg e183r2 [] 0) .ret) .skip)) (.seq (.reg e183r3 [0, 3, 5, 6] 0) (.seq (.reg e183r4 [] 0) .ret)))), [.slot 8], 45, 0⟩
theorem g183 : Good Tryz.prog 183 e183 := ⟨Tryz.f183, Tryz.func183, by kernel_rfl, by kernel_rfl, by kernel_rfl, by kernel_rfl⟩
/-! concord/word.Put -/
def e184r0 : EE := .out [(0, .s 0), (1, .s 1), (2, .s 2)]
def e184r1 : EE := .q 1 .len [.s 0] none <|
 .q 2 .add [.r 1, .c (.int .i64 8)] none <|
 .x 3 (.mks 5 1 [(.int .u8 0)]) [.c z, .r 2] none [] <|
 .x 5 (.app 5 1 1 [(.int .u8 0)]) [.r 3, .s 0] none [] <|
 .out [(1, .s 1), (2, .s 2), (7, .r 5)]
def e184r2 : EE := .q 1 .mx [.s 1, .c z] none <|
 .q 2 .mn [.r 1, .c (.int .i64 8)] none <|
 .out [(2, .s 2), (7, .s 7), (16, .r 2), (17, .c z)]
def e184r3 : EE := .q 0 .lss [.s 17, .s 16] none <|
 .out [(2, .s 2), (7, .s 7), (16, .s 16), (17, .s 17), (18, .r 0)]
def e184r4 : EE := .q 2 (.conv .u8) [.s 2] none <|
 .x 3 (.bsl 5 1 [(.int .u8 0)] [(0, 1)]) [.r 2] none [] <|
 .x 4 (.app 5 1 1 [(.int .u8 0)]) [.s 7, .r 3] none [] <|
 .out [(2, .s 2), (7, .r 4), (16, .s 16), (17, .s 17)]
def e184r5 : EE := .q 1 .shr [.s 2, .c (.int .u64 8)] none <|
 .out [(2, .r 1), (7, .s 7), (16, .s 16), (17, .s 17)]
def e184r6 : EE := .q 0 .add [.s 17, .c (.int .i64 1)] none <|
 .out [(2, .s 2), (7, .s 7), (16, .s 16), (17, .r 0)]
def e184l7 : EC := (.seq (.reg e184r3 [2, 7, 16, 17] 0) (.seq (.cond (.s 18) .skip (.exit 0)) (.seq (.block 1 (.seq (.reg e184r4 [2, 7, 16, 17] 0) (.reg e184r5 [2, 7, 16, 17] 0))) (.reg e184r6 [2, 7, 16, 17] 0))))
def e184r8 : EE := .out [(6, .s 7)]
def e184 : EFn := ⟨(.seq (.reg e184r0 [0, 1, 2] 0) (.seq (.reg e184r1 [0, 1, 2] 0) (.seq (.seq (.reg e184r2 [1, 2, 7] 0) (.block 0 (.loop [2, 7, 16, 17] e184l7))) (.seq (.reg e184r8 [7] 0) .ret)))), [.slot 6], 28, 0⟩
theorem g184 : Good Tryz.prog 184 e184 := ⟨Tryz.f184, Tryz.func184, by kernel_rfl, by kernel_rfl, by kernel_rfl, by kernel_rfl⟩
/-! concord/pack.num -/
def e185r0 : EE := .out [(0, .s 0), (1, .s 1)]
def e185r1 : EE := .x 1 (.call 248) [.s 1] none [] <|
 .out [(0, .s 0), (5, .r 1)]
def e185r2 : EE := .q 1 .geq [.s 5, .c (.int .u64 128)] none <|
 .out [(0, .s 0), (5, .s 5), (9, .r 1)]
def e185r3 : EE := .q 2 (.conv .u8) [.s 5] none <|
 .q 3 .or [.r 2, .c (.int .u8 128)] none <|
 .x 4 (.bsl 5 1 [(.int .u8 0)] [(0, 1)]) [.r 3] none [] <|
 .x 5 (.app 5 1 1 [(.int .u8 0)]) [.s 0, .r 4] none [] <|
 .out [(0, .r 5), (5, .s 5)]
def e185r4 : EE := .q 1 .shr [.s 5, .c (.int .u64 7)] none <|
 .out [(0, .s 0), (5, .r 1)]
def e185l5 : EC := (.seq (.seq (.reg e185r2 [0, 5] 0) (.cond (.s 9) .skip (.exit 0))) (.block 1 (.seq (.reg e185r3 [0, 5] 0) (.reg e185r4 [0, 5] 0))))
def e185r6 : EE := .q 2 (.conv .u8) [.s 5] none <|
 .x 3 (.bsl 5 1 [(.int .u8 0)] [(0, 1)]) [.r 2] none [] <|
 .x 4 (.app 5 1 1 [(.int .u8 0)]) [.s 0, .r 3] none [] <|
 .out [(4, .r 4)]
def e185 : EFn := ⟨(.seq (.reg e185r0 [0, 1] 0) (.seq (.reg e185r1 [0, 1] 0) (.seq (.block 0 (.loop [0, 5] e185l5)) (.seq (.reg e185r6 [0, 5] 0) .ret)))), [.slot 4], 23, 0⟩
theorem g185 : Good Tryz.prog 185 e185 := ⟨Tryz.f185, Tryz.func185, by kernel_rfl, by kernel_rfl, by kernel_rfl, by kernel_rfl⟩
/-! (*concord/disk.Disk).Append -/
def e186r0 : EE := .out [(0, .s 0), (1, .s 1), (2, .s 2)]
def e186r1 : EE := .q 1 .nl [.s 0] none <|
 .q 2 (.fld 2) [.r 1] none <|
 .q 3 .ld [.r 2] none <|
 .out [(0, .s 0), (1, .s 1), (2, .s 2), (10, .r 3)]
def e186r2 : EE := .out [(6, .c (.int .i64 10))]
def e186r3 : EE := .x 1 (.call 249) [.s 1] none [] <|
 .q 2 .not [.r 1] none <|
 .out [(0, .s 0), (1, .s 1), (2, .s 2), (15, .r 2)]
def e186r4 : EE := .out [(6, .c (.int .i64 11))]
def e186r5 : EE := .q 1 .len [.s 2] none <|
 .x 3 (.call 250) [.s 0] none [] <|
 .q 4 .gtr [.r 1, .r 3] none <|
 .out [(0, .s 0), (1, .s 1), (2, .s 2), (19, .r 4)]
def e186r6 : EE := .out [(6, .c (.int .i64 7))]
def e186r7 : EE := .x 1 (.call 172) [.s 0] none [] <|
 .out [(0, .s 0), (1, .s 1), (2, .s 2), (7, .r 1)]
def e186r8 : EE := .q 1 .neq [.s 7, .c z] none <|
 .out [(0, .s 0), (1, .s 1), (2, .s 2), (7, .s 7), (28, .r 1)]
def e186r9 : EE := .out [(6, .s 7)]
def e186r10 : EE := .x 2 (.call 164) [.s 0, .s 1] none [] <|
 .q 4 (.ext 0) [.r 2] none <|
 .q 5 (.ext 1) [.r 2] none <|
 .out [(0, .s 0), (1, .s 1), (2, .s 2), (8, .r 4), (9, .r 5)]
def e186r11 : EE := .q 1 .not [.s 9] none <|
 .out [(0, .s 0), (1, .s 1), (2, .s 2), (8, .s 8), (37, .r 1)]
def e186r12 : EE := .q 2 .nl [.s 0] none <|
 .q 3 (.fld 1) [.r 2] none <|
 .q 4 .ld [.r 3] none <|
 .q 7 (.bld [zs, .nsl, z] [(0, 1)]) [.s 1] none <|
 .x 8 (.bsl 256 1 [zs, .nsl, z] [(0, 3)]) [.r 7] none [] <|
 .x 9 (.call 251) [.r 4, .s 8, .r 8] none [] <|
 .q 10 .nl [.s 0] none <|
 .q 11 (.fld 1) [.r 10] none <|
 .x 12 (.st 1) [.r 11, .r 9] none [] <|
 .out [(0, .s 0), (2, .s 2), (8, .s 8)]
def e186r13 : EE := .q 1 .nl [.s 0] none <|
 .q 2 (.fld 1) [.r 1] none <|
 .q 3 .ld [.r 2] none <|
 .q 6 .nl [.s 0] none <|
 .q 7 (.fld 1) [.r 6] none <|
 .q 8 .ld [.r 7] none <|
 .q 10 (.ixs 3) [.r 8, .s 8] none <|
 .q 11 (.fld 1) [.r 10] none <|
 .q 12 .ld [.r 11] none <|
 .x 14 (.bsl 103 2 [.nsl, .nsl] [(0, 1), (1, 1)]) [.r 12, .s 2] none [⟨3, .ld, [.r 2], none⟩] <|
 .x 15 (.call 252) [.r 14] none [⟨3, .ld, [.r 2], none⟩] <|
 .q 16 (.ixs 3) [.r 3, .s 8] none <|
 .q 17 (.fld 1) [.r 16] none <|
 .x 18 (.st 1) [.r 17, .r 15] none [] <|
 .out []
def e186r14 : EE := .out [(6, .c z)]
def e186 : EFn := ⟨(.seq (.reg e186r0 [0, 1, 2] 0) (.seq (.block 0 (.seq (.reg e186r1 [0, 1, 2] 0) (.cond (.s 10) (.seq (.reg e186r2 [] 0) .ret) (.seq (.reg e186r3 [0, 1, 2] 0) (.cond (.s 15) (.seq (.reg e186r4 [] 0) .ret) (.seq (.reg e186r5 [0, 1, 2] 0) (.cond (.s 19) (.seq (.reg e186r6 [] 0) .ret) .skip))))))) (.seq (.seq (.reg e186r7 [0, 1, 2] 0) (.seq (.reg e186r8 [0, 1, 2, 7] 0) (.cond (.s 28) (.seq (.reg e186r9 [7] 0) .ret) .skip))) (.seq (.reg e186r10 [0, 1, 2] 0) (.seq (.seq (.reg e186r11 [0, 1, 2, 8, 9] 0) (.cond (.s 37) (.reg e186r12 [0, 1, 2, 8] 0) .skip)) (.seq (.reg e186r13 [0, 2, 8] 0) (.seq (.reg e186r14 [] 0) .ret))))))), [.slot 6], 68, 0⟩
theorem g186 : Good Tryz.prog 186 e186 := ⟨Tryz.f186, Tryz.func186, by kernel_rfl, by kernel_rfl, by kernel_rfl, by kernel_rfl⟩
/-! (*concord/core.Core).Drain -/
def e187r0 : EE := .out [(0, .s 0)]
def e187r1 : EE := .q 1 .nl [.s 0] none <|
 .q 2 (.fld 6) [.r 1] none <|
 .q 3 .ld [.r 2] none <|
 .q 5 .nl [.s 0] none <|
 .q 6 (.fld 7) [.r 5] none <|
 .q 7 .ld [.r 6] none <|
 .out [(0, .s 0), (4, .r 3), (5, .r 7)]
def e187r2 : EE := .q 2 .nl [.s 0] none <|
 .q 3 (.fld 6) [.r 2] none <|
 .x 4 (.st 1) [.r 3, .c .nsl] none [] <|
 .q 5 .nl [.s 0] none <|
 .q 6 (.fld 7) [.r 5] none <|
 .x 7 (.st 1) [.r 6, .c .nsl] none [] <|
 .out [(4, .s 4), (5, .s 5)]
def e187r3 : EE := .out [(2, .s 4), (3, .s 5)]
def e187 : EFn := ⟨(.seq (.reg e187r0 [0] 0) (.seq (.reg e187r1 [0] 0) (.seq (.reg e187r2 [0, 4, 5] 0) (.seq (.reg e187r3 [4, 5] 0) .ret)))), [.slot 2, .slot 3], 22, 0⟩
theorem g187 : Good Tryz.prog 187 e187 := ⟨Tryz.f187, Tryz.func187, by kernel_rfl, by kernel_rfl, by kernel_rfl, by kernel_rfl⟩
/-! concord/node.cellRecord -/
def e188r0 : EE := .out [(0, .s 0)]
def e188r1 : EE := .x 0 (.bsl 5 1 [(.int .u8 0)] [(0, 1)]) [.c (.int .u8 2)] none [] <|
 .x 2 (.app 5 1 1 [(.int .u8 0)]) [.r 0, .s 0] none [] <|
 .out [(2, .r 2)]
def e188 : EFn := ⟨(.seq (.reg e188r0 [0] 0) (.seq (.reg e188r1 [0] 0) .ret)), [.slot 2], 6, 0⟩
theorem g188 : Good Tryz.prog 188 e188 := ⟨Tryz.f188, Tryz.func188, by kernel_rfl, by kernel_rfl, by kernel_rfl, by kernel_rfl⟩
/-! (*concord/wal.Wal).Add -/
def e189r0 : EE := .out [(0, .s 0), (1, .s 1)]
def e189r1 : EE := .q 1 .nl [.s 0] none <|
 .q 2 (.fld 3) [.r 1] none <|
 .q 3 .ld [.r 2] none <|
 .out [(0, .s 0), (1, .s 1), (14, .r 3)]
def e189r2 : EE := .out [(4, .c (.int .i64 10))]
def e189r3 : EE := .q 1 .nl [.s 0] none <|
 .q 2 (.fld 1) [.r 1] none <|
 .q 3 (.fld 0) [.r 2] none <|
 .q 4 .ld [.r 3] none <|
 .q 5 .eql [.r 4, .c z] none <|
 .out [(0, .s 0), (1, .s 1), (20, .r 5)]
def e189r4 : EE := .out [(4, .c (.int .i64 8))]
def e189r5 : EE := .x 1 (.call 107) [.c .nsl, .s 1] none [] <|
 .q 3 (.ext 0) [.r 1] none <|
 .q 4 (.ext 1) [.r 1] none <|
 .out [(0, .s 0), (1, .s 1), (5, .r 3), (6, .r 4)]
def e189r6 : EE := .q 1 .not [.s 6] none <|
 .out [(0, .s 0), (1, .s 1), (5, .s 5), (27, .r 1)]
def e189r7 : EE := .out [(4, .c (.int .i64 1))]
def e189r8 : EE := .q 1 .len [.s 1] none <|
 .q 2 .eql [.r 1, .c z] none <|
 .out [(0, .s 0), (5, .s 5), (30, .r 2)]
def e189r9 : EE := .out [(4, .c z)]
def e189r10 : EE := .q 1 .nl [.s 0] none <|
 .q 2 (.fld 1) [.r 1] none <|
 .q 3 (.lda 2) [.r 2] none <|
 .x 4 (.alc [z, z] 190) [] none [] <|
 .x 5 (.st 2) [.r 4, .r 3] none [] <|
 .out [(0, .s 0), (5, .s 5), (7, .r 4)]
def e189r11 : EE := .q 1 .nl [.s 0] none <|
 .q 2 (.fld 0) [.r 1] none <|
 .q 3 .ld [.r 2] none <|
 .q 4 (.lda 2) [.s 7] none <|
 .x 5 (.call 94) [.r 4] none [⟨3, .ld, [.r 2], none⟩] <|
 .x 6 (.call 88) [.r 3, .r 5] none [] <|
 .q 8 (.ext 0) [.r 6] none <|
 .q 9 (.ext 1) [.r 6] none <|
 .out [(0, .s 0), (5, .s 5), (7, .s 7), (8, .r 8)]
def e189r12 : EE := .q 1 .len [.s 8] none <|
 .q 2 .gtr [.r 1, .c (.int .i64 4096)] none <|
 .q 4 (.fld 1) [.s 7] (some (.r 2, true)) <|
 .q 5 .ld [.r 4] (some (.r 2, true)) <|
 .q 6 .lss [.r 5, .c (.int .i64 999999999)] (some (.r 2, true)) <|
 .q 7 .pick [.r 2, .r 6, .c (.bool false)] none <|
 .out [(0, .s 0), (5, .s 5), (7, .s 7), (52, .r 7)]
def e189r13 : EE := .q 0 (.fld 1) [.s 7] none <|
 .q 1 .ld [.r 0] none <|
 .q 2 .add [.r 1, .c (.int .i64 1)] none <|
 .q 3 (.fld 1) [.s 7] none <|
 .x 4 (.st 1) [.r 3, .r 2] none [] <|
 .out [(0, .s 0), (5, .s 5), (7, .s 7)]
def e189r14 : EE := .q 1 (.lda 2) [.s 7] none <|
 .x 3 (.call 110) [.s 0, .r 1, .s 5] none [] <|
 .out [(0, .s 0), (7, .s 7), (10, .r 3)]
def e189r15 : EE := .q 1 .neq [.s 10, .c z] none <|
 .out [(0, .s 0), (7, .s 7), (10, .s 10), (62, .r 1)]
def e189r16 : EE := .out [(4, .s 10)]
def e189r17 : EE := .q 1 (.lda 2) [.s 7] none <|
 .q 2 .nl [.s 0] none <|
 .q 3 (.fld 1) [.r 2] none <|
 .x 4 (.st 2) [.r 3, .r 1] none [] <|
 .out []
def e189r18 : EE := .out [(4, .c z)]
def e189 : EFn := ⟨(.seq (.reg e189r0 [0, 1] 0) (.seq (.seq (.reg e189r1 [0, 1] 0) (.cond (.s 14) (.seq (.reg e189r2 [] 0) .ret) .skip)) (.seq (.seq (.reg e189r3 [0, 1] 0) (.cond (.s 20) (.seq (.reg e189r4 [] 0) .ret) .skip)) (.seq (.reg e189r5 [0, 1] 0) (.seq (.seq (.reg e189r6 [0, 1, 5, 6] 0) (.cond (.s 27) (.seq (.reg e189r7 [] 0) .ret) .skip)) (.seq (.seq (.reg e189r8 [0, 1, 5] 0) (.cond (.s 30) (.seq (.reg e189r9 [] 0) .ret) .skip)) (.seq (.reg e189r10 [0, 5] 0) (.seq (.seq (.reg e189r11 [0, 5, 7] 0) (.seq (.reg e189r12 [0, 5, 7, 8] 0) (.cond (.s 52) (.reg e189r13 [0, 5, 7] 0) .skip))) (.seq (.seq (.reg e189r14 [0, 5, 7] 0) (.seq (.reg e189r15 [0, 7, 10] 0) (.cond (.s 62) (.seq (.reg e189r16 [10] 0) .ret) .skip))) (.seq (.reg e189r17 [0, 7] 0) (.seq (.reg e189r18 [] 0) .ret))))))))))), [.slot 4], 68, 0⟩
theorem g189 : Good Tryz.prog 189 e189 := ⟨Tryz.f189, Tryz.func189, by kernel_rfl, by kernel_rfl, by kernel_rfl, by kernel_rfl⟩
/-! concord/exec.Plan -/
def e191r0 : EE := .x 0 (.box 44) [.s 0] none [] <|
 .out [(1, .s 1), (2, .r 0)]
def e191r1 : EE := .q 0 (.lda 7) [.s 2] none <|
 .x 1 .mkm [] none [] <|
 .q 2 (.bld [z, z, z, z, z, z, z, .nmap, .nsl] [(0, 7), (7, 1)]) [.r 0, .r 1] none <|
 .x 3 (.box 368) [.r 2] none [] <|
 .out [(1, .s 1), (6, .r 3)]
def e191r2 : EE := .q 1 .len [.s 1] none <|
 .out [(6, .s 6), (17, .s 1), (18, .r 1), (19, .c z)]
def e191r3 : EE := .q 0 .lss [.s 19, .s 18] none <|
 .out [(6, .s 6), (17, .s 17), (18, .s 18), (19, .s 19), (20, .r 0)]
def e191r4 : EE := .q 0 (.ixs 23) [.s 17, .s 19] none <|
 .q 1 (.lda 23) [.r 0] none <|
 .x 2 (.alc [z, z, z, z, z, z, z, z, z, z, zs, zs, zs, zs, z, z, z, z, z, z, z, z, (.bool false)] 311) [] none [] <|
 .x 3 (.st 23) [.r 2, .r 1] none [] <|
 .out [(6, .s 6), (8, .r 2), (17, .s 17), (18, .s 18), (19, .s 19)]
def e191r5 : EE := .q 1 .nl [.s 6] none <|
 .q 2 (.fld 7) [.r 1] none <|
 .q 3 .ld [.r 2] none <|
 .q 4 (.fld 0) [.s 8] none <|
 .q 5 (.lda 2) [.r 4] none <|
 .q 6 (.lkp true [(.i .i64), (.i .i64)] (.agg [z, z, z, z, z, z, z, z, zs, zs, zs, zs, z, z, z, z, z, z, z, z, (.bool false)]) true) [.r 3, .r 5] none <|
 .q 8 (.ext 0) [.r 6] none <|
 .q 9 (.ext 1) [.r 6] none <|
 .x 10 (.alc [z, z, z, z, z, z, z, z, zs, zs, zs, zs, z, z, z, z, z, z, z, z, (.bool false)] 48) [] none [⟨3, .ld, [.r 2], none⟩, ⟨5, (.lda 2), [.r 4], none⟩, ⟨6, (.lkp true [(.i .i64), (.i .i64)] (.agg [z, z, z, z, z, z, z, z, zs, zs, zs, zs, z, z, z, z, z, z, z, z, (.bool false)]) true), [.r 3, .r 5], none⟩] <|
 .x 11 (.st 21) [.r 10, .r 8] none [] <|
 .out [(6, .s 6), (8, .s 8), (10, .r 9), (17, .s 17), (18, .s 18), (19, .s 19)]
def e191r6 : EE := .q 2 (.fld 2) [.s 8] (some (.s 10, false)) <|
 .q 3 (.fld 0) [.r 2] (some (.s 10, false)) <|
 .q 4 .ld [.r 3] (some (.s 10, false)) <|
 .q 5 .neq [.r 4, .c (.int .i64 3)] (some (.s 10, false)) <|
 .q 6 .pick [.s 10, .c (.bool true), .r 5] none <|
 .out [(6, .s 6), (8, .s 8), (17, .s 17), (18, .s 18), (19, .s 19), (39, .r 6)]
def e191r7 : EE := .q 1 .nl [.s 6] none <|
 .q 2 (.fld 7) [.r 1] none <|
 .q 3 .ld [.r 2] none <|
 .q 4 (.fld 0) [.s 8] none <|
 .q 5 (.lda 2) [.r 4] none <|
 .q 6 (.fld 2) [.s 8] none <|
 .q 7 (.lda 21) [.r 6] none <|
 .x 8 (.mup true [(.i .i64), (.i .i64)]) [.r 3, .r 5, .r 7] none [] <|
 .out [(6, .s 6), (17, .s 17), (18, .s 18), (19, .s 19)]
def e191r8 : EE := .q 0 .add [.s 19, .c (.int .i64 1)] none <|
 .out [(6, .s 6), (17, .s 17), (18, .s 18), (19, .r 0)]
def e191l9 : EC := (.seq (.reg e191r3 [6, 17, 18, 19] 0) (.seq (.cond (.s 20) .skip (.exit 0)) (.seq (.block 1 (.seq (.reg e191r4 [6, 17, 18, 19] 0) (.seq (.seq (.reg e191r5 [6, 8, 17, 18, 19] 0) (.seq (.reg e191r6 [6, 8, 10, 17, 18, 19] 0) (.cond (.s 39) (.exit 1) .skip))) (.reg e191r7 [6, 8, 17, 18, 19] 0)))) (.reg e191r8 [6, 17, 18, 19] 0))))
def e191r10 : EE := .x 1 (.call 253) [.s 6] none [] <|
 .q 3 (.ext 0) [.r 1] none <|
 .q 4 (.ext 1) [.r 1] none <|
 .out [(6, .s 6), (11, .r 3), (12, .r 4)]
def e191r11 : EE := .q 1 .not [.s 11] none <|
 .out [(6, .s 6), (12, .s 12), (55, .r 1)]
def e191r12 : EE := .q 1 .nl [.s 6] none <|
 .q 2 (.fld 8) [.r 1] none <|
 .q 3 .ld [.r 2] none <|
 .x 5 (.call 254) [.s 12] none [⟨3, .ld, [.r 2], none⟩] <|
 .out [(4, .r 3), (5, .r 5)]
def e191l13 : EC := (.block 3 (.seq (.reg e191r10 [6] 0) (.seq (.reg e191r11 [6, 11, 12] 0) (.cond (.s 55) (.seq (.reg e191r12 [6, 12] 0) .ret) .skip))))
def e191 : EFn := ⟨(.seq (.reg e191r0 [0, 1] 0) (.seq (.reg e191r1 [1, 2] 0) (.seq (.seq (.reg e191r2 [1, 6] 0) (.block 0 (.loop [6, 17, 18, 19] e191l9))) (.block 2 (.loop [6] e191l13))))), [.slot 4, .slot 5], 62, 0⟩
theorem g191 : Good Tryz.prog 191 e191 := ⟨Tryz.f191, Tryz.func191, by kernel_rfl, by kernel_rfl, by kernel_rfl, by kernel_rfl⟩
/-! (*concord/node.Node).committed -/
def e192r0 : EE := .out [(0, .s 0)]
def e192r1 : EE := .out [(0, .s 0), (3, .c .nsl)]
def e192r2 : EE := .q 1 .nl [.s 0] none <|
 .q 2 (.fld 4) [.r 1] none <|
 .q 3 .ld [.r 2] none <|
 .x 4 (.call 119) [.r 3] none [] <|
 .q 5 .len [.r 4] none <|
 .out [(0, .s 0), (3, .s 3), (12, .r 4), (13, .r 5), (14, .c z)]
def e192r3 : EE := .q 0 .lss [.s 14, .s 13] none <|
 .out [(0, .s 0), (3, .s 3), (12, .s 12), (13, .s 13), (14, .s 14), (15, .r 0)]
def e192r4 : EE := .q 0 (.ixs 2) [.s 12, .s 14] none <|
 .q 1 (.lda 2) [.r 0] none <|
 .x 2 (.alc [z, z] 40) [] none [] <|
 .x 3 (.st 2) [.r 2, .r 1] none [] <|
 .out [(0, .s 0), (3, .s 3), (5, .r 2), (12, .s 12), (13, .s 13), (14, .s 14)]
def e192r5 : EE := .q 1 .nl [.s 0] none <|
 .q 2 (.fld 4) [.r 1] none <|
 .q 3 .ld [.r 2] none <|
 .q 4 (.lda 2) [.s 5] none <|
 .both false
 (.x 5 (.call 120) [.r 3, .r 4] none [] <|
 .q 7 (.ext 0) [.r 5] none <|
 .q 8 (.ext 1) [.r 5] none <|
 .x 9 (.alc [z, z, z, z, z, z, z, z, zs, zs, zs, zs, z, z, z, z, z, z, z, z, (.bool false)] 48) [] none [⟨3, .ld, [.r 2], none⟩, ⟨4, (.lda 2), [.s 5], none⟩] <|
 .x 10 (.st 21) [.r 9, .r 7] none [] <|
 .out [(0, .s 0), (3, .s 3), (5, .s 5), (6, .r 9), (12, .s 12), (13, .s 13), (14, .s 14)])
 (.x 9 (.alc [z, z, z, z, z, z, z, z, zs, zs, zs, zs, z, z, z, z, z, z, z, z, (.bool false)] 48) [] none [⟨3, .ld, [.r 2], none⟩, ⟨4, (.lda 2), [.s 5], none⟩] <|
 .x 5 (.call 120) [.r 3, .r 4] none [] <|
 .q 7 (.ext 0) [.r 5] none <|
 .q 8 (.ext 1) [.r 5] none <|
 .x 10 (.st 21) [.r 9, .r 7] none [] <|
 .out [(0, .s 0), (3, .s 3), (5, .s 5), (6, .r 9), (12, .s 12), (13, .s 13), (14, .s 14)])
def e192r6 : EE := .q 0 (.fld 1) [.s 5] none <|
 .q 1 .ld [.r 0] none <|
 .q 3 (.fld 0) [.s 5] none <|
 .q 4 .ld [.r 3] none <|
 .q 5 .nl [.s 0] none <|
 .q 6 (.fld 55) [.r 5] none <|
 .q 7 (.ixa 7 1) [.r 6, .r 4] none <|
 .q 8 .ld [.r 7] none <|
 .q 9 .gtr [.r 1, .r 8] none <|
 .q 11 (.fld 0) [.s 6] (some (.r 9, true)) <|
 .q 12 .ld [.r 11] (some (.r 9, true)) <|
 .q 13 .eql [.r 12, .c (.int .i64 3)] (some (.r 9, true)) <|
 .q 14 .pick [.r 9, .r 13, .c (.bool false)] none <|
 .out [(0, .s 0), (3, .s 3), (5, .s 5), (6, .s 6), (12, .s 12), (13, .s 13), (14, .s 14), (41, .r 14)]
def e192r7 : EE := .q 1 (.lda 2) [.s 5] none <|
 .q 2 (.lda 21) [.s 6] none <|
 .q 3 (.bld [z, z, z, z, z, z, z, z, z, z, zs, zs, zs, zs, z, z, z, z, z, z, z, z, (.bool false)] [(0, 2), (2, 21)]) [.r 1, .r 2] none <|
 .x 4 (.bsl 311 1 [z, z, z, z, z, z, z, z, z, z, zs, zs, zs, zs, z, z, z, z, z, z, z, z, (.bool false)] [(0, 23)]) [.r 3] none [] <|
 .x 5 (.app 311 23 216 [z, z, z, z, z, z, z, z, z, z, zs, zs, zs, zs, z, z, z, z, z, z, z, z, (.bool false)]) [.s 3, .r 4] none [] <|
 .out [(0, .s 0), (3, .r 5), (12, .s 12), (13, .s 13), (14, .s 14)]
def e192r8 : EE := .q 0 .add [.s 14, .c (.int .i64 1)] none <|
 .out [(0, .s 0), (3, .s 3), (12, .s 12), (13, .s 13), (14, .r 0)]
def e192l9 : EC := (.seq (.reg e192r3 [0, 3, 12, 13, 14] 0) (.seq (.cond (.s 15) .skip (.exit 0)) (.seq (.block 1 (.seq (.reg e192r4 [0, 3, 12, 13, 14] 0) (.seq (.reg e192r5 [0, 3, 5, 12, 13, 14] 11) (.seq (.reg e192r6 [0, 3, 5, 6, 12, 13, 14] 0) (.cond (.s 41) (.reg e192r7 [0, 3, 5, 6, 12, 13, 14] 0) .skip))))) (.reg e192r8 [0, 3, 12, 13, 14] 0))))
def e192r10 : EE := .out [(2, .s 3)]
def e192 : EFn := ⟨(.seq (.reg e192r0 [0] 0) (.seq (.reg e192r1 [0] 0) (.seq (.seq (.reg e192r2 [0, 3] 0) (.block 0 (.loop [0, 3, 12, 13, 14] e192l9))) (.seq (.reg e192r10 [3] 0) .ret)))), [.slot 2], 50, 0⟩
theorem g192 : Good Tryz.prog 192 e192 := ⟨Tryz.f192, Tryz.func192, by kernel_rfl, by kernel_rfl, by kernel_rfl, by kernel_rfl⟩
/-! (*concord/front.Fronts).Stable -/
def e196r0 : EE := .x 0 (.alc [z, z, z, z, z, z, z] 44) [] none [] <|
 .out [(0, .s 0), (2, .r 0)]
def e196r1 : EE := .q 2 .nl [.s 0] none <|
 .q 3 (.fld 1) [.r 2] none <|
 .q 4 .ld [.r 3] none <|
 .q 5 .nl [.s 0] none <|
 .q 6 (.fld 2) [.r 5] none <|
 .q 7 (.ixa 7 7) [.r 6, .r 4] none <|
 .q 8 (.lda 7) [.r 7] none <|
 .x 9 (.alc [z, z, z, z, z, z, z] 44) [] none [⟨4, .ld, [.r 3], none⟩, ⟨8, (.lda 7), [.r 7], none⟩] <|
 .x 10 (.st 7) [.r 9, .r 8] none [] <|
 .out [(0, .s 0), (2, .s 2), (3, .r 9)]
def e196r2 : EE := .q 1 .nl [.s 0] none <|
 .q 2 (.fld 0) [.r 1] none <|
 .q 3 .ld [.r 2] none <|
 .out [(0, .s 0), (2, .s 2), (3, .s 3), (19, .r 3), (20, .c z)]
def e196r3 : EE := .q 0 .lss [.s 20, .s 19] none <|
 .out [(0, .s 0), (2, .s 2), (3, .s 3), (19, .s 19), (20, .s 20), (21, .r 0)]
def e196r4 : EE := .out [(0, .s 0), (2, .s 2), (3, .s 3), (4, .s 20), (19, .s 19), (20, .s 20)]
def e196r5 : EE := .q 2 .nl [.s 0] none <|
 .q 3 (.fld 2) [.r 2] none <|
 .q 4 (.ixa 7 7) [.r 3, .s 4] none <|
 .q 5 (.lda 7) [.r 4] none <|
 .out [(0, .s 0), (2, .s 2), (3, .s 3), (19, .s 19), (20, .s 20), (28, .r 5), (29, .c z)]
def e196r6 : EE := .q 0 .lss [.s 29, .c (.int .i64 7)] none <|
 .out [(0, .s 0), (2, .s 2), (3, .s 3), (19, .s 19), (20, .s 20), (28, .s 28), (29, .s 29), (30, .r 0)]
def e196r7 : EE := .q 1 (.idx 7 1) [.s 28, .s 29] none <|
 .out [(0, .s 0), (2, .s 2), (3, .s 3), (5, .s 29), (6, .r 1), (19, .s 19), (20, .s 20), (28, .s 28), (29, .s 29)]
def e196r8 : EE := .q 2 (.ixa 7 1) [.s 3, .s 5] none <|
 .q 3 .ld [.r 2] none <|
 .q 5 .mn [.r 3, .s 6] none <|
 .q 6 (.ixa 7 1) [.s 3, .s 5] none <|
 .x 7 (.st 1) [.r 6, .r 5] none [] <|
 .out [(0, .s 0), (2, .s 2), (3, .s 3), (19, .s 19), (20, .s 20), (28, .s 28), (29, .s 29)]
def e196r9 : EE := .q 0 .add [.s 29, .c (.int .i64 1)] none <|
 .out [(0, .s 0), (2, .s 2), (3, .s 3), (19, .s 19), (20, .s 20), (28, .s 28), (29, .r 0)]
def e196l10 : EC := (.seq (.reg e196r6 [0, 2, 3, 19, 20, 28, 29] 0) (.seq (.cond (.s 30) .skip (.exit 2)) (.seq (.block 3 (.seq (.reg e196r7 [0, 2, 3, 19, 20, 28, 29] 0) (.reg e196r8 [0, 2, 3, 5, 6, 19, 20, 28, 29] 0))) (.reg e196r9 [0, 2, 3, 19, 20, 28, 29] 0))))
def e196r11 : EE := .q 0 .add [.s 20, .c (.int .i64 1)] none <|
 .out [(0, .s 0), (2, .s 2), (3, .s 3), (19, .s 19), (20, .r 0)]
def e196l12 : EC := (.seq (.reg e196r3 [0, 2, 3, 19, 20] 0) (.seq (.cond (.s 21) .skip (.exit 0)) (.seq (.block 1 (.seq (.reg e196r4 [0, 2, 3, 19, 20] 0) (.seq (.reg e196r5 [0, 2, 3, 4, 19, 20] 0) (.block 2 (.loop [0, 2, 3, 19, 20, 28, 29] e196l10))))) (.reg e196r11 [0, 2, 3, 19, 20] 0))))
def e196r13 : EE := .q 0 (.lda 7) [.s 3] none <|
 .x 1 (.st 7) [.s 2, .r 0] none [] <|
 .out [(2, .s 2)]
def e196 : EFn := ⟨(.seq (.reg e196r0 [0] 0) (.seq (.reg e196r1 [0, 2] 0) (.seq (.seq (.reg e196r2 [0, 2, 3] 0) (.block 0 (.loop [0, 2, 3, 19, 20] e196l12))) (.seq (.reg e196r13 [2, 3] 0) .ret)))), [.cells 2 7], 43, 0⟩
theorem g196 : Good Tryz.prog 196 e196 := ⟨Tryz.f196, Tryz.func196, by kernel_rfl, by kernel_rfl, by kernel_rfl, by kernel_rfl⟩
/-! (*concord/core.Core).Cut -/
def e197r0 : EE := .x 0 (.alc [z, z, z, z, z, z, z] 44) [] none [] <|
 .out [(0, .s 0), (2, .r 0)]
def e197r1 : EE := .q 1 .nl [.s 0] none <|
 .q 2 (.fld 2) [.r 1] none <|
 .q 3 .ld [.r 2] none <|
 .x 4 (.call 260) [.r 3] none [] <|
 .x 5 (.st 7) [.s 2, .r 4] none [] <|
 .out [(2, .s 2)]
def e197 : EFn := ⟨(.seq (.reg e197r0 [0] 0) (.seq (.reg e197r1 [0, 2] 0) .ret)), [.cells 2 7], 8, 0⟩
theorem g197 : Good Tryz.prog 197 e197 := ⟨Tryz.f197, Tryz.func197, by kernel_rfl, by kernel_rfl, by kernel_rfl, by kernel_rfl⟩
/-! concord/log.Record -/
def e199r0 : EE := .x 0 (.box 40) [.s 0] none [] <|
 .x 1 (.box 48) [.s 1] none [] <|
 .out [(2, .r 0), (3, .r 1)]
def e199r1 : EE := .q 0 (.fld 0) [.s 2] none <|
 .q 1 .ld [.r 0] none <|
 .q 3 (.fld 1) [.s 2] none <|
 .q 4 .ld [.r 3] none <|
 .q 6 (.lda 21) [.s 3] none <|
 .x 2 (.call 109) [.c .nsl, .r 1] none [⟨4, .ld, [.r 3], none⟩, ⟨6, (.lda 21), [.s 3], none⟩] <|
 .x 5 (.call 109) [.r 2, .r 4] none [⟨6, (.lda 21), [.s 3], none⟩] <|
 .x 7 (.call 264) [.r 5, .r 6] none [] <|
 .out [(4, .r 7)]
def e199 : EFn := ⟨(.seq (.reg e199r0 [0, 1] 0) (.seq (.reg e199r1 [2, 3] 0) .ret)), [.slot 4], 13, 0⟩
theorem g199 : Good Tryz.prog 199 e199 := ⟨Tryz.f199, Tryz.func199, by kernel_rfl, by kernel_rfl, by kernel_rfl, by kernel_rfl⟩
/-! (*concord/log.Log).List -/
def e200r0 : EE := .out [(0, .s 0)]
def e200r1 : EE := .out [(0, .s 0), (3, .c .nsl)]
def e200r2 : EE := .q 1 .nl [.s 0] none <|
 .q 2 (.fld 0) [.r 1] none <|
 .q 3 .ld [.r 2] none <|
 .x 4 .rng [.r 3] none [] <|
 .out [(3, .s 3), (9, .r 4)]
def e200r3 : EE := .x 0 .nxt [.s 9] none [] <|
 .q 1 (.ext 0) [.r 0] none <|
 .out [(3, .s 3), (9, .s 9), (11, .r 1)]
def e200r4 : EE := .q 0 .ent [.s 9] none <|
 .q 1 (.ext 0) [.r 0] none <|
 .x 2 (.alc [z, z] 40) [] none [] <|
 .x 3 (.st 2) [.r 2, .r 1] none [] <|
 .out [(3, .s 3), (4, .r 2), (9, .s 9)]
def e200r5 : EE := .q 1 (.lda 2) [.s 4] none <|
 .x 2 (.bsl 40 1 [z, z] [(0, 2)]) [.r 1] none [] <|
 .x 3 (.app 40 2 16 [z, z]) [.s 3, .r 2] none [] <|
 .out [(3, .r 3), (9, .s 9)]
def e200l6 : EC := (.seq (.reg e200r3 [3, 9] 0) (.seq (.cond (.s 11) .skip (.exit 0)) (.block 1 (.seq (.reg e200r4 [3, 9] 0) (.reg e200r5 [3, 4, 9] 0)))))
def e200r7 : EE := .x 1 (.call 265) [.s 3, .f 266] none [] <|
 .out [(3, .s 3)]
def e200r8 : EE := .out [(2, .s 3)]
def e200 : EFn := ⟨(.seq (.reg e200r0 [0] 0) (.seq (.reg e200r1 [0] 0) (.seq (.seq (.reg e200r2 [0, 3] 0) (.block 0 (.loop [3, 9] e200l6))) (.seq (.reg e200r7 [3] 0) (.seq (.reg e200r8 [3] 0) .ret))))), [.slot 2], 21, 0⟩
theorem g200 : Good Tryz.prog 200 e200 := ⟨Tryz.f200, Tryz.func200, by kernel_rfl, by kernel_rfl, by kernel_rfl, by kernel_rfl⟩
/-! (*concord/log.Log).Cell -/
def e201r0 : EE := .x 0 (.box 40) [.s 1] none [] <|
 .x 1 (.alc [z, z, z, z, z, z, z, z, zs, zs, zs, zs, z, z, z, z, z, z, z, z, (.bool false)] 48) [] none [] <|
 .out [(0, .s 0), (3, .r 0), (4, .r 1)]
def e201r1 : EE := .q 1 .nl [.s 0] none <|
 .q 2 (.fld 0) [.r 1] none <|
 .q 3 .ld [.r 2] none <|
 .q 4 (.lda 2) [.s 3] none <|
 .q 5 (.lkp true [(.i .i64), (.i .i64)] (.agg [z, z, z, z, z, z, z, z, zs, zs, zs, zs, z, z, z, z, z, z, z, z, (.bool false)]) true) [.r 3, .r 4] none <|
 .q 7 (.ext 0) [.r 5] none <|
 .q 8 (.ext 1) [.r 5] none <|
 .x 9 (.alc [z, z, z, z, z, z, z, z, zs, zs, zs, zs, z, z, z, z, z, z, z, z, (.bool false)] 48) [] none [⟨3, .ld, [.r 2], none⟩, ⟨4, (.lda 2), [.s 3], none⟩, ⟨5, (.lkp true [(.i .i64), (.i .i64)] (.agg [z, z, z, z, z, z, z, z, zs, zs, zs, zs, z, z, z, z, z, z, z, z, (.bool false)]) true), [.r 3, .r 4], none⟩] <|
 .x 10 (.st 21) [.r 9, .r 7] none [] <|
 .out [(4, .s 4), (6, .r 9), (7, .r 8)]
def e201r2 : EE := .q 1 .not [.s 7] none <|
 .out [(4, .s 4), (6, .s 6), (18, .r 1)]
def e201r3 : EE := .q 0 (.bld [z, z, z, z, z, z, z, z, zs, zs, zs, zs, z, z, z, z, z, z, z, z, (.bool false)] []) [] none <|
 .x 1 (.st 21) [.s 4, .r 0] none [] <|
 .out [(4, .s 4), (5, .c (.bool false))]
def e201r4 : EE := .q 0 (.lda 21) [.s 6] none <|
 .x 1 (.st 21) [.s 4, .r 0] none [] <|
 .out [(4, .s 4), (5, .c (.bool true))]
def e201 : EFn := ⟨(.seq (.reg e201r0 [0, 1] 0) (.seq (.reg e201r1 [0, 3, 4] 0) (.seq (.seq (.reg e201r2 [4, 6, 7] 0) (.cond (.s 18) (.seq (.reg e201r3 [4] 0) .ret) .skip)) (.seq (.reg e201r4 [4, 6] 0) .ret)))), [.cells 4 21, .slot 5], 21, 0⟩
theorem g201 : Good Tryz.prog 201 e201 := ⟨Tryz.f201, Tryz.func201, by kernel_rfl, by kernel_rfl, by kernel_rfl, by kernel_rfl⟩
/-! (*concord/core.Core).take -/
def e202r0 : EE := .q 2 .nl [.s 1] none <|
 .q 3 (.fld 0) [.r 2] none <|
 .q 4 (.lda 2) [.r 3] none <|
 .x 5 (.call 209) [.s 0, .r 4] none [] <|
 .out [(0, .s 0), (1, .s 1)]
def e202r1 : EE := .out [(0, .s 0), (1, .s 1), (4, .c z)]
def e202r2 : EE := .q 2 .nl [.s 0] none <|
 .q 3 (.fld 4) [.r 2] none <|
 .q 4 .ld [.r 3] none <|
 .q 5 .len [.r 4] none <|
 .q 6 .lss [.s 4, .r 5] none <|
 .q 8 .mv [.s 0] (some (.r 6, true)) <|
 .q 9 .nl [.r 8] (some (.r 6, true)) <|
 .q 10 (.fld 4) [.r 9] (some (.r 6, true)) <|
 .q 11 .ld [.r 10] (some (.r 6, true)) <|
 .q 12 .mv [.s 4] (some (.r 6, true)) <|
 .q 13 (.ixs 1) [.r 11, .r 12] (some (.r 6, true)) <|
 .q 14 .ld [.r 13] (some (.r 6, true)) <|
 .q 15 .nl [.r 14] (some (.r 6, true)) <|
 .q 16 (.fld 0) [.r 15] (some (.r 6, true)) <|
 .q 17 (.lda 2) [.r 16] (some (.r 6, true)) <|
 .q 18 .mv [.s 1] (some (.r 6, true)) <|
 .q 19 .nl [.r 18] (some (.r 6, true)) <|
 .q 20 (.fld 0) [.r 19] (some (.r 6, true)) <|
 .q 21 (.lda 2) [.r 20] (some (.r 6, true)) <|
 .x 22 (.call 267) [.r 17, .r 21] (some (.r 6, true)) [] <|
 .q 23 .pick [.r 6, .r 22, .c (.bool false)] none <|
 .out [(0, .s 0), (1, .s 1), (4, .s 4), (34, .r 23)]
def e202r3 : EE := .q 1 .add [.s 4, .c (.int .i64 1)] none <|
 .out [(0, .s 0), (1, .s 1), (4, .r 1)]
def e202l4 : EC := (.seq (.seq (.reg e202r2 [0, 1, 4] 0) (.cond (.s 34) .skip (.exit 0))) (.block 1 (.reg e202r3 [0, 1, 4] 0)))
def e202r5 : EE := .q 2 .nl [.s 0] none <|
 .q 3 (.fld 4) [.r 2] none <|
 .q 4 .ld [.r 3] none <|
 .x 7 (.bsl 225 1 [.nptr] [(0, 1)]) [.s 1] none [] <|
 .x 8 (.call 268) [.r 4, .s 4, .r 7] none [] <|
 .q 9 .nl [.s 0] none <|
 .q 10 (.fld 4) [.r 9] none <|
 .x 11 (.st 1) [.r 10, .r 8] none [] <|
 .out []
def e202 : EFn := ⟨(.seq (.reg e202r0 [0, 1] 0) (.seq (.reg e202r1 [0, 1] 0) (.seq (.block 0 (.loop [0, 1, 4] e202l4)) (.reg e202r5 [0, 1, 4] 0)))), [], 48, 0⟩
theorem g202 : Good Tryz.prog 202 e202 := ⟨Tryz.f202, Tryz.func202, by kernel_rfl, by kernel_rfl, by kernel_rfl, by kernel_rfl⟩
/-! (*concord/core.Core).all -/
def e203r0 : EE := .x 0 (.box 50) [.s 1] none [] <|
 .x 1 (.box 43) [.s 2] none [] <|
 .out [(0, .s 0), (4, .r 0), (5, .r 1)]
def e203r1 : EE := .q 1 .nl [.s 0] none <|
 .q 2 (.fld 0) [.r 1] none <|
 .q 3 .ld [.r 2] none <|
 .out [(0, .s 0), (4, .s 4), (5, .s 5), (10, .r 3), (11, .c z)]
def e203r2 : EE := .q 0 .lss [.s 11, .s 10] none <|
 .out [(0, .s 0), (4, .s 4), (5, .s 5), (10, .s 10), (11, .s 11), (12, .r 0)]
def e203r3 : EE := .out [(0, .s 0), (4, .s 4), (5, .s 5), (6, .s 11), (10, .s 10), (11, .s 11)]
def e203r4 : EE := .q 2 .nl [.s 0] none <|
 .q 3 (.fld 1) [.r 2] none <|
 .q 4 .ld [.r 3] none <|
 .q 5 .neq [.s 6, .r 4] none <|
 .q 7 .mv [.s 6] (some (.r 5, true)) <|
 .q 8 (.ixa 7 1) [.s 5, .r 7] (some (.r 5, true)) <|
 .q 9 .ld [.r 8] (some (.r 5, true)) <|
 .q 10 .eql [.r 9, .c z] (some (.r 5, true)) <|
 .q 11 .pick [.r 5, .r 10, .c (.bool false)] none <|
 .out [(0, .s 0), (4, .s 4), (5, .s 5), (6, .s 6), (10, .s 10), (11, .s 11), (25, .r 11)]
def e203r5 : EE := .q 2 (.lda 51) [.s 4] none <|
 .x 3 (.call 207) [.s 0, .s 6, .r 2] none [] <|
 .out [(0, .s 0), (4, .s 4), (5, .s 5), (10, .s 10), (11, .s 11)]
def e203r6 : EE := .q 0 .add [.s 11, .c (.int .i64 1)] none <|
 .out [(0, .s 0), (4, .s 4), (5, .s 5), (10, .s 10), (11, .r 0)]
def e203l7 : EC := (.seq (.reg e203r2 [0, 4, 5, 10, 11] 0) (.seq (.cond (.s 12) .skip (.exit 0)) (.seq (.block 1 (.seq (.reg e203r3 [0, 4, 5, 10, 11] 0) (.seq (.reg e203r4 [0, 4, 5, 6, 10, 11] 0) (.cond (.s 25) (.reg e203r5 [0, 4, 5, 6, 10, 11] 0) .skip)))) (.reg e203r6 [0, 4, 5, 10, 11] 0))))
def e203 : EFn := ⟨(.seq (.reg e203r0 [0, 1, 2] 0) (.seq (.reg e203r1 [0, 4, 5] 0) (.block 0 (.loop [0, 4, 5, 10, 11] e203l7)))), [], 31, 0⟩
theorem g203 : Good Tryz.prog 203 e203 := ⟨Tryz.f203, Tryz.func203, by kernel_rfl, by kernel_rfl, by kernel_rfl, by kernel_rfl⟩
/-! (*concord/core.lead).ask -/
def e204r0 : EE := .x 0 (.alc [z, z, z, z, z, z, z, z, z, z, zs, zs, zs, zs, z, z, z, z, z, z, z, z, z, z, z, z, z, z, z, z, zs, zs, zs, zs, z, z, z, z, z, z, z, z, (.bool false), z, z, z, z, z, z, z, zs] 50) [] none [] <|
 .out [(0, .s 0), (2, .r 0)]
def e204r1 : EE := .q 1 .nl [.s 0] none <|
 .q 2 (.fld 0) [.r 1] none <|
 .q 3 (.lda 2) [.r 2] none <|
 .q 5 .nl [.s 0] none <|
 .q 6 (.fld 3) [.r 5] none <|
 .q 7 (.lda 2) [.r 6] none <|
 .q 8 (.bld [z, z, z, z, z, z, z, z, z, z, zs, zs, zs, zs, z, z, z, z, z, z, z, z, z, z, z, z, z, z, z, z, zs, zs, zs, zs, z, z, z, z, z, z, z, z, (.bool false), z, z, z, z, z, z, z, zs] [(3, 2), (5, 2)]) [.r 3, .r 7] none <|
 .x 9 (.alc [z, z, z, z, z, z, z, z, z, z, zs, zs, zs, zs, z, z, z, z, z, z, z, z, z, z, z, z, z, z, z, z, zs, zs, zs, zs, z, z, z, z, z, z, z, z, (.bool false), z, z, z, z, z, z, z, zs] 50) [] none [⟨3, (.lda 2), [.r 2], none⟩, ⟨7, (.lda 2), [.r 6], none⟩] <|
 .x 10 (.st 51) [.r 9, .r 8] none [] <|
 .out [(0, .s 0), (2, .s 2), (3, .r 9)]
def e204r2 : EE := .q 1 .nl [.s 0] none <|
 .q 2 (.fld 2) [.r 1] none <|
 .q 3 .ld [.r 2] none <|
 .out [(0, .s 0), (2, .s 2), (3, .s 3), (16, .r 3)]
def e204r3 : EE := .q 0 .eql [.s 16, .c z] none <|
 .out [(0, .s 0), (2, .s 2), (3, .s 3), (16, .s 16), (18, .r 0)]
def e204r4 : EE := .q 1 .nl [.s 0] none <|
 .q 2 (.fld 6) [.r 1] none <|
 .q 3 (.lda 7) [.r 2] none <|
 .q 5 .nl [.s 0] none <|
 .q 6 (.fld 13) [.r 5] none <|
 .q 7 (.lda 8) [.r 6] none <|
 .q 8 (.fld 0) [.s 3] none <|
 .x 9 (.st 1) [.r 8, .c (.int .i64 1)] none [⟨3, (.lda 7), [.r 2], none⟩, ⟨7, (.lda 8), [.r 6], none⟩] <|
 .q 10 (.fld 7) [.s 3] none <|
 .x 11 (.st 7) [.r 10, .r 3] none [⟨7, (.lda 8), [.r 6], none⟩] <|
 .q 12 (.fld 14) [.s 3] none <|
 .x 13 (.st 8) [.r 12, .r 7] none [] <|
 .out [(2, .s 2), (3, .s 3)]
def e204r5 : EE := .q 0 .eql [.s 16, .c (.int .i64 1)] none <|
 .out [(0, .s 0), (2, .s 2), (3, .s 3), (31, .r 0)]
def e204r6 : EE := .q 1 .nl [.s 0] none <|
 .q 2 (.fld 6) [.r 1] none <|
 .q 3 (.lda 7) [.r 2] none <|
 .q 5 .nl [.s 0] none <|
 .q 6 (.fld 13) [.r 5] none <|
 .q 7 (.lda 8) [.r 6] none <|
 .q 8 (.fld 0) [.s 3] none <|
 .x 9 (.st 1) [.r 8, .c (.int .i64 3)] none [⟨3, (.lda 7), [.r 2], none⟩, ⟨7, (.lda 8), [.r 6], none⟩] <|
 .q 10 (.fld 7) [.s 3] none <|
 .x 11 (.st 7) [.r 10, .r 3] none [⟨7, (.lda 8), [.r 6], none⟩] <|
 .q 12 (.fld 14) [.s 3] none <|
 .x 13 (.st 8) [.r 12, .r 7] none [] <|
 .out [(2, .s 2), (3, .s 3)]
def e204r7 : EE := .q 0 (.fld 0) [.s 3] none <|
 .x 1 (.st 1) [.r 0, .c (.int .i64 6)] none [] <|
 .out [(2, .s 2), (3, .s 3)]
def e204r8 : EE := .q 0 (.lda 51) [.s 3] none <|
 .x 1 (.st 51) [.s 2, .r 0] none [] <|
 .out [(2, .s 2)]
def e204 : EFn := ⟨(.seq (.reg e204r0 [0] 0) (.seq (.reg e204r1 [0, 2] 0) (.seq (.seq (.reg e204r2 [0, 2, 3] 0) (.block 0 (.seq (.reg e204r3 [0, 2, 3, 16] 0) (.cond (.s 18) (.reg e204r4 [0, 2, 3] 0) (.seq (.reg e204r5 [0, 2, 3, 16] 0) (.cond (.s 31) (.reg e204r6 [0, 2, 3] 0) (.reg e204r7 [2, 3] 0))))))) (.seq (.reg e204r8 [2, 3] 0) .ret)))), [.cells 2 51], 45, 0⟩
theorem g204 : Good Tryz.prog 204 e204 := ⟨Tryz.f204, Tryz.func204, by kernel_rfl, by kernel_rfl, by kernel_rfl, by kernel_rfl⟩
/-! concord/inst.Below -/
def e205r0 : EE := .x 0 (.box 42) [.s 0] none [] <|
 .x 1 (.box 42) [.s 1] none [] <|
 .out [(2, .r 0), (3, .r 1)]
def e205r1 : EE := .q 0 (.fld 0) [.s 2] none <|
 .q 1 .ld [.r 0] none <|
 .q 2 (.fld 0) [.s 3] none <|
 .q 3 .ld [.r 2] none <|
 .q 4 .lss [.r 1, .r 3] none <|
 .q 6 (.fld 0) [.s 2] (some (.r 4, false)) <|
 .q 7 .ld [.r 6] (some (.r 4, false)) <|
 .q 8 (.fld 0) [.s 3] (some (.r 4, false)) <|
 .q 9 .ld [.r 8] (some (.r 4, false)) <|
 .q 10 .eql [.r 7, .r 9] (some (.r 4, false)) <|
 .q 11 .mv [.r 10] (some (.r 4, false)) <|
 .q 12 (.fld 1) [.s 2] (some (.r 11, true)) <|
 .q 13 .ld [.r 12] (some (.r 11, true)) <|
 .q 14 (.fld 1) [.s 3] (some (.r 11, true)) <|
 .q 15 .ld [.r 14] (some (.r 11, true)) <|
 .q 16 .lss [.r 13, .r 15] (some (.r 11, true)) <|
 .q 17 .pick [.r 11, .r 16, .c (.bool false)] (some (.r 4, false)) <|
 .q 18 .pick [.r 4, .c (.bool true), .r 17] none <|
 .out [(4, .r 18)]
def e205 : EFn := ⟨(.seq (.reg e205r0 [0, 1] 0) (.seq (.reg e205r1 [2, 3] 0) .ret)), [.slot 4], 24, 0⟩
theorem g205 : Good Tryz.prog 205 e205 := ⟨Tryz.f205, Tryz.func205, by kernel_rfl, by kernel_rfl, by kernel_rfl, by kernel_rfl⟩
/-! (*concord/core.Core).Want -/
def e206r0 : EE := .x 0 (.box 40) [.s 1] none [] <|
 .out [(0, .s 0), (3, .r 0)]
def e206r1 : EE := .q 1 (.lda 2) [.s 3] none <|
 .x 2 (.call 221) [.s 0, .r 1] none [] <|
 .q 3 .not [.r 2] none <|
 .q 5 .mv [.s 0] (some (.r 3, false)) <|
 .q 6 (.lda 2) [.s 3] (some (.r 3, false)) <|
 .x 7 (.call 211) [.r 5, .r 6] (some (.r 3, false)) [] <|
 .q 8 (.eqp true) [.r 7, .c .nptr] (some (.r 3, false)) <|
 .q 9 .pick [.r 3, .c (.bool true), .r 8] none <|
 .q 11 .mv [.s 0] (some (.r 9, false)) <|
 .q 12 .nl [.r 11] (some (.r 9, false)) <|
 .q 13 (.fld 5) [.r 12] (some (.r 9, false)) <|
 .q 14 .ld [.r 13] (some (.r 9, false)) <|
 .q 15 .len [.r 14] (some (.r 9, false)) <|
 .q 16 .geq [.r 15, .c (.int .i64 256)] (some (.r 9, false)) <|
 .q 17 .pick [.r 9, .c (.bool true), .r 16] none <|
 .out [(0, .s 0), (3, .s 3), (23, .r 17)]
def e206r2 : EE := .out [(4, .c (.bool false))]
def e206r3 : EE := .out [(0, .s 0), (3, .s 3), (5, .c z)]
def e206r4 : EE := .q 2 .nl [.s 0] none <|
 .q 3 (.fld 5) [.r 2] none <|
 .q 4 .ld [.r 3] none <|
 .q 5 .len [.r 4] none <|
 .q 6 .lss [.s 5, .r 5] none <|
 .q 8 .mv [.s 0] (some (.r 6, true)) <|
 .q 9 .nl [.r 8] (some (.r 6, true)) <|
 .q 10 (.fld 5) [.r 9] (some (.r 6, true)) <|
 .q 11 .ld [.r 10] (some (.r 6, true)) <|
 .q 12 .mv [.s 5] (some (.r 6, true)) <|
 .q 13 (.ixs 1) [.r 11, .r 12] (some (.r 6, true)) <|
 .q 14 .ld [.r 13] (some (.r 6, true)) <|
 .q 15 .nl [.r 14] (some (.r 6, true)) <|
 .q 16 (.fld 0) [.r 15] (some (.r 6, true)) <|
 .q 17 (.lda 2) [.r 16] (some (.r 6, true)) <|
 .q 18 (.lda 2) [.s 3] (some (.r 6, true)) <|
 .x 19 (.call 267) [.r 17, .r 18] (some (.r 6, true)) [] <|
 .q 20 .pick [.r 6, .r 19, .c (.bool false)] none <|
 .out [(0, .s 0), (3, .s 3), (5, .s 5), (44, .r 20)]
def e206r5 : EE := .q 1 .add [.s 5, .c (.int .i64 1)] none <|
 .out [(0, .s 0), (3, .s 3), (5, .r 1)]
def e206l6 : EC := (.seq (.seq (.reg e206r4 [0, 3, 5] 0) (.cond (.s 44) .skip (.exit 0))) (.block 1 (.reg e206r5 [0, 3, 5] 0)))
def e206r7 : EE := .q 2 .nl [.s 0] none <|
 .q 3 (.fld 5) [.r 2] none <|
 .q 4 .ld [.r 3] none <|
 .q 6 (.lda 2) [.s 3] none <|
 .q 7 (.bld [z, z, z, z, z] [(0, 2)]) [.r 6] none <|
 .x 8 (.box 328) [.r 7] none [⟨4, .ld, [.r 3], none⟩] <|
 .x 9 (.bsl 325 1 [.nptr] [(0, 1)]) [.r 8] none [⟨4, .ld, [.r 3], none⟩] <|
 .x 10 (.call 269) [.r 4, .s 5, .r 9] none [] <|
 .q 11 .nl [.s 0] none <|
 .q 12 (.fld 5) [.r 11] none <|
 .x 13 (.st 1) [.r 12, .r 10] none [] <|
 .out []
def e206r8 : EE := .out [(4, .c (.bool true))]
def e206 : EFn := ⟨(.seq (.reg e206r0 [0, 1] 0) (.seq (.seq (.reg e206r1 [0, 3] 0) (.cond (.s 23) (.seq (.reg e206r2 [] 0) .ret) .skip)) (.seq (.reg e206r3 [0, 3] 0) (.seq (.block 0 (.loop [0, 3, 5] e206l6)) (.seq (.reg e206r7 [0, 3, 5] 0) (.seq (.reg e206r8 [] 0) .ret)))))), [.slot 4], 60, 0⟩
theorem g206 : Good Tryz.prog 206 e206 := ⟨Tryz.f206, Tryz.func206, by kernel_rfl, by kernel_rfl, by kernel_rfl, by kernel_rfl⟩
/-! (*concord/core.Core).send -/
def e207r0 : EE := .x 0 (.box 50) [.s 2] none [] <|
 .out [(0, .s 0), (1, .s 1), (5, .r 0)]
def e207r1 : EE := .q 1 .nl [.s 0] none <|
 .q 2 (.fld 1) [.r 1] none <|
 .q 3 .ld [.r 2] none <|
 .q 5 (.fld 1) [.s 5] none <|
 .x 6 (.st 1) [.r 5, .r 3] none [] <|
 .q 7 (.fld 2) [.s 5] none <|
 .x 8 (.st 1) [.r 7, .s 1] none [] <|
 .out [(0, .s 0), (5, .s 5)]
def e207r2 : EE := .q 2 .nl [.s 0] none <|
 .q 3 (.fld 7) [.r 2] none <|
 .q 4 .ld [.r 3] none <|
 .q 5 (.lda 51) [.s 5] none <|
 .x 6 (.bsl 50 1 [z, z, z, z, z, z, z, z, z, z, zs, zs, zs, zs, z, z, z, z, z, z, z, z, z, z, z, z, z, z, z, z, zs, zs, zs, zs, z, z, z, z, z, z, z, z, (.bool false), z, z, z, z, z, z, z, zs] [(0, 51)]) [.r 5] none [⟨4, .ld, [.r 3], none⟩] <|
 .x 7 (.app 50 51 480 [z, z, z, z, z, z, z, z, z, z, zs, zs, zs, zs, z, z, z, z, z, z, z, z, z, z, z, z, z, z, z, z, zs, zs, zs, zs, z, z, z, z, z, z, z, z, (.bool false), z, z, z, z, z, z, z, zs]) [.r 4, .r 6] none [] <|
 .q 8 .nl [.s 0] none <|
 .q 9 (.fld 7) [.r 8] none <|
 .x 10 (.st 1) [.r 9, .r 7] none [] <|
 .out []
def e207 : EFn := ⟨(.seq (.reg e207r0 [0, 1, 2] 0) (.seq (.reg e207r1 [0, 1, 5] 0) (.reg e207r2 [0, 5] 0))), [], 23, 0⟩
theorem g207 : Good Tryz.prog 207 e207 := ⟨Tryz.f207, Tryz.func207, by kernel_rfl, by kernel_rfl, by kernel_rfl, by kernel_rfl⟩
/-! (*concord/core.Core).find -/
def e208r0 : EE := .x 0 (.box 40) [.s 1] none [] <|
 .out [(0, .s 0), (3, .r 0)]
def e208r1 : EE := .q 1 .nl [.s 0] none <|
 .q 2 (.fld 4) [.r 1] none <|
 .q 3 .ld [.r 2] none <|
 .q 4 .len [.r 3] none <|
 .out [(3, .s 3), (10, .r 3), (11, .r 4), (12, .c z)]
def e208r2 : EE := .q 0 .lss [.s 12, .s 11] none <|
 .out [(3, .s 3), (10, .s 10), (11, .s 11), (12, .s 12), (13, .r 0)]
def e208r3 : EE := .q 0 (.ixs 1) [.s 10, .s 12] none <|
 .q 1 .ld [.r 0] none <|
 .out [(3, .s 3), (6, .r 1), (10, .s 10), (11, .s 11), (12, .s 12)]
def e208r4 : EE := .q 1 .nl [.s 6] none <|
 .q 2 (.fld 0) [.r 1] none <|
 .q 3 (.lda 2) [.r 2] none <|
 .q 4 (.lda 2) [.s 3] none <|
 .q 5 (.eqc false [(.i .i64), (.i .i64)]) [.r 3, .r 4] none <|
 .out [(3, .s 3), (6, .s 6), (10, .s 10), (11, .s 11), (12, .s 12), (21, .r 5)]
def e208r5 : EE := .out [(4, .s 6)]
def e208r6 : EE := .q 0 .add [.s 12, .c (.int .i64 1)] none <|
 .out [(3, .s 3), (10, .s 10), (11, .s 11), (12, .r 0)]
def e208l7 : EC := (.seq (.reg e208r2 [3, 10, 11, 12] 0) (.seq (.cond (.s 13) .skip (.exit 0)) (.seq (.block 1 (.seq (.reg e208r3 [3, 10, 11, 12] 0) (.seq (.reg e208r4 [3, 6, 10, 11, 12] 0) (.cond (.s 21) (.seq (.reg e208r5 [6] 0) .ret) .skip)))) (.reg e208r6 [3, 10, 11, 12] 0))))
def e208r8 : EE := .out [(4, .c .nptr)]
def e208 : EFn := ⟨(.seq (.reg e208r0 [0, 1] 0) (.seq (.seq (.reg e208r1 [0, 3] 0) (.block 0 (.loop [3, 10, 11, 12] e208l7))) (.seq (.reg e208r8 [] 0) .ret))), [.slot 4], 24, 0⟩
theorem g208 : Good Tryz.prog 208 e208 := ⟨Tryz.f208, Tryz.func208, by kernel_rfl, by kernel_rfl, by kernel_rfl, by kernel_rfl⟩
/-! (*concord/core.Core).leave -/
def e209r0 : EE := .x 0 (.box 40) [.s 1] none [] <|
 .out [(0, .s 0), (3, .r 0)]
def e209r1 : EE := .q 2 .nl [.s 0] none <|
 .q 3 (.fld 4) [.r 2] none <|
 .q 4 .ld [.r 3] none <|
 .q 5 (.mkf 270 0) [.s 3] none <|
 .x 6 (.call 261) [.r 4, .r 5] none [] <|
 .q 7 .nl [.s 0] none <|
 .q 8 (.fld 4) [.r 7] none <|
 .x 9 (.st 1) [.r 8, .r 6] none [] <|
 .out []
def e209 : EFn := ⟨(.seq (.reg e209r0 [0, 1] 0) (.reg e209r1 [0, 3] 0)), [], 13, 0⟩
theorem g209 : Good Tryz.prog 209 e209 := ⟨Tryz.f209, Tryz.func209, by kernel_rfl, by kernel_rfl, by kernel_rfl, by kernel_rfl⟩
/-! (*concord/core.Core).pre -/
def e210r0 : EE := .x 0 (.box 50) [.s 1] none [] <|
 .x 1 (.box 48) [.s 2] none [] <|
 .out [(0, .s 0), (3, .s 3), (5, .r 0), (6, .r 1)]
def e210r1 : EE := .q 0 (.fld 3) [.s 5] none <|
 .q 1 (.lda 2) [.r 0] none <|
 .q 2 (.fld 5) [.s 5] none <|
 .q 3 (.lda 2) [.r 2] none <|
 .q 4 (.fld 12) [.s 6] none <|
 .q 5 (.lda 8) [.r 4] none <|
 .q 6 (.bld [z, z, z, z, z, z, z, z, z, z, zs, zs, zs, zs, z, z, z, z, z, z, z, z, z, z, z, z, z, z, z, z, zs, zs, zs, zs, z, z, z, z, z, z, z, z, (.bool false), z, z, z, z, z, z, z, zs] [(0, 1), (3, 2), (5, 2), (14, 8)]) [.c (.int .i64 2), .r 1, .r 3, .r 5] none <|
 .x 7 (.alc [z, z, z, z, z, z, z, z, z, z, zs, zs, zs, zs, z, z, z, z, z, z, z, z, z, z, z, z, z, z, z, z, zs, zs, zs, zs, z, z, z, z, z, z, z, z, (.bool false), z, z, z, z, z, z, z, zs] 50) [] none [] <|
 .x 8 (.st 51) [.r 7, .r 6] none [] <|
 .out [(0, .s 0), (3, .s 3), (5, .s 5), (6, .s 6), (8, .r 7)]
def e210r2 : EE := .out [(0, .s 0), (5, .s 5), (6, .s 6), (8, .s 8), (18, .s 3)]
def e210r3 : EE := .q 0 (.fld 0) [.s 6] none <|
 .q 1 .ld [.r 0] none <|
 .q 2 .eql [.r 1, .c (.int .i64 1)] none <|
 .out [(0, .s 0), (5, .s 5), (8, .s 8), (21, .r 2)]
def e210r4 : EE := .q 1 (.fld 1) [.s 5] none <|
 .q 2 .ld [.r 1] none <|
 .q 3 (.lda 51) [.s 8] none <|
 .x 4 (.call 207) [.s 0, .r 2, .r 3] none [] <|
 .out []
def e210r5 : EE := .q 0 (.fld 14) [.s 5] none <|
 .q 1 (.lda 8) [.r 0] none <|
 .q 3 .nl [.s 0] none <|
 .q 4 (.fld 3) [.r 3] none <|
 .q 5 .ld [.r 4] none <|
 .q 6 (.fld 3) [.s 5] none <|
 .q 7 (.lda 2) [.r 6] none <|
 .q 8 (.fld 7) [.s 5] none <|
 .q 9 (.lda 7) [.r 8] none <|
 .both false
 (.x 10 (.call 122) [.r 5, .r 7, .r 9] none [⟨1, (.lda 8), [.r 0], none⟩] <|
 .both false
 (.x 11 (.bsl 46 2 [z, z, z, z, z, z, z, z, z, z, z, z, z, z, z, z] [(0, 8), (8, 8)]) [.r 1, .r 10] none [] <|
 .both false
 (.x 12 (.call 271) [.r 11] none [] <|
 .x 13 (.alc [z, z, z, z, z, z, z, z] 46) [] none [⟨1, (.lda 8), [.r 0], none⟩, ⟨5, .ld, [.r 4], none⟩, ⟨7, (.lda 2), [.r 6], none⟩, ⟨9, (.lda 7), [.r 8], none⟩] <|
 .x 14 (.st 8) [.r 13, .r 12] none [] <|
 .out [(0, .s 0), (5, .s 5), (8, .s 8), (9, .r 13)])
 (.x 13 (.alc [z, z, z, z, z, z, z, z] 46) [] none [⟨1, (.lda 8), [.r 0], none⟩, ⟨5, .ld, [.r 4], none⟩, ⟨7, (.lda 2), [.r 6], none⟩, ⟨9, (.lda 7), [.r 8], none⟩] <|
 .x 12 (.call 271) [.r 11] none [] <|
 .x 14 (.st 8) [.r 13, .r 12] none [] <|
 .out [(0, .s 0), (5, .s 5), (8, .s 8), (9, .r 13)]))
 (.x 13 (.alc [z, z, z, z, z, z, z, z] 46) [] none [⟨1, (.lda 8), [.r 0], none⟩, ⟨5, .ld, [.r 4], none⟩, ⟨7, (.lda 2), [.r 6], none⟩, ⟨9, (.lda 7), [.r 8], none⟩] <|
 .x 11 (.bsl 46 2 [z, z, z, z, z, z, z, z, z, z, z, z, z, z, z, z] [(0, 8), (8, 8)]) [.r 1, .r 10] none [] <|
 .x 12 (.call 271) [.r 11] none [] <|
 .x 14 (.st 8) [.r 13, .r 12] none [] <|
 .out [(0, .s 0), (5, .s 5), (8, .s 8), (9, .r 13)]))
 (.x 13 (.alc [z, z, z, z, z, z, z, z] 46) [] none [⟨1, (.lda 8), [.r 0], none⟩, ⟨5, .ld, [.r 4], none⟩, ⟨7, (.lda 2), [.r 6], none⟩, ⟨9, (.lda 7), [.r 8], none⟩] <|
 .x 10 (.call 122) [.r 5, .r 7, .r 9] none [⟨1, (.lda 8), [.r 0], none⟩] <|
 .x 11 (.bsl 46 2 [z, z, z, z, z, z, z, z, z, z, z, z, z, z, z, z] [(0, 8), (8, 8)]) [.r 1, .r 10] none [] <|
 .x 12 (.call 271) [.r 11] none [] <|
 .x 14 (.st 8) [.r 13, .r 12] none [] <|
 .out [(0, .s 0), (5, .s 5), (8, .s 8), (9, .r 13)])
def e210r6 : EE := .q 0 (.fld 5) [.s 5] none <|
 .q 1 (.lda 2) [.r 0] none <|
 .q 2 (.bld [z, z] []) [] none <|
 .q 3 (.eqc false [(.i .i64), (.i .i64)]) [.r 1, .r 2] none <|
 .q 5 (.lda 8) [.s 9] (some (.r 3, true)) <|
 .q 6 (.fld 14) [.s 5] (some (.r 3, true)) <|
 .q 7 (.lda 8) [.r 6] (some (.r 3, true)) <|
 .q 8 (.eqc false [(.i .i64), (.i .i64), (.i .i64), (.i .i64), (.i .i64), (.i .i64), (.i .i64), (.i .i64)]) [.r 5, .r 7] (some (.r 3, true)) <|
 .q 9 .pick [.r 3, .r 8, .c (.bool false)] none <|
 .out [(0, .s 0), (5, .s 5), (8, .s 8), (9, .s 9), (10, .r 9)]
def e210r7 : EE := .q 0 (.lda 8) [.s 9] none <|
 .x 1 (.call 100) [.r 0] none [] <|
 .q 2 .not [.r 1] none <|
 .q 4 .mv [.s 0] (some (.r 2, false)) <|
 .q 5 (.fld 3) [.s 5] (some (.r 2, false)) <|
 .q 6 (.lda 2) [.r 5] (some (.r 2, false)) <|
 .q 7 (.fld 5) [.s 5] (some (.r 2, false)) <|
 .q 8 (.lda 2) [.r 7] (some (.r 2, false)) <|
 .q 9 (.fld 5) [.s 5] (some (.r 2, false)) <|
 .q 10 (.lda 2) [.r 9] (some (.r 2, false)) <|
 .q 11 (.fld 7) [.s 5] (some (.r 2, false)) <|
 .q 12 (.lda 7) [.r 11] (some (.r 2, false)) <|
 .q 13 (.lda 8) [.s 9] (some (.r 2, false)) <|
 .q 14 .mv [.s 10] (some (.r 2, false)) <|
 .q 15 (.bld [z, z, z, z, z, z, z, z, zs, zs, zs, zs, z, z, z, z, z, z, z, z, (.bool false)] [(0, 1), (1, 2), (3, 2), (5, 7), (12, 8), (20, 1)]) [.c (.int .i64 1), .r 8, .r 10, .r 12, .r 13, .r 14] (some (.r 2, false)) <|
 .x 16 (.call 123) [.r 4, .r 6, .r 15] (some (.r 2, false)) [] <|
 .q 17 .not [.r 16] (some (.r 2, false)) <|
 .q 18 .pick [.r 2, .c (.bool true), .r 17] none <|
 .out [(0, .s 0), (5, .s 5), (8, .s 8), (9, .s 9), (68, .r 18)]
def e210r8 : EE := .q 0 (.lda 8) [.s 9] none <|
 .q 1 (.fld 14) [.s 8] none <|
 .x 2 (.st 8) [.r 1, .r 0] none [] <|
 .out [(0, .s 0), (5, .s 5), (8, .s 8)]
def e210r9 : EE := .q 1 (.fld 1) [.s 5] none <|
 .q 2 .ld [.r 1] none <|
 .q 3 (.lda 51) [.s 8] none <|
 .x 4 (.call 207) [.s 0, .r 2, .r 3] none [] <|
 .out []
def e210 : EFn := ⟨(.seq (.reg e210r0 [0, 1, 2, 3] 0) (.seq (.reg e210r1 [0, 3, 5, 6] 0) (.seq (.seq (.reg e210r2 [0, 3, 5, 6, 8] 0) (.cond (.s 18) (.seq (.seq (.reg e210r3 [0, 5, 6, 8] 0) (.cond (.s 21) (.reg e210r4 [0, 5, 8] 0) .skip)) .ret) .skip)) (.seq (.reg e210r5 [0, 5, 8] 15) (.seq (.reg e210r6 [0, 5, 8, 9] 0) (.seq (.seq (.reg e210r7 [0, 5, 8, 9, 10] 0) (.cond (.s 68) .ret .skip)) (.seq (.reg e210r8 [0, 5, 8, 9] 0) (.reg e210r9 [0, 5, 8] 0)))))))), [], 76, 0⟩
theorem g210 : Good Tryz.prog 210 e210 := ⟨Tryz.f210, Tryz.func210, by kernel_rfl, by kernel_rfl, by kernel_rfl, by kernel_rfl⟩
/-! (*concord/core.Core).wished -/
def e211r0 : EE := .x 0 (.box 40) [.s 1] none [] <|
 .out [(0, .s 0), (3, .r 0)]
def e211r1 : EE := .q 1 .nl [.s 0] none <|
 .q 2 (.fld 5) [.r 1] none <|
 .q 3 .ld [.r 2] none <|
 .q 4 .len [.r 3] none <|
 .out [(3, .s 3), (10, .r 3), (11, .r 4), (12, .c z)]
def e211r2 : EE := .q 0 .lss [.s 12, .s 11] none <|
 .out [(3, .s 3), (10, .s 10), (11, .s 11), (12, .s 12), (13, .r 0)]
def e211r3 : EE := .q 0 (.ixs 1) [.s 10, .s 12] none <|
 .q 1 .ld [.r 0] none <|
 .out [(3, .s 3), (6, .r 1), (10, .s 10), (11, .s 11), (12, .s 12)]
def e211r4 : EE := .q 1 .nl [.s 6] none <|
 .q 2 (.fld 0) [.r 1] none <|
 .q 3 (.lda 2) [.r 2] none <|
 .q 4 (.lda 2) [.s 3] none <|
 .q 5 (.eqc false [(.i .i64), (.i .i64)]) [.r 3, .r 4] none <|
 .out [(3, .s 3), (6, .s 6), (10, .s 10), (11, .s 11), (12, .s 12), (21, .r 5)]
def e211r5 : EE := .out [(4, .s 6)]
def e211r6 : EE := .q 0 .add [.s 12, .c (.int .i64 1)] none <|
 .out [(3, .s 3), (10, .s 10), (11, .s 11), (12, .r 0)]
def e211l7 : EC := (.seq (.reg e211r2 [3, 10, 11, 12] 0) (.seq (.cond (.s 13) .skip (.exit 0)) (.seq (.block 1 (.seq (.reg e211r3 [3, 10, 11, 12] 0) (.seq (.reg e211r4 [3, 6, 10, 11, 12] 0) (.cond (.s 21) (.seq (.reg e211r5 [6] 0) .ret) .skip)))) (.reg e211r6 [3, 10, 11, 12] 0))))
def e211r8 : EE := .out [(4, .c .nptr)]
def e211 : EFn := ⟨(.seq (.reg e211r0 [0, 1] 0) (.seq (.seq (.reg e211r1 [0, 3] 0) (.block 0 (.loop [3, 10, 11, 12] e211l7))) (.seq (.reg e211r8 [] 0) .ret))), [.slot 4], 24, 0⟩
theorem g211 : Good Tryz.prog 211 e211 := ⟨Tryz.f211, Tryz.func211, by kernel_rfl, by kernel_rfl, by kernel_rfl, by kernel_rfl⟩
/-! (*concord/core.Core).weigh -/
def e212r0 : EE := .out [(0, .s 0), (1, .s 1), (2, .s 2)]
def e212r1 : EE := .q 1 .nl [.s 0] none <|
 .q 2 (.fld 0) [.r 1] none <|
 .q 3 .ld [.r 2] none <|
 .q 5 .nl [.s 1] none <|
 .q 6 (.fld 5) [.r 5] none <|
 .q 7 .ld [.r 6] none <|
 .q 9 .nl [.s 1] none <|
 .q 10 (.fld 13) [.r 9] none <|
 .q 11 (.lda 8) [.r 10] none <|
 .q 13 .nl [.s 1] none <|
 .q 14 (.fld 28) [.r 13] none <|
 .q 15 .ld [.r 14] none <|
 .both false
 (.x 17 (.call 272) [.r 3, .r 7, .r 11, .r 15, .s 2] none [] <|
 .q 19 (.ext 0) [.r 17] none <|
 .q 20 (.ext 1) [.r 17] none <|
 .x 21 (.alc [z, z, z, z, z, z, z, z] 46) [] none [⟨3, .ld, [.r 2], none⟩, ⟨7, .ld, [.r 6], none⟩, ⟨11, (.lda 8), [.r 10], none⟩, ⟨15, .ld, [.r 14], none⟩] <|
 .x 23 (.st 8) [.r 21, .r 20] none [] <|
 .out [(0, .s 0), (1, .s 1), (7, .r 19), (8, .r 21)])
 (.x 21 (.alc [z, z, z, z, z, z, z, z] 46) [] none [⟨3, .ld, [.r 2], none⟩, ⟨7, .ld, [.r 6], none⟩, ⟨11, (.lda 8), [.r 10], none⟩, ⟨15, .ld, [.r 14], none⟩] <|
 .x 17 (.call 272) [.r 3, .r 7, .r 11, .r 15, .s 2] none [] <|
 .q 19 (.ext 0) [.r 17] none <|
 .q 20 (.ext 1) [.r 17] none <|
 .x 23 (.st 8) [.r 21, .r 20] none [] <|
 .out [(0, .s 0), (1, .s 1), (7, .r 19), (8, .r 21)])
def e212r2 : EE := .out [(0, .s 0), (1, .s 1), (8, .s 8), (30, .s 7)]
def e212r3 : EE := .q 0 .eql [.s 30, .c (.int .i64 1)] none <|
 .out [(0, .s 0), (1, .s 1), (8, .s 8), (30, .s 30), (31, .r 0)]
def e212r4 : EE := .q 2 .nl [.s 1] none <|
 .q 3 (.fld 0) [.r 2] none <|
 .q 4 (.lda 2) [.r 3] none <|
 .q 6 .nl [.s 1] none <|
 .q 7 (.fld 6) [.r 6] none <|
 .q 8 (.lda 7) [.r 7] none <|
 .q 9 (.lda 8) [.s 8] none <|
 .x 10 (.call 214) [.s 0, .r 4, .r 8, .r 9] none [] <|
 .out []
def e212r5 : EE := .q 0 .eql [.s 30, .c (.int .i64 2)] none <|
 .out [(0, .s 0), (1, .s 1), (8, .s 8), (44, .r 0)]
def e212r6 : EE := .q 3 .nl [.s 1] none <|
 .q 4 (.fld 6) [.r 3] none <|
 .q 5 (.lda 7) [.r 4] none <|
 .q 6 (.lda 8) [.s 8] none <|
 .x 7 (.call 273) [.s 0, .s 1, .r 5, .r 6] none [] <|
 .out []
def e212r7 : EE := .out [(6, .c (.bool false))]
def e212r8 : EE := .out [(6, .c (.bool true))]
def e212 : EFn := ⟨(.seq (.reg e212r0 [0, 1, 2] 0) (.seq (.reg e212r1 [0, 1, 2] 24) (.seq (.seq (.reg e212r2 [0, 1, 7, 8] 0) (.block 0 (.seq (.reg e212r3 [0, 1, 8, 30] 0) (.cond (.s 31) (.reg e212r4 [0, 1, 8] 0) (.seq (.reg e212r5 [0, 1, 8, 30] 0) (.cond (.s 44) (.reg e212r6 [0, 1, 8] 0) (.seq (.reg e212r7 [] 0) .ret))))))) (.seq (.reg e212r8 [] 0) .ret)))), [.slot 6], 54, 0⟩
theorem g212 : Good Tryz.prog 212 e212 := ⟨Tryz.f212, Tryz.func212, by kernel_rfl, by kernel_rfl, by kernel_rfl, by kernel_rfl⟩
/-! concord/quorum.Slow -/
def e213r0 : EE := .out [(0, .s 0)]
def e213r1 : EE := .q 1 .quo [.s 0, .c (.int .i64 2)] none <|
 .q 2 .add [.r 1, .c (.int .i64 1)] none <|
 .out [(2, .r 2)]
def e213 : EFn := ⟨(.seq (.reg e213r0 [0] 0) (.seq (.reg e213r1 [0] 0) .ret)), [.slot 2], 6, 0⟩
theorem g213 : Good Tryz.prog 213 e213 := ⟨Tryz.f213, Tryz.func213, by kernel_rfl, by kernel_rfl, by kernel_rfl, by kernel_rfl⟩
/-! (*concord/core.Core).commit -/
def e214r0 : EE := .x 0 (.box 40) [.s 1] none [] <|
 .x 1 (.box 33) [.s 2] none [] <|
 .x 2 (.box 46) [.s 3] none [] <|
 .out [(0, .s 0), (5, .r 0), (6, .r 1), (7, .r 2)]
def e214r1 : EE := .q 1 (.lda 2) [.s 5] none <|
 .x 2 (.call 209) [.s 0, .r 1] none [] <|
 .out [(0, .s 0), (5, .s 5), (6, .s 6), (7, .s 7)]
def e214r2 : EE := .q 1 .nl [.s 0] none <|
 .q 2 (.fld 2) [.r 1] none <|
 .q 3 .ld [.r 2] none <|
 .q 4 (.lda 2) [.s 5] none <|
 .both false
 (.x 5 (.call 201) [.r 3, .r 4] none [] <|
 .q 7 (.ext 0) [.r 5] none <|
 .q 8 (.ext 1) [.r 5] none <|
 .x 9 (.alc [z, z, z, z, z, z, z, z, zs, zs, zs, zs, z, z, z, z, z, z, z, z, (.bool false)] 48) [] none [⟨3, .ld, [.r 2], none⟩, ⟨4, (.lda 2), [.s 5], none⟩] <|
 .x 10 (.st 21) [.r 9, .r 7] none [] <|
 .out [(0, .s 0), (5, .s 5), (6, .s 6), (7, .s 7), (8, .r 9)])
 (.x 9 (.alc [z, z, z, z, z, z, z, z, zs, zs, zs, zs, z, z, z, z, z, z, z, z, (.bool false)] 48) [] none [⟨3, .ld, [.r 2], none⟩, ⟨4, (.lda 2), [.s 5], none⟩] <|
 .x 5 (.call 201) [.r 3, .r 4] none [] <|
 .q 7 (.ext 0) [.r 5] none <|
 .q 8 (.ext 1) [.r 5] none <|
 .x 10 (.st 21) [.r 9, .r 7] none [] <|
 .out [(0, .s 0), (5, .s 5), (6, .s 6), (7, .s 7), (8, .r 9)])
def e214r3 : EE := .q 1 (.lda 2) [.s 5] none <|
 .q 2 (.fld 1) [.s 8] none <|
 .q 3 (.lda 2) [.r 2] none <|
 .q 4 (.fld 3) [.s 8] none <|
 .q 5 (.lda 2) [.r 4] none <|
 .q 6 (.lda 7) [.s 6] none <|
 .q 7 (.lda 8) [.s 7] none <|
 .q 8 (.bld [z, z, z, z, z, z, z, z, zs, zs, zs, zs, z, z, z, z, z, z, z, z, (.bool false)] [(0, 1), (1, 2), (3, 2), (5, 7), (12, 8)]) [.c (.int .i64 3), .r 3, .r 5, .r 6, .r 7] none <|
 .x 9 (.call 123) [.s 0, .r 1, .r 8] none [] <|
 .out [(0, .s 0), (5, .s 5), (6, .s 6), (7, .s 7), (31, .r 9)]
def e214r4 : EE := .q 1 (.lda 2) [.s 5] none <|
 .q 2 (.lda 7) [.s 6] none <|
 .q 3 (.lda 8) [.s 7] none <|
 .q 4 (.bld [z, z, z, z, z, z, z, z, z, z, zs, zs, zs, zs, z, z, z, z, z, z, z, z, z, z, z, z, z, z, z, z, zs, zs, zs, zs, z, z, z, z, z, z, z, z, (.bool false), z, z, z, z, z, z, z, zs] [(0, 1), (3, 2), (7, 7), (14, 8)]) [.c (.int .i64 5), .r 1, .r 2, .r 3] none <|
 .q 5 (.bld [z, z, z, z, z, z, z] []) [] none <|
 .x 6 (.call 203) [.s 0, .r 4, .r 5] none [] <|
 .out []
def e214 : EFn := ⟨(.seq (.reg e214r0 [0, 1, 2, 3] 0) (.seq (.reg e214r1 [0, 5, 6, 7] 0) (.seq (.reg e214r2 [0, 5, 6, 7] 11) (.seq (.reg e214r3 [0, 5, 6, 7, 8] 0) (.cond (.s 31) (.reg e214r4 [0, 5, 6, 7] 0) .skip))))), [], 39, 0⟩
theorem g214 : Good Tryz.prog 214 e214 := ⟨Tryz.f214, Tryz.func214, by kernel_rfl, by kernel_rfl, by kernel_rfl, by kernel_rfl⟩
/-! (*concord/core.Core).prepared -/
def e215r0 : EE := .q 1 .nl [.s 0] none <|
 .q 2 (.fld 0) [.r 1] none <|
 .q 3 .ld [.r 2] none <|
 .q 5 .nl [.s 1] none <|
 .q 6 (.fld 0) [.r 5] none <|
 .q 7 (.fld 0) [.r 6] none <|
 .q 8 .ld [.r 7] none <|
 .q 10 .nl [.s 1] none <|
 .q 11 (.fld 29) [.r 10] none <|
 .q 12 .ld [.r 11] none <|
 .both false
 (.x 13 (.call 274) [.r 3, .r 8, .r 12] none [] <|
 .q 15 (.ext 0) [.r 13] none <|
 .q 16 (.ext 1) [.r 13] none <|
 .q 17 (.ext 2) [.r 13] none <|
 .both false
 (.x 18 (.alc [z, z, z, zs, zs, zs, zs] 33) [] none [⟨3, .ld, [.r 2], none⟩, ⟨8, .ld, [.r 7], none⟩, ⟨12, .ld, [.r 11], none⟩] <|
 .x 19 (.alc [z, z, z, z, z, z, z, z] 46) [] none [⟨3, .ld, [.r 2], none⟩, ⟨8, .ld, [.r 7], none⟩, ⟨12, .ld, [.r 11], none⟩] <|
 .x 21 (.st 7) [.r 18, .r 16] none [] <|
 .x 22 (.st 8) [.r 19, .r 17] none [] <|
 .out [(0, .s 0), (1, .s 1), (4, .r 15), (5, .r 18), (6, .r 19)])
 (.x 19 (.alc [z, z, z, z, z, z, z, z] 46) [] none [⟨3, .ld, [.r 2], none⟩, ⟨8, .ld, [.r 7], none⟩, ⟨12, .ld, [.r 11], none⟩] <|
 .x 18 (.alc [z, z, z, zs, zs, zs, zs] 33) [] none [⟨3, .ld, [.r 2], none⟩, ⟨8, .ld, [.r 7], none⟩, ⟨12, .ld, [.r 11], none⟩] <|
 .x 21 (.st 7) [.r 18, .r 16] none [] <|
 .x 22 (.st 8) [.r 19, .r 17] none [] <|
 .out [(0, .s 0), (1, .s 1), (4, .r 15), (5, .r 18), (6, .r 19)]))
 (.both false
 (.x 18 (.alc [z, z, z, zs, zs, zs, zs] 33) [] none [⟨3, .ld, [.r 2], none⟩, ⟨8, .ld, [.r 7], none⟩, ⟨12, .ld, [.r 11], none⟩] <|
 .both false
 (.x 13 (.call 274) [.r 3, .r 8, .r 12] none [] <|
 .q 15 (.ext 0) [.r 13] none <|
 .q 16 (.ext 1) [.r 13] none <|
 .q 17 (.ext 2) [.r 13] none <|
 .x 19 (.alc [z, z, z, z, z, z, z, z] 46) [] none [⟨3, .ld, [.r 2], none⟩, ⟨8, .ld, [.r 7], none⟩, ⟨12, .ld, [.r 11], none⟩] <|
 .x 21 (.st 7) [.r 18, .r 16] none [] <|
 .x 22 (.st 8) [.r 19, .r 17] none [] <|
 .out [(0, .s 0), (1, .s 1), (4, .r 15), (5, .r 18), (6, .r 19)])
 (.x 19 (.alc [z, z, z, z, z, z, z, z] 46) [] none [⟨3, .ld, [.r 2], none⟩, ⟨8, .ld, [.r 7], none⟩, ⟨12, .ld, [.r 11], none⟩] <|
 .x 13 (.call 274) [.r 3, .r 8, .r 12] none [] <|
 .q 15 (.ext 0) [.r 13] none <|
 .q 16 (.ext 1) [.r 13] none <|
 .q 17 (.ext 2) [.r 13] none <|
 .x 21 (.st 7) [.r 18, .r 16] none [] <|
 .x 22 (.st 8) [.r 19, .r 17] none [] <|
 .out [(0, .s 0), (1, .s 1), (4, .r 15), (5, .r 18), (6, .r 19)]))
 (.x 19 (.alc [z, z, z, z, z, z, z, z] 46) [] none [⟨3, .ld, [.r 2], none⟩, ⟨8, .ld, [.r 7], none⟩, ⟨12, .ld, [.r 11], none⟩] <|
 .both false
 (.x 13 (.call 274) [.r 3, .r 8, .r 12] none [] <|
 .q 15 (.ext 0) [.r 13] none <|
 .q 16 (.ext 1) [.r 13] none <|
 .q 17 (.ext 2) [.r 13] none <|
 .x 18 (.alc [z, z, z, zs, zs, zs, zs] 33) [] none [⟨3, .ld, [.r 2], none⟩, ⟨8, .ld, [.r 7], none⟩, ⟨12, .ld, [.r 11], none⟩] <|
 .x 21 (.st 7) [.r 18, .r 16] none [] <|
 .x 22 (.st 8) [.r 19, .r 17] none [] <|
 .out [(0, .s 0), (1, .s 1), (4, .r 15), (5, .r 18), (6, .r 19)])
 (.x 18 (.alc [z, z, z, zs, zs, zs, zs] 33) [] none [⟨3, .ld, [.r 2], none⟩, ⟨8, .ld, [.r 7], none⟩, ⟨12, .ld, [.r 11], none⟩] <|
 .x 13 (.call 274) [.r 3, .r 8, .r 12] none [] <|
 .q 15 (.ext 0) [.r 13] none <|
 .q 16 (.ext 1) [.r 13] none <|
 .q 17 (.ext 2) [.r 13] none <|
 .x 21 (.st 7) [.r 18, .r 16] none [] <|
 .x 22 (.st 8) [.r 19, .r 17] none [] <|
 .out [(0, .s 0), (1, .s 1), (4, .r 15), (5, .r 18), (6, .r 19)])))
def e215r1 : EE := .out [(0, .s 0), (1, .s 1), (5, .s 5), (6, .s 6), (25, .s 4)]
def e215r2 : EE := .q 0 .eql [.s 25, .c (.int .i64 1)] none <|
 .out [(0, .s 0), (1, .s 1), (5, .s 5), (6, .s 6), (25, .s 25), (26, .r 0)]
def e215r3 : EE := .q 2 .nl [.s 1] none <|
 .q 3 (.fld 0) [.r 2] none <|
 .q 4 (.lda 2) [.r 3] none <|
 .q 5 (.lda 7) [.s 5] none <|
 .q 6 (.lda 8) [.s 6] none <|
 .x 7 (.call 214) [.s 0, .r 4, .r 5, .r 6] none [] <|
 .out []
def e215r4 : EE := .q 0 .eql [.s 25, .c (.int .i64 2)] none <|
 .out [(0, .s 0), (1, .s 1), (5, .s 5), (6, .s 6), (25, .s 25), (36, .r 0)]
def e215r5 : EE := .q 2 (.lda 7) [.s 5] none <|
 .q 3 (.lda 8) [.s 6] none <|
 .x 4 (.call 273) [.s 0, .s 1, .r 2, .r 3] none [] <|
 .out []
def e215r6 : EE := .q 0 .eql [.s 25, .c (.int .i64 4)] none <|
 .out [(0, .s 0), (1, .s 1), (5, .s 5), (6, .s 6), (25, .s 25), (43, .r 0)]
def e215r7 : EE := .q 2 (.bld [z, z, z, zs, zs, zs, zs] []) [] none <|
 .q 4 .nl [.s 1] none <|
 .q 5 (.fld 0) [.r 4] none <|
 .q 6 (.lda 2) [.r 5] none <|
 .x 7 (.call 275) [.r 6] none [] <|
 .x 8 (.call 273) [.s 0, .s 1, .r 2, .r 7] none [] <|
 .out []
def e215r8 : EE := .q 0 .eql [.s 25, .c (.int .i64 3)] none <|
 .out [(0, .s 0), (1, .s 1), (5, .s 5), (6, .s 6), (54, .r 0)]
def e215r9 : EE := .q 2 (.lda 7) [.s 5] none <|
 .q 3 (.lda 8) [.s 6] none <|
 .x 4 (.call 276) [.s 0, .s 1, .r 2, .r 3] none [] <|
 .out []
def e215 : EFn := ⟨(.seq (.reg e215r0 [0, 1] 23) (.seq (.reg e215r1 [0, 1, 4, 5, 6] 0) (.block 0 (.seq (.reg e215r2 [0, 1, 5, 6, 25] 0) (.cond (.s 26) (.reg e215r3 [0, 1, 5, 6] 0) (.seq (.reg e215r4 [0, 1, 5, 6, 25] 0) (.cond (.s 36) (.reg e215r5 [0, 1, 5, 6] 0) (.seq (.reg e215r6 [0, 1, 5, 6, 25] 0) (.cond (.s 43) (.reg e215r7 [0, 1] 0) (.seq (.reg e215r8 [0, 1, 5, 6, 25] 0) (.cond (.s 54) (.reg e215r9 [0, 1, 5, 6] 0) .skip))))))))))), [], 61, 0⟩
theorem g215 : Good Tryz.prog 215 e215 := ⟨Tryz.f215, Tryz.func215, by kernel_rfl, by kernel_rfl, by kernel_rfl, by kernel_rfl⟩
/-! concord/dedup.Note -/
def e216r0 : EE := .x 0 (.box 59) [.s 0] none [] <|
 .x 1 (.box 56) [.s 3] none [] <|
 .x 2 (.alc [z, z, (.bool false), zs, z, .nsl, z, z, (.bool false), zs, z, .nsl, z, z, (.bool false), zs, z, .nsl, z, z, (.bool false), zs, z, .nsl, z, z, (.bool false), zs, z, .nsl, z, z, (.bool false), zs, z, .nsl, z, z, (.bool false), zs, z, .nsl, z, z, (.bool false), zs, z, .nsl] 59) [] none [] <|
 .out [(1, .s 1), (2, .s 2), (4, .r 0), (7, .r 1), (8, .r 2)]
def e216r1 : EE := .x 1 (.call 277) [.s 1] none [] <|
 .out [(1, .s 1), (2, .s 2), (4, .s 4), (7, .s 7), (8, .s 8), (11, .r 1)]
def e216r2 : EE := .q 1 .sub [.s 1, .c (.int .i64 1)] none <|
 .q 3 (.lda 5) [.s 7] none <|
 .q 4 (.bld [z, z, (.bool false), zs, z, .nsl] [(0, 1), (1, 5)]) [.s 2, .r 3] none <|
 .q 5 (.ixa 8 6) [.s 4, .r 1] none <|
 .x 6 (.st 6) [.r 5, .r 4] none [] <|
 .out [(4, .s 4), (8, .s 8)]
def e216r3 : EE := .out [(4, .s 4), (8, .s 8), (18, .c z)]
def e216r4 : EE := .q 0 .lss [.s 18, .c (.int .i64 8)] none <|
 .out [(4, .s 4), (8, .s 8), (18, .s 18), (19, .r 0)]
def e216r5 : EE := .out [(4, .s 4), (8, .s 8), (9, .s 18), (18, .s 18)]
def e216r6 : EE := .q 2 (.ixa 8 6) [.s 4, .s 9] none <|
 .q 3 (.fld 1) [.r 2] none <|
 .q 4 (.lda 5) [.r 3] none <|
 .x 5 (.call 278) [.r 4] none [] <|
 .q 6 (.ixa 8 6) [.s 4, .s 9] none <|
 .q 7 (.fld 1) [.r 6] none <|
 .x 8 (.st 5) [.r 7, .r 5] none [] <|
 .out [(4, .s 4), (8, .s 8), (18, .s 18)]
def e216r7 : EE := .q 0 .add [.s 18, .c (.int .i64 1)] none <|
 .out [(4, .s 4), (8, .s 8), (18, .r 0)]
def e216l8 : EC := (.seq (.reg e216r4 [4, 8, 18] 0) (.seq (.cond (.s 19) .skip (.exit 0)) (.seq (.block 1 (.seq (.reg e216r5 [4, 8, 18] 0) (.reg e216r6 [4, 8, 9, 18] 0))) (.reg e216r7 [4, 8, 18] 0))))
def e216r9 : EE := .q 0 (.lda 48) [.s 4] none <|
 .x 1 (.st 48) [.s 8, .r 0] none [] <|
 .out [(8, .s 8)]
def e216 : EFn := ⟨(.seq (.reg e216r0 [0, 1, 2, 3] 0) (.seq (.seq (.reg e216r1 [1, 2, 4, 7, 8] 0) (.cond (.s 11) (.reg e216r2 [1, 2, 4, 7, 8] 0) .skip)) (.seq (.seq (.reg e216r3 [4, 8] 0) (.block 0 (.loop [4, 8, 18] e216l8))) (.seq (.reg e216r9 [4, 8] 0) .ret)))), [.cells 8 48], 31, 0⟩
theorem g216 : Good Tryz.prog 216 e216 := ⟨Tryz.f216, Tryz.func216, by kernel_rfl, by kernel_rfl, by kernel_rfl, by kernel_rfl⟩
/-! concord/dedup.Look -/
def e217r0 : EE := .x 0 (.box 59) [.s 0] none [] <|
 .x 2 (.alc [z, (.bool false), zs, z, .nsl] 56) [] none [] <|
 .out [(1, .s 1), (2, .s 2), (3, .r 0), (7, .r 2)]
def e217r1 : EE := .x 1 (.call 277) [.s 1] none [] <|
 .q 2 .not [.r 1] none <|
 .out [(1, .s 1), (2, .s 2), (3, .s 3), (7, .s 7), (11, .r 2)]
def e217r2 : EE := .q 0 (.bld [z, (.bool false), zs, z, .nsl] []) [] none <|
 .x 2 (.st 5) [.s 7, .r 0] none [] <|
 .out [(6, .c z), (7, .s 7)]
def e217r3 : EE := .q 1 .sub [.s 1, .c (.int .i64 1)] none <|
 .q 2 (.ixa 8 6) [.s 3, .r 1] none <|
 .q 3 (.lda 6) [.r 2] none <|
 .x 4 (.alc [z, z, (.bool false), zs, z, .nsl] 58) [] none [] <|
 .x 5 (.st 6) [.r 4, .r 3] none [] <|
 .out [(2, .s 2), (7, .s 7), (8, .r 4)]
def e217r4 : EE := .q 1 (.fld 0) [.s 8] none <|
 .q 2 .ld [.r 1] none <|
 .q 3 .gtr [.s 2, .r 2] none <|
 .out [(2, .s 2), (7, .s 7), (8, .s 8), (17, .r 3)]
def e217r5 : EE := .q 0 (.bld [z, (.bool false), zs, z, .nsl] []) [] none <|
 .x 2 (.st 5) [.s 7, .r 0] none [] <|
 .out [(6, .c (.int .i64 1)), (7, .s 7)]
def e217r6 : EE := .q 1 (.fld 0) [.s 8] none <|
 .q 2 .ld [.r 1] none <|
 .q 3 .eql [.s 2, .r 2] none <|
 .out [(7, .s 7), (8, .s 8), (23, .r 3)]
def e217r7 : EE := .q 0 (.fld 1) [.s 8] none <|
 .q 1 (.lda 5) [.r 0] none <|
 .x 2 (.call 278) [.r 1] none [] <|
 .x 4 (.st 5) [.s 7, .r 2] none [] <|
 .out [(6, .c (.int .i64 2)), (7, .s 7)]
def e217r8 : EE := .q 0 (.bld [z, (.bool false), zs, z, .nsl] []) [] none <|
 .x 2 (.st 5) [.s 7, .r 0] none [] <|
 .out [(6, .c (.int .i64 3)), (7, .s 7)]
def e217 : EFn := ⟨(.seq (.reg e217r0 [0, 1, 2] 0) (.seq (.seq (.reg e217r1 [1, 2, 3, 7] 0) (.cond (.s 11) (.seq (.reg e217r2 [7] 0) .ret) .skip)) (.seq (.reg e217r3 [1, 2, 3, 7] 0) (.seq (.block 0 (.seq (.reg e217r4 [2, 7, 8] 0) (.cond (.s 17) (.seq (.reg e217r5 [7] 0) .ret) (.seq (.reg e217r6 [2, 7, 8] 0) (.cond (.s 23) (.seq (.reg e217r7 [7, 8] 0) .ret) .skip))))) (.seq (.reg e217r8 [7] 0) .ret))))), [.slot 6, .cells 7 5], 32, 0⟩
theorem g217 : Good Tryz.prog 217 e217 := ⟨Tryz.f217, Tryz.func217, by kernel_rfl, by kernel_rfl, by kernel_rfl, by kernel_rfl⟩
end Go.Ev
