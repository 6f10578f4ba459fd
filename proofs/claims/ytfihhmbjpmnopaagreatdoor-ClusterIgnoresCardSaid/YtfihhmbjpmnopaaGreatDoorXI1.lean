import Derived.Test.YtfihhmbjpmnopaaGreatDoorEvB
import Derived.Test.YtfihhmbjpmnopaaGreatDoorProg
set_option linter.unusedVariables false
set_option linter.unusedSimpArgs false
namespace Go.Ev
open Go.Fw Go.Proofs
/-! (*concord/log.Log).Top -/
def e52r0 : EE := .x 0 (.alc [z, z, z, z, z, z, z] 38) [] none [] <|
 .out [(0, .s 0), (2, .r 0)]
def e52r1 : EE := .q 1 .nl [.s 0] none <|
 .q 2 (.fld 1) [.r 1] none <|
 .q 3 (.lda 7) [.r 2] none <|
 .x 4 (.alc [z, z, z, z, z, z, z] 38) [] none [] <|
 .x 5 (.st 7) [.r 4, .r 3] none [] <|
 .out [(0, .s 0), (2, .s 2), (3, .r 4)]
def e52r2 : EE := .q 1 .nl [.s 0] none <|
 .q 2 (.fld 0) [.r 1] none <|
 .q 3 .ld [.r 2] none <|
 .x 4 .rng [.r 3] none [] <|
 .out [(2, .s 2), (3, .s 3), (13, .r 4)]
def e52r3 : EE := .x 0 .nxt [.s 13] none [] <|
 .q 1 (.ext 0) [.r 0] none <|
 .out [(2, .s 2), (3, .s 3), (13, .s 13), (15, .r 1)]
def e52r4 : EE := .q 0 .ent [.s 13] none <|
 .q 1 (.ext 0) [.r 0] none <|
 .x 2 (.alc [z, z] 80) [] none [] <|
 .x 3 (.st 2) [.r 2, .r 1] none [] <|
 .out [(2, .s 2), (3, .s 3), (4, .r 2), (13, .s 13)]
def e52r5 : EE := .q 0 (.fld 0) [.s 4] none <|
 .q 1 .ld [.r 0] none <|
 .q 2 (.fld 0) [.s 4] none <|
 .q 3 .ld [.r 2] none <|
 .q 4 (.ixa 7 1) [.s 3, .r 3] none <|
 .q 5 .ld [.r 4] none <|
 .q 6 (.fld 1) [.s 4] none <|
 .q 7 .ld [.r 6] none <|
 .q 8 .mx [.r 5, .r 7] none <|
 .q 9 (.ixa 7 1) [.s 3, .r 1] none <|
 .x 10 (.st 1) [.r 9, .r 8] none [] <|
 .out [(2, .s 2), (3, .s 3), (13, .s 13)]
def e52l6 : EC := (.seq (.reg e52r3 [2, 3, 13] 0) (.seq (.cond (.s 15) .skip (.exit 0)) (.block 1 (.seq (.reg e52r4 [2, 3, 13] 0) (.reg e52r5 [2, 3, 4, 13] 0)))))
def e52r7 : EE := .q 0 (.lda 7) [.s 3] none <|
 .x 1 (.st 7) [.s 2, .r 0] none [] <|
 .out [(2, .s 2)]
def e52 : EFn := ⟨(.seq (.reg e52r0 [0] 0) (.seq (.reg e52r1 [0, 2] 0) (.seq (.seq (.reg e52r2 [0, 2, 3] 0) (.block 0 (.loop [2, 3, 13] e52l6))) (.seq (.reg e52r7 [2, 3] 0) .ret)))), [.cells 2 7], 29, 0⟩
theorem g52 : Good Tryz.prog 52 e52 := ⟨Tryz.f52, Tryz.func52, by kernel_rfl, by kernel_rfl, by kernel_rfl, by kernel_rfl⟩
/-! (*concord/client.Client).Waits -/
def e53r0 : EE := .out [(0, .s 0)]
def e53r1 : EE := .q 1 .nl [.s 0] none <|
 .q 2 (.fld 9) [.r 1] none <|
 .q 3 .ld [.r 2] none <|
 .out [(2, .r 3)]
def e53 : EFn := ⟨(.seq (.reg e53r0 [0] 0) (.seq (.reg e53r1 [0] 0) .ret)), [.slot 2], 7, 0⟩
theorem g53 : Good Tryz.prog 53 e53 := ⟨Tryz.f53, Tryz.func53, by kernel_rfl, by kernel_rfl, by kernel_rfl, by kernel_rfl⟩
/-! (*concord/disk.Disk).Read -/
def e54r0 : EE := .out [(0, .s 0), (1, .s 1)]
def e54r1 : EE := .x 2 (.call 103) [.s 0, .s 1] none [] <|
 .q 4 (.ext 0) [.r 2] none <|
 .q 5 (.ext 1) [.r 2] none <|
 .out [(0, .s 0), (6, .r 4), (7, .r 5)]
def e54r2 : EE := .q 1 .not [.s 7] none <|
 .out [(0, .s 0), (6, .s 6), (15, .r 1)]
def e54r3 : EE := .out [(4, .c .nsl), (5, .c (.bool false))]
def e54r4 : EE := .q 1 .nl [.s 0] none <|
 .q 2 (.fld 1) [.r 1] none <|
 .q 3 .ld [.r 2] none <|
 .q 5 (.ixs 3) [.r 3, .s 6] none <|
 .q 6 (.fld 1) [.r 5] none <|
 .q 7 .ld [.r 6] none <|
 .x 8 (.call 51) [.r 7] none [] <|
 .out [(4, .r 8), (5, .c (.bool true))]
def e54 : EFn := ⟨(.seq (.reg e54r0 [0, 1] 0) (.seq (.reg e54r1 [0, 1] 0) (.seq (.seq (.reg e54r2 [0, 6, 7] 0) (.cond (.s 15) (.seq (.reg e54r3 [] 0) .ret) .skip)) (.seq (.reg e54r4 [0, 6] 0) .ret)))), [.slot 4, .slot 5], 25, 0⟩
theorem g54 : Good Tryz.prog 54 e54 := ⟨Tryz.f54, Tryz.func54, by kernel_rfl, by kernel_rfl, by kernel_rfl, by kernel_rfl⟩
/-! concord/wal.greatest -/
def e57r0 : EE := .out [(0, .s 0)]
def e57r1 : EE := .out [(0, .s 0), (3, .c z)]
def e57r2 : EE := .x 1 (.call 113) [.s 0] none [] <|
 .q 2 .len [.r 1] none <|
 .out [(0, .s 0), (3, .s 3), (13, .r 1), (14, .r 2), (15, .c z)]
def e57r3 : EE := .q 0 .lss [.s 15, .s 14] none <|
 .out [(0, .s 0), (3, .s 3), (13, .s 13), (14, .s 14), (15, .s 15), (16, .r 0)]
def e57r4 : EE := .q 0 (.ixs 1) [.s 13, .s 15] none <|
 .q 1 .ld [.r 0] none <|
 .out [(0, .s 0), (3, .s 3), (5, .r 1), (13, .s 13), (14, .s 14), (15, .s 15)]
def e57r5 : EE := .x 1 (.call 114) [.s 5] none [] <|
 .q 3 (.ext 0) [.r 1] none <|
 .q 4 (.ext 1) [.r 1] none <|
 .x 5 (.alc [z, z] 149) [] none [] <|
 .x 6 (.st 2) [.r 5, .r 3] none [] <|
 .out [(0, .s 0), (3, .s 3), (6, .r 5), (7, .r 4), (13, .s 13), (14, .s 14), (15, .s 15)]
def e57r6 : EE := .q 1 .not [.s 7] none <|
 .q 3 (.fld 0) [.s 6] (some (.r 1, false)) <|
 .q 4 .ld [.r 3] (some (.r 1, false)) <|
 .q 5 .mv [.s 3] (some (.r 1, false)) <|
 .q 6 .leq [.r 4, .r 5] (some (.r 1, false)) <|
 .q 7 .pick [.r 1, .c (.bool true), .r 6] none <|
 .out [(0, .s 0), (3, .s 3), (6, .s 6), (13, .s 13), (14, .s 14), (15, .s 15), (31, .r 7)]
def e57r7 : EE := .q 1 (.fld 0) [.s 6] none <|
 .q 2 .ld [.r 1] none <|
 .x 3 (.call 59) [.s 0, .r 2] none [] <|
 .q 5 (.ext 0) [.r 3] none <|
 .q 6 (.ext 1) [.r 3] none <|
 .q 7 (.ext 2) [.r 3] none <|
 .q 8 (.ext 3) [.r 3] none <|
 .x 9 (.alc [z, z] 149) [] none [] <|
 .x 11 (.st 2) [.r 9, .r 6] none [] <|
 .out [(0, .s 0), (3, .s 3), (6, .s 6), (11, .r 8), (13, .s 13), (14, .s 14), (15, .s 15)]
def e57r8 : EE := .out [(0, .s 0), (3, .s 3), (6, .s 6), (13, .s 13), (14, .s 14), (15, .s 15), (41, .s 11)]
def e57r9 : EE := .q 0 (.fld 0) [.s 6] none <|
 .q 1 .ld [.r 0] none <|
 .out [(0, .s 0), (3, .r 1), (13, .s 13), (14, .s 14), (15, .s 15)]
def e57r10 : EE := .q 0 .add [.s 15, .c (.int .i64 1)] none <|
 .out [(0, .s 0), (3, .s 3), (13, .s 13), (14, .s 14), (15, .r 0)]
def e57l11 : EC := (.seq (.reg e57r3 [0, 3, 13, 14, 15] 0) (.seq (.cond (.s 16) .skip (.exit 0)) (.seq (.block 1 (.seq (.reg e57r4 [0, 3, 13, 14, 15] 0) (.seq (.reg e57r5 [0, 3, 5, 13, 14, 15] 0) (.seq (.seq (.reg e57r6 [0, 3, 6, 7, 13, 14, 15] 0) (.cond (.s 31) (.exit 1) .skip)) (.seq (.reg e57r7 [0, 3, 6, 13, 14, 15] 0) (.seq (.reg e57r8 [0, 3, 6, 11, 13, 14, 15] 0) (.cond (.s 41) (.reg e57r9 [0, 6, 13, 14, 15] 0) .skip))))))) (.reg e57r10 [0, 3, 13, 14, 15] 0))))
def e57r12 : EE := .out [(2, .s 3)]
def e57 : EFn := ⟨(.seq (.reg e57r0 [0] 0) (.seq (.reg e57r1 [0] 0) (.seq (.seq (.reg e57r2 [0, 3] 0) (.block 0 (.loop [0, 3, 13, 14, 15] e57l11))) (.seq (.reg e57r12 [3] 0) .ret)))), [.slot 2], 46, 0⟩
theorem g57 : Good Tryz.prog 57 e57 := ⟨Tryz.f57, Tryz.func57, by kernel_rfl, by kernel_rfl, by kernel_rfl, by kernel_rfl⟩
/-! concord/wal.clean -/
def e58r0 : EE := .x 0 (.box 149) [.s 1] none [] <|
 .out [(0, .s 0), (3, .r 0)]
def e58r1 : EE := .x 1 (.call 113) [.s 0] none [] <|
 .q 2 .len [.r 1] none <|
 .out [(0, .s 0), (3, .s 3), (11, .r 1), (12, .r 2), (13, .c z)]
def e58r2 : EE := .q 0 .lss [.s 13, .s 12] none <|
 .out [(0, .s 0), (3, .s 3), (11, .s 11), (12, .s 12), (13, .s 13), (14, .r 0)]
def e58r3 : EE := .q 0 (.ixs 1) [.s 11, .s 13] none <|
 .q 1 .ld [.r 0] none <|
 .out [(0, .s 0), (3, .s 3), (6, .r 1), (11, .s 11), (12, .s 12), (13, .s 13)]
def e58r4 : EE := .x 1 (.call 114) [.s 6] none [] <|
 .q 3 (.ext 0) [.r 1] none <|
 .q 4 (.ext 1) [.r 1] none <|
 .x 5 (.alc [z, z] 149) [] none [] <|
 .x 6 (.st 2) [.r 5, .r 3] none [] <|
 .out [(0, .s 0), (3, .s 3), (6, .s 6), (7, .r 5), (8, .r 4), (11, .s 11), (12, .s 12), (13, .s 13)]
def e58r5 : EE := .q 1 .not [.s 8] none <|
 .q 3 (.fld 0) [.s 7] (some (.r 1, false)) <|
 .q 4 .ld [.r 3] (some (.r 1, false)) <|
 .q 5 (.fld 0) [.s 3] (some (.r 1, false)) <|
 .q 6 .ld [.r 5] (some (.r 1, false)) <|
 .q 7 .eql [.r 4, .r 6] (some (.r 1, false)) <|
 .q 8 .mv [.r 7] (some (.r 1, false)) <|
 .q 9 (.fld 1) [.s 7] (some (.r 8, true)) <|
 .q 10 .ld [.r 9] (some (.r 8, true)) <|
 .q 11 (.fld 1) [.s 3] (some (.r 8, true)) <|
 .q 12 .ld [.r 11] (some (.r 8, true)) <|
 .q 13 .leq [.r 10, .r 12] (some (.r 8, true)) <|
 .q 14 .pick [.r 8, .r 13, .c (.bool false)] (some (.r 1, false)) <|
 .q 15 .pick [.r 1, .c (.bool true), .r 14] none <|
 .out [(0, .s 0), (3, .s 3), (6, .s 6), (11, .s 11), (12, .s 12), (13, .s 13), (37, .r 15)]
def e58r6 : EE := .x 2 (.call 56) [.s 0, .s 6] none [] <|
 .out [(0, .s 0), (3, .s 3), (9, .r 2), (11, .s 11), (12, .s 12), (13, .s 13)]
def e58r7 : EE := .q 1 .neq [.s 9, .c z] none <|
 .out [(0, .s 0), (3, .s 3), (9, .s 9), (11, .s 11), (12, .s 12), (13, .s 13), (42, .r 1)]
def e58r8 : EE := .out [(4, .s 9)]
def e58r9 : EE := .q 0 .add [.s 13, .c (.int .i64 1)] none <|
 .out [(0, .s 0), (3, .s 3), (11, .s 11), (12, .s 12), (13, .r 0)]
def e58l10 : EC := (.seq (.reg e58r2 [0, 3, 11, 12, 13] 0) (.seq (.cond (.s 14) .skip (.exit 0)) (.seq (.block 1 (.seq (.reg e58r3 [0, 3, 11, 12, 13] 0) (.seq (.reg e58r4 [0, 3, 6, 11, 12, 13] 0) (.seq (.seq (.reg e58r5 [0, 3, 6, 7, 8, 11, 12, 13] 0) (.cond (.s 37) (.exit 1) .skip)) (.seq (.reg e58r6 [0, 3, 6, 11, 12, 13] 0) (.seq (.reg e58r7 [0, 3, 9, 11, 12, 13] 0) (.cond (.s 42) (.seq (.reg e58r8 [9] 0) .ret) .skip))))))) (.reg e58r9 [0, 3, 11, 12, 13] 0))))
def e58r11 : EE := .out [(4, .c z)]
def e58 : EFn := ⟨(.seq (.reg e58r0 [0, 1] 0) (.seq (.seq (.reg e58r1 [0, 3] 0) (.block 0 (.loop [0, 3, 11, 12, 13] e58l10))) (.seq (.reg e58r11 [] 0) .ret))), [.slot 4], 45, 0⟩
theorem g58 : Good Tryz.prog 58 e58 := ⟨Tryz.f58, Tryz.func58, by kernel_rfl, by kernel_rfl, by kernel_rfl, by kernel_rfl⟩
/-! (concord/wal.place).name -/
def e60r0 : EE := .x 0 (.box 149) [.s 0] none [] <|
 .out [(1, .r 0)]
def e60r1 : EE := .q 0 (.fld 0) [.s 1] none <|
 .q 1 .ld [.r 0] none <|
 .q 5 (.fld 1) [.s 1] none <|
 .q 6 .ld [.r 5] none <|
 .x 2 (.call 116) [.r 1] none [⟨6, .ld, [.r 5], none⟩] <|
 .q 3 .sadd [.c (.str [108, 111, 103, 46]), .r 2] none <|
 .q 4 .sadd [.r 3, .c (.str [46])] none <|
 .x 7 (.call 116) [.r 6] none [] <|
 .q 8 .sadd [.r 4, .r 7] none <|
 .out [(2, .r 8)]
def e60 : EFn := ⟨(.seq (.reg e60r0 [0] 0) (.seq (.reg e60r1 [1] 0) .ret)), [.slot 2], 12, 0⟩
theorem g60 : Good Tryz.prog 60 e60 := ⟨Tryz.f60, Tryz.func60, by kernel_rfl, by kernel_rfl, by kernel_rfl, by kernel_rfl⟩
/-! (*concord/disk.Disk).Sync -/
def e62r0 : EE := .out [(0, .s 0), (1, .s 1)]
def e62r1 : EE := .x 2 (.call 110) [.s 0, .s 1] none [] <|
 .q 4 (.ext 0) [.r 2] none <|
 .q 5 (.ext 1) [.r 2] none <|
 .out [(0, .s 0), (5, .r 4), (6, .r 5)]
def e62r2 : EE := .q 1 .eql [.s 6, .c z] none <|
 .out [(0, .s 0), (5, .s 5), (6, .s 6), (14, .r 1)]
def e62r3 : EE := .x 1 (.call 111) [.s 0] none [] <|
 .out [(0, .s 0), (5, .s 5), (6, .r 1)]
def e62r4 : EE := .q 1 .eql [.s 6, .c z] none <|
 .out [(0, .s 0), (5, .s 5), (6, .s 6), (18, .r 1)]
def e62r5 : EE := .q 1 .nl [.s 0] none <|
 .q 2 (.fld 1) [.r 1] none <|
 .q 3 .ld [.r 2] none <|
 .q 6 .nl [.s 0] none <|
 .q 7 (.fld 1) [.r 6] none <|
 .q 8 .ld [.r 7] none <|
 .q 10 (.ixs 3) [.r 8, .s 5] none <|
 .q 11 (.fld 1) [.r 10] none <|
 .q 12 .ld [.r 11] none <|
 .q 13 .len [.r 12] none <|
 .q 14 (.ixs 3) [.r 3, .s 5] none <|
 .q 15 (.fld 2) [.r 14] none <|
 .x 16 (.st 1) [.r 15, .r 13] none [] <|
 .out [(6, .s 6)]
def e62r6 : EE := .out [(4, .s 6)]
def e62 : EFn := ⟨(.seq (.reg e62r0 [0, 1] 0) (.seq (.reg e62r1 [0, 1] 0) (.seq (.seq (.reg e62r2 [0, 5, 6] 0) (.cond (.s 14) (.reg e62r3 [0, 5] 0) .skip)) (.seq (.seq (.reg e62r4 [0, 5, 6] 0) (.cond (.s 18) (.reg e62r5 [0, 5, 6] 0) .skip)) (.seq (.reg e62r6 [6] 0) .ret))))), [.slot 4], 36, 0⟩
theorem g62 : Good Tryz.prog 62 e62 := ⟨Tryz.f62, Tryz.func62, by kernel_rfl, by kernel_rfl, by kernel_rfl, by kernel_rfl⟩
/-! concord/deps.Right -/
def e66r0 : EE := .x 0 (.box 84) [.s 0] none [] <|
 .out [(1, .r 0)]
def e66r1 : EE := .q 0 (.fld 1) [.s 1] none <|
 .q 1 (.lda 7) [.r 0] none <|
 .out [(1, .s 1), (6, .r 1), (7, .c z)]
def e66r2 : EE := .q 0 .lss [.s 7, .c (.int .i64 7)] none <|
 .out [(1, .s 1), (6, .s 6), (7, .s 7), (8, .r 0)]
def e66r3 : EE := .q 0 (.idx 7 1) [.s 6, .s 7] none <|
 .out [(1, .s 1), (4, .r 0), (6, .s 6), (7, .s 7)]
def e66r4 : EE := .q 1 .lss [.s 4, .c z] none <|
 .q 3 .mv [.s 4] (some (.r 1, false)) <|
 .q 4 .gtr [.r 3, .c (.int .i64 1073741824)] (some (.r 1, false)) <|
 .q 5 .pick [.r 1, .c (.bool true), .r 4] none <|
 .out [(1, .s 1), (6, .s 6), (7, .s 7), (15, .r 5)]
def e66r5 : EE := .out [(2, .c (.bool false))]
def e66r6 : EE := .q 0 .add [.s 7, .c (.int .i64 1)] none <|
 .out [(1, .s 1), (6, .s 6), (7, .r 0)]
def e66l7 : EC := (.seq (.reg e66r2 [1, 6, 7] 0) (.seq (.cond (.s 8) .skip (.exit 0)) (.seq (.block 1 (.seq (.reg e66r3 [1, 6, 7] 0) (.seq (.reg e66r4 [1, 4, 6, 7] 0) (.cond (.s 15) (.seq (.reg e66r5 [] 0) .ret) .skip)))) (.reg e66r6 [1, 6, 7] 0))))
def e66r8 : EE := .q 0 (.fld 0) [.s 1] none <|
 .q 1 .ld [.r 0] none <|
 .q 2 .geq [.r 1, .c z] none <|
 .q 4 (.fld 0) [.s 1] (some (.r 2, true)) <|
 .q 5 .ld [.r 4] (some (.r 2, true)) <|
 .q 6 .leq [.r 5, .c (.int .i64 1099511627776)] (some (.r 2, true)) <|
 .q 7 .pick [.r 2, .r 6, .c (.bool false)] none <|
 .out [(2, .r 7)]
def e66 : EFn := ⟨(.seq (.reg e66r0 [0] 0) (.seq (.seq (.reg e66r1 [1] 0) (.block 0 (.loop [1, 6, 7] e66l7))) (.seq (.reg e66r8 [1] 0) .ret))), [.slot 2], 25, 0⟩
theorem g66 : Good Tryz.prog 66 e66 := ⟨Tryz.f66, Tryz.func66, by kernel_rfl, by kernel_rfl, by kernel_rfl, by kernel_rfl⟩
/-! concord/log.New -/
def e67r0 : EE := .x 0 (.box 38) [.s 0] none [] <|
 .out [(1, .r 0)]
def e67r1 : EE := .x 0 .mkm [] none [] <|
 .q 1 (.bld [.nmap, z, z, z, z, z, z, z] [(0, 1)]) [.r 0] none <|
 .x 2 (.box 198) [.r 1] none [] <|
 .out [(1, .s 1), (3, .r 2)]
def e67r2 : EE := .q 1 (.lda 7) [.s 1] none <|
 .x 2 (.call 120) [.s 3, .r 1] none [] <|
 .out [(3, .s 3)]
def e67r3 : EE := .out [(2, .s 3)]
def e67 : EFn := ⟨(.seq (.reg e67r0 [0] 0) (.seq (.reg e67r1 [1] 0) (.seq (.reg e67r2 [1, 3] 0) (.seq (.reg e67r3 [3] 0) .ret)))), [.slot 2], 11, 0⟩
theorem g67 : Good Tryz.prog 67 e67 := ⟨Tryz.f67, Tryz.func67, by kernel_rfl, by kernel_rfl, by kernel_rfl, by kernel_rfl⟩
/-! concord/interf.New -/
def e68r0 : EE := .out []
def e68r1 : EE := .x 0 .mkm [] none [] <|
 .q 1 (.bld [.nmap, z, z, z, z, z, z, z] [(0, 1)]) [.r 0] none <|
 .x 2 (.box 226) [.r 1] none [] <|
 .out [(0, .r 2)]
def e68 : EFn := ⟨(.seq (.reg e68r0 [] 0) (.seq (.reg e68r1 [] 0) .ret)), [.slot 0], 4, 0⟩
theorem g68 : Good Tryz.prog 68 e68 := ⟨Tryz.f68, Tryz.func68, by kernel_rfl, by kernel_rfl, by kernel_rfl, by kernel_rfl⟩
/-! (*concord/interf.Index).Prune -/
def e69r0 : EE := .x 0 (.box 38) [.s 1] none [] <|
 .out [(0, .s 0), (3, .r 0)]
def e69r1 : EE := .q 0 (.lda 7) [.s 3] none <|
 .out [(0, .s 0), (7, .r 0), (8, .c z)]
def e69r2 : EE := .q 0 .lss [.s 8, .c (.int .i64 7)] none <|
 .out [(0, .s 0), (7, .s 7), (8, .s 8), (9, .r 0)]
def e69r3 : EE := .q 1 (.idx 7 1) [.s 7, .s 8] none <|
 .out [(0, .s 0), (4, .s 8), (5, .r 1), (7, .s 7), (8, .s 8)]
def e69r4 : EE := .q 4 .nl [.s 0] none <|
 .q 5 (.fld 1) [.r 4] none <|
 .q 6 (.ixa 7 1) [.r 5, .s 4] none <|
 .q 7 .ld [.r 6] none <|
 .q 9 .mx [.s 5, .c z] none <|
 .q 10 .mn [.r 9, .c (.int .i64 1073741824)] none <|
 .q 11 .mx [.r 7, .r 10] none <|
 .q 12 .nl [.s 0] none <|
 .q 13 (.fld 1) [.r 12] none <|
 .q 14 (.ixa 7 1) [.r 13, .s 4] none <|
 .x 15 (.st 1) [.r 14, .r 11] none [] <|
 .out [(0, .s 0), (7, .s 7), (8, .s 8)]
def e69r5 : EE := .q 0 .add [.s 8, .c (.int .i64 1)] none <|
 .out [(0, .s 0), (7, .s 7), (8, .r 0)]
def e69l6 : EC := (.seq (.reg e69r2 [0, 7, 8] 0) (.seq (.cond (.s 9) .skip (.exit 0)) (.seq (.block 1 (.seq (.reg e69r3 [0, 7, 8] 0) (.reg e69r4 [0, 4, 5, 7, 8] 0))) (.reg e69r5 [0, 7, 8] 0))))
def e69r7 : EE := .q 1 .nl [.s 0] none <|
 .q 2 (.fld 0) [.r 1] none <|
 .q 3 .ld [.r 2] none <|
 .x 4 .rng [.r 3] none [] <|
 .out [(0, .s 0), (32, .r 4)]
def e69r8 : EE := .x 0 .nxt [.s 32] none [] <|
 .q 1 (.ext 0) [.r 0] none <|
 .out [(0, .s 0), (32, .s 32), (34, .r 1)]
def e69r9 : EE := .q 0 .ent [.s 32] none <|
 .q 1 (.ext 0) [.r 0] none <|
 .x 2 (.alc [z, z] 80) [] none [] <|
 .x 3 (.st 2) [.r 2, .r 1] none [] <|
 .out [(0, .s 0), (6, .r 2), (32, .s 32)]
def e69r10 : EE := .q 0 (.fld 1) [.s 6] none <|
 .q 1 .ld [.r 0] none <|
 .q 3 (.fld 0) [.s 6] none <|
 .q 4 .ld [.r 3] none <|
 .q 5 .nl [.s 0] none <|
 .q 6 (.fld 1) [.r 5] none <|
 .q 7 (.ixa 7 1) [.r 6, .r 4] none <|
 .q 8 .ld [.r 7] none <|
 .q 9 .leq [.r 1, .r 8] none <|
 .out [(0, .s 0), (6, .s 6), (32, .s 32), (46, .r 9)]
def e69r11 : EE := .q 1 .nl [.s 0] none <|
 .q 2 (.fld 0) [.r 1] none <|
 .q 3 .ld [.r 2] none <|
 .q 4 (.lda 2) [.s 6] none <|
 .x 5 (.dlt true [(.i .i64), (.i .i64)]) [.r 3, .r 4] none [] <|
 .out [(0, .s 0), (32, .s 32)]
def e69l12 : EC := (.seq (.reg e69r8 [0, 32] 0) (.seq (.cond (.s 34) .skip (.exit 2)) (.block 3 (.seq (.reg e69r9 [0, 32] 0) (.seq (.reg e69r10 [0, 6, 32] 0) (.cond (.s 46) (.reg e69r11 [0, 6, 32] 0) .skip))))))
def e69 : EFn := ⟨(.seq (.reg e69r0 [0, 1] 0) (.seq (.seq (.reg e69r1 [0, 3] 0) (.block 0 (.loop [0, 7, 8] e69l6))) (.seq (.reg e69r7 [0] 0) (.block 2 (.loop [0, 32] e69l12))))), [], 52, 0⟩
theorem g69 : Good Tryz.prog 69 e69 := ⟨Tryz.f69, Tryz.func69, by kernel_rfl, by kernel_rfl, by kernel_rfl, by kernel_rfl⟩
/-! (*concord/log.Log).Set -/
def e71r0 : EE := .x 0 (.box 80) [.s 1] none [] <|
 .x 1 (.box 86) [.s 2] none [] <|
 .out [(0, .s 0), (4, .r 0), (5, .r 1)]
def e71r1 : EE := .q 0 (.lda 2) [.s 4] none <|
 .x 1 (.call 122) [.r 0] none [] <|
 .q 2 .not [.r 1] none <|
 .q 4 .mv [.s 0] (some (.r 2, false)) <|
 .q 5 (.lda 2) [.s 4] (some (.r 2, false)) <|
 .x 6 (.call 123) [.r 4, .r 5] (some (.r 2, false)) [] <|
 .q 7 .pick [.r 2, .c (.bool true), .r 6] none <|
 .q 9 (.lda 21) [.s 5] (some (.r 7, false)) <|
 .x 10 (.call 124) [.r 9] (some (.r 7, false)) [] <|
 .q 11 .not [.r 10] (some (.r 7, false)) <|
 .q 12 .pick [.r 7, .c (.bool true), .r 11] none <|
 .out [(0, .s 0), (4, .s 4), (5, .s 5), (21, .r 12)]
def e71r2 : EE := .out [(6, .c (.bool false))]
def e71r3 : EE := .q 1 .nl [.s 0] none <|
 .q 2 (.fld 0) [.r 1] none <|
 .q 3 .ld [.r 2] none <|
 .q 4 (.lda 2) [.s 4] none <|
 .q 5 (.lkp true [(.i .i64), (.i .i64)] (.agg [z, z, z, z, z, z, z, z, zs, zs, zs, zs, z, z, z, z, z, z, z, z, (.bool false)]) true) [.r 3, .r 4] none <|
 .q 7 (.ext 0) [.r 5] none <|
 .q 8 (.ext 1) [.r 5] none <|
 .x 9 (.alc [z, z, z, z, z, z, z, z, zs, zs, zs, zs, z, z, z, z, z, z, z, z, (.bool false)] 86) [] none [⟨3, .ld, [.r 2], none⟩, ⟨4, (.lda 2), [.s 4], none⟩, ⟨5, (.lkp true [(.i .i64), (.i .i64)] (.agg [z, z, z, z, z, z, z, z, zs, zs, zs, zs, z, z, z, z, z, z, z, z, (.bool false)]) true), [.r 3, .r 4], none⟩] <|
 .x 10 (.st 21) [.r 9, .r 7] none [] <|
 .out [(0, .s 0), (4, .s 4), (5, .s 5), (7, .r 9), (8, .r 8)]
def e71r4 : EE := .q 2 (.lda 21) [.s 7] (some (.s 8, true)) <|
 .q 3 (.lda 21) [.s 5] (some (.s 8, true)) <|
 .x 4 (.call 125) [.r 2, .r 3] (some (.s 8, true)) [] <|
 .q 5 .not [.r 4] (some (.s 8, true)) <|
 .q 6 .pick [.s 8, .r 5, .c (.bool false)] none <|
 .out [(0, .s 0), (4, .s 4), (5, .s 5), (37, .r 6)]
def e71r5 : EE := .out [(6, .c (.bool false))]
def e71r6 : EE := .q 1 .nl [.s 0] none <|
 .q 2 (.fld 0) [.r 1] none <|
 .q 3 .ld [.r 2] none <|
 .q 4 (.lda 2) [.s 4] none <|
 .q 5 (.lda 21) [.s 5] none <|
 .x 6 (.mup true [(.i .i64), (.i .i64)]) [.r 3, .r 4, .r 5] none [] <|
 .out []
def e71r7 : EE := .out [(6, .c (.bool true))]
def e71 : EFn := ⟨(.seq (.reg e71r0 [0, 1, 2] 0) (.seq (.seq (.reg e71r1 [0, 4, 5] 0) (.cond (.s 21) (.seq (.reg e71r2 [] 0) .ret) .skip)) (.seq (.seq (.reg e71r3 [0, 4, 5] 0) (.seq (.reg e71r4 [0, 4, 5, 7, 8] 0) (.cond (.s 37) (.seq (.reg e71r5 [] 0) .ret) .skip))) (.seq (.reg e71r6 [0, 4, 5] 0) (.seq (.reg e71r7 [] 0) .ret))))), [.slot 6], 44, 0⟩
theorem g71 : Good Tryz.prog 71 e71 := ⟨Tryz.f71, Tryz.func71, by kernel_rfl, by kernel_rfl, by kernel_rfl, by kernel_rfl⟩
/-! (*concord/core.Core).note -/
def e72r0 : EE := .x 0 (.box 80) [.s 1] none [] <|
 .x 1 (.box 86) [.s 2] none [] <|
 .out [(0, .s 0), (4, .r 0), (5, .r 1)]
def e72r1 : EE := .q 0 (.fld 0) [.s 5] none <|
 .q 1 .ld [.r 0] none <|
 .q 2 .neq [.r 1, .c z] none <|
 .out [(0, .s 0), (4, .s 4), (5, .s 5), (8, .r 2)]
def e72r2 : EE := .q 1 .nl [.s 0] none <|
 .q 2 (.fld 3) [.r 1] none <|
 .q 3 .ld [.r 2] none <|
 .q 4 (.lda 2) [.s 4] none <|
 .q 5 (.fld 5) [.s 5] none <|
 .q 6 (.lda 7) [.r 5] none <|
 .q 7 (.fld 12) [.s 5] none <|
 .q 8 (.fld 0) [.r 7] none <|
 .q 9 .ld [.r 8] none <|
 .x 10 (.call 126) [.r 3, .r 4, .r 6, .r 9] none [] <|
 .out []
def e72 : EFn := ⟨(.seq (.reg e72r0 [0, 1, 2] 0) (.seq (.reg e72r1 [0, 4, 5] 0) (.cond (.s 8) (.reg e72r2 [0, 4, 5] 0) .skip))), [], 20, 0⟩
theorem g72 : Good Tryz.prog 72 e72 := ⟨Tryz.f72, Tryz.func72, by kernel_rfl, by kernel_rfl, by kernel_rfl, by kernel_rfl⟩
/-! concord/wal.frames -/
def e73r0 : EE := .out [(0, .s 0), (1, .s 1)]
def e73r1 : EE := .q 1 .len [.s 1] none <|
 .out [(0, .s 0), (8, .s 1), (9, .r 1), (10, .c z)]
def e73r2 : EE := .q 0 .lss [.s 10, .s 9] none <|
 .out [(0, .s 0), (8, .s 8), (9, .s 9), (10, .s 10), (11, .r 0)]
def e73r3 : EE := .q 0 (.ixs 1) [.s 8, .s 10] none <|
 .q 1 .ld [.r 0] none <|
 .out [(0, .s 0), (7, .r 1), (8, .s 8), (9, .s 9), (10, .s 10)]
def e73r4 : EE := .q 1 .len [.s 7] none <|
 .q 2 .eql [.r 1, .c z] none <|
 .q 4 .mv [.s 7] (some (.r 2, false)) <|
 .q 5 .len [.r 4] (some (.r 2, false)) <|
 .q 6 .gtr [.r 5, .c (.int .i64 16384)] (some (.r 2, false)) <|
 .q 7 .pick [.r 2, .c (.bool true), .r 6] none <|
 .out [(0, .s 0), (7, .s 7), (8, .s 8), (9, .s 9), (10, .s 10), (21, .r 7)]
def e73r5 : EE := .out [(4, .c .nsl), (5, .c (.bool false))]
def e73r6 : EE := .x 2 (.call 74) [.s 0, .s 7] none [] <|
 .out [(0, .r 2), (8, .s 8), (9, .s 9), (10, .s 10)]
def e73r7 : EE := .q 0 .add [.s 10, .c (.int .i64 1)] none <|
 .out [(0, .s 0), (8, .s 8), (9, .s 9), (10, .r 0)]
def e73l8 : EC := (.seq (.reg e73r2 [0, 8, 9, 10] 0) (.seq (.cond (.s 11) .skip (.exit 0)) (.seq (.block 1 (.seq (.reg e73r3 [0, 8, 9, 10] 0) (.seq (.seq (.reg e73r4 [0, 7, 8, 9, 10] 0) (.cond (.s 21) (.seq (.reg e73r5 [] 0) .ret) .skip)) (.reg e73r6 [0, 7, 8, 9, 10] 0)))) (.reg e73r7 [0, 8, 9, 10] 0))))
def e73r9 : EE := .out [(4, .s 0), (5, .c (.bool true))]
def e73 : EFn := ⟨(.seq (.reg e73r0 [0, 1] 0) (.seq (.seq (.reg e73r1 [0, 1] 0) (.block 0 (.loop [0, 8, 9, 10] e73l8))) (.seq (.reg e73r9 [0] 0) .ret))), [.slot 4, .slot 5], 27, 0⟩
theorem g73 : Good Tryz.prog 73 e73 := ⟨Tryz.f73, Tryz.func73, by kernel_rfl, by kernel_rfl, by kernel_rfl, by kernel_rfl⟩
/-! concord/frame.Put -/
def e74r0 : EE := .out [(0, .s 0), (1, .s 1)]
def e74r1 : EE := .q 1 .len [.s 0] none <|
 .q 2 .add [.r 1, .c (.int .i64 2)] none <|
 .q 4 .len [.s 1] none <|
 .q 5 .add [.r 2, .r 4] none <|
 .q 6 .add [.r 5, .c (.int .i64 4)] none <|
 .x 7 (.mks 5 1 [(.int .u8 0)]) [.c z, .r 6] none [] <|
 .x 9 (.app 5 1 1 [(.int .u8 0)]) [.r 7, .s 0] none [] <|
 .out [(1, .s 1), (5, .r 9)]
def e74r2 : EE := .q 1 .len [.s 1] none <|
 .q 2 .eql [.r 1, .c z] none <|
 .q 4 .mv [.s 1] (some (.r 2, false)) <|
 .q 5 .len [.r 4] (some (.r 2, false)) <|
 .q 6 .gtr [.r 5, .c (.int .i64 16384)] (some (.r 2, false)) <|
 .q 7 .pick [.r 2, .c (.bool true), .r 6] none <|
 .out [(1, .s 1), (5, .s 5), (24, .r 7)]
def e74r3 : EE := .out [(4, .s 5)]
def e74r4 : EE := .q 1 .len [.s 1] none <|
 .q 2 (.conv .u64) [.r 1] none <|
 .x 3 (.call 127) [.c .nsl, .c (.int .i64 2), .r 2] none [] <|
 .x 5 (.app 5 1 1 [(.int .u8 0)]) [.r 3, .s 1] none [] <|
 .out [(5, .s 5), (6, .r 5)]
def e74r5 : EE := .x 2 (.app 5 1 1 [(.int .u8 0)]) [.s 5, .s 6] none [] <|
 .x 4 (.call 105) [.s 6] none [] <|
 .q 5 (.conv .u64) [.r 4] none <|
 .x 6 (.call 127) [.c .nsl, .c (.int .i64 4), .r 5] none [] <|
 .x 7 (.app 5 1 1 [(.int .u8 0)]) [.r 2, .r 6] none [] <|
 .out [(4, .r 7)]
def e74 : EFn := ⟨(.seq (.reg e74r0 [0, 1] 0) (.seq (.reg e74r1 [0, 1] 0) (.seq (.seq (.reg e74r2 [1, 5] 0) (.cond (.s 24) (.seq (.reg e74r3 [5] 0) .ret) .skip)) (.seq (.reg e74r4 [1, 5] 0) (.seq (.reg e74r5 [5, 6] 0) .ret))))), [.slot 4], 40, 0⟩
theorem g74 : Good Tryz.prog 74 e74 := ⟨Tryz.f74, Tryz.func74, by kernel_rfl, by kernel_rfl, by kernel_rfl, by kernel_rfl⟩
/-! concord/pack.Num -/
def e75r0 : EE := .out [(0, .s 0), (1, .s 1)]
def e75r1 : EE := .x 1 (.call 117) [.s 0, .c (.int .i64 10)] none [] <|
 .x 3 (.call 128) [.r 1, .s 1] none [] <|
 .out [(4, .r 3)]
def e75 : EFn := ⟨(.seq (.reg e75r0 [0, 1] 0) (.seq (.reg e75r1 [0, 1] 0) .ret)), [.slot 4], 9, 0⟩
theorem g75 : Good Tryz.prog 75 e75 := ⟨Tryz.f75, Tryz.func75, by kernel_rfl, by kernel_rfl, by kernel_rfl, by kernel_rfl⟩
/-! (*concord/wal.Wal).write -/
def e76r0 : EE := .x 0 (.box 149) [.s 1] none [] <|
 .out [(0, .s 0), (2, .s 2), (4, .r 0)]
def e76r1 : EE := .q 1 .nl [.s 0] none <|
 .q 2 (.fld 0) [.r 1] none <|
 .q 3 .ld [.r 2] none <|
 .q 4 (.lda 2) [.s 4] none <|
 .x 5 (.call 60) [.r 4] none [⟨3, .ld, [.r 2], none⟩] <|
 .x 7 (.call 129) [.r 3, .r 5, .s 2] none [] <|
 .out [(0, .s 0), (4, .s 4), (7, .r 7)]
def e76r2 : EE := .q 1 .eql [.s 7, .c (.int .i64 7)] none <|
 .out [(0, .s 0), (4, .s 4), (7, .s 7), (17, .r 1)]
def e76r3 : EE := .out [(6, .s 7)]
def e76r4 : EE := .q 1 .eql [.s 7, .c z] none <|
 .out [(0, .s 0), (4, .s 4), (7, .s 7), (20, .r 1)]
def e76r5 : EE := .q 1 .nl [.s 0] none <|
 .q 2 (.fld 0) [.r 1] none <|
 .q 3 .ld [.r 2] none <|
 .q 4 (.lda 2) [.s 4] none <|
 .x 5 (.call 60) [.r 4] none [⟨3, .ld, [.r 2], none⟩] <|
 .x 6 (.call 62) [.r 3, .r 5] none [] <|
 .out [(0, .s 0), (7, .r 6)]
def e76r6 : EE := .q 2 .neq [.s 7, .c z] none <|
 .q 3 .nl [.s 0] none <|
 .q 4 (.fld 3) [.r 3] none <|
 .x 5 (.st 1) [.r 4, .r 2] none [] <|
 .out [(7, .s 7)]
def e76r7 : EE := .out [(6, .s 7)]
def e76 : EFn := ⟨(.seq (.reg e76r0 [0, 1, 2] 0) (.seq (.reg e76r1 [0, 2, 4] 0) (.seq (.seq (.reg e76r2 [0, 4, 7] 0) (.cond (.s 17) (.seq (.reg e76r3 [7] 0) .ret) .skip)) (.seq (.seq (.reg e76r4 [0, 4, 7] 0) (.cond (.s 20) (.reg e76r5 [0, 4] 0) .skip)) (.seq (.reg e76r6 [0, 7] 0) (.seq (.reg e76r7 [7] 0) .ret)))))), [.slot 6], 34, 0⟩
theorem g76 : Good Tryz.prog 76 e76 := ⟨Tryz.f76, Tryz.func76, by kernel_rfl, by kernel_rfl, by kernel_rfl, by kernel_rfl⟩
/-! (*concord/node.Node).drain -/
def e77r0 : EE := .out [(0, .s 0)]
def e77r1 : EE := .q 1 .nl [.s 0] none <|
 .q 2 (.fld 4) [.r 1] none <|
 .q 3 .ld [.r 2] none <|
 .x 4 (.call 130) [.r 3] none [] <|
 .q 6 (.ext 0) [.r 4] none <|
 .q 7 (.ext 1) [.r 4] none <|
 .out [(0, .s 0), (3, .r 6), (4, .r 7)]
def e77r2 : EE := .q 1 .len [.s 3] none <|
 .out [(0, .s 0), (3, .s 3), (4, .s 4), (15, .s 3), (16, .r 1), (17, .c z)]
def e77r3 : EE := .q 0 .lss [.s 17, .s 16] none <|
 .out [(0, .s 0), (3, .s 3), (4, .s 4), (15, .s 15), (16, .s 16), (17, .s 17), (18, .r 0)]
def e77r4 : EE := .q 1 (.ixs 1) [.s 15, .s 17] none <|
 .q 2 .ld [.r 1] none <|
 .out [(0, .s 0), (3, .s 3), (4, .s 4), (5, .s 17), (6, .r 2), (15, .s 15), (16, .s 16), (17, .s 17)]
def e77r5 : EE := .x 3 (.call 131) [.s 6] none [] <|
 .q 4 (.ixs 1) [.s 3, .s 5] none <|
 .x 5 (.st 1) [.r 4, .r 3] none [] <|
 .out [(0, .s 0), (3, .s 3), (4, .s 4), (15, .s 15), (16, .s 16), (17, .s 17)]
def e77r6 : EE := .q 0 .add [.s 17, .c (.int .i64 1)] none <|
 .out [(0, .s 0), (3, .s 3), (4, .s 4), (15, .s 15), (16, .s 16), (17, .r 0)]
def e77l7 : EC := (.seq (.reg e77r3 [0, 3, 4, 15, 16, 17] 0) (.seq (.cond (.s 18) .skip (.exit 0)) (.seq (.block 1 (.seq (.reg e77r4 [0, 3, 4, 15, 16, 17] 0) (.reg e77r5 [0, 3, 4, 5, 6, 15, 16, 17] 0))) (.reg e77r6 [0, 3, 4, 15, 16, 17] 0))))
def e77r8 : EE := .q 1 .nl [.s 0] none <|
 .q 2 (.fld 3) [.r 1] none <|
 .q 3 .ld [.r 2] none <|
 .x 5 (.call 132) [.r 3, .s 3] none [] <|
 .q 6 .neq [.r 5, .c z] none <|
 .out [(0, .s 0), (4, .s 4), (34, .r 6)]
def e77r9 : EE := .x 1 (.call 133) [.s 0] none [] <|
 .out []
def e77r10 : EE := .out [(2, .c (.bool false))]
def e77r11 : EE := .q 2 .nl [.s 0] none <|
 .q 3 (.fld 72) [.r 2] none <|
 .q 4 .ld [.r 3] none <|
 .x 6 (.app 88 51 480 [z, z, z, z, z, z, z, z, z, z, zs, zs, zs, zs, z, z, z, z, z, z, z, z, z, z, z, z, z, z, z, z, zs, zs, zs, zs, z, z, z, z, z, z, z, z, (.bool false), z, z, z, z, z, z, z, zs]) [.r 4, .s 4] none [] <|
 .q 7 .nl [.s 0] none <|
 .q 8 (.fld 72) [.r 7] none <|
 .x 9 (.st 1) [.r 8, .r 6] none [] <|
 .out []
def e77r12 : EE := .out [(2, .c (.bool true))]
def e77 : EFn := ⟨(.seq (.reg e77r0 [0] 0) (.seq (.reg e77r1 [0] 0) (.seq (.seq (.reg e77r2 [0, 3, 4] 0) (.block 0 (.loop [0, 3, 4, 15, 16, 17] e77l7))) (.seq (.seq (.reg e77r8 [0, 3, 4] 0) (.cond (.s 34) (.seq (.reg e77r9 [0] 0) (.seq (.reg e77r10 [] 0) .ret)) .skip)) (.seq (.reg e77r11 [0, 4] 0) (.seq (.reg e77r12 [] 0) .ret)))))), [.slot 2], 46, 0⟩
theorem g77 : Good Tryz.prog 77 e77 := ⟨Tryz.f77, Tryz.func77, by kernel_rfl, by kernel_rfl, by kernel_rfl, by kernel_rfl⟩
/-! (*concord/node.Node).run -/
def e78r0 : EE := .q 1 .nl [.s 0] none <|
 .q 2 (.fld 55) [.r 1] none <|
 .q 3 (.lda 7) [.r 2] none <|
 .x 5 (.call 135) [.s 0] none [⟨3, (.lda 7), [.r 2], none⟩] <|
 .x 6 (.call 134) [.r 3, .r 5] none [] <|
 .q 8 (.ext 0) [.r 6] none <|
 .q 9 (.ext 1) [.r 6] none <|
 .out [(0, .s 0), (2, .r 8), (3, .r 9)]
def e78r1 : EE := .q 1 .len [.s 2] none <|
 .out [(0, .s 0), (3, .s 3), (18, .s 2), (19, .r 1), (20, .c z)]
def e78r2 : EE := .q 0 .lss [.s 20, .s 19] none <|
 .out [(0, .s 0), (3, .s 3), (18, .s 18), (19, .s 19), (20, .s 20), (21, .r 0)]
def e78r3 : EE := .q 0 (.ixs 23) [.s 18, .s 20] none <|
 .q 1 (.lda 23) [.r 0] none <|
 .x 2 (.alc [z, z, z, z, z, z, z, z, z, z, zs, zs, zs, zs, z, z, z, z, z, z, z, z, (.bool false)] 240) [] none [] <|
 .x 3 (.st 23) [.r 2, .r 1] none [] <|
 .out [(0, .s 0), (3, .s 3), (5, .r 2), (18, .s 18), (19, .s 19), (20, .s 20)]
def e78r4 : EE := .q 2 .nl [.s 0] none <|
 .q 3 (.fld 6) [.r 2] none <|
 .q 4 (.lda 49) [.r 3] none <|
 .q 5 (.fld 2) [.s 5] none <|
 .q 6 (.fld 5) [.r 5] none <|
 .q 7 (.lda 7) [.r 6] none <|
 .x 8 (.call 136) [.r 4, .r 7] none [] <|
 .q 10 (.ext 0) [.r 8] none <|
 .q 11 (.ext 1) [.r 8] none <|
 .q 12 .nl [.s 0] none <|
 .q 13 (.fld 6) [.r 12] none <|
 .x 14 (.st 49) [.r 13, .r 10] none [] <|
 .out [(0, .s 0), (3, .s 3), (5, .s 5), (18, .s 18), (19, .s 19), (20, .s 20)]
def e78r5 : EE := .q 1 (.fld 0) [.s 5] none <|
 .q 2 (.fld 0) [.r 1] none <|
 .q 3 .ld [.r 2] none <|
 .q 5 (.fld 0) [.s 5] none <|
 .q 6 (.fld 0) [.r 5] none <|
 .q 7 .ld [.r 6] none <|
 .q 8 .nl [.s 0] none <|
 .q 9 (.fld 55) [.r 8] none <|
 .q 10 (.ixa 7 1) [.r 9, .r 7] none <|
 .q 11 .ld [.r 10] none <|
 .q 12 (.fld 0) [.s 5] none <|
 .q 13 (.fld 1) [.r 12] none <|
 .q 14 .ld [.r 13] none <|
 .q 15 .mx [.r 11, .r 14] none <|
 .q 16 .nl [.s 0] none <|
 .q 17 (.fld 55) [.r 16] none <|
 .q 18 (.ixa 7 1) [.r 17, .r 3] none <|
 .x 19 (.st 1) [.r 18, .r 15] none [] <|
 .out [(0, .s 0), (3, .s 3), (18, .s 18), (19, .s 19), (20, .s 20)]
def e78r6 : EE := .q 1 .nl [.s 0] none <|
 .q 2 (.fld 69) [.r 1] none <|
 .q 3 .ld [.r 2] none <|
 .q 4 .add [.r 3, .c (.int .i64 1)] none <|
 .q 5 .nl [.s 0] none <|
 .q 6 (.fld 69) [.r 5] none <|
 .x 7 (.st 1) [.r 6, .r 4] none [] <|
 .out [(0, .s 0), (3, .s 3), (18, .s 18), (19, .s 19), (20, .s 20)]
def e78r7 : EE := .q 0 .add [.s 20, .c (.int .i64 1)] none <|
 .out [(0, .s 0), (3, .s 3), (18, .s 18), (19, .s 19), (20, .r 0)]
def e78l8 : EC := (.seq (.reg e78r2 [0, 3, 18, 19, 20] 0) (.seq (.cond (.s 21) .skip (.exit 0)) (.seq (.block 1 (.seq (.reg e78r3 [0, 3, 18, 19, 20] 0) (.seq (.reg e78r4 [0, 3, 5, 18, 19, 20] 0) (.seq (.reg e78r5 [0, 3, 5, 18, 19, 20] 0) (.reg e78r6 [0, 3, 18, 19, 20] 0))))) (.reg e78r7 [0, 3, 18, 19, 20] 0))))
def e78r9 : EE := .q 1 .len [.s 3] none <|
 .out [(0, .s 0), (65, .s 3), (66, .r 1), (67, .c z)]
def e78r10 : EE := .q 0 .lss [.s 67, .s 66] none <|
 .out [(0, .s 0), (65, .s 65), (66, .s 66), (67, .s 67), (68, .r 0)]
def e78r11 : EE := .q 0 (.ixs 2) [.s 65, .s 67] none <|
 .q 1 (.lda 2) [.r 0] none <|
 .x 2 (.alc [z, z] 80) [] none [] <|
 .x 3 (.st 2) [.r 2, .r 1] none [] <|
 .out [(0, .s 0), (7, .r 2), (65, .s 65), (66, .s 66), (67, .s 67)]
def e78r12 : EE := .q 1 (.fld 0) [.s 7] none <|
 .q 2 .ld [.r 1] none <|
 .q 3 (.fld 1) [.s 7] none <|
 .q 4 .ld [.r 3] none <|
 .x 5 (.call 137) [.s 0, .r 2, .r 4] none [] <|
 .out [(0, .s 0), (65, .s 65), (66, .s 66), (67, .s 67)]
def e78r13 : EE := .q 0 .add [.s 67, .c (.int .i64 1)] none <|
 .out [(0, .s 0), (65, .s 65), (66, .s 66), (67, .r 0)]
def e78l14 : EC := (.seq (.reg e78r10 [0, 65, 66, 67] 0) (.seq (.cond (.s 68) .skip (.exit 2)) (.seq (.block 3 (.seq (.reg e78r11 [0, 65, 66, 67] 0) (.reg e78r12 [0, 7, 65, 66, 67] 0))) (.reg e78r13 [0, 65, 66, 67] 0))))
def e78 : EFn := ⟨(.seq (.reg e78r0 [0] 0) (.seq (.seq (.reg e78r1 [0, 2, 3] 0) (.block 0 (.loop [0, 3, 18, 19, 20] e78l8))) (.seq (.reg e78r9 [0, 3] 0) (.block 2 (.loop [0, 65, 66, 67] e78l14))))), [], 78, 0⟩
theorem g78 : Good Tryz.prog 78 e78 := ⟨Tryz.f78, Tryz.func78, by kernel_rfl, by kernel_rfl, by kernel_rfl, by kernel_rfl⟩
/-! (*concord/node.Node).answer -/
def e79r0 : EE := .out [(0, .s 0), (2, .c .nsl)]
def e79r1 : EE := .q 1 .nl [.s 0] none <|
 .q 2 (.fld 71) [.r 1] none <|
 .q 3 .ld [.r 2] none <|
 .q 4 .len [.r 3] none <|
 .out [(0, .s 0), (2, .s 2), (10, .r 3), (11, .r 4), (12, .c z)]
def e79r2 : EE := .q 0 .lss [.s 12, .s 11] none <|
 .out [(0, .s 0), (2, .s 2), (10, .s 10), (11, .s 11), (12, .s 12), (13, .r 0)]
def e79r3 : EE := .q 0 (.ixs 2) [.s 10, .s 12] none <|
 .q 1 (.lda 2) [.r 0] none <|
 .x 2 (.alc [z, z] 80) [] none [] <|
 .x 3 (.st 2) [.r 2, .r 1] none [] <|
 .out [(0, .s 0), (2, .s 2), (4, .r 2), (10, .s 10), (11, .s 11), (12, .s 12)]
def e79r4 : EE := .q 1 (.fld 0) [.s 4] none <|
 .q 2 .ld [.r 1] none <|
 .q 3 .sub [.r 2, .c (.int .i64 1)] none <|
 .q 4 .nl [.s 0] none <|
 .q 5 (.fld 6) [.r 4] none <|
 .q 6 (.fld 1) [.r 5] none <|
 .q 7 (.ixa 8 6) [.r 6, .r 3] none <|
 .q 8 (.lda 6) [.r 7] none <|
 .x 9 (.alc [z, z, (.bool false), zs, z, .nsl] 70) [] none [⟨2, .ld, [.r 1], none⟩, ⟨8, (.lda 6), [.r 7], none⟩] <|
 .x 10 (.st 6) [.r 9, .r 8] none [] <|
 .out [(0, .s 0), (2, .s 2), (4, .s 4), (5, .r 9), (10, .s 10), (11, .s 11), (12, .s 12)]
def e79r5 : EE := .q 0 (.fld 0) [.s 5] none <|
 .q 1 .ld [.r 0] none <|
 .q 2 (.fld 1) [.s 4] none <|
 .q 3 .ld [.r 2] none <|
 .q 4 .eql [.r 1, .r 3] none <|
 .out [(0, .s 0), (2, .s 2), (4, .s 4), (5, .s 5), (10, .s 10), (11, .s 11), (12, .s 12), (25, .r 4)]
def e79r6 : EE := .q 0 (.fld 1) [.s 5] none <|
 .q 1 (.lda 5) [.r 0] none <|
 .x 2 (.alc [z, (.bool false), zs, z, .nsl] 68) [] none [] <|
 .x 3 (.st 5) [.r 2, .r 1] none [] <|
 .out [(0, .s 0), (2, .s 2), (4, .s 4), (6, .r 2), (10, .s 10), (11, .s 11), (12, .s 12)]
def e79r7 : EE := .q 0 (.fld 4) [.s 6] none <|
 .q 1 .ld [.r 0] none <|
 .x 2 (.call 29) [.r 1] none [] <|
 .q 3 (.fld 4) [.s 6] none <|
 .x 4 (.st 1) [.r 3, .r 2] none [] <|
 .out [(0, .s 0), (2, .s 2), (4, .s 4), (6, .s 6), (10, .s 10), (11, .s 11), (12, .s 12)]
def e79r8 : EE := .q 2 .nl [.s 0] none <|
 .q 3 (.fld 73) [.r 2] none <|
 .q 4 .ld [.r 3] none <|
 .q 5 (.fld 0) [.s 4] none <|
 .q 6 .ld [.r 5] none <|
 .q 7 (.fld 1) [.s 4] none <|
 .q 8 .ld [.r 7] none <|
 .q 9 (.lda 5) [.s 6] none <|
 .q 10 (.bld [z, z, z, (.bool false), zs, z, .nsl] [(0, 1), (1, 1), (2, 5)]) [.r 6, .r 8, .r 9] none <|
 .x 11 (.bsl 119 1 [z, z, z, (.bool false), zs, z, .nsl] [(0, 7)]) [.r 10] none [⟨4, .ld, [.r 3], none⟩] <|
 .x 12 (.app 119 7 80 [z, z, z, (.bool false), zs, z, .nsl]) [.r 4, .r 11] none [] <|
 .q 13 .nl [.s 0] none <|
 .q 14 (.fld 73) [.r 13] none <|
 .x 15 (.st 1) [.r 14, .r 12] none [] <|
 .out [(0, .s 0), (2, .s 2), (10, .s 10), (11, .s 11), (12, .s 12)]
def e79r9 : EE := .q 0 (.fld 0) [.s 5] none <|
 .q 1 .ld [.r 0] none <|
 .q 2 (.fld 1) [.s 4] none <|
 .q 3 .ld [.r 2] none <|
 .q 4 .lss [.r 1, .r 3] none <|
 .out [(0, .s 0), (2, .s 2), (4, .s 4), (10, .s 10), (11, .s 11), (12, .s 12), (52, .r 4)]
def e79r10 : EE := .q 1 (.lda 2) [.s 4] none <|
 .x 2 (.bsl 80 1 [z, z] [(0, 2)]) [.r 1] none [] <|
 .x 3 (.app 80 2 16 [z, z]) [.s 2, .r 2] none [] <|
 .out [(0, .s 0), (2, .r 3), (10, .s 10), (11, .s 11), (12, .s 12)]
def e79r11 : EE := .q 0 .add [.s 12, .c (.int .i64 1)] none <|
 .out [(0, .s 0), (2, .s 2), (10, .s 10), (11, .s 11), (12, .r 0)]
def e79l12 : EC := (.seq (.reg e79r2 [0, 2, 10, 11, 12] 0) (.seq (.cond (.s 13) .skip (.exit 0)) (.seq (.block 1 (.seq (.reg e79r3 [0, 2, 10, 11, 12] 0) (.seq (.reg e79r4 [0, 2, 4, 10, 11, 12] 0) (.block 2 (.seq (.reg e79r5 [0, 2, 4, 5, 10, 11, 12] 0) (.cond (.s 25) (.seq (.reg e79r6 [0, 2, 4, 5, 10, 11, 12] 0) (.seq (.reg e79r7 [0, 2, 4, 6, 10, 11, 12] 0) (.reg e79r8 [0, 2, 4, 6, 10, 11, 12] 0))) (.seq (.reg e79r9 [0, 2, 4, 5, 10, 11, 12] 0) (.cond (.s 52) (.reg e79r10 [0, 2, 4, 10, 11, 12] 0) .skip)))))))) (.reg e79r11 [0, 2, 10, 11, 12] 0))))
def e79r13 : EE := .q 2 .nl [.s 0] none <|
 .q 3 (.fld 71) [.r 2] none <|
 .x 4 (.st 1) [.r 3, .s 2] none [] <|
 .out []
def e79 : EFn := ⟨(.seq (.reg e79r0 [0] 0) (.seq (.seq (.reg e79r1 [0, 2] 0) (.block 0 (.loop [0, 2, 10, 11, 12] e79l12))) (.reg e79r13 [0, 2] 0))), [], 67, 0⟩
theorem g79 : Good Tryz.prog 79 e79 := ⟨Tryz.f79, Tryz.func79, by kernel_rfl, by kernel_rfl, by kernel_rfl, by kernel_rfl⟩
/-! (*concord/node.Node).trim -/
def e82r0 : EE := .q 1 .nl [.s 0] none <|
 .q 2 (.fld 5) [.r 1] none <|
 .q 3 .ld [.r 2] none <|
 .q 6 .nl [.s 0] none <|
 .q 7 (.fld 4) [.r 6] none <|
 .q 8 .ld [.r 7] none <|
 .both false
 (.x 4 (.call 141) [.r 3] none [⟨8, .ld, [.r 7], none⟩] <|
 .both false
 (.x 9 (.call 142) [.r 8] none [] <|
 .both false
 (.x 10 (.alc [z, z, z, z, z, z, z] 38) [] none [⟨3, .ld, [.r 2], none⟩, ⟨8, .ld, [.r 7], none⟩] <|
 .x 11 (.alc [z, z, z, z, z, z, z] 38) [] none [⟨3, .ld, [.r 2], none⟩, ⟨8, .ld, [.r 7], none⟩] <|
 .x 12 (.st 7) [.r 10, .r 4] none [] <|
 .x 13 (.st 7) [.r 11, .r 9] none [] <|
 .out [(0, .s 0), (2, .r 10), (3, .r 11)])
 (.x 11 (.alc [z, z, z, z, z, z, z] 38) [] none [⟨3, .ld, [.r 2], none⟩, ⟨8, .ld, [.r 7], none⟩] <|
 .x 10 (.alc [z, z, z, z, z, z, z] 38) [] none [⟨3, .ld, [.r 2], none⟩, ⟨8, .ld, [.r 7], none⟩] <|
 .x 12 (.st 7) [.r 10, .r 4] none [] <|
 .x 13 (.st 7) [.r 11, .r 9] none [] <|
 .out [(0, .s 0), (2, .r 10), (3, .r 11)]))
 (.both false
 (.x 10 (.alc [z, z, z, z, z, z, z] 38) [] none [⟨3, .ld, [.r 2], none⟩, ⟨8, .ld, [.r 7], none⟩] <|
 .both false
 (.x 9 (.call 142) [.r 8] none [] <|
 .x 11 (.alc [z, z, z, z, z, z, z] 38) [] none [⟨3, .ld, [.r 2], none⟩, ⟨8, .ld, [.r 7], none⟩] <|
 .x 12 (.st 7) [.r 10, .r 4] none [] <|
 .x 13 (.st 7) [.r 11, .r 9] none [] <|
 .out [(0, .s 0), (2, .r 10), (3, .r 11)])
 (.x 11 (.alc [z, z, z, z, z, z, z] 38) [] none [⟨3, .ld, [.r 2], none⟩, ⟨8, .ld, [.r 7], none⟩] <|
 .x 9 (.call 142) [.r 8] none [] <|
 .x 12 (.st 7) [.r 10, .r 4] none [] <|
 .x 13 (.st 7) [.r 11, .r 9] none [] <|
 .out [(0, .s 0), (2, .r 10), (3, .r 11)]))
 (.x 11 (.alc [z, z, z, z, z, z, z] 38) [] none [⟨3, .ld, [.r 2], none⟩, ⟨8, .ld, [.r 7], none⟩] <|
 .both false
 (.x 9 (.call 142) [.r 8] none [] <|
 .x 10 (.alc [z, z, z, z, z, z, z] 38) [] none [⟨3, .ld, [.r 2], none⟩, ⟨8, .ld, [.r 7], none⟩] <|
 .x 12 (.st 7) [.r 10, .r 4] none [] <|
 .x 13 (.st 7) [.r 11, .r 9] none [] <|
 .out [(0, .s 0), (2, .r 10), (3, .r 11)])
 (.x 10 (.alc [z, z, z, z, z, z, z] 38) [] none [⟨3, .ld, [.r 2], none⟩, ⟨8, .ld, [.r 7], none⟩] <|
 .x 9 (.call 142) [.r 8] none [] <|
 .x 12 (.st 7) [.r 10, .r 4] none [] <|
 .x 13 (.st 7) [.r 11, .r 9] none [] <|
 .out [(0, .s 0), (2, .r 10), (3, .r 11)]))))
 (.both false
 (.x 10 (.alc [z, z, z, z, z, z, z] 38) [] none [⟨3, .ld, [.r 2], none⟩, ⟨8, .ld, [.r 7], none⟩] <|
 .both false
 (.x 4 (.call 141) [.r 3] none [⟨8, .ld, [.r 7], none⟩] <|
 .both false
 (.x 9 (.call 142) [.r 8] none [] <|
 .x 11 (.alc [z, z, z, z, z, z, z] 38) [] none [⟨3, .ld, [.r 2], none⟩, ⟨8, .ld, [.r 7], none⟩] <|
 .x 12 (.st 7) [.r 10, .r 4] none [] <|
 .x 13 (.st 7) [.r 11, .r 9] none [] <|
 .out [(0, .s 0), (2, .r 10), (3, .r 11)])
 (.x 11 (.alc [z, z, z, z, z, z, z] 38) [] none [⟨3, .ld, [.r 2], none⟩, ⟨8, .ld, [.r 7], none⟩] <|
 .x 9 (.call 142) [.r 8] none [] <|
 .x 12 (.st 7) [.r 10, .r 4] none [] <|
 .x 13 (.st 7) [.r 11, .r 9] none [] <|
 .out [(0, .s 0), (2, .r 10), (3, .r 11)]))
 (.x 11 (.alc [z, z, z, z, z, z, z] 38) [] none [⟨3, .ld, [.r 2], none⟩, ⟨8, .ld, [.r 7], none⟩] <|
 .x 4 (.call 141) [.r 3] none [⟨8, .ld, [.r 7], none⟩] <|
 .x 9 (.call 142) [.r 8] none [] <|
 .x 12 (.st 7) [.r 10, .r 4] none [] <|
 .x 13 (.st 7) [.r 11, .r 9] none [] <|
 .out [(0, .s 0), (2, .r 10), (3, .r 11)]))
 (.x 11 (.alc [z, z, z, z, z, z, z] 38) [] none [⟨3, .ld, [.r 2], none⟩, ⟨8, .ld, [.r 7], none⟩] <|
 .both false
 (.x 4 (.call 141) [.r 3] none [⟨8, .ld, [.r 7], none⟩] <|
 .both false
 (.x 9 (.call 142) [.r 8] none [] <|
 .x 10 (.alc [z, z, z, z, z, z, z] 38) [] none [⟨3, .ld, [.r 2], none⟩, ⟨8, .ld, [.r 7], none⟩] <|
 .x 12 (.st 7) [.r 10, .r 4] none [] <|
 .x 13 (.st 7) [.r 11, .r 9] none [] <|
 .out [(0, .s 0), (2, .r 10), (3, .r 11)])
 (.x 10 (.alc [z, z, z, z, z, z, z] 38) [] none [⟨3, .ld, [.r 2], none⟩, ⟨8, .ld, [.r 7], none⟩] <|
 .x 9 (.call 142) [.r 8] none [] <|
 .x 12 (.st 7) [.r 10, .r 4] none [] <|
 .x 13 (.st 7) [.r 11, .r 9] none [] <|
 .out [(0, .s 0), (2, .r 10), (3, .r 11)]))
 (.x 10 (.alc [z, z, z, z, z, z, z] 38) [] none [⟨3, .ld, [.r 2], none⟩, ⟨8, .ld, [.r 7], none⟩] <|
 .x 4 (.call 141) [.r 3] none [⟨8, .ld, [.r 7], none⟩] <|
 .x 9 (.call 142) [.r 8] none [] <|
 .x 12 (.st 7) [.r 10, .r 4] none [] <|
 .x 13 (.st 7) [.r 11, .r 9] none [] <|
 .out [(0, .s 0), (2, .r 10), (3, .r 11)])))
def e82r1 : EE := .out [(0, .s 0), (2, .s 2), (3, .s 3), (4, .c z)]
def e82r2 : EE := .out [(0, .s 0), (2, .s 2), (3, .s 3), (4, .s 4), (21, .c z)]
def e82r3 : EE := .q 0 .lss [.s 21, .c (.int .i64 7)] none <|
 .out [(0, .s 0), (2, .s 2), (3, .s 3), (4, .s 4), (21, .s 21), (22, .r 0)]
def e82r4 : EE := .out [(0, .s 0), (2, .s 2), (3, .s 3), (4, .s 4), (5, .s 21), (21, .s 21)]
def e82r5 : EE := .q 2 (.ixa 7 1) [.s 2, .s 5] none <|
 .q 3 .ld [.r 2] none <|
 .q 5 (.ixa 7 1) [.s 3, .s 5] none <|
 .q 6 .ld [.r 5] none <|
 .q 7 .sub [.r 3, .r 6] none <|
 .q 8 .mx [.r 7, .c z] none <|
 .q 9 .add [.s 4, .r 8] none <|
 .out [(0, .s 0), (2, .s 2), (3, .s 3), (4, .r 9), (21, .s 21)]
def e82r6 : EE := .q 0 .add [.s 21, .c (.int .i64 1)] none <|
 .out [(0, .s 0), (2, .s 2), (3, .s 3), (4, .s 4), (21, .r 0)]
def e82l7 : EC := (.seq (.reg e82r3 [0, 2, 3, 4, 21] 0) (.seq (.cond (.s 22) .skip (.exit 0)) (.seq (.block 1 (.seq (.reg e82r4 [0, 2, 3, 4, 21] 0) (.reg e82r5 [0, 2, 3, 4, 5, 21] 0))) (.reg e82r6 [0, 2, 3, 4, 21] 0))))
def e82r8 : EE := .q 1 .lss [.s 4, .c (.int .i64 8)] none <|
 .out [(0, .s 0), (2, .s 2), (36, .r 1)]
def e82r9 : EE := .q 1 .nl [.s 0] none <|
 .q 2 (.fld 4) [.r 1] none <|
 .q 3 .ld [.r 2] none <|
 .q 4 (.lda 7) [.s 2] none <|
 .x 5 (.call 143) [.r 3, .r 4] none [] <|
 .out [(0, .s 0)]
def e82r10 : EE := .q 1 .nl [.s 0] none <|
 .q 2 (.fld 4) [.r 1] none <|
 .q 3 .ld [.r 2] none <|
 .x 4 (.call 142) [.r 3] none [] <|
 .x 5 (.call 39) [.r 4] none [] <|
 .x 6 (.bsl 104 1 [.nsl] [(0, 1)]) [.r 5] none [] <|
 .out [(0, .s 0), (6, .r 6)]
def e82r11 : EE := .q 1 .nl [.s 0] none <|
 .q 2 (.fld 4) [.r 1] none <|
 .q 3 .ld [.r 2] none <|
 .x 4 (.call 144) [.r 3] none [] <|
 .q 5 .len [.r 4] none <|
 .out [(0, .s 0), (6, .s 6), (54, .r 4), (55, .r 5), (56, .c z)]
def e82r12 : EE := .q 0 .lss [.s 56, .s 55] none <|
 .out [(0, .s 0), (6, .s 6), (54, .s 54), (55, .s 55), (56, .s 56), (57, .r 0)]
def e82r13 : EE := .q 0 (.ixs 2) [.s 54, .s 56] none <|
 .q 1 (.lda 2) [.r 0] none <|
 .x 2 (.alc [z, z] 80) [] none [] <|
 .x 3 (.st 2) [.r 2, .r 1] none [] <|
 .out [(0, .s 0), (6, .s 6), (8, .r 2), (54, .s 54), (55, .s 55), (56, .s 56)]
def e82r14 : EE := .q 1 .nl [.s 0] none <|
 .q 2 (.fld 4) [.r 1] none <|
 .q 3 .ld [.r 2] none <|
 .q 4 (.lda 2) [.s 8] none <|
 .both false
 (.x 5 (.call 145) [.r 3, .r 4] none [] <|
 .q 7 (.ext 0) [.r 5] none <|
 .q 8 (.ext 1) [.r 5] none <|
 .x 9 (.alc [z, z, z, z, z, z, z, z, zs, zs, zs, zs, z, z, z, z, z, z, z, z, (.bool false)] 86) [] none [⟨3, .ld, [.r 2], none⟩, ⟨4, (.lda 2), [.s 8], none⟩] <|
 .x 10 (.st 21) [.r 9, .r 7] none [] <|
 .out [(0, .s 0), (6, .s 6), (8, .s 8), (9, .r 9), (10, .r 8), (54, .s 54), (55, .s 55), (56, .s 56)])
 (.x 9 (.alc [z, z, z, z, z, z, z, z, zs, zs, zs, zs, z, z, z, z, z, z, z, z, (.bool false)] 86) [] none [⟨3, .ld, [.r 2], none⟩, ⟨4, (.lda 2), [.s 8], none⟩] <|
 .x 5 (.call 145) [.r 3, .r 4] none [] <|
 .q 7 (.ext 0) [.r 5] none <|
 .q 8 (.ext 1) [.r 5] none <|
 .x 10 (.st 21) [.r 9, .r 7] none [] <|
 .out [(0, .s 0), (6, .s 6), (8, .s 8), (9, .r 9), (10, .r 8), (54, .s 54), (55, .s 55), (56, .s 56)])
def e82r15 : EE := .out [(0, .s 0), (6, .s 6), (8, .s 8), (9, .s 9), (54, .s 54), (55, .s 55), (56, .s 56), (69, .s 10)]
def e82r16 : EE := .q 1 (.lda 2) [.s 8] none <|
 .q 2 (.lda 21) [.s 9] none <|
 .x 3 (.call 146) [.r 1, .r 2] none [] <|
 .x 4 (.call 131) [.r 3] none [] <|
 .x 5 (.bsl 104 1 [.nsl] [(0, 1)]) [.r 4] none [] <|
 .x 6 (.app 104 1 24 [.nsl]) [.s 6, .r 5] none [] <|
 .out [(0, .s 0), (6, .r 6), (54, .s 54), (55, .s 55), (56, .s 56)]
def e82r17 : EE := .q 0 .add [.s 56, .c (.int .i64 1)] none <|
 .out [(0, .s 0), (6, .s 6), (54, .s 54), (55, .s 55), (56, .r 0)]
def e82l18 : EC := (.seq (.reg e82r12 [0, 6, 54, 55, 56] 0) (.seq (.cond (.s 57) .skip (.exit 2)) (.seq (.block 3 (.seq (.reg e82r13 [0, 6, 54, 55, 56] 0) (.seq (.reg e82r14 [0, 6, 8, 54, 55, 56] 11) (.seq (.reg e82r15 [0, 6, 8, 9, 10, 54, 55, 56] 0) (.cond (.s 69) (.reg e82r16 [0, 6, 8, 9, 54, 55, 56] 0) .skip))))) (.reg e82r17 [0, 6, 54, 55, 56] 0))))
def e82r19 : EE := .q 1 .nl [.s 0] none <|
 .q 2 (.fld 3) [.r 1] none <|
 .q 3 .ld [.r 2] none <|
 .x 5 (.call 38) [.r 3, .s 6] none [] <|
 .q 6 .neq [.r 5, .c z] none <|
 .out [(0, .s 0), (84, .r 6)]
def e82r20 : EE := .x 1 (.call 133) [.s 0] none [] <|
 .out []
def e82 : EFn := ⟨(.seq (.reg e82r0 [0] 14) (.seq (.reg e82r1 [0, 2, 3] 0) (.seq (.seq (.reg e82r2 [0, 2, 3, 4] 0) (.block 0 (.loop [0, 2, 3, 4, 21] e82l7))) (.seq (.seq (.reg e82r8 [0, 2, 4] 0) (.cond (.s 36) .ret .skip)) (.seq (.reg e82r9 [0, 2] 0) (.seq (.reg e82r10 [0] 0) (.seq (.seq (.reg e82r11 [0, 6] 0) (.block 2 (.loop [0, 6, 54, 55, 56] e82l18))) (.seq (.reg e82r19 [0, 6] 0) (.cond (.s 84) (.reg e82r20 [0] 0) .skip))))))))), [], 87, 0⟩
theorem g82 : Good Tryz.prog 82 e82 := ⟨Tryz.f82, Tryz.func82, by kernel_rfl, by kernel_rfl, by kernel_rfl, by kernel_rfl⟩
/-! concord/cmd.Right -/
def e83r0 : EE := .x 0 (.box 30) [.s 0] none [] <|
 .out [(1, .r 0)]
def e83r1 : EE := .q 0 (.lda 7) [.s 1] none <|
 .q 1 (.bld [z, z, z, zs, zs, zs, zs] []) [] none <|
 .q 2 (.eqc false [(.i .i64), (.i .i64), (.i .i64), .s, .s, .s, .s]) [.r 0, .r 1] none <|
 .out [(1, .s 1), (6, .r 2)]
def e83r2 : EE := .out [(2, .c (.bool true))]
def e83r3 : EE := .q 0 (.fld 0) [.s 1] none <|
 .q 1 .ld [.r 0] none <|
 .x 2 (.call 147) [.r 1, .c (.int .i64 5)] none [] <|
 .q 3 .not [.r 2] none <|
 .q 5 (.fld 1) [.s 1] (some (.r 3, false)) <|
 .q 6 .ld [.r 5] (some (.r 3, false)) <|
 .x 7 (.call 147) [.r 6, .c (.int .i64 8)] (some (.r 3, false)) [] <|
 .q 8 .not [.r 7] (some (.r 3, false)) <|
 .q 9 .pick [.r 3, .c (.bool true), .r 8] none <|
 .q 11 (.fld 2) [.s 1] (some (.r 9, false)) <|
 .q 12 .ld [.r 11] (some (.r 9, false)) <|
 .x 13 (.call 147) [.r 12, .c (.int .i64 1099511627776)] (some (.r 9, false)) [] <|
 .q 14 .not [.r 13] (some (.r 9, false)) <|
 .q 15 .pick [.r 9, .c (.bool true), .r 14] none <|
 .q 17 (.lda 7) [.s 1] (some (.r 15, false)) <|
 .q 18 (.lda 7) [.s 1] (some (.r 15, false)) <|
 .x 19 (.call 148) [.r 18] (some (.r 15, false)) [⟨17, (.lda 7), [.s 1], (some (.r 15, false))⟩] <|
 .q 20 (.eqc true [(.i .i64), (.i .i64), (.i .i64), .s, .s, .s, .s]) [.r 17, .r 19] (some (.r 15, false)) <|
 .q 21 .pick [.r 15, .c (.bool true), .r 20] none <|
 .out [(1, .s 1), (28, .r 21)]
def e83r4 : EE := .out [(2, .c (.bool false))]
def e83r5 : EE := .q 0 (.fld 3) [.s 1] none <|
 .q 1 .ld [.r 0] none <|
 .q 2 .lenz [.r 1] none <|
 .q 3 .gtr [.r 2, .c (.int .i64 16)] none <|
 .q 5 (.fld 4) [.s 1] (some (.r 3, false)) <|
 .q 6 .ld [.r 5] (some (.r 3, false)) <|
 .q 7 .lenz [.r 6] (some (.r 3, false)) <|
 .q 8 .gtr [.r 7, .c (.int .i64 16)] (some (.r 3, false)) <|
 .q 9 .pick [.r 3, .c (.bool true), .r 8] none <|
 .q 11 (.fld 5) [.s 1] (some (.r 9, false)) <|
 .q 12 .ld [.r 11] (some (.r 9, false)) <|
 .q 13 .lenz [.r 12] (some (.r 9, false)) <|
 .q 14 .gtr [.r 13, .c (.int .i64 64)] (some (.r 9, false)) <|
 .q 15 .pick [.r 9, .c (.bool true), .r 14] none <|
 .q 17 (.fld 6) [.s 1] (some (.r 15, false)) <|
 .q 18 .ld [.r 17] (some (.r 15, false)) <|
 .q 19 .lenz [.r 18] (some (.r 15, false)) <|
 .q 20 .gtr [.r 19, .c (.int .i64 64)] (some (.r 15, false)) <|
 .q 21 .pick [.r 15, .c (.bool true), .r 20] none <|
 .out [(1, .s 1), (3, .r 21)]
def e83r6 : EE := .q 1 .not [.s 3] none <|
 .q 3 (.fld 3) [.s 1] (some (.r 1, true)) <|
 .q 4 .ld [.r 3] (some (.r 1, true)) <|
 .q 5 .sneq [.r 4, .c zs] (some (.r 1, true)) <|
 .q 6 .mv [.r 5] (some (.r 1, true)) <|
 .q 7 (.fld 0) [.s 1] (some (.r 6, false)) <|
 .q 8 .ld [.r 7] (some (.r 6, false)) <|
 .q 9 .eql [.r 8, .c (.int .i64 5)] (some (.r 6, false)) <|
 .q 10 .pick [.r 6, .c (.bool true), .r 9] (some (.r 1, true)) <|
 .q 11 .pick [.r 1, .r 10, .c (.bool false)] none <|
 .out [(2, .r 11)]
def e83 : EFn := ⟨(.seq (.reg e83r0 [0] 0) (.seq (.seq (.reg e83r1 [1] 0) (.cond (.s 6) (.seq (.reg e83r2 [] 0) .ret) .skip)) (.seq (.seq (.reg e83r3 [1] 0) (.cond (.s 28) (.seq (.reg e83r4 [] 0) .ret) .skip)) (.seq (.reg e83r5 [1] 0) (.seq (.reg e83r6 [1, 3] 0) .ret))))), [.slot 2], 63, 0⟩
theorem g83 : Good Tryz.prog 83 e83 := ⟨Tryz.f83, Tryz.func83, by kernel_rfl, by kernel_rfl, by kernel_rfl, by kernel_rfl⟩
/-! (*concord/node.Node).Ask -/
def e84r0 : EE := .x 0 (.box 30) [.s 1] none [] <|
 .out [(0, .s 0), (3, .r 0)]
def e84r1 : EE := .q 1 .nl [.s 0] none <|
 .q 2 (.fld 74) [.r 1] none <|
 .q 3 .ld [.r 2] none <|
 .out [(0, .s 0), (3, .s 3), (12, .r 3)]
def e84r2 : EE := .out [(4, .c (.int .i64 10))]
def e84r3 : EE := .q 0 (.lda 7) [.s 3] none <|
 .x 1 (.call 83) [.r 0] none [] <|
 .q 2 .not [.r 1] none <|
 .q 4 (.fld 0) [.s 3] (some (.r 2, false)) <|
 .q 5 .ld [.r 4] (some (.r 2, false)) <|
 .q 6 .eql [.r 5, .c z] (some (.r 2, false)) <|
 .q 7 .pick [.r 2, .c (.bool true), .r 6] none <|
 .out [(0, .s 0), (3, .s 3), (20, .r 7)]
def e84r4 : EE := .out [(4, .c (.int .i64 1))]
def e84r5 : EE := .q 1 (.fld 1) [.s 3] none <|
 .q 2 .ld [.r 1] none <|
 .q 3 .sub [.r 2, .c (.int .i64 1)] none <|
 .q 4 .nl [.s 0] none <|
 .q 5 (.fld 6) [.r 4] none <|
 .q 6 (.fld 1) [.r 5] none <|
 .q 7 (.ixa 8 6) [.r 6, .r 3] none <|
 .q 8 (.fld 0) [.r 7] none <|
 .q 9 .ld [.r 8] none <|
 .out [(0, .s 0), (3, .s 3), (5, .r 9)]
def e84r6 : EE := .q 0 (.fld 2) [.s 3] none <|
 .q 1 .ld [.r 0] none <|
 .q 3 .lss [.r 1, .s 5] none <|
 .out [(0, .s 0), (3, .s 3), (5, .s 5), (34, .r 3)]
def e84r7 : EE := .out [(4, .c (.int .i64 9))]
def e84r8 : EE := .q 0 (.fld 1) [.s 3] none <|
 .q 1 .ld [.r 0] none <|
 .q 2 (.fld 2) [.s 3] none <|
 .q 3 .ld [.r 2] none <|
 .q 4 (.bld [z, z] [(0, 1), (1, 1)]) [.r 1, .r 3] none <|
 .x 5 (.alc [z, z] 80) [] none [] <|
 .x 6 (.st 2) [.r 5, .r 4] none [] <|
 .out [(0, .s 0), (3, .s 3), (5, .s 5), (6, .r 5)]
def e84r9 : EE := .q 0 (.fld 2) [.s 3] none <|
 .q 1 .ld [.r 0] none <|
 .q 3 .gtr [.r 1, .s 5] none <|
 .q 5 .mv [.s 0] (some (.r 3, true)) <|
 .q 6 (.lda 2) [.s 6] (some (.r 3, true)) <|
 .x 7 (.call 149) [.r 5, .r 6] (some (.r 3, true)) [] <|
 .q 8 .not [.r 7] (some (.r 3, true)) <|
 .q 9 .pick [.r 3, .r 8, .c (.bool false)] none <|
 .out [(0, .s 0), (3, .s 3), (6, .s 6), (49, .r 9)]
def e84r10 : EE := .q 1 .nl [.s 0] none <|
 .q 2 (.fld 4) [.r 1] none <|
 .q 3 .ld [.r 2] none <|
 .q 4 (.lda 7) [.s 3] none <|
 .both false
 (.x 5 (.call 150) [.r 3, .r 4] none [] <|
 .q 7 (.ext 0) [.r 5] none <|
 .q 8 (.ext 1) [.r 5] none <|
 .x 9 (.alc [z, z] 80) [] none [⟨3, .ld, [.r 2], none⟩, ⟨4, (.lda 7), [.s 3], none⟩] <|
 .x 10 (.st 2) [.r 9, .r 7] none [] <|
 .out [(0, .s 0), (6, .s 6), (8, .r 8)])
 (.x 9 (.alc [z, z] 80) [] none [⟨3, .ld, [.r 2], none⟩, ⟨4, (.lda 7), [.s 3], none⟩] <|
 .x 5 (.call 150) [.r 3, .r 4] none [] <|
 .q 7 (.ext 0) [.r 5] none <|
 .q 8 (.ext 1) [.r 5] none <|
 .x 10 (.st 2) [.r 9, .r 7] none [] <|
 .out [(0, .s 0), (6, .s 6), (8, .r 8)])
def e84r11 : EE := .q 1 .not [.s 8] none <|
 .out [(0, .s 0), (6, .s 6), (60, .r 1)]
def e84r12 : EE := .out [(4, .c (.int .i64 7))]
def e84r13 : EE := .q 1 .nl [.s 0] none <|
 .q 2 (.fld 71) [.r 1] none <|
 .q 3 .ld [.r 2] none <|
 .q 4 (.lda 2) [.s 6] none <|
 .x 5 (.call 151) [.r 3, .r 4] none [] <|
 .q 6 .not [.r 5] none <|
 .out [(0, .s 0), (6, .s 6), (67, .r 6)]
def e84r14 : EE := .q 2 .nl [.s 0] none <|
 .q 3 (.fld 71) [.r 2] none <|
 .q 4 .ld [.r 3] none <|
 .q 5 (.lda 2) [.s 6] none <|
 .x 6 (.bsl 80 1 [z, z] [(0, 2)]) [.r 5] none [⟨4, .ld, [.r 3], none⟩] <|
 .x 7 (.app 80 2 16 [z, z]) [.r 4, .r 6] none [] <|
 .q 8 .nl [.s 0] none <|
 .q 9 (.fld 71) [.r 8] none <|
 .x 10 (.st 1) [.r 9, .r 7] none [] <|
 .out [(0, .s 0)]
def e84r15 : EE := .x 1 (.call 41) [.s 0] none [] <|
 .out []
def e84r16 : EE := .out [(4, .c z)]
def e84 : EFn := ⟨(.seq (.reg e84r0 [0, 1] 0) (.seq (.seq (.reg e84r1 [0, 3] 0) (.cond (.s 12) (.seq (.reg e84r2 [] 0) .ret) .skip)) (.seq (.seq (.reg e84r3 [0, 3] 0) (.cond (.s 20) (.seq (.reg e84r4 [] 0) .ret) .skip)) (.seq (.reg e84r5 [0, 3] 0) (.seq (.seq (.reg e84r6 [0, 3, 5] 0) (.cond (.s 34) (.seq (.reg e84r7 [] 0) .ret) .skip)) (.seq (.reg e84r8 [0, 3, 5] 0) (.seq (.seq (.reg e84r9 [0, 3, 5, 6] 0) (.cond (.s 49) (.seq (.reg e84r10 [0, 3, 6] 11) (.seq (.reg e84r11 [0, 6, 8] 0) (.cond (.s 60) (.seq (.reg e84r12 [] 0) .ret) .skip))) .skip)) (.seq (.seq (.reg e84r13 [0, 6] 0) (.cond (.s 67) (.reg e84r14 [0, 6] 0) .skip)) (.seq (.reg e84r15 [0] 0) (.seq (.reg e84r16 [] 0) .ret)))))))))), [.slot 4], 80, 0⟩
theorem g84 : Good Tryz.prog 84 e84 := ⟨Tryz.f84, Tryz.func84, by kernel_rfl, by kernel_rfl, by kernel_rfl, by kernel_rfl⟩
/-! concord/letter.Right -/
def e85r0 : EE := .x 0 (.box 88) [.s 0] none [] <|
 .out [(1, .r 0)]
def e85r1 : EE := .q 0 (.fld 0) [.s 1] none <|
 .q 1 .ld [.r 0] none <|
 .x 2 (.call 152) [.r 1] none [] <|
 .q 4 (.ext 0) [.r 2] none <|
 .q 5 (.ext 1) [.r 2] none <|
 .x 6 (.alc [(.bool false), (.bool false), (.bool false), (.bool false), (.bool false), (.bool false), (.bool false)] 254) [] none [] <|
 .x 7 (.st 7) [.r 6, .r 4] none [] <|
 .out [(1, .s 1), (3, .r 6), (4, .r 5)]
def e85r2 : EE := .q 1 .not [.s 4] none <|
 .q 3 (.fld 1) [.s 1] (some (.r 1, false)) <|
 .q 4 .ld [.r 3] (some (.r 1, false)) <|
 .x 5 (.call 153) [.r 4] (some (.r 1, false)) [] <|
 .q 6 .not [.r 5] (some (.r 1, false)) <|
 .q 7 .pick [.r 1, .c (.bool true), .r 6] none <|
 .q 9 (.fld 2) [.s 1] (some (.r 7, false)) <|
 .q 10 .ld [.r 9] (some (.r 7, false)) <|
 .x 11 (.call 153) [.r 10] (some (.r 7, false)) [] <|
 .q 12 .not [.r 11] (some (.r 7, false)) <|
 .q 13 .pick [.r 7, .c (.bool true), .r 12] none <|
 .q 15 (.fld 1) [.s 1] (some (.r 13, false)) <|
 .q 16 .ld [.r 15] (some (.r 13, false)) <|
 .q 17 (.fld 2) [.s 1] (some (.r 13, false)) <|
 .q 18 .ld [.r 17] (some (.r 13, false)) <|
 .q 19 .eql [.r 16, .r 18] (some (.r 13, false)) <|
 .q 20 .pick [.r 13, .c (.bool true), .r 19] none <|
 .q 22 (.lda 51) [.s 1] (some (.r 20, false)) <|
 .q 23 (.lda 51) [.s 1] (some (.r 20, false)) <|
 .q 24 (.lda 7) [.s 3] (some (.r 20, false)) <|
 .x 25 (.call 154) [.r 23, .r 24] (some (.r 20, false)) [⟨22, (.lda 51), [.s 1], (some (.r 20, false))⟩] <|
 .q 26 (.eqc true [(.i .i64), (.i .i64), (.i .i64), (.i .i64), (.i .i64), (.i .i64), (.i .i64), (.i .i64), (.i .i64), (.i .i64), .s, .s, .s, .s, (.i .i64), (.i .i64), (.i .i64), (.i .i64), (.i .i64), (.i .i64), (.i .i64), (.i .i64), (.i .i64), (.i .i64), (.i .i64), (.i .i64), (.i .i64), (.i .i64), (.i .i64), (.i .i64), .s, .s, .s, .s, (.i .i64), (.i .i64), (.i .i64), (.i .i64), (.i .i64), (.i .i64), (.i .i64), (.i .i64), .b, (.i .i64), (.i .i64), (.i .i64), (.i .i64), (.i .i64), (.i .i64), (.i .i64), .s]) [.r 22, .r 25] (some (.r 20, false)) <|
 .q 27 .pick [.r 20, .c (.bool true), .r 26] none <|
 .out [(1, .s 1), (3, .s 3), (38, .r 27)]
def e85r3 : EE := .out [(2, .c (.bool false))]
def e85r4 : EE := .q 0 (.fld 0) [.s 3] none <|
 .q 1 .ld [.r 0] none <|
 .q 3 (.fld 3) [.s 1] (some (.r 1, true)) <|
 .q 4 (.lda 2) [.r 3] (some (.r 1, true)) <|
 .x 5 (.call 122) [.r 4] (some (.r 1, true)) [] <|
 .q 6 .not [.r 5] (some (.r 1, true)) <|
 .q 7 .pick [.r 1, .r 6, .c (.bool false)] none <|
 .q 9 (.fld 5) [.s 1] (some (.r 7, false)) <|
 .q 10 (.lda 2) [.r 9] (some (.r 7, false)) <|
 .x 11 (.call 155) [.r 10] (some (.r 7, false)) [] <|
 .q 12 .not [.r 11] (some (.r 7, false)) <|
 .q 13 .pick [.r 7, .c (.bool true), .r 12] none <|
 .q 15 (.fld 7) [.s 1] (some (.r 13, false)) <|
 .q 16 (.lda 7) [.r 15] (some (.r 13, false)) <|
 .x 17 (.call 83) [.r 16] (some (.r 13, false)) [] <|
 .q 18 .not [.r 17] (some (.r 13, false)) <|
 .q 19 .pick [.r 13, .c (.bool true), .r 18] none <|
 .q 21 (.fld 14) [.s 1] (some (.r 19, false)) <|
 .q 22 (.lda 8) [.r 21] (some (.r 19, false)) <|
 .x 23 (.call 66) [.r 22] (some (.r 19, false)) [] <|
 .q 24 .not [.r 23] (some (.r 19, false)) <|
 .q 25 .pick [.r 19, .c (.bool true), .r 24] none <|
 .q 27 (.fld 22) [.s 1] (some (.r 25, false)) <|
 .q 28 (.lda 21) [.r 27] (some (.r 25, false)) <|
 .x 29 (.call 124) [.r 28] (some (.r 25, false)) [] <|
 .q 30 .not [.r 29] (some (.r 25, false)) <|
 .q 31 .pick [.r 25, .c (.bool true), .r 30] none <|
 .out [(1, .s 1), (70, .r 31)]
def e85r5 : EE := .out [(2, .c (.bool false))]
def e85r6 : EE := .q 0 (.fld 43) [.s 1] none <|
 .q 1 (.lda 7) [.r 0] none <|
 .q 2 (.bld [z, z, z, z, z, z, z, z] [(1, 7)]) [.r 1] none <|
 .x 3 (.call 66) [.r 2] none [] <|
 .q 5 (.fld 50) [.s 1] (some (.r 3, true)) <|
 .q 6 .ld [.r 5] (some (.r 3, true)) <|
 .q 7 .lenz [.r 6] (some (.r 3, true)) <|
 .q 8 .leq [.r 7, .c (.int .i64 16384)] (some (.r 3, true)) <|
 .q 9 .pick [.r 3, .r 8, .c (.bool false)] none <|
 .out [(2, .r 9)]
def e85 : EFn := ⟨(.seq (.reg e85r0 [0] 0) (.seq (.reg e85r1 [1] 0) (.seq (.seq (.reg e85r2 [1, 3, 4] 0) (.cond (.s 38) (.seq (.reg e85r3 [] 0) .ret) .skip)) (.seq (.seq (.reg e85r4 [1, 3] 0) (.cond (.s 70) (.seq (.reg e85r5 [] 0) .ret) .skip)) (.seq (.reg e85r6 [1] 0) .ret))))), [.slot 2], 81, 0⟩
theorem g85 : Good Tryz.prog 85 e85 := ⟨Tryz.f85, Tryz.func85, by kernel_rfl, by kernel_rfl, by kernel_rfl, by kernel_rfl⟩
/-! (*concord/core.Core).Take -/
def e88r0 : EE := .x 0 (.box 88) [.s 1] none [] <|
 .out [(0, .s 0), (3, .r 0)]
def e88r1 : EE := .q 0 (.lda 51) [.s 3] none <|
 .x 1 (.call 85) [.r 0] none [] <|
 .q 2 .not [.r 1] none <|
 .q 4 (.fld 2) [.s 3] (some (.r 2, false)) <|
 .q 5 .ld [.r 4] (some (.r 2, false)) <|
 .q 6 .mv [.s 0] (some (.r 2, false)) <|
 .q 7 .nl [.r 6] (some (.r 2, false)) <|
 .q 8 (.fld 1) [.r 7] (some (.r 2, false)) <|
 .q 9 .ld [.r 8] (some (.r 2, false)) <|
 .q 10 .neq [.r 5, .r 9] (some (.r 2, false)) <|
 .q 11 .pick [.r 2, .c (.bool true), .r 10] none <|
 .q 13 .mv [.s 0] (some (.r 11, false)) <|
 .q 14 (.fld 1) [.s 3] (some (.r 11, false)) <|
 .q 15 .ld [.r 14] (some (.r 11, false)) <|
 .x 16 (.call 157) [.r 13, .r 15] (some (.r 11, false)) [] <|
 .q 17 .not [.r 16] (some (.r 11, false)) <|
 .q 18 .pick [.r 11, .c (.bool true), .r 17] none <|
 .q 20 (.fld 0) [.s 3] (some (.r 18, false)) <|
 .q 21 .ld [.r 20] (some (.r 18, false)) <|
 .q 22 .geq [.r 21, .c (.int .i64 9)] (some (.r 18, false)) <|
 .q 23 .pick [.r 18, .c (.bool true), .r 22] none <|
 .q 25 .mv [.s 0] (some (.r 23, false)) <|
 .q 26 (.fld 3) [.s 3] (some (.r 23, false)) <|
 .q 27 (.fld 0) [.r 26] (some (.r 23, false)) <|
 .q 28 .ld [.r 27] (some (.r 23, false)) <|
 .x 29 (.call 157) [.r 25, .r 28] (some (.r 23, false)) [] <|
 .q 30 .not [.r 29] (some (.r 23, false)) <|
 .q 31 .pick [.r 23, .c (.bool true), .r 30] none <|
 .out [(0, .s 0), (3, .s 3), (37, .r 31)]
def e88r2 : EE := .out [(4, .c (.bool false))]
def e88r3 : EE := .q 0 (.fld 0) [.s 3] none <|
 .q 1 .ld [.r 0] none <|
 .q 2 .eql [.r 1, .c (.int .i64 1)] none <|
 .q 4 (.fld 0) [.s 3] (some (.r 2, false)) <|
 .q 5 .ld [.r 4] (some (.r 2, false)) <|
 .q 6 .eql [.r 5, .c (.int .i64 3)] (some (.r 2, false)) <|
 .q 7 .pick [.r 2, .c (.bool true), .r 6] none <|
 .q 9 (.fld 0) [.s 3] (some (.r 7, false)) <|
 .q 10 .ld [.r 9] (some (.r 7, false)) <|
 .q 11 .eql [.r 10, .c (.int .i64 6)] (some (.r 7, false)) <|
 .q 12 .pick [.r 7, .c (.bool true), .r 11] none <|
 .out [(0, .s 0), (3, .s 3), (5, .r 12)]
def e88r4 : EE := .q 1 .nl [.s 0] none <|
 .q 2 (.fld 2) [.r 1] none <|
 .q 3 .ld [.r 2] none <|
 .q 4 (.fld 3) [.s 3] none <|
 .q 5 (.lda 2) [.r 4] none <|
 .x 6 (.call 123) [.r 3, .r 5] none [] <|
 .out [(0, .s 0), (3, .s 3), (5, .s 5), (57, .r 6)]
def e88r5 : EE := .out [(4, .s 5)]
def e88r6 : EE := .out [(0, .s 0), (3, .s 3), (62, .s 5)]
def e88r7 : EE := .q 1 (.lda 51) [.s 3] none <|
 .x 2 (.call 158) [.s 0, .r 1] none [] <|
 .out []
def e88r8 : EE := .q 0 (.fld 0) [.s 3] none <|
 .q 1 .ld [.r 0] none <|
 .q 2 .eql [.r 1, .c (.int .i64 5)] none <|
 .out [(0, .s 0), (3, .s 3), (67, .r 2)]
def e88r9 : EE := .q 1 (.lda 51) [.s 3] none <|
 .x 2 (.call 159) [.s 0, .r 1] none [] <|
 .out []
def e88r10 : EE := .q 0 (.fld 0) [.s 3] none <|
 .q 1 .ld [.r 0] none <|
 .q 2 .eql [.r 1, .c (.int .i64 8)] none <|
 .out [(0, .s 0), (3, .s 3), (74, .r 2)]
def e88r11 : EE := .q 1 (.lda 51) [.s 3] none <|
 .x 2 (.call 160) [.s 0, .r 1] none [] <|
 .out []
def e88r12 : EE := .q 1 (.lda 51) [.s 3] none <|
 .x 2 (.call 161) [.s 0, .r 1] none [] <|
 .out []
def e88r13 : EE := .out [(4, .c (.bool false))]
def e88 : EFn := ⟨(.seq (.reg e88r0 [0, 1] 0) (.seq (.seq (.reg e88r1 [0, 3] 0) (.cond (.s 37) (.seq (.reg e88r2 [] 0) .ret) .skip)) (.seq (.reg e88r3 [0, 3] 0) (.seq (.seq (.reg e88r4 [0, 3, 5] 0) (.cond (.s 57) (.seq (.reg e88r5 [5] 0) .ret) .skip)) (.seq (.block 0 (.seq (.reg e88r6 [0, 3, 5] 0) (.cond (.s 62) (.reg e88r7 [0, 3] 0) (.seq (.reg e88r8 [0, 3] 0) (.cond (.s 67) (.reg e88r9 [0, 3] 0) (.seq (.reg e88r10 [0, 3] 0) (.cond (.s 74) (.reg e88r11 [0, 3] 0) (.reg e88r12 [0, 3] 0)))))))) (.seq (.reg e88r13 [] 0) .ret)))))), [.slot 4], 81, 0⟩
theorem g88 : Good Tryz.prog 88 e88 := ⟨Tryz.f88, Tryz.func88, by kernel_rfl, by kernel_rfl, by kernel_rfl, by kernel_rfl⟩
/-! (*concord/core.Core).weigh -/
def e91r0 : EE := .out [(0, .s 0), (1, .s 1), (2, .s 2)]
def e91r1 : EE := .q 1 .nl [.s 0] none <|
 .q 2 (.fld 0) [.r 1] none <|
 .q 3 .ld [.r 2] none <|
 .q 5 .nl [.s 1] none <|
 .q 6 (.fld 5) [.r 5] none <|
 .q 7 .ld [.r 6] none <|
 .q 9 .nl [.s 1] none <|
 .q 10 (.fld 13) [.r 9] none <|
 .q 11 (.lda 8) [.r 10] none <|
 .q 13 .nl [.s 1] none <|
 .q 14 (.fld 28) [.r 13] none <|
 .q 15 .ld [.r 14] none <|
 .both false
 (.x 17 (.call 162) [.r 3, .r 7, .r 11, .r 15, .s 2] none [] <|
 .q 19 (.ext 0) [.r 17] none <|
 .q 20 (.ext 1) [.r 17] none <|
 .x 21 (.alc [z, z, z, z, z, z, z, z] 84) [] none [⟨3, .ld, [.r 2], none⟩, ⟨7, .ld, [.r 6], none⟩, ⟨11, (.lda 8), [.r 10], none⟩, ⟨15, .ld, [.r 14], none⟩] <|
 .x 23 (.st 8) [.r 21, .r 20] none [] <|
 .out [(0, .s 0), (1, .s 1), (7, .r 19), (8, .r 21)])
 (.x 21 (.alc [z, z, z, z, z, z, z, z] 84) [] none [⟨3, .ld, [.r 2], none⟩, ⟨7, .ld, [.r 6], none⟩, ⟨11, (.lda 8), [.r 10], none⟩, ⟨15, .ld, [.r 14], none⟩] <|
 .x 17 (.call 162) [.r 3, .r 7, .r 11, .r 15, .s 2] none [] <|
 .q 19 (.ext 0) [.r 17] none <|
 .q 20 (.ext 1) [.r 17] none <|
 .x 23 (.st 8) [.r 21, .r 20] none [] <|
 .out [(0, .s 0), (1, .s 1), (7, .r 19), (8, .r 21)])
def e91r2 : EE := .out [(0, .s 0), (1, .s 1), (8, .s 8), (30, .s 7)]
def e91r3 : EE := .q 0 .eql [.s 30, .c (.int .i64 1)] none <|
 .out [(0, .s 0), (1, .s 1), (8, .s 8), (30, .s 30), (31, .r 0)]
def e91r4 : EE := .q 2 .nl [.s 1] none <|
 .q 3 (.fld 0) [.r 2] none <|
 .q 4 (.lda 2) [.r 3] none <|
 .q 6 .nl [.s 1] none <|
 .q 7 (.fld 6) [.r 6] none <|
 .q 8 (.lda 7) [.r 7] none <|
 .q 9 (.lda 8) [.s 8] none <|
 .x 10 (.call 163) [.s 0, .r 4, .r 8, .r 9] none [] <|
 .out []
def e91r5 : EE := .q 0 .eql [.s 30, .c (.int .i64 2)] none <|
 .out [(0, .s 0), (1, .s 1), (8, .s 8), (44, .r 0)]
def e91r6 : EE := .q 3 .nl [.s 1] none <|
 .q 4 (.fld 6) [.r 3] none <|
 .q 5 (.lda 7) [.r 4] none <|
 .q 6 (.lda 8) [.s 8] none <|
 .x 7 (.call 164) [.s 0, .s 1, .r 5, .r 6] none [] <|
 .out []
def e91r7 : EE := .out [(6, .c (.bool false))]
def e91r8 : EE := .out [(6, .c (.bool true))]
def e91 : EFn := ⟨(.seq (.reg e91r0 [0, 1, 2] 0) (.seq (.reg e91r1 [0, 1, 2] 24) (.seq (.seq (.reg e91r2 [0, 1, 7, 8] 0) (.block 0 (.seq (.reg e91r3 [0, 1, 8, 30] 0) (.cond (.s 31) (.reg e91r4 [0, 1, 8] 0) (.seq (.reg e91r5 [0, 1, 8, 30] 0) (.cond (.s 44) (.reg e91r6 [0, 1, 8] 0) (.seq (.reg e91r7 [] 0) .ret))))))) (.seq (.reg e91r8 [] 0) .ret)))), [.slot 6], 54, 0⟩
theorem g91 : Good Tryz.prog 91 e91 := ⟨Tryz.f91, Tryz.func91, by kernel_rfl, by kernel_rfl, by kernel_rfl, by kernel_rfl⟩
/-! (*concord/core.Core).all -/
def e92r0 : EE := .x 0 (.box 88) [.s 1] none [] <|
 .x 1 (.box 37) [.s 2] none [] <|
 .out [(0, .s 0), (4, .r 0), (5, .r 1)]
def e92r1 : EE := .q 1 .nl [.s 0] none <|
 .q 2 (.fld 0) [.r 1] none <|
 .q 3 .ld [.r 2] none <|
 .out [(0, .s 0), (4, .s 4), (5, .s 5), (10, .r 3), (11, .c z)]
def e92r2 : EE := .q 0 .lss [.s 11, .s 10] none <|
 .out [(0, .s 0), (4, .s 4), (5, .s 5), (10, .s 10), (11, .s 11), (12, .r 0)]
def e92r3 : EE := .out [(0, .s 0), (4, .s 4), (5, .s 5), (6, .s 11), (10, .s 10), (11, .s 11)]
def e92r4 : EE := .q 2 .nl [.s 0] none <|
 .q 3 (.fld 1) [.r 2] none <|
 .q 4 .ld [.r 3] none <|
 .q 5 .neq [.s 6, .r 4] none <|
 .q 7 .mv [.s 6] (some (.r 5, true)) <|
 .q 8 (.ixa 7 1) [.s 5, .r 7] (some (.r 5, true)) <|
 .q 9 .ld [.r 8] (some (.r 5, true)) <|
 .q 10 .eql [.r 9, .c z] (some (.r 5, true)) <|
 .q 11 .pick [.r 5, .r 10, .c (.bool false)] none <|
 .out [(0, .s 0), (4, .s 4), (5, .s 5), (6, .s 6), (10, .s 10), (11, .s 11), (25, .r 11)]
def e92r5 : EE := .q 2 (.lda 51) [.s 4] none <|
 .x 3 (.call 165) [.s 0, .s 6, .r 2] none [] <|
 .out [(0, .s 0), (4, .s 4), (5, .s 5), (10, .s 10), (11, .s 11)]
def e92r6 : EE := .q 0 .add [.s 11, .c (.int .i64 1)] none <|
 .out [(0, .s 0), (4, .s 4), (5, .s 5), (10, .s 10), (11, .r 0)]
def e92l7 : EC := (.seq (.reg e92r2 [0, 4, 5, 10, 11] 0) (.seq (.cond (.s 12) .skip (.exit 0)) (.seq (.block 1 (.seq (.reg e92r3 [0, 4, 5, 10, 11] 0) (.seq (.reg e92r4 [0, 4, 5, 6, 10, 11] 0) (.cond (.s 25) (.reg e92r5 [0, 4, 5, 6, 10, 11] 0) .skip)))) (.reg e92r6 [0, 4, 5, 10, 11] 0))))
def e92 : EFn := ⟨(.seq (.reg e92r0 [0, 1, 2] 0) (.seq (.reg e92r1 [0, 4, 5] 0) (.block 0 (.loop [0, 4, 5, 10, 11] e92l7)))), [], 31, 0⟩
theorem g92 : Good Tryz.prog 92 e92 := ⟨Tryz.f92, Tryz.func92, by kernel_rfl, by kernel_rfl, by kernel_rfl, by kernel_rfl⟩
/-! (*concord/core.lead).ask -/
def e93r0 : EE := .x 0 (.alc [z, z, z, z, z, z, z, z, z, z, zs, zs, zs, zs, z, z, z, z, z, z, z, z, z, z, z, z, z, z, z, z, zs, zs, zs, zs, z, z, z, z, z, z, z, z, (.bool false), z, z, z, z, z, z, z, zs] 88) [] none [] <|
 .out [(0, .s 0), (2, .r 0)]
def e93r1 : EE := .q 1 .nl [.s 0] none <|
 .q 2 (.fld 0) [.r 1] none <|
 .q 3 (.lda 2) [.r 2] none <|
 .q 5 .nl [.s 0] none <|
 .q 6 (.fld 3) [.r 5] none <|
 .q 7 (.lda 2) [.r 6] none <|
 .q 8 (.bld [z, z, z, z, z, z, z, z, z, z, zs, zs, zs, zs, z, z, z, z, z, z, z, z, z, z, z, z, z, z, z, z, zs, zs, zs, zs, z, z, z, z, z, z, z, z, (.bool false), z, z, z, z, z, z, z, zs] [(3, 2), (5, 2)]) [.r 3, .r 7] none <|
 .x 9 (.alc [z, z, z, z, z, z, z, z, z, z, zs, zs, zs, zs, z, z, z, z, z, z, z, z, z, z, z, z, z, z, z, z, zs, zs, zs, zs, z, z, z, z, z, z, z, z, (.bool false), z, z, z, z, z, z, z, zs] 88) [] none [⟨3, (.lda 2), [.r 2], none⟩, ⟨7, (.lda 2), [.r 6], none⟩] <|
 .x 10 (.st 51) [.r 9, .r 8] none [] <|
 .out [(0, .s 0), (2, .s 2), (3, .r 9)]
def e93r2 : EE := .q 1 .nl [.s 0] none <|
 .q 2 (.fld 2) [.r 1] none <|
 .q 3 .ld [.r 2] none <|
 .out [(0, .s 0), (2, .s 2), (3, .s 3), (16, .r 3)]
def e93r3 : EE := .q 0 .eql [.s 16, .c z] none <|
 .out [(0, .s 0), (2, .s 2), (3, .s 3), (16, .s 16), (18, .r 0)]
def e93r4 : EE := .q 1 .nl [.s 0] none <|
 .q 2 (.fld 6) [.r 1] none <|
 .q 3 (.lda 7) [.r 2] none <|
 .q 5 .nl [.s 0] none <|
 .q 6 (.fld 13) [.r 5] none <|
 .q 7 (.lda 8) [.r 6] none <|
 .q 8 (.fld 0) [.s 3] none <|
 .x 9 (.st 1) [.r 8, .c (.int .i64 1)] none [⟨3, (.lda 7), [.r 2], none⟩, ⟨7, (.lda 8), [.r 6], none⟩] <|
 .q 10 (.fld 7) [.s 3] none <|
 .x 11 (.st 7) [.r 10, .r 3] none [⟨7, (.lda 8), [.r 6], none⟩] <|
 .q 12 (.fld 14) [.s 3] none <|
 .x 13 (.st 8) [.r 12, .r 7] none [] <|
 .out [(2, .s 2), (3, .s 3)]
def e93r5 : EE := .q 0 .eql [.s 16, .c (.int .i64 1)] none <|
 .out [(0, .s 0), (2, .s 2), (3, .s 3), (31, .r 0)]
def e93r6 : EE := .q 1 .nl [.s 0] none <|
 .q 2 (.fld 6) [.r 1] none <|
 .q 3 (.lda 7) [.r 2] none <|
 .q 5 .nl [.s 0] none <|
 .q 6 (.fld 13) [.r 5] none <|
 .q 7 (.lda 8) [.r 6] none <|
 .q 8 (.fld 0) [.s 3] none <|
 .x 9 (.st 1) [.r 8, .c (.int .i64 3)] none [⟨3, (.lda 7), [.r 2], none⟩, ⟨7, (.lda 8), [.r 6], none⟩] <|
 .q 10 (.fld 7) [.s 3] none <|
 .x 11 (.st 7) [.r 10, .r 3] none [⟨7, (.lda 8), [.r 6], none⟩] <|
 .q 12 (.fld 14) [.s 3] none <|
 .x 13 (.st 8) [.r 12, .r 7] none [] <|
 .out [(2, .s 2), (3, .s 3)]
def e93r7 : EE := .q 0 (.fld 0) [.s 3] none <|
 .x 1 (.st 1) [.r 0, .c (.int .i64 6)] none [] <|
 .out [(2, .s 2), (3, .s 3)]
def e93r8 : EE := .q 0 (.lda 51) [.s 3] none <|
 .x 1 (.st 51) [.s 2, .r 0] none [] <|
 .out [(2, .s 2)]
def e93 : EFn := ⟨(.seq (.reg e93r0 [0] 0) (.seq (.reg e93r1 [0, 2] 0) (.seq (.seq (.reg e93r2 [0, 2, 3] 0) (.block 0 (.seq (.reg e93r3 [0, 2, 3, 16] 0) (.cond (.s 18) (.reg e93r4 [0, 2, 3] 0) (.seq (.reg e93r5 [0, 2, 3, 16] 0) (.cond (.s 31) (.reg e93r6 [0, 2, 3] 0) (.reg e93r7 [2, 3] 0))))))) (.seq (.reg e93r8 [2, 3] 0) .ret)))), [.cells 2 51], 45, 0⟩
theorem g93 : Good Tryz.prog 93 e93 := ⟨Tryz.f93, Tryz.func93, by kernel_rfl, by kernel_rfl, by kernel_rfl, by kernel_rfl⟩
/-! (*concord/log.Log).List -/
def e94r0 : EE := .out [(0, .s 0)]
def e94r1 : EE := .out [(0, .s 0), (3, .c .nsl)]
def e94r2 : EE := .q 1 .nl [.s 0] none <|
 .q 2 (.fld 0) [.r 1] none <|
 .q 3 .ld [.r 2] none <|
 .x 4 .rng [.r 3] none [] <|
 .out [(3, .s 3), (9, .r 4)]
def e94r3 : EE := .x 0 .nxt [.s 9] none [] <|
 .q 1 (.ext 0) [.r 0] none <|
 .out [(3, .s 3), (9, .s 9), (11, .r 1)]
def e94r4 : EE := .q 0 .ent [.s 9] none <|
 .q 1 (.ext 0) [.r 0] none <|
 .x 2 (.alc [z, z] 80) [] none [] <|
 .x 3 (.st 2) [.r 2, .r 1] none [] <|
 .out [(3, .s 3), (4, .r 2), (9, .s 9)]
def e94r5 : EE := .q 1 (.lda 2) [.s 4] none <|
 .x 2 (.bsl 80 1 [z, z] [(0, 2)]) [.r 1] none [] <|
 .x 3 (.app 80 2 16 [z, z]) [.s 3, .r 2] none [] <|
 .out [(3, .r 3), (9, .s 9)]
def e94l6 : EC := (.seq (.reg e94r3 [3, 9] 0) (.seq (.cond (.s 11) .skip (.exit 0)) (.block 1 (.seq (.reg e94r4 [3, 9] 0) (.reg e94r5 [3, 4, 9] 0)))))
def e94r7 : EE := .x 1 (.call 166) [.s 3, .f 167] none [] <|
 .out [(3, .s 3)]
def e94r8 : EE := .out [(2, .s 3)]
def e94 : EFn := ⟨(.seq (.reg e94r0 [0] 0) (.seq (.reg e94r1 [0] 0) (.seq (.seq (.reg e94r2 [0, 3] 0) (.block 0 (.loop [3, 9] e94l6))) (.seq (.reg e94r7 [3] 0) (.seq (.reg e94r8 [3] 0) .ret))))), [.slot 2], 21, 0⟩
theorem g94 : Good Tryz.prog 94 e94 := ⟨Tryz.f94, Tryz.func94, by kernel_rfl, by kernel_rfl, by kernel_rfl, by kernel_rfl⟩
/-! (*concord/log.Log).Cell -/
def e95r0 : EE := .x 0 (.box 80) [.s 1] none [] <|
 .x 1 (.alc [z, z, z, z, z, z, z, z, zs, zs, zs, zs, z, z, z, z, z, z, z, z, (.bool false)] 86) [] none [] <|
 .out [(0, .s 0), (3, .r 0), (4, .r 1)]
def e95r1 : EE := .q 1 .nl [.s 0] none <|
 .q 2 (.fld 0) [.r 1] none <|
 .q 3 .ld [.r 2] none <|
 .q 4 (.lda 2) [.s 3] none <|
 .q 5 (.lkp true [(.i .i64), (.i .i64)] (.agg [z, z, z, z, z, z, z, z, zs, zs, zs, zs, z, z, z, z, z, z, z, z, (.bool false)]) true) [.r 3, .r 4] none <|
 .q 7 (.ext 0) [.r 5] none <|
 .q 8 (.ext 1) [.r 5] none <|
 .x 9 (.alc [z, z, z, z, z, z, z, z, zs, zs, zs, zs, z, z, z, z, z, z, z, z, (.bool false)] 86) [] none [⟨3, .ld, [.r 2], none⟩, ⟨4, (.lda 2), [.s 3], none⟩, ⟨5, (.lkp true [(.i .i64), (.i .i64)] (.agg [z, z, z, z, z, z, z, z, zs, zs, zs, zs, z, z, z, z, z, z, z, z, (.bool false)]) true), [.r 3, .r 4], none⟩] <|
 .x 10 (.st 21) [.r 9, .r 7] none [] <|
 .out [(4, .s 4), (6, .r 9), (7, .r 8)]
def e95r2 : EE := .q 1 .not [.s 7] none <|
 .out [(4, .s 4), (6, .s 6), (18, .r 1)]
def e95r3 : EE := .q 0 (.bld [z, z, z, z, z, z, z, z, zs, zs, zs, zs, z, z, z, z, z, z, z, z, (.bool false)] []) [] none <|
 .x 1 (.st 21) [.s 4, .r 0] none [] <|
 .out [(4, .s 4), (5, .c (.bool false))]
def e95r4 : EE := .q 0 (.lda 21) [.s 6] none <|
 .x 1 (.st 21) [.s 4, .r 0] none [] <|
 .out [(4, .s 4), (5, .c (.bool true))]
def e95 : EFn := ⟨(.seq (.reg e95r0 [0, 1] 0) (.seq (.reg e95r1 [0, 3, 4] 0) (.seq (.seq (.reg e95r2 [4, 6, 7] 0) (.cond (.s 18) (.seq (.reg e95r3 [4] 0) .ret) .skip)) (.seq (.reg e95r4 [4, 6] 0) .ret)))), [.cells 4 21, .slot 5], 21, 0⟩
theorem g95 : Good Tryz.prog 95 e95 := ⟨Tryz.f95, Tryz.func95, by kernel_rfl, by kernel_rfl, by kernel_rfl, by kernel_rfl⟩
/-! (*concord/core.Core).find -/
def e96r0 : EE := .x 0 (.box 80) [.s 1] none [] <|
 .out [(0, .s 0), (3, .r 0)]
def e96r1 : EE := .q 1 .nl [.s 0] none <|
 .q 2 (.fld 4) [.r 1] none <|
 .q 3 .ld [.r 2] none <|
 .q 4 .len [.r 3] none <|
 .out [(3, .s 3), (10, .r 3), (11, .r 4), (12, .c z)]
def e96r2 : EE := .q 0 .lss [.s 12, .s 11] none <|
 .out [(3, .s 3), (10, .s 10), (11, .s 11), (12, .s 12), (13, .r 0)]
def e96r3 : EE := .q 0 (.ixs 1) [.s 10, .s 12] none <|
 .q 1 .ld [.r 0] none <|
 .out [(3, .s 3), (6, .r 1), (10, .s 10), (11, .s 11), (12, .s 12)]
def e96r4 : EE := .q 1 .nl [.s 6] none <|
 .q 2 (.fld 0) [.r 1] none <|
 .q 3 (.lda 2) [.r 2] none <|
 .q 4 (.lda 2) [.s 3] none <|
 .q 5 (.eqc false [(.i .i64), (.i .i64)]) [.r 3, .r 4] none <|
 .out [(3, .s 3), (6, .s 6), (10, .s 10), (11, .s 11), (12, .s 12), (21, .r 5)]
def e96r5 : EE := .out [(4, .s 6)]
def e96r6 : EE := .q 0 .add [.s 12, .c (.int .i64 1)] none <|
 .out [(3, .s 3), (10, .s 10), (11, .s 11), (12, .r 0)]
def e96l7 : EC := (.seq (.reg e96r2 [3, 10, 11, 12] 0) (.seq (.cond (.s 13) .skip (.exit 0)) (.seq (.block 1 (.seq (.reg e96r3 [3, 10, 11, 12] 0) (.seq (.reg e96r4 [3, 6, 10, 11, 12] 0) (.cond (.s 21) (.seq (.reg e96r5 [6] 0) .ret) .skip)))) (.reg e96r6 [3, 10, 11, 12] 0))))
def e96r8 : EE := .out [(4, .c .nptr)]
def e96 : EFn := ⟨(.seq (.reg e96r0 [0, 1] 0) (.seq (.seq (.reg e96r1 [0, 3] 0) (.block 0 (.loop [3, 10, 11, 12] e96l7))) (.seq (.reg e96r8 [] 0) .ret))), [.slot 4], 24, 0⟩
theorem g96 : Good Tryz.prog 96 e96 := ⟨Tryz.f96, Tryz.func96, by kernel_rfl, by kernel_rfl, by kernel_rfl, by kernel_rfl⟩
/-! (*concord/disk.Disk).find -/
def e103r0 : EE := .out [(0, .s 0), (1, .s 1)]
def e103r1 : EE := .q 1 .nl [.s 0] none <|
 .q 2 (.fld 1) [.r 1] none <|
 .q 3 .ld [.r 2] none <|
 .q 4 .len [.r 3] none <|
 .out [(0, .s 0), (1, .s 1), (11, .r 3), (12, .r 4), (13, .c z)]
def e103r2 : EE := .q 0 .lss [.s 13, .s 12] none <|
 .out [(0, .s 0), (1, .s 1), (11, .s 11), (12, .s 12), (13, .s 13), (14, .r 0)]
def e103r3 : EE := .q 1 (.ixs 3) [.s 11, .s 13] none <|
 .q 2 (.lda 3) [.r 1] none <|
 .x 3 (.alc [zs, .nsl, z] 130) [] none [] <|
 .x 5 (.st 3) [.r 3, .r 2] none [] <|
 .out [(0, .s 0), (1, .s 1), (6, .s 13), (7, .r 3), (11, .s 11), (12, .s 12), (13, .s 13)]
def e103r4 : EE := .q 0 (.fld 0) [.s 7] none <|
 .q 1 .ld [.r 0] none <|
 .q 3 .sgeq [.r 1, .s 1] none <|
 .out [(0, .s 0), (1, .s 1), (6, .s 6), (7, .s 7), (11, .s 11), (12, .s 12), (13, .s 13), (21, .r 3)]
def e103r5 : EE := .q 1 (.fld 0) [.s 7] none <|
 .q 2 .ld [.r 1] none <|
 .q 4 .seql [.r 2, .s 1] none <|
 .out [(4, .s 6), (5, .r 4)]
def e103r6 : EE := .q 0 .add [.s 13, .c (.int .i64 1)] none <|
 .out [(0, .s 0), (1, .s 1), (11, .s 11), (12, .s 12), (13, .r 0)]
def e103l7 : EC := (.seq (.reg e103r2 [0, 1, 11, 12, 13] 0) (.seq (.cond (.s 14) .skip (.exit 0)) (.seq (.block 1 (.seq (.reg e103r3 [0, 1, 11, 12, 13] 0) (.seq (.reg e103r4 [0, 1, 6, 7, 11, 12, 13] 0) (.cond (.s 21) (.seq (.reg e103r5 [1, 6, 7] 0) .ret) .skip)))) (.reg e103r6 [0, 1, 11, 12, 13] 0))))
def e103r8 : EE := .q 1 .nl [.s 0] none <|
 .q 2 (.fld 1) [.r 1] none <|
 .q 3 .ld [.r 2] none <|
 .q 4 .len [.r 3] none <|
 .out [(4, .r 4), (5, .c (.bool false))]
def e103 : EFn := ⟨(.seq (.reg e103r0 [0, 1] 0) (.seq (.seq (.reg e103r1 [0, 1] 0) (.block 0 (.loop [0, 1, 11, 12, 13] e103l7))) (.seq (.reg e103r8 [0] 0) .ret))), [.slot 4, .slot 5], 33, 0⟩
theorem g103 : Good Tryz.prog 103 e103 := ⟨Tryz.f103, Tryz.func103, by kernel_rfl, by kernel_rfl, by kernel_rfl, by kernel_rfl⟩
/-! concord/sum.Of -/
def e105r0 : EE := .out [(0, .s 0)]
def e105r1 : EE := .x 1 (.call 176) [.c (.int .u32 0), .s 0] none [] <|
 .out [(2, .r 1)]
def e105 : EFn := ⟨(.seq (.reg e105r0 [0] 0) (.seq (.reg e105r1 [0] 0) .ret)), [.slot 2], 5, 0⟩
theorem g105 : Good Tryz.prog 105 e105 := ⟨Tryz.f105, Tryz.func105, by kernel_rfl, by kernel_rfl, by kernel_rfl, by kernel_rfl⟩
/-! (*concord/disk.Disk).known -/
def e110r0 : EE := .out [(0, .s 0), (1, .s 1)]
def e110r1 : EE := .q 1 .nl [.s 0] none <|
 .q 2 (.fld 2) [.r 1] none <|
 .q 3 .ld [.r 2] none <|
 .out [(0, .s 0), (1, .s 1), (11, .r 3)]
def e110r2 : EE := .out [(4, .c z), (5, .c (.int .i64 10))]
def e110r3 : EE := .x 2 (.call 103) [.s 0, .s 1] none [] <|
 .q 4 (.ext 0) [.r 2] none <|
 .q 5 (.ext 1) [.r 2] none <|
 .out [(6, .r 4), (7, .r 5)]
def e110r4 : EE := .q 1 .not [.s 7] none <|
 .out [(6, .s 6), (19, .r 1)]
def e110r5 : EE := .out [(4, .c z), (5, .c (.int .i64 8))]
def e110r6 : EE := .out [(4, .s 6), (5, .c z)]
def e110 : EFn := ⟨(.seq (.reg e110r0 [0, 1] 0) (.seq (.seq (.reg e110r1 [0, 1] 0) (.cond (.s 11) (.seq (.reg e110r2 [] 0) .ret) .skip)) (.seq (.reg e110r3 [0, 1] 0) (.seq (.seq (.reg e110r4 [6, 7] 0) (.cond (.s 19) (.seq (.reg e110r5 [] 0) .ret) .skip)) (.seq (.reg e110r6 [6] 0) .ret))))), [.slot 4, .slot 5], 21, 0⟩
theorem g110 : Good Tryz.prog 110 e110 := ⟨Tryz.f110, Tryz.func110, by kernel_rfl, by kernel_rfl, by kernel_rfl, by kernel_rfl⟩
/-! (*concord/disk.Disk).power -/
def e111r0 : EE := .out [(0, .s 0)]
def e111r1 : EE := .q 1 .nl [.s 0] none <|
 .q 2 (.fld 3) [.r 1] none <|
 .q 3 .ld [.r 2] none <|
 .q 5 .mv [.s 0] (some (.r 3, true)) <|
 .q 6 .nl [.r 5] (some (.r 3, true)) <|
 .q 7 (.fld 4) [.r 6] (some (.r 3, true)) <|
 .q 8 .ld [.r 7] (some (.r 3, true)) <|
 .q 9 .eql [.r 8, .c z] (some (.r 3, true)) <|
 .q 10 .pick [.r 3, .r 9, .c (.bool false)] none <|
 .out [(0, .s 0), (13, .r 10)]
def e111r2 : EE := .q 1 .nl [.s 0] none <|
 .q 2 (.fld 2) [.r 1] none <|
 .x 3 (.st 1) [.r 2, .c (.bool true)] none [] <|
 .out []
def e111r3 : EE := .out [(2, .c (.int .i64 10))]
def e111r4 : EE := .q 1 .nl [.s 0] none <|
 .q 2 (.fld 3) [.r 1] none <|
 .q 3 .ld [.r 2] none <|
 .out [(0, .s 0), (20, .r 3)]
def e111r5 : EE := .q 1 .nl [.s 0] none <|
 .q 2 (.fld 4) [.r 1] none <|
 .q 3 .ld [.r 2] none <|
 .q 4 .sub [.r 3, .c (.int .i64 1)] none <|
 .q 5 .nl [.s 0] none <|
 .q 6 (.fld 4) [.r 5] none <|
 .x 7 (.st 1) [.r 6, .r 4] none [] <|
 .out []
def e111r6 : EE := .out [(2, .c z)]
def e111 : EFn := ⟨(.seq (.reg e111r0 [0] 0) (.seq (.seq (.reg e111r1 [0] 0) (.cond (.s 13) (.seq (.reg e111r2 [0] 0) (.seq (.reg e111r3 [] 0) .ret)) .skip)) (.seq (.seq (.reg e111r4 [0] 0) (.cond (.s 20) (.reg e111r5 [0] 0) .skip)) (.seq (.reg e111r6 [] 0) .ret)))), [.slot 2], 28, 0⟩
theorem g111 : Good Tryz.prog 111 e111 := ⟨Tryz.f111, Tryz.func111, by kernel_rfl, by kernel_rfl, by kernel_rfl, by kernel_rfl⟩
/-! (*concord/disk.Disk).Names -/
def e113r0 : EE := .out [(0, .s 0)]
def e113r1 : EE := .out [(0, .s 0), (3, .c .nsl)]
def e113r2 : EE := .q 1 .nl [.s 0] none <|
 .q 2 (.fld 1) [.r 1] none <|
 .q 3 .ld [.r 2] none <|
 .q 4 .len [.r 3] none <|
 .out [(3, .s 3), (9, .r 3), (10, .r 4), (11, .c z)]
def e113r3 : EE := .q 0 .lss [.s 11, .s 10] none <|
 .out [(3, .s 3), (9, .s 9), (10, .s 10), (11, .s 11), (12, .r 0)]
def e113r4 : EE := .q 0 (.ixs 3) [.s 9, .s 11] none <|
 .q 1 (.lda 3) [.r 0] none <|
 .x 2 (.alc [zs, .nsl, z] 130) [] none [] <|
 .x 3 (.st 3) [.r 2, .r 1] none [] <|
 .out [(3, .s 3), (5, .r 2), (9, .s 9), (10, .s 10), (11, .s 11)]
def e113r5 : EE := .q 1 (.fld 0) [.s 5] none <|
 .q 2 .ld [.r 1] none <|
 .x 3 (.bsl 9 1 [zs] [(0, 1)]) [.r 2] none [] <|
 .x 4 (.app 9 1 16 [zs]) [.s 3, .r 3] none [] <|
 .out [(3, .r 4), (9, .s 9), (10, .s 10), (11, .s 11)]
def e113r6 : EE := .q 0 .add [.s 11, .c (.int .i64 1)] none <|
 .out [(3, .s 3), (9, .s 9), (10, .s 10), (11, .r 0)]
def e113l7 : EC := (.seq (.reg e113r3 [3, 9, 10, 11] 0) (.seq (.cond (.s 12) .skip (.exit 0)) (.seq (.block 1 (.seq (.reg e113r4 [3, 9, 10, 11] 0) (.reg e113r5 [3, 5, 9, 10, 11] 0))) (.reg e113r6 [3, 9, 10, 11] 0))))
def e113r8 : EE := .out [(2, .s 3)]
def e113 : EFn := ⟨(.seq (.reg e113r0 [0] 0) (.seq (.reg e113r1 [0] 0) (.seq (.seq (.reg e113r2 [0, 3] 0) (.block 0 (.loop [3, 9, 10, 11] e113l7))) (.seq (.reg e113r8 [3] 0) .ret)))), [.slot 2], 22, 0⟩
theorem g113 : Good Tryz.prog 113 e113 := ⟨Tryz.f113, Tryz.func113, by kernel_rfl, by kernel_rfl, by kernel_rfl, by kernel_rfl⟩
/-! strconv.Itoa -/
def e116r0 : EE := .out [(0, .s 0)]
def e116r1 : EE := .x 1 (.call 184) [.s 0] none [] <|
 .out [(2, .r 1)]
def e116 : EFn := ⟨(.seq (.reg e116r0 [0] 0) (.seq (.reg e116r1 [0] 0) .ret)), [.slot 2], 5, 0⟩
theorem g116 : Good Tryz.prog 116 e116 := ⟨Tryz.f116, Tryz.func116, by kernel_rfl, by kernel_rfl, by kernel_rfl, by kernel_rfl⟩
/-! concord/pack.grown -/
def e117r0 : EE := .out [(0, .s 0), (1, .s 1)]
def e117r1 : EE := .q 1 .len [.s 0] none <|
 .q 3 .add [.r 1, .s 1] none <|
 .x 4 (.mks 5 1 [(.int .u8 0)]) [.c z, .r 3] none [] <|
 .x 6 (.app 5 1 1 [(.int .u8 0)]) [.r 4, .s 0] none [] <|
 .out [(4, .r 6)]
def e117 : EFn := ⟨(.seq (.reg e117r0 [0, 1] 0) (.seq (.reg e117r1 [0, 1] 0) .ret)), [.slot 4], 12, 0⟩
theorem g117 : Good Tryz.prog 117 e117 := ⟨Tryz.f117, Tryz.func117, by kernel_rfl, by kernel_rfl, by kernel_rfl, by kernel_rfl⟩
/-! (*concord/log.Log).Trim -/
def e120r0 : EE := .x 0 (.box 38) [.s 1] none [] <|
 .out [(0, .s 0), (3, .r 0)]
def e120r1 : EE := .q 0 (.lda 7) [.s 3] none <|
 .out [(0, .s 0), (7, .r 0), (8, .c z)]
def e120r2 : EE := .q 0 .lss [.s 8, .c (.int .i64 7)] none <|
 .out [(0, .s 0), (7, .s 7), (8, .s 8), (9, .r 0)]
def e120r3 : EE := .q 1 (.idx 7 1) [.s 7, .s 8] none <|
 .out [(0, .s 0), (4, .s 8), (5, .r 1), (7, .s 7), (8, .s 8)]
def e120r4 : EE := .q 4 .nl [.s 0] none <|
 .q 5 (.fld 1) [.r 4] none <|
 .q 6 (.ixa 7 1) [.r 5, .s 4] none <|
 .q 7 .ld [.r 6] none <|
 .q 9 .mx [.s 5, .c z] none <|
 .q 10 .mn [.r 9, .c (.int .i64 1073741824)] none <|
 .q 11 .mx [.r 7, .r 10] none <|
 .q 12 .nl [.s 0] none <|
 .q 13 (.fld 1) [.r 12] none <|
 .q 14 (.ixa 7 1) [.r 13, .s 4] none <|
 .x 15 (.st 1) [.r 14, .r 11] none [] <|
 .out [(0, .s 0), (7, .s 7), (8, .s 8)]
def e120r5 : EE := .q 0 .add [.s 8, .c (.int .i64 1)] none <|
 .out [(0, .s 0), (7, .s 7), (8, .r 0)]
def e120l6 : EC := (.seq (.reg e120r2 [0, 7, 8] 0) (.seq (.cond (.s 9) .skip (.exit 0)) (.seq (.block 1 (.seq (.reg e120r3 [0, 7, 8] 0) (.reg e120r4 [0, 4, 5, 7, 8] 0))) (.reg e120r5 [0, 7, 8] 0))))
def e120r7 : EE := .q 1 .nl [.s 0] none <|
 .q 2 (.fld 0) [.r 1] none <|
 .q 3 .ld [.r 2] none <|
 .x 4 .rng [.r 3] none [] <|
 .out [(0, .s 0), (32, .r 4)]
def e120r8 : EE := .x 0 .nxt [.s 32] none [] <|
 .q 1 (.ext 0) [.r 0] none <|
 .out [(0, .s 0), (32, .s 32), (34, .r 1)]
def e120r9 : EE := .q 0 .ent [.s 32] none <|
 .q 1 (.ext 0) [.r 0] none <|
 .x 2 (.alc [z, z] 80) [] none [] <|
 .x 3 (.st 2) [.r 2, .r 1] none [] <|
 .out [(0, .s 0), (6, .r 2), (32, .s 32)]
def e120r10 : EE := .q 1 (.lda 2) [.s 6] none <|
 .x 2 (.call 123) [.s 0, .r 1] none [] <|
 .out [(0, .s 0), (6, .s 6), (32, .s 32), (39, .r 2)]
def e120r11 : EE := .q 1 .nl [.s 0] none <|
 .q 2 (.fld 0) [.r 1] none <|
 .q 3 .ld [.r 2] none <|
 .q 4 (.lda 2) [.s 6] none <|
 .x 5 (.dlt true [(.i .i64), (.i .i64)]) [.r 3, .r 4] none [] <|
 .out [(0, .s 0), (32, .s 32)]
def e120l12 : EC := (.seq (.reg e120r8 [0, 32] 0) (.seq (.cond (.s 34) .skip (.exit 2)) (.block 3 (.seq (.reg e120r9 [0, 32] 0) (.seq (.reg e120r10 [0, 6, 32] 0) (.cond (.s 39) (.reg e120r11 [0, 6, 32] 0) .skip))))))
def e120 : EFn := ⟨(.seq (.reg e120r0 [0, 1] 0) (.seq (.seq (.reg e120r1 [0, 3] 0) (.block 0 (.loop [0, 7, 8] e120l6))) (.seq (.reg e120r7 [0] 0) (.block 2 (.loop [0, 32] e120l12))))), [], 45, 0⟩
theorem g120 : Good Tryz.prog 120 e120 := ⟨Tryz.f120, Tryz.func120, by kernel_rfl, by kernel_rfl, by kernel_rfl, by kernel_rfl⟩
/-! concord/inst.Right -/
def e122r0 : EE := .x 0 (.box 80) [.s 0] none [] <|
 .out [(1, .r 0)]
def e122r1 : EE := .q 0 (.fld 0) [.s 1] none <|
 .q 1 .ld [.r 0] none <|
 .q 2 .geq [.r 1, .c z] none <|
 .q 4 (.fld 0) [.s 1] (some (.r 2, true)) <|
 .q 5 .ld [.r 4] (some (.r 2, true)) <|
 .q 6 .lss [.r 5, .c (.int .i64 7)] (some (.r 2, true)) <|
 .q 7 .pick [.r 2, .r 6, .c (.bool false)] none <|
 .q 9 (.fld 1) [.s 1] (some (.r 7, true)) <|
 .q 10 .ld [.r 9] (some (.r 7, true)) <|
 .q 11 .geq [.r 10, .c (.int .i64 1)] (some (.r 7, true)) <|
 .q 12 .pick [.r 7, .r 11, .c (.bool false)] none <|
 .q 14 (.fld 1) [.s 1] (some (.r 12, true)) <|
 .q 15 .ld [.r 14] (some (.r 12, true)) <|
 .q 16 .leq [.r 15, .c (.int .i64 1073741824)] (some (.r 12, true)) <|
 .q 17 .pick [.r 12, .r 16, .c (.bool false)] none <|
 .out [(2, .r 17)]
def e122 : EFn := ⟨(.seq (.reg e122r0 [0] 0) (.seq (.reg e122r1 [1] 0) .ret)), [.slot 2], 21, 0⟩
theorem g122 : Good Tryz.prog 122 e122 := ⟨Tryz.f122, Tryz.func122, by kernel_rfl, by kernel_rfl, by kernel_rfl, by kernel_rfl⟩
/-! (*concord/log.Log).Gone -/
def e123r0 : EE := .x 0 (.box 80) [.s 1] none [] <|
 .out [(0, .s 0), (3, .r 0)]
def e123r1 : EE := .q 0 (.lda 2) [.s 3] none <|
 .x 1 (.call 122) [.r 0] none [] <|
 .q 3 (.fld 1) [.s 3] (some (.r 1, true)) <|
 .q 4 .ld [.r 3] (some (.r 1, true)) <|
 .q 5 .mv [.s 0] (some (.r 1, true)) <|
 .q 6 (.fld 0) [.s 3] (some (.r 1, true)) <|
 .q 7 .ld [.r 6] (some (.r 1, true)) <|
 .q 8 .nl [.r 5] (some (.r 1, true)) <|
 .q 9 (.fld 1) [.r 8] (some (.r 1, true)) <|
 .q 10 (.ixa 7 1) [.r 9, .r 7] (some (.r 1, true)) <|
 .q 11 .ld [.r 10] (some (.r 1, true)) <|
 .q 12 .leq [.r 4, .r 11] (some (.r 1, true)) <|
 .q 13 .pick [.r 1, .r 12, .c (.bool false)] none <|
 .out [(4, .r 13)]
def e123 : EFn := ⟨(.seq (.reg e123r0 [0, 1] 0) (.seq (.reg e123r1 [0, 3] 0) .ret)), [.slot 4], 19, 0⟩
theorem g123 : Good Tryz.prog 123 e123 := ⟨Tryz.f123, Tryz.func123, by kernel_rfl, by kernel_rfl, by kernel_rfl, by kernel_rfl⟩
/-! concord/letter.RightCell -/
def e124r0 : EE := .x 0 (.box 86) [.s 0] none [] <|
 .out [(1, .r 0)]
def e124r1 : EE := .q 0 (.fld 0) [.s 1] none <|
 .q 1 .ld [.r 0] none <|
 .q 2 .lss [.r 1, .c z] none <|
 .q 4 (.fld 0) [.s 1] (some (.r 2, false)) <|
 .q 5 .ld [.r 4] (some (.r 2, false)) <|
 .q 6 .gtr [.r 5, .c (.int .i64 3)] (some (.r 2, false)) <|
 .q 7 .pick [.r 2, .c (.bool true), .r 6] none <|
 .q 9 (.fld 1) [.s 1] (some (.r 7, false)) <|
 .q 10 (.lda 2) [.r 9] (some (.r 7, false)) <|
 .x 11 (.call 155) [.r 10] (some (.r 7, false)) [] <|
 .q 12 .not [.r 11] (some (.r 7, false)) <|
 .q 13 .pick [.r 7, .c (.bool true), .r 12] none <|
 .q 15 (.fld 3) [.s 1] (some (.r 13, false)) <|
 .q 16 (.lda 2) [.r 15] (some (.r 13, false)) <|
 .x 17 (.call 155) [.r 16] (some (.r 13, false)) [] <|
 .q 18 .not [.r 17] (some (.r 13, false)) <|
 .q 19 .pick [.r 13, .c (.bool true), .r 18] none <|
 .q 21 (.fld 1) [.s 1] (some (.r 19, false)) <|
 .q 22 (.lda 2) [.r 21] (some (.r 19, false)) <|
 .q 23 (.fld 3) [.s 1] (some (.r 19, false)) <|
 .q 24 (.lda 2) [.r 23] (some (.r 19, false)) <|
 .x 25 (.call 172) [.r 22, .r 24] (some (.r 19, false)) [] <|
 .q 26 .pick [.r 19, .c (.bool true), .r 25] none <|
 .out [(1, .s 1), (29, .r 26)]
def e124r2 : EE := .out [(2, .c (.bool false))]
def e124r3 : EE := .q 0 (.fld 20) [.s 1] none <|
 .q 1 .ld [.r 0] none <|
 .q 3 (.fld 0) [.s 1] (some (.r 1, true)) <|
 .q 4 .ld [.r 3] (some (.r 1, true)) <|
 .q 5 .neq [.r 4, .c (.int .i64 1)] (some (.r 1, true)) <|
 .q 6 .mv [.r 5] (some (.r 1, true)) <|
 .q 7 (.fld 3) [.s 1] (some (.r 6, false)) <|
 .q 8 (.lda 2) [.r 7] (some (.r 6, false)) <|
 .q 9 (.bld [z, z] []) [] (some (.r 6, false)) <|
 .q 10 (.eqc true [(.i .i64), (.i .i64)]) [.r 8, .r 9] (some (.r 6, false)) <|
 .q 11 .pick [.r 6, .c (.bool true), .r 10] (some (.r 1, true)) <|
 .q 12 .pick [.r 1, .r 11, .c (.bool false)] none <|
 .q 14 (.fld 0) [.s 1] (some (.r 12, false)) <|
 .q 15 .ld [.r 14] (some (.r 12, false)) <|
 .q 16 .eql [.r 15, .c z] (some (.r 12, false)) <|
 .q 17 .mv [.r 16] (some (.r 12, false)) <|
 .q 18 (.lda 21) [.s 1] (some (.r 17, true)) <|
 .q 19 (.fld 1) [.s 1] (some (.r 17, true)) <|
 .q 20 (.lda 2) [.r 19] (some (.r 17, true)) <|
 .q 21 (.bld [z, z, z, z, z, z, z, z, zs, zs, zs, zs, z, z, z, z, z, z, z, z, (.bool false)] [(1, 2)]) [.r 20] (some (.r 17, true)) <|
 .q 22 (.eqc true [(.i .i64), (.i .i64), (.i .i64), (.i .i64), (.i .i64), (.i .i64), (.i .i64), (.i .i64), .s, .s, .s, .s, (.i .i64), (.i .i64), (.i .i64), (.i .i64), (.i .i64), (.i .i64), (.i .i64), (.i .i64), .b]) [.r 18, .r 21] (some (.r 17, true)) <|
 .q 23 .pick [.r 17, .r 22, .c (.bool false)] (some (.r 12, false)) <|
 .q 24 .pick [.r 12, .c (.bool true), .r 23] none <|
 .out [(1, .s 1), (54, .r 24)]
def e124r4 : EE := .out [(2, .c (.bool false))]
def e124r5 : EE := .q 0 (.fld 5) [.s 1] none <|
 .q 1 (.lda 7) [.r 0] none <|
 .x 2 (.call 83) [.r 1] none [] <|
 .q 4 (.fld 12) [.s 1] (some (.r 2, true)) <|
 .q 5 (.lda 8) [.r 4] (some (.r 2, true)) <|
 .x 6 (.call 66) [.r 5] (some (.r 2, true)) [] <|
 .q 7 .pick [.r 2, .r 6, .c (.bool false)] none <|
 .out [(2, .r 7)]
def e124 : EFn := ⟨(.seq (.reg e124r0 [0] 0) (.seq (.seq (.reg e124r1 [1] 0) (.cond (.s 29) (.seq (.reg e124r2 [] 0) .ret) .skip)) (.seq (.seq (.reg e124r3 [1] 0) (.cond (.s 54) (.seq (.reg e124r4 [] 0) .ret) .skip)) (.seq (.reg e124r5 [1] 0) .ret)))), [.slot 2], 63, 0⟩
theorem g124 : Good Tryz.prog 124 e124 := ⟨Tryz.f124, Tryz.func124, by kernel_rfl, by kernel_rfl, by kernel_rfl, by kernel_rfl⟩
end Go.Ev
