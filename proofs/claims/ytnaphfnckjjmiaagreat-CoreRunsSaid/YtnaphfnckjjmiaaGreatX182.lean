import Derived.Test.YtnaphfnckjjmiaaGreatEvB
import Derived.Test.YtnaphfnckjjmiaaGreatProg
set_option linter.unusedVariables false
namespace Go.Ev
open Go.Fw Go.Proofs
/-! concord/deps.Get -/
def e79r0 : EE := .x 0 (.alc [z, z, z, z, z, z, z, z] 39) [] none [] <|
 .out [(0, .s 0), (2, .r 0)]
def e79r1 : EE := .x 1 (.call 50) [.s 0] none [] <|
 .q 2 (.bld [z, z, z, z, z, z, z, z] [(0, 1)]) [.r 1] none <|
 .x 3 (.alc [z, z, z, z, z, z, z, z] 39) [] none [] <|
 .x 4 (.st 8) [.r 3, .r 2] none [] <|
 .out [(0, .s 0), (2, .s 2), (3, .r 3)]
def e79r2 : EE := .out [(0, .s 0), (2, .s 2), (3, .s 3), (8, .c z)]
def e79r3 : EE := .q 0 .lss [.s 8, .c (.int .i64 7)] none <|
 .out [(0, .s 0), (2, .s 2), (3, .s 3), (8, .s 8), (9, .r 0)]
def e79r4 : EE := .out [(0, .s 0), (2, .s 2), (3, .s 3), (4, .s 8), (8, .s 8)]
def e79r5 : EE := .x 2 (.call 50) [.s 0] none [] <|
 .q 3 (.fld 1) [.s 3] none <|
 .q 4 (.ixa 7 1) [.r 3, .s 4] none <|
 .x 5 (.st 1) [.r 4, .r 2] none [] <|
 .out [(0, .s 0), (2, .s 2), (3, .s 3), (8, .s 8)]
def e79r6 : EE := .q 0 .add [.s 8, .c (.int .i64 1)] none <|
 .out [(0, .s 0), (2, .s 2), (3, .s 3), (8, .r 0)]
def e79l7 : EC := (.seq (.reg e79r3 [0, 2, 3, 8] 0) (.seq (.cond (.s 9) .skip (.exit 0)) (.seq (.block 1 (.seq (.reg e79r4 [0, 2, 3, 8] 0) (.reg e79r5 [0, 2, 3, 4, 8] 0))) (.reg e79r6 [0, 2, 3, 8] 0))))
def e79r8 : EE := .x 1 (.call 81) [.s 0] none [] <|
 .q 2 .eql [.r 1, .c z] none <|
 .q 4 (.lda 8) [.s 3] (some (.r 2, true)) <|
 .x 5 (.call 15) [.r 4] (some (.r 2, true)) [] <|
 .q 6 .not [.r 5] (some (.r 2, true)) <|
 .q 7 .pick [.r 2, .r 6, .c (.bool false)] none <|
 .out [(0, .s 0), (2, .s 2), (3, .s 3), (24, .r 7)]
def e79r9 : EE := .x 1 (.call 82) [.s 0] none [] <|
 .out [(0, .s 0), (2, .s 2), (3, .s 3)]
def e79r10 : EE := .x 1 (.call 81) [.s 0] none [] <|
 .q 2 .neq [.r 1, .c z] none <|
 .out [(2, .s 2), (3, .s 3), (29, .r 2)]
def e79r11 : EE := .q 0 (.bld [z, z, z, z, z, z, z, z] []) [] none <|
 .x 1 (.st 8) [.s 2, .r 0] none [] <|
 .out [(2, .s 2)]
def e79r12 : EE := .q 0 (.lda 8) [.s 3] none <|
 .x 1 (.st 8) [.s 2, .r 0] none [] <|
 .out [(2, .s 2)]
def e79 : EFn := ⟨(.seq (.reg e79r0 [0] 0) (.seq (.reg e79r1 [0, 2] 0) (.seq (.seq (.reg e79r2 [0, 2, 3] 0) (.block 0 (.loop [0, 2, 3, 8] e79l7))) (.seq (.seq (.reg e79r8 [0, 2, 3] 0) (.cond (.s 24) (.reg e79r9 [0, 2, 3] 0) .skip)) (.seq (.seq (.reg e79r10 [0, 2, 3] 0) (.cond (.s 29) (.seq (.reg e79r11 [2] 0) .ret) .skip)) (.seq (.reg e79r12 [2, 3] 0) .ret)))))), [.cells 2 8], 32, 0⟩
theorem g79 : Good Tryz.prog 79 e79 := ⟨Tryz.f79, Tryz.func79, by kernel_rfl, by kernel_rfl, by kernel_rfl, by kernel_rfl⟩
/-! (*concord/pack.Reader).Flag -/
def e80r0 : EE := .out [(0, .s 0)]
def e80r1 : EE := .q 1 .nl [.s 0] none <|
 .q 2 (.fld 2) [.r 1] none <|
 .q 3 .ld [.r 2] none <|
 .q 4 .neq [.r 3, .c z] none <|
 .out [(0, .s 0), (8, .r 4)]
def e80r2 : EE := .out [(2, .c (.bool false))]
def e80r3 : EE := .q 1 .nl [.s 0] none <|
 .q 2 (.fld 1) [.r 1] none <|
 .q 3 .ld [.r 2] none <|
 .q 5 .nl [.s 0] none <|
 .q 6 (.fld 0) [.r 5] none <|
 .q 7 .ld [.r 6] none <|
 .q 8 .len [.r 7] none <|
 .q 9 .eql [.r 3, .r 8] none <|
 .out [(0, .s 0), (18, .r 9)]
def e80r4 : EE := .q 2 .nl [.s 0] none <|
 .q 3 (.fld 1) [.r 2] none <|
 .q 4 .ld [.r 3] none <|
 .x 5 (.call 75) [.s 0, .r 4, .c (.int .i64 3)] none [] <|
 .out []
def e80r5 : EE := .out [(2, .c (.bool false))]
def e80r6 : EE := .q 1 .nl [.s 0] none <|
 .q 2 (.fld 0) [.r 1] none <|
 .q 3 .ld [.r 2] none <|
 .q 5 .nl [.s 0] none <|
 .q 6 (.fld 1) [.r 5] none <|
 .q 7 .ld [.r 6] none <|
 .q 8 (.ixs 1) [.r 3, .r 7] none <|
 .q 9 .ld [.r 8] none <|
 .out [(0, .s 0), (3, .r 9)]
def e80r7 : EE := .q 1 .gtr [.s 3, .c (.int .u8 1)] none <|
 .out [(0, .s 0), (3, .s 3), (36, .r 1)]
def e80r8 : EE := .q 2 .nl [.s 0] none <|
 .q 3 (.fld 1) [.r 2] none <|
 .q 4 .ld [.r 3] none <|
 .x 5 (.call 75) [.s 0, .r 4, .c (.int .i64 4)] none [] <|
 .out []
def e80r9 : EE := .out [(2, .c (.bool false))]
def e80r10 : EE := .q 1 .nl [.s 0] none <|
 .q 2 (.fld 1) [.r 1] none <|
 .q 3 .ld [.r 2] none <|
 .q 4 .add [.r 3, .c (.int .i64 1)] none <|
 .q 5 .nl [.s 0] none <|
 .q 6 (.fld 1) [.r 5] none <|
 .x 7 (.st 1) [.r 6, .r 4] none [] <|
 .out [(3, .s 3)]
def e80r11 : EE := .q 1 .eql [.s 3, .c (.int .u8 1)] none <|
 .out [(2, .r 1)]
def e80 : EFn := ⟨(.seq (.reg e80r0 [0] 0) (.seq (.seq (.reg e80r1 [0] 0) (.cond (.s 8) (.seq (.reg e80r2 [] 0) .ret) .skip)) (.seq (.seq (.reg e80r3 [0] 0) (.cond (.s 18) (.seq (.reg e80r4 [0] 0) (.seq (.reg e80r5 [] 0) .ret)) .skip)) (.seq (.reg e80r6 [0] 0) (.seq (.seq (.reg e80r7 [0, 3] 0) (.cond (.s 36) (.seq (.reg e80r8 [0] 0) (.seq (.reg e80r9 [] 0) .ret)) .skip)) (.seq (.reg e80r10 [0, 3] 0) (.seq (.reg e80r11 [3] 0) .ret))))))), [.slot 2], 52, 0⟩
theorem g80 : Good Tryz.prog 80 e80 := ⟨Tryz.f80, Tryz.func80, by kernel_rfl, by kernel_rfl, by kernel_rfl, by kernel_rfl⟩
/-! (*concord/pack.Reader).Wrong -/
def e81r0 : EE := .out [(0, .s 0)]
def e81r1 : EE := .q 1 .nl [.s 0] none <|
 .q 2 (.fld 2) [.r 1] none <|
 .q 3 .ld [.r 2] none <|
 .out [(2, .r 3)]
def e81 : EFn := ⟨(.seq (.reg e81r0 [0] 0) (.seq (.reg e81r1 [0] 0) .ret)), [.slot 2], 7, 0⟩
theorem g81 : Good Tryz.prog 81 e81 := ⟨Tryz.f81, Tryz.func81, by kernel_rfl, by kernel_rfl, by kernel_rfl, by kernel_rfl⟩
/-! (*concord/pack.Reader).Fail -/
def e82r0 : EE := .q 1 .nl [.s 0] none <|
 .q 2 (.fld 2) [.r 1] none <|
 .q 3 .ld [.r 2] none <|
 .q 4 .eql [.r 3, .c z] none <|
 .out [(0, .s 0), (6, .r 4)]
def e82r1 : EE := .q 1 .nl [.s 0] none <|
 .q 2 (.fld 2) [.r 1] none <|
 .x 3 (.st 1) [.r 2, .c (.int .i64 4)] none [] <|
 .out []
def e82 : EFn := ⟨(.seq (.reg e82r0 [0] 0) (.cond (.s 6) (.reg e82r1 [0] 0) .skip)), [], 10, 0⟩
theorem g82 : Good Tryz.prog 82 e82 := ⟨Tryz.f82, Tryz.func82, by kernel_rfl, by kernel_rfl, by kernel_rfl, by kernel_rfl⟩
/-! concord/span.Of -/
def e83r0 : EE := .x 0 (.alc [zs, zs] 114) [] none [] <|
 .out [(0, .s 0), (2, .r 0)]
def e83r1 : EE := .q 2 .sadd [.s 0, .c (.str [0])] none <|
 .q 3 (.bld [zs, zs] [(0, 1), (1, 1)]) [.s 0, .r 2] none <|
 .x 4 (.st 2) [.s 2, .r 3] none [] <|
 .out [(2, .s 2)]
def e83 : EFn := ⟨(.seq (.reg e83r0 [0] 0) (.seq (.reg e83r1 [0, 2] 0) .ret)), [.cells 2 2], 7, 0⟩
theorem g83 : Good Tryz.prog 83 e83 := ⟨Tryz.f83, Tryz.func83, by kernel_rfl, by kernel_rfl, by kernel_rfl, by kernel_rfl⟩
/-! concord/span.Empty -/
def e84r0 : EE := .x 0 (.box 114) [.s 0] none [] <|
 .out [(1, .r 0)]
def e84r1 : EE := .q 0 (.fld 0) [.s 1] none <|
 .q 1 .ld [.r 0] none <|
 .q 2 (.fld 1) [.s 1] none <|
 .q 3 .ld [.r 2] none <|
 .x 4 (.call 85) [.r 1, .r 3] none [] <|
 .q 5 .not [.r 4] none <|
 .out [(2, .r 5)]
def e84 : EFn := ⟨(.seq (.reg e84r0 [0] 0) (.seq (.reg e84r1 [1] 0) .ret)), [.slot 2], 9, 0⟩
theorem g84 : Good Tryz.prog 84 e84 := ⟨Tryz.f84, Tryz.func84, by kernel_rfl, by kernel_rfl, by kernel_rfl, by kernel_rfl⟩
/-! concord/span.under -/
def e85r0 : EE := .out [(0, .s 0), (1, .s 1)]
def e85r1 : EE := .q 1 .seql [.s 1, .c zs] none <|
 .q 3 .mv [.s 0] (some (.r 1, false)) <|
 .q 4 .mv [.s 1] (some (.r 1, false)) <|
 .q 5 .slss [.r 3, .r 4] (some (.r 1, false)) <|
 .q 6 .pick [.r 1, .c (.bool true), .r 5] none <|
 .out [(4, .r 6)]
def e85 : EFn := ⟨(.seq (.reg e85r0 [0, 1] 0) (.seq (.reg e85r1 [0, 1] 0) .ret)), [.slot 4], 12, 0⟩
theorem g85 : Good Tryz.prog 85 e85 := ⟨Tryz.f85, Tryz.func85, by kernel_rfl, by kernel_rfl, by kernel_rfl, by kernel_rfl⟩
/-! concord/letter.ballot -/
def e86r0 : EE := .x 0 (.box 35) [.s 1] none [] <|
 .out [(0, .s 0), (3, .r 0)]
def e86r1 : EE := .q 1 (.fld 0) [.s 3] none <|
 .q 2 .ld [.r 1] none <|
 .q 4 (.fld 1) [.s 3] none <|
 .q 5 .ld [.r 4] none <|
 .x 3 (.call 60) [.s 0, .r 2] none [⟨5, .ld, [.r 4], none⟩] <|
 .x 6 (.call 60) [.r 3, .r 5] none [] <|
 .out [(4, .r 6)]
def e86 : EFn := ⟨(.seq (.reg e86r0 [0, 1] 0) (.seq (.reg e86r1 [0, 3] 0) .ret)), [.slot 4], 12, 0⟩
theorem g86 : Good Tryz.prog 86 e86 := ⟨Tryz.f86, Tryz.func86, by kernel_rfl, by kernel_rfl, by kernel_rfl, by kernel_rfl⟩
/-! concord/cmd.Put -/
def e87r0 : EE := .x 0 (.box 30) [.s 1] none [] <|
 .out [(0, .s 0), (3, .r 0)]
def e87r1 : EE := .q 0 (.lda 7) [.s 3] none <|
 .x 1 (.call 13) [.r 0] none [] <|
 .q 2 .not [.r 1] none <|
 .out [(0, .s 0), (3, .s 3), (7, .r 2)]
def e87r2 : EE := .x 1 (.app 5 1 1 [(.int .u8 0)]) [.c .nsl, .s 0] none [] <|
 .out [(4, .r 1)]
def e87r3 : EE := .q 1 (.fld 0) [.s 3] none <|
 .q 2 .ld [.r 1] none <|
 .x 3 (.call 60) [.s 0, .r 2] none [] <|
 .out [(0, .r 3), (3, .s 3)]
def e87r4 : EE := .q 0 (.fld 0) [.s 3] none <|
 .q 1 .ld [.r 0] none <|
 .q 2 .eql [.r 1, .c z] none <|
 .out [(0, .s 0), (3, .s 3), (16, .r 2)]
def e87r5 : EE := .out [(4, .s 0)]
def e87r6 : EE := .q 1 (.fld 1) [.s 3] none <|
 .q 2 .ld [.r 1] none <|
 .q 4 (.fld 2) [.s 3] none <|
 .q 5 .ld [.r 4] none <|
 .q 7 (.fld 3) [.s 3] none <|
 .q 8 .ld [.r 7] none <|
 .x 3 (.call 60) [.s 0, .r 2] none [⟨5, .ld, [.r 4], none⟩, ⟨8, .ld, [.r 7], none⟩] <|
 .x 6 (.call 60) [.r 3, .r 5] none [⟨8, .ld, [.r 7], none⟩] <|
 .x 9 (.call 103) [.r 6, .r 8] none [] <|
 .out [(0, .r 9), (3, .s 3)]
def e87r7 : EE := .q 0 (.fld 0) [.s 3] none <|
 .q 1 .ld [.r 0] none <|
 .out [(0, .s 0), (3, .s 3), (29, .r 1)]
def e87r8 : EE := .q 0 .eql [.s 29, .c (.int .i64 2)] none <|
 .out [(0, .s 0), (3, .s 3), (29, .s 29), (30, .r 0)]
def e87r9 : EE := .q 1 (.fld 6) [.s 3] none <|
 .q 2 .ld [.r 1] none <|
 .x 3 (.call 103) [.s 0, .r 2] none [] <|
 .out [(0, .r 3)]
def e87r10 : EE := .q 0 .eql [.s 29, .c (.int .i64 4)] none <|
 .out [(0, .s 0), (3, .s 3), (29, .s 29), (36, .r 0)]
def e87r11 : EE := .q 1 (.fld 5) [.s 3] none <|
 .q 2 .ld [.r 1] none <|
 .q 4 (.fld 6) [.s 3] none <|
 .q 5 .ld [.r 4] none <|
 .x 3 (.call 103) [.s 0, .r 2] none [⟨5, .ld, [.r 4], none⟩] <|
 .x 6 (.call 103) [.r 3, .r 5] none [] <|
 .out [(0, .r 6)]
def e87r12 : EE := .q 0 .eql [.s 29, .c (.int .i64 5)] none <|
 .out [(0, .s 0), (3, .s 3), (45, .r 0)]
def e87r13 : EE := .q 1 (.fld 4) [.s 3] none <|
 .q 2 .ld [.r 1] none <|
 .x 3 (.call 103) [.s 0, .r 2] none [] <|
 .out [(0, .r 3)]
def e87r14 : EE := .out [(4, .s 0)]
def e87 : EFn := ⟨(.seq (.reg e87r0 [0, 1] 0) (.seq (.seq (.reg e87r1 [0, 3] 0) (.cond (.s 7) (.seq (.reg e87r2 [0] 0) .ret) .skip)) (.seq (.reg e87r3 [0, 3] 0) (.seq (.seq (.reg e87r4 [0, 3] 0) (.cond (.s 16) (.seq (.reg e87r5 [0] 0) .ret) .skip)) (.seq (.reg e87r6 [0, 3] 0) (.seq (.seq (.reg e87r7 [0, 3] 0) (.block 0 (.seq (.reg e87r8 [0, 3, 29] 0) (.cond (.s 30) (.reg e87r9 [0, 3] 0) (.seq (.reg e87r10 [0, 3, 29] 0) (.cond (.s 36) (.reg e87r11 [0, 3] 0) (.seq (.reg e87r12 [0, 3, 29] 0) (.cond (.s 45) (.reg e87r13 [0, 3] 0) .skip)))))))) (.seq (.reg e87r14 [0] 0) .ret))))))), [.slot 4], 52, 0⟩
theorem g87 : Good Tryz.prog 87 e87 := ⟨Tryz.f87, Tryz.func87, by kernel_rfl, by kernel_rfl, by kernel_rfl, by kernel_rfl⟩
/-! concord/pack.Flag -/
def e88r0 : EE := .out [(0, .s 0), (1, .s 1)]
def e88r1 : EE := .out [(0, .s 0), (5, .s 1)]
def e88r2 : EE := .x 1 (.call 74) [.s 0, .c (.int .i64 1)] none [] <|
 .x 2 (.bsl 5 1 [(.int .u8 0)] [(0, 1)]) [.c (.int .u8 1)] none [] <|
 .x 3 (.app 5 1 1 [(.int .u8 0)]) [.r 1, .r 2] none [] <|
 .out [(4, .r 3)]
def e88r3 : EE := .x 1 (.call 74) [.s 0, .c (.int .i64 1)] none [] <|
 .x 2 (.bsl 5 1 [(.int .u8 0)] [(0, 1)]) [.c (.int .u8 0)] none [] <|
 .x 3 (.app 5 1 1 [(.int .u8 0)]) [.r 1, .r 2] none [] <|
 .out [(4, .r 3)]
def e88 : EFn := ⟨(.seq (.reg e88r0 [0, 1] 0) (.seq (.seq (.reg e88r1 [0, 1] 0) (.cond (.s 5) (.seq (.reg e88r2 [0] 0) .ret) .skip)) (.seq (.reg e88r3 [0] 0) .ret))), [.slot 4], 14, 0⟩
theorem g88 : Good Tryz.prog 88 e88 := ⟨Tryz.f88, Tryz.func88, by kernel_rfl, by kernel_rfl, by kernel_rfl, by kernel_rfl⟩
/-! concord/deps.Put -/
def e89r0 : EE := .x 0 (.box 39) [.s 1] none [] <|
 .out [(0, .s 0), (3, .r 0)]
def e89r1 : EE := .q 1 (.fld 0) [.s 3] none <|
 .q 2 .ld [.r 1] none <|
 .x 3 (.call 60) [.s 0, .r 2] none [] <|
 .out [(0, .r 3), (3, .s 3)]
def e89r2 : EE := .q 0 (.fld 1) [.s 3] none <|
 .q 1 (.lda 7) [.r 0] none <|
 .out [(0, .s 0), (12, .r 1), (13, .c z)]
def e89r3 : EE := .q 0 .lss [.s 13, .c (.int .i64 7)] none <|
 .out [(0, .s 0), (12, .s 12), (13, .s 13), (14, .r 0)]
def e89r4 : EE := .q 0 (.idx 7 1) [.s 12, .s 13] none <|
 .out [(0, .s 0), (6, .r 0), (12, .s 12), (13, .s 13)]
def e89r5 : EE := .x 2 (.call 60) [.s 0, .s 6] none [] <|
 .out [(0, .r 2), (12, .s 12), (13, .s 13)]
def e89r6 : EE := .q 0 .add [.s 13, .c (.int .i64 1)] none <|
 .out [(0, .s 0), (12, .s 12), (13, .r 0)]
def e89l7 : EC := (.seq (.reg e89r3 [0, 12, 13] 0) (.seq (.cond (.s 14) .skip (.exit 0)) (.seq (.block 1 (.seq (.reg e89r4 [0, 12, 13] 0) (.reg e89r5 [0, 6, 12, 13] 0))) (.reg e89r6 [0, 12, 13] 0))))
def e89r8 : EE := .out [(4, .s 0)]
def e89 : EFn := ⟨(.seq (.reg e89r0 [0, 1] 0) (.seq (.reg e89r1 [0, 3] 0) (.seq (.seq (.reg e89r2 [0, 3] 0) (.block 0 (.loop [0, 12, 13] e89l7))) (.seq (.reg e89r8 [0] 0) .ret)))), [.slot 4], 21, 0⟩
theorem g89 : Good Tryz.prog 89 e89 := ⟨Tryz.f89, Tryz.func89, by kernel_rfl, by kernel_rfl, by kernel_rfl, by kernel_rfl⟩
/-! concord/pack.num -/
def e90r0 : EE := .out [(0, .s 0), (1, .s 1)]
def e90r1 : EE := .x 1 (.call 104) [.s 1] none [] <|
 .out [(0, .s 0), (5, .r 1)]
def e90r2 : EE := .q 1 .geq [.s 5, .c (.int .u64 128)] none <|
 .out [(0, .s 0), (5, .s 5), (9, .r 1)]
def e90r3 : EE := .q 2 (.conv .u8) [.s 5] none <|
 .q 3 .or [.r 2, .c (.int .u8 128)] none <|
 .x 4 (.bsl 5 1 [(.int .u8 0)] [(0, 1)]) [.r 3] none [] <|
 .x 5 (.app 5 1 1 [(.int .u8 0)]) [.s 0, .r 4] none [] <|
 .out [(0, .r 5), (5, .s 5)]
def e90r4 : EE := .q 1 .shr [.s 5, .c (.int .u64 7)] none <|
 .out [(0, .s 0), (5, .r 1)]
def e90l5 : EC := (.seq (.seq (.reg e90r2 [0, 5] 0) (.cond (.s 9) .skip (.exit 0))) (.block 1 (.seq (.reg e90r3 [0, 5] 0) (.reg e90r4 [0, 5] 0))))
def e90r6 : EE := .q 2 (.conv .u8) [.s 5] none <|
 .x 3 (.bsl 5 1 [(.int .u8 0)] [(0, 1)]) [.r 2] none [] <|
 .x 4 (.app 5 1 1 [(.int .u8 0)]) [.s 0, .r 3] none [] <|
 .out [(4, .r 4)]
def e90 : EFn := ⟨(.seq (.reg e90r0 [0, 1] 0) (.seq (.reg e90r1 [0, 1] 0) (.seq (.block 0 (.loop [0, 5] e90l5)) (.seq (.reg e90r6 [0, 5] 0) .ret)))), [.slot 4], 23, 0⟩
theorem g90 : Good Tryz.prog 90 e90 := ⟨Tryz.f90, Tryz.func90, by kernel_rfl, by kernel_rfl, by kernel_rfl, by kernel_rfl⟩
/-! slices.DeleteFunc[[]*concord/core.lead,*concord/core.lead] -/
def e91r0 : EE := .out [(0, .s 0), (1, .s 1)]
def e91r1 : EE := .x 2 (.call 105) [.s 0, .s 1] none [] <|
 .out [(0, .s 0), (1, .s 1), (5, .r 2)]
def e91r2 : EE := .q 1 .eql [.s 5, .c (.int .i64 (-1))] none <|
 .out [(0, .s 0), (1, .s 1), (5, .s 5), (12, .r 1)]
def e91r3 : EE := .out [(4, .s 0)]
def e91r4 : EE := .q 1 .add [.s 5, .c (.int .i64 1)] none <|
 .out [(0, .s 0), (1, .s 1), (5, .s 5), (6, .r 1)]
def e91r5 : EE := .q 2 .len [.s 0] none <|
 .q 3 .lss [.s 6, .r 2] none <|
 .out [(0, .s 0), (1, .s 1), (5, .s 5), (6, .s 6), (19, .r 3)]
def e91r6 : EE := .q 2 (.ixs 1) [.s 0, .s 6] none <|
 .q 3 .ld [.r 2] none <|
 .out [(0, .s 0), (1, .s 1), (5, .s 5), (6, .s 6), (7, .r 3)]
def e91r7 : EE := .x 2 .callv [.s 1, .s 7] none [] <|
 .q 3 .not [.r 2] none <|
 .out [(0, .s 0), (1, .s 1), (5, .s 5), (6, .s 6), (7, .s 7), (29, .r 3)]
def e91r8 : EE := .q 3 (.ixs 1) [.s 0, .s 5] none <|
 .x 4 (.st 1) [.r 3, .s 7] none [] <|
 .out [(0, .s 0), (1, .s 1), (5, .s 5), (6, .s 6)]
def e91r9 : EE := .q 1 .add [.s 5, .c (.int .i64 1)] none <|
 .out [(0, .s 0), (1, .s 1), (5, .r 1), (6, .s 6)]
def e91r10 : EE := .q 1 .add [.s 6, .c (.int .i64 1)] none <|
 .out [(0, .s 0), (1, .s 1), (5, .s 5), (6, .r 1)]
def e91l11 : EC := (.seq (.seq (.reg e91r5 [0, 1, 5, 6] 0) (.cond (.s 19) .skip (.exit 0))) (.seq (.block 1 (.seq (.reg e91r6 [0, 1, 5, 6] 0) (.seq (.reg e91r7 [0, 1, 5, 6, 7] 0) (.cond (.s 29) (.seq (.reg e91r8 [0, 1, 5, 6, 7] 0) (.reg e91r9 [0, 1, 5, 6] 0)) .skip)))) (.reg e91r10 [0, 1, 5, 6] 0)))
def e91r12 : EE := .q 2 (.slc 1 true false) [.s 0, .s 5] none <|
 .x 3 (.clr [.nptr]) [.r 2] none [] <|
 .out [(0, .s 0), (5, .s 5)]
def e91r13 : EE := .q 2 (.slc 1 false true) [.s 0, .s 5] none <|
 .out [(4, .r 2)]
def e91 : EFn := ⟨(.seq (.reg e91r0 [0, 1] 0) (.seq (.reg e91r1 [0, 1] 0) (.seq (.seq (.reg e91r2 [0, 1, 5] 0) (.cond (.s 12) (.seq (.reg e91r3 [0] 0) .ret) .skip)) (.seq (.seq (.reg e91r4 [0, 1, 5] 0) (.block 0 (.loop [0, 1, 5, 6] e91l11))) (.seq (.reg e91r12 [0, 5] 0) (.seq (.reg e91r13 [0, 5] 0) .ret)))))), [.slot 4], 42, 0⟩
theorem g91 : Good Tryz.prog 91 e91 := ⟨Tryz.f91, Tryz.func91, by kernel_rfl, by kernel_rfl, by kernel_rfl, by kernel_rfl⟩
/-! (*concord/core.Core).leave$1 -/
def e92r0 : EE := .out [(0, .s 0), (1, .s 1)]
def e92r1 : EE := .q 1 .nl [.s 0] none <|
 .q 2 (.fld 0) [.r 1] none <|
 .q 3 (.lda 2) [.r 2] none <|
 .q 4 (.lda 2) [.s 1] none <|
 .q 5 (.eqc false [(.i .i64), (.i .i64)]) [.r 3, .r 4] none <|
 .out [(3, .r 5)]
def e92 : EFn := ⟨(.seq (.reg e92r0 [0, 1] 0) (.seq (.reg e92r1 [0, 1] 0) .ret)), [.slot 3], 10, 0⟩
theorem g92 : Good Tryz.prog 92 e92 := ⟨Tryz.f92, Tryz.func92, by kernel_rfl, by kernel_rfl, by kernel_rfl, by kernel_rfl⟩
/-! slices.rotateRight[*concord/core.lead] -/
def e94r0 : EE := .q 2 .len [.s 0] none <|
 .q 4 .sub [.r 2, .s 1] none <|
 .x 5 (.call 106) [.s 0, .r 4] none [] <|
 .out []
def e94 : EFn := ⟨(.reg e94r0 [0, 1] 0), [], 10, 0⟩
theorem g94 : Good Tryz.prog 94 e94 := ⟨Tryz.f94, Tryz.func94, by kernel_rfl, by kernel_rfl, by kernel_rfl, by kernel_rfl⟩
/-! concord/deps.Join -/
def e95r0 : EE := .x 0 (.alc [z, z, z, z, z, z, z, z] 39) [] none [] <|
 .out [(0, .s 0), (2, .r 0)]
def e95r1 : EE := .q 1 .len [.s 0] none <|
 .q 2 .eql [.r 1, .c z] none <|
 .out [(0, .s 0), (2, .s 2), (10, .r 2)]
def e95r2 : EE := .q 0 (.bld [z, z, z, z, z, z, z, z] []) [] none <|
 .x 1 (.st 8) [.s 2, .r 0] none [] <|
 .out [(2, .s 2)]
def e95r3 : EE := .q 1 (.ixs 8) [.s 0, .c z] none <|
 .q 2 (.lda 8) [.r 1] none <|
 .x 3 (.alc [z, z, z, z, z, z, z, z] 39) [] none [] <|
 .x 4 (.st 8) [.r 3, .r 2] none [] <|
 .out [(0, .s 0), (2, .s 2), (3, .r 3)]
def e95r4 : EE := .q 1 (.slc 8 true false) [.s 0, .c (.int .i64 1)] none <|
 .q 2 .len [.r 1] none <|
 .out [(2, .s 2), (3, .s 3), (16, .r 1), (17, .r 2), (18, .c z)]
def e95r5 : EE := .q 0 .lss [.s 18, .s 17] none <|
 .out [(2, .s 2), (3, .s 3), (16, .s 16), (17, .s 17), (18, .s 18), (19, .r 0)]
def e95r6 : EE := .q 0 (.ixs 8) [.s 16, .s 18] none <|
 .q 1 (.lda 8) [.r 0] none <|
 .x 2 (.alc [z, z, z, z, z, z, z, z] 39) [] none [] <|
 .x 3 (.st 8) [.r 2, .r 1] none [] <|
 .out [(2, .s 2), (3, .s 3), (5, .r 2), (16, .s 16), (17, .s 17), (18, .s 18)]
def e95r7 : EE := .q 0 (.fld 0) [.s 3] none <|
 .q 1 .ld [.r 0] none <|
 .q 2 (.fld 0) [.s 5] none <|
 .q 3 .ld [.r 2] none <|
 .q 4 .mx [.r 1, .r 3] none <|
 .q 5 (.fld 0) [.s 3] none <|
 .x 6 (.st 1) [.r 5, .r 4] none [] <|
 .out [(2, .s 2), (3, .s 3), (5, .s 5), (16, .s 16), (17, .s 17), (18, .s 18)]
def e95r8 : EE := .q 0 (.fld 1) [.s 5] none <|
 .q 1 (.lda 7) [.r 0] none <|
 .out [(2, .s 2), (3, .s 3), (16, .s 16), (17, .s 17), (18, .s 18), (29, .r 1), (30, .c z)]
def e95r9 : EE := .q 0 .lss [.s 30, .c (.int .i64 7)] none <|
 .out [(2, .s 2), (3, .s 3), (16, .s 16), (17, .s 17), (18, .s 18), (29, .s 29), (30, .s 30), (31, .r 0)]
def e95r10 : EE := .q 1 (.idx 7 1) [.s 29, .s 30] none <|
 .out [(2, .s 2), (3, .s 3), (6, .s 30), (7, .r 1), (16, .s 16), (17, .s 17), (18, .s 18), (29, .s 29), (30, .s 30)]
def e95r11 : EE := .q 2 (.fld 1) [.s 3] none <|
 .q 3 (.ixa 7 1) [.r 2, .s 6] none <|
 .q 4 .ld [.r 3] none <|
 .q 6 .mx [.r 4, .s 7] none <|
 .q 7 (.fld 1) [.s 3] none <|
 .q 8 (.ixa 7 1) [.r 7, .s 6] none <|
 .x 9 (.st 1) [.r 8, .r 6] none [] <|
 .out [(2, .s 2), (3, .s 3), (16, .s 16), (17, .s 17), (18, .s 18), (29, .s 29), (30, .s 30)]
def e95r12 : EE := .q 0 .add [.s 30, .c (.int .i64 1)] none <|
 .out [(2, .s 2), (3, .s 3), (16, .s 16), (17, .s 17), (18, .s 18), (29, .s 29), (30, .r 0)]
def e95l13 : EC := (.seq (.reg e95r9 [2, 3, 16, 17, 18, 29, 30] 0) (.seq (.cond (.s 31) .skip (.exit 2)) (.seq (.block 3 (.seq (.reg e95r10 [2, 3, 16, 17, 18, 29, 30] 0) (.reg e95r11 [2, 3, 6, 7, 16, 17, 18, 29, 30] 0))) (.reg e95r12 [2, 3, 16, 17, 18, 29, 30] 0))))
def e95r14 : EE := .q 0 .add [.s 18, .c (.int .i64 1)] none <|
 .out [(2, .s 2), (3, .s 3), (16, .s 16), (17, .s 17), (18, .r 0)]
def e95l15 : EC := (.seq (.reg e95r5 [2, 3, 16, 17, 18] 0) (.seq (.cond (.s 19) .skip (.exit 0)) (.seq (.block 1 (.seq (.reg e95r6 [2, 3, 16, 17, 18] 0) (.seq (.reg e95r7 [2, 3, 5, 16, 17, 18] 0) (.seq (.reg e95r8 [2, 3, 5, 16, 17, 18] 0) (.block 2 (.loop [2, 3, 16, 17, 18, 29, 30] e95l13)))))) (.reg e95r14 [2, 3, 16, 17, 18] 0))))
def e95r16 : EE := .q 0 (.lda 8) [.s 3] none <|
 .x 1 (.st 8) [.s 2, .r 0] none [] <|
 .out [(2, .s 2)]
def e95 : EFn := ⟨(.seq (.reg e95r0 [0] 0) (.seq (.seq (.reg e95r1 [0, 2] 0) (.cond (.s 10) (.seq (.reg e95r2 [2] 0) .ret) .skip)) (.seq (.reg e95r3 [0, 2] 0) (.seq (.seq (.reg e95r4 [0, 2, 3] 0) (.block 0 (.loop [2, 3, 16, 17, 18] e95l15))) (.seq (.reg e95r16 [2, 3] 0) .ret))))), [.cells 2 8], 46, 0⟩
theorem g95 : Good Tryz.prog 95 e95 := ⟨Tryz.f95, Tryz.func95, by kernel_rfl, by kernel_rfl, by kernel_rfl, by kernel_rfl⟩
/-! slices.Insert[[]*concord/core.wish,*concord/core.wish] -/
def e96r0 : EE := .out [(0, .s 0), (1, .s 1), (2, .s 2)]
def e96r1 : EE := .q 2 (.slc 1 true false) [.s 0, .s 1] none <|
 .out [(0, .s 0), (1, .s 1), (2, .s 2)]
def e96r2 : EE := .q 1 .len [.s 2] none <|
 .out [(0, .s 0), (1, .s 1), (2, .s 2), (7, .r 1)]
def e96r3 : EE := .q 1 .eql [.s 7, .c z] none <|
 .out [(0, .s 0), (1, .s 1), (2, .s 2), (7, .s 7), (16, .r 1)]
def e96r4 : EE := .out [(6, .s 0)]
def e96r5 : EE := .q 1 .len [.s 0] none <|
 .out [(0, .s 0), (1, .s 1), (2, .s 2), (7, .s 7), (8, .r 1)]
def e96r6 : EE := .q 2 .eql [.s 1, .s 8] none <|
 .out [(0, .s 0), (1, .s 1), (2, .s 2), (7, .s 7), (8, .s 8), (22, .r 2)]
def e96r7 : EE := .x 2 (.app 73 1 8 [.nptr]) [.s 0, .s 2] none [] <|
 .out [(6, .r 2)]
def e96r8 : EE := .q 2 .add [.s 8, .s 7] none <|
 .x 4 .bad [] none [] <|
 .q 5 .gtr [.r 2, .r 4] none <|
 .out [(0, .s 0), (1, .s 1), (2, .s 2), (7, .s 7), (8, .s 8), (31, .r 5)]
def e96r9 : EE := .q 2 (.slc 1 false true) [.s 0, .s 1] none <|
 .q 5 .add [.s 8, .s 7] none <|
 .q 7 .sub [.r 5, .s 1] none <|
 .x 8 .bad [] none [] <|
 .out [(0, .s 0), (1, .s 1), (2, .s 2), (7, .s 7), (9, .r 8)]
def e96r10 : EE := .q 2 (.slc 1 true false) [.s 9, .s 1] none <|
 .x 4 (.cpy 1) [.r 2, .s 2] none [] <|
 .out [(0, .s 0), (1, .s 1), (7, .s 7), (9, .s 9)]
def e96r11 : EE := .q 3 .add [.s 1, .s 7] none <|
 .q 4 (.slc 1 true false) [.s 9, .r 3] none <|
 .q 7 (.slc 1 true false) [.s 0, .s 1] none <|
 .x 8 (.cpy 1) [.r 4, .r 7] none [] <|
 .out [(9, .s 9)]
def e96r12 : EE := .out [(6, .s 9)]
def e96r13 : EE := .q 3 .add [.s 8, .s 7] none <|
 .q 4 (.slc 1 false true) [.s 0, .r 3] none <|
 .out [(0, .r 4), (1, .s 1), (2, .s 2), (7, .s 7), (8, .s 8)]
def e96r14 : EE := .q 4 .add [.s 1, .s 7] none <|
 .q 5 (.slc 1 true false) [.s 0, .r 4] none <|
 .x 6 .bad [] none [] <|
 .q 7 .not [.r 6] none <|
 .out [(0, .s 0), (1, .s 1), (2, .s 2), (7, .s 7), (8, .s 8), (68, .r 7)]
def e96r15 : EE := .q 3 .add [.s 1, .s 7] none <|
 .q 4 (.slc 1 true false) [.s 0, .r 3] none <|
 .q 7 (.slc 1 true false) [.s 0, .s 1] none <|
 .x 8 (.cpy 1) [.r 4, .r 7] none [] <|
 .out [(0, .s 0), (1, .s 1), (2, .s 2)]
def e96r16 : EE := .q 2 (.slc 1 true false) [.s 0, .s 1] none <|
 .x 4 (.cpy 1) [.r 2, .s 2] none [] <|
 .out [(0, .s 0)]
def e96r17 : EE := .out [(6, .s 0)]
def e96r18 : EE := .q 2 (.slc 1 true false) [.s 0, .s 8] none <|
 .x 4 (.cpy 1) [.r 2, .s 2] none [] <|
 .out [(0, .s 0), (1, .s 1), (7, .s 7)]
def e96r19 : EE := .q 2 (.slc 1 true false) [.s 0, .s 1] none <|
 .x 4 (.call 108) [.r 2, .s 7] none [] <|
 .out [(0, .s 0)]
def e96r20 : EE := .out [(6, .s 0)]
def e96 : EFn := ⟨(.seq (.reg e96r0 [0, 1, 2] 0) (.seq (.reg e96r1 [0, 1, 2] 0) (.seq (.reg e96r2 [0, 1, 2] 0) (.seq (.seq (.reg e96r3 [0, 1, 2, 7] 0) (.cond (.s 16) (.seq (.reg e96r4 [0] 0) .ret) .skip)) (.seq (.reg e96r5 [0, 1, 2, 7] 0) (.seq (.seq (.reg e96r6 [0, 1, 2, 7, 8] 0) (.cond (.s 22) (.seq (.reg e96r7 [0, 2] 0) .ret) .skip)) (.seq (.seq (.reg e96r8 [0, 1, 2, 7, 8] 0) (.cond (.s 31) (.seq (.reg e96r9 [0, 1, 2, 7, 8] 0) (.seq (.reg e96r10 [0, 1, 2, 7, 9] 0) (.seq (.reg e96r11 [0, 1, 7, 9] 0) (.seq (.reg e96r12 [9] 0) .ret)))) .skip)) (.seq (.reg e96r13 [0, 1, 2, 7, 8] 0) (.seq (.seq (.reg e96r14 [0, 1, 2, 7, 8] 0) (.cond (.s 68) (.seq (.reg e96r15 [0, 1, 2, 7] 0) (.seq (.reg e96r16 [0, 1, 2] 0) (.seq (.reg e96r17 [0] 0) .ret))) .skip)) (.seq (.reg e96r18 [0, 1, 2, 7, 8] 0) (.seq (.reg e96r19 [0, 1, 7] 0) (.seq (.reg e96r20 [0] 0) .ret)))))))))))), [.slot 6], 95, 0⟩
theorem g96 : Good Tryz.prog 96 e96 := ⟨Tryz.f96, Tryz.func96, by kernel_rfl, by kernel_rfl, by kernel_rfl, by kernel_rfl⟩
/-! concord/quorum.Pre -/
def e97r0 : EE := .x 0 (.box 39) [.s 2] none [] <|
 .x 2 (.alc [z, z, z, z, z, z, z, z] 39) [] none [] <|
 .out [(0, .s 0), (1, .s 1), (3, .s 3), (4, .s 4), (7, .r 0), (11, .r 2)]
def e97r1 : EE := .out [(0, .s 0), (1, .s 1), (3, .s 3), (4, .s 4), (7, .s 7), (11, .s 11), (12, .c z)]
def e97r2 : EE := .q 1 .len [.s 3] none <|
 .out [(0, .s 0), (1, .s 1), (3, .s 3), (4, .s 4), (7, .s 7), (11, .s 11), (12, .s 12), (15, .s 3), (16, .r 1), (17, .c z)]
def e97r3 : EE := .q 0 .lss [.s 17, .s 16] none <|
 .out [(0, .s 0), (1, .s 1), (3, .s 3), (4, .s 4), (7, .s 7), (11, .s 11), (12, .s 12), (15, .s 15), (16, .s 16), (17, .s 17), (18, .r 0)]
def e97r4 : EE := .q 0 (.ixs 8) [.s 15, .s 17] none <|
 .q 1 (.lda 8) [.r 0] none <|
 .x 2 (.alc [z, z, z, z, z, z, z, z] 39) [] none [] <|
 .x 3 (.st 8) [.r 2, .r 1] none [] <|
 .out [(0, .s 0), (1, .s 1), (3, .s 3), (4, .s 4), (7, .s 7), (11, .s 11), (12, .s 12), (14, .r 2), (15, .s 15), (16, .s 16), (17, .s 17)]
def e97r5 : EE := .q 0 (.lda 8) [.s 14] none <|
 .q 1 (.lda 8) [.s 7] none <|
 .q 2 (.eqc false [(.i .i64), (.i .i64), (.i .i64), (.i .i64), (.i .i64), (.i .i64), (.i .i64), (.i .i64)]) [.r 0, .r 1] none <|
 .out [(0, .s 0), (1, .s 1), (3, .s 3), (4, .s 4), (7, .s 7), (11, .s 11), (12, .s 12), (15, .s 15), (16, .s 16), (17, .s 17), (23, .r 2)]
def e97r6 : EE := .q 1 .add [.s 12, .c (.int .i64 1)] none <|
 .out [(0, .s 0), (1, .s 1), (3, .s 3), (4, .s 4), (7, .s 7), (11, .s 11), (12, .r 1), (15, .s 15), (16, .s 16), (17, .s 17)]
def e97r7 : EE := .q 0 .add [.s 17, .c (.int .i64 1)] none <|
 .out [(0, .s 0), (1, .s 1), (3, .s 3), (4, .s 4), (7, .s 7), (11, .s 11), (12, .s 12), (15, .s 15), (16, .s 16), (17, .r 0)]
def e97l8 : EC := (.seq (.reg e97r3 [0, 1, 3, 4, 7, 11, 12, 15, 16, 17] 0) (.seq (.cond (.s 18) .skip (.exit 0)) (.seq (.block 1 (.seq (.reg e97r4 [0, 1, 3, 4, 7, 11, 12, 15, 16, 17] 0) (.seq (.reg e97r5 [0, 1, 3, 4, 7, 11, 12, 14, 15, 16, 17] 0) (.cond (.s 23) (.reg e97r6 [0, 1, 3, 4, 7, 11, 12, 15, 16, 17] 0) .skip)))) (.reg e97r7 [0, 1, 3, 4, 7, 11, 12, 15, 16, 17] 0))))
def e97r9 : EE := .q 2 .mv [.s 12] (some (.s 1, true)) <|
 .q 3 .mv [.s 0] (some (.s 1, true)) <|
 .x 4 (.call 109) [.r 3] (some (.s 1, true)) [] <|
 .q 5 .sub [.r 4, .c (.int .i64 1)] (some (.s 1, true)) <|
 .q 6 .geq [.r 2, .r 5] (some (.s 1, true)) <|
 .q 7 .pick [.s 1, .r 6, .c (.bool false)] none <|
 .out [(0, .s 0), (1, .s 1), (3, .s 3), (4, .s 4), (7, .s 7), (11, .s 11), (12, .s 12), (34, .r 7)]
def e97r10 : EE := .q 0 (.lda 8) [.s 7] none <|
 .x 2 (.st 8) [.s 11, .r 0] none [] <|
 .out [(10, .c (.int .i64 1)), (11, .s 11)]
def e97r11 : EE := .q 1 .len [.s 3] none <|
 .x 3 (.call 71) [.s 0] none [] <|
 .q 4 .sub [.r 3, .c (.int .i64 1)] none <|
 .q 5 .lss [.r 1, .r 4] none <|
 .q 7 .mv [.s 1] (some (.r 5, false)) <|
 .q 8 .mv [.r 7] (some (.r 5, false)) <|
 .q 9 .mv [.s 4] (some (.r 8, true)) <|
 .q 10 .not [.r 9] (some (.r 8, true)) <|
 .q 11 .pick [.r 8, .r 10, .c (.bool false)] (some (.r 5, false)) <|
 .q 12 .mv [.r 11] (some (.r 5, false)) <|
 .q 13 .mv [.s 3] (some (.r 12, true)) <|
 .q 14 .len [.r 13] (some (.r 12, true)) <|
 .q 15 .mv [.s 12] (some (.r 12, true)) <|
 .q 16 .sub [.r 14, .r 15] (some (.r 12, true)) <|
 .q 17 .lss [.r 16, .c (.int .i64 2)] (some (.r 12, true)) <|
 .q 18 .pick [.r 12, .r 17, .c (.bool false)] (some (.r 5, false)) <|
 .q 19 .pick [.r 5, .c (.bool true), .r 18] none <|
 .out [(3, .s 3), (7, .s 7), (11, .s 11), (55, .r 19)]
def e97r12 : EE := .q 0 (.bld [z, z, z, z, z, z, z, z] []) [] none <|
 .x 2 (.st 8) [.s 11, .r 0] none [] <|
 .out [(10, .c z), (11, .s 11)]
def e97r13 : EE := .q 0 (.lda 8) [.s 7] none <|
 .x 1 (.bsl 39 1 [z, z, z, z, z, z, z, z] [(0, 8)]) [.r 0] none [] <|
 .x 3 (.app 39 8 64 [z, z, z, z, z, z, z, z]) [.r 1, .s 3] none [] <|
 .x 4 (.call 95) [.r 3] none [] <|
 .x 6 (.st 8) [.s 11, .r 4] none [] <|
 .out [(10, .c (.int .i64 2)), (11, .s 11)]
def e97 : EFn := ⟨(.seq (.reg e97r0 [0, 1, 2, 3, 4] 0) (.seq (.reg e97r1 [0, 1, 3, 4, 7, 11] 0) (.seq (.seq (.reg e97r2 [0, 1, 3, 4, 7, 11, 12] 0) (.block 0 (.loop [0, 1, 3, 4, 7, 11, 12, 15, 16, 17] e97l8))) (.seq (.seq (.reg e97r9 [0, 1, 3, 4, 7, 11, 12] 0) (.cond (.s 34) (.seq (.reg e97r10 [7, 11] 0) .ret) .skip)) (.seq (.seq (.reg e97r11 [0, 1, 3, 4, 7, 11, 12] 0) (.cond (.s 55) (.seq (.reg e97r12 [11] 0) .ret) .skip)) (.seq (.reg e97r13 [3, 7, 11] 0) .ret)))))), [.slot 10, .cells 11 8], 62, 0⟩
theorem g97 : Good Tryz.prog 97 e97 := ⟨Tryz.f97, Tryz.func97, by kernel_rfl, by kernel_rfl, by kernel_rfl, by kernel_rfl⟩
/-! (*concord/core.Core).accept -/
def e98r0 : EE := .x 0 (.box 30) [.s 2] none [] <|
 .x 1 (.box 39) [.s 3] none [] <|
 .out [(0, .s 0), (1, .s 1), (6, .r 0), (7, .r 1)]
def e98r1 : EE := .q 0 (.lda 8) [.s 7] none <|
 .x 1 (.call 15) [.r 0] none [] <|
 .q 2 .not [.r 1] none <|
 .q 4 .mv [.s 0] (some (.r 2, false)) <|
 .q 5 .mv [.s 1] (some (.r 2, false)) <|
 .q 6 .nl [.r 5] (some (.r 2, false)) <|
 .q 7 (.fld 0) [.r 6] (some (.r 2, false)) <|
 .q 8 (.lda 2) [.r 7] (some (.r 2, false)) <|
 .q 9 .mv [.s 1] (some (.r 2, false)) <|
 .q 10 .nl [.r 9] (some (.r 2, false)) <|
 .q 11 (.fld 3) [.r 10] (some (.r 2, false)) <|
 .q 12 (.lda 2) [.r 11] (some (.r 2, false)) <|
 .q 13 .mv [.s 1] (some (.r 2, false)) <|
 .q 14 .nl [.r 13] (some (.r 2, false)) <|
 .q 15 (.fld 3) [.r 14] (some (.r 2, false)) <|
 .q 16 (.lda 2) [.r 15] (some (.r 2, false)) <|
 .q 17 (.lda 7) [.s 6] (some (.r 2, false)) <|
 .q 18 (.lda 8) [.s 7] (some (.r 2, false)) <|
 .q 19 (.bld [z, z, z, z, z, z, z, z, zs, zs, zs, zs, z, z, z, z, z, z, z, z, (.bool false)] [(0, 1), (1, 2), (3, 2), (5, 7), (12, 8)]) [.c (.int .i64 2), .r 12, .r 16, .r 17, .r 18] (some (.r 2, false)) <|
 .x 20 (.call 16) [.r 4, .r 8, .r 19] (some (.r 2, false)) [] <|
 .q 21 .not [.r 20] (some (.r 2, false)) <|
 .q 22 .pick [.r 2, .c (.bool true), .r 21] none <|
 .out [(0, .s 0), (1, .s 1), (6, .s 6), (7, .s 7), (30, .r 22)]
def e98r2 : EE := .q 2 .nl [.s 1] none <|
 .q 3 (.fld 0) [.r 2] none <|
 .q 4 (.lda 2) [.r 3] none <|
 .x 5 (.call 61) [.s 0, .r 4] none [] <|
 .out []
def e98r3 : EE := .q 2 .nl [.s 1] none <|
 .q 3 (.fld 0) [.r 2] none <|
 .q 4 (.lda 2) [.r 3] none <|
 .q 6 .nl [.s 1] none <|
 .q 7 (.fld 3) [.r 6] none <|
 .q 8 (.lda 2) [.r 7] none <|
 .q 9 (.lda 7) [.s 6] none <|
 .q 10 (.lda 8) [.s 7] none <|
 .q 11 (.bld [z, z, z, z, z, (.bool false), z, z, z, zs, zs, zs, zs, z, z, z, z, z, z, z, z, z, z, z, z, z, z, z, .nsl, .nsl, z, z] [(0, 2), (2, 1), (3, 2), (6, 7), (13, 8)]) [.r 4, .c (.int .i64 1), .r 8, .r 9, .r 10] none <|
 .x 12 (.box 70) [.r 11] none [] <|
 .x 13 (.call 17) [.s 0, .r 12] none [] <|
 .out []
def e98 : EFn := ⟨(.seq (.reg e98r0 [0, 1, 2, 3] 0) (.seq (.seq (.reg e98r1 [0, 1, 6, 7] 0) (.cond (.s 30) (.seq (.reg e98r2 [0, 1] 0) .ret) .skip)) (.reg e98r3 [0, 1, 6, 7] 0))), [], 51, 0⟩
theorem g98 : Good Tryz.prog 98 e98 := ⟨Tryz.f98, Tryz.func98, by kernel_rfl, by kernel_rfl, by kernel_rfl, by kernel_rfl⟩
/-! concord/quorum.Prepared -/
def e99r0 : EE := .x 1 (.alc [z, z, z, zs, zs, zs, zs] 30) [] none [] <|
 .x 2 (.alc [z, z, z, z, z, z, z, z] 39) [] none [] <|
 .out [(0, .s 0), (1, .s 1), (2, .s 2), (7, .r 1), (8, .r 2)]
def e99r1 : EE := .q 1 .len [.s 2] none <|
 .x 3 (.call 71) [.s 0] none [] <|
 .q 4 .lss [.r 1, .r 3] none <|
 .out [(0, .s 0), (1, .s 1), (2, .s 2), (7, .s 7), (8, .s 8), (20, .r 4)]
def e99r2 : EE := .q 0 (.bld [z, z, z, zs, zs, zs, zs] []) [] none <|
 .q 1 (.bld [z, z, z, z, z, z, z, z] []) [] none <|
 .x 3 (.st 7) [.s 7, .r 0] none [] <|
 .x 4 (.st 8) [.s 8, .r 1] none [] <|
 .out [(6, .c z), (7, .s 7), (8, .s 8)]
def e99r3 : EE := .out [(0, .s 0), (1, .s 1), (2, .s 2), (7, .s 7), (8, .s 8), (9, .c z), (10, .c (.int .i64 (-1)))]
def e99r4 : EE := .out [(0, .s 0), (1, .s 1), (2, .s 2), (7, .s 7), (8, .s 8), (9, .s 9), (10, .s 10), (11, .c (.bool false))]
def e99r5 : EE := .q 1 .len [.s 2] none <|
 .out [(0, .s 0), (1, .s 1), (2, .s 2), (7, .s 7), (8, .s 8), (9, .s 9), (10, .s 10), (11, .s 11), (23, .s 2), (24, .r 1), (25, .c z)]
def e99r6 : EE := .q 0 .lss [.s 25, .s 24] none <|
 .out [(0, .s 0), (1, .s 1), (2, .s 2), (7, .s 7), (8, .s 8), (9, .s 9), (10, .s 10), (11, .s 11), (23, .s 23), (24, .s 24), (25, .s 25), (26, .r 0)]
def e99r7 : EE := .q 1 (.ixs 22) [.s 23, .s 25] none <|
 .q 2 (.lda 22) [.r 1] none <|
 .x 3 (.alc [z, z, z, z, z, z, z, z, z, zs, zs, zs, zs, z, z, z, z, z, z, z, z, (.bool false)] 81) [] none [] <|
 .x 5 (.st 22) [.r 3, .r 2] none [] <|
 .out [(0, .s 0), (1, .s 1), (2, .s 2), (7, .s 7), (8, .s 8), (9, .s 9), (10, .s 10), (11, .s 11), (12, .s 25), (13, .r 3), (23, .s 23), (24, .s 24), (25, .s 25)]
def e99r8 : EE := .q 0 (.fld 1) [.s 13] none <|
 .q 1 (.fld 0) [.r 0] none <|
 .q 2 .ld [.r 1] none <|
 .q 3 .eql [.r 2, .c (.int .i64 3)] none <|
 .out [(0, .s 0), (1, .s 1), (2, .s 2), (7, .s 7), (8, .s 8), (9, .s 9), (10, .s 10), (11, .s 11), (12, .s 12), (13, .s 13), (23, .s 23), (24, .s 24), (25, .s 25), (33, .r 3)]
def e99r9 : EE := .q 0 (.fld 1) [.s 13] none <|
 .q 1 (.fld 5) [.r 0] none <|
 .q 2 (.lda 7) [.r 1] none <|
 .q 3 (.fld 1) [.s 13] none <|
 .q 4 (.fld 12) [.r 3] none <|
 .q 5 (.lda 8) [.r 4] none <|
 .x 7 (.st 7) [.s 7, .r 2] none [⟨5, (.lda 8), [.r 4], none⟩] <|
 .x 8 (.st 8) [.s 8, .r 5] none [] <|
 .out [(6, .c (.int .i64 1)), (7, .s 7), (8, .s 8)]
def e99r10 : EE := .q 0 (.fld 0) [.s 13] none <|
 .q 1 .ld [.r 0] none <|
 .q 3 .eql [.r 1, .s 1] none <|
 .out [(0, .s 0), (1, .s 1), (2, .s 2), (7, .s 7), (8, .s 8), (9, .s 9), (10, .s 10), (11, .s 11), (12, .s 12), (13, .s 13), (23, .s 23), (24, .s 24), (25, .s 25), (43, .r 3)]
def e99r11 : EE := .out [(0, .s 0), (1, .s 1), (2, .s 2), (7, .s 7), (8, .s 8), (9, .s 9), (10, .s 10), (11, .c (.bool true)), (23, .s 23), (24, .s 24), (25, .s 25)]
def e99r12 : EE := .q 0 (.fld 1) [.s 13] none <|
 .q 1 (.fld 0) [.r 0] none <|
 .q 2 .ld [.r 1] none <|
 .q 3 .eql [.r 2, .c (.int .i64 1)] none <|
 .q 5 (.fld 1) [.s 13] (some (.r 3, true)) <|
 .q 6 (.fld 20) [.r 5] (some (.r 3, true)) <|
 .q 7 .ld [.r 6] (some (.r 3, true)) <|
 .q 8 .pick [.r 3, .r 7, .c (.bool false)] none <|
 .out [(0, .s 0), (1, .s 1), (2, .s 2), (7, .s 7), (8, .s 8), (9, .s 9), (10, .s 10), (11, .s 11), (12, .s 12), (23, .s 23), (24, .s 24), (25, .s 25), (52, .r 8)]
def e99r13 : EE := .q 1 .add [.s 9, .c (.int .i64 1)] none <|
 .out [(0, .s 0), (1, .s 1), (2, .s 2), (7, .s 7), (8, .s 8), (9, .r 1), (10, .s 10), (11, .s 11), (12, .s 12), (23, .s 23), (24, .s 24), (25, .s 25)]
def e99r14 : EE := .q 1 .lss [.s 10, .c z] none <|
 .out [(0, .s 0), (1, .s 1), (2, .s 2), (7, .s 7), (8, .s 8), (9, .s 9), (10, .s 10), (11, .s 11), (12, .s 12), (23, .s 23), (24, .s 24), (25, .s 25), (56, .r 1)]
def e99r15 : EE := .out [(0, .s 0), (1, .s 1), (2, .s 2), (7, .s 7), (8, .s 8), (9, .s 9), (10, .s 12), (11, .s 11), (23, .s 23), (24, .s 24), (25, .s 25)]
def e99r16 : EE := .q 0 .add [.s 25, .c (.int .i64 1)] none <|
 .out [(0, .s 0), (1, .s 1), (2, .s 2), (7, .s 7), (8, .s 8), (9, .s 9), (10, .s 10), (11, .s 11), (23, .s 23), (24, .s 24), (25, .r 0)]
def e99l17 : EC := (.seq (.reg e99r6 [0, 1, 2, 7, 8, 9, 10, 11, 23, 24, 25] 0) (.seq (.cond (.s 26) .skip (.exit 0)) (.seq (.block 1 (.seq (.reg e99r7 [0, 1, 2, 7, 8, 9, 10, 11, 23, 24, 25] 0) (.seq (.seq (.reg e99r8 [0, 1, 2, 7, 8, 9, 10, 11, 12, 13, 23, 24, 25] 0) (.cond (.s 33) (.seq (.reg e99r9 [7, 8, 13] 0) .ret) .skip)) (.seq (.reg e99r10 [0, 1, 2, 7, 8, 9, 10, 11, 12, 13, 23, 24, 25] 0) (.cond (.s 43) (.reg e99r11 [0, 1, 2, 7, 8, 9, 10, 23, 24, 25] 0) (.seq (.reg e99r12 [0, 1, 2, 7, 8, 9, 10, 11, 12, 13, 23, 24, 25] 0) (.cond (.s 52) (.seq (.reg e99r13 [0, 1, 2, 7, 8, 9, 10, 11, 12, 23, 24, 25] 0) (.seq (.reg e99r14 [0, 1, 2, 7, 8, 9, 10, 11, 12, 23, 24, 25] 0) (.cond (.s 56) (.reg e99r15 [0, 1, 2, 7, 8, 9, 11, 12, 23, 24, 25] 0) .skip))) .skip))))))) (.reg e99r16 [0, 1, 2, 7, 8, 9, 10, 11, 23, 24, 25] 0))))
def e99r18 : EE := .x 1 (.call 110) [.s 2, .c (.int .i64 2)] none [] <|
 .out [(0, .s 0), (2, .s 2), (7, .s 7), (8, .s 8), (9, .s 9), (10, .s 10), (11, .s 11), (14, .r 1)]
def e99r19 : EE := .q 1 .geq [.s 14, .c z] none <|
 .out [(0, .s 0), (2, .s 2), (7, .s 7), (8, .s 8), (9, .s 9), (10, .s 10), (11, .s 11), (14, .s 14), (62, .r 1)]
def e99r20 : EE := .q 2 (.ixs 22) [.s 2, .s 14] none <|
 .q 3 (.fld 1) [.r 2] none <|
 .q 4 (.fld 5) [.r 3] none <|
 .q 5 (.lda 7) [.r 4] none <|
 .q 8 (.ixs 22) [.s 2, .s 14] none <|
 .q 9 (.fld 1) [.r 8] none <|
 .q 10 (.fld 12) [.r 9] none <|
 .q 11 (.lda 8) [.r 10] none <|
 .x 13 (.st 7) [.s 7, .r 5] none [⟨11, (.lda 8), [.r 10], none⟩] <|
 .x 14 (.st 8) [.s 8, .r 11] none [] <|
 .out [(6, .c (.int .i64 2)), (7, .s 7), (8, .s 8)]
def e99r21 : EE := .x 1 (.call 110) [.s 2, .c (.int .i64 1)] none [] <|
 .out [(0, .s 0), (2, .s 2), (7, .s 7), (8, .s 8), (9, .s 9), (10, .s 10), (11, .s 11), (15, .r 1)]
def e99r22 : EE := .q 1 .lss [.s 15, .c z] none <|
 .out [(0, .s 0), (2, .s 2), (7, .s 7), (8, .s 8), (9, .s 9), (10, .s 10), (11, .s 11), (15, .s 15), (78, .r 1)]
def e99r23 : EE := .q 0 (.bld [z, z, z, zs, zs, zs, zs] []) [] none <|
 .q 1 (.bld [z, z, z, z, z, z, z, z] []) [] none <|
 .x 3 (.st 7) [.s 7, .r 0] none [] <|
 .x 4 (.st 8) [.s 8, .r 1] none [] <|
 .out [(6, .c (.int .i64 4)), (7, .s 7), (8, .s 8)]
def e99r24 : EE := .q 1 .not [.s 11] none <|
 .q 3 .mv [.s 9] (some (.r 1, true)) <|
 .q 4 .mv [.s 0] (some (.r 1, true)) <|
 .q 5 .quo [.r 4, .c (.int .i64 2)] (some (.r 1, true)) <|
 .q 6 .geq [.r 3, .r 5] (some (.r 1, true)) <|
 .q 7 .pick [.r 1, .r 6, .c (.bool false)] none <|
 .out [(2, .s 2), (7, .s 7), (8, .s 8), (10, .s 10), (15, .s 15), (88, .r 7)]
def e99r25 : EE := .q 2 (.ixs 22) [.s 2, .s 10] none <|
 .q 3 (.fld 1) [.r 2] none <|
 .q 4 (.fld 5) [.r 3] none <|
 .q 5 (.lda 7) [.r 4] none <|
 .q 8 (.ixs 22) [.s 2, .s 10] none <|
 .q 9 (.fld 1) [.r 8] none <|
 .q 10 (.fld 12) [.r 9] none <|
 .q 11 (.lda 8) [.r 10] none <|
 .x 13 (.st 7) [.s 7, .r 5] none [⟨11, (.lda 8), [.r 10], none⟩] <|
 .x 14 (.st 8) [.s 8, .r 11] none [] <|
 .out [(6, .c (.int .i64 2)), (7, .s 7), (8, .s 8)]
def e99r26 : EE := .q 2 (.ixs 22) [.s 2, .s 15] none <|
 .q 3 (.fld 1) [.r 2] none <|
 .q 4 (.fld 5) [.r 3] none <|
 .q 5 (.lda 7) [.r 4] none <|
 .q 8 (.ixs 22) [.s 2, .s 15] none <|
 .q 9 (.fld 1) [.r 8] none <|
 .q 10 (.fld 12) [.r 9] none <|
 .q 11 (.lda 8) [.r 10] none <|
 .x 13 (.st 7) [.s 7, .r 5] none [⟨11, (.lda 8), [.r 10], none⟩] <|
 .x 14 (.st 8) [.s 8, .r 11] none [] <|
 .out [(6, .c (.int .i64 3)), (7, .s 7), (8, .s 8)]
def e99 : EFn := ⟨(.seq (.reg e99r0 [0, 1, 2] 0) (.seq (.seq (.reg e99r1 [0, 1, 2, 7, 8] 0) (.cond (.s 20) (.seq (.reg e99r2 [7, 8] 0) .ret) .skip)) (.seq (.reg e99r3 [0, 1, 2, 7, 8] 0) (.seq (.reg e99r4 [0, 1, 2, 7, 8, 9, 10] 0) (.seq (.seq (.reg e99r5 [0, 1, 2, 7, 8, 9, 10, 11] 0) (.block 0 (.loop [0, 1, 2, 7, 8, 9, 10, 11, 23, 24, 25] e99l17))) (.seq (.seq (.reg e99r18 [0, 2, 7, 8, 9, 10, 11] 0) (.seq (.reg e99r19 [0, 2, 7, 8, 9, 10, 11, 14] 0) (.cond (.s 62) (.seq (.reg e99r20 [2, 7, 8, 14] 0) .ret) .skip))) (.seq (.reg e99r21 [0, 2, 7, 8, 9, 10, 11] 0) (.seq (.seq (.reg e99r22 [0, 2, 7, 8, 9, 10, 11, 15] 0) (.cond (.s 78) (.seq (.reg e99r23 [7, 8] 0) .ret) .skip)) (.seq (.seq (.reg e99r24 [0, 2, 7, 8, 9, 10, 11, 15] 0) (.cond (.s 88) (.seq (.reg e99r25 [2, 7, 8, 10] 0) .ret) .skip)) (.seq (.reg e99r26 [2, 7, 8, 15] 0) .ret)))))))))), [.slot 6, .cells 7 7, .cells 8 8], 113, 0⟩
theorem g99 : Good Tryz.prog 99 e99 := ⟨Tryz.f99, Tryz.func99, by kernel_rfl, by kernel_rfl, by kernel_rfl, by kernel_rfl⟩
/-! concord/quorum.Noop -/
def e100r0 : EE := .x 0 (.box 25) [.s 0] none [] <|
 .x 1 (.alc [z, z, z, z, z, z, z, z] 39) [] none [] <|
 .out [(1, .r 0), (2, .r 1)]
def e100r1 : EE := .x 0 (.alc [z, z, z, z, z, z, z, z] 39) [] none [] <|
 .out [(1, .s 1), (2, .s 2), (3, .r 0)]
def e100r2 : EE := .q 0 (.lda 2) [.s 1] none <|
 .x 1 (.call 36) [.r 0] none [] <|
 .out [(1, .s 1), (2, .s 2), (3, .s 3), (5, .r 1)]
def e100r3 : EE := .q 0 (.fld 0) [.s 1] none <|
 .q 1 .ld [.r 0] none <|
 .q 2 (.fld 1) [.s 1] none <|
 .q 3 .ld [.r 2] none <|
 .q 4 .sub [.r 3, .c (.int .i64 1)] none <|
 .q 5 (.fld 1) [.s 3] none <|
 .q 6 (.ixa 7 1) [.r 5, .r 1] none <|
 .x 7 (.st 1) [.r 6, .r 4] none [] <|
 .out [(2, .s 2), (3, .s 3)]
def e100r4 : EE := .q 0 (.lda 8) [.s 3] none <|
 .x 1 (.st 8) [.s 2, .r 0] none [] <|
 .out [(2, .s 2)]
def e100 : EFn := ⟨(.seq (.reg e100r0 [0] 0) (.seq (.reg e100r1 [1, 2] 0) (.seq (.seq (.reg e100r2 [1, 2, 3] 0) (.cond (.s 5) (.reg e100r3 [1, 2, 3] 0) .skip)) (.seq (.reg e100r4 [2, 3] 0) .ret)))), [.cells 2 8], 14, 0⟩
theorem g100 : Good Tryz.prog 100 e100 := ⟨Tryz.f100, Tryz.func100, by kernel_rfl, by kernel_rfl, by kernel_rfl, by kernel_rfl⟩
/-! (*concord/core.Core).again -/
def e101r0 : EE := .x 0 (.box 30) [.s 2] none [] <|
 .x 1 (.box 39) [.s 3] none [] <|
 .out [(0, .s 0), (1, .s 1), (6, .r 0), (7, .r 1)]
def e101r1 : EE := .q 0 (.lda 8) [.s 7] none <|
 .q 2 .nl [.s 0] none <|
 .q 3 (.fld 3) [.r 2] none <|
 .q 4 .ld [.r 3] none <|
 .q 6 .nl [.s 1] none <|
 .q 7 (.fld 0) [.r 6] none <|
 .q 8 (.lda 2) [.r 7] none <|
 .q 9 (.lda 7) [.s 6] none <|
 .both false
 (.x 10 (.call 14) [.r 4, .r 8, .r 9] none [⟨0, (.lda 8), [.s 7], none⟩] <|
 .both false
 (.x 11 (.bsl 39 2 [z, z, z, z, z, z, z, z, z, z, z, z, z, z, z, z] [(0, 8), (8, 8)]) [.r 0, .r 10] none [] <|
 .both false
 (.x 12 (.call 95) [.r 11] none [] <|
 .x 13 (.alc [z, z, z, z, z, z, z, z] 39) [] none [⟨0, (.lda 8), [.s 7], none⟩, ⟨4, .ld, [.r 3], none⟩, ⟨8, (.lda 2), [.r 7], none⟩, ⟨9, (.lda 7), [.s 6], none⟩] <|
 .x 14 (.st 8) [.r 13, .r 12] none [] <|
 .out [(0, .s 0), (1, .s 1), (6, .s 6), (8, .r 13)])
 (.x 13 (.alc [z, z, z, z, z, z, z, z] 39) [] none [⟨0, (.lda 8), [.s 7], none⟩, ⟨4, .ld, [.r 3], none⟩, ⟨8, (.lda 2), [.r 7], none⟩, ⟨9, (.lda 7), [.s 6], none⟩] <|
 .x 12 (.call 95) [.r 11] none [] <|
 .x 14 (.st 8) [.r 13, .r 12] none [] <|
 .out [(0, .s 0), (1, .s 1), (6, .s 6), (8, .r 13)]))
 (.x 13 (.alc [z, z, z, z, z, z, z, z] 39) [] none [⟨0, (.lda 8), [.s 7], none⟩, ⟨4, .ld, [.r 3], none⟩, ⟨8, (.lda 2), [.r 7], none⟩, ⟨9, (.lda 7), [.s 6], none⟩] <|
 .x 11 (.bsl 39 2 [z, z, z, z, z, z, z, z, z, z, z, z, z, z, z, z] [(0, 8), (8, 8)]) [.r 0, .r 10] none [] <|
 .x 12 (.call 95) [.r 11] none [] <|
 .x 14 (.st 8) [.r 13, .r 12] none [] <|
 .out [(0, .s 0), (1, .s 1), (6, .s 6), (8, .r 13)]))
 (.x 13 (.alc [z, z, z, z, z, z, z, z] 39) [] none [⟨0, (.lda 8), [.s 7], none⟩, ⟨4, .ld, [.r 3], none⟩, ⟨8, (.lda 2), [.r 7], none⟩, ⟨9, (.lda 7), [.s 6], none⟩] <|
 .x 10 (.call 14) [.r 4, .r 8, .r 9] none [⟨0, (.lda 8), [.s 7], none⟩] <|
 .x 11 (.bsl 39 2 [z, z, z, z, z, z, z, z, z, z, z, z, z, z, z, z] [(0, 8), (8, 8)]) [.r 0, .r 10] none [] <|
 .x 12 (.call 95) [.r 11] none [] <|
 .x 14 (.st 8) [.r 13, .r 12] none [] <|
 .out [(0, .s 0), (1, .s 1), (6, .s 6), (8, .r 13)])
def e101r2 : EE := .q 0 (.lda 8) [.s 8] none <|
 .x 1 (.call 15) [.r 0] none [] <|
 .q 2 .not [.r 1] none <|
 .q 4 .mv [.s 0] (some (.r 2, false)) <|
 .q 5 .mv [.s 1] (some (.r 2, false)) <|
 .q 6 .nl [.r 5] (some (.r 2, false)) <|
 .q 7 (.fld 0) [.r 6] (some (.r 2, false)) <|
 .q 8 (.lda 2) [.r 7] (some (.r 2, false)) <|
 .q 9 .mv [.s 1] (some (.r 2, false)) <|
 .q 10 .nl [.r 9] (some (.r 2, false)) <|
 .q 11 (.fld 3) [.r 10] (some (.r 2, false)) <|
 .q 12 (.lda 2) [.r 11] (some (.r 2, false)) <|
 .q 13 .mv [.s 1] (some (.r 2, false)) <|
 .q 14 .nl [.r 13] (some (.r 2, false)) <|
 .q 15 (.fld 3) [.r 14] (some (.r 2, false)) <|
 .q 16 (.lda 2) [.r 15] (some (.r 2, false)) <|
 .q 17 (.lda 7) [.s 6] (some (.r 2, false)) <|
 .q 18 (.lda 8) [.s 8] (some (.r 2, false)) <|
 .q 19 (.bld [z, z, z, z, z, z, z, z, zs, zs, zs, zs, z, z, z, z, z, z, z, z, (.bool false)] [(0, 1), (1, 2), (3, 2), (5, 7), (12, 8)]) [.c (.int .i64 1), .r 12, .r 16, .r 17, .r 18] (some (.r 2, false)) <|
 .x 20 (.call 16) [.r 4, .r 8, .r 19] (some (.r 2, false)) [] <|
 .q 21 .not [.r 20] (some (.r 2, false)) <|
 .q 22 .pick [.r 2, .c (.bool true), .r 21] none <|
 .out [(0, .s 0), (1, .s 1), (6, .s 6), (8, .s 8), (44, .r 22)]
def e101r3 : EE := .q 2 .nl [.s 1] none <|
 .q 3 (.fld 0) [.r 2] none <|
 .q 4 (.lda 2) [.r 3] none <|
 .x 5 (.call 61) [.s 0, .r 4] none [] <|
 .out []
def e101r4 : EE := .q 2 .nl [.s 1] none <|
 .q 3 (.fld 0) [.r 2] none <|
 .q 4 (.lda 2) [.r 3] none <|
 .q 6 .nl [.s 1] none <|
 .q 7 (.fld 3) [.r 6] none <|
 .q 8 (.lda 2) [.r 7] none <|
 .q 9 (.lda 7) [.s 6] none <|
 .q 10 (.lda 8) [.s 8] none <|
 .q 11 (.bld [z, z, z, z, z, (.bool false), z, z, z, zs, zs, zs, zs, z, z, z, z, z, z, z, z, z, z, z, z, z, z, z, .nsl, .nsl, z, z] [(0, 2), (2, 1), (3, 2), (6, 7), (13, 8)]) [.r 4, .c z, .r 8, .r 9, .r 10] none <|
 .x 12 (.box 70) [.r 11] none [] <|
 .x 13 (.call 17) [.s 0, .r 12] none [] <|
 .out []
def e101 : EFn := ⟨(.seq (.reg e101r0 [0, 1, 2, 3] 0) (.seq (.reg e101r1 [0, 1, 6, 7] 15) (.seq (.seq (.reg e101r2 [0, 1, 6, 8] 0) (.cond (.s 44) (.seq (.reg e101r3 [0, 1] 0) .ret) .skip)) (.reg e101r4 [0, 1, 6, 8] 0)))), [], 65, 0⟩
theorem g101 : Good Tryz.prog 101 e101 := ⟨Tryz.f101, Tryz.func101, by kernel_rfl, by kernel_rfl, by kernel_rfl, by kernel_rfl⟩
/-! (*concord/pack.Reader).Text -/
def e102r0 : EE := .out [(0, .s 0), (1, .s 1)]
def e102r1 : EE := .q 1 .nl [.s 0] none <|
 .q 2 (.fld 1) [.r 1] none <|
 .q 3 .ld [.r 2] none <|
 .out [(0, .s 0), (1, .s 1), (5, .r 3)]
def e102r2 : EE := .x 2 (.call 111) [.s 0, .s 1] none [] <|
 .out [(0, .s 0), (5, .s 5), (6, .r 2)]
def e102r3 : EE := .q 1 .nl [.s 0] none <|
 .q 2 (.fld 2) [.r 1] none <|
 .q 3 .ld [.r 2] none <|
 .q 4 .neq [.r 3, .c z] none <|
 .out [(0, .s 0), (5, .s 5), (6, .s 6), (19, .r 4)]
def e102r4 : EE := .out [(4, .c zs)]
def e102r5 : EE := .q 2 .nl [.s 0] none <|
 .q 3 (.fld 0) [.r 2] none <|
 .q 4 .ld [.r 3] none <|
 .q 5 .len [.r 4] none <|
 .q 7 .nl [.s 0] none <|
 .q 8 (.fld 1) [.r 7] none <|
 .q 9 .ld [.r 8] none <|
 .q 10 .sub [.r 5, .r 9] none <|
 .q 11 .gtr [.s 6, .r 10] none <|
 .out [(0, .s 0), (5, .s 5), (6, .s 6), (31, .r 11)]
def e102r6 : EE := .x 2 (.call 75) [.s 0, .s 5, .c (.int .i64 3)] none [] <|
 .out []
def e102r7 : EE := .out [(4, .c zs)]
def e102r8 : EE := .q 1 .nl [.s 0] none <|
 .q 2 (.fld 0) [.r 1] none <|
 .q 3 .ld [.r 2] none <|
 .q 5 .nl [.s 0] none <|
 .q 6 (.fld 1) [.r 5] none <|
 .q 7 .ld [.r 6] none <|
 .q 9 .nl [.s 0] none <|
 .q 10 (.fld 1) [.r 9] none <|
 .q 11 .ld [.r 10] none <|
 .q 13 .add [.r 11, .s 6] none <|
 .q 14 (.slc 1 true true) [.r 3, .r 7, .r 13] none <|
 .q 15 .b2s [.r 14] none <|
 .out [(0, .s 0), (6, .s 6), (7, .r 15)]
def e102r9 : EE := .q 1 .nl [.s 0] none <|
 .q 2 (.fld 1) [.r 1] none <|
 .q 3 .ld [.r 2] none <|
 .q 5 .add [.r 3, .s 6] none <|
 .q 6 .nl [.s 0] none <|
 .q 7 (.fld 1) [.r 6] none <|
 .x 8 (.st 1) [.r 7, .r 5] none [] <|
 .out [(7, .s 7)]
def e102r10 : EE := .out [(4, .s 7)]
def e102 : EFn := ⟨(.seq (.reg e102r0 [0, 1] 0) (.seq (.reg e102r1 [0, 1] 0) (.seq (.reg e102r2 [0, 1, 5] 0) (.seq (.seq (.reg e102r3 [0, 5, 6] 0) (.cond (.s 19) (.seq (.reg e102r4 [] 0) .ret) .skip)) (.seq (.seq (.reg e102r5 [0, 5, 6] 0) (.cond (.s 31) (.seq (.reg e102r6 [0, 5] 0) (.seq (.reg e102r7 [] 0) .ret)) .skip)) (.seq (.reg e102r8 [0, 6] 0) (.seq (.reg e102r9 [0, 6, 7] 0) (.seq (.reg e102r10 [7] 0) .ret)))))))), [.slot 4], 60, 0⟩
theorem g102 : Good Tryz.prog 102 e102 := ⟨Tryz.f102, Tryz.func102, by kernel_rfl, by kernel_rfl, by kernel_rfl, by kernel_rfl⟩
/-! concord/pack.Text -/
def e103r0 : EE := .out [(0, .s 0), (1, .s 1)]
def e103r1 : EE := .q 2 .lenz [.s 1] none <|
 .q 3 .add [.c (.int .i64 10), .r 2] none <|
 .x 4 (.call 74) [.s 0, .r 3] none [] <|
 .q 6 .lenz [.s 1] none <|
 .x 7 (.call 90) [.r 4, .r 6] none [] <|
 .x 9 (.apps 5) [.r 7, .s 1] none [] <|
 .out [(4, .r 9)]
def e103 : EFn := ⟨(.seq (.reg e103r0 [0, 1] 0) (.seq (.reg e103r1 [0, 1] 0) .ret)), [.slot 4], 15, 0⟩
theorem g103 : Good Tryz.prog 103 e103 := ⟨Tryz.f103, Tryz.func103, by kernel_rfl, by kernel_rfl, by kernel_rfl, by kernel_rfl⟩
/-! concord/word.Zig -/
def e104r0 : EE := .out [(0, .s 0)]
def e104r1 : EE := .q 1 (.conv .u64) [.s 0] none <|
 .q 2 .shl [.r 1, .c (.int .u64 1)] none <|
 .q 4 .shr [.s 0, .c (.int .u64 63)] none <|
 .q 5 (.conv .u64) [.r 4] none <|
 .q 6 .xor [.r 2, .r 5] none <|
 .out [(2, .r 6)]
def e104 : EFn := ⟨(.seq (.reg e104r0 [0] 0) (.seq (.reg e104r1 [0] 0) .ret)), [.slot 2], 10, 0⟩
theorem g104 : Good Tryz.prog 104 e104 := ⟨Tryz.f104, Tryz.func104, by kernel_rfl, by kernel_rfl, by kernel_rfl, by kernel_rfl⟩
/-! slices.IndexFunc[[]*concord/core.lead,*concord/core.lead] -/
def e105r0 : EE := .out [(0, .s 0), (1, .s 1)]
def e105r1 : EE := .q 1 .len [.s 0] none <|
 .out [(0, .s 0), (1, .s 1), (7, .r 1), (8, .c z)]
def e105r2 : EE := .q 0 .lss [.s 8, .s 7] none <|
 .out [(0, .s 0), (1, .s 1), (7, .s 7), (8, .s 8), (9, .r 0)]
def e105r3 : EE := .out [(0, .s 0), (1, .s 1), (5, .s 8), (7, .s 7), (8, .s 8)]
def e105r4 : EE := .q 3 (.ixs 1) [.s 0, .s 5] none <|
 .q 4 .ld [.r 3] none <|
 .x 5 .callv [.s 1, .r 4] none [] <|
 .out [(0, .s 0), (1, .s 1), (5, .s 5), (7, .s 7), (8, .s 8), (16, .r 5)]
def e105r5 : EE := .out [(4, .s 5)]
def e105r6 : EE := .q 0 .add [.s 8, .c (.int .i64 1)] none <|
 .out [(0, .s 0), (1, .s 1), (7, .s 7), (8, .r 0)]
def e105l7 : EC := (.seq (.reg e105r2 [0, 1, 7, 8] 0) (.seq (.cond (.s 9) .skip (.exit 0)) (.seq (.block 1 (.seq (.reg e105r3 [0, 1, 7, 8] 0) (.seq (.reg e105r4 [0, 1, 5, 7, 8] 0) (.cond (.s 16) (.seq (.reg e105r5 [5] 0) .ret) .skip)))) (.reg e105r6 [0, 1, 7, 8] 0))))
def e105r8 : EE := .out [(4, .c (.int .i64 (-1)))]
def e105 : EFn := ⟨(.seq (.reg e105r0 [0, 1] 0) (.seq (.seq (.reg e105r1 [0, 1] 0) (.block 0 (.loop [0, 1, 7, 8] e105l7))) (.seq (.reg e105r8 [] 0) .ret))), [.slot 4], 19, 0⟩
theorem g105 : Good Tryz.prog 105 e105 := ⟨Tryz.f105, Tryz.func105, by kernel_rfl, by kernel_rfl, by kernel_rfl, by kernel_rfl⟩
/-! slices.rotateLeft[*concord/core.lead] -/
def e106r0 : EE := .q 2 (.slc 1 false true) [.s 0, .s 1] none <|
 .x 3 (.call 112) [.r 2] none [] <|
 .out [(0, .s 0), (1, .s 1)]
def e106r1 : EE := .q 2 (.slc 1 true false) [.s 0, .s 1] none <|
 .x 3 (.call 112) [.r 2] none [] <|
 .out [(0, .s 0)]
def e106r2 : EE := .x 1 (.call 112) [.s 0] none [] <|
 .out []
def e106 : EFn := ⟨(.seq (.reg e106r0 [0, 1] 0) (.seq (.reg e106r1 [0, 1] 0) (.reg e106r2 [0] 0))), [], 14, 0⟩
theorem g106 : Good Tryz.prog 106 e106 := ⟨Tryz.f106, Tryz.func106, by kernel_rfl, by kernel_rfl, by kernel_rfl, by kernel_rfl⟩
/-! slices.rotateRight[*concord/core.wish] -/
def e108r0 : EE := .q 2 .len [.s 0] none <|
 .q 4 .sub [.r 2, .s 1] none <|
 .x 5 (.call 113) [.s 0, .r 4] none [] <|
 .out []
def e108 : EFn := ⟨(.reg e108r0 [0, 1] 0), [], 10, 0⟩
theorem g108 : Good Tryz.prog 108 e108 := ⟨Tryz.f108, Tryz.func108, by kernel_rfl, by kernel_rfl, by kernel_rfl, by kernel_rfl⟩
/-! concord/quorum.Fast -/
def e109r0 : EE := .out [(0, .s 0)]
def e109r1 : EE := .q 1 .sub [.s 0, .c (.int .i64 1)] none <|
 .out [(2, .r 1)]
def e109 : EFn := ⟨(.seq (.reg e109r0 [0] 0) (.seq (.reg e109r1 [0] 0) .ret)), [.slot 2], 5, 0⟩
theorem g109 : Good Tryz.prog 109 e109 := ⟨Tryz.f109, Tryz.func109, by kernel_rfl, by kernel_rfl, by kernel_rfl, by kernel_rfl⟩
/-! concord/quorum.best -/
def e110r0 : EE := .out [(0, .s 0), (1, .s 1)]
def e110r1 : EE := .out [(0, .s 0), (1, .s 1), (5, .c (.int .i64 (-1)))]
def e110r2 : EE := .q 1 .len [.s 0] none <|
 .out [(0, .s 0), (1, .s 1), (5, .s 5), (8, .s 0), (9, .r 1), (10, .c z)]
def e110r3 : EE := .q 0 .lss [.s 10, .s 9] none <|
 .out [(0, .s 0), (1, .s 1), (5, .s 5), (8, .s 8), (9, .s 9), (10, .s 10), (11, .r 0)]
def e110r4 : EE := .q 1 (.ixs 22) [.s 8, .s 10] none <|
 .q 2 (.lda 22) [.r 1] none <|
 .x 3 (.alc [z, z, z, z, z, z, z, z, z, zs, zs, zs, zs, z, z, z, z, z, z, z, z, (.bool false)] 81) [] none [] <|
 .x 5 (.st 22) [.r 3, .r 2] none [] <|
 .out [(0, .s 0), (1, .s 1), (5, .s 5), (6, .s 10), (7, .r 3), (8, .s 8), (9, .s 9), (10, .s 10)]
def e110r5 : EE := .q 0 (.fld 1) [.s 7] none <|
 .q 1 (.fld 0) [.r 0] none <|
 .q 2 .ld [.r 1] none <|
 .q 4 .eql [.r 2, .s 1] none <|
 .q 6 .mv [.s 5] (some (.r 4, true)) <|
 .q 7 .lss [.r 6, .c z] (some (.r 4, true)) <|
 .q 8 .mv [.r 7] (some (.r 4, true)) <|
 .q 9 .mv [.s 0] (some (.r 8, false)) <|
 .q 10 .mv [.s 5] (some (.r 8, false)) <|
 .q 11 (.ixs 22) [.r 9, .r 10] (some (.r 8, false)) <|
 .q 12 (.fld 1) [.r 11] (some (.r 8, false)) <|
 .q 13 (.fld 3) [.r 12] (some (.r 8, false)) <|
 .q 14 (.lda 2) [.r 13] (some (.r 8, false)) <|
 .q 15 (.fld 1) [.s 7] (some (.r 8, false)) <|
 .q 16 (.fld 3) [.r 15] (some (.r 8, false)) <|
 .q 17 (.lda 2) [.r 16] (some (.r 8, false)) <|
 .x 18 (.call 23) [.r 14, .r 17] (some (.r 8, false)) [] <|
 .q 19 .pick [.r 8, .c (.bool true), .r 18] (some (.r 4, true)) <|
 .q 20 .pick [.r 4, .r 19, .c (.bool false)] none <|
 .out [(0, .s 0), (1, .s 1), (5, .s 5), (6, .s 6), (8, .s 8), (9, .s 9), (10, .s 10), (35, .r 20)]
def e110r6 : EE := .out [(0, .s 0), (1, .s 1), (5, .s 6), (8, .s 8), (9, .s 9), (10, .s 10)]
def e110r7 : EE := .q 0 .add [.s 10, .c (.int .i64 1)] none <|
 .out [(0, .s 0), (1, .s 1), (5, .s 5), (8, .s 8), (9, .s 9), (10, .r 0)]
def e110l8 : EC := (.seq (.reg e110r3 [0, 1, 5, 8, 9, 10] 0) (.seq (.cond (.s 11) .skip (.exit 0)) (.seq (.block 1 (.seq (.reg e110r4 [0, 1, 5, 8, 9, 10] 0) (.seq (.reg e110r5 [0, 1, 5, 6, 7, 8, 9, 10] 0) (.cond (.s 35) (.reg e110r6 [0, 1, 6, 8, 9, 10] 0) .skip)))) (.reg e110r7 [0, 1, 5, 8, 9, 10] 0))))
def e110r9 : EE := .out [(4, .s 5)]
def e110 : EFn := ⟨(.seq (.reg e110r0 [0, 1] 0) (.seq (.reg e110r1 [0, 1] 0) (.seq (.seq (.reg e110r2 [0, 1, 5] 0) (.block 0 (.loop [0, 1, 5, 8, 9, 10] e110l8))) (.seq (.reg e110r9 [5] 0) .ret)))), [.slot 4], 39, 0⟩
theorem g110 : Good Tryz.prog 110 e110 := ⟨Tryz.f110, Tryz.func110, by kernel_rfl, by kernel_rfl, by kernel_rfl, by kernel_rfl⟩
/-! (*concord/pack.Reader).Count -/
def e111r0 : EE := .out [(0, .s 0), (1, .s 1)]
def e111r1 : EE := .q 1 .nl [.s 0] none <|
 .q 2 (.fld 1) [.r 1] none <|
 .q 3 .ld [.r 2] none <|
 .out [(0, .s 0), (1, .s 1), (5, .r 3)]
def e111r2 : EE := .x 1 (.call 50) [.s 0] none [] <|
 .out [(0, .s 0), (1, .s 1), (5, .s 5), (6, .r 1)]
def e111r3 : EE := .q 1 .nl [.s 0] none <|
 .q 2 (.fld 2) [.r 1] none <|
 .q 3 .ld [.r 2] none <|
 .q 4 .eql [.r 3, .c z] none <|
 .q 6 .mv [.s 6] (some (.r 4, true)) <|
 .q 7 .lss [.r 6, .c z] (some (.r 4, true)) <|
 .q 8 .mv [.r 7] (some (.r 4, true)) <|
 .q 9 .mv [.s 6] (some (.r 8, false)) <|
 .q 10 .mv [.s 1] (some (.r 8, false)) <|
 .q 11 .gtr [.r 9, .r 10] (some (.r 8, false)) <|
 .q 12 .pick [.r 8, .c (.bool true), .r 11] (some (.r 4, true)) <|
 .q 13 .pick [.r 4, .r 12, .c (.bool false)] none <|
 .out [(0, .s 0), (5, .s 5), (6, .s 6), (26, .r 13)]
def e111r4 : EE := .x 2 (.call 75) [.s 0, .s 5, .c (.int .i64 2)] none [] <|
 .out []
def e111r5 : EE := .out [(4, .c z)]
def e111r6 : EE := .out [(4, .s 6)]
def e111 : EFn := ⟨(.seq (.reg e111r0 [0, 1] 0) (.seq (.reg e111r1 [0, 1] 0) (.seq (.reg e111r2 [0, 1, 5] 0) (.seq (.seq (.reg e111r3 [0, 1, 5, 6] 0) (.cond (.s 26) (.seq (.reg e111r4 [0, 5] 0) (.seq (.reg e111r5 [] 0) .ret)) .skip)) (.seq (.reg e111r6 [6] 0) .ret))))), [.slot 4], 31, 0⟩
theorem g111 : Good Tryz.prog 111 e111 := ⟨Tryz.f111, Tryz.func111, by kernel_rfl, by kernel_rfl, by kernel_rfl, by kernel_rfl⟩
/-! slices.Reverse[[]*concord/core.lead,*concord/core.lead] -/
def e112r0 : EE := .q 1 .len [.s 0] none <|
 .q 2 .sub [.r 1, .c (.int .i64 1)] none <|
 .out [(0, .s 0), (2, .c z), (3, .r 2)]
def e112r1 : EE := .q 2 .lss [.s 2, .s 3] none <|
 .out [(0, .s 0), (2, .s 2), (3, .s 3), (9, .r 2)]
def e112r2 : EE := .q 6 (.ixs 1) [.s 0, .s 3] none <|
 .q 7 .ld [.r 6] none <|
 .q 10 (.ixs 1) [.s 0, .s 2] none <|
 .q 11 .ld [.r 10] none <|
 .q 12 (.ixs 1) [.s 0, .s 2] none <|
 .x 13 (.st 1) [.r 12, .r 7] none [] <|
 .q 14 (.ixs 1) [.s 0, .s 3] none <|
 .x 15 (.st 1) [.r 14, .r 11] none [] <|
 .out [(0, .s 0), (2, .s 2), (3, .s 3)]
def e112r3 : EE := .q 1 .add [.s 2, .c (.int .i64 1)] none <|
 .q 3 .sub [.s 3, .c (.int .i64 1)] none <|
 .out [(0, .s 0), (2, .r 1), (3, .r 3)]
def e112l4 : EC := (.seq (.seq (.reg e112r1 [0, 2, 3] 0) (.cond (.s 9) .skip (.exit 0))) (.seq (.block 1 (.reg e112r2 [0, 2, 3] 0)) (.reg e112r3 [0, 2, 3] 0)))
def e112 : EFn := ⟨(.seq (.reg e112r0 [0] 0) (.block 0 (.loop [0, 2, 3] e112l4))), [], 28, 0⟩
theorem g112 : Good Tryz.prog 112 e112 := ⟨Tryz.f112, Tryz.func112, by kernel_rfl, by kernel_rfl, by kernel_rfl, by kernel_rfl⟩
/-! slices.rotateLeft[*concord/core.wish] -/
def e113r0 : EE := .q 2 (.slc 1 false true) [.s 0, .s 1] none <|
 .x 3 (.call 114) [.r 2] none [] <|
 .out [(0, .s 0), (1, .s 1)]
def e113r1 : EE := .q 2 (.slc 1 true false) [.s 0, .s 1] none <|
 .x 3 (.call 114) [.r 2] none [] <|
 .out [(0, .s 0)]
def e113r2 : EE := .x 1 (.call 114) [.s 0] none [] <|
 .out []
def e113 : EFn := ⟨(.seq (.reg e113r0 [0, 1] 0) (.seq (.reg e113r1 [0, 1] 0) (.reg e113r2 [0] 0))), [], 14, 0⟩
theorem g113 : Good Tryz.prog 113 e113 := ⟨Tryz.f113, Tryz.func113, by kernel_rfl, by kernel_rfl, by kernel_rfl, by kernel_rfl⟩
/-! slices.Reverse[[]*concord/core.wish,*concord/core.wish] -/
def e114r0 : EE := .q 1 .len [.s 0] none <|
 .q 2 .sub [.r 1, .c (.int .i64 1)] none <|
 .out [(0, .s 0), (2, .c z), (3, .r 2)]
def e114r1 : EE := .q 2 .lss [.s 2, .s 3] none <|
 .out [(0, .s 0), (2, .s 2), (3, .s 3), (9, .r 2)]
def e114r2 : EE := .q 6 (.ixs 1) [.s 0, .s 3] none <|
 .q 7 .ld [.r 6] none <|
 .q 10 (.ixs 1) [.s 0, .s 2] none <|
 .q 11 .ld [.r 10] none <|
 .q 12 (.ixs 1) [.s 0, .s 2] none <|
 .x 13 (.st 1) [.r 12, .r 7] none [] <|
 .q 14 (.ixs 1) [.s 0, .s 3] none <|
 .x 15 (.st 1) [.r 14, .r 11] none [] <|
 .out [(0, .s 0), (2, .s 2), (3, .s 3)]
def e114r3 : EE := .q 1 .add [.s 2, .c (.int .i64 1)] none <|
 .q 3 .sub [.s 3, .c (.int .i64 1)] none <|
 .out [(0, .s 0), (2, .r 1), (3, .r 3)]
def e114l4 : EC := (.seq (.seq (.reg e114r1 [0, 2, 3] 0) (.cond (.s 9) .skip (.exit 0))) (.seq (.block 1 (.reg e114r2 [0, 2, 3] 0)) (.reg e114r3 [0, 2, 3] 0)))
def e114 : EFn := ⟨(.seq (.reg e114r0 [0] 0) (.block 0 (.loop [0, 2, 3] e114l4))), [], 28, 0⟩
theorem g114 : Good Tryz.prog 114 e114 := ⟨Tryz.f114, Tryz.func114, by kernel_rfl, by kernel_rfl, by kernel_rfl, by kernel_rfl⟩
end Go.Ev
