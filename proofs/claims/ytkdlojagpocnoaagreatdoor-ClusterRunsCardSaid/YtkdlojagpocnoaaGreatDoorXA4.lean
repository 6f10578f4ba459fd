import Derived.Test.YtkdlojagpocnoaaGreatDoorEvB
import Derived.Test.YtkdlojagpocnoaaGreatDoorProg
set_option linter.unusedVariables false
namespace Go.Ev
open Go.Fw Go.Proofs
/-! concord/sum.On -/
def e238r0 : EE := .out [(0, .s 0), (1, .s 1)]
def e238r1 : EE := .q 1 .cpl [.s 0] none <|
 .out [(0, .r 1), (1, .s 1)]
def e238r2 : EE := .q 1 .len [.s 1] none <|
 .out [(0, .s 0), (10, .s 1), (11, .r 1), (12, .c z)]
def e238r3 : EE := .q 0 .lss [.s 12, .s 11] none <|
 .out [(0, .s 0), (10, .s 10), (11, .s 11), (12, .s 12), (13, .r 0)]
def e238r4 : EE := .q 0 (.ixs 1) [.s 10, .s 12] none <|
 .q 1 .ld [.r 0] none <|
 .out [(0, .s 0), (6, .r 1), (10, .s 10), (11, .s 11), (12, .s 12)]
def e238r5 : EE := .q 2 (.conv .u32) [.s 6] none <|
 .q 3 .xor [.s 0, .r 2] none <|
 .out [(0, .r 3), (10, .s 10), (11, .s 11), (12, .s 12)]
def e238r6 : EE := .out [(0, .s 0), (10, .s 10), (11, .s 11), (12, .s 12), (20, .c z)]
def e238r7 : EE := .q 0 .lss [.s 20, .c (.int .i64 8)] none <|
 .out [(0, .s 0), (10, .s 10), (11, .s 11), (12, .s 12), (20, .s 20), (21, .r 0)]
def e238r8 : EE := .q 1 .and [.s 0, .c (.int .u32 1)] none <|
 .out [(0, .s 0), (7, .r 1), (10, .s 10), (11, .s 11), (12, .s 12), (20, .s 20)]
def e238r9 : EE := .q 1 .shr [.s 0, .c (.int .u64 1)] none <|
 .out [(0, .r 1), (7, .s 7), (10, .s 10), (11, .s 11), (12, .s 12), (20, .s 20)]
def e238r10 : EE := .q 1 .eql [.s 7, .c (.int .u32 1)] none <|
 .out [(0, .s 0), (10, .s 10), (11, .s 11), (12, .s 12), (20, .s 20), (27, .r 1)]
def e238r11 : EE := .q 1 .xor [.s 0, .c (.int .u32 3988292384)] none <|
 .out [(0, .r 1), (10, .s 10), (11, .s 11), (12, .s 12), (20, .s 20)]
def e238r12 : EE := .q 0 .add [.s 20, .c (.int .i64 1)] none <|
 .out [(0, .s 0), (10, .s 10), (11, .s 11), (12, .s 12), (20, .r 0)]
def e238l13 : EC := (.seq (.reg e238r7 [0, 10, 11, 12, 20] 0) (.seq (.cond (.s 21) .skip (.exit 2)) (.seq (.block 3 (.seq (.reg e238r8 [0, 10, 11, 12, 20] 0) (.seq (.reg e238r9 [0, 7, 10, 11, 12, 20] 0) (.seq (.reg e238r10 [0, 7, 10, 11, 12, 20] 0) (.cond (.s 27) (.reg e238r11 [0, 10, 11, 12, 20] 0) .skip))))) (.reg e238r12 [0, 10, 11, 12, 20] 0))))
def e238r14 : EE := .q 0 .add [.s 12, .c (.int .i64 1)] none <|
 .out [(0, .s 0), (10, .s 10), (11, .s 11), (12, .r 0)]
def e238l15 : EC := (.seq (.reg e238r3 [0, 10, 11, 12] 0) (.seq (.cond (.s 13) .skip (.exit 0)) (.seq (.block 1 (.seq (.reg e238r4 [0, 10, 11, 12] 0) (.seq (.reg e238r5 [0, 6, 10, 11, 12] 0) (.seq (.reg e238r6 [0, 10, 11, 12] 0) (.block 2 (.loop [0, 10, 11, 12, 20] e238l13)))))) (.reg e238r14 [0, 10, 11, 12] 0))))
def e238r16 : EE := .q 1 .cpl [.s 0] none <|
 .out [(4, .r 1)]
def e238 : EFn := ⟨(.seq (.reg e238r0 [0, 1] 0) (.seq (.reg e238r1 [0, 1] 0) (.seq (.seq (.reg e238r2 [0, 1] 0) (.block 0 (.loop [0, 10, 11, 12] e238l15))) (.seq (.reg e238r16 [0] 0) .ret)))), [.slot 4], 34, 0⟩
theorem g238 : Good Tryz.prog 238 e238 := ⟨Tryz.f238, Tryz.func238, by kernel_rfl, by kernel_rfl, by kernel_rfl, by kernel_rfl⟩
/-! (*concord/pack.Reader).Flag -/
def e240r0 : EE := .out [(0, .s 0)]
def e240r1 : EE := .q 1 .nl [.s 0] none <|
 .q 2 (.fld 2) [.r 1] none <|
 .q 3 .ld [.r 2] none <|
 .q 4 .neq [.r 3, .c z] none <|
 .out [(0, .s 0), (8, .r 4)]
def e240r2 : EE := .out [(2, .c (.bool false))]
def e240r3 : EE := .q 1 .nl [.s 0] none <|
 .q 2 (.fld 1) [.r 1] none <|
 .q 3 .ld [.r 2] none <|
 .q 5 .nl [.s 0] none <|
 .q 6 (.fld 0) [.r 5] none <|
 .q 7 .ld [.r 6] none <|
 .q 8 .len [.r 7] none <|
 .q 9 .eql [.r 3, .r 8] none <|
 .out [(0, .s 0), (18, .r 9)]
def e240r4 : EE := .q 2 .nl [.s 0] none <|
 .q 3 (.fld 1) [.r 2] none <|
 .q 4 .ld [.r 3] none <|
 .x 5 (.call 178) [.s 0, .r 4, .c (.int .i64 3)] none [] <|
 .out []
def e240r5 : EE := .out [(2, .c (.bool false))]
def e240r6 : EE := .q 1 .nl [.s 0] none <|
 .q 2 (.fld 0) [.r 1] none <|
 .q 3 .ld [.r 2] none <|
 .q 5 .nl [.s 0] none <|
 .q 6 (.fld 1) [.r 5] none <|
 .q 7 .ld [.r 6] none <|
 .q 8 (.ixs 1) [.r 3, .r 7] none <|
 .q 9 .ld [.r 8] none <|
 .out [(0, .s 0), (3, .r 9)]
def e240r7 : EE := .q 1 .gtr [.s 3, .c (.int .u8 1)] none <|
 .out [(0, .s 0), (3, .s 3), (36, .r 1)]
def e240r8 : EE := .q 2 .nl [.s 0] none <|
 .q 3 (.fld 1) [.r 2] none <|
 .q 4 .ld [.r 3] none <|
 .x 5 (.call 178) [.s 0, .r 4, .c (.int .i64 4)] none [] <|
 .out []
def e240r9 : EE := .out [(2, .c (.bool false))]
def e240r10 : EE := .q 1 .nl [.s 0] none <|
 .q 2 (.fld 1) [.r 1] none <|
 .q 3 .ld [.r 2] none <|
 .q 4 .add [.r 3, .c (.int .i64 1)] none <|
 .q 5 .nl [.s 0] none <|
 .q 6 (.fld 1) [.r 5] none <|
 .x 7 (.st 1) [.r 6, .r 4] none [] <|
 .out [(3, .s 3)]
def e240r11 : EE := .q 1 .eql [.s 3, .c (.int .u8 1)] none <|
 .out [(2, .r 1)]
def e240 : EFn := ⟨(.seq (.reg e240r0 [0] 0) (.seq (.seq (.reg e240r1 [0] 0) (.cond (.s 8) (.seq (.reg e240r2 [] 0) .ret) .skip)) (.seq (.seq (.reg e240r3 [0] 0) (.cond (.s 18) (.seq (.reg e240r4 [0] 0) (.seq (.reg e240r5 [] 0) .ret)) .skip)) (.seq (.reg e240r6 [0] 0) (.seq (.seq (.reg e240r7 [0, 3] 0) (.cond (.s 36) (.seq (.reg e240r8 [0] 0) (.seq (.reg e240r9 [] 0) .ret)) .skip)) (.seq (.reg e240r10 [0, 3] 0) (.seq (.reg e240r11 [3] 0) .ret))))))), [.slot 2], 52, 0⟩
theorem g240 : Good Tryz.prog 240 e240 := ⟨Tryz.f240, Tryz.func240, by kernel_rfl, by kernel_rfl, by kernel_rfl, by kernel_rfl⟩
/-! (*concord/pack.Reader).Text -/
def e241r0 : EE := .out [(0, .s 0), (1, .s 1)]
def e241r1 : EE := .q 1 .nl [.s 0] none <|
 .q 2 (.fld 1) [.r 1] none <|
 .q 3 .ld [.r 2] none <|
 .out [(0, .s 0), (1, .s 1), (5, .r 3)]
def e241r2 : EE := .x 2 (.call 297) [.s 0, .s 1] none [] <|
 .out [(0, .s 0), (5, .s 5), (6, .r 2)]
def e241r3 : EE := .q 1 .nl [.s 0] none <|
 .q 2 (.fld 2) [.r 1] none <|
 .q 3 .ld [.r 2] none <|
 .q 4 .neq [.r 3, .c z] none <|
 .out [(0, .s 0), (5, .s 5), (6, .s 6), (19, .r 4)]
def e241r4 : EE := .out [(4, .c zs)]
def e241r5 : EE := .q 2 .nl [.s 0] none <|
 .q 3 (.fld 0) [.r 2] none <|
 .q 4 .ld [.r 3] none <|
 .q 5 .len [.r 4] none <|
 .q 7 .nl [.s 0] none <|
 .q 8 (.fld 1) [.r 7] none <|
 .q 9 .ld [.r 8] none <|
 .q 10 .sub [.r 5, .r 9] none <|
 .q 11 .gtr [.s 6, .r 10] none <|
 .out [(0, .s 0), (5, .s 5), (6, .s 6), (31, .r 11)]
def e241r6 : EE := .x 2 (.call 178) [.s 0, .s 5, .c (.int .i64 3)] none [] <|
 .out []
def e241r7 : EE := .out [(4, .c zs)]
def e241r8 : EE := .q 1 .nl [.s 0] none <|
 .q 2 (.fld 0) [.r 1] none <|
 .q 3 .ld [.r 2] none <|
 .q 5 .nl [.s 0] none <|
 .q 6 (.fld 1) [.r 5] none <|
 .q 7 .ld [.r 6] none <|
 .q 9 .nl [.s 0] none <|
 .q 10 (.fld 1) [.r 9] none <|
 .q 11 .ld [.r 10] none <|
 .q 13 .add [.r 11, .s 6] none <|
 .q 14 (.slc 1 true true) [.r 3, .r 7, .r 13] none <|
 .q 15 .b2s [.r 14] none <|
 .out [(0, .s 0), (6, .s 6), (7, .r 15)]
def e241r9 : EE := .q 1 .nl [.s 0] none <|
 .q 2 (.fld 1) [.r 1] none <|
 .q 3 .ld [.r 2] none <|
 .q 5 .add [.r 3, .s 6] none <|
 .q 6 .nl [.s 0] none <|
 .q 7 (.fld 1) [.r 6] none <|
 .x 8 (.st 1) [.r 7, .r 5] none [] <|
 .out [(7, .s 7)]
def e241r10 : EE := .out [(4, .s 7)]
def e241 : EFn := ⟨(.seq (.reg e241r0 [0, 1] 0) (.seq (.reg e241r1 [0, 1] 0) (.seq (.reg e241r2 [0, 1, 5] 0) (.seq (.seq (.reg e241r3 [0, 5, 6] 0) (.cond (.s 19) (.seq (.reg e241r4 [] 0) .ret) .skip)) (.seq (.seq (.reg e241r5 [0, 5, 6] 0) (.cond (.s 31) (.seq (.reg e241r6 [0, 5] 0) (.seq (.reg e241r7 [] 0) .ret)) .skip)) (.seq (.reg e241r8 [0, 6] 0) (.seq (.reg e241r9 [0, 6, 7] 0) (.seq (.reg e241r10 [7] 0) .ret)))))))), [.slot 4], 60, 0⟩
theorem g241 : Good Tryz.prog 241 e241 := ⟨Tryz.f241, Tryz.func241, by kernel_rfl, by kernel_rfl, by kernel_rfl, by kernel_rfl⟩
/-! strings.TrimPrefix -/
def e242r0 : EE := .out [(0, .s 0), (1, .s 1)]
def e242r1 : EE := .x 2 (.call 298) [.s 0, .s 1] none [] <|
 .out [(4, .r 2)]
def e242 : EFn := ⟨(.seq (.reg e242r0 [0, 1] 0) (.seq (.reg e242r1 [0, 1] 0) .ret)), [.slot 4], 8, 0⟩
theorem g242 : Good Tryz.prog 242 e242 := ⟨Tryz.f242, Tryz.func242, by kernel_rfl, by kernel_rfl, by kernel_rfl, by kernel_rfl⟩
/-! concord/frame.Next -/
def e243r0 : EE := .out [(0, .s 0), (1, .s 1)]
def e243r1 : EE := .q 1 .lss [.s 1, .c z] none <|
 .q 3 .mv [.s 1] (some (.r 1, false)) <|
 .q 4 .mv [.s 0] (some (.r 1, false)) <|
 .q 5 .len [.r 4] (some (.r 1, false)) <|
 .q 6 .gtr [.r 3, .r 5] (some (.r 1, false)) <|
 .q 7 .pick [.r 1, .c (.bool true), .r 6] none <|
 .out [(0, .s 0), (1, .s 1), (20, .r 7)]
def e243r2 : EE := .out [(4, .c .nsl), (5, .c z), (6, .c (.int .i64 1))]
def e243r3 : EE := .q 2 (.slc 1 true false) [.s 0, .s 1] none <|
 .out [(1, .s 1), (7, .r 2)]
def e243r4 : EE := .x 1 (.call 165) [.s 7, .c z, .c (.int .i64 2)] none [] <|
 .q 3 (.ext 0) [.r 1] none <|
 .q 4 (.ext 1) [.r 1] none <|
 .out [(1, .s 1), (7, .s 7), (8, .r 3), (9, .r 4)]
def e243r5 : EE := .q 1 .neq [.s 9, .c z] none <|
 .out [(1, .s 1), (7, .s 7), (8, .s 8), (30, .r 1)]
def e243r6 : EE := .out [(4, .c .nsl), (5, .c z), (6, .c (.int .i64 3))]
def e243r7 : EE := .q 1 (.conv .i64) [.s 8] none <|
 .out [(1, .s 1), (7, .s 7), (10, .r 1)]
def e243r8 : EE := .q 1 .eql [.s 10, .c z] none <|
 .q 3 .mv [.s 10] (some (.r 1, false)) <|
 .q 4 .gtr [.r 3, .c (.int .i64 16384)] (some (.r 1, false)) <|
 .q 5 .pick [.r 1, .c (.bool true), .r 4] none <|
 .out [(1, .s 1), (7, .s 7), (10, .s 10), (38, .r 5)]
def e243r9 : EE := .out [(4, .c .nsl), (5, .c z), (6, .c (.int .i64 4))]
def e243r10 : EE := .q 1 .len [.s 7] none <|
 .q 3 .add [.c (.int .i64 2), .s 10] none <|
 .q 4 .add [.r 3, .c (.int .i64 4)] none <|
 .q 5 .lss [.r 1, .r 4] none <|
 .out [(1, .s 1), (7, .s 7), (10, .s 10), (44, .r 5)]
def e243r11 : EE := .out [(4, .c .nsl), (5, .c z), (6, .c (.int .i64 3))]
def e243r12 : EE := .q 2 .add [.c (.int .i64 2), .s 10] none <|
 .x 3 (.call 165) [.s 7, .r 2, .c (.int .i64 4)] none [] <|
 .q 5 (.ext 0) [.r 3] none <|
 .q 6 (.ext 1) [.r 3] none <|
 .out [(1, .s 1), (7, .s 7), (10, .s 10), (11, .r 5)]
def e243r13 : EE := .q 3 .add [.c (.int .i64 2), .s 10] none <|
 .q 4 (.slc 1 false true) [.s 7, .r 3] none <|
 .x 5 (.call 166) [.r 4] none [] <|
 .q 6 (.conv .u64) [.r 5] none <|
 .q 7 .neq [.s 11, .r 6] none <|
 .out [(1, .s 1), (7, .s 7), (10, .s 10), (59, .r 7)]
def e243r14 : EE := .out [(4, .c .nsl), (5, .c z), (6, .c (.int .i64 6))]
def e243r15 : EE := .q 2 .add [.c (.int .i64 2), .s 10] none <|
 .q 3 (.slc 1 true true) [.s 7, .c (.int .i64 2), .r 2] none <|
 .x 4 (.app 5 1 1 [(.int .u8 0)]) [.c .nsl, .r 3] none [] <|
 .q 6 .add [.s 1, .c (.int .i64 2)] none <|
 .q 8 .add [.r 6, .s 10] none <|
 .q 9 .add [.r 8, .c (.int .i64 4)] none <|
 .out [(4, .r 4), (5, .r 9), (6, .c z)]
def e243 : EFn := ⟨(.seq (.reg e243r0 [0, 1] 0) (.seq (.seq (.reg e243r1 [0, 1] 0) (.cond (.s 20) (.seq (.reg e243r2 [] 0) .ret) .skip)) (.seq (.reg e243r3 [0, 1] 0) (.seq (.reg e243r4 [1, 7] 0) (.seq (.seq (.reg e243r5 [1, 7, 8, 9] 0) (.cond (.s 30) (.seq (.reg e243r6 [] 0) .ret) .skip)) (.seq (.reg e243r7 [1, 7, 8] 0) (.seq (.seq (.reg e243r8 [1, 7, 10] 0) (.cond (.s 38) (.seq (.reg e243r9 [] 0) .ret) .skip)) (.seq (.seq (.reg e243r10 [1, 7, 10] 0) (.cond (.s 44) (.seq (.reg e243r11 [] 0) .ret) .skip)) (.seq (.seq (.reg e243r12 [1, 7, 10] 0) (.seq (.reg e243r13 [1, 7, 10, 11] 0) (.cond (.s 59) (.seq (.reg e243r14 [] 0) .ret) .skip))) (.seq (.reg e243r15 [1, 7, 10] 0) .ret)))))))))), [.slot 4, .slot 5, .slot 6], 70, 0⟩
theorem g243 : Good Tryz.prog 243 e243 := ⟨Tryz.f243, Tryz.func243, by kernel_rfl, by kernel_rfl, by kernel_rfl, by kernel_rfl⟩
/-! concord/letter.getBallot -/
def e244r0 : EE := .x 0 (.alc [z, z] 42) [] none [] <|
 .out [(0, .s 0), (2, .r 0)]
def e244r1 : EE := .x 1 (.call 98) [.s 0] none [] <|
 .out [(0, .s 0), (2, .s 2), (3, .r 1)]
def e244r2 : EE := .x 2 (.call 98) [.s 0] none [] <|
 .q 3 (.bld [z, z] [(0, 1), (1, 1)]) [.s 3, .r 2] none <|
 .x 4 (.st 2) [.s 2, .r 3] none [] <|
 .out [(2, .s 2)]
def e244 : EFn := ⟨(.seq (.reg e244r0 [0] 0) (.seq (.reg e244r1 [0, 2] 0) (.seq (.reg e244r2 [0, 2, 3] 0) .ret))), [.cells 2 2], 10, 0⟩
theorem g244 : Good Tryz.prog 244 e244 := ⟨Tryz.f244, Tryz.func244, by kernel_rfl, by kernel_rfl, by kernel_rfl, by kernel_rfl⟩
/-! concord/cmd.Get -/
def e245r0 : EE := .x 0 (.alc [z, z, z, zs, zs, zs, zs] 33) [] none [] <|
 .out [(0, .s 0), (2, .r 0)]
def e245r1 : EE := .x 1 (.call 98) [.s 0] none [] <|
 .q 2 (.bld [z, z, z, zs, zs, zs, zs] [(0, 1)]) [.r 1] none <|
 .x 3 (.alc [z, z, z, zs, zs, zs, zs] 33) [] none [] <|
 .x 4 (.st 7) [.r 3, .r 2] none [] <|
 .out [(0, .s 0), (2, .s 2), (3, .r 3)]
def e245r2 : EE := .q 0 (.fld 0) [.s 3] none <|
 .q 1 .ld [.r 0] none <|
 .q 2 .neq [.r 1, .c z] none <|
 .out [(0, .s 0), (2, .s 2), (3, .s 3), (9, .r 2)]
def e245r3 : EE := .x 1 (.call 98) [.s 0] none [] <|
 .q 2 (.fld 1) [.s 3] none <|
 .x 3 (.st 1) [.r 2, .r 1] none [] <|
 .out [(0, .s 0), (2, .s 2), (3, .s 3)]
def e245r4 : EE := .x 1 (.call 98) [.s 0] none [] <|
 .q 2 (.fld 2) [.s 3] none <|
 .x 3 (.st 1) [.r 2, .r 1] none [] <|
 .out [(0, .s 0), (2, .s 2), (3, .s 3)]
def e245r5 : EE := .x 1 (.call 241) [.s 0, .c (.int .i64 16)] none [] <|
 .q 2 (.fld 3) [.s 3] none <|
 .x 3 (.st 1) [.r 2, .r 1] none [] <|
 .out [(0, .s 0), (2, .s 2), (3, .s 3)]
def e245r6 : EE := .q 0 (.fld 0) [.s 3] none <|
 .q 1 .ld [.r 0] none <|
 .out [(0, .s 0), (2, .s 2), (3, .s 3), (20, .r 1)]
def e245r7 : EE := .q 0 .eql [.s 20, .c (.int .i64 2)] none <|
 .out [(0, .s 0), (2, .s 2), (3, .s 3), (20, .s 20), (21, .r 0)]
def e245r8 : EE := .x 1 (.call 241) [.s 0, .c (.int .i64 64)] none [] <|
 .q 2 (.fld 6) [.s 3] none <|
 .x 3 (.st 1) [.r 2, .r 1] none [] <|
 .out [(0, .s 0), (2, .s 2), (3, .s 3)]
def e245r9 : EE := .q 0 .eql [.s 20, .c (.int .i64 4)] none <|
 .out [(0, .s 0), (2, .s 2), (3, .s 3), (20, .s 20), (26, .r 0)]
def e245r10 : EE := .x 1 (.call 241) [.s 0, .c (.int .i64 64)] none [] <|
 .q 2 (.fld 5) [.s 3] none <|
 .x 3 (.st 1) [.r 2, .r 1] none [] <|
 .out [(0, .s 0), (2, .s 2), (3, .s 3)]
def e245r11 : EE := .x 1 (.call 241) [.s 0, .c (.int .i64 64)] none [] <|
 .q 2 (.fld 6) [.s 3] none <|
 .x 3 (.st 1) [.r 2, .r 1] none [] <|
 .out [(0, .s 0), (2, .s 2), (3, .s 3)]
def e245r12 : EE := .q 0 .eql [.s 20, .c (.int .i64 5)] none <|
 .out [(0, .s 0), (2, .s 2), (3, .s 3), (34, .r 0)]
def e245r13 : EE := .x 1 (.call 241) [.s 0, .c (.int .i64 16)] none [] <|
 .q 2 (.fld 4) [.s 3] none <|
 .x 3 (.st 1) [.r 2, .r 1] none [] <|
 .out [(0, .s 0), (2, .s 2), (3, .s 3)]
def e245r14 : EE := .x 1 (.call 167) [.s 0] none [] <|
 .q 2 .eql [.r 1, .c z] none <|
 .q 4 (.lda 7) [.s 3] (some (.r 2, true)) <|
 .x 5 (.call 41) [.r 4] (some (.r 2, true)) [] <|
 .q 6 .not [.r 5] (some (.r 2, true)) <|
 .q 7 .pick [.r 2, .r 6, .c (.bool false)] none <|
 .out [(0, .s 0), (2, .s 2), (3, .s 3), (46, .r 7)]
def e245r15 : EE := .x 1 (.call 247) [.s 0] none [] <|
 .out [(0, .s 0), (2, .s 2), (3, .s 3)]
def e245r16 : EE := .x 1 (.call 167) [.s 0] none [] <|
 .q 2 .neq [.r 1, .c z] none <|
 .out [(2, .s 2), (3, .s 3), (51, .r 2)]
def e245r17 : EE := .q 0 (.bld [z, z, z, zs, zs, zs, zs] []) [] none <|
 .x 1 (.st 7) [.s 2, .r 0] none [] <|
 .out [(2, .s 2)]
def e245r18 : EE := .q 0 (.lda 7) [.s 3] none <|
 .x 1 (.st 7) [.s 2, .r 0] none [] <|
 .out [(2, .s 2)]
def e245 : EFn := ⟨(.seq (.reg e245r0 [0] 0) (.seq (.reg e245r1 [0, 2] 0) (.seq (.seq (.reg e245r2 [0, 2, 3] 0) (.cond (.s 9) (.seq (.reg e245r3 [0, 2, 3] 0) (.seq (.reg e245r4 [0, 2, 3] 0) (.reg e245r5 [0, 2, 3] 0))) .skip)) (.seq (.seq (.reg e245r6 [0, 2, 3] 0) (.block 0 (.seq (.reg e245r7 [0, 2, 3, 20] 0) (.cond (.s 21) (.reg e245r8 [0, 2, 3] 0) (.seq (.reg e245r9 [0, 2, 3, 20] 0) (.cond (.s 26) (.seq (.reg e245r10 [0, 2, 3] 0) (.reg e245r11 [0, 2, 3] 0)) (.seq (.reg e245r12 [0, 2, 3, 20] 0) (.cond (.s 34) (.reg e245r13 [0, 2, 3] 0) .skip)))))))) (.seq (.seq (.reg e245r14 [0, 2, 3] 0) (.cond (.s 46) (.reg e245r15 [0, 2, 3] 0) .skip)) (.seq (.seq (.reg e245r16 [0, 2, 3] 0) (.cond (.s 51) (.seq (.reg e245r17 [2] 0) .ret) .skip)) (.seq (.reg e245r18 [2, 3] 0) .ret))))))), [.cells 2 7], 54, 0⟩
theorem g245 : Good Tryz.prog 245 e245 := ⟨Tryz.f245, Tryz.func245, by kernel_rfl, by kernel_rfl, by kernel_rfl, by kernel_rfl⟩
/-! concord/deps.Get -/
def e246r0 : EE := .x 0 (.alc [z, z, z, z, z, z, z, z] 46) [] none [] <|
 .out [(0, .s 0), (2, .r 0)]
def e246r1 : EE := .x 1 (.call 98) [.s 0] none [] <|
 .q 2 (.bld [z, z, z, z, z, z, z, z] [(0, 1)]) [.r 1] none <|
 .x 3 (.alc [z, z, z, z, z, z, z, z] 46) [] none [] <|
 .x 4 (.st 8) [.r 3, .r 2] none [] <|
 .out [(0, .s 0), (2, .s 2), (3, .r 3)]
def e246r2 : EE := .out [(0, .s 0), (2, .s 2), (3, .s 3), (8, .c z)]
def e246r3 : EE := .q 0 .lss [.s 8, .c (.int .i64 7)] none <|
 .out [(0, .s 0), (2, .s 2), (3, .s 3), (8, .s 8), (9, .r 0)]
def e246r4 : EE := .out [(0, .s 0), (2, .s 2), (3, .s 3), (4, .s 8), (8, .s 8)]
def e246r5 : EE := .x 2 (.call 98) [.s 0] none [] <|
 .q 3 (.fld 1) [.s 3] none <|
 .q 4 (.ixa 7 1) [.r 3, .s 4] none <|
 .x 5 (.st 1) [.r 4, .r 2] none [] <|
 .out [(0, .s 0), (2, .s 2), (3, .s 3), (8, .s 8)]
def e246r6 : EE := .q 0 .add [.s 8, .c (.int .i64 1)] none <|
 .out [(0, .s 0), (2, .s 2), (3, .s 3), (8, .r 0)]
def e246l7 : EC := (.seq (.reg e246r3 [0, 2, 3, 8] 0) (.seq (.cond (.s 9) .skip (.exit 0)) (.seq (.block 1 (.seq (.reg e246r4 [0, 2, 3, 8] 0) (.reg e246r5 [0, 2, 3, 4, 8] 0))) (.reg e246r6 [0, 2, 3, 8] 0))))
def e246r8 : EE := .x 1 (.call 167) [.s 0] none [] <|
 .q 2 .eql [.r 1, .c z] none <|
 .q 4 (.lda 8) [.s 3] (some (.r 2, true)) <|
 .x 5 (.call 100) [.r 4] (some (.r 2, true)) [] <|
 .q 6 .not [.r 5] (some (.r 2, true)) <|
 .q 7 .pick [.r 2, .r 6, .c (.bool false)] none <|
 .out [(0, .s 0), (2, .s 2), (3, .s 3), (24, .r 7)]
def e246r9 : EE := .x 1 (.call 247) [.s 0] none [] <|
 .out [(0, .s 0), (2, .s 2), (3, .s 3)]
def e246r10 : EE := .x 1 (.call 167) [.s 0] none [] <|
 .q 2 .neq [.r 1, .c z] none <|
 .out [(2, .s 2), (3, .s 3), (29, .r 2)]
def e246r11 : EE := .q 0 (.bld [z, z, z, z, z, z, z, z] []) [] none <|
 .x 1 (.st 8) [.s 2, .r 0] none [] <|
 .out [(2, .s 2)]
def e246r12 : EE := .q 0 (.lda 8) [.s 3] none <|
 .x 1 (.st 8) [.s 2, .r 0] none [] <|
 .out [(2, .s 2)]
def e246 : EFn := ⟨(.seq (.reg e246r0 [0] 0) (.seq (.reg e246r1 [0, 2] 0) (.seq (.seq (.reg e246r2 [0, 2, 3] 0) (.block 0 (.loop [0, 2, 3, 8] e246l7))) (.seq (.seq (.reg e246r8 [0, 2, 3] 0) (.cond (.s 24) (.reg e246r9 [0, 2, 3] 0) .skip)) (.seq (.seq (.reg e246r10 [0, 2, 3] 0) (.cond (.s 29) (.seq (.reg e246r11 [2] 0) .ret) .skip)) (.seq (.reg e246r12 [2, 3] 0) .ret)))))), [.cells 2 8], 32, 0⟩
theorem g246 : Good Tryz.prog 246 e246 := ⟨Tryz.f246, Tryz.func246, by kernel_rfl, by kernel_rfl, by kernel_rfl, by kernel_rfl⟩
/-! concord/word.Zig -/
def e248r0 : EE := .out [(0, .s 0)]
def e248r1 : EE := .q 1 (.conv .u64) [.s 0] none <|
 .q 2 .shl [.r 1, .c (.int .u64 1)] none <|
 .q 4 .shr [.s 0, .c (.int .u64 63)] none <|
 .q 5 (.conv .u64) [.r 4] none <|
 .q 6 .xor [.r 2, .r 5] none <|
 .out [(2, .r 6)]
def e248 : EFn := ⟨(.seq (.reg e248r0 [0] 0) (.seq (.reg e248r1 [0] 0) .ret)), [.slot 2], 10, 0⟩
theorem g248 : Good Tryz.prog 248 e248 := ⟨Tryz.f248, Tryz.func248, by kernel_rfl, by kernel_rfl, by kernel_rfl, by kernel_rfl⟩
/-! concord/disk.may -/
def e249r0 : EE := .out [(0, .s 0)]
def e249r1 : EE := .q 1 .seql [.s 0, .c zs] none <|
 .q 3 .mv [.s 0] (some (.r 1, false)) <|
 .q 4 .lenz [.r 3] (some (.r 1, false)) <|
 .q 5 .gtr [.r 4, .c (.int .i64 24)] (some (.r 1, false)) <|
 .q 6 .pick [.r 1, .c (.bool true), .r 5] none <|
 .out [(0, .s 0), (10, .r 6)]
def e249r2 : EE := .out [(2, .c (.bool false))]
def e249r3 : EE := .q 1 .lenz [.s 0] none <|
 .out [(0, .s 0), (12, .r 1), (13, .c z)]
def e249r4 : EE := .q 0 .lss [.s 13, .s 12] none <|
 .out [(0, .s 0), (12, .s 12), (13, .s 13), (14, .r 0)]
def e249r5 : EE := .out [(0, .s 0), (3, .s 13), (12, .s 12), (13, .s 13)]
def e249r6 : EE := .q 2 .idxs [.s 0, .s 3] none <|
 .q 3 .lss [.r 2, .c (.int .u8 33)] none <|
 .q 5 .mv [.s 0] (some (.r 3, false)) <|
 .q 6 .mv [.s 3] (some (.r 3, false)) <|
 .q 7 .idxs [.r 5, .r 6] (some (.r 3, false)) <|
 .q 8 .gtr [.r 7, .c (.int .u8 126)] (some (.r 3, false)) <|
 .q 9 .pick [.r 3, .c (.bool true), .r 8] none <|
 .out [(0, .s 0), (12, .s 12), (13, .s 13), (25, .r 9)]
def e249r7 : EE := .out [(2, .c (.bool false))]
def e249r8 : EE := .q 0 .add [.s 13, .c (.int .i64 1)] none <|
 .out [(0, .s 0), (12, .s 12), (13, .r 0)]
def e249l9 : EC := (.seq (.reg e249r4 [0, 12, 13] 0) (.seq (.cond (.s 14) .skip (.exit 0)) (.seq (.block 1 (.seq (.reg e249r5 [0, 12, 13] 0) (.seq (.reg e249r6 [0, 3, 12, 13] 0) (.cond (.s 25) (.seq (.reg e249r7 [] 0) .ret) .skip)))) (.reg e249r8 [0, 12, 13] 0))))
def e249r10 : EE := .out [(2, .c (.bool true))]
def e249 : EFn := ⟨(.seq (.reg e249r0 [0] 0) (.seq (.seq (.reg e249r1 [0] 0) (.cond (.s 10) (.seq (.reg e249r2 [] 0) .ret) .skip)) (.seq (.seq (.reg e249r3 [0] 0) (.block 0 (.loop [0, 12, 13] e249l9))) (.seq (.reg e249r10 [] 0) .ret)))), [.slot 2], 27, 0⟩
theorem g249 : Good Tryz.prog 249 e249 := ⟨Tryz.f249, Tryz.func249, by kernel_rfl, by kernel_rfl, by kernel_rfl, by kernel_rfl⟩
/-! (*concord/disk.Disk).Room -/
def e250r0 : EE := .out [(0, .s 0)]
def e250r1 : EE := .q 1 .nl [.s 0] none <|
 .q 2 (.fld 0) [.r 1] none <|
 .q 3 .ld [.r 2] none <|
 .x 5 (.call 299) [.s 0] none [⟨3, .ld, [.r 2], none⟩] <|
 .q 6 .sub [.r 3, .r 5] none <|
 .out [(2, .r 6)]
def e250 : EFn := ⟨(.seq (.reg e250r0 [0] 0) (.seq (.reg e250r1 [0] 0) .ret)), [.slot 2], 10, 0⟩
theorem g250 : Good Tryz.prog 250 e250 := ⟨Tryz.f250, Tryz.func250, by kernel_rfl, by kernel_rfl, by kernel_rfl, by kernel_rfl⟩
/-! slices.Insert[[]concord/disk.file,concord/disk.file] -/
def e251r0 : EE := .out [(0, .s 0), (1, .s 1), (2, .s 2)]
def e251r1 : EE := .q 2 (.slc 3 true false) [.s 0, .s 1] none <|
 .out [(0, .s 0), (1, .s 1), (2, .s 2)]
def e251r2 : EE := .q 1 .len [.s 2] none <|
 .out [(0, .s 0), (1, .s 1), (2, .s 2), (7, .r 1)]
def e251r3 : EE := .q 1 .eql [.s 7, .c z] none <|
 .out [(0, .s 0), (1, .s 1), (2, .s 2), (7, .s 7), (16, .r 1)]
def e251r4 : EE := .out [(6, .s 0)]
def e251r5 : EE := .q 1 .len [.s 0] none <|
 .out [(0, .s 0), (1, .s 1), (2, .s 2), (7, .s 7), (8, .r 1)]
def e251r6 : EE := .q 2 .eql [.s 1, .s 8] none <|
 .out [(0, .s 0), (1, .s 1), (2, .s 2), (7, .s 7), (8, .s 8), (22, .r 2)]
def e251r7 : EE := .x 2 (.app 256 3 48 [zs, .nsl, z]) [.s 0, .s 2] none [] <|
 .out [(6, .r 2)]
def e251r8 : EE := .q 2 .add [.s 8, .s 7] none <|
 .q 4 .cap [.s 0] none <|
 .q 5 .gtr [.r 2, .r 4] none <|
 .out [(0, .s 0), (1, .s 1), (2, .s 2), (7, .s 7), (8, .s 8), (31, .r 5)]
def e251r9 : EE := .q 2 (.slc 3 false true) [.s 0, .s 1] none <|
 .q 5 .add [.s 8, .s 7] none <|
 .q 7 .sub [.r 5, .s 1] none <|
 .x 8 (.appn 256 3 48 [zs, .nsl, z]) [.r 2, .r 7] none [] <|
 .out [(0, .s 0), (1, .s 1), (2, .s 2), (7, .s 7), (9, .r 8)]
def e251r10 : EE := .q 2 (.slc 3 true false) [.s 9, .s 1] none <|
 .x 4 (.cpy 3) [.r 2, .s 2] none [] <|
 .out [(0, .s 0), (1, .s 1), (7, .s 7), (9, .s 9)]
def e251r11 : EE := .q 3 .add [.s 1, .s 7] none <|
 .q 4 (.slc 3 true false) [.s 9, .r 3] none <|
 .q 7 (.slc 3 true false) [.s 0, .s 1] none <|
 .x 8 (.cpy 3) [.r 4, .r 7] none [] <|
 .out [(9, .s 9)]
def e251r12 : EE := .out [(6, .s 9)]
def e251r13 : EE := .q 3 .add [.s 8, .s 7] none <|
 .q 4 (.slc 3 false true) [.s 0, .r 3] none <|
 .out [(0, .r 4), (1, .s 1), (2, .s 2), (7, .s 7), (8, .s 8)]
def e251r14 : EE := .q 4 .add [.s 1, .s 7] none <|
 .q 5 (.slc 3 true false) [.s 0, .r 4] none <|
 .x 6 .bad [] none [] <|
 .q 7 .not [.r 6] none <|
 .out [(0, .s 0), (1, .s 1), (2, .s 2), (7, .s 7), (8, .s 8), (68, .r 7)]
def e251r15 : EE := .q 3 .add [.s 1, .s 7] none <|
 .q 4 (.slc 3 true false) [.s 0, .r 3] none <|
 .q 7 (.slc 3 true false) [.s 0, .s 1] none <|
 .x 8 (.cpy 3) [.r 4, .r 7] none [] <|
 .out [(0, .s 0), (1, .s 1), (2, .s 2)]
def e251r16 : EE := .q 2 (.slc 3 true false) [.s 0, .s 1] none <|
 .x 4 (.cpy 3) [.r 2, .s 2] none [] <|
 .out [(0, .s 0)]
def e251r17 : EE := .out [(6, .s 0)]
def e251r18 : EE := .q 2 (.slc 3 true false) [.s 0, .s 8] none <|
 .x 4 (.cpy 3) [.r 2, .s 2] none [] <|
 .out [(0, .s 0), (1, .s 1), (7, .s 7)]
def e251r19 : EE := .q 2 (.slc 3 true false) [.s 0, .s 1] none <|
 .x 4 (.call 301) [.r 2, .s 7] none [] <|
 .out [(0, .s 0)]
def e251r20 : EE := .out [(6, .s 0)]
def e251 : EFn := ⟨(.seq (.reg e251r0 [0, 1, 2] 0) (.seq (.reg e251r1 [0, 1, 2] 0) (.seq (.reg e251r2 [0, 1, 2] 0) (.seq (.seq (.reg e251r3 [0, 1, 2, 7] 0) (.cond (.s 16) (.seq (.reg e251r4 [0] 0) .ret) .skip)) (.seq (.reg e251r5 [0, 1, 2, 7] 0) (.seq (.seq (.reg e251r6 [0, 1, 2, 7, 8] 0) (.cond (.s 22) (.seq (.reg e251r7 [0, 2] 0) .ret) .skip)) (.seq (.seq (.reg e251r8 [0, 1, 2, 7, 8] 0) (.cond (.s 31) (.seq (.reg e251r9 [0, 1, 2, 7, 8] 0) (.seq (.reg e251r10 [0, 1, 2, 7, 9] 0) (.seq (.reg e251r11 [0, 1, 7, 9] 0) (.seq (.reg e251r12 [9] 0) .ret)))) .skip)) (.seq (.reg e251r13 [0, 1, 2, 7, 8] 0) (.seq (.seq (.reg e251r14 [0, 1, 2, 7, 8] 0) (.cond (.s 68) (.seq (.reg e251r15 [0, 1, 2, 7] 0) (.seq (.reg e251r16 [0, 1, 2] 0) (.seq (.reg e251r17 [0] 0) .ret))) .skip)) (.seq (.reg e251r18 [0, 1, 2, 7, 8] 0) (.seq (.reg e251r19 [0, 1, 7] 0) (.seq (.reg e251r20 [0] 0) .ret)))))))))))), [.slot 6], 95, 0⟩
theorem g251 : Good Tryz.prog 251 e251 := ⟨Tryz.f251, Tryz.func251, by kernel_rfl, by kernel_rfl, by kernel_rfl, by kernel_rfl⟩
/-! slices.Concat[[]byte,byte] -/
def e252r0 : EE := .out [(0, .s 0)]
def e252r1 : EE := .out [(0, .s 0), (3, .c z)]
def e252r2 : EE := .q 1 .len [.s 0] none <|
 .out [(0, .s 0), (3, .s 3), (9, .s 0), (10, .r 1), (11, .c z)]
def e252r3 : EE := .q 0 .lss [.s 11, .s 10] none <|
 .out [(0, .s 0), (3, .s 3), (9, .s 9), (10, .s 10), (11, .s 11), (12, .r 0)]
def e252r4 : EE := .q 0 (.ixs 1) [.s 9, .s 11] none <|
 .q 1 .ld [.r 0] none <|
 .out [(0, .s 0), (3, .s 3), (5, .r 1), (9, .s 9), (10, .s 10), (11, .s 11)]
def e252r5 : EE := .q 2 .len [.s 5] none <|
 .q 3 .add [.s 3, .r 2] none <|
 .out [(0, .s 0), (3, .r 3), (9, .s 9), (10, .s 10), (11, .s 11)]
def e252r6 : EE := .q 1 .lss [.s 3, .c z] none <|
 .out [(0, .s 0), (3, .s 3), (9, .s 9), (10, .s 10), (11, .s 11), (20, .r 1)]
def e252r7 : EE := .q 0 (.mki 9) [.c (.str [108, 101, 110, 32, 111, 117, 116, 32, 111, 102, 32, 114, 97, 110, 103, 101])] none <|
 .x 1 .bad [] none [] <|
 .out [(0, .s 0), (3, .s 3), (9, .s 9), (10, .s 10), (11, .s 11)]
def e252r8 : EE := .q 0 .add [.s 11, .c (.int .i64 1)] none <|
 .out [(0, .s 0), (3, .s 3), (9, .s 9), (10, .s 10), (11, .r 0)]
def e252l9 : EC := (.seq (.reg e252r3 [0, 3, 9, 10, 11] 0) (.seq (.cond (.s 12) .skip (.exit 0)) (.seq (.block 1 (.seq (.reg e252r4 [0, 3, 9, 10, 11] 0) (.seq (.reg e252r5 [0, 3, 5, 9, 10, 11] 0) (.seq (.reg e252r6 [0, 3, 9, 10, 11] 0) (.cond (.s 20) (.reg e252r7 [0, 3, 9, 10, 11] 0) .skip))))) (.reg e252r8 [0, 3, 9, 10, 11] 0))))
def e252r10 : EE := .x 1 (.call 302) [.c .nsl, .s 3] none [] <|
 .out [(0, .s 0), (6, .r 1)]
def e252r11 : EE := .q 1 .len [.s 0] none <|
 .out [(6, .s 6), (25, .s 0), (26, .r 1), (27, .c z)]
def e252r12 : EE := .q 0 .lss [.s 27, .s 26] none <|
 .out [(6, .s 6), (25, .s 25), (26, .s 26), (27, .s 27), (28, .r 0)]
def e252r13 : EE := .q 0 (.ixs 1) [.s 25, .s 27] none <|
 .q 1 .ld [.r 0] none <|
 .out [(6, .s 6), (8, .r 1), (25, .s 25), (26, .s 26), (27, .s 27)]
def e252r14 : EE := .x 2 (.app 5 1 1 [(.int .u8 0)]) [.s 6, .s 8] none [] <|
 .out [(6, .r 2), (25, .s 25), (26, .s 26), (27, .s 27)]
def e252r15 : EE := .q 0 .add [.s 27, .c (.int .i64 1)] none <|
 .out [(6, .s 6), (25, .s 25), (26, .s 26), (27, .r 0)]
def e252l16 : EC := (.seq (.reg e252r12 [6, 25, 26, 27] 0) (.seq (.cond (.s 28) .skip (.exit 2)) (.seq (.block 3 (.seq (.reg e252r13 [6, 25, 26, 27] 0) (.reg e252r14 [6, 8, 25, 26, 27] 0))) (.reg e252r15 [6, 25, 26, 27] 0))))
def e252r17 : EE := .out [(2, .s 6)]
def e252 : EFn := ⟨(.seq (.reg e252r0 [0] 0) (.seq (.reg e252r1 [0] 0) (.seq (.seq (.reg e252r2 [0, 3] 0) (.block 0 (.loop [0, 3, 9, 10, 11] e252l9))) (.seq (.reg e252r10 [0, 3] 0) (.seq (.seq (.reg e252r11 [0, 6] 0) (.block 2 (.loop [6, 25, 26, 27] e252l16))) (.seq (.reg e252r17 [6] 0) .ret)))))), [.slot 2], 36, 0⟩
theorem g252 : Good Tryz.prog 252 e252 := ⟨Tryz.f252, Tryz.func252, by kernel_rfl, by kernel_rfl, by kernel_rfl, by kernel_rfl⟩
/-! (*concord/exec.plan).round -/
def e253r0 : EE := .out [(0, .s 0)]
def e253r1 : EE := .x 0 (.call 303) [.c .nsl] none [] <|
 .out [(0, .s 0), (4, .c (.bool false)), (5, .r 0)]
def e253r2 : EE := .out [(0, .s 0), (4, .s 4), (5, .s 5), (13, .c z)]
def e253r3 : EE := .q 0 .lss [.s 13, .c (.int .i64 7)] none <|
 .out [(0, .s 0), (4, .s 4), (5, .s 5), (13, .s 13), (14, .r 0)]
def e253r4 : EE := .out [(0, .s 0), (4, .s 4), (5, .s 5), (6, .s 13), (13, .s 13)]
def e253r5 : EE := .q 3 .nl [.s 0] none <|
 .q 4 (.fld 0) [.r 3] none <|
 .q 5 (.ixa 7 1) [.r 4, .s 6] none <|
 .q 6 .ld [.r 5] none <|
 .q 7 .add [.r 6, .c (.int .i64 1)] none <|
 .q 8 (.bld [z, z] [(0, 1), (1, 1)]) [.s 6, .r 7] none <|
 .x 9 (.alc [z, z] 40) [] none [] <|
 .x 10 (.st 2) [.r 9, .r 8] none [] <|
 .out [(0, .s 0), (4, .s 4), (5, .s 5), (7, .r 9), (13, .s 13)]
def e253r6 : EE := .q 1 .nl [.s 0] none <|
 .q 2 (.fld 7) [.r 1] none <|
 .q 3 .ld [.r 2] none <|
 .q 4 (.lda 2) [.s 7] none <|
 .q 5 (.lkp true [(.i .i64), (.i .i64)] (.agg [z, z, z, z, z, z, z, z, zs, zs, zs, zs, z, z, z, z, z, z, z, z, (.bool false)]) true) [.r 3, .r 4] none <|
 .q 7 (.ext 0) [.r 5] none <|
 .q 8 (.ext 1) [.r 5] none <|
 .x 9 (.alc [z, z, z, z, z, z, z, z, zs, zs, zs, zs, z, z, z, z, z, z, z, z, (.bool false)] 48) [] none [⟨3, .ld, [.r 2], none⟩, ⟨4, (.lda 2), [.s 7], none⟩, ⟨5, (.lkp true [(.i .i64), (.i .i64)] (.agg [z, z, z, z, z, z, z, z, zs, zs, zs, zs, z, z, z, z, z, z, z, z, (.bool false)]) true), [.r 3, .r 4], none⟩] <|
 .x 10 (.st 21) [.r 9, .r 7] none [] <|
 .out [(0, .s 0), (4, .s 4), (5, .s 5), (7, .s 7), (9, .r 8), (13, .s 13)]
def e253r7 : EE := .q 1 .not [.s 9] none <|
 .out [(0, .s 0), (4, .s 4), (5, .s 5), (7, .s 7), (13, .s 13), (35, .r 1)]
def e253r8 : EE := .q 1 (.lda 2) [.s 7] none <|
 .x 2 (.call 304) [.s 0, .r 1] none [] <|
 .out [(0, .s 0), (4, .s 4), (5, .s 5), (7, .s 7), (13, .s 13), (38, .r 2)]
def e253r9 : EE := .q 1 (.lda 2) [.s 7] none <|
 .x 2 (.call 305) [.s 5, .r 1] none [] <|
 .out [(0, .s 0), (4, .s 4), (5, .s 5), (13, .s 13)]
def e253r10 : EE := .q 1 (.lda 2) [.s 7] none <|
 .x 2 (.call 306) [.s 0, .r 1] none [] <|
 .q 4 (.ext 0) [.r 2] none <|
 .q 5 (.ext 1) [.r 2] none <|
 .x 6 (.alc [z, z] 40) [] none [] <|
 .x 8 (.st 2) [.r 6, .r 5] none [] <|
 .out [(0, .s 0), (4, .s 4), (5, .s 5), (10, .r 4), (11, .r 6), (13, .s 13)]
def e253r11 : EE := .q 1 .len [.s 10] none <|
 .q 2 .gtr [.r 1, .c z] none <|
 .out [(0, .s 0), (4, .s 4), (5, .s 5), (10, .s 10), (11, .s 11), (13, .s 13), (48, .r 2)]
def e253r12 : EE := .x 2 (.call 307) [.s 0, .s 10] none [] <|
 .out [(0, .s 0), (5, .s 5), (13, .s 13)]
def e253r13 : EE := .out [(0, .s 0), (4, .c (.bool true)), (5, .s 5), (13, .s 13)]
def e253r14 : EE := .q 0 (.lda 2) [.s 11] none <|
 .q 1 (.bld [z, z] []) [] none <|
 .q 2 (.eqc true [(.i .i64), (.i .i64)]) [.r 0, .r 1] none <|
 .out [(0, .s 0), (4, .s 4), (5, .s 5), (11, .s 11), (13, .s 13), (55, .r 2)]
def e253r15 : EE := .q 1 (.lda 2) [.s 11] none <|
 .x 2 (.call 305) [.s 5, .r 1] none [] <|
 .out [(0, .s 0), (4, .s 4), (5, .s 5), (13, .s 13)]
def e253r16 : EE := .q 0 .add [.s 13, .c (.int .i64 1)] none <|
 .out [(0, .s 0), (4, .s 4), (5, .s 5), (13, .r 0)]
def e253l17 : EC := (.seq (.reg e253r3 [0, 4, 5, 13] 0) (.seq (.cond (.s 14) .skip (.exit 0)) (.seq (.block 1 (.seq (.reg e253r4 [0, 4, 5, 13] 0) (.seq (.reg e253r5 [0, 4, 5, 6, 13] 0) (.seq (.seq (.reg e253r6 [0, 4, 5, 7, 13] 0) (.seq (.reg e253r7 [0, 4, 5, 7, 9, 13] 0) (.cond (.s 35) (.seq (.seq (.reg e253r8 [0, 4, 5, 7, 13] 0) (.cond (.s 38) (.reg e253r9 [0, 4, 5, 7, 13] 0) .skip)) (.exit 1)) .skip))) (.seq (.reg e253r10 [0, 4, 5, 7, 13] 0) (.block 2 (.seq (.reg e253r11 [0, 4, 5, 10, 11, 13] 0) (.cond (.s 48) (.seq (.reg e253r12 [0, 5, 10, 13] 0) (.reg e253r13 [0, 5, 13] 0)) (.seq (.reg e253r14 [0, 4, 5, 11, 13] 0) (.cond (.s 55) (.reg e253r15 [0, 4, 5, 11, 13] 0) .skip)))))))))) (.reg e253r16 [0, 4, 5, 13] 0))))
def e253r18 : EE := .out [(2, .s 4), (3, .s 5)]
def e253 : EFn := ⟨(.seq (.reg e253r0 [0] 0) (.seq (.reg e253r1 [0] 0) (.seq (.seq (.reg e253r2 [0, 4, 5] 0) (.block 0 (.loop [0, 4, 5, 13] e253l17))) (.seq (.reg e253r18 [4, 5] 0) .ret)))), [.slot 2, .slot 3], 65, 0⟩
theorem g253 : Good Tryz.prog 253 e253 := ⟨Tryz.f253, Tryz.func253, by kernel_rfl, by kernel_rfl, by kernel_rfl, by kernel_rfl⟩
/-! (*concord/inst.Set).List -/
def e254r0 : EE := .out [(0, .s 0)]
def e254r1 : EE := .out [(0, .s 0), (3, .c .nsl)]
def e254r2 : EE := .q 1 .nl [.s 0] none <|
 .q 2 (.fld 0) [.r 1] none <|
 .q 3 .ld [.r 2] none <|
 .x 4 .rng [.r 3] none [] <|
 .out [(3, .s 3), (9, .r 4)]
def e254r3 : EE := .x 0 .nxt [.s 9] none [] <|
 .q 1 (.ext 0) [.r 0] none <|
 .out [(3, .s 3), (9, .s 9), (11, .r 1)]
def e254r4 : EE := .q 0 .ent [.s 9] none <|
 .q 1 (.ext 0) [.r 0] none <|
 .x 2 (.alc [z, z] 40) [] none [] <|
 .x 3 (.st 2) [.r 2, .r 1] none [] <|
 .out [(3, .s 3), (4, .r 2), (9, .s 9)]
def e254r5 : EE := .q 1 (.lda 2) [.s 4] none <|
 .x 2 (.bsl 40 1 [z, z] [(0, 2)]) [.r 1] none [] <|
 .x 3 (.app 40 2 16 [z, z]) [.s 3, .r 2] none [] <|
 .out [(3, .r 3), (9, .s 9)]
def e254l6 : EC := (.seq (.reg e254r3 [3, 9] 0) (.seq (.cond (.s 11) .skip (.exit 0)) (.block 1 (.seq (.reg e254r4 [3, 9] 0) (.reg e254r5 [3, 4, 9] 0)))))
def e254r7 : EE := .x 1 (.call 265) [.s 3, .f 308] none [] <|
 .out [(3, .s 3)]
def e254r8 : EE := .out [(2, .s 3)]
def e254 : EFn := ⟨(.seq (.reg e254r0 [0] 0) (.seq (.reg e254r1 [0] 0) (.seq (.seq (.reg e254r2 [0, 3] 0) (.block 0 (.loop [3, 9] e254l6))) (.seq (.reg e254r7 [3] 0) (.seq (.reg e254r8 [3] 0) .ret))))), [.slot 2], 21, 0⟩
theorem g254 : Good Tryz.prog 254 e254 := ⟨Tryz.f254, Tryz.func254, by kernel_rfl, by kernel_rfl, by kernel_rfl, by kernel_rfl⟩
/-! concord/pack.Flag -/
def e258r0 : EE := .out [(0, .s 0), (1, .s 1)]
def e258r1 : EE := .out [(0, .s 0), (5, .s 1)]
def e258r2 : EE := .x 1 (.call 177) [.s 0, .c (.int .i64 1)] none [] <|
 .x 2 (.bsl 5 1 [(.int .u8 0)] [(0, 1)]) [.c (.int .u8 1)] none [] <|
 .x 3 (.app 5 1 1 [(.int .u8 0)]) [.r 1, .r 2] none [] <|
 .out [(4, .r 3)]
def e258r3 : EE := .x 1 (.call 177) [.s 0, .c (.int .i64 1)] none [] <|
 .x 2 (.bsl 5 1 [(.int .u8 0)] [(0, 1)]) [.c (.int .u8 0)] none [] <|
 .x 3 (.app 5 1 1 [(.int .u8 0)]) [.r 1, .r 2] none [] <|
 .out [(4, .r 3)]
def e258 : EFn := ⟨(.seq (.reg e258r0 [0, 1] 0) (.seq (.seq (.reg e258r1 [0, 1] 0) (.cond (.s 5) (.seq (.reg e258r2 [0] 0) .ret) .skip)) (.seq (.reg e258r3 [0] 0) .ret))), [.slot 4], 14, 0⟩
theorem g258 : Good Tryz.prog 258 e258 := ⟨Tryz.f258, Tryz.func258, by kernel_rfl, by kernel_rfl, by kernel_rfl, by kernel_rfl⟩
/-! concord/pack.Text -/
def e259r0 : EE := .out [(0, .s 0), (1, .s 1)]
def e259r1 : EE := .q 2 .lenz [.s 1] none <|
 .q 3 .add [.c (.int .i64 10), .r 2] none <|
 .x 4 (.call 177) [.s 0, .r 3] none [] <|
 .q 6 .lenz [.s 1] none <|
 .x 7 (.call 185) [.r 4, .r 6] none [] <|
 .x 9 (.apps 5) [.r 7, .s 1] none [] <|
 .out [(4, .r 9)]
def e259 : EFn := ⟨(.seq (.reg e259r0 [0, 1] 0) (.seq (.reg e259r1 [0, 1] 0) .ret)), [.slot 4], 15, 0⟩
theorem g259 : Good Tryz.prog 259 e259 := ⟨Tryz.f259, Tryz.func259, by kernel_rfl, by kernel_rfl, by kernel_rfl, by kernel_rfl⟩
/-! (*concord/log.Log).Cut -/
def e260r0 : EE := .x 0 (.alc [z, z, z, z, z, z, z] 44) [] none [] <|
 .out [(0, .s 0), (2, .r 0)]
def e260r1 : EE := .q 1 .nl [.s 0] none <|
 .q 2 (.fld 1) [.r 1] none <|
 .q 3 (.lda 7) [.r 2] none <|
 .x 4 (.st 7) [.s 2, .r 3] none [] <|
 .out [(2, .s 2)]
def e260 : EFn := ⟨(.seq (.reg e260r0 [0] 0) (.seq (.reg e260r1 [0, 2] 0) .ret)), [.cells 2 7], 7, 0⟩
theorem g260 : Good Tryz.prog 260 e260 := ⟨Tryz.f260, Tryz.func260, by kernel_rfl, by kernel_rfl, by kernel_rfl, by kernel_rfl⟩
/-! slices.DeleteFunc[[]*concord/core.lead,*concord/core.lead] -/
def e261r0 : EE := .out [(0, .s 0), (1, .s 1)]
def e261r1 : EE := .x 2 (.call 311) [.s 0, .s 1] none [] <|
 .out [(0, .s 0), (1, .s 1), (5, .r 2)]
def e261r2 : EE := .q 1 .eql [.s 5, .c (.int .i64 (-1))] none <|
 .out [(0, .s 0), (1, .s 1), (5, .s 5), (12, .r 1)]
def e261r3 : EE := .out [(4, .s 0)]
def e261r4 : EE := .q 1 .add [.s 5, .c (.int .i64 1)] none <|
 .out [(0, .s 0), (1, .s 1), (5, .s 5), (6, .r 1)]
def e261r5 : EE := .q 2 .len [.s 0] none <|
 .q 3 .lss [.s 6, .r 2] none <|
 .out [(0, .s 0), (1, .s 1), (5, .s 5), (6, .s 6), (19, .r 3)]
def e261r6 : EE := .q 2 (.ixs 1) [.s 0, .s 6] none <|
 .q 3 .ld [.r 2] none <|
 .out [(0, .s 0), (1, .s 1), (5, .s 5), (6, .s 6), (7, .r 3)]
def e261r7 : EE := .x 2 .callv [.s 1, .s 7] none [] <|
 .q 3 .not [.r 2] none <|
 .out [(0, .s 0), (1, .s 1), (5, .s 5), (6, .s 6), (7, .s 7), (29, .r 3)]
def e261r8 : EE := .q 3 (.ixs 1) [.s 0, .s 5] none <|
 .x 4 (.st 1) [.r 3, .s 7] none [] <|
 .out [(0, .s 0), (1, .s 1), (5, .s 5), (6, .s 6)]
def e261r9 : EE := .q 1 .add [.s 5, .c (.int .i64 1)] none <|
 .out [(0, .s 0), (1, .s 1), (5, .r 1), (6, .s 6)]
def e261r10 : EE := .q 1 .add [.s 6, .c (.int .i64 1)] none <|
 .out [(0, .s 0), (1, .s 1), (5, .s 5), (6, .r 1)]
def e261l11 : EC := (.seq (.seq (.reg e261r5 [0, 1, 5, 6] 0) (.cond (.s 19) .skip (.exit 0))) (.seq (.block 1 (.seq (.reg e261r6 [0, 1, 5, 6] 0) (.seq (.reg e261r7 [0, 1, 5, 6, 7] 0) (.cond (.s 29) (.seq (.reg e261r8 [0, 1, 5, 6, 7] 0) (.reg e261r9 [0, 1, 5, 6] 0)) .skip)))) (.reg e261r10 [0, 1, 5, 6] 0)))
def e261r12 : EE := .q 2 (.slc 1 true false) [.s 0, .s 5] none <|
 .x 3 (.clr [.nptr]) [.r 2] none [] <|
 .out [(0, .s 0), (5, .s 5)]
def e261r13 : EE := .q 2 (.slc 1 false true) [.s 0, .s 5] none <|
 .out [(4, .r 2)]
def e261 : EFn := ⟨(.seq (.reg e261r0 [0, 1] 0) (.seq (.reg e261r1 [0, 1] 0) (.seq (.seq (.reg e261r2 [0, 1, 5] 0) (.cond (.s 12) (.seq (.reg e261r3 [0] 0) .ret) .skip)) (.seq (.seq (.reg e261r4 [0, 1, 5] 0) (.block 0 (.loop [0, 1, 5, 6] e261l11))) (.seq (.reg e261r12 [0, 5] 0) (.seq (.reg e261r13 [0, 5] 0) .ret)))))), [.slot 4], 42, 0⟩
theorem g261 : Good Tryz.prog 261 e261 := ⟨Tryz.f261, Tryz.func261, by kernel_rfl, by kernel_rfl, by kernel_rfl, by kernel_rfl⟩
/-! concord/letter.PutCell -/
def e264r0 : EE := .x 0 (.box 48) [.s 1] none [] <|
 .out [(0, .s 0), (3, .r 0)]
def e264r1 : EE := .q 0 (.lda 21) [.s 3] none <|
 .x 1 (.call 131) [.r 0] none [] <|
 .q 2 .not [.r 1] none <|
 .out [(0, .s 0), (3, .s 3), (7, .r 2)]
def e264r2 : EE := .x 1 (.app 5 1 1 [(.int .u8 0)]) [.c .nsl, .s 0] none [] <|
 .out [(4, .r 1)]
def e264r3 : EE := .q 1 (.fld 0) [.s 3] none <|
 .q 2 .ld [.r 1] none <|
 .q 4 (.fld 1) [.s 3] none <|
 .q 5 (.lda 2) [.r 4] none <|
 .x 3 (.call 109) [.s 0, .r 2] none [⟨5, (.lda 2), [.r 4], none⟩] <|
 .x 6 (.call 312) [.r 3, .r 5] none [] <|
 .out [(0, .r 6), (3, .s 3)]
def e264r4 : EE := .q 0 (.fld 0) [.s 3] none <|
 .q 1 .ld [.r 0] none <|
 .q 2 .eql [.r 1, .c z] none <|
 .out [(0, .s 0), (3, .s 3), (19, .r 2)]
def e264r5 : EE := .out [(4, .s 0)]
def e264r6 : EE := .q 1 (.fld 3) [.s 3] none <|
 .q 2 (.lda 2) [.r 1] none <|
 .q 4 (.fld 5) [.s 3] none <|
 .q 5 (.lda 7) [.r 4] none <|
 .x 3 (.call 312) [.s 0, .r 2] none [⟨5, (.lda 7), [.r 4], none⟩] <|
 .x 6 (.call 313) [.r 3, .r 5] none [] <|
 .out [(0, .r 6), (3, .s 3)]
def e264r7 : EE := .q 1 (.fld 12) [.s 3] none <|
 .q 2 (.lda 8) [.r 1] none <|
 .q 4 (.fld 20) [.s 3] none <|
 .q 5 .ld [.r 4] none <|
 .x 3 (.call 314) [.s 0, .r 2] none [⟨5, .ld, [.r 4], none⟩] <|
 .x 6 (.call 258) [.r 3, .r 5] none [] <|
 .out [(4, .r 6)]
def e264 : EFn := ⟨(.seq (.reg e264r0 [0, 1] 0) (.seq (.seq (.reg e264r1 [0, 3] 0) (.cond (.s 7) (.seq (.reg e264r2 [0] 0) .ret) .skip)) (.seq (.reg e264r3 [0, 3] 0) (.seq (.seq (.reg e264r4 [0, 3] 0) (.cond (.s 19) (.seq (.reg e264r5 [0] 0) .ret) .skip)) (.seq (.reg e264r6 [0, 3] 0) (.seq (.reg e264r7 [0, 3] 0) .ret)))))), [.slot 4], 35, 0⟩
theorem g264 : Good Tryz.prog 264 e264 := ⟨Tryz.f264, Tryz.func264, by kernel_rfl, by kernel_rfl, by kernel_rfl, by kernel_rfl⟩
/-! slices.SortFunc[[]concord/api.Inst,concord/api.Inst] -/
def e265r0 : EE := .q 1 .len [.s 0] none <|
 .out [(0, .s 0), (1, .s 1), (4, .r 1)]
def e265r1 : EE := .q 3 (.conv .u64) [.s 4] none <|
 .x 4 (.call 316) [.r 3] none [] <|
 .x 6 (.call 315) [.s 0, .c z, .s 4, .r 4, .s 1] none [] <|
 .out []
def e265 : EFn := ⟨(.seq (.reg e265r0 [0, 1] 0) (.reg e265r1 [0, 1, 4] 0)), [], 14, 0⟩
theorem g265 : Good Tryz.prog 265 e265 := ⟨Tryz.f265, Tryz.func265, by kernel_rfl, by kernel_rfl, by kernel_rfl, by kernel_rfl⟩
/-! slices.Insert[[]*concord/core.lead,*concord/core.lead] -/
def e268r0 : EE := .out [(0, .s 0), (1, .s 1), (2, .s 2)]
def e268r1 : EE := .q 2 (.slc 1 true false) [.s 0, .s 1] none <|
 .out [(0, .s 0), (1, .s 1), (2, .s 2)]
def e268r2 : EE := .q 1 .len [.s 2] none <|
 .out [(0, .s 0), (1, .s 1), (2, .s 2), (7, .r 1)]
def e268r3 : EE := .q 1 .eql [.s 7, .c z] none <|
 .out [(0, .s 0), (1, .s 1), (2, .s 2), (7, .s 7), (16, .r 1)]
def e268r4 : EE := .out [(6, .s 0)]
def e268r5 : EE := .q 1 .len [.s 0] none <|
 .out [(0, .s 0), (1, .s 1), (2, .s 2), (7, .s 7), (8, .r 1)]
def e268r6 : EE := .q 2 .eql [.s 1, .s 8] none <|
 .out [(0, .s 0), (1, .s 1), (2, .s 2), (7, .s 7), (8, .s 8), (22, .r 2)]
def e268r7 : EE := .x 2 (.app 225 1 8 [.nptr]) [.s 0, .s 2] none [] <|
 .out [(6, .r 2)]
def e268r8 : EE := .q 2 .add [.s 8, .s 7] none <|
 .q 4 .cap [.s 0] none <|
 .q 5 .gtr [.r 2, .r 4] none <|
 .out [(0, .s 0), (1, .s 1), (2, .s 2), (7, .s 7), (8, .s 8), (31, .r 5)]
def e268r9 : EE := .q 2 (.slc 1 false true) [.s 0, .s 1] none <|
 .q 5 .add [.s 8, .s 7] none <|
 .q 7 .sub [.r 5, .s 1] none <|
 .x 8 (.appn 225 1 8 [.nptr]) [.r 2, .r 7] none [] <|
 .out [(0, .s 0), (1, .s 1), (2, .s 2), (7, .s 7), (9, .r 8)]
def e268r10 : EE := .q 2 (.slc 1 true false) [.s 9, .s 1] none <|
 .x 4 (.cpy 1) [.r 2, .s 2] none [] <|
 .out [(0, .s 0), (1, .s 1), (7, .s 7), (9, .s 9)]
def e268r11 : EE := .q 3 .add [.s 1, .s 7] none <|
 .q 4 (.slc 1 true false) [.s 9, .r 3] none <|
 .q 7 (.slc 1 true false) [.s 0, .s 1] none <|
 .x 8 (.cpy 1) [.r 4, .r 7] none [] <|
 .out [(9, .s 9)]
def e268r12 : EE := .out [(6, .s 9)]
def e268r13 : EE := .q 3 .add [.s 8, .s 7] none <|
 .q 4 (.slc 1 false true) [.s 0, .r 3] none <|
 .out [(0, .r 4), (1, .s 1), (2, .s 2), (7, .s 7), (8, .s 8)]
def e268r14 : EE := .q 4 .add [.s 1, .s 7] none <|
 .q 5 (.slc 1 true false) [.s 0, .r 4] none <|
 .x 6 .bad [] none [] <|
 .q 7 .not [.r 6] none <|
 .out [(0, .s 0), (1, .s 1), (2, .s 2), (7, .s 7), (8, .s 8), (68, .r 7)]
def e268r15 : EE := .q 3 .add [.s 1, .s 7] none <|
 .q 4 (.slc 1 true false) [.s 0, .r 3] none <|
 .q 7 (.slc 1 true false) [.s 0, .s 1] none <|
 .x 8 (.cpy 1) [.r 4, .r 7] none [] <|
 .out [(0, .s 0), (1, .s 1), (2, .s 2)]
def e268r16 : EE := .q 2 (.slc 1 true false) [.s 0, .s 1] none <|
 .x 4 (.cpy 1) [.r 2, .s 2] none [] <|
 .out [(0, .s 0)]
def e268r17 : EE := .out [(6, .s 0)]
def e268r18 : EE := .q 2 (.slc 1 true false) [.s 0, .s 8] none <|
 .x 4 (.cpy 1) [.r 2, .s 2] none [] <|
 .out [(0, .s 0), (1, .s 1), (7, .s 7)]
def e268r19 : EE := .q 2 (.slc 1 true false) [.s 0, .s 1] none <|
 .x 4 (.call 318) [.r 2, .s 7] none [] <|
 .out [(0, .s 0)]
def e268r20 : EE := .out [(6, .s 0)]
def e268 : EFn := ⟨(.seq (.reg e268r0 [0, 1, 2] 0) (.seq (.reg e268r1 [0, 1, 2] 0) (.seq (.reg e268r2 [0, 1, 2] 0) (.seq (.seq (.reg e268r3 [0, 1, 2, 7] 0) (.cond (.s 16) (.seq (.reg e268r4 [0] 0) .ret) .skip)) (.seq (.reg e268r5 [0, 1, 2, 7] 0) (.seq (.seq (.reg e268r6 [0, 1, 2, 7, 8] 0) (.cond (.s 22) (.seq (.reg e268r7 [0, 2] 0) .ret) .skip)) (.seq (.seq (.reg e268r8 [0, 1, 2, 7, 8] 0) (.cond (.s 31) (.seq (.reg e268r9 [0, 1, 2, 7, 8] 0) (.seq (.reg e268r10 [0, 1, 2, 7, 9] 0) (.seq (.reg e268r11 [0, 1, 7, 9] 0) (.seq (.reg e268r12 [9] 0) .ret)))) .skip)) (.seq (.reg e268r13 [0, 1, 2, 7, 8] 0) (.seq (.seq (.reg e268r14 [0, 1, 2, 7, 8] 0) (.cond (.s 68) (.seq (.reg e268r15 [0, 1, 2, 7] 0) (.seq (.reg e268r16 [0, 1, 2] 0) (.seq (.reg e268r17 [0] 0) .ret))) .skip)) (.seq (.reg e268r18 [0, 1, 2, 7, 8] 0) (.seq (.reg e268r19 [0, 1, 7] 0) (.seq (.reg e268r20 [0] 0) .ret)))))))))))), [.slot 6], 95, 0⟩
theorem g268 : Good Tryz.prog 268 e268 := ⟨Tryz.f268, Tryz.func268, by kernel_rfl, by kernel_rfl, by kernel_rfl, by kernel_rfl⟩
/-! (*concord/core.Core).leave$1 -/
def e270r0 : EE := .out [(0, .s 0), (1, .s 1)]
def e270r1 : EE := .q 1 .nl [.s 0] none <|
 .q 2 (.fld 0) [.r 1] none <|
 .q 3 (.lda 2) [.r 2] none <|
 .q 4 (.lda 2) [.s 1] none <|
 .q 5 (.eqc false [(.i .i64), (.i .i64)]) [.r 3, .r 4] none <|
 .out [(3, .r 5)]
def e270 : EFn := ⟨(.seq (.reg e270r0 [0, 1] 0) (.seq (.reg e270r1 [0, 1] 0) .ret)), [.slot 3], 10, 0⟩
theorem g270 : Good Tryz.prog 270 e270 := ⟨Tryz.f270, Tryz.func270, by kernel_rfl, by kernel_rfl, by kernel_rfl, by kernel_rfl⟩
/-! concord/deps.Join -/
def e271r0 : EE := .x 0 (.alc [z, z, z, z, z, z, z, z] 46) [] none [] <|
 .out [(0, .s 0), (2, .r 0)]
def e271r1 : EE := .q 1 .len [.s 0] none <|
 .q 2 .eql [.r 1, .c z] none <|
 .out [(0, .s 0), (2, .s 2), (10, .r 2)]
def e271r2 : EE := .q 0 (.bld [z, z, z, z, z, z, z, z] []) [] none <|
 .x 1 (.st 8) [.s 2, .r 0] none [] <|
 .out [(2, .s 2)]
def e271r3 : EE := .q 1 (.ixs 8) [.s 0, .c z] none <|
 .q 2 (.lda 8) [.r 1] none <|
 .x 3 (.alc [z, z, z, z, z, z, z, z] 46) [] none [] <|
 .x 4 (.st 8) [.r 3, .r 2] none [] <|
 .out [(0, .s 0), (2, .s 2), (3, .r 3)]
def e271r4 : EE := .q 1 (.slc 8 true false) [.s 0, .c (.int .i64 1)] none <|
 .q 2 .len [.r 1] none <|
 .out [(2, .s 2), (3, .s 3), (16, .r 1), (17, .r 2), (18, .c z)]
def e271r5 : EE := .q 0 .lss [.s 18, .s 17] none <|
 .out [(2, .s 2), (3, .s 3), (16, .s 16), (17, .s 17), (18, .s 18), (19, .r 0)]
def e271r6 : EE := .q 0 (.ixs 8) [.s 16, .s 18] none <|
 .q 1 (.lda 8) [.r 0] none <|
 .x 2 (.alc [z, z, z, z, z, z, z, z] 46) [] none [] <|
 .x 3 (.st 8) [.r 2, .r 1] none [] <|
 .out [(2, .s 2), (3, .s 3), (5, .r 2), (16, .s 16), (17, .s 17), (18, .s 18)]
def e271r7 : EE := .q 0 (.fld 0) [.s 3] none <|
 .q 1 .ld [.r 0] none <|
 .q 2 (.fld 0) [.s 5] none <|
 .q 3 .ld [.r 2] none <|
 .q 4 .mx [.r 1, .r 3] none <|
 .q 5 (.fld 0) [.s 3] none <|
 .x 6 (.st 1) [.r 5, .r 4] none [] <|
 .out [(2, .s 2), (3, .s 3), (5, .s 5), (16, .s 16), (17, .s 17), (18, .s 18)]
def e271r8 : EE := .q 0 (.fld 1) [.s 5] none <|
 .q 1 (.lda 7) [.r 0] none <|
 .out [(2, .s 2), (3, .s 3), (16, .s 16), (17, .s 17), (18, .s 18), (29, .r 1), (30, .c z)]
def e271r9 : EE := .q 0 .lss [.s 30, .c (.int .i64 7)] none <|
 .out [(2, .s 2), (3, .s 3), (16, .s 16), (17, .s 17), (18, .s 18), (29, .s 29), (30, .s 30), (31, .r 0)]
def e271r10 : EE := .q 1 (.idx 7 1) [.s 29, .s 30] none <|
 .out [(2, .s 2), (3, .s 3), (6, .s 30), (7, .r 1), (16, .s 16), (17, .s 17), (18, .s 18), (29, .s 29), (30, .s 30)]
def e271r11 : EE := .q 2 (.fld 1) [.s 3] none <|
 .q 3 (.ixa 7 1) [.r 2, .s 6] none <|
 .q 4 .ld [.r 3] none <|
 .q 6 .mx [.r 4, .s 7] none <|
 .q 7 (.fld 1) [.s 3] none <|
 .q 8 (.ixa 7 1) [.r 7, .s 6] none <|
 .x 9 (.st 1) [.r 8, .r 6] none [] <|
 .out [(2, .s 2), (3, .s 3), (16, .s 16), (17, .s 17), (18, .s 18), (29, .s 29), (30, .s 30)]
def e271r12 : EE := .q 0 .add [.s 30, .c (.int .i64 1)] none <|
 .out [(2, .s 2), (3, .s 3), (16, .s 16), (17, .s 17), (18, .s 18), (29, .s 29), (30, .r 0)]
def e271l13 : EC := (.seq (.reg e271r9 [2, 3, 16, 17, 18, 29, 30] 0) (.seq (.cond (.s 31) .skip (.exit 2)) (.seq (.block 3 (.seq (.reg e271r10 [2, 3, 16, 17, 18, 29, 30] 0) (.reg e271r11 [2, 3, 6, 7, 16, 17, 18, 29, 30] 0))) (.reg e271r12 [2, 3, 16, 17, 18, 29, 30] 0))))
def e271r14 : EE := .q 0 .add [.s 18, .c (.int .i64 1)] none <|
 .out [(2, .s 2), (3, .s 3), (16, .s 16), (17, .s 17), (18, .r 0)]
def e271l15 : EC := (.seq (.reg e271r5 [2, 3, 16, 17, 18] 0) (.seq (.cond (.s 19) .skip (.exit 0)) (.seq (.block 1 (.seq (.reg e271r6 [2, 3, 16, 17, 18] 0) (.seq (.reg e271r7 [2, 3, 5, 16, 17, 18] 0) (.seq (.reg e271r8 [2, 3, 5, 16, 17, 18] 0) (.block 2 (.loop [2, 3, 16, 17, 18, 29, 30] e271l13)))))) (.reg e271r14 [2, 3, 16, 17, 18] 0))))
def e271r16 : EE := .q 0 (.lda 8) [.s 3] none <|
 .x 1 (.st 8) [.s 2, .r 0] none [] <|
 .out [(2, .s 2)]
def e271 : EFn := ⟨(.seq (.reg e271r0 [0] 0) (.seq (.seq (.reg e271r1 [0, 2] 0) (.cond (.s 10) (.seq (.reg e271r2 [2] 0) .ret) .skip)) (.seq (.reg e271r3 [0, 2] 0) (.seq (.seq (.reg e271r4 [0, 2, 3] 0) (.block 0 (.loop [2, 3, 16, 17, 18] e271l15))) (.seq (.reg e271r16 [2, 3] 0) .ret))))), [.cells 2 8], 46, 0⟩
theorem g271 : Good Tryz.prog 271 e271 := ⟨Tryz.f271, Tryz.func271, by kernel_rfl, by kernel_rfl, by kernel_rfl, by kernel_rfl⟩
/-! concord/quorum.Pre -/
def e272r0 : EE := .x 0 (.box 46) [.s 2] none [] <|
 .x 2 (.alc [z, z, z, z, z, z, z, z] 46) [] none [] <|
 .out [(0, .s 0), (1, .s 1), (3, .s 3), (4, .s 4), (7, .r 0), (11, .r 2)]
def e272r1 : EE := .out [(0, .s 0), (1, .s 1), (3, .s 3), (4, .s 4), (7, .s 7), (11, .s 11), (12, .c z)]
def e272r2 : EE := .q 1 .len [.s 3] none <|
 .out [(0, .s 0), (1, .s 1), (3, .s 3), (4, .s 4), (7, .s 7), (11, .s 11), (12, .s 12), (15, .s 3), (16, .r 1), (17, .c z)]
def e272r3 : EE := .q 0 .lss [.s 17, .s 16] none <|
 .out [(0, .s 0), (1, .s 1), (3, .s 3), (4, .s 4), (7, .s 7), (11, .s 11), (12, .s 12), (15, .s 15), (16, .s 16), (17, .s 17), (18, .r 0)]
def e272r4 : EE := .q 0 (.ixs 8) [.s 15, .s 17] none <|
 .q 1 (.lda 8) [.r 0] none <|
 .x 2 (.alc [z, z, z, z, z, z, z, z] 46) [] none [] <|
 .x 3 (.st 8) [.r 2, .r 1] none [] <|
 .out [(0, .s 0), (1, .s 1), (3, .s 3), (4, .s 4), (7, .s 7), (11, .s 11), (12, .s 12), (14, .r 2), (15, .s 15), (16, .s 16), (17, .s 17)]
def e272r5 : EE := .q 0 (.lda 8) [.s 14] none <|
 .q 1 (.lda 8) [.s 7] none <|
 .q 2 (.eqc false [(.i .i64), (.i .i64), (.i .i64), (.i .i64), (.i .i64), (.i .i64), (.i .i64), (.i .i64)]) [.r 0, .r 1] none <|
 .out [(0, .s 0), (1, .s 1), (3, .s 3), (4, .s 4), (7, .s 7), (11, .s 11), (12, .s 12), (15, .s 15), (16, .s 16), (17, .s 17), (23, .r 2)]
def e272r6 : EE := .q 1 .add [.s 12, .c (.int .i64 1)] none <|
 .out [(0, .s 0), (1, .s 1), (3, .s 3), (4, .s 4), (7, .s 7), (11, .s 11), (12, .r 1), (15, .s 15), (16, .s 16), (17, .s 17)]
def e272r7 : EE := .q 0 .add [.s 17, .c (.int .i64 1)] none <|
 .out [(0, .s 0), (1, .s 1), (3, .s 3), (4, .s 4), (7, .s 7), (11, .s 11), (12, .s 12), (15, .s 15), (16, .s 16), (17, .r 0)]
def e272l8 : EC := (.seq (.reg e272r3 [0, 1, 3, 4, 7, 11, 12, 15, 16, 17] 0) (.seq (.cond (.s 18) .skip (.exit 0)) (.seq (.block 1 (.seq (.reg e272r4 [0, 1, 3, 4, 7, 11, 12, 15, 16, 17] 0) (.seq (.reg e272r5 [0, 1, 3, 4, 7, 11, 12, 14, 15, 16, 17] 0) (.cond (.s 23) (.reg e272r6 [0, 1, 3, 4, 7, 11, 12, 15, 16, 17] 0) .skip)))) (.reg e272r7 [0, 1, 3, 4, 7, 11, 12, 15, 16, 17] 0))))
def e272r9 : EE := .q 2 .mv [.s 12] (some (.s 1, true)) <|
 .q 3 .mv [.s 0] (some (.s 1, true)) <|
 .x 4 (.call 321) [.r 3] (some (.s 1, true)) [] <|
 .q 5 .sub [.r 4, .c (.int .i64 1)] (some (.s 1, true)) <|
 .q 6 .geq [.r 2, .r 5] (some (.s 1, true)) <|
 .q 7 .pick [.s 1, .r 6, .c (.bool false)] none <|
 .out [(0, .s 0), (1, .s 1), (3, .s 3), (4, .s 4), (7, .s 7), (11, .s 11), (12, .s 12), (34, .r 7)]
def e272r10 : EE := .q 0 (.lda 8) [.s 7] none <|
 .x 2 (.st 8) [.s 11, .r 0] none [] <|
 .out [(10, .c (.int .i64 1)), (11, .s 11)]
def e272r11 : EE := .q 1 .len [.s 3] none <|
 .x 3 (.call 213) [.s 0] none [] <|
 .q 4 .sub [.r 3, .c (.int .i64 1)] none <|
 .q 5 .lss [.r 1, .r 4] none <|
 .q 7 .mv [.s 1] (some (.r 5, false)) <|
 .q 8 .mv [.r 7] (some (.r 5, false)) <|
 .q 9 .mv [.s 4] (some (.r 8, true)) <|
 .q 10 .not [.r 9] (some (.r 8, true)) <|
 .q 11 .pick [.r 8, .r 10, .c (.bool false)] (some (.r 5, false)) <|
 .q 12 .mv [.r 11] (some (.r 5, false)) <|
 .q 13 .mv [.s 3] (some (.r 12, true)) <|
 .q 14 .len [.r 13] (some (.r 12, true)) <|
 .q 15 .mv [.s 12] (some (.r 12, true)) <|
 .q 16 .sub [.r 14, .r 15] (some (.r 12, true)) <|
 .q 17 .lss [.r 16, .c (.int .i64 2)] (some (.r 12, true)) <|
 .q 18 .pick [.r 12, .r 17, .c (.bool false)] (some (.r 5, false)) <|
 .q 19 .pick [.r 5, .c (.bool true), .r 18] none <|
 .out [(3, .s 3), (7, .s 7), (11, .s 11), (55, .r 19)]
def e272r12 : EE := .q 0 (.bld [z, z, z, z, z, z, z, z] []) [] none <|
 .x 2 (.st 8) [.s 11, .r 0] none [] <|
 .out [(10, .c z), (11, .s 11)]
def e272r13 : EE := .q 0 (.lda 8) [.s 7] none <|
 .x 1 (.bsl 46 1 [z, z, z, z, z, z, z, z] [(0, 8)]) [.r 0] none [] <|
 .x 3 (.app 46 8 64 [z, z, z, z, z, z, z, z]) [.r 1, .s 3] none [] <|
 .x 4 (.call 271) [.r 3] none [] <|
 .x 6 (.st 8) [.s 11, .r 4] none [] <|
 .out [(10, .c (.int .i64 2)), (11, .s 11)]
def e272 : EFn := ⟨(.seq (.reg e272r0 [0, 1, 2, 3, 4] 0) (.seq (.reg e272r1 [0, 1, 3, 4, 7, 11] 0) (.seq (.seq (.reg e272r2 [0, 1, 3, 4, 7, 11, 12] 0) (.block 0 (.loop [0, 1, 3, 4, 7, 11, 12, 15, 16, 17] e272l8))) (.seq (.seq (.reg e272r9 [0, 1, 3, 4, 7, 11, 12] 0) (.cond (.s 34) (.seq (.reg e272r10 [7, 11] 0) .ret) .skip)) (.seq (.seq (.reg e272r11 [0, 1, 3, 4, 7, 11, 12] 0) (.cond (.s 55) (.seq (.reg e272r12 [11] 0) .ret) .skip)) (.seq (.reg e272r13 [3, 7, 11] 0) .ret)))))), [.slot 10, .cells 11 8], 62, 0⟩
theorem g272 : Good Tryz.prog 272 e272 := ⟨Tryz.f272, Tryz.func272, by kernel_rfl, by kernel_rfl, by kernel_rfl, by kernel_rfl⟩
/-! concord/dedup.known -/
def e277r0 : EE := .out [(0, .s 0)]
def e277r1 : EE := .q 1 .geq [.s 0, .c (.int .i64 1)] none <|
 .q 3 .mv [.s 0] (some (.r 1, true)) <|
 .q 4 .leq [.r 3, .c (.int .i64 8)] (some (.r 1, true)) <|
 .q 5 .pick [.r 1, .r 4, .c (.bool false)] none <|
 .out [(2, .r 5)]
def e277 : EFn := ⟨(.seq (.reg e277r0 [0] 0) (.seq (.reg e277r1 [0] 0) .ret)), [.slot 2], 9, 0⟩
theorem g277 : Good Tryz.prog 277 e277 := ⟨Tryz.f277, Tryz.func277, by kernel_rfl, by kernel_rfl, by kernel_rfl, by kernel_rfl⟩
/-! concord/dedup.copied -/
def e278r0 : EE := .x 0 (.box 56) [.s 0] none [] <|
 .x 1 (.alc [z, (.bool false), zs, z, .nsl] 56) [] none [] <|
 .out [(1, .r 0), (2, .r 1)]
def e278r1 : EE := .q 0 (.fld 4) [.s 1] none <|
 .q 1 .ld [.r 0] none <|
 .x 2 (.call 64) [.r 1] none [] <|
 .q 3 (.fld 4) [.s 1] none <|
 .x 4 (.st 1) [.r 3, .r 2] none [] <|
 .out [(1, .s 1), (2, .s 2)]
def e278r2 : EE := .q 0 (.lda 5) [.s 1] none <|
 .x 1 (.st 5) [.s 2, .r 0] none [] <|
 .out [(2, .s 2)]
def e278 : EFn := ⟨(.seq (.reg e278r0 [0] 0) (.seq (.reg e278r1 [1, 2] 0) (.seq (.reg e278r2 [1, 2] 0) .ret))), [.cells 2 5], 8, 0⟩
theorem g278 : Good Tryz.prog 278 e278 := ⟨Tryz.f278, Tryz.func278, by kernel_rfl, by kernel_rfl, by kernel_rfl, by kernel_rfl⟩
/-! concord/kv.Get -/
def e279r0 : EE := .x 0 (.alc [zs, zs, z] 124) [] none [] <|
 .out [(0, .s 0), (1, .s 1), (4, .r 0)]
def e279r1 : EE := .x 2 (.call 323) [.s 0, .s 1] none [] <|
 .q 4 (.ext 0) [.r 2] none <|
 .q 5 (.ext 1) [.r 2] none <|
 .out [(0, .s 0), (4, .s 4), (6, .r 4), (7, .r 5)]
def e279r2 : EE := .q 1 .not [.s 7] none <|
 .out [(0, .s 0), (4, .s 4), (6, .s 6), (15, .r 1)]
def e279r3 : EE := .q 0 (.bld [zs, zs, z] []) [] none <|
 .x 1 (.st 3) [.s 4, .r 0] none [] <|
 .out [(4, .s 4), (5, .c (.bool false))]
def e279r4 : EE := .q 2 (.ixs 3) [.s 0, .s 6] none <|
 .q 3 (.lda 3) [.r 2] none <|
 .x 4 (.st 3) [.s 4, .r 3] none [] <|
 .out [(4, .s 4), (5, .c (.bool true))]
def e279 : EFn := ⟨(.seq (.reg e279r0 [0, 1] 0) (.seq (.reg e279r1 [0, 1, 4] 0) (.seq (.seq (.reg e279r2 [0, 4, 6, 7] 0) (.cond (.s 15) (.seq (.reg e279r3 [4] 0) .ret) .skip)) (.seq (.reg e279r4 [0, 4, 6] 0) .ret)))), [.cells 4 3, .slot 5], 21, 0⟩
theorem g279 : Good Tryz.prog 279 e279 := ⟨Tryz.f279, Tryz.func279, by kernel_rfl, by kernel_rfl, by kernel_rfl, by kernel_rfl⟩
/-! concord/kv.Put -/
def e280r0 : EE := .out [(0, .s 0), (1, .s 1), (2, .s 2)]
def e280r1 : EE := .x 2 (.call 323) [.s 0, .s 1] none [] <|
 .q 4 (.ext 0) [.r 2] none <|
 .q 5 (.ext 1) [.r 2] none <|
 .out [(0, .s 0), (1, .s 1), (2, .s 2), (8, .r 4), (9, .r 5)]
def e280r2 : EE := .q 1 .not [.s 9] none <|
 .q 3 .mv [.s 0] (some (.r 1, true)) <|
 .q 4 .len [.r 3] (some (.r 1, true)) <|
 .q 5 .geq [.r 4, .c (.int .i64 32)] (some (.r 1, true)) <|
 .q 6 .pick [.r 1, .r 5, .c (.bool false)] none <|
 .out [(0, .s 0), (1, .s 1), (2, .s 2), (8, .s 8), (9, .s 9), (23, .r 6)]
def e280r3 : EE := .out [(6, .c .nsl), (7, .c (.int .i64 7))]
def e280r4 : EE := .x 1 (.call 64) [.s 0] none [] <|
 .out [(1, .s 1), (2, .s 2), (8, .s 8), (9, .s 9), (10, .r 1)]
def e280r5 : EE := .q 1 .not [.s 9] none <|
 .out [(1, .s 1), (2, .s 2), (8, .s 8), (10, .s 10), (27, .r 1)]
def e280r6 : EE := .q 3 (.bld [zs, zs, z] [(0, 1)]) [.s 1] none <|
 .x 4 (.bsl 124 1 [zs, zs, z] [(0, 3)]) [.r 3] none [] <|
 .x 5 (.call 324) [.s 10, .s 8, .r 4] none [] <|
 .out [(2, .s 2), (8, .s 8), (10, .r 5)]
def e280r7 : EE := .q 3 (.ixs 3) [.s 10, .s 8] none <|
 .q 4 (.fld 1) [.r 3] none <|
 .x 5 (.st 1) [.r 4, .s 2] none [] <|
 .out [(8, .s 8), (10, .s 10)]
def e280r8 : EE := .q 2 (.ixs 3) [.s 10, .s 8] none <|
 .q 3 (.fld 2) [.r 2] none <|
 .q 4 .ld [.r 3] none <|
 .q 5 .add [.r 4, .c (.int .i64 1)] none <|
 .q 6 (.ixs 3) [.s 10, .s 8] none <|
 .q 7 (.fld 2) [.r 6] none <|
 .x 8 (.st 1) [.r 7, .r 5] none [] <|
 .out [(10, .s 10)]
def e280r9 : EE := .out [(6, .s 10), (7, .c z)]
def e280 : EFn := ⟨(.seq (.reg e280r0 [0, 1, 2] 0) (.seq (.reg e280r1 [0, 1, 2] 0) (.seq (.seq (.reg e280r2 [0, 1, 2, 8, 9] 0) (.cond (.s 23) (.seq (.reg e280r3 [] 0) .ret) .skip)) (.seq (.reg e280r4 [0, 1, 2, 8, 9] 0) (.seq (.seq (.reg e280r5 [1, 2, 8, 9, 10] 0) (.cond (.s 27) (.reg e280r6 [1, 2, 8, 10] 0) .skip)) (.seq (.reg e280r7 [2, 8, 10] 0) (.seq (.reg e280r8 [8, 10] 0) (.seq (.reg e280r9 [10] 0) .ret)))))))), [.slot 6, .slot 7], 48, 0⟩
theorem g280 : Good Tryz.prog 280 e280 := ⟨Tryz.f280, Tryz.func280, by kernel_rfl, by kernel_rfl, by kernel_rfl, by kernel_rfl⟩
/-! internal/strconv.small -/
def e285r0 : EE := .out [(0, .s 0)]
def e285r1 : EE := .q 1 .lss [.s 0, .c (.int .i64 10)] none <|
 .out [(0, .s 0), (4, .r 1)]
def e285r2 : EE := .q 2 .add [.s 0, .c (.int .i64 1)] none <|
 .q 3 (.slcs true true) [.c (.str [48, 49, 50, 51, 52, 53, 54, 55, 56, 57, 97, 98, 99, 100, 101, 102, 103, 104, 105, 106, 107, 108, 109, 110, 111, 112, 113, 114, 115, 116, 117, 118, 119, 120, 121, 122]), .s 0, .r 2] none <|
 .out [(2, .r 3)]
def e285r3 : EE := .q 1 .mul [.s 0, .c (.int .i64 2)] none <|
 .q 3 .mul [.s 0, .c (.int .i64 2)] none <|
 .q 4 .add [.r 3, .c (.int .i64 2)] none <|
 .q 5 (.slcs true true) [.c (.str [48, 48, 48, 49, 48, 50, 48, 51, 48, 52, 48, 53, 48, 54, 48, 55, 48, 56, 48, 57, 49, 48, 49, 49, 49, 50, 49, 51, 49, 52, 49, 53, 49, 54, 49, 55, 49, 56, 49, 57, 50, 48, 50, 49, 50, 50, 50, 51, 50, 52, 50, 53, 50, 54, 50, 55, 50, 56, 50, 57, 51, 48, 51, 49, 51, 50, 51, 51, 51, 52, 51, 53, 51, 54, 51, 55, 51, 56, 51, 57, 52, 48, 52, 49, 52, 50, 52, 51, 52, 52, 52, 53, 52, 54, 52, 55, 52, 56, 52, 57, 53, 48, 53, 49, 53, 50, 53, 51, 53, 52, 53, 53, 53, 54, 53, 55, 53, 56, 53, 57, 54, 48, 54, 49, 54, 50, 54, 51, 54, 52, 54, 53, 54, 54, 54, 55, 54, 56, 54, 57, 55, 48, 55, 49, 55, 50, 55, 51, 55, 52, 55, 53, 55, 54, 55, 55, 55, 56, 55, 57, 56, 48, 56, 49, 56, 50, 56, 51, 56, 52, 56, 53, 56, 54, 56, 55, 56, 56, 56, 57, 57, 48, 57, 49, 57, 50, 57, 51, 57, 52, 57, 53, 57, 54, 57, 55, 57, 56, 57, 57]), .r 1, .r 4] none <|
 .out [(2, .r 5)]
def e285 : EFn := ⟨(.seq (.reg e285r0 [0] 0) (.seq (.seq (.reg e285r1 [0] 0) (.cond (.s 4) (.seq (.reg e285r2 [0] 0) .ret) .skip)) (.seq (.reg e285r3 [0] 0) .ret))), [.slot 2], 15, 0⟩
theorem g285 : Good Tryz.prog 285 e285 := ⟨Tryz.f285, Tryz.func285, by kernel_rfl, by kernel_rfl, by kernel_rfl, by kernel_rfl⟩
/-! internal/strconv.Atoi -/
def e290r0 : EE := .out [(0, .s 0)]
def e290r1 : EE := .q 1 .lenz [.s 0] none <|
 .out [(0, .s 0), (4, .r 1)]
def e290r2 : EE := .q 1 .mv [.s 4] (some (.c (.bool false), true)) <|
 .q 2 .lss [.c z, .r 1] (some (.c (.bool false), true)) <|
 .q 3 .mv [.r 2] (some (.c (.bool false), true)) <|
 .q 4 .mv [.s 4] (some (.r 3, true)) <|
 .q 5 .lss [.r 4, .c (.int .i64 10)] (some (.r 3, true)) <|
 .q 6 .pick [.r 3, .r 5, .c (.bool false)] (some (.c (.bool false), true)) <|
 .q 7 .pick [.c (.bool false), .r 6, .c (.bool false)] none <|
 .q 9 .mv [.c (.bool true)] (some (.r 7, false)) <|
 .q 10 .mv [.s 4] (some (.r 9, true)) <|
 .q 11 .lss [.c z, .r 10] (some (.r 9, true)) <|
 .q 12 .mv [.r 11] (some (.r 9, true)) <|
 .q 13 .mv [.s 4] (some (.r 12, true)) <|
 .q 14 .lss [.r 13, .c (.int .i64 19)] (some (.r 12, true)) <|
 .q 15 .pick [.r 12, .r 14, .c (.bool false)] (some (.r 9, true)) <|
 .q 16 .pick [.r 9, .r 15, .c (.bool false)] (some (.r 7, false)) <|
 .q 17 .pick [.r 7, .c (.bool true), .r 16] none <|
 .out [(0, .s 0), (30, .r 17)]
def e290r3 : EE := .out [(0, .s 0), (5, .s 0)]
def e290r4 : EE := .q 1 .idxs [.s 0, .c z] none <|
 .q 2 .eql [.r 1, .c (.int .u8 45)] none <|
 .q 4 .mv [.s 0] (some (.r 2, false)) <|
 .q 5 .idxs [.r 4, .c z] (some (.r 2, false)) <|
 .q 6 .eql [.r 5, .c (.int .u8 43)] (some (.r 2, false)) <|
 .q 7 .pick [.r 2, .c (.bool true), .r 6] none <|
 .out [(0, .s 0), (5, .s 5), (39, .r 7)]
def e290r5 : EE := .q 1 (.slcs true false) [.s 0, .c (.int .i64 1)] none <|
 .out [(0, .r 1), (5, .s 5)]
def e290r6 : EE := .q 1 .lenz [.s 0] none <|
 .q 2 .lss [.r 1, .c (.int .i64 1)] none <|
 .out [(0, .s 0), (5, .s 5), (44, .r 2)]
def e290r7 : EE := .q 0 (.mki 437) [.c (.int .i64 2)] none <|
 .out [(2, .c z), (3, .r 0)]
def e290r8 : EE := .out [(0, .s 0), (5, .s 5), (6, .c z)]
def e290r9 : EE := .x 1 (.s2b 5) [.s 0] none [] <|
 .q 2 .len [.r 1] none <|
 .out [(5, .s 5), (6, .s 6), (47, .r 1), (48, .r 2), (49, .c z)]
def e290r10 : EE := .q 0 .lss [.s 49, .s 48] none <|
 .out [(5, .s 5), (6, .s 6), (47, .s 47), (48, .s 48), (49, .s 49), (50, .r 0)]
def e290r11 : EE := .q 0 (.ixs 1) [.s 47, .s 49] none <|
 .q 1 .ld [.r 0] none <|
 .out [(5, .s 5), (6, .s 6), (8, .r 1), (47, .s 47), (48, .s 48), (49, .s 49)]
def e290r12 : EE := .q 1 .sub [.s 8, .c (.int .u8 48)] none <|
 .out [(5, .s 5), (6, .s 6), (8, .r 1), (47, .s 47), (48, .s 48), (49, .s 49)]
def e290r13 : EE := .q 1 .gtr [.s 8, .c (.int .u8 9)] none <|
 .out [(5, .s 5), (6, .s 6), (8, .s 8), (47, .s 47), (48, .s 48), (49, .s 49), (56, .r 1)]
def e290r14 : EE := .q 0 (.mki 437) [.c (.int .i64 2)] none <|
 .out [(2, .c z), (3, .r 0)]
def e290r15 : EE := .q 1 .mul [.s 6, .c (.int .i64 10)] none <|
 .q 3 (.conv .i64) [.s 8] none <|
 .q 4 .add [.r 1, .r 3] none <|
 .out [(5, .s 5), (6, .r 4), (47, .s 47), (48, .s 48), (49, .s 49)]
def e290r16 : EE := .q 0 .add [.s 49, .c (.int .i64 1)] none <|
 .out [(5, .s 5), (6, .s 6), (47, .s 47), (48, .s 48), (49, .r 0)]
def e290l17 : EC := (.seq (.reg e290r10 [5, 6, 47, 48, 49] 0) (.seq (.cond (.s 50) .skip (.exit 0)) (.seq (.block 1 (.seq (.reg e290r11 [5, 6, 47, 48, 49] 0) (.seq (.reg e290r12 [5, 6, 8, 47, 48, 49] 0) (.seq (.seq (.reg e290r13 [5, 6, 8, 47, 48, 49] 0) (.cond (.s 56) (.seq (.reg e290r14 [] 0) .ret) .skip)) (.reg e290r15 [5, 6, 8, 47, 48, 49] 0))))) (.reg e290r16 [5, 6, 47, 48, 49] 0))))
def e290r18 : EE := .q 1 .idxs [.s 5, .c z] none <|
 .q 2 .eql [.r 1, .c (.int .u8 45)] none <|
 .out [(6, .s 6), (66, .r 2)]
def e290r19 : EE := .q 1 .neg [.s 6] none <|
 .out [(6, .r 1)]
def e290r20 : EE := .out [(2, .s 6), (3, .c .nif)]
def e290r21 : EE := .x 1 (.call 332) [.s 0, .c (.int .i64 10), .c z] none [] <|
 .q 3 (.ext 0) [.r 1] none <|
 .q 4 (.ext 1) [.r 1] none <|
 .out [(9, .r 3), (10, .r 4)]
def e290r22 : EE := .out [(2, .s 9), (3, .s 10)]
def e290 : EFn := ⟨(.seq (.reg e290r0 [0] 0) (.seq (.reg e290r1 [0] 0) (.seq (.seq (.reg e290r2 [0, 4] 0) (.cond (.s 30) (.seq (.reg e290r3 [0] 0) (.seq (.seq (.reg e290r4 [0, 5] 0) (.cond (.s 39) (.seq (.reg e290r5 [0, 5] 0) (.seq (.reg e290r6 [0, 5] 0) (.cond (.s 44) (.seq (.reg e290r7 [] 0) .ret) .skip))) .skip)) (.seq (.reg e290r8 [0, 5] 0) (.seq (.seq (.reg e290r9 [0, 5, 6] 0) (.block 0 (.loop [5, 6, 47, 48, 49] e290l17))) (.seq (.seq (.reg e290r18 [5, 6] 0) (.cond (.s 66) (.reg e290r19 [6] 0) .skip)) (.seq (.reg e290r20 [6] 0) .ret)))))) .skip)) (.seq (.reg e290r21 [0] 0) (.seq (.reg e290r22 [9, 10] 0) .ret))))), [.slot 2, .slot 3], 77, 0⟩
theorem g290 : Good Tryz.prog 290 e290 := ⟨Tryz.f290, Tryz.func290, by kernel_rfl, by kernel_rfl, by kernel_rfl, by kernel_rfl⟩
/-! internal/stringslite.IndexByte -/
def e292r0 : EE := .out [(0, .s 0), (1, .s 1)]
def e292r1 : EE := .q 2 .ixb [.s 0, .s 1] none <|
 .out [(4, .r 2)]
def e292 : EFn := ⟨(.seq (.reg e292r0 [0, 1] 0) (.seq (.reg e292r1 [0, 1] 0) .ret)), [.slot 4], 8, 0⟩
theorem g292 : Good Tryz.prog 292 e292 := ⟨Tryz.f292, Tryz.func292, by kernel_rfl, by kernel_rfl, by kernel_rfl, by kernel_rfl⟩
/-! internal/stringslite.Index -/
def e296r0 : EE := .out [(0, .s 0), (1, .s 1)]
def e296r1 : EE := .q 1 .lenz [.s 1] none <|
 .out [(0, .s 0), (1, .s 1), (5, .r 1)]
def e296r2 : EE := .q 1 .eql [.s 5, .c z] none <|
 .q 3 .mv [.s 1] (some (.r 1, false)) <|
 .q 4 .mv [.s 0] (some (.r 1, false)) <|
 .q 5 .seql [.r 3, .r 4] (some (.r 1, false)) <|
 .q 6 .pick [.r 1, .c (.bool true), .r 5] none <|
 .out [(0, .s 0), (1, .s 1), (5, .s 5), (16, .r 6)]
def e296r3 : EE := .out [(4, .c z)]
def e296r4 : EE := .q 1 .eql [.s 5, .c (.int .i64 1)] none <|
 .out [(0, .s 0), (1, .s 1), (5, .s 5), (24, .r 1)]
def e296r5 : EE := .q 2 .idxs [.s 1, .c z] none <|
 .x 3 (.call 292) [.s 0, .r 2] none [] <|
 .out [(4, .r 3)]
def e296r6 : EE := .q 2 .lenz [.s 0] none <|
 .q 3 .geq [.s 5, .r 2] none <|
 .out [(0, .s 0), (1, .s 1), (5, .s 5), (31, .r 3)]
def e296r7 : EE := .out [(4, .c (.int .i64 (-1)))]
def e296r8 : EE := .q 1 .ld [.g 1] none <|
 .q 2 .leq [.s 5, .r 1] none <|
 .q 4 .mv [.s 0] (some (.r 2, true)) <|
 .q 5 .lenz [.r 4] (some (.r 2, true)) <|
 .q 6 .leq [.r 5, .c (.int .i64 64)] (some (.r 2, true)) <|
 .q 7 .pick [.r 2, .r 6, .c (.bool false)] none <|
 .out [(0, .s 0), (1, .s 1), (5, .s 5), (36, .r 7)]
def e296r9 : EE := .x 2 .bad [] none [] <|
 .out [(4, .r 2)]
def e296r10 : EE := .q 1 .idxs [.s 1, .c z] none <|
 .out [(0, .s 0), (1, .s 1), (5, .s 5), (6, .r 1)]
def e296r11 : EE := .q 1 .idxs [.s 1, .c (.int .i64 1)] none <|
 .out [(0, .s 0), (1, .s 1), (5, .s 5), (6, .s 6), (7, .r 1)]
def e296r12 : EE := .out [(0, .s 0), (1, .s 1), (5, .s 5), (6, .s 6), (7, .s 7), (8, .c z)]
def e296r13 : EE := .q 1 .lenz [.s 0] none <|
 .q 3 .sub [.r 1, .s 5] none <|
 .q 4 .add [.r 3, .c (.int .i64 1)] none <|
 .out [(0, .s 0), (1, .s 1), (5, .s 5), (6, .s 6), (7, .s 7), (8, .s 8), (9, .r 4)]
def e296r14 : EE := .out [(0, .s 0), (1, .s 1), (5, .s 5), (6, .s 6), (7, .s 7), (8, .s 8), (9, .s 9), (10, .c z)]
def e296r15 : EE := .q 2 .lss [.s 8, .s 9] none <|
 .out [(0, .s 0), (1, .s 1), (5, .s 5), (6, .s 6), (7, .s 7), (8, .s 8), (9, .s 9), (10, .s 10), (59, .r 2)]
def e296r16 : EE := .q 2 .idxs [.s 0, .s 8] none <|
 .q 4 .neq [.r 2, .s 6] none <|
 .out [(0, .s 0), (1, .s 1), (5, .s 5), (6, .s 6), (7, .s 7), (8, .s 8), (9, .s 9), (10, .s 10), (64, .r 4)]
def e296r17 : EE := .q 2 .add [.s 8, .c (.int .i64 1)] none <|
 .q 4 (.slcs true true) [.s 0, .r 2, .s 9] none <|
 .x 6 (.call 292) [.r 4, .s 6] none [] <|
 .out [(0, .s 0), (1, .s 1), (5, .s 5), (6, .s 6), (7, .s 7), (8, .s 8), (9, .s 9), (10, .s 10), (11, .r 6)]
def e296r18 : EE := .q 1 .lss [.s 11, .c z] none <|
 .out [(0, .s 0), (1, .s 1), (5, .s 5), (6, .s 6), (7, .s 7), (8, .s 8), (9, .s 9), (10, .s 10), (11, .s 11), (73, .r 1)]
def e296r19 : EE := .out [(4, .c (.int .i64 (-1)))]
def e296r20 : EE := .q 2 .add [.s 11, .c (.int .i64 1)] none <|
 .q 3 .add [.s 8, .r 2] none <|
 .out [(0, .s 0), (1, .s 1), (5, .s 5), (6, .s 6), (7, .s 7), (8, .r 3), (9, .s 9), (10, .s 10)]
def e296r21 : EE := .q 2 .add [.s 8, .c (.int .i64 1)] none <|
 .q 3 .idxs [.s 0, .r 2] none <|
 .q 5 .eql [.r 3, .s 7] none <|
 .q 7 .mv [.s 0] (some (.r 5, true)) <|
 .q 8 .mv [.s 8] (some (.r 5, true)) <|
 .q 9 .mv [.s 8] (some (.r 5, true)) <|
 .q 10 .mv [.s 5] (some (.r 5, true)) <|
 .q 11 .add [.r 9, .r 10] (some (.r 5, true)) <|
 .q 12 (.slcs true true) [.r 7, .r 8, .r 11] (some (.r 5, true)) <|
 .q 13 .mv [.s 1] (some (.r 5, true)) <|
 .q 14 .seql [.r 12, .r 13] (some (.r 5, true)) <|
 .q 15 .pick [.r 5, .r 14, .c (.bool false)] none <|
 .out [(0, .s 0), (1, .s 1), (5, .s 5), (6, .s 6), (7, .s 7), (8, .s 8), (9, .s 9), (10, .s 10), (93, .r 15)]
def e296r22 : EE := .out [(4, .s 8)]
def e296r23 : EE := .q 1 .add [.s 8, .c (.int .i64 1)] none <|
 .out [(0, .s 0), (1, .s 1), (5, .s 5), (6, .s 6), (7, .s 7), (8, .r 1), (9, .s 9), (10, .s 10)]
def e296r24 : EE := .q 1 .add [.s 10, .c (.int .i64 1)] none <|
 .out [(0, .s 0), (1, .s 1), (5, .s 5), (6, .s 6), (7, .s 7), (8, .s 8), (9, .s 9), (10, .r 1)]
def e296r25 : EE := .q 1 .ld [.g 1] none <|
 .q 2 .leq [.s 5, .r 1] none <|
 .q 4 .mv [.s 10] (some (.r 2, true)) <|
 .q 5 .mv [.s 8] (some (.r 2, true)) <|
 .x 6 (.call 340) [.r 5] (some (.r 2, true)) [] <|
 .q 7 .gtr [.r 4, .r 6] (some (.r 2, true)) <|
 .q 8 .pick [.r 2, .r 7, .c (.bool false)] none <|
 .out [(0, .s 0), (1, .s 1), (5, .s 5), (6, .s 6), (7, .s 7), (8, .s 8), (9, .s 9), (10, .s 10), (107, .r 8)]
def e296r26 : EE := .q 2 (.slcs true false) [.s 0, .s 8] none <|
 .x 4 .bad [] none [] <|
 .out [(8, .s 8), (12, .r 4)]
def e296r27 : EE := .q 1 .geq [.s 12, .c z] none <|
 .out [(8, .s 8), (12, .s 12), (114, .r 1)]
def e296r28 : EE := .q 2 .add [.s 12, .s 8] none <|
 .out [(4, .r 2)]
def e296r29 : EE := .out [(4, .c (.int .i64 (-1)))]
def e296r30 : EE := .q 1 .ld [.g 1] none <|
 .q 2 .gtr [.s 5, .r 1] none <|
 .q 4 .mv [.s 10] (some (.r 2, true)) <|
 .q 5 .mv [.s 8] (some (.r 2, true)) <|
 .q 6 .shr [.r 5, .c (.int .u64 4)] (some (.r 2, true)) <|
 .q 7 .add [.c (.int .i64 4), .r 6] (some (.r 2, true)) <|
 .q 8 .geq [.r 4, .r 7] (some (.r 2, true)) <|
 .q 9 .pick [.r 2, .r 8, .c (.bool false)] none <|
 .q 11 .mv [.s 8] (some (.r 9, true)) <|
 .q 12 .mv [.s 9] (some (.r 9, true)) <|
 .q 13 .lss [.r 11, .r 12] (some (.r 9, true)) <|
 .q 14 .pick [.r 9, .r 13, .c (.bool false)] none <|
 .out [(0, .s 0), (1, .s 1), (5, .s 5), (6, .s 6), (7, .s 7), (8, .s 8), (9, .s 9), (10, .s 10), (132, .r 14)]
def e296r31 : EE := .q 2 (.slcs true false) [.s 0, .s 8] none <|
 .x 4 (.call 341) [.r 2, .s 1] none [] <|
 .out [(8, .s 8), (13, .r 4)]
def e296r32 : EE := .q 1 .lss [.s 13, .c z] none <|
 .out [(8, .s 8), (13, .s 13), (139, .r 1)]
def e296r33 : EE := .out [(4, .c (.int .i64 (-1)))]
def e296r34 : EE := .q 2 .add [.s 8, .s 13] none <|
 .out [(4, .r 2)]
def e296l35 : EC := (.seq (.seq (.reg e296r15 [0, 1, 5, 6, 7, 8, 9, 10] 0) (.cond (.s 59) .skip (.exit 1))) (.block 2 (.seq (.seq (.reg e296r16 [0, 1, 5, 6, 7, 8, 9, 10] 0) (.cond (.s 64) (.seq (.reg e296r17 [0, 1, 5, 6, 7, 8, 9, 10] 0) (.seq (.seq (.reg e296r18 [0, 1, 5, 6, 7, 8, 9, 10, 11] 0) (.cond (.s 73) (.seq (.reg e296r19 [] 0) .ret) .skip)) (.reg e296r20 [0, 1, 5, 6, 7, 8, 9, 10, 11] 0))) .skip)) (.seq (.seq (.reg e296r21 [0, 1, 5, 6, 7, 8, 9, 10] 0) (.cond (.s 93) (.seq (.reg e296r22 [8] 0) .ret) .skip)) (.seq (.reg e296r23 [0, 1, 5, 6, 7, 8, 9, 10] 0) (.seq (.reg e296r24 [0, 1, 5, 6, 7, 8, 9, 10] 0) (.seq (.reg e296r25 [0, 1, 5, 6, 7, 8, 9, 10] 0) (.cond (.s 107) (.seq (.reg e296r26 [0, 8] 0) (.seq (.seq (.reg e296r27 [8, 12] 0) (.cond (.s 114) (.seq (.reg e296r28 [8, 12] 0) .ret) .skip)) (.seq (.reg e296r29 [] 0) .ret))) (.seq (.reg e296r30 [0, 1, 5, 6, 7, 8, 9, 10] 0) (.cond (.s 132) (.seq (.reg e296r31 [0, 1, 8] 0) (.seq (.seq (.reg e296r32 [8, 13] 0) (.cond (.s 139) (.seq (.reg e296r33 [] 0) .ret) .skip)) (.seq (.reg e296r34 [8, 13] 0) .ret))) .skip))))))))))
def e296r36 : EE := .out [(4, .c (.int .i64 (-1)))]
def e296 : EFn := ⟨(.seq (.reg e296r0 [0, 1] 0) (.seq (.reg e296r1 [0, 1] 0) (.seq (.block 0 (.seq (.reg e296r2 [0, 1, 5] 0) (.cond (.s 16) (.seq (.reg e296r3 [] 0) .ret) (.seq (.reg e296r4 [0, 1, 5] 0) (.cond (.s 24) (.seq (.reg e296r5 [0, 1] 0) .ret) (.seq (.reg e296r6 [0, 1, 5] 0) (.cond (.s 31) (.seq (.reg e296r7 [] 0) .ret) (.seq (.reg e296r8 [0, 1, 5] 0) (.cond (.s 36) (.seq (.reg e296r9 [] 0) .ret) .skip))))))))) (.seq (.reg e296r10 [0, 1, 5] 0) (.seq (.reg e296r11 [0, 1, 5, 6] 0) (.seq (.reg e296r12 [0, 1, 5, 6, 7] 0) (.seq (.reg e296r13 [0, 1, 5, 6, 7, 8] 0) (.seq (.reg e296r14 [0, 1, 5, 6, 7, 8, 9] 0) (.seq (.block 1 (.loop [0, 1, 5, 6, 7, 8, 9, 10] e296l35)) (.seq (.reg e296r36 [] 0) .ret)))))))))), [.slot 4], 143, 0⟩
theorem g296 : Good Tryz.prog 296 e296 := ⟨Tryz.f296, Tryz.func296, by kernel_rfl, by kernel_rfl, by kernel_rfl, by kernel_rfl⟩
/-! (*concord/pack.Reader).Count -/
def e297r0 : EE := .out [(0, .s 0), (1, .s 1)]
def e297r1 : EE := .q 1 .nl [.s 0] none <|
 .q 2 (.fld 1) [.r 1] none <|
 .q 3 .ld [.r 2] none <|
 .out [(0, .s 0), (1, .s 1), (5, .r 3)]
def e297r2 : EE := .x 1 (.call 98) [.s 0] none [] <|
 .out [(0, .s 0), (1, .s 1), (5, .s 5), (6, .r 1)]
def e297r3 : EE := .q 1 .nl [.s 0] none <|
 .q 2 (.fld 2) [.r 1] none <|
 .q 3 .ld [.r 2] none <|
 .q 4 .eql [.r 3, .c z] none <|
 .q 6 .mv [.s 6] (some (.r 4, true)) <|
 .q 7 .lss [.r 6, .c z] (some (.r 4, true)) <|
 .q 8 .mv [.r 7] (some (.r 4, true)) <|
 .q 9 .mv [.s 6] (some (.r 8, false)) <|
 .q 10 .mv [.s 1] (some (.r 8, false)) <|
 .q 11 .gtr [.r 9, .r 10] (some (.r 8, false)) <|
 .q 12 .pick [.r 8, .c (.bool true), .r 11] (some (.r 4, true)) <|
 .q 13 .pick [.r 4, .r 12, .c (.bool false)] none <|
 .out [(0, .s 0), (5, .s 5), (6, .s 6), (26, .r 13)]
def e297r4 : EE := .x 2 (.call 178) [.s 0, .s 5, .c (.int .i64 2)] none [] <|
 .out []
def e297r5 : EE := .out [(4, .c z)]
def e297r6 : EE := .out [(4, .s 6)]
def e297 : EFn := ⟨(.seq (.reg e297r0 [0, 1] 0) (.seq (.reg e297r1 [0, 1] 0) (.seq (.reg e297r2 [0, 1, 5] 0) (.seq (.seq (.reg e297r3 [0, 1, 5, 6] 0) (.cond (.s 26) (.seq (.reg e297r4 [0, 5] 0) (.seq (.reg e297r5 [] 0) .ret)) .skip)) (.seq (.reg e297r6 [6] 0) .ret))))), [.slot 4], 31, 0⟩
theorem g297 : Good Tryz.prog 297 e297 := ⟨Tryz.f297, Tryz.func297, by kernel_rfl, by kernel_rfl, by kernel_rfl, by kernel_rfl⟩
/-! internal/stringslite.TrimPrefix -/
def e298r0 : EE := .out [(0, .s 0), (1, .s 1)]
def e298r1 : EE := .x 2 (.call 342) [.s 0, .s 1] none [] <|
 .out [(0, .s 0), (1, .s 1), (7, .r 2)]
def e298r2 : EE := .q 2 .lenz [.s 1] none <|
 .q 3 (.slcs true false) [.s 0, .r 2] none <|
 .out [(4, .r 3)]
def e298r3 : EE := .out [(4, .s 0)]
def e298 : EFn := ⟨(.seq (.reg e298r0 [0, 1] 0) (.seq (.seq (.reg e298r1 [0, 1] 0) (.cond (.s 7) (.seq (.reg e298r2 [0, 1] 0) .ret) .skip)) (.seq (.reg e298r3 [0] 0) .ret))), [.slot 4], 13, 0⟩
theorem g298 : Good Tryz.prog 298 e298 := ⟨Tryz.f298, Tryz.func298, by kernel_rfl, by kernel_rfl, by kernel_rfl, by kernel_rfl⟩
/-! (*concord/disk.Disk).Total -/
def e299r0 : EE := .out [(0, .s 0)]
def e299r1 : EE := .out [(0, .s 0), (3, .c z)]
def e299r2 : EE := .q 1 .nl [.s 0] none <|
 .q 2 (.fld 1) [.r 1] none <|
 .q 3 .ld [.r 2] none <|
 .q 4 .len [.r 3] none <|
 .out [(3, .s 3), (9, .r 3), (10, .r 4), (11, .c z)]
def e299r3 : EE := .q 0 .lss [.s 11, .s 10] none <|
 .out [(3, .s 3), (9, .s 9), (10, .s 10), (11, .s 11), (12, .r 0)]
def e299r4 : EE := .q 0 (.ixs 3) [.s 9, .s 11] none <|
 .q 1 (.lda 3) [.r 0] none <|
 .x 2 (.alc [zs, .nsl, z] 256) [] none [] <|
 .x 3 (.st 3) [.r 2, .r 1] none [] <|
 .out [(3, .s 3), (5, .r 2), (9, .s 9), (10, .s 10), (11, .s 11)]
def e299r5 : EE := .q 1 (.fld 1) [.s 5] none <|
 .q 2 .ld [.r 1] none <|
 .q 3 .len [.r 2] none <|
 .q 4 .add [.s 3, .r 3] none <|
 .out [(3, .r 4), (9, .s 9), (10, .s 10), (11, .s 11)]
def e299r6 : EE := .q 0 .add [.s 11, .c (.int .i64 1)] none <|
 .out [(3, .s 3), (9, .s 9), (10, .s 10), (11, .r 0)]
def e299l7 : EC := (.seq (.reg e299r3 [3, 9, 10, 11] 0) (.seq (.cond (.s 12) .skip (.exit 0)) (.seq (.block 1 (.seq (.reg e299r4 [3, 9, 10, 11] 0) (.reg e299r5 [3, 5, 9, 10, 11] 0))) (.reg e299r6 [3, 9, 10, 11] 0))))
def e299r8 : EE := .out [(2, .s 3)]
def e299 : EFn := ⟨(.seq (.reg e299r0 [0] 0) (.seq (.reg e299r1 [0] 0) (.seq (.seq (.reg e299r2 [0, 3] 0) (.block 0 (.loop [3, 9, 10, 11] e299l7))) (.seq (.reg e299r8 [3] 0) .ret)))), [.slot 2], 22, 0⟩
theorem g299 : Good Tryz.prog 299 e299 := ⟨Tryz.f299, Tryz.func299, by kernel_rfl, by kernel_rfl, by kernel_rfl, by kernel_rfl⟩
/-! slices.Grow[[]byte,byte] -/
def e302r0 : EE := .out [(0, .s 0), (1, .s 1)]
def e302r1 : EE := .q 1 .lss [.s 1, .c z] none <|
 .out [(0, .s 0), (1, .s 1), (6, .r 1)]
def e302r2 : EE := .q 0 (.mki 9) [.c (.str [99, 97, 110, 110, 111, 116, 32, 98, 101, 32, 110, 101, 103, 97, 116, 105, 118, 101])] none <|
 .x 1 .bad [] none [] <|
 .out [(0, .s 0), (1, .s 1)]
def e302r3 : EE := .q 2 .cap [.s 0] none <|
 .q 4 .len [.s 0] none <|
 .q 5 .sub [.r 2, .r 4] none <|
 .q 6 .sub [.s 1, .r 5] none <|
 .out [(0, .s 0), (1, .r 6)]
def e302r4 : EE := .q 1 .gtr [.s 1, .c z] none <|
 .out [(0, .s 0), (1, .s 1), (16, .r 1)]
def e302r5 : EE := .q 2 .cap [.s 0] none <|
 .q 3 (.slc 1 false true) [.s 0, .r 2] none <|
 .x 5 (.appn 5 1 1 [(.int .u8 0)]) [.r 3, .s 1] none [] <|
 .q 7 .len [.s 0] none <|
 .q 8 (.slc 1 false true) [.r 5, .r 7] none <|
 .out [(0, .r 8)]
def e302r6 : EE := .out [(4, .s 0)]
def e302 : EFn := ⟨(.seq (.reg e302r0 [0, 1] 0) (.seq (.seq (.reg e302r1 [0, 1] 0) (.cond (.s 6) (.reg e302r2 [0, 1] 0) .skip)) (.seq (.seq (.reg e302r3 [0, 1] 0) (.seq (.reg e302r4 [0, 1] 0) (.cond (.s 16) (.reg e302r5 [0, 1] 0) .skip))) (.seq (.reg e302r6 [0] 0) .ret)))), [.slot 4], 27, 0⟩
theorem g302 : Good Tryz.prog 302 e302 := ⟨Tryz.f302, Tryz.func302, by kernel_rfl, by kernel_rfl, by kernel_rfl, by kernel_rfl⟩
/-! concord/inst.New -/
def e303r0 : EE := .out [(0, .s 0)]
def e303r1 : EE := .x 0 .mkm [] none [] <|
 .q 1 (.bld [.nmap] [(0, 1)]) [.r 0] none <|
 .x 2 (.box 417) [.r 1] none [] <|
 .out [(0, .s 0), (3, .r 2)]
def e303r2 : EE := .q 1 .len [.s 0] none <|
 .out [(3, .s 3), (9, .s 0), (10, .r 1), (11, .c z)]
def e303r3 : EE := .q 0 .lss [.s 11, .s 10] none <|
 .out [(3, .s 3), (9, .s 9), (10, .s 10), (11, .s 11), (12, .r 0)]
def e303r4 : EE := .q 0 (.ixs 2) [.s 9, .s 11] none <|
 .q 1 (.lda 2) [.r 0] none <|
 .x 2 (.alc [z, z] 40) [] none [] <|
 .x 3 (.st 2) [.r 2, .r 1] none [] <|
 .out [(3, .s 3), (5, .r 2), (9, .s 9), (10, .s 10), (11, .s 11)]
def e303r5 : EE := .q 1 .nl [.s 3] none <|
 .q 2 (.fld 0) [.r 1] none <|
 .q 3 .ld [.r 2] none <|
 .q 4 (.lda 2) [.s 5] none <|
 .q 5 (.bld [] []) [] none <|
 .x 6 (.mup true [(.i .i64), (.i .i64)]) [.r 3, .r 4, .r 5] none [] <|
 .out [(3, .s 3), (9, .s 9), (10, .s 10), (11, .s 11)]
def e303r6 : EE := .q 0 .add [.s 11, .c (.int .i64 1)] none <|
 .out [(3, .s 3), (9, .s 9), (10, .s 10), (11, .r 0)]
def e303l7 : EC := (.seq (.reg e303r3 [3, 9, 10, 11] 0) (.seq (.cond (.s 12) .skip (.exit 0)) (.seq (.block 1 (.seq (.reg e303r4 [3, 9, 10, 11] 0) (.reg e303r5 [3, 5, 9, 10, 11] 0))) (.reg e303r6 [3, 9, 10, 11] 0))))
def e303r8 : EE := .out [(2, .s 3)]
def e303 : EFn := ⟨(.seq (.reg e303r0 [0] 0) (.seq (.reg e303r1 [0] 0) (.seq (.seq (.reg e303r2 [0, 3] 0) (.block 0 (.loop [3, 9, 10, 11] e303l7))) (.seq (.reg e303r8 [3] 0) .ret)))), [.slot 2], 23, 0⟩
theorem g303 : Good Tryz.prog 303 e303 := ⟨Tryz.f303, Tryz.func303, by kernel_rfl, by kernel_rfl, by kernel_rfl, by kernel_rfl⟩
/-! (*concord/exec.plan).beyond -/
def e304r0 : EE := .x 0 (.box 40) [.s 1] none [] <|
 .out [(0, .s 0), (3, .r 0)]
def e304r1 : EE := .q 1 .nl [.s 0] none <|
 .q 2 (.fld 7) [.r 1] none <|
 .q 3 .ld [.r 2] none <|
 .x 4 .rng [.r 3] none [] <|
 .out [(3, .s 3), (10, .r 4)]
def e304r2 : EE := .x 0 .nxt [.s 10] none [] <|
 .q 1 (.ext 0) [.r 0] none <|
 .out [(3, .s 3), (10, .s 10), (12, .r 1)]
def e304r3 : EE := .q 0 .ent [.s 10] none <|
 .q 1 (.ext 0) [.r 0] none <|
 .x 2 (.alc [z, z] 40) [] none [] <|
 .x 3 (.st 2) [.r 2, .r 1] none [] <|
 .out [(3, .s 3), (5, .r 2), (10, .s 10)]
def e304r4 : EE := .q 0 (.fld 0) [.s 5] none <|
 .q 1 .ld [.r 0] none <|
 .q 2 (.fld 0) [.s 3] none <|
 .q 3 .ld [.r 2] none <|
 .q 4 .eql [.r 1, .r 3] none <|
 .q 6 (.fld 1) [.s 5] (some (.r 4, true)) <|
 .q 7 .ld [.r 6] (some (.r 4, true)) <|
 .q 8 (.fld 1) [.s 3] (some (.r 4, true)) <|
 .q 9 .ld [.r 8] (some (.r 4, true)) <|
 .q 10 .gtr [.r 7, .r 9] (some (.r 4, true)) <|
 .q 11 .pick [.r 4, .r 10, .c (.bool false)] none <|
 .out [(3, .s 3), (10, .s 10), (26, .r 11)]
def e304r5 : EE := .out [(4, .c (.bool true))]
def e304l6 : EC := (.seq (.reg e304r2 [3, 10] 0) (.seq (.cond (.s 12) .skip (.exit 0)) (.block 1 (.seq (.reg e304r3 [3, 10] 0) (.seq (.reg e304r4 [3, 5, 10] 0) (.cond (.s 26) (.seq (.reg e304r5 [] 0) .ret) .skip))))))
def e304r7 : EE := .out [(4, .c (.bool false))]
def e304 : EFn := ⟨(.seq (.reg e304r0 [0, 1] 0) (.seq (.seq (.reg e304r1 [0, 3] 0) (.block 0 (.loop [3, 10] e304l6))) (.seq (.reg e304r7 [] 0) .ret))), [.slot 4], 27, 0⟩
theorem g304 : Good Tryz.prog 304 e304 := ⟨Tryz.f304, Tryz.func304, by kernel_rfl, by kernel_rfl, by kernel_rfl, by kernel_rfl⟩
/-! (*concord/exec.plan).hangs -/
def e306r0 : EE := .x 0 (.box 40) [.s 1] none [] <|
 .x 2 (.alc [z, z] 40) [] none [] <|
 .out [(0, .s 0), (3, .r 0), (5, .r 2)]
def e306r1 : EE := .q 0 (.lda 2) [.s 3] none <|
 .x 1 (.bsl 40 1 [z, z] [(0, 2)]) [.r 0] none [] <|
 .x 2 (.call 303) [.r 1] none [] <|
 .out [(0, .s 0), (3, .s 3), (5, .s 5), (6, .r 2)]
def e306r2 : EE := .q 0 (.lda 2) [.s 3] none <|
 .x 1 (.bsl 40 1 [z, z] [(0, 2)]) [.r 0] none [] <|
 .out [(0, .s 0), (5, .s 5), (6, .s 6), (7, .r 1)]
def e306r3 : EE := .out [(0, .s 0), (5, .s 5), (6, .s 6), (7, .s 7), (8, .c z)]
def e306r4 : EE := .q 2 .len [.s 7] none <|
 .q 3 .lss [.s 8, .r 2] none <|
 .out [(0, .s 0), (5, .s 5), (6, .s 6), (7, .s 7), (8, .s 8), (25, .r 3)]
def e306r5 : EE := .q 1 .eql [.s 8, .c (.int .i64 512)] none <|
 .out [(0, .s 0), (5, .s 5), (6, .s 6), (7, .s 7), (8, .s 8), (29, .r 1)]
def e306r6 : EE := .q 0 (.bld [z, z] []) [] none <|
 .x 2 (.st 2) [.s 5, .r 0] none [] <|
 .out [(4, .c .nsl), (5, .s 5)]
def e306r7 : EE := .q 2 (.ixs 2) [.s 7, .s 8] none <|
 .q 3 (.lda 2) [.r 2] none <|
 .x 4 (.alc [z, z] 40) [] none [] <|
 .x 5 (.st 2) [.r 4, .r 3] none [] <|
 .out [(0, .s 0), (5, .s 5), (6, .s 6), (7, .s 7), (8, .s 8), (9, .r 4)]
def e306r8 : EE := .q 1 .nl [.s 0] none <|
 .q 2 (.fld 7) [.r 1] none <|
 .q 3 .ld [.r 2] none <|
 .q 4 (.lda 2) [.s 9] none <|
 .q 5 (.lkp true [(.i .i64), (.i .i64)] (.agg [z, z, z, z, z, z, z, z, zs, zs, zs, zs, z, z, z, z, z, z, z, z, (.bool false)]) false) [.r 3, .r 4] none <|
 .x 6 (.alc [z, z, z, z, z, z, z, z, zs, zs, zs, zs, z, z, z, z, z, z, z, z, (.bool false)] 48) [] none [⟨3, .ld, [.r 2], none⟩, ⟨4, (.lda 2), [.s 9], none⟩, ⟨5, (.lkp true [(.i .i64), (.i .i64)] (.agg [z, z, z, z, z, z, z, z, zs, zs, zs, zs, z, z, z, z, z, z, z, z, (.bool false)]) false), [.r 3, .r 4], none⟩] <|
 .x 7 (.st 21) [.r 6, .r 5] none [] <|
 .out [(0, .s 0), (5, .s 5), (6, .s 6), (7, .s 7), (8, .s 8), (9, .s 9), (10, .r 6)]
def e306r9 : EE := .out [(0, .s 0), (5, .s 5), (6, .s 6), (7, .s 7), (8, .s 8), (9, .s 9), (10, .s 10), (41, .c z)]
def e306r10 : EE := .q 0 .lss [.s 41, .c (.int .i64 7)] none <|
 .out [(0, .s 0), (5, .s 5), (6, .s 6), (7, .s 7), (8, .s 8), (9, .s 9), (10, .s 10), (41, .s 41), (42, .r 0)]
def e306r11 : EE := .out [(0, .s 0), (5, .s 5), (6, .s 6), (7, .s 7), (8, .s 8), (9, .s 9), (10, .s 10), (11, .s 41), (41, .s 41)]
def e306r12 : EE := .q 0 (.lda 2) [.s 9] none <|
 .q 1 (.lda 21) [.s 10] none <|
 .x 3 (.call 344) [.r 0, .r 1, .s 11] none [] <|
 .out [(0, .s 0), (5, .s 5), (6, .s 6), (7, .s 7), (8, .s 8), (9, .s 9), (10, .s 10), (11, .s 11), (12, .r 3), (41, .s 41)]
def e306r13 : EE := .q 2 .nl [.s 0] none <|
 .q 3 (.fld 0) [.r 2] none <|
 .q 4 (.ixa 7 1) [.r 3, .s 11] none <|
 .q 5 .ld [.r 4] none <|
 .q 6 .add [.r 5, .c (.int .i64 1)] none <|
 .out [(0, .s 0), (5, .s 5), (6, .s 6), (7, .s 7), (8, .s 8), (9, .s 9), (10, .s 10), (11, .s 11), (12, .s 12), (13, .r 6), (41, .s 41)]
def e306r14 : EE := .q 2 .leq [.s 13, .s 12] none <|
 .out [(0, .s 0), (5, .s 5), (6, .s 6), (7, .s 7), (8, .s 8), (9, .s 9), (10, .s 10), (11, .s 11), (12, .s 12), (13, .s 13), (41, .s 41), (57, .r 2)]
def e306r15 : EE := .q 2 (.bld [z, z] [(0, 1), (1, 1)]) [.s 11, .s 13] none <|
 .x 3 (.alc [z, z] 40) [] none [] <|
 .x 4 (.st 2) [.r 3, .r 2] none [] <|
 .out [(0, .s 0), (5, .s 5), (6, .s 6), (7, .s 7), (8, .s 8), (9, .s 9), (10, .s 10), (11, .s 11), (12, .s 12), (13, .s 13), (14, .r 3), (41, .s 41)]
def e306r16 : EE := .q 1 .nl [.s 0] none <|
 .q 2 (.fld 7) [.r 1] none <|
 .q 3 .ld [.r 2] none <|
 .q 4 (.lda 2) [.s 14] none <|
 .q 5 (.lkp true [(.i .i64), (.i .i64)] (.agg [z, z, z, z, z, z, z, z, zs, zs, zs, zs, z, z, z, z, z, z, z, z, (.bool false)]) true) [.r 3, .r 4] none <|
 .q 7 (.ext 0) [.r 5] none <|
 .q 8 (.ext 1) [.r 5] none <|
 .x 9 (.alc [z, z, z, z, z, z, z, z, zs, zs, zs, zs, z, z, z, z, z, z, z, z, (.bool false)] 48) [] none [⟨3, .ld, [.r 2], none⟩, ⟨4, (.lda 2), [.s 14], none⟩, ⟨5, (.lkp true [(.i .i64), (.i .i64)] (.agg [z, z, z, z, z, z, z, z, zs, zs, zs, zs, z, z, z, z, z, z, z, z, (.bool false)]) true), [.r 3, .r 4], none⟩] <|
 .x 10 (.st 21) [.r 9, .r 7] none [] <|
 .out [(0, .s 0), (5, .s 5), (6, .s 6), (7, .s 7), (8, .s 8), (9, .s 9), (10, .s 10), (11, .s 11), (12, .s 12), (13, .s 13), (14, .s 14), (16, .r 8), (41, .s 41)]
def e306r17 : EE := .q 1 .not [.s 16] none <|
 .out [(0, .s 0), (5, .s 5), (6, .s 6), (7, .s 7), (8, .s 8), (9, .s 9), (10, .s 10), (11, .s 11), (12, .s 12), (13, .s 13), (14, .s 14), (41, .s 41), (73, .r 1)]
def e306r18 : EE := .q 0 (.lda 2) [.s 14] none <|
 .x 2 (.st 2) [.s 5, .r 0] none [] <|
 .out [(4, .c .nsl), (5, .s 5)]
def e306r19 : EE := .q 1 (.lda 2) [.s 14] none <|
 .x 2 (.call 305) [.s 6, .r 1] none [] <|
 .out [(0, .s 0), (5, .s 5), (6, .s 6), (7, .s 7), (8, .s 8), (9, .s 9), (10, .s 10), (11, .s 11), (12, .s 12), (13, .s 13), (14, .s 14), (41, .s 41), (77, .r 2)]
def e306r20 : EE := .q 1 (.lda 2) [.s 14] none <|
 .x 2 (.bsl 40 1 [z, z] [(0, 2)]) [.r 1] none [] <|
 .x 3 (.app 40 2 16 [z, z]) [.s 7, .r 2] none [] <|
 .out [(0, .s 0), (5, .s 5), (6, .s 6), (7, .r 3), (8, .s 8), (9, .s 9), (10, .s 10), (11, .s 11), (12, .s 12), (13, .s 13), (41, .s 41)]
def e306r21 : EE := .q 1 .add [.s 13, .c (.int .i64 1)] none <|
 .out [(0, .s 0), (5, .s 5), (6, .s 6), (7, .s 7), (8, .s 8), (9, .s 9), (10, .s 10), (11, .s 11), (12, .s 12), (13, .r 1), (41, .s 41)]
def e306l22 : EC := (.seq (.seq (.reg e306r14 [0, 5, 6, 7, 8, 9, 10, 11, 12, 13, 41] 0) (.cond (.s 57) .skip (.exit 4))) (.seq (.block 5 (.seq (.reg e306r15 [0, 5, 6, 7, 8, 9, 10, 11, 12, 13, 41] 0) (.seq (.seq (.reg e306r16 [0, 5, 6, 7, 8, 9, 10, 11, 12, 13, 14, 41] 0) (.seq (.reg e306r17 [0, 5, 6, 7, 8, 9, 10, 11, 12, 13, 14, 16, 41] 0) (.cond (.s 73) (.seq (.reg e306r18 [5, 14] 0) .ret) .skip))) (.seq (.reg e306r19 [0, 5, 6, 7, 8, 9, 10, 11, 12, 13, 14, 41] 0) (.cond (.s 77) (.reg e306r20 [0, 5, 6, 7, 8, 9, 10, 11, 12, 13, 14, 41] 0) .skip))))) (.reg e306r21 [0, 5, 6, 7, 8, 9, 10, 11, 12, 13, 41] 0)))
def e306r23 : EE := .q 0 .add [.s 41, .c (.int .i64 1)] none <|
 .out [(0, .s 0), (5, .s 5), (6, .s 6), (7, .s 7), (8, .s 8), (9, .s 9), (10, .s 10), (41, .r 0)]
def e306l24 : EC := (.seq (.reg e306r10 [0, 5, 6, 7, 8, 9, 10, 41] 0) (.seq (.cond (.s 42) .skip (.exit 2)) (.seq (.block 3 (.seq (.reg e306r11 [0, 5, 6, 7, 8, 9, 10, 41] 0) (.seq (.reg e306r12 [0, 5, 6, 7, 8, 9, 10, 11, 41] 0) (.seq (.reg e306r13 [0, 5, 6, 7, 8, 9, 10, 11, 12, 41] 0) (.block 4 (.loop [0, 5, 6, 7, 8, 9, 10, 11, 12, 13, 41] e306l22)))))) (.reg e306r23 [0, 5, 6, 7, 8, 9, 10, 41] 0))))
def e306r25 : EE := .q 1 .add [.s 8, .c (.int .i64 1)] none <|
 .out [(0, .s 0), (5, .s 5), (6, .s 6), (7, .s 7), (8, .r 1)]
def e306l26 : EC := (.seq (.seq (.reg e306r4 [0, 5, 6, 7, 8] 0) (.cond (.s 25) .skip (.exit 0))) (.seq (.block 1 (.seq (.seq (.reg e306r5 [0, 5, 6, 7, 8] 0) (.cond (.s 29) (.seq (.reg e306r6 [5] 0) .ret) .skip)) (.seq (.reg e306r7 [0, 5, 6, 7, 8] 0) (.seq (.reg e306r8 [0, 5, 6, 7, 8, 9] 0) (.seq (.reg e306r9 [0, 5, 6, 7, 8, 9, 10] 0) (.block 2 (.loop [0, 5, 6, 7, 8, 9, 10, 41] e306l24))))))) (.reg e306r25 [0, 5, 6, 7, 8] 0)))
def e306r27 : EE := .q 1 (.bld [z, z] []) [] none <|
 .x 3 (.st 2) [.s 5, .r 1] none [] <|
 .out [(4, .s 7), (5, .s 5)]
def e306 : EFn := ⟨(.seq (.reg e306r0 [0, 1] 0) (.seq (.reg e306r1 [0, 3, 5] 0) (.seq (.reg e306r2 [0, 3, 5, 6] 0) (.seq (.seq (.reg e306r3 [0, 5, 6, 7] 0) (.block 0 (.loop [0, 5, 6, 7, 8] e306l26))) (.seq (.reg e306r27 [5, 7] 0) .ret))))), [.slot 4, .cells 5 2], 85, 0⟩
theorem g306 : Good Tryz.prog 306 e306 := ⟨Tryz.f306, Tryz.func306, by kernel_rfl, by kernel_rfl, by kernel_rfl, by kernel_rfl⟩
end Go.Ev
