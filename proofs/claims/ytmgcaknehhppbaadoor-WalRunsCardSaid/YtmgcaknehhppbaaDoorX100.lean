import Derived.Test.YtmgcaknehhppbaaDoorEvB
import Derived.Test.YtmgcaknehhppbaaDoorProg
set_option linter.unusedVariables false
namespace Go.Ev
open Go.Fw Go.Proofs
/-! concord/concordlaw10.WalRuns -/
def e3r0 : EE := .out []
def e3r1 : EE := .x 0 (.call 4) [.c (.int .i64 9999)] none [] <|
 .q 2 (.ext 0) [.r 0] none <|
 .q 3 (.ext 1) [.r 0] none <|
 .out [(1, .r 2)]
def e3r2 : EE := .x 1 (.call 5) [.s 1] none [] <|
 .q 3 (.ext 0) [.r 1] none <|
 .q 4 (.ext 1) [.r 1] none <|
 .q 5 (.ext 2) [.r 1] none <|
 .out [(1, .s 1), (3, .r 3), (4, .r 4), (5, .r 5)]
def e3r3 : EE := .q 1 (.eqp false) [.s 1, .c .nptr] none <|
 .q 3 .mv [.s 3] (some (.r 1, false)) <|
 .q 4 (.eqp false) [.r 3, .c .nptr] (some (.r 1, false)) <|
 .q 5 .pick [.r 1, .c (.bool true), .r 4] none <|
 .q 7 .mv [.s 5] (some (.r 5, false)) <|
 .q 8 .neq [.r 7, .c z] (some (.r 5, false)) <|
 .q 9 .pick [.r 5, .c (.bool true), .r 8] none <|
 .q 11 .mv [.s 4] (some (.r 9, false)) <|
 .q 12 .len [.r 11] (some (.r 9, false)) <|
 .q 13 .neq [.r 12, .c z] (some (.r 9, false)) <|
 .q 14 .pick [.r 9, .c (.bool true), .r 13] none <|
 .out [(1, .s 1), (3, .s 3), (47, .r 14)]
def e3r4 : EE := .out [(0, .c (.bool false))]
def e3r5 : EE := .x 1 (.bsl 5 1 [(.int .u8 0)] [(0, 1)]) [.c (.int .u8 120)] none [] <|
 .x 2 .mrk [.r 1] none [] <|
 .x 3 (.bsl 31 1 [.nsl] [(0, 1)]) [.r 2] none [] <|
 .x 4 (.call 6) [.s 3, .r 3] none [] <|
 .out [(1, .s 1), (3, .s 3), (6, .r 4)]
def e3r6 : EE := .x 1 (.bsl 5 1 [(.int .u8 0)] [(0, 1)]) [.c (.int .u8 97)] none [] <|
 .x 2 .mrk [.r 1] none [] <|
 .x 3 (.bsl 5 1 [(.int .u8 0)] [(0, 1)]) [.c (.int .u8 98)] none [] <|
 .x 4 .mrk [.r 3] none [] <|
 .x 5 (.bsl 31 2 [.nsl, .nsl] [(0, 1), (1, 1)]) [.r 2, .r 4] none [] <|
 .x 6 (.call 7) [.s 3, .r 5] none [] <|
 .out [(1, .s 1), (3, .s 3), (6, .s 6), (7, .r 6)]
def e3r7 : EE := .x 1 (.bsl 5 1 [(.int .u8 0)] [(0, 1)]) [.c (.int .u8 99)] none [] <|
 .x 2 .mrk [.r 1] none [] <|
 .x 3 (.bsl 31 1 [.nsl] [(0, 1)]) [.r 2] none [] <|
 .x 4 (.call 6) [.s 3, .r 3] none [] <|
 .out [(1, .s 1), (6, .s 6), (7, .s 7), (8, .r 4)]
def e3r8 : EE := .x 1 (.call 5) [.s 1] none [] <|
 .q 3 (.ext 0) [.r 1] none <|
 .q 4 (.ext 1) [.r 1] none <|
 .q 5 (.ext 2) [.r 1] none <|
 .out [(1, .s 1), (6, .s 6), (7, .s 7), (8, .s 8), (9, .r 3), (10, .r 4), (11, .r 5)]
def e3r9 : EE := .q 1 (.eqp false) [.s 9, .c .nptr] none <|
 .q 3 .mv [.s 11] (some (.r 1, false)) <|
 .q 4 .neq [.r 3, .c z] (some (.r 1, false)) <|
 .q 5 .pick [.r 1, .c (.bool true), .r 4] none <|
 .q 7 .mv [.s 10] (some (.r 5, false)) <|
 .x 8 (.bsl 9 3 [zs, zs, zs] [(0, 1), (1, 1), (2, 1)]) [.c (.str [97]), .c (.str [98]), .c (.str [99])] (some (.r 5, false)) [] <|
 .x 9 (.call 8) [.r 7, .r 8] (some (.r 5, false)) [] <|
 .q 10 .not [.r 9] (some (.r 5, false)) <|
 .q 11 .pick [.r 5, .c (.bool true), .r 10] none <|
 .out [(1, .s 1), (6, .s 6), (7, .s 7), (8, .s 8), (9, .s 9), (82, .r 11)]
def e3r10 : EE := .out [(0, .c (.bool false))]
def e3r11 : EE := .x 1 (.call 9) [.s 9] none [] <|
 .q 3 (.ext 0) [.r 1] none <|
 .q 4 (.ext 1) [.r 1] none <|
 .out [(1, .s 1), (6, .s 6), (7, .s 7), (8, .s 8), (9, .s 9), (12, .r 3), (13, .r 4)]
def e3r12 : EE := .x 1 (.call 7) [.s 9, .c .nsl] none [] <|
 .out [(1, .s 1), (6, .s 6), (7, .s 7), (8, .s 8), (9, .s 9), (12, .s 12), (13, .s 13), (14, .r 1)]
def e3r13 : EE := .x 1 (.call 9) [.s 9] none [] <|
 .q 3 (.ext 0) [.r 1] none <|
 .q 4 (.ext 1) [.r 1] none <|
 .out [(1, .s 1), (6, .s 6), (7, .s 7), (8, .s 8), (12, .s 12), (13, .s 13), (14, .s 14), (15, .r 3), (16, .r 4)]
def e3r14 : EE := .x 1 (.call 5) [.s 1] none [] <|
 .q 3 (.ext 0) [.r 1] none <|
 .q 4 (.ext 1) [.r 1] none <|
 .q 5 (.ext 2) [.r 1] none <|
 .out [(6, .s 6), (7, .s 7), (8, .s 8), (12, .s 12), (13, .s 13), (14, .s 14), (15, .s 15), (16, .s 16), (18, .r 4)]
def e3r15 : EE := .x 0 (.call 5) [.c .nptr] none [] <|
 .q 2 (.ext 0) [.r 0] none <|
 .q 3 (.ext 1) [.r 0] none <|
 .q 4 (.ext 2) [.r 0] none <|
 .out [(6, .s 6), (7, .s 7), (8, .s 8), (12, .s 12), (13, .s 13), (14, .s 14), (15, .s 15), (16, .s 16), (18, .s 18), (22, .r 4)]
def e3r16 : EE := .q 1 .eql [.s 6, .c (.int .i64 8)] none <|
 .q 3 .mv [.s 7] (some (.r 1, true)) <|
 .q 4 .eql [.r 3, .c z] (some (.r 1, true)) <|
 .q 5 .pick [.r 1, .r 4, .c (.bool false)] none <|
 .q 7 .mv [.s 8] (some (.r 5, true)) <|
 .q 8 .eql [.r 7, .c z] (some (.r 5, true)) <|
 .q 9 .pick [.r 5, .r 8, .c (.bool false)] none <|
 .q 11 .mv [.s 12] (some (.r 9, true)) <|
 .q 12 .eql [.r 11, .c (.int .i64 1)] (some (.r 9, true)) <|
 .q 13 .pick [.r 9, .r 12, .c (.bool false)] none <|
 .q 15 .mv [.s 13] (some (.r 13, true)) <|
 .q 16 .eql [.r 15, .c (.int .i64 1)] (some (.r 13, true)) <|
 .q 17 .pick [.r 13, .r 16, .c (.bool false)] none <|
 .q 19 .mv [.s 14] (some (.r 17, true)) <|
 .q 20 .eql [.r 19, .c z] (some (.r 17, true)) <|
 .q 21 .pick [.r 17, .r 20, .c (.bool false)] none <|
 .q 23 .mv [.s 15] (some (.r 21, true)) <|
 .q 24 .eql [.r 23, .c (.int .i64 2)] (some (.r 21, true)) <|
 .q 25 .pick [.r 21, .r 24, .c (.bool false)] none <|
 .q 27 .mv [.s 16] (some (.r 25, true)) <|
 .q 28 .eql [.r 27, .c (.int .i64 1)] (some (.r 25, true)) <|
 .q 29 .pick [.r 25, .r 28, .c (.bool false)] none <|
 .q 31 .mv [.s 18] (some (.r 29, true)) <|
 .q 32 .len [.r 31] (some (.r 29, true)) <|
 .q 33 .eql [.r 32, .c z] (some (.r 29, true)) <|
 .q 34 .pick [.r 29, .r 33, .c (.bool false)] none <|
 .q 36 .mv [.s 22] (some (.r 34, true)) <|
 .q 37 .eql [.r 36, .c (.int .i64 1)] (some (.r 34, true)) <|
 .q 38 .pick [.r 34, .r 37, .c (.bool false)] none <|
 .out [(0, .r 38)]
def e3 : EFn := ⟨(.seq (.reg e3r0 [] 0) (.seq (.reg e3r1 [] 0) (.seq (.reg e3r2 [1] 0) (.seq (.seq (.reg e3r3 [1, 3, 4, 5] 0) (.cond (.s 47) (.seq (.reg e3r4 [] 0) .ret) .skip)) (.seq (.reg e3r5 [1, 3] 0) (.seq (.reg e3r6 [1, 3, 6] 0) (.seq (.reg e3r7 [1, 3, 6, 7] 0) (.seq (.reg e3r8 [1, 6, 7, 8] 0) (.seq (.seq (.reg e3r9 [1, 6, 7, 8, 9, 10, 11] 0) (.cond (.s 82) (.seq (.reg e3r10 [] 0) .ret) .skip)) (.seq (.reg e3r11 [1, 6, 7, 8, 9] 0) (.seq (.reg e3r12 [1, 6, 7, 8, 9, 12, 13] 0) (.seq (.reg e3r13 [1, 6, 7, 8, 9, 12, 13, 14] 0) (.seq (.reg e3r14 [1, 6, 7, 8, 12, 13, 14, 15, 16] 0) (.seq (.reg e3r15 [6, 7, 8, 12, 13, 14, 15, 16, 18] 0) (.seq (.reg e3r16 [6, 7, 8, 12, 13, 14, 15, 16, 18, 22] 0) .ret))))))))))))))), [.slot 0], 145, 0⟩
theorem g3 : Good Tryd.prog 3 e3 := ⟨Tryd.f3, Tryd.func3, by kernel_rfl, by kernel_rfl, by kernel_rfl, by kernel_rfl⟩
/-! concord/disk.New -/
def e4r0 : EE := .out [(0, .s 0)]
def e4r1 : EE := .q 1 .lss [.s 0, .c z] none <|
 .q 3 .mv [.s 0] (some (.r 1, false)) <|
 .q 4 .gtr [.r 3, .c (.int .i64 1048576)] (some (.r 1, false)) <|
 .q 5 .pick [.r 1, .c (.bool true), .r 4] none <|
 .out [(0, .s 0), (9, .r 5)]
def e4r2 : EE := .out [(2, .c .nptr), (3, .c (.int .i64 1))]
def e4r3 : EE := .q 1 (.bld [z, .nsl, (.bool false), (.bool false), z] [(0, 1)]) [.s 0] none <|
 .x 2 (.box 38) [.r 1] none [] <|
 .out [(2, .r 2), (3, .c z)]
def e4 : EFn := ⟨(.seq (.reg e4r0 [0] 0) (.seq (.seq (.reg e4r1 [0] 0) (.cond (.s 9) (.seq (.reg e4r2 [] 0) .ret) .skip)) (.seq (.reg e4r3 [0] 0) .ret))), [.slot 2, .slot 3], 13, 0⟩
theorem g4 : Good Tryd.prog 4 e4 := ⟨Tryd.f4, Tryd.func4, by kernel_rfl, by kernel_rfl, by kernel_rfl, by kernel_rfl⟩
/-! concord/wal.Open -/
def e5r0 : EE := .out [(0, .s 0)]
def e5r1 : EE := .q 1 (.eqp false) [.s 0, .c .nptr] none <|
 .out [(0, .s 0), (17, .r 1)]
def e5r2 : EE := .out [(2, .c .nptr), (3, .c .nsl), (4, .c (.int .i64 1))]
def e5r3 : EE := .x 1 (.call 10) [.s 0] none [] <|
 .out [(0, .s 0), (5, .r 1)]
def e5r4 : EE := .q 1 .eql [.s 5, .c z] none <|
 .out [(0, .s 0), (5, .s 5), (21, .r 1)]
def e5r5 : EE := .q 1 (.bld [z, z] []) [] none <|
 .x 2 (.call 11) [.s 0, .r 1] none [] <|
 .out [(0, .s 0), (6, .r 2)]
def e5r6 : EE := .q 1 .neq [.s 6, .c z] none <|
 .out [(0, .s 0), (6, .s 6), (26, .r 1)]
def e5r7 : EE := .out [(2, .c .nptr), (3, .c .nsl), (4, .s 6)]
def e5r8 : EE := .q 1 (.bld [.nptr, z, z, (.bool false)] [(0, 1)]) [.s 0] none <|
 .x 2 (.box 44) [.r 1] none [] <|
 .out [(2, .r 2), (3, .c .nsl), (4, .c z)]
def e5r9 : EE := .x 2 (.call 12) [.s 0, .s 5] none [] <|
 .q 4 (.ext 0) [.r 2] none <|
 .q 5 (.ext 1) [.r 2] none <|
 .q 6 (.ext 2) [.r 2] none <|
 .q 7 (.ext 3) [.r 2] none <|
 .x 8 (.alc [z, z] 42) [] none [] <|
 .x 10 (.st 2) [.r 8, .r 5] none [] <|
 .out [(0, .s 0), (7, .r 4), (8, .r 8), (9, .r 6)]
def e5r10 : EE := .q 1 (.lda 2) [.s 8] none <|
 .x 2 (.call 14) [.r 1] none [] <|
 .x 3 (.call 13) [.s 0, .r 2] none [] <|
 .q 5 (.ext 0) [.r 3] none <|
 .q 6 (.ext 1) [.r 3] none <|
 .out [(0, .s 0), (7, .s 7), (8, .s 8), (9, .s 9), (11, .r 5)]
def e5r11 : EE := .q 1 .len [.s 11] none <|
 .q 3 .gtr [.r 1, .s 9] none <|
 .out [(0, .s 0), (7, .s 7), (8, .s 8), (9, .s 9), (49, .r 3)]
def e5r12 : EE := .q 1 (.lda 2) [.s 8] none <|
 .x 2 (.call 14) [.r 1] none [] <|
 .x 4 (.call 15) [.s 0, .r 2, .s 9] none [] <|
 .out [(0, .s 0), (7, .s 7), (8, .s 8), (13, .r 4)]
def e5r13 : EE := .q 1 .neq [.s 13, .c z] none <|
 .out [(0, .s 0), (7, .s 7), (8, .s 8), (13, .s 13), (56, .r 1)]
def e5r14 : EE := .out [(2, .c .nptr), (3, .c .nsl), (4, .s 13)]
def e5r15 : EE := .q 1 (.lda 2) [.s 8] none <|
 .x 2 (.call 11) [.s 0, .r 1] none [] <|
 .out [(0, .s 0), (7, .s 7), (8, .s 8), (14, .r 2)]
def e5r16 : EE := .q 1 .neq [.s 14, .c z] none <|
 .out [(0, .s 0), (7, .s 7), (8, .s 8), (14, .s 14), (62, .r 1)]
def e5r17 : EE := .out [(2, .c .nptr), (3, .c .nsl), (4, .s 14)]
def e5r18 : EE := .q 1 (.lda 2) [.s 8] none <|
 .x 2 (.call 14) [.r 1] none [] <|
 .x 3 (.call 16) [.s 0, .r 2] none [] <|
 .out [(0, .s 0), (7, .s 7), (8, .s 8), (15, .r 3)]
def e5r19 : EE := .q 1 .neq [.s 15, .c z] none <|
 .out [(0, .s 0), (7, .s 7), (8, .s 8), (15, .s 15), (69, .r 1)]
def e5r20 : EE := .out [(2, .c .nptr), (3, .c .nsl), (4, .s 15)]
def e5r21 : EE := .q 1 (.lda 2) [.s 8] none <|
 .q 2 (.bld [.nptr, z, z, (.bool false)] [(0, 1), (1, 2)]) [.s 0, .r 1] none <|
 .x 3 (.box 44) [.r 2] none [] <|
 .out [(2, .r 3), (3, .s 7), (4, .c z)]
def e5 : EFn := ⟨(.seq (.reg e5r0 [0] 0) (.seq (.seq (.reg e5r1 [0] 0) (.cond (.s 17) (.seq (.reg e5r2 [] 0) .ret) .skip)) (.seq (.reg e5r3 [0] 0) (.seq (.seq (.reg e5r4 [0, 5] 0) (.cond (.s 21) (.seq (.seq (.reg e5r5 [0] 0) (.seq (.reg e5r6 [0, 6] 0) (.cond (.s 26) (.seq (.reg e5r7 [6] 0) .ret) .skip))) (.seq (.reg e5r8 [0] 0) .ret)) .skip)) (.seq (.reg e5r9 [0, 5] 0) (.seq (.seq (.reg e5r10 [0, 7, 8, 9] 0) (.seq (.reg e5r11 [0, 7, 8, 9, 11] 0) (.cond (.s 49) (.seq (.reg e5r12 [0, 7, 8, 9] 0) (.seq (.reg e5r13 [0, 7, 8, 13] 0) (.cond (.s 56) (.seq (.reg e5r14 [13] 0) .ret) .skip))) .skip))) (.seq (.seq (.reg e5r15 [0, 7, 8] 0) (.seq (.reg e5r16 [0, 7, 8, 14] 0) (.cond (.s 62) (.seq (.reg e5r17 [14] 0) .ret) .skip))) (.seq (.seq (.reg e5r18 [0, 7, 8] 0) (.seq (.reg e5r19 [0, 7, 8, 15] 0) (.cond (.s 69) (.seq (.reg e5r20 [15] 0) .ret) .skip))) (.seq (.reg e5r21 [0, 7, 8] 0) .ret))))))))), [.slot 2, .slot 3, .slot 4], 76, 0⟩
theorem g5 : Good Tryd.prog 5 e5 := ⟨Tryd.f5, Tryd.func5, by kernel_rfl, by kernel_rfl, by kernel_rfl, by kernel_rfl⟩
/-! (*concord/wal.Wal).Add -/
def e6r0 : EE := .out [(0, .s 0), (1, .s 1)]
def e6r1 : EE := .q 1 .nl [.s 0] none <|
 .q 2 (.fld 3) [.r 1] none <|
 .q 3 .ld [.r 2] none <|
 .out [(0, .s 0), (1, .s 1), (14, .r 3)]
def e6r2 : EE := .out [(4, .c (.int .i64 10))]
def e6r3 : EE := .q 1 .nl [.s 0] none <|
 .q 2 (.fld 1) [.r 1] none <|
 .q 3 (.fld 0) [.r 2] none <|
 .q 4 .ld [.r 3] none <|
 .q 5 .eql [.r 4, .c z] none <|
 .out [(0, .s 0), (1, .s 1), (20, .r 5)]
def e6r4 : EE := .out [(4, .c (.int .i64 8))]
def e6r5 : EE := .x 1 (.call 17) [.c .nsl, .s 1] none [] <|
 .q 3 (.ext 0) [.r 1] none <|
 .q 4 (.ext 1) [.r 1] none <|
 .out [(0, .s 0), (1, .s 1), (5, .r 3), (6, .r 4)]
def e6r6 : EE := .q 1 .not [.s 6] none <|
 .out [(0, .s 0), (1, .s 1), (5, .s 5), (27, .r 1)]
def e6r7 : EE := .out [(4, .c (.int .i64 1))]
def e6r8 : EE := .q 1 .len [.s 1] none <|
 .q 2 .eql [.r 1, .c z] none <|
 .out [(0, .s 0), (5, .s 5), (30, .r 2)]
def e6r9 : EE := .out [(4, .c z)]
def e6r10 : EE := .q 1 .nl [.s 0] none <|
 .q 2 (.fld 1) [.r 1] none <|
 .q 3 (.lda 2) [.r 2] none <|
 .x 4 (.alc [z, z] 42) [] none [] <|
 .x 5 (.st 2) [.r 4, .r 3] none [] <|
 .out [(0, .s 0), (5, .s 5), (7, .r 4)]
def e6r11 : EE := .q 1 .nl [.s 0] none <|
 .q 2 (.fld 0) [.r 1] none <|
 .q 3 .ld [.r 2] none <|
 .q 4 (.lda 2) [.s 7] none <|
 .x 5 (.call 14) [.r 4] none [⟨3, .ld, [.r 2], none⟩] <|
 .x 6 (.call 13) [.r 3, .r 5] none [] <|
 .q 8 (.ext 0) [.r 6] none <|
 .q 9 (.ext 1) [.r 6] none <|
 .out [(0, .s 0), (5, .s 5), (7, .s 7), (8, .r 8)]
def e6r12 : EE := .q 1 .len [.s 8] none <|
 .q 2 .gtr [.r 1, .c (.int .i64 4096)] none <|
 .q 4 (.fld 1) [.s 7] (some (.r 2, true)) <|
 .q 5 .ld [.r 4] (some (.r 2, true)) <|
 .q 6 .lss [.r 5, .c (.int .i64 999999999)] (some (.r 2, true)) <|
 .q 7 .pick [.r 2, .r 6, .c (.bool false)] none <|
 .out [(0, .s 0), (5, .s 5), (7, .s 7), (52, .r 7)]
def e6r13 : EE := .q 0 (.fld 1) [.s 7] none <|
 .q 1 .ld [.r 0] none <|
 .q 2 .add [.r 1, .c (.int .i64 1)] none <|
 .q 3 (.fld 1) [.s 7] none <|
 .x 4 (.st 1) [.r 3, .r 2] none [] <|
 .out [(0, .s 0), (5, .s 5), (7, .s 7)]
def e6r14 : EE := .q 1 (.lda 2) [.s 7] none <|
 .x 3 (.call 18) [.s 0, .r 1, .s 5] none [] <|
 .out [(0, .s 0), (7, .s 7), (10, .r 3)]
def e6r15 : EE := .q 1 .neq [.s 10, .c z] none <|
 .out [(0, .s 0), (7, .s 7), (10, .s 10), (62, .r 1)]
def e6r16 : EE := .out [(4, .s 10)]
def e6r17 : EE := .q 1 (.lda 2) [.s 7] none <|
 .q 2 .nl [.s 0] none <|
 .q 3 (.fld 1) [.r 2] none <|
 .x 4 (.st 2) [.r 3, .r 1] none [] <|
 .out []
def e6r18 : EE := .out [(4, .c z)]
def e6 : EFn := ⟨(.seq (.reg e6r0 [0, 1] 0) (.seq (.seq (.reg e6r1 [0, 1] 0) (.cond (.s 14) (.seq (.reg e6r2 [] 0) .ret) .skip)) (.seq (.seq (.reg e6r3 [0, 1] 0) (.cond (.s 20) (.seq (.reg e6r4 [] 0) .ret) .skip)) (.seq (.reg e6r5 [0, 1] 0) (.seq (.seq (.reg e6r6 [0, 1, 5, 6] 0) (.cond (.s 27) (.seq (.reg e6r7 [] 0) .ret) .skip)) (.seq (.seq (.reg e6r8 [0, 1, 5] 0) (.cond (.s 30) (.seq (.reg e6r9 [] 0) .ret) .skip)) (.seq (.reg e6r10 [0, 5] 0) (.seq (.seq (.reg e6r11 [0, 5, 7] 0) (.seq (.reg e6r12 [0, 5, 7, 8] 0) (.cond (.s 52) (.reg e6r13 [0, 5, 7] 0) .skip))) (.seq (.seq (.reg e6r14 [0, 5, 7] 0) (.seq (.reg e6r15 [0, 7, 10] 0) (.cond (.s 62) (.seq (.reg e6r16 [10] 0) .ret) .skip))) (.seq (.reg e6r17 [0, 7] 0) (.seq (.reg e6r18 [] 0) .ret))))))))))), [.slot 4], 68, 0⟩
theorem g6 : Good Tryd.prog 6 e6 := ⟨Tryd.f6, Tryd.func6, by kernel_rfl, by kernel_rfl, by kernel_rfl, by kernel_rfl⟩
/-! (*concord/wal.Wal).Anew -/
def e7r0 : EE := .out [(0, .s 0), (1, .s 1)]
def e7r1 : EE := .q 1 .nl [.s 0] none <|
 .q 2 (.fld 3) [.r 1] none <|
 .q 3 .ld [.r 2] none <|
 .out [(0, .s 0), (1, .s 1), (14, .r 3)]
def e7r2 : EE := .out [(4, .c (.int .i64 10))]
def e7r3 : EE := .q 1 .len [.s 1] none <|
 .x 2 (.call 20) [.c .nsl, .r 1] none [] <|
 .x 3 (.call 19) [.c .nsl, .r 2] none [] <|
 .x 5 (.call 17) [.r 3, .s 1] none [] <|
 .q 7 (.ext 0) [.r 5] none <|
 .q 8 (.ext 1) [.r 5] none <|
 .out [(0, .s 0), (5, .r 7), (6, .r 8)]
def e7r4 : EE := .q 1 .not [.s 6] none <|
 .out [(0, .s 0), (5, .s 5), (25, .r 1)]
def e7r5 : EE := .out [(4, .c (.int .i64 1))]
def e7r6 : EE := .q 1 .nl [.s 0] none <|
 .q 2 (.fld 1) [.r 1] none <|
 .q 3 (.fld 0) [.r 2] none <|
 .q 4 .ld [.r 3] none <|
 .q 5 .geq [.r 4, .c (.int .i64 999999999)] none <|
 .out [(0, .s 0), (5, .s 5), (31, .r 5)]
def e7r7 : EE := .out [(4, .c (.int .i64 7))]
def e7r8 : EE := .q 1 .nl [.s 0] none <|
 .q 2 (.fld 1) [.r 1] none <|
 .q 3 (.fld 0) [.r 2] none <|
 .q 4 .ld [.r 3] none <|
 .q 5 .add [.r 4, .c (.int .i64 1)] none <|
 .q 6 (.bld [z, z] [(0, 1), (1, 1)]) [.r 5, .c (.int .i64 1)] none <|
 .x 7 (.alc [z, z] 42) [] none [] <|
 .x 8 (.st 2) [.r 7, .r 6] none [] <|
 .out [(0, .s 0), (5, .s 5), (7, .r 7)]
def e7r9 : EE := .q 1 (.lda 2) [.s 7] none <|
 .x 3 (.call 18) [.s 0, .r 1, .s 5] none [] <|
 .out [(0, .s 0), (7, .s 7), (8, .r 3)]
def e7r10 : EE := .q 1 .neq [.s 8, .c z] none <|
 .out [(0, .s 0), (7, .s 7), (8, .s 8), (44, .r 1)]
def e7r11 : EE := .out [(4, .s 8)]
def e7r12 : EE := .out [(0, .s 0), (7, .s 7), (9, .c (.int .i64 1))]
def e7r13 : EE := .q 2 .nl [.s 0] none <|
 .q 3 (.fld 1) [.r 2] none <|
 .q 4 (.fld 1) [.r 3] none <|
 .q 5 .ld [.r 4] none <|
 .q 6 .leq [.s 9, .r 5] none <|
 .out [(0, .s 0), (7, .s 7), (9, .s 9), (52, .r 6)]
def e7r14 : EE := .q 1 .nl [.s 0] none <|
 .q 2 (.fld 0) [.r 1] none <|
 .q 3 .ld [.r 2] none <|
 .q 5 .nl [.s 0] none <|
 .q 6 (.fld 1) [.r 5] none <|
 .q 7 (.fld 0) [.r 6] none <|
 .q 8 .ld [.r 7] none <|
 .q 10 (.bld [z, z] [(0, 1), (1, 1)]) [.r 8, .s 9] none <|
 .x 11 (.call 14) [.r 10] none [⟨3, .ld, [.r 2], none⟩] <|
 .x 12 (.call 21) [.r 3, .r 11] none [] <|
 .out [(0, .s 0), (7, .s 7), (9, .s 9), (10, .r 12)]
def e7r15 : EE := .q 1 .neq [.s 10, .c z] none <|
 .out [(0, .s 0), (7, .s 7), (9, .s 9), (10, .s 10), (69, .r 1)]
def e7r16 : EE := .q 1 .nl [.s 0] none <|
 .q 2 (.fld 3) [.r 1] none <|
 .x 3 (.st 1) [.r 2, .c (.bool true)] none [] <|
 .out [(10, .s 10)]
def e7r17 : EE := .out [(4, .s 10)]
def e7r18 : EE := .q 1 .add [.s 9, .c (.int .i64 1)] none <|
 .out [(0, .s 0), (7, .s 7), (9, .r 1)]
def e7l19 : EC := (.seq (.seq (.reg e7r13 [0, 7, 9] 0) (.cond (.s 52) .skip (.exit 0))) (.seq (.block 1 (.seq (.reg e7r14 [0, 7, 9] 0) (.seq (.reg e7r15 [0, 7, 9, 10] 0) (.cond (.s 69) (.seq (.reg e7r16 [0, 10] 0) (.seq (.reg e7r17 [10] 0) .ret)) .skip)))) (.reg e7r18 [0, 7, 9] 0)))
def e7r20 : EE := .q 1 (.lda 2) [.s 7] none <|
 .q 2 .nl [.s 0] none <|
 .q 3 (.fld 1) [.r 2] none <|
 .x 4 (.st 2) [.r 3, .r 1] none [] <|
 .out []
def e7r21 : EE := .out [(4, .c z)]
def e7 : EFn := ⟨(.seq (.reg e7r0 [0, 1] 0) (.seq (.seq (.reg e7r1 [0, 1] 0) (.cond (.s 14) (.seq (.reg e7r2 [] 0) .ret) .skip)) (.seq (.reg e7r3 [0, 1] 0) (.seq (.seq (.reg e7r4 [0, 5, 6] 0) (.cond (.s 25) (.seq (.reg e7r5 [] 0) .ret) .skip)) (.seq (.seq (.reg e7r6 [0, 5] 0) (.cond (.s 31) (.seq (.reg e7r7 [] 0) .ret) .skip)) (.seq (.reg e7r8 [0, 5] 0) (.seq (.seq (.reg e7r9 [0, 5, 7] 0) (.seq (.reg e7r10 [0, 7, 8] 0) (.cond (.s 44) (.seq (.reg e7r11 [8] 0) .ret) .skip))) (.seq (.seq (.reg e7r12 [0, 7] 0) (.block 0 (.loop [0, 7, 9] e7l19))) (.seq (.reg e7r20 [0, 7] 0) (.seq (.reg e7r21 [] 0) .ret)))))))))), [.slot 4], 78, 0⟩
theorem g7 : Good Tryd.prog 7 e7 := ⟨Tryd.f7, Tryd.func7, by kernel_rfl, by kernel_rfl, by kernel_rfl, by kernel_rfl⟩
/-! concord/concordlaw10.texts -/
def e8r0 : EE := .out [(0, .s 0), (1, .s 1)]
def e8r1 : EE := .q 1 .len [.s 0] none <|
 .q 3 .len [.s 1] none <|
 .q 4 .neq [.r 1, .r 3] none <|
 .out [(0, .s 0), (1, .s 1), (10, .r 4)]
def e8r2 : EE := .out [(4, .c (.bool false))]
def e8r3 : EE := .out [(0, .s 0), (1, .s 1), (5, .c z)]
def e8r4 : EE := .q 2 .len [.s 0] none <|
 .q 3 .lss [.s 5, .r 2] none <|
 .out [(0, .s 0), (1, .s 1), (5, .s 5), (14, .r 3)]
def e8r5 : EE := .q 2 (.ixs 1) [.s 0, .s 5] none <|
 .q 3 .ld [.r 2] none <|
 .q 4 .b2s [.r 3] none <|
 .q 7 (.ixs 1) [.s 1, .s 5] none <|
 .q 8 .ld [.r 7] none <|
 .q 9 .sneq [.r 4, .r 8] none <|
 .out [(0, .s 0), (1, .s 1), (5, .s 5), (26, .r 9)]
def e8r6 : EE := .out [(4, .c (.bool false))]
def e8r7 : EE := .q 1 .add [.s 5, .c (.int .i64 1)] none <|
 .out [(0, .s 0), (1, .s 1), (5, .r 1)]
def e8l8 : EC := (.seq (.seq (.reg e8r4 [0, 1, 5] 0) (.cond (.s 14) .skip (.exit 0))) (.seq (.block 1 (.seq (.reg e8r5 [0, 1, 5] 0) (.cond (.s 26) (.seq (.reg e8r6 [] 0) .ret) .skip))) (.reg e8r7 [0, 1, 5] 0)))
def e8r9 : EE := .out [(4, .c (.bool true))]
def e8 : EFn := ⟨(.seq (.reg e8r0 [0, 1] 0) (.seq (.seq (.reg e8r1 [0, 1] 0) (.cond (.s 10) (.seq (.reg e8r2 [] 0) .ret) .skip)) (.seq (.seq (.reg e8r3 [0, 1] 0) (.block 0 (.loop [0, 1, 5] e8l8))) (.seq (.reg e8r9 [] 0) .ret)))), [.slot 4], 27, 0⟩
theorem g8 : Good Tryd.prog 8 e8 := ⟨Tryd.f8, Tryd.func8, by kernel_rfl, by kernel_rfl, by kernel_rfl, by kernel_rfl⟩
/-! (*concord/wal.Wal).Where -/
def e9r0 : EE := .out [(0, .s 0)]
def e9r1 : EE := .q 1 .nl [.s 0] none <|
 .q 2 (.fld 1) [.r 1] none <|
 .q 3 (.fld 0) [.r 2] none <|
 .q 4 .ld [.r 3] none <|
 .q 6 .nl [.s 0] none <|
 .q 7 (.fld 1) [.r 6] none <|
 .q 8 (.fld 1) [.r 7] none <|
 .q 9 .ld [.r 8] none <|
 .out [(2, .r 4), (3, .r 9)]
def e9 : EFn := ⟨(.seq (.reg e9r0 [0] 0) (.seq (.reg e9r1 [0] 0) .ret)), [.slot 2, .slot 3], 14, 0⟩
theorem g9 : Good Tryd.prog 9 e9 := ⟨Tryd.f9, Tryd.func9, by kernel_rfl, by kernel_rfl, by kernel_rfl, by kernel_rfl⟩
/-! concord/wal.greatest -/
def e10r0 : EE := .out [(0, .s 0)]
def e10r1 : EE := .out [(0, .s 0), (3, .c z)]
def e10r2 : EE := .x 1 (.call 22) [.s 0] none [] <|
 .q 2 .len [.r 1] none <|
 .out [(0, .s 0), (3, .s 3), (13, .r 1), (14, .r 2), (15, .c z)]
def e10r3 : EE := .q 0 .lss [.s 15, .s 14] none <|
 .out [(0, .s 0), (3, .s 3), (13, .s 13), (14, .s 14), (15, .s 15), (16, .r 0)]
def e10r4 : EE := .q 0 (.ixs 1) [.s 13, .s 15] none <|
 .q 1 .ld [.r 0] none <|
 .out [(0, .s 0), (3, .s 3), (5, .r 1), (13, .s 13), (14, .s 14), (15, .s 15)]
def e10r5 : EE := .x 1 (.call 23) [.s 5] none [] <|
 .q 3 (.ext 0) [.r 1] none <|
 .q 4 (.ext 1) [.r 1] none <|
 .x 5 (.alc [z, z] 42) [] none [] <|
 .x 6 (.st 2) [.r 5, .r 3] none [] <|
 .out [(0, .s 0), (3, .s 3), (6, .r 5), (7, .r 4), (13, .s 13), (14, .s 14), (15, .s 15)]
def e10r6 : EE := .q 1 .not [.s 7] none <|
 .q 3 (.fld 0) [.s 6] (some (.r 1, false)) <|
 .q 4 .ld [.r 3] (some (.r 1, false)) <|
 .q 5 .mv [.s 3] (some (.r 1, false)) <|
 .q 6 .leq [.r 4, .r 5] (some (.r 1, false)) <|
 .q 7 .pick [.r 1, .c (.bool true), .r 6] none <|
 .out [(0, .s 0), (3, .s 3), (6, .s 6), (13, .s 13), (14, .s 14), (15, .s 15), (31, .r 7)]
def e10r7 : EE := .q 1 (.fld 0) [.s 6] none <|
 .q 2 .ld [.r 1] none <|
 .x 3 (.call 12) [.s 0, .r 2] none [] <|
 .q 5 (.ext 0) [.r 3] none <|
 .q 6 (.ext 1) [.r 3] none <|
 .q 7 (.ext 2) [.r 3] none <|
 .q 8 (.ext 3) [.r 3] none <|
 .x 9 (.alc [z, z] 42) [] none [] <|
 .x 11 (.st 2) [.r 9, .r 6] none [] <|
 .out [(0, .s 0), (3, .s 3), (6, .s 6), (11, .r 8), (13, .s 13), (14, .s 14), (15, .s 15)]
def e10r8 : EE := .out [(0, .s 0), (3, .s 3), (6, .s 6), (13, .s 13), (14, .s 14), (15, .s 15), (41, .s 11)]
def e10r9 : EE := .q 0 (.fld 0) [.s 6] none <|
 .q 1 .ld [.r 0] none <|
 .out [(0, .s 0), (3, .r 1), (13, .s 13), (14, .s 14), (15, .s 15)]
def e10r10 : EE := .q 0 .add [.s 15, .c (.int .i64 1)] none <|
 .out [(0, .s 0), (3, .s 3), (13, .s 13), (14, .s 14), (15, .r 0)]
def e10l11 : EC := (.seq (.reg e10r3 [0, 3, 13, 14, 15] 0) (.seq (.cond (.s 16) .skip (.exit 0)) (.seq (.block 1 (.seq (.reg e10r4 [0, 3, 13, 14, 15] 0) (.seq (.reg e10r5 [0, 3, 5, 13, 14, 15] 0) (.seq (.seq (.reg e10r6 [0, 3, 6, 7, 13, 14, 15] 0) (.cond (.s 31) (.exit 1) .skip)) (.seq (.reg e10r7 [0, 3, 6, 13, 14, 15] 0) (.seq (.reg e10r8 [0, 3, 6, 11, 13, 14, 15] 0) (.cond (.s 41) (.reg e10r9 [0, 6, 13, 14, 15] 0) .skip))))))) (.reg e10r10 [0, 3, 13, 14, 15] 0))))
def e10r12 : EE := .out [(2, .s 3)]
def e10 : EFn := ⟨(.seq (.reg e10r0 [0] 0) (.seq (.reg e10r1 [0] 0) (.seq (.seq (.reg e10r2 [0, 3] 0) (.block 0 (.loop [0, 3, 13, 14, 15] e10l11))) (.seq (.reg e10r12 [3] 0) .ret)))), [.slot 2], 46, 0⟩
theorem g10 : Good Tryd.prog 10 e10 := ⟨Tryd.f10, Tryd.func10, by kernel_rfl, by kernel_rfl, by kernel_rfl, by kernel_rfl⟩
/-! concord/wal.clean -/
def e11r0 : EE := .x 0 (.box 42) [.s 1] none [] <|
 .out [(0, .s 0), (3, .r 0)]
def e11r1 : EE := .x 1 (.call 22) [.s 0] none [] <|
 .q 2 .len [.r 1] none <|
 .out [(0, .s 0), (3, .s 3), (11, .r 1), (12, .r 2), (13, .c z)]
def e11r2 : EE := .q 0 .lss [.s 13, .s 12] none <|
 .out [(0, .s 0), (3, .s 3), (11, .s 11), (12, .s 12), (13, .s 13), (14, .r 0)]
def e11r3 : EE := .q 0 (.ixs 1) [.s 11, .s 13] none <|
 .q 1 .ld [.r 0] none <|
 .out [(0, .s 0), (3, .s 3), (6, .r 1), (11, .s 11), (12, .s 12), (13, .s 13)]
def e11r4 : EE := .x 1 (.call 23) [.s 6] none [] <|
 .q 3 (.ext 0) [.r 1] none <|
 .q 4 (.ext 1) [.r 1] none <|
 .x 5 (.alc [z, z] 42) [] none [] <|
 .x 6 (.st 2) [.r 5, .r 3] none [] <|
 .out [(0, .s 0), (3, .s 3), (6, .s 6), (7, .r 5), (8, .r 4), (11, .s 11), (12, .s 12), (13, .s 13)]
def e11r5 : EE := .q 1 .not [.s 8] none <|
 .q 3 (.fld 0) [.s 7] (some (.r 1, false)) <|
 .q 4 .ld [.r 3] (some (.r 1, false)) <|
 .q 5 (.fld 0) [.s 3] (some (.r 1, false)) <|
 .q 6 .ld [.r 5] (some (.r 1, false)) <|
 .q 7 .eql [.r 4, .r 6] (some (.r 1, false)) <|
 .q 8 .mv [.r 7] (some (.r 1, false)) <|
 .q 9 (.fld 1) [.s 7] (some (.r 8, true)) <|
 .q 10 .ld [.r 9] (some (.r 8, true)) <|
 .q 11 (.fld 1) [.s 3] (some (.r 8, true)) <|
 .q 12 .ld [.r 11] (some (.r 8, true)) <|
 .q 13 .leq [.r 10, .r 12] (some (.r 8, true)) <|
 .q 14 .pick [.r 8, .r 13, .c (.bool false)] (some (.r 1, false)) <|
 .q 15 .pick [.r 1, .c (.bool true), .r 14] none <|
 .out [(0, .s 0), (3, .s 3), (6, .s 6), (11, .s 11), (12, .s 12), (13, .s 13), (37, .r 15)]
def e11r6 : EE := .x 2 (.call 21) [.s 0, .s 6] none [] <|
 .out [(0, .s 0), (3, .s 3), (9, .r 2), (11, .s 11), (12, .s 12), (13, .s 13)]
def e11r7 : EE := .q 1 .neq [.s 9, .c z] none <|
 .out [(0, .s 0), (3, .s 3), (9, .s 9), (11, .s 11), (12, .s 12), (13, .s 13), (42, .r 1)]
def e11r8 : EE := .out [(4, .s 9)]
def e11r9 : EE := .q 0 .add [.s 13, .c (.int .i64 1)] none <|
 .out [(0, .s 0), (3, .s 3), (11, .s 11), (12, .s 12), (13, .r 0)]
def e11l10 : EC := (.seq (.reg e11r2 [0, 3, 11, 12, 13] 0) (.seq (.cond (.s 14) .skip (.exit 0)) (.seq (.block 1 (.seq (.reg e11r3 [0, 3, 11, 12, 13] 0) (.seq (.reg e11r4 [0, 3, 6, 11, 12, 13] 0) (.seq (.seq (.reg e11r5 [0, 3, 6, 7, 8, 11, 12, 13] 0) (.cond (.s 37) (.exit 1) .skip)) (.seq (.reg e11r6 [0, 3, 6, 11, 12, 13] 0) (.seq (.reg e11r7 [0, 3, 9, 11, 12, 13] 0) (.cond (.s 42) (.seq (.reg e11r8 [9] 0) .ret) .skip))))))) (.reg e11r9 [0, 3, 11, 12, 13] 0))))
def e11r11 : EE := .out [(4, .c z)]
def e11 : EFn := ⟨(.seq (.reg e11r0 [0, 1] 0) (.seq (.seq (.reg e11r1 [0, 3] 0) (.block 0 (.loop [0, 3, 11, 12, 13] e11l10))) (.seq (.reg e11r11 [] 0) .ret))), [.slot 4], 45, 0⟩
theorem g11 : Good Tryd.prog 11 e11 := ⟨Tryd.f11, Tryd.func11, by kernel_rfl, by kernel_rfl, by kernel_rfl, by kernel_rfl⟩
/-! concord/wal.read -/
def e12r0 : EE := .x 1 (.alc [z, z] 42) [] none [] <|
 .out [(0, .s 0), (1, .s 1), (5, .r 1), (6, .c z)]
def e12r1 : EE := .out [(0, .s 0), (1, .s 1), (5, .s 5), (6, .s 6), (8, .c .nsl)]
def e12r2 : EE := .out [(0, .s 0), (1, .s 1), (5, .s 5), (6, .s 6), (8, .s 8), (9, .c (.int .i64 1))]
def e12r3 : EE := .q 3 (.bld [z, z] [(0, 1), (1, 1)]) [.s 1, .s 9] none <|
 .x 4 (.call 14) [.r 3] none [] <|
 .x 5 (.call 13) [.s 0, .r 4] none [] <|
 .q 7 (.ext 0) [.r 5] none <|
 .q 8 (.ext 1) [.r 5] none <|
 .out [(0, .s 0), (1, .s 1), (5, .s 5), (6, .s 6), (8, .s 8), (9, .s 9), (10, .r 7), (11, .r 8)]
def e12r4 : EE := .q 1 .not [.s 11] none <|
 .out [(0, .s 0), (1, .s 1), (5, .s 5), (6, .s 6), (8, .s 8), (9, .s 9), (10, .s 10), (28, .r 1)]
def e12r5 : EE := .x 1 (.call 24) [.s 10] none [] <|
 .q 3 (.ext 0) [.r 1] none <|
 .q 4 (.ext 1) [.r 1] none <|
 .out [(0, .s 0), (1, .s 1), (5, .s 5), (6, .s 6), (8, .s 8), (9, .s 9), (10, .s 10), (12, .r 3), (13, .r 4)]
def e12r6 : EE := .q 1 .eql [.s 9, .c (.int .i64 1)] none <|
 .q 3 .mv [.s 12] (some (.r 1, true)) <|
 .q 4 .len [.r 3] (some (.r 1, true)) <|
 .q 5 .eql [.r 4, .c z] (some (.r 1, true)) <|
 .q 6 .pick [.r 1, .r 5, .c (.bool false)] none <|
 .out [(0, .s 0), (1, .s 1), (5, .s 5), (6, .s 6), (8, .s 8), (9, .s 9), (10, .s 10), (12, .s 12), (13, .s 13), (40, .r 6)]
def e12r7 : EE := .q 0 (.lda 2) [.s 5] none <|
 .x 3 (.st 2) [.s 5, .r 0] none [] <|
 .out [(4, .c .nsl), (5, .s 5), (6, .s 6), (7, .c (.bool false))]
def e12r8 : EE := .x 2 (.app 31 1 24 [.nsl]) [.s 8, .s 12] none [] <|
 .q 5 (.bld [z, z] [(0, 1), (1, 1)]) [.s 1, .s 9] none <|
 .x 8 (.st 2) [.s 5, .r 5] none [] <|
 .out [(0, .s 0), (1, .s 1), (5, .s 5), (6, .s 13), (8, .r 2), (9, .s 9), (10, .s 10), (13, .s 13)]
def e12r9 : EE := .q 2 .len [.s 10] none <|
 .q 3 .lss [.s 13, .r 2] none <|
 .out [(0, .s 0), (1, .s 1), (5, .s 5), (6, .s 6), (8, .s 8), (9, .s 9), (53, .r 3)]
def e12r10 : EE := .q 1 .add [.s 9, .c (.int .i64 1)] none <|
 .out [(0, .s 0), (1, .s 1), (5, .s 5), (6, .s 6), (8, .s 8), (9, .r 1)]
def e12l11 : EC := (.seq (.block 1 (.seq (.reg e12r3 [0, 1, 5, 6, 8, 9] 0) (.seq (.seq (.reg e12r4 [0, 1, 5, 6, 8, 9, 10, 11] 0) (.cond (.s 28) (.exit 0) .skip)) (.seq (.reg e12r5 [0, 1, 5, 6, 8, 9, 10] 0) (.seq (.seq (.reg e12r6 [0, 1, 5, 6, 8, 9, 10, 12, 13] 0) (.cond (.s 40) (.seq (.reg e12r7 [5, 6] 0) .ret) .skip)) (.seq (.reg e12r8 [0, 1, 5, 8, 9, 10, 12, 13] 0) (.seq (.reg e12r9 [0, 1, 5, 6, 8, 9, 10, 13] 0) (.cond (.s 53) (.exit 0) .skip)))))))) (.reg e12r10 [0, 1, 5, 6, 8, 9] 0))
def e12r12 : EE := .q 1 .len [.s 8] none <|
 .q 2 .eql [.r 1, .c z] none <|
 .out [(5, .s 5), (6, .s 6), (8, .s 8), (56, .r 2)]
def e12r13 : EE := .q 0 (.lda 2) [.s 5] none <|
 .x 3 (.st 2) [.s 5, .r 0] none [] <|
 .out [(4, .c .nsl), (5, .s 5), (6, .s 6), (7, .c (.bool false))]
def e12r14 : EE := .q 1 (.ixs 1) [.s 8, .c z] none <|
 .q 2 .ld [.r 1] none <|
 .x 3 (.call 25) [.r 2] none [] <|
 .out [(5, .s 5), (6, .s 6), (8, .s 8), (14, .r 3)]
def e12r15 : EE := .x 1 (.call 26) [.s 14] none [] <|
 .out [(5, .s 5), (6, .s 6), (8, .s 8), (14, .s 14), (15, .r 1)]
def e12r16 : EE := .x 1 (.call 27) [.s 14] none [] <|
 .q 2 .neq [.r 1, .c z] none <|
 .q 4 .mv [.s 15] (some (.r 2, false)) <|
 .q 5 .lss [.r 4, .c z] (some (.r 2, false)) <|
 .q 6 .pick [.r 2, .c (.bool true), .r 5] none <|
 .q 8 .mv [.s 15] (some (.r 6, false)) <|
 .q 9 .mv [.s 8] (some (.r 6, false)) <|
 .q 10 .len [.r 9] (some (.r 6, false)) <|
 .q 11 .sub [.r 10, .c (.int .i64 1)] (some (.r 6, false)) <|
 .q 12 .gtr [.r 8, .r 11] (some (.r 6, false)) <|
 .q 13 .pick [.r 6, .c (.bool true), .r 12] none <|
 .out [(5, .s 5), (6, .s 6), (8, .s 8), (78, .r 13)]
def e12r17 : EE := .q 0 (.lda 2) [.s 5] none <|
 .x 3 (.st 2) [.s 5, .r 0] none [] <|
 .out [(4, .c .nsl), (5, .s 5), (6, .s 6), (7, .c (.bool false))]
def e12r18 : EE := .q 1 (.slc 1 true false) [.s 8, .c (.int .i64 1)] none <|
 .q 2 (.lda 2) [.s 5] none <|
 .x 5 (.st 2) [.s 5, .r 2] none [] <|
 .out [(4, .r 1), (5, .s 5), (6, .s 6), (7, .c (.bool true))]
def e12 : EFn := ⟨(.seq (.reg e12r0 [0, 1] 0) (.seq (.reg e12r1 [0, 1, 5, 6] 0) (.seq (.seq (.reg e12r2 [0, 1, 5, 6, 8] 0) (.block 0 (.loop [0, 1, 5, 6, 8, 9] e12l11))) (.seq (.seq (.reg e12r12 [5, 6, 8] 0) (.cond (.s 56) (.seq (.reg e12r13 [5, 6] 0) .ret) .skip)) (.seq (.reg e12r14 [5, 6, 8] 0) (.seq (.reg e12r15 [5, 6, 8, 14] 0) (.seq (.seq (.reg e12r16 [5, 6, 8, 14, 15] 0) (.cond (.s 78) (.seq (.reg e12r17 [5, 6] 0) .ret) .skip)) (.seq (.reg e12r18 [5, 6, 8] 0) .ret)))))))), [.slot 4, .cells 5 2, .slot 6, .slot 7], 85, 0⟩
theorem g12 : Good Tryd.prog 12 e12 := ⟨Tryd.f12, Tryd.func12, by kernel_rfl, by kernel_rfl, by kernel_rfl, by kernel_rfl⟩
/-! (*concord/disk.Disk).Read -/
def e13r0 : EE := .out [(0, .s 0), (1, .s 1)]
def e13r1 : EE := .x 2 (.call 28) [.s 0, .s 1] none [] <|
 .q 4 (.ext 0) [.r 2] none <|
 .q 5 (.ext 1) [.r 2] none <|
 .out [(0, .s 0), (6, .r 4), (7, .r 5)]
def e13r2 : EE := .q 1 .not [.s 7] none <|
 .out [(0, .s 0), (6, .s 6), (15, .r 1)]
def e13r3 : EE := .out [(4, .c .nsl), (5, .c (.bool false))]
def e13r4 : EE := .q 1 .nl [.s 0] none <|
 .q 2 (.fld 1) [.r 1] none <|
 .q 3 .ld [.r 2] none <|
 .q 5 (.ixs 3) [.r 3, .s 6] none <|
 .q 6 (.fld 1) [.r 5] none <|
 .q 7 .ld [.r 6] none <|
 .x 8 (.call 29) [.r 7] none [] <|
 .out [(4, .r 8), (5, .c (.bool true))]
def e13 : EFn := ⟨(.seq (.reg e13r0 [0, 1] 0) (.seq (.reg e13r1 [0, 1] 0) (.seq (.seq (.reg e13r2 [0, 6, 7] 0) (.cond (.s 15) (.seq (.reg e13r3 [] 0) .ret) .skip)) (.seq (.reg e13r4 [0, 6] 0) .ret)))), [.slot 4, .slot 5], 25, 0⟩
theorem g13 : Good Tryd.prog 13 e13 := ⟨Tryd.f13, Tryd.func13, by kernel_rfl, by kernel_rfl, by kernel_rfl, by kernel_rfl⟩
/-! (concord/wal.place).name -/
def e14r0 : EE := .x 0 (.box 42) [.s 0] none [] <|
 .out [(1, .r 0)]
def e14r1 : EE := .q 0 (.fld 0) [.s 1] none <|
 .q 1 .ld [.r 0] none <|
 .q 5 (.fld 1) [.s 1] none <|
 .q 6 .ld [.r 5] none <|
 .x 2 (.call 30) [.r 1] none [⟨6, .ld, [.r 5], none⟩] <|
 .q 3 .sadd [.c (.str [108, 111, 103, 46]), .r 2] none <|
 .q 4 .sadd [.r 3, .c (.str [46])] none <|
 .x 7 (.call 30) [.r 6] none [] <|
 .q 8 .sadd [.r 4, .r 7] none <|
 .out [(2, .r 8)]
def e14 : EFn := ⟨(.seq (.reg e14r0 [0] 0) (.seq (.reg e14r1 [1] 0) .ret)), [.slot 2], 12, 0⟩
theorem g14 : Good Tryd.prog 14 e14 := ⟨Tryd.f14, Tryd.func14, by kernel_rfl, by kernel_rfl, by kernel_rfl, by kernel_rfl⟩
/-! (*concord/disk.Disk).Cut -/
def e15r0 : EE := .out [(0, .s 0), (1, .s 1), (2, .s 2)]
def e15r1 : EE := .x 2 (.call 31) [.s 0, .s 1] none [] <|
 .q 4 (.ext 0) [.r 2] none <|
 .q 5 (.ext 1) [.r 2] none <|
 .out [(0, .s 0), (2, .s 2), (7, .r 4), (8, .r 5)]
def e15r2 : EE := .q 1 .eql [.s 8, .c z] none <|
 .q 3 .mv [.s 2] (some (.r 1, true)) <|
 .q 4 .lss [.r 3, .c z] (some (.r 1, true)) <|
 .q 5 .mv [.r 4] (some (.r 1, true)) <|
 .q 6 .mv [.s 2] (some (.r 5, false)) <|
 .q 7 .mv [.s 0] (some (.r 5, false)) <|
 .q 8 .nl [.r 7] (some (.r 5, false)) <|
 .q 9 (.fld 1) [.r 8] (some (.r 5, false)) <|
 .q 10 .ld [.r 9] (some (.r 5, false)) <|
 .q 11 .mv [.s 7] (some (.r 5, false)) <|
 .q 12 (.ixs 3) [.r 10, .r 11] (some (.r 5, false)) <|
 .q 13 (.fld 1) [.r 12] (some (.r 5, false)) <|
 .q 14 .ld [.r 13] (some (.r 5, false)) <|
 .q 15 .len [.r 14] (some (.r 5, false)) <|
 .q 16 .gtr [.r 6, .r 15] (some (.r 5, false)) <|
 .q 17 .pick [.r 5, .c (.bool true), .r 16] (some (.r 1, true)) <|
 .q 18 .pick [.r 1, .r 17, .c (.bool false)] none <|
 .out [(0, .s 0), (2, .s 2), (7, .s 7), (8, .s 8), (34, .r 18)]
def e15r3 : EE := .out [(0, .s 0), (2, .s 2), (7, .s 7), (8, .c (.int .i64 1))]
def e15r4 : EE := .q 1 .eql [.s 8, .c z] none <|
 .out [(0, .s 0), (2, .s 2), (7, .s 7), (8, .s 8), (36, .r 1)]
def e15r5 : EE := .x 1 (.call 32) [.s 0] none [] <|
 .out [(0, .s 0), (2, .s 2), (7, .s 7), (8, .r 1)]
def e15r6 : EE := .q 1 .eql [.s 8, .c z] none <|
 .out [(0, .s 0), (2, .s 2), (7, .s 7), (8, .s 8), (40, .r 1)]
def e15r7 : EE := .q 1 .nl [.s 0] none <|
 .q 2 (.fld 1) [.r 1] none <|
 .q 3 .ld [.r 2] none <|
 .q 5 (.ixs 3) [.r 3, .s 7] none <|
 .out [(2, .s 2), (8, .s 8), (9, .r 5)]
def e15r8 : EE := .q 2 .nl [.s 9] none <|
 .q 3 (.fld 1) [.r 2] none <|
 .q 4 .ld [.r 3] none <|
 .q 6 (.slc 1 false true) [.r 4, .s 2] none <|
 .x 7 (.call 29) [.r 6] none [] <|
 .q 8 .nl [.s 9] none <|
 .q 9 (.fld 1) [.r 8] none <|
 .x 10 (.st 1) [.r 9, .r 7] none [] <|
 .out [(2, .s 2), (8, .s 8), (9, .s 9)]
def e15r9 : EE := .q 2 .nl [.s 9] none <|
 .q 3 (.fld 2) [.r 2] none <|
 .q 4 .ld [.r 3] none <|
 .q 6 .mn [.r 4, .s 2] none <|
 .q 7 .nl [.s 9] none <|
 .q 8 (.fld 2) [.r 7] none <|
 .x 9 (.st 1) [.r 8, .r 6] none [] <|
 .out [(8, .s 8)]
def e15r10 : EE := .out [(6, .s 8)]
def e15 : EFn := ⟨(.seq (.reg e15r0 [0, 1, 2] 0) (.seq (.reg e15r1 [0, 1, 2] 0) (.seq (.seq (.reg e15r2 [0, 2, 7, 8] 0) (.cond (.s 34) (.reg e15r3 [0, 2, 7] 0) .skip)) (.seq (.seq (.reg e15r4 [0, 2, 7, 8] 0) (.cond (.s 36) (.reg e15r5 [0, 2, 7] 0) .skip)) (.seq (.seq (.reg e15r6 [0, 2, 7, 8] 0) (.cond (.s 40) (.seq (.reg e15r7 [0, 2, 7, 8] 0) (.seq (.reg e15r8 [2, 8, 9] 0) (.reg e15r9 [2, 8, 9] 0))) .skip)) (.seq (.reg e15r10 [8] 0) .ret)))))), [.slot 6], 67, 0⟩
theorem g15 : Good Tryd.prog 15 e15 := ⟨Tryd.f15, Tryd.func15, by kernel_rfl, by kernel_rfl, by kernel_rfl, by kernel_rfl⟩
/-! (*concord/disk.Disk).Sync -/
def e16r0 : EE := .out [(0, .s 0), (1, .s 1)]
def e16r1 : EE := .x 2 (.call 31) [.s 0, .s 1] none [] <|
 .q 4 (.ext 0) [.r 2] none <|
 .q 5 (.ext 1) [.r 2] none <|
 .out [(0, .s 0), (5, .r 4), (6, .r 5)]
def e16r2 : EE := .q 1 .eql [.s 6, .c z] none <|
 .out [(0, .s 0), (5, .s 5), (6, .s 6), (14, .r 1)]
def e16r3 : EE := .x 1 (.call 32) [.s 0] none [] <|
 .out [(0, .s 0), (5, .s 5), (6, .r 1)]
def e16r4 : EE := .q 1 .eql [.s 6, .c z] none <|
 .out [(0, .s 0), (5, .s 5), (6, .s 6), (18, .r 1)]
def e16r5 : EE := .q 1 .nl [.s 0] none <|
 .q 2 (.fld 1) [.r 1] none <|
 .q 3 .ld [.r 2] none <|
 .q 6 .nl [.s 0] none <|
 .q 7 (.fld 1) [.r 6] none <|
 .q 8 .ld [.r 7] none <|
 .q 10 (.ixs 3) [.r 8, .s 5] none <|
 .q 11 (.fld 1) [.r 10] none <|
 .q 12 .ld [.r 11] none <|
 .q 13 .len [.r 12] none <|
 .q 14 (.ixs 3) [.r 3, .s 5] none <|
 .q 15 (.fld 2) [.r 14] none <|
 .x 16 (.st 1) [.r 15, .r 13] none [] <|
 .out [(6, .s 6)]
def e16r6 : EE := .out [(4, .s 6)]
def e16 : EFn := ⟨(.seq (.reg e16r0 [0, 1] 0) (.seq (.reg e16r1 [0, 1] 0) (.seq (.seq (.reg e16r2 [0, 5, 6] 0) (.cond (.s 14) (.reg e16r3 [0, 5] 0) .skip)) (.seq (.seq (.reg e16r4 [0, 5, 6] 0) (.cond (.s 18) (.reg e16r5 [0, 5, 6] 0) .skip)) (.seq (.reg e16r6 [6] 0) .ret))))), [.slot 4], 36, 0⟩
theorem g16 : Good Tryd.prog 16 e16 := ⟨Tryd.f16, Tryd.func16, by kernel_rfl, by kernel_rfl, by kernel_rfl, by kernel_rfl⟩
/-! concord/wal.frames -/
def e17r0 : EE := .out [(0, .s 0), (1, .s 1)]
def e17r1 : EE := .q 1 .len [.s 1] none <|
 .out [(0, .s 0), (8, .s 1), (9, .r 1), (10, .c z)]
def e17r2 : EE := .q 0 .lss [.s 10, .s 9] none <|
 .out [(0, .s 0), (8, .s 8), (9, .s 9), (10, .s 10), (11, .r 0)]
def e17r3 : EE := .q 0 (.ixs 1) [.s 8, .s 10] none <|
 .q 1 .ld [.r 0] none <|
 .out [(0, .s 0), (7, .r 1), (8, .s 8), (9, .s 9), (10, .s 10)]
def e17r4 : EE := .q 1 .len [.s 7] none <|
 .q 2 .eql [.r 1, .c z] none <|
 .q 4 .mv [.s 7] (some (.r 2, false)) <|
 .q 5 .len [.r 4] (some (.r 2, false)) <|
 .q 6 .gtr [.r 5, .c (.int .i64 16384)] (some (.r 2, false)) <|
 .q 7 .pick [.r 2, .c (.bool true), .r 6] none <|
 .out [(0, .s 0), (7, .s 7), (8, .s 8), (9, .s 9), (10, .s 10), (21, .r 7)]
def e17r5 : EE := .out [(4, .c .nsl), (5, .c (.bool false))]
def e17r6 : EE := .x 2 (.call 19) [.s 0, .s 7] none [] <|
 .out [(0, .r 2), (8, .s 8), (9, .s 9), (10, .s 10)]
def e17r7 : EE := .q 0 .add [.s 10, .c (.int .i64 1)] none <|
 .out [(0, .s 0), (8, .s 8), (9, .s 9), (10, .r 0)]
def e17l8 : EC := (.seq (.reg e17r2 [0, 8, 9, 10] 0) (.seq (.cond (.s 11) .skip (.exit 0)) (.seq (.block 1 (.seq (.reg e17r3 [0, 8, 9, 10] 0) (.seq (.seq (.reg e17r4 [0, 7, 8, 9, 10] 0) (.cond (.s 21) (.seq (.reg e17r5 [] 0) .ret) .skip)) (.reg e17r6 [0, 7, 8, 9, 10] 0)))) (.reg e17r7 [0, 8, 9, 10] 0))))
def e17r9 : EE := .out [(4, .s 0), (5, .c (.bool true))]
def e17 : EFn := ⟨(.seq (.reg e17r0 [0, 1] 0) (.seq (.seq (.reg e17r1 [0, 1] 0) (.block 0 (.loop [0, 8, 9, 10] e17l8))) (.seq (.reg e17r9 [0] 0) .ret))), [.slot 4, .slot 5], 27, 0⟩
theorem g17 : Good Tryd.prog 17 e17 := ⟨Tryd.f17, Tryd.func17, by kernel_rfl, by kernel_rfl, by kernel_rfl, by kernel_rfl⟩
/-! (*concord/wal.Wal).write -/
def e18r0 : EE := .x 0 (.box 42) [.s 1] none [] <|
 .out [(0, .s 0), (2, .s 2), (4, .r 0)]
def e18r1 : EE := .q 1 .nl [.s 0] none <|
 .q 2 (.fld 0) [.r 1] none <|
 .q 3 .ld [.r 2] none <|
 .q 4 (.lda 2) [.s 4] none <|
 .x 5 (.call 14) [.r 4] none [⟨3, .ld, [.r 2], none⟩] <|
 .x 7 (.call 33) [.r 3, .r 5, .s 2] none [] <|
 .out [(0, .s 0), (4, .s 4), (7, .r 7)]
def e18r2 : EE := .q 1 .eql [.s 7, .c (.int .i64 7)] none <|
 .out [(0, .s 0), (4, .s 4), (7, .s 7), (17, .r 1)]
def e18r3 : EE := .out [(6, .s 7)]
def e18r4 : EE := .q 1 .eql [.s 7, .c z] none <|
 .out [(0, .s 0), (4, .s 4), (7, .s 7), (20, .r 1)]
def e18r5 : EE := .q 1 .nl [.s 0] none <|
 .q 2 (.fld 0) [.r 1] none <|
 .q 3 .ld [.r 2] none <|
 .q 4 (.lda 2) [.s 4] none <|
 .x 5 (.call 14) [.r 4] none [⟨3, .ld, [.r 2], none⟩] <|
 .x 6 (.call 16) [.r 3, .r 5] none [] <|
 .out [(0, .s 0), (7, .r 6)]
def e18r6 : EE := .q 2 .neq [.s 7, .c z] none <|
 .q 3 .nl [.s 0] none <|
 .q 4 (.fld 3) [.r 3] none <|
 .x 5 (.st 1) [.r 4, .r 2] none [] <|
 .out [(7, .s 7)]
def e18r7 : EE := .out [(6, .s 7)]
def e18 : EFn := ⟨(.seq (.reg e18r0 [0, 1, 2] 0) (.seq (.reg e18r1 [0, 2, 4] 0) (.seq (.seq (.reg e18r2 [0, 4, 7] 0) (.cond (.s 17) (.seq (.reg e18r3 [7] 0) .ret) .skip)) (.seq (.seq (.reg e18r4 [0, 4, 7] 0) (.cond (.s 20) (.reg e18r5 [0, 4] 0) .skip)) (.seq (.reg e18r6 [0, 7] 0) (.seq (.reg e18r7 [7] 0) .ret)))))), [.slot 6], 34, 0⟩
theorem g18 : Good Tryd.prog 18 e18 := ⟨Tryd.f18, Tryd.func18, by kernel_rfl, by kernel_rfl, by kernel_rfl, by kernel_rfl⟩
/-! concord/frame.Put -/
def e19r0 : EE := .out [(0, .s 0), (1, .s 1)]
def e19r1 : EE := .q 1 .len [.s 0] none <|
 .q 2 .add [.r 1, .c (.int .i64 2)] none <|
 .q 4 .len [.s 1] none <|
 .q 5 .add [.r 2, .r 4] none <|
 .q 6 .add [.r 5, .c (.int .i64 4)] none <|
 .x 7 (.mks 5 1 [(.int .u8 0)]) [.c z, .r 6] none [] <|
 .x 9 (.app 5 1 1 [(.int .u8 0)]) [.r 7, .s 0] none [] <|
 .out [(1, .s 1), (5, .r 9)]
def e19r2 : EE := .q 1 .len [.s 1] none <|
 .q 2 .eql [.r 1, .c z] none <|
 .q 4 .mv [.s 1] (some (.r 2, false)) <|
 .q 5 .len [.r 4] (some (.r 2, false)) <|
 .q 6 .gtr [.r 5, .c (.int .i64 16384)] (some (.r 2, false)) <|
 .q 7 .pick [.r 2, .c (.bool true), .r 6] none <|
 .out [(1, .s 1), (5, .s 5), (24, .r 7)]
def e19r3 : EE := .out [(4, .s 5)]
def e19r4 : EE := .q 1 .len [.s 1] none <|
 .q 2 (.conv .u64) [.r 1] none <|
 .x 3 (.call 34) [.c .nsl, .c (.int .i64 2), .r 2] none [] <|
 .x 5 (.app 5 1 1 [(.int .u8 0)]) [.r 3, .s 1] none [] <|
 .out [(5, .s 5), (6, .r 5)]
def e19r5 : EE := .x 2 (.app 5 1 1 [(.int .u8 0)]) [.s 5, .s 6] none [] <|
 .x 4 (.call 35) [.s 6] none [] <|
 .q 5 (.conv .u64) [.r 4] none <|
 .x 6 (.call 34) [.c .nsl, .c (.int .i64 4), .r 5] none [] <|
 .x 7 (.app 5 1 1 [(.int .u8 0)]) [.r 2, .r 6] none [] <|
 .out [(4, .r 7)]
def e19 : EFn := ⟨(.seq (.reg e19r0 [0, 1] 0) (.seq (.reg e19r1 [0, 1] 0) (.seq (.seq (.reg e19r2 [1, 5] 0) (.cond (.s 24) (.seq (.reg e19r3 [5] 0) .ret) .skip)) (.seq (.reg e19r4 [1, 5] 0) (.seq (.reg e19r5 [5, 6] 0) .ret))))), [.slot 4], 40, 0⟩
theorem g19 : Good Tryd.prog 19 e19 := ⟨Tryd.f19, Tryd.func19, by kernel_rfl, by kernel_rfl, by kernel_rfl, by kernel_rfl⟩
/-! concord/pack.Num -/
def e20r0 : EE := .out [(0, .s 0), (1, .s 1)]
def e20r1 : EE := .x 1 (.call 37) [.s 0, .c (.int .i64 10)] none [] <|
 .x 3 (.call 36) [.r 1, .s 1] none [] <|
 .out [(4, .r 3)]
def e20 : EFn := ⟨(.seq (.reg e20r0 [0, 1] 0) (.seq (.reg e20r1 [0, 1] 0) .ret)), [.slot 4], 9, 0⟩
theorem g20 : Good Tryd.prog 20 e20 := ⟨Tryd.f20, Tryd.func20, by kernel_rfl, by kernel_rfl, by kernel_rfl, by kernel_rfl⟩
/-! (*concord/disk.Disk).Remove -/
def e21r0 : EE := .out [(0, .s 0), (1, .s 1)]
def e21r1 : EE := .x 2 (.call 31) [.s 0, .s 1] none [] <|
 .q 4 (.ext 0) [.r 2] none <|
 .q 5 (.ext 1) [.r 2] none <|
 .out [(0, .s 0), (5, .r 4), (6, .r 5)]
def e21r2 : EE := .q 1 .eql [.s 6, .c z] none <|
 .out [(0, .s 0), (5, .s 5), (6, .s 6), (14, .r 1)]
def e21r3 : EE := .x 1 (.call 32) [.s 0] none [] <|
 .out [(0, .s 0), (5, .s 5), (6, .r 1)]
def e21r4 : EE := .q 1 .eql [.s 6, .c z] none <|
 .out [(0, .s 0), (5, .s 5), (6, .s 6), (18, .r 1)]
def e21r5 : EE := .q 2 .nl [.s 0] none <|
 .q 3 (.fld 1) [.r 2] none <|
 .q 4 .ld [.r 3] none <|
 .q 7 .add [.s 5, .c (.int .i64 1)] none <|
 .x 8 (.call 38) [.r 4, .s 5, .r 7] none [] <|
 .q 9 .nl [.s 0] none <|
 .q 10 (.fld 1) [.r 9] none <|
 .x 11 (.st 1) [.r 10, .r 8] none [] <|
 .out [(6, .s 6)]
def e21r6 : EE := .out [(4, .s 6)]
def e21 : EFn := ⟨(.seq (.reg e21r0 [0, 1] 0) (.seq (.reg e21r1 [0, 1] 0) (.seq (.seq (.reg e21r2 [0, 5, 6] 0) (.cond (.s 14) (.reg e21r3 [0, 5] 0) .skip)) (.seq (.seq (.reg e21r4 [0, 5, 6] 0) (.cond (.s 18) (.reg e21r5 [0, 5, 6] 0) .skip)) (.seq (.reg e21r6 [6] 0) .ret))))), [.slot 4], 31, 0⟩
theorem g21 : Good Tryd.prog 21 e21 := ⟨Tryd.f21, Tryd.func21, by kernel_rfl, by kernel_rfl, by kernel_rfl, by kernel_rfl⟩
/-! (*concord/disk.Disk).Names -/
def e22r0 : EE := .out [(0, .s 0)]
def e22r1 : EE := .out [(0, .s 0), (3, .c .nsl)]
def e22r2 : EE := .q 1 .nl [.s 0] none <|
 .q 2 (.fld 1) [.r 1] none <|
 .q 3 .ld [.r 2] none <|
 .q 4 .len [.r 3] none <|
 .out [(3, .s 3), (9, .r 3), (10, .r 4), (11, .c z)]
def e22r3 : EE := .q 0 .lss [.s 11, .s 10] none <|
 .out [(3, .s 3), (9, .s 9), (10, .s 10), (11, .s 11), (12, .r 0)]
def e22r4 : EE := .q 0 (.ixs 3) [.s 9, .s 11] none <|
 .q 1 (.lda 3) [.r 0] none <|
 .x 2 (.alc [zs, .nsl, z] 70) [] none [] <|
 .x 3 (.st 3) [.r 2, .r 1] none [] <|
 .out [(3, .s 3), (5, .r 2), (9, .s 9), (10, .s 10), (11, .s 11)]
def e22r5 : EE := .q 1 (.fld 0) [.s 5] none <|
 .q 2 .ld [.r 1] none <|
 .x 3 (.bsl 9 1 [zs] [(0, 1)]) [.r 2] none [] <|
 .x 4 (.app 9 1 16 [zs]) [.s 3, .r 3] none [] <|
 .out [(3, .r 4), (9, .s 9), (10, .s 10), (11, .s 11)]
def e22r6 : EE := .q 0 .add [.s 11, .c (.int .i64 1)] none <|
 .out [(3, .s 3), (9, .s 9), (10, .s 10), (11, .r 0)]
def e22l7 : EC := (.seq (.reg e22r3 [3, 9, 10, 11] 0) (.seq (.cond (.s 12) .skip (.exit 0)) (.seq (.block 1 (.seq (.reg e22r4 [3, 9, 10, 11] 0) (.reg e22r5 [3, 5, 9, 10, 11] 0))) (.reg e22r6 [3, 9, 10, 11] 0))))
def e22r8 : EE := .out [(2, .s 3)]
def e22 : EFn := ⟨(.seq (.reg e22r0 [0] 0) (.seq (.reg e22r1 [0] 0) (.seq (.seq (.reg e22r2 [0, 3] 0) (.block 0 (.loop [3, 9, 10, 11] e22l7))) (.seq (.reg e22r8 [3] 0) .ret)))), [.slot 2], 22, 0⟩
theorem g22 : Good Tryd.prog 22 e22 := ⟨Tryd.f22, Tryd.func22, by kernel_rfl, by kernel_rfl, by kernel_rfl, by kernel_rfl⟩
/-! concord/wal.placed -/
def e23r0 : EE := .x 0 (.alc [z, z] 42) [] none [] <|
 .out [(0, .s 0), (2, .r 0)]
def e23r1 : EE := .x 1 (.call 40) [.s 0, .c (.str [108, 111, 103, 46])] none [] <|
 .x 2 (.call 39) [.r 1, .c (.str [46])] none [] <|
 .q 4 (.ext 0) [.r 2] none <|
 .q 5 (.ext 1) [.r 2] none <|
 .q 6 (.ext 2) [.r 2] none <|
 .out [(0, .s 0), (2, .s 2), (4, .r 4), (5, .r 5), (6, .r 6)]
def e23r2 : EE := .x 1 (.call 41) [.s 4] none [] <|
 .q 3 (.ext 0) [.r 1] none <|
 .q 4 (.ext 1) [.r 1] none <|
 .out [(0, .s 0), (2, .s 2), (5, .s 5), (6, .s 6), (7, .r 3)]
def e23r3 : EE := .x 1 (.call 41) [.s 5] none [] <|
 .q 3 (.ext 0) [.r 1] none <|
 .q 4 (.ext 1) [.r 1] none <|
 .out [(0, .s 0), (2, .s 2), (6, .s 6), (7, .s 7), (9, .r 3)]
def e23r4 : EE := .q 2 (.bld [z, z] [(0, 1), (1, 1)]) [.s 7, .s 9] none <|
 .x 3 (.alc [z, z] 42) [] none [] <|
 .x 4 (.st 2) [.r 3, .r 2] none [] <|
 .out [(0, .s 0), (2, .s 2), (6, .s 6), (7, .s 7), (9, .s 9), (11, .r 3)]
def e23r5 : EE := .q 0 (.lda 2) [.s 11] none <|
 .q 3 .mv [.s 7] (some (.s 6, true)) <|
 .q 4 .gtr [.r 3, .c z] (some (.s 6, true)) <|
 .q 5 .pick [.s 6, .r 4, .c (.bool false)] none <|
 .q 7 .mv [.s 7] (some (.r 5, true)) <|
 .q 8 .leq [.r 7, .c (.int .i64 999999999)] (some (.r 5, true)) <|
 .q 9 .pick [.r 5, .r 8, .c (.bool false)] none <|
 .q 11 .mv [.s 9] (some (.r 9, true)) <|
 .q 12 .gtr [.r 11, .c z] (some (.r 9, true)) <|
 .q 13 .pick [.r 9, .r 12, .c (.bool false)] none <|
 .q 15 .mv [.s 9] (some (.r 13, true)) <|
 .q 16 .leq [.r 15, .c (.int .i64 999999999)] (some (.r 13, true)) <|
 .q 17 .pick [.r 13, .r 16, .c (.bool false)] none <|
 .q 19 (.lda 2) [.s 11] (some (.r 17, true)) <|
 .q 21 .mv [.s 0] (some (.r 17, true)) <|
 .x 20 (.call 14) [.r 19] (some (.r 17, true)) [⟨0, (.lda 2), [.s 11], none⟩] <|
 .q 22 .seql [.r 20, .r 21] (some (.r 17, true)) <|
 .q 23 .pick [.r 17, .r 22, .c (.bool false)] none <|
 .x 24 (.st 2) [.s 2, .r 0] none [] <|
 .out [(2, .s 2), (3, .r 23)]
def e23 : EFn := ⟨(.seq (.reg e23r0 [0] 0) (.seq (.reg e23r1 [0, 2] 0) (.seq (.reg e23r2 [0, 2, 4, 5, 6] 0) (.seq (.reg e23r3 [0, 2, 5, 6, 7] 0) (.seq (.reg e23r4 [0, 2, 6, 7, 9] 0) (.seq (.reg e23r5 [0, 2, 6, 7, 9, 11] 0) .ret)))))), [.cells 2 2, .slot 3], 56, 0⟩
theorem g23 : Good Tryd.prog 23 e23 := ⟨Tryd.f23, Tryd.func23, by kernel_rfl, by kernel_rfl, by kernel_rfl, by kernel_rfl⟩
/-! concord/frame.Scan -/
def e24r0 : EE := .out [(0, .s 0)]
def e24r1 : EE := .out [(0, .s 0), (4, .c .nsl)]
def e24r2 : EE := .out [(0, .s 0), (4, .s 4), (5, .c z)]
def e24r3 : EE := .x 2 (.call 42) [.s 0, .s 5] none [] <|
 .q 4 (.ext 0) [.r 2] none <|
 .q 5 (.ext 1) [.r 2] none <|
 .q 6 (.ext 2) [.r 2] none <|
 .out [(0, .s 0), (4, .s 4), (5, .s 5), (6, .r 4), (7, .r 5), (8, .r 6)]
def e24r4 : EE := .q 1 .neq [.s 8, .c z] none <|
 .out [(0, .s 0), (4, .s 4), (5, .s 5), (6, .s 6), (7, .s 7), (17, .r 1)]
def e24r5 : EE := .out [(2, .s 4), (3, .s 5)]
def e24r6 : EE := .x 2 (.bsl 31 1 [.nsl] [(0, 1)]) [.s 6] none [] <|
 .x 3 (.app 31 1 24 [.nsl]) [.s 4, .r 2] none [] <|
 .out [(0, .s 0), (4, .r 3), (5, .s 7)]
def e24l7 : EC := (.block 1 (.seq (.reg e24r3 [0, 4, 5] 0) (.seq (.seq (.reg e24r4 [0, 4, 5, 6, 7, 8] 0) (.cond (.s 17) (.seq (.reg e24r5 [4, 5] 0) .ret) .skip)) (.reg e24r6 [0, 4, 6, 7] 0))))
def e24 : EFn := ⟨(.seq (.reg e24r0 [0] 0) (.seq (.reg e24r1 [0] 0) (.seq (.reg e24r2 [0, 4] 0) (.block 0 (.loop [0, 4, 5] e24l7))))), [.slot 2, .slot 3], 25, 0⟩
theorem g24 : Good Tryd.prog 24 e24 := ⟨Tryd.f24, Tryd.func24, by kernel_rfl, by kernel_rfl, by kernel_rfl, by kernel_rfl⟩
/-! concord/pack.Read -/
def e25r0 : EE := .out [(0, .s 0)]
def e25r1 : EE := .x 1 (.call 37) [.s 0, .c z] none [] <|
 .q 2 (.bld [.nsl, z, z] [(0, 1)]) [.r 1] none <|
 .x 3 (.box 91) [.r 2] none [] <|
 .out [(2, .r 3)]
def e25 : EFn := ⟨(.seq (.reg e25r0 [0] 0) (.seq (.reg e25r1 [0] 0) .ret)), [.slot 2], 7, 0⟩
theorem g25 : Good Tryd.prog 25 e25 := ⟨Tryd.f25, Tryd.func25, by kernel_rfl, by kernel_rfl, by kernel_rfl, by kernel_rfl⟩
/-! (*concord/pack.Reader).Num -/
def e26r0 : EE := .out [(0, .s 0)]
def e26r1 : EE := .q 1 .nl [.s 0] none <|
 .q 2 (.fld 2) [.r 1] none <|
 .q 3 .ld [.r 2] none <|
 .q 4 .neq [.r 3, .c z] none <|
 .out [(0, .s 0), (11, .r 4)]
def e26r2 : EE := .out [(2, .c z)]
def e26r3 : EE := .q 1 .nl [.s 0] none <|
 .q 2 (.fld 1) [.r 1] none <|
 .q 3 .ld [.r 2] none <|
 .out [(0, .s 0), (3, .r 3), (4, .c (.int .u64 0))]
def e26r4 : EE := .out [(0, .s 0), (3, .s 3), (4, .s 4), (5, .c z)]
def e26r5 : EE := .q 1 .nl [.s 0] none <|
 .q 2 (.fld 1) [.r 1] none <|
 .q 3 .ld [.r 2] none <|
 .q 5 .nl [.s 0] none <|
 .q 6 (.fld 0) [.r 5] none <|
 .q 7 .ld [.r 6] none <|
 .q 8 .len [.r 7] none <|
 .q 9 .eql [.r 3, .r 8] none <|
 .out [(0, .s 0), (3, .s 3), (4, .s 4), (5, .s 5), (27, .r 9)]
def e26r6 : EE := .x 2 (.call 43) [.s 0, .s 3, .c (.int .i64 3)] none [] <|
 .out []
def e26r7 : EE := .out [(2, .c z)]
def e26r8 : EE := .q 1 .nl [.s 0] none <|
 .q 2 (.fld 0) [.r 1] none <|
 .q 3 .ld [.r 2] none <|
 .q 5 .nl [.s 0] none <|
 .q 6 (.fld 1) [.r 5] none <|
 .q 7 .ld [.r 6] none <|
 .q 8 (.ixs 1) [.r 3, .r 7] none <|
 .q 9 .ld [.r 8] none <|
 .out [(0, .s 0), (3, .s 3), (4, .s 4), (5, .s 5), (6, .r 9)]
def e26r9 : EE := .q 1 .gtr [.s 5, .c z] none <|
 .q 3 .mv [.s 6] (some (.r 1, true)) <|
 .q 4 .eql [.r 3, .c (.int .u8 0)] (some (.r 1, true)) <|
 .q 5 .pick [.r 1, .r 4, .c (.bool false)] none <|
 .q 7 .mv [.s 5] (some (.r 5, false)) <|
 .q 8 .eql [.r 7, .c (.int .i64 9)] (some (.r 5, false)) <|
 .q 9 .mv [.r 8] (some (.r 5, false)) <|
 .q 10 .mv [.s 6] (some (.r 9, true)) <|
 .q 11 .gtr [.r 10, .c (.int .u8 1)] (some (.r 9, true)) <|
 .q 12 .pick [.r 9, .r 11, .c (.bool false)] (some (.r 5, false)) <|
 .q 13 .pick [.r 5, .c (.bool true), .r 12] none <|
 .out [(0, .s 0), (3, .s 3), (4, .s 4), (5, .s 5), (6, .s 6), (54, .r 13)]
def e26r10 : EE := .x 2 (.call 43) [.s 0, .s 3, .c (.int .i64 4)] none [] <|
 .out []
def e26r11 : EE := .out [(2, .c z)]
def e26r12 : EE := .q 1 .nl [.s 0] none <|
 .q 2 (.fld 1) [.r 1] none <|
 .q 3 .ld [.r 2] none <|
 .q 4 .add [.r 3, .c (.int .i64 1)] none <|
 .q 5 .nl [.s 0] none <|
 .q 6 (.fld 1) [.r 5] none <|
 .x 7 (.st 1) [.r 6, .r 4] none [] <|
 .out [(0, .s 0), (3, .s 3), (4, .s 4), (5, .s 5), (6, .s 6)]
def e26r13 : EE := .q 2 .and [.s 6, .c (.int .u8 127)] none <|
 .q 3 (.conv .u64) [.r 2] none <|
 .q 5 .mul [.c (.int .i64 7), .s 5] none <|
 .q 6 (.conv .u64) [.r 5] none <|
 .q 7 .shl [.r 3, .r 6] none <|
 .q 8 .or [.s 4, .r 7] none <|
 .out [(0, .s 0), (3, .s 3), (4, .r 8), (5, .s 5), (6, .s 6)]
def e26r14 : EE := .q 1 .lss [.s 6, .c (.int .u8 128)] none <|
 .out [(0, .s 0), (3, .s 3), (4, .s 4), (5, .s 5), (75, .r 1)]
def e26r15 : EE := .x 1 (.call 44) [.s 4] none [] <|
 .out [(2, .r 1)]
def e26r16 : EE := .q 1 .add [.s 5, .c (.int .i64 1)] none <|
 .out [(0, .s 0), (3, .s 3), (4, .s 4), (5, .r 1)]
def e26l17 : EC := (.seq (.block 1 (.seq (.seq (.reg e26r5 [0, 3, 4, 5] 0) (.cond (.s 27) (.seq (.reg e26r6 [0, 3] 0) (.seq (.reg e26r7 [] 0) .ret)) .skip)) (.seq (.reg e26r8 [0, 3, 4, 5] 0) (.seq (.seq (.reg e26r9 [0, 3, 4, 5, 6] 0) (.cond (.s 54) (.seq (.reg e26r10 [0, 3] 0) (.seq (.reg e26r11 [] 0) .ret)) .skip)) (.seq (.reg e26r12 [0, 3, 4, 5, 6] 0) (.seq (.reg e26r13 [0, 3, 4, 5, 6] 0) (.seq (.reg e26r14 [0, 3, 4, 5, 6] 0) (.cond (.s 75) (.seq (.reg e26r15 [4] 0) .ret) .skip)))))))) (.reg e26r16 [0, 3, 4, 5] 0))
def e26 : EFn := ⟨(.seq (.reg e26r0 [0] 0) (.seq (.seq (.reg e26r1 [0] 0) (.cond (.s 11) (.seq (.reg e26r2 [] 0) .ret) .skip)) (.seq (.reg e26r3 [0] 0) (.seq (.reg e26r4 [0, 3, 4] 0) (.block 0 (.loop [0, 3, 4, 5] e26l17)))))), [.slot 2], 78, 0⟩
theorem g26 : Good Tryd.prog 26 e26 := ⟨Tryd.f26, Tryd.func26, by kernel_rfl, by kernel_rfl, by kernel_rfl, by kernel_rfl⟩
/-! (*concord/pack.Reader).End -/
def e27r0 : EE := .out [(0, .s 0)]
def e27r1 : EE := .q 1 .nl [.s 0] none <|
 .q 2 (.fld 2) [.r 1] none <|
 .q 3 .ld [.r 2] none <|
 .q 4 .eql [.r 3, .c z] none <|
 .q 6 .mv [.s 0] (some (.r 4, true)) <|
 .q 7 .nl [.r 6] (some (.r 4, true)) <|
 .q 8 (.fld 1) [.r 7] (some (.r 4, true)) <|
 .q 9 .ld [.r 8] (some (.r 4, true)) <|
 .q 10 .mv [.s 0] (some (.r 4, true)) <|
 .q 11 .nl [.r 10] (some (.r 4, true)) <|
 .q 12 (.fld 0) [.r 11] (some (.r 4, true)) <|
 .q 13 .ld [.r 12] (some (.r 4, true)) <|
 .q 14 .len [.r 13] (some (.r 4, true)) <|
 .q 15 .lss [.r 9, .r 14] (some (.r 4, true)) <|
 .q 16 .pick [.r 4, .r 15, .c (.bool false)] none <|
 .out [(0, .s 0), (19, .r 16)]
def e27r2 : EE := .q 1 .nl [.s 0] none <|
 .q 2 (.fld 2) [.r 1] none <|
 .x 3 (.st 1) [.r 2, .c (.int .i64 5)] none [] <|
 .out [(0, .s 0)]
def e27r3 : EE := .q 1 .nl [.s 0] none <|
 .q 2 (.fld 2) [.r 1] none <|
 .q 3 .ld [.r 2] none <|
 .out [(2, .r 3)]
def e27 : EFn := ⟨(.seq (.reg e27r0 [0] 0) (.seq (.seq (.reg e27r1 [0] 0) (.cond (.s 19) (.reg e27r2 [0] 0) .skip)) (.seq (.reg e27r3 [0] 0) .ret))), [.slot 2], 27, 0⟩
theorem g27 : Good Tryd.prog 27 e27 := ⟨Tryd.f27, Tryd.func27, by kernel_rfl, by kernel_rfl, by kernel_rfl, by kernel_rfl⟩
/-! (*concord/disk.Disk).find -/
def e28r0 : EE := .out [(0, .s 0), (1, .s 1)]
def e28r1 : EE := .q 1 .nl [.s 0] none <|
 .q 2 (.fld 1) [.r 1] none <|
 .q 3 .ld [.r 2] none <|
 .q 4 .len [.r 3] none <|
 .out [(0, .s 0), (1, .s 1), (11, .r 3), (12, .r 4), (13, .c z)]
def e28r2 : EE := .q 0 .lss [.s 13, .s 12] none <|
 .out [(0, .s 0), (1, .s 1), (11, .s 11), (12, .s 12), (13, .s 13), (14, .r 0)]
def e28r3 : EE := .q 1 (.ixs 3) [.s 11, .s 13] none <|
 .q 2 (.lda 3) [.r 1] none <|
 .x 3 (.alc [zs, .nsl, z] 70) [] none [] <|
 .x 5 (.st 3) [.r 3, .r 2] none [] <|
 .out [(0, .s 0), (1, .s 1), (6, .s 13), (7, .r 3), (11, .s 11), (12, .s 12), (13, .s 13)]
def e28r4 : EE := .q 0 (.fld 0) [.s 7] none <|
 .q 1 .ld [.r 0] none <|
 .q 3 .sgeq [.r 1, .s 1] none <|
 .out [(0, .s 0), (1, .s 1), (6, .s 6), (7, .s 7), (11, .s 11), (12, .s 12), (13, .s 13), (21, .r 3)]
def e28r5 : EE := .q 1 (.fld 0) [.s 7] none <|
 .q 2 .ld [.r 1] none <|
 .q 4 .seql [.r 2, .s 1] none <|
 .out [(4, .s 6), (5, .r 4)]
def e28r6 : EE := .q 0 .add [.s 13, .c (.int .i64 1)] none <|
 .out [(0, .s 0), (1, .s 1), (11, .s 11), (12, .s 12), (13, .r 0)]
def e28l7 : EC := (.seq (.reg e28r2 [0, 1, 11, 12, 13] 0) (.seq (.cond (.s 14) .skip (.exit 0)) (.seq (.block 1 (.seq (.reg e28r3 [0, 1, 11, 12, 13] 0) (.seq (.reg e28r4 [0, 1, 6, 7, 11, 12, 13] 0) (.cond (.s 21) (.seq (.reg e28r5 [1, 6, 7] 0) .ret) .skip)))) (.reg e28r6 [0, 1, 11, 12, 13] 0))))
def e28r8 : EE := .q 1 .nl [.s 0] none <|
 .q 2 (.fld 1) [.r 1] none <|
 .q 3 .ld [.r 2] none <|
 .q 4 .len [.r 3] none <|
 .out [(4, .r 4), (5, .c (.bool false))]
def e28 : EFn := ⟨(.seq (.reg e28r0 [0, 1] 0) (.seq (.seq (.reg e28r1 [0, 1] 0) (.block 0 (.loop [0, 1, 11, 12, 13] e28l7))) (.seq (.reg e28r8 [0] 0) .ret))), [.slot 4, .slot 5], 33, 0⟩
theorem g28 : Good Tryd.prog 28 e28 := ⟨Tryd.f28, Tryd.func28, by kernel_rfl, by kernel_rfl, by kernel_rfl, by kernel_rfl⟩
/-! slices.Clone[[]byte,byte] -/
def e29r0 : EE := .out [(0, .s 0)]
def e29r1 : EE := .q 1 (.eqs false) [.s 0, .c .nsl] none <|
 .out [(0, .s 0), (4, .r 1)]
def e29r2 : EE := .out [(2, .c .nsl)]
def e29r3 : EE := .x 0 (.bsl 5 0 [] []) [] none [] <|
 .x 2 (.app 5 1 1 [(.int .u8 0)]) [.r 0, .s 0] none [] <|
 .out [(2, .r 2)]
def e29 : EFn := ⟨(.seq (.reg e29r0 [0] 0) (.seq (.seq (.reg e29r1 [0] 0) (.cond (.s 4) (.seq (.reg e29r2 [] 0) .ret) .skip)) (.seq (.reg e29r3 [0] 0) .ret))), [.slot 2], 8, 0⟩
theorem g29 : Good Tryd.prog 29 e29 := ⟨Tryd.f29, Tryd.func29, by kernel_rfl, by kernel_rfl, by kernel_rfl, by kernel_rfl⟩
/-! strconv.Itoa -/
def e30r0 : EE := .out [(0, .s 0)]
def e30r1 : EE := .x 1 (.call 45) [.s 0] none [] <|
 .out [(2, .r 1)]
def e30 : EFn := ⟨(.seq (.reg e30r0 [0] 0) (.seq (.reg e30r1 [0] 0) .ret)), [.slot 2], 5, 0⟩
theorem g30 : Good Tryd.prog 30 e30 := ⟨Tryd.f30, Tryd.func30, by kernel_rfl, by kernel_rfl, by kernel_rfl, by kernel_rfl⟩
/-! (*concord/disk.Disk).known -/
def e31r0 : EE := .out [(0, .s 0), (1, .s 1)]
def e31r1 : EE := .q 1 .nl [.s 0] none <|
 .q 2 (.fld 2) [.r 1] none <|
 .q 3 .ld [.r 2] none <|
 .out [(0, .s 0), (1, .s 1), (11, .r 3)]
def e31r2 : EE := .out [(4, .c z), (5, .c (.int .i64 10))]
def e31r3 : EE := .x 2 (.call 28) [.s 0, .s 1] none [] <|
 .q 4 (.ext 0) [.r 2] none <|
 .q 5 (.ext 1) [.r 2] none <|
 .out [(6, .r 4), (7, .r 5)]
def e31r4 : EE := .q 1 .not [.s 7] none <|
 .out [(6, .s 6), (19, .r 1)]
def e31r5 : EE := .out [(4, .c z), (5, .c (.int .i64 8))]
def e31r6 : EE := .out [(4, .s 6), (5, .c z)]
def e31 : EFn := ⟨(.seq (.reg e31r0 [0, 1] 0) (.seq (.seq (.reg e31r1 [0, 1] 0) (.cond (.s 11) (.seq (.reg e31r2 [] 0) .ret) .skip)) (.seq (.reg e31r3 [0, 1] 0) (.seq (.seq (.reg e31r4 [6, 7] 0) (.cond (.s 19) (.seq (.reg e31r5 [] 0) .ret) .skip)) (.seq (.reg e31r6 [6] 0) .ret))))), [.slot 4, .slot 5], 21, 0⟩
theorem g31 : Good Tryd.prog 31 e31 := ⟨Tryd.f31, Tryd.func31, by kernel_rfl, by kernel_rfl, by kernel_rfl, by kernel_rfl⟩
/-! (*concord/disk.Disk).power -/
def e32r0 : EE := .out [(0, .s 0)]
def e32r1 : EE := .q 1 .nl [.s 0] none <|
 .q 2 (.fld 3) [.r 1] none <|
 .q 3 .ld [.r 2] none <|
 .q 5 .mv [.s 0] (some (.r 3, true)) <|
 .q 6 .nl [.r 5] (some (.r 3, true)) <|
 .q 7 (.fld 4) [.r 6] (some (.r 3, true)) <|
 .q 8 .ld [.r 7] (some (.r 3, true)) <|
 .q 9 .eql [.r 8, .c z] (some (.r 3, true)) <|
 .q 10 .pick [.r 3, .r 9, .c (.bool false)] none <|
 .out [(0, .s 0), (13, .r 10)]
def e32r2 : EE := .q 1 .nl [.s 0] none <|
 .q 2 (.fld 2) [.r 1] none <|
 .x 3 (.st 1) [.r 2, .c (.bool true)] none [] <|
 .out []
def e32r3 : EE := .out [(2, .c (.int .i64 10))]
def e32r4 : EE := .q 1 .nl [.s 0] none <|
 .q 2 (.fld 3) [.r 1] none <|
 .q 3 .ld [.r 2] none <|
 .out [(0, .s 0), (20, .r 3)]
def e32r5 : EE := .q 1 .nl [.s 0] none <|
 .q 2 (.fld 4) [.r 1] none <|
 .q 3 .ld [.r 2] none <|
 .q 4 .sub [.r 3, .c (.int .i64 1)] none <|
 .q 5 .nl [.s 0] none <|
 .q 6 (.fld 4) [.r 5] none <|
 .x 7 (.st 1) [.r 6, .r 4] none [] <|
 .out []
def e32r6 : EE := .out [(2, .c z)]
def e32 : EFn := ⟨(.seq (.reg e32r0 [0] 0) (.seq (.seq (.reg e32r1 [0] 0) (.cond (.s 13) (.seq (.reg e32r2 [0] 0) (.seq (.reg e32r3 [] 0) .ret)) .skip)) (.seq (.seq (.reg e32r4 [0] 0) (.cond (.s 20) (.reg e32r5 [0] 0) .skip)) (.seq (.reg e32r6 [] 0) .ret)))), [.slot 2], 28, 0⟩
theorem g32 : Good Tryd.prog 32 e32 := ⟨Tryd.f32, Tryd.func32, by kernel_rfl, by kernel_rfl, by kernel_rfl, by kernel_rfl⟩
/-! (*concord/disk.Disk).Append -/
def e33r0 : EE := .out [(0, .s 0), (1, .s 1), (2, .s 2)]
def e33r1 : EE := .q 1 .nl [.s 0] none <|
 .q 2 (.fld 2) [.r 1] none <|
 .q 3 .ld [.r 2] none <|
 .out [(0, .s 0), (1, .s 1), (2, .s 2), (10, .r 3)]
def e33r2 : EE := .out [(6, .c (.int .i64 10))]
def e33r3 : EE := .x 1 (.call 46) [.s 1] none [] <|
 .q 2 .not [.r 1] none <|
 .out [(0, .s 0), (1, .s 1), (2, .s 2), (15, .r 2)]
def e33r4 : EE := .out [(6, .c (.int .i64 11))]
def e33r5 : EE := .q 1 .len [.s 2] none <|
 .x 3 (.call 47) [.s 0] none [] <|
 .q 4 .gtr [.r 1, .r 3] none <|
 .out [(0, .s 0), (1, .s 1), (2, .s 2), (19, .r 4)]
def e33r6 : EE := .out [(6, .c (.int .i64 7))]
def e33r7 : EE := .x 1 (.call 32) [.s 0] none [] <|
 .out [(0, .s 0), (1, .s 1), (2, .s 2), (7, .r 1)]
def e33r8 : EE := .q 1 .neq [.s 7, .c z] none <|
 .out [(0, .s 0), (1, .s 1), (2, .s 2), (7, .s 7), (28, .r 1)]
def e33r9 : EE := .out [(6, .s 7)]
def e33r10 : EE := .x 2 (.call 28) [.s 0, .s 1] none [] <|
 .q 4 (.ext 0) [.r 2] none <|
 .q 5 (.ext 1) [.r 2] none <|
 .out [(0, .s 0), (1, .s 1), (2, .s 2), (8, .r 4), (9, .r 5)]
def e33r11 : EE := .q 1 .not [.s 9] none <|
 .out [(0, .s 0), (1, .s 1), (2, .s 2), (8, .s 8), (37, .r 1)]
def e33r12 : EE := .q 2 .nl [.s 0] none <|
 .q 3 (.fld 1) [.r 2] none <|
 .q 4 .ld [.r 3] none <|
 .q 7 (.bld [zs, .nsl, z] [(0, 1)]) [.s 1] none <|
 .x 8 (.bsl 70 1 [zs, .nsl, z] [(0, 3)]) [.r 7] none [] <|
 .x 9 (.call 48) [.r 4, .s 8, .r 8] none [] <|
 .q 10 .nl [.s 0] none <|
 .q 11 (.fld 1) [.r 10] none <|
 .x 12 (.st 1) [.r 11, .r 9] none [] <|
 .out [(0, .s 0), (2, .s 2), (8, .s 8)]
def e33r13 : EE := .q 1 .nl [.s 0] none <|
 .q 2 (.fld 1) [.r 1] none <|
 .q 3 .ld [.r 2] none <|
 .q 6 .nl [.s 0] none <|
 .q 7 (.fld 1) [.r 6] none <|
 .q 8 .ld [.r 7] none <|
 .q 10 (.ixs 3) [.r 8, .s 8] none <|
 .q 11 (.fld 1) [.r 10] none <|
 .q 12 .ld [.r 11] none <|
 .x 14 (.bsl 31 2 [.nsl, .nsl] [(0, 1), (1, 1)]) [.r 12, .s 2] none [⟨3, .ld, [.r 2], none⟩] <|
 .x 15 (.call 49) [.r 14] none [⟨3, .ld, [.r 2], none⟩] <|
 .q 16 (.ixs 3) [.r 3, .s 8] none <|
 .q 17 (.fld 1) [.r 16] none <|
 .x 18 (.st 1) [.r 17, .r 15] none [] <|
 .out []
def e33r14 : EE := .out [(6, .c z)]
def e33 : EFn := ⟨(.seq (.reg e33r0 [0, 1, 2] 0) (.seq (.block 0 (.seq (.reg e33r1 [0, 1, 2] 0) (.cond (.s 10) (.seq (.reg e33r2 [] 0) .ret) (.seq (.reg e33r3 [0, 1, 2] 0) (.cond (.s 15) (.seq (.reg e33r4 [] 0) .ret) (.seq (.reg e33r5 [0, 1, 2] 0) (.cond (.s 19) (.seq (.reg e33r6 [] 0) .ret) .skip))))))) (.seq (.seq (.reg e33r7 [0, 1, 2] 0) (.seq (.reg e33r8 [0, 1, 2, 7] 0) (.cond (.s 28) (.seq (.reg e33r9 [7] 0) .ret) .skip))) (.seq (.reg e33r10 [0, 1, 2] 0) (.seq (.seq (.reg e33r11 [0, 1, 2, 8, 9] 0) (.cond (.s 37) (.reg e33r12 [0, 1, 2, 8] 0) .skip)) (.seq (.reg e33r13 [0, 2, 8] 0) (.seq (.reg e33r14 [] 0) .ret))))))), [.slot 6], 68, 0⟩
theorem g33 : Good Tryd.prog 33 e33 := ⟨Tryd.f33, Tryd.func33, by kernel_rfl, by kernel_rfl, by kernel_rfl, by kernel_rfl⟩
/-! concord/word.Put -/
def e34r0 : EE := .out [(0, .s 0), (1, .s 1), (2, .s 2)]
def e34r1 : EE := .q 1 .len [.s 0] none <|
 .q 2 .add [.r 1, .c (.int .i64 8)] none <|
 .x 3 (.mks 5 1 [(.int .u8 0)]) [.c z, .r 2] none [] <|
 .x 5 (.app 5 1 1 [(.int .u8 0)]) [.r 3, .s 0] none [] <|
 .out [(1, .s 1), (2, .s 2), (7, .r 5)]
def e34r2 : EE := .q 1 .mx [.s 1, .c z] none <|
 .q 2 .mn [.r 1, .c (.int .i64 8)] none <|
 .out [(2, .s 2), (7, .s 7), (16, .r 2), (17, .c z)]
def e34r3 : EE := .q 0 .lss [.s 17, .s 16] none <|
 .out [(2, .s 2), (7, .s 7), (16, .s 16), (17, .s 17), (18, .r 0)]
def e34r4 : EE := .q 2 (.conv .u8) [.s 2] none <|
 .x 3 (.bsl 5 1 [(.int .u8 0)] [(0, 1)]) [.r 2] none [] <|
 .x 4 (.app 5 1 1 [(.int .u8 0)]) [.s 7, .r 3] none [] <|
 .out [(2, .s 2), (7, .r 4), (16, .s 16), (17, .s 17)]
def e34r5 : EE := .q 1 .shr [.s 2, .c (.int .u64 8)] none <|
 .out [(2, .r 1), (7, .s 7), (16, .s 16), (17, .s 17)]
def e34r6 : EE := .q 0 .add [.s 17, .c (.int .i64 1)] none <|
 .out [(2, .s 2), (7, .s 7), (16, .s 16), (17, .r 0)]
def e34l7 : EC := (.seq (.reg e34r3 [2, 7, 16, 17] 0) (.seq (.cond (.s 18) .skip (.exit 0)) (.seq (.block 1 (.seq (.reg e34r4 [2, 7, 16, 17] 0) (.reg e34r5 [2, 7, 16, 17] 0))) (.reg e34r6 [2, 7, 16, 17] 0))))
def e34r8 : EE := .out [(6, .s 7)]
def e34 : EFn := ⟨(.seq (.reg e34r0 [0, 1, 2] 0) (.seq (.reg e34r1 [0, 1, 2] 0) (.seq (.seq (.reg e34r2 [1, 2, 7] 0) (.block 0 (.loop [2, 7, 16, 17] e34l7))) (.seq (.reg e34r8 [7] 0) .ret)))), [.slot 6], 28, 0⟩
theorem g34 : Good Tryd.prog 34 e34 := ⟨Tryd.f34, Tryd.func34, by kernel_rfl, by kernel_rfl, by kernel_rfl, by kernel_rfl⟩
/-! concord/sum.Of -/
def e35r0 : EE := .out [(0, .s 0)]
def e35r1 : EE := .x 1 (.call 50) [.c (.int .u32 0), .s 0] none [] <|
 .out [(2, .r 1)]
def e35 : EFn := ⟨(.seq (.reg e35r0 [0] 0) (.seq (.reg e35r1 [0] 0) .ret)), [.slot 2], 5, 0⟩
theorem g35 : Good Tryd.prog 35 e35 := ⟨Tryd.f35, Tryd.func35, by kernel_rfl, by kernel_rfl, by kernel_rfl, by kernel_rfl⟩
/-! concord/pack.num -/
def e36r0 : EE := .out [(0, .s 0), (1, .s 1)]
def e36r1 : EE := .x 1 (.call 51) [.s 1] none [] <|
 .out [(0, .s 0), (5, .r 1)]
def e36r2 : EE := .q 1 .geq [.s 5, .c (.int .u64 128)] none <|
 .out [(0, .s 0), (5, .s 5), (9, .r 1)]
def e36r3 : EE := .q 2 (.conv .u8) [.s 5] none <|
 .q 3 .or [.r 2, .c (.int .u8 128)] none <|
 .x 4 (.bsl 5 1 [(.int .u8 0)] [(0, 1)]) [.r 3] none [] <|
 .x 5 (.app 5 1 1 [(.int .u8 0)]) [.s 0, .r 4] none [] <|
 .out [(0, .r 5), (5, .s 5)]
def e36r4 : EE := .q 1 .shr [.s 5, .c (.int .u64 7)] none <|
 .out [(0, .s 0), (5, .r 1)]
def e36l5 : EC := (.seq (.seq (.reg e36r2 [0, 5] 0) (.cond (.s 9) .skip (.exit 0))) (.block 1 (.seq (.reg e36r3 [0, 5] 0) (.reg e36r4 [0, 5] 0))))
def e36r6 : EE := .q 2 (.conv .u8) [.s 5] none <|
 .x 3 (.bsl 5 1 [(.int .u8 0)] [(0, 1)]) [.r 2] none [] <|
 .x 4 (.app 5 1 1 [(.int .u8 0)]) [.s 0, .r 3] none [] <|
 .out [(4, .r 4)]
def e36 : EFn := ⟨(.seq (.reg e36r0 [0, 1] 0) (.seq (.reg e36r1 [0, 1] 0) (.seq (.block 0 (.loop [0, 5] e36l5)) (.seq (.reg e36r6 [0, 5] 0) .ret)))), [.slot 4], 23, 0⟩
theorem g36 : Good Tryd.prog 36 e36 := ⟨Tryd.f36, Tryd.func36, by kernel_rfl, by kernel_rfl, by kernel_rfl, by kernel_rfl⟩
/-! concord/pack.grown -/
def e37r0 : EE := .out [(0, .s 0), (1, .s 1)]
def e37r1 : EE := .q 1 .len [.s 0] none <|
 .q 3 .add [.r 1, .s 1] none <|
 .x 4 (.mks 5 1 [(.int .u8 0)]) [.c z, .r 3] none [] <|
 .x 6 (.app 5 1 1 [(.int .u8 0)]) [.r 4, .s 0] none [] <|
 .out [(4, .r 6)]
def e37 : EFn := ⟨(.seq (.reg e37r0 [0, 1] 0) (.seq (.reg e37r1 [0, 1] 0) .ret)), [.slot 4], 12, 0⟩
theorem g37 : Good Tryd.prog 37 e37 := ⟨Tryd.f37, Tryd.func37, by kernel_rfl, by kernel_rfl, by kernel_rfl, by kernel_rfl⟩
/-! slices.Delete[[]concord/disk.file,concord/disk.file] -/
def e38r0 : EE := .out [(0, .s 0), (1, .s 1), (2, .s 2)]
def e38r1 : EE := .q 4 .len [.s 0] none <|
 .q 5 (.slc3 3 true) [.s 0, .s 1, .s 2, .r 4] none <|
 .out [(0, .s 0), (1, .s 1), (2, .s 2)]
def e38r2 : EE := .q 2 .eql [.s 1, .s 2] none <|
 .out [(0, .s 0), (1, .s 1), (2, .s 2), (16, .r 2)]
def e38r3 : EE := .out [(6, .s 0)]
def e38r4 : EE := .q 1 .len [.s 0] none <|
 .out [(0, .s 0), (1, .s 1), (2, .s 2), (7, .r 1)]
def e38r5 : EE := .q 2 (.slc 3 false true) [.s 0, .s 1] none <|
 .q 5 (.slc 3 true false) [.s 0, .s 2] none <|
 .x 6 (.app 70 3 48 [zs, .nsl, z]) [.r 2, .r 5] none [] <|
 .out [(0, .r 6), (7, .s 7)]
def e38r6 : EE := .q 2 .len [.s 0] none <|
 .q 4 (.slc 3 true true) [.s 0, .r 2, .s 7] none <|
 .x 5 (.clr [zs, .nsl, z]) [.r 4] none [] <|
 .out [(0, .s 0)]
def e38r7 : EE := .out [(6, .s 0)]
def e38 : EFn := ⟨(.seq (.reg e38r0 [0, 1, 2] 0) (.seq (.reg e38r1 [0, 1, 2] 0) (.seq (.seq (.reg e38r2 [0, 1, 2] 0) (.cond (.s 16) (.seq (.reg e38r3 [0] 0) .ret) .skip)) (.seq (.reg e38r4 [0, 1, 2] 0) (.seq (.reg e38r5 [0, 1, 2, 7] 0) (.seq (.reg e38r6 [0, 7] 0) (.seq (.reg e38r7 [0] 0) .ret))))))), [.slot 6], 33, 0⟩
theorem g38 : Good Tryd.prog 38 e38 := ⟨Tryd.f38, Tryd.func38, by kernel_rfl, by kernel_rfl, by kernel_rfl, by kernel_rfl⟩
/-! strings.Cut -/
def e39r0 : EE := .out [(0, .s 0), (1, .s 1)]
def e39r1 : EE := .x 2 (.call 52) [.s 0, .s 1] none [] <|
 .q 3 (.ext 0) [.r 2] none <|
 .q 4 (.ext 1) [.r 2] none <|
 .q 5 (.ext 2) [.r 2] none <|
 .out [(4, .r 3), (5, .r 4), (6, .r 5)]
def e39 : EFn := ⟨(.seq (.reg e39r0 [0, 1] 0) (.seq (.reg e39r1 [0, 1] 0) .ret)), [.slot 4, .slot 5, .slot 6], 13, 0⟩
theorem g39 : Good Tryd.prog 39 e39 := ⟨Tryd.f39, Tryd.func39, by kernel_rfl, by kernel_rfl, by kernel_rfl, by kernel_rfl⟩
/-! strings.TrimPrefix -/
def e40r0 : EE := .out [(0, .s 0), (1, .s 1)]
def e40r1 : EE := .x 2 (.call 53) [.s 0, .s 1] none [] <|
 .out [(4, .r 2)]
def e40 : EFn := ⟨(.seq (.reg e40r0 [0, 1] 0) (.seq (.reg e40r1 [0, 1] 0) .ret)), [.slot 4], 8, 0⟩
theorem g40 : Good Tryd.prog 40 e40 := ⟨Tryd.f40, Tryd.func40, by kernel_rfl, by kernel_rfl, by kernel_rfl, by kernel_rfl⟩
/-! strconv.Atoi -/
def e41r0 : EE := .out [(0, .s 0)]
def e41r1 : EE := .x 1 (.call 54) [.s 0] none [] <|
 .q 3 (.ext 0) [.r 1] none <|
 .q 4 (.ext 1) [.r 1] none <|
 .out [(0, .s 0), (4, .r 3), (5, .r 4)]
def e41r2 : EE := .q 1 (.eqi true) [.s 5, .c .nif] none <|
 .out [(0, .s 0), (4, .s 4), (5, .s 5), (12, .r 1)]
def e41r3 : EE := .x 3 (.call 55) [.c (.str [65, 116, 111, 105]), .s 0, .c z, .c z, .s 5] none [] <|
 .out [(2, .s 4), (3, .r 3)]
def e41r4 : EE := .out [(2, .s 4), (3, .c .nif)]
def e41 : EFn := ⟨(.seq (.reg e41r0 [0] 0) (.seq (.reg e41r1 [0] 0) (.seq (.seq (.reg e41r2 [0, 4, 5] 0) (.cond (.s 12) (.seq (.reg e41r3 [0, 4, 5] 0) .ret) .skip)) (.seq (.reg e41r4 [4] 0) .ret)))), [.slot 2, .slot 3], 18, 0⟩
theorem g41 : Good Tryd.prog 41 e41 := ⟨Tryd.f41, Tryd.func41, by kernel_rfl, by kernel_rfl, by kernel_rfl, by kernel_rfl⟩
/-! concord/frame.Next -/
def e42r0 : EE := .out [(0, .s 0), (1, .s 1)]
def e42r1 : EE := .q 1 .lss [.s 1, .c z] none <|
 .q 3 .mv [.s 1] (some (.r 1, false)) <|
 .q 4 .mv [.s 0] (some (.r 1, false)) <|
 .q 5 .len [.r 4] (some (.r 1, false)) <|
 .q 6 .gtr [.r 3, .r 5] (some (.r 1, false)) <|
 .q 7 .pick [.r 1, .c (.bool true), .r 6] none <|
 .out [(0, .s 0), (1, .s 1), (20, .r 7)]
def e42r2 : EE := .out [(4, .c .nsl), (5, .c z), (6, .c (.int .i64 1))]
def e42r3 : EE := .q 2 (.slc 1 true false) [.s 0, .s 1] none <|
 .out [(1, .s 1), (7, .r 2)]
def e42r4 : EE := .x 1 (.call 56) [.s 7, .c z, .c (.int .i64 2)] none [] <|
 .q 3 (.ext 0) [.r 1] none <|
 .q 4 (.ext 1) [.r 1] none <|
 .out [(1, .s 1), (7, .s 7), (8, .r 3), (9, .r 4)]
def e42r5 : EE := .q 1 .neq [.s 9, .c z] none <|
 .out [(1, .s 1), (7, .s 7), (8, .s 8), (30, .r 1)]
def e42r6 : EE := .out [(4, .c .nsl), (5, .c z), (6, .c (.int .i64 3))]
def e42r7 : EE := .q 1 (.conv .i64) [.s 8] none <|
 .out [(1, .s 1), (7, .s 7), (10, .r 1)]
def e42r8 : EE := .q 1 .eql [.s 10, .c z] none <|
 .q 3 .mv [.s 10] (some (.r 1, false)) <|
 .q 4 .gtr [.r 3, .c (.int .i64 16384)] (some (.r 1, false)) <|
 .q 5 .pick [.r 1, .c (.bool true), .r 4] none <|
 .out [(1, .s 1), (7, .s 7), (10, .s 10), (38, .r 5)]
def e42r9 : EE := .out [(4, .c .nsl), (5, .c z), (6, .c (.int .i64 4))]
def e42r10 : EE := .q 1 .len [.s 7] none <|
 .q 3 .add [.c (.int .i64 2), .s 10] none <|
 .q 4 .add [.r 3, .c (.int .i64 4)] none <|
 .q 5 .lss [.r 1, .r 4] none <|
 .out [(1, .s 1), (7, .s 7), (10, .s 10), (44, .r 5)]
def e42r11 : EE := .out [(4, .c .nsl), (5, .c z), (6, .c (.int .i64 3))]
def e42r12 : EE := .q 2 .add [.c (.int .i64 2), .s 10] none <|
 .x 3 (.call 56) [.s 7, .r 2, .c (.int .i64 4)] none [] <|
 .q 5 (.ext 0) [.r 3] none <|
 .q 6 (.ext 1) [.r 3] none <|
 .out [(1, .s 1), (7, .s 7), (10, .s 10), (11, .r 5)]
def e42r13 : EE := .q 3 .add [.c (.int .i64 2), .s 10] none <|
 .q 4 (.slc 1 false true) [.s 7, .r 3] none <|
 .x 5 (.call 35) [.r 4] none [] <|
 .q 6 (.conv .u64) [.r 5] none <|
 .q 7 .neq [.s 11, .r 6] none <|
 .out [(1, .s 1), (7, .s 7), (10, .s 10), (59, .r 7)]
def e42r14 : EE := .out [(4, .c .nsl), (5, .c z), (6, .c (.int .i64 6))]
def e42r15 : EE := .q 2 .add [.c (.int .i64 2), .s 10] none <|
 .q 3 (.slc 1 true true) [.s 7, .c (.int .i64 2), .r 2] none <|
 .x 4 (.app 5 1 1 [(.int .u8 0)]) [.c .nsl, .r 3] none [] <|
 .q 6 .add [.s 1, .c (.int .i64 2)] none <|
 .q 8 .add [.r 6, .s 10] none <|
 .q 9 .add [.r 8, .c (.int .i64 4)] none <|
 .out [(4, .r 4), (5, .r 9), (6, .c z)]
def e42 : EFn := ⟨(.seq (.reg e42r0 [0, 1] 0) (.seq (.seq (.reg e42r1 [0, 1] 0) (.cond (.s 20) (.seq (.reg e42r2 [] 0) .ret) .skip)) (.seq (.reg e42r3 [0, 1] 0) (.seq (.reg e42r4 [1, 7] 0) (.seq (.seq (.reg e42r5 [1, 7, 8, 9] 0) (.cond (.s 30) (.seq (.reg e42r6 [] 0) .ret) .skip)) (.seq (.reg e42r7 [1, 7, 8] 0) (.seq (.seq (.reg e42r8 [1, 7, 10] 0) (.cond (.s 38) (.seq (.reg e42r9 [] 0) .ret) .skip)) (.seq (.seq (.reg e42r10 [1, 7, 10] 0) (.cond (.s 44) (.seq (.reg e42r11 [] 0) .ret) .skip)) (.seq (.seq (.reg e42r12 [1, 7, 10] 0) (.seq (.reg e42r13 [1, 7, 10, 11] 0) (.cond (.s 59) (.seq (.reg e42r14 [] 0) .ret) .skip))) (.seq (.reg e42r15 [1, 7, 10] 0) .ret)))))))))), [.slot 4, .slot 5, .slot 6], 70, 0⟩
theorem g42 : Good Tryd.prog 42 e42 := ⟨Tryd.f42, Tryd.func42, by kernel_rfl, by kernel_rfl, by kernel_rfl, by kernel_rfl⟩
/-! (*concord/pack.Reader).fail -/
def e43r0 : EE := .q 4 .nl [.s 0] none <|
 .q 5 (.fld 1) [.r 4] none <|
 .x 6 (.st 1) [.r 5, .s 1] none [] <|
 .q 7 .nl [.s 0] none <|
 .q 8 (.fld 2) [.r 7] none <|
 .x 9 (.st 1) [.r 8, .s 2] none [] <|
 .out []
def e43 : EFn := ⟨(.reg e43r0 [0, 1, 2] 0), [], 14, 0⟩
theorem g43 : Good Tryd.prog 43 e43 := ⟨Tryd.f43, Tryd.func43, by kernel_rfl, by kernel_rfl, by kernel_rfl, by kernel_rfl⟩
/-! concord/word.Zag -/
def e44r0 : EE := .out [(0, .s 0)]
def e44r1 : EE := .q 1 .shr [.s 0, .c (.int .u64 1)] none <|
 .q 2 (.conv .i64) [.r 1] none <|
 .q 4 .and [.s 0, .c (.int .u64 1)] none <|
 .q 5 (.conv .i64) [.r 4] none <|
 .q 6 .neg [.r 5] none <|
 .q 7 .xor [.r 2, .r 6] none <|
 .out [(2, .r 7)]
def e44 : EFn := ⟨(.seq (.reg e44r0 [0] 0) (.seq (.reg e44r1 [0] 0) .ret)), [.slot 2], 11, 0⟩
theorem g44 : Good Tryd.prog 44 e44 := ⟨Tryd.f44, Tryd.func44, by kernel_rfl, by kernel_rfl, by kernel_rfl, by kernel_rfl⟩
/-! internal/strconv.Itoa -/
def e45r0 : EE := .out [(0, .s 0)]
def e45r1 : EE := .x 1 (.call 57) [.s 0, .c (.int .i64 10)] none [] <|
 .out [(2, .r 1)]
def e45 : EFn := ⟨(.seq (.reg e45r0 [0] 0) (.seq (.reg e45r1 [0] 0) .ret)), [.slot 2], 5, 0⟩
theorem g45 : Good Tryd.prog 45 e45 := ⟨Tryd.f45, Tryd.func45, by kernel_rfl, by kernel_rfl, by kernel_rfl, by kernel_rfl⟩
/-! concord/disk.may -/
def e46r0 : EE := .out [(0, .s 0)]
def e46r1 : EE := .q 1 .seql [.s 0, .c zs] none <|
 .q 3 .mv [.s 0] (some (.r 1, false)) <|
 .q 4 .lenz [.r 3] (some (.r 1, false)) <|
 .q 5 .gtr [.r 4, .c (.int .i64 24)] (some (.r 1, false)) <|
 .q 6 .pick [.r 1, .c (.bool true), .r 5] none <|
 .out [(0, .s 0), (10, .r 6)]
def e46r2 : EE := .out [(2, .c (.bool false))]
def e46r3 : EE := .q 1 .lenz [.s 0] none <|
 .out [(0, .s 0), (12, .r 1), (13, .c z)]
def e46r4 : EE := .q 0 .lss [.s 13, .s 12] none <|
 .out [(0, .s 0), (12, .s 12), (13, .s 13), (14, .r 0)]
def e46r5 : EE := .out [(0, .s 0), (3, .s 13), (12, .s 12), (13, .s 13)]
def e46r6 : EE := .q 2 .idxs [.s 0, .s 3] none <|
 .q 3 .lss [.r 2, .c (.int .u8 33)] none <|
 .q 5 .mv [.s 0] (some (.r 3, false)) <|
 .q 6 .mv [.s 3] (some (.r 3, false)) <|
 .q 7 .idxs [.r 5, .r 6] (some (.r 3, false)) <|
 .q 8 .gtr [.r 7, .c (.int .u8 126)] (some (.r 3, false)) <|
 .q 9 .pick [.r 3, .c (.bool true), .r 8] none <|
 .out [(0, .s 0), (12, .s 12), (13, .s 13), (25, .r 9)]
def e46r7 : EE := .out [(2, .c (.bool false))]
def e46r8 : EE := .q 0 .add [.s 13, .c (.int .i64 1)] none <|
 .out [(0, .s 0), (12, .s 12), (13, .r 0)]
def e46l9 : EC := (.seq (.reg e46r4 [0, 12, 13] 0) (.seq (.cond (.s 14) .skip (.exit 0)) (.seq (.block 1 (.seq (.reg e46r5 [0, 12, 13] 0) (.seq (.reg e46r6 [0, 3, 12, 13] 0) (.cond (.s 25) (.seq (.reg e46r7 [] 0) .ret) .skip)))) (.reg e46r8 [0, 12, 13] 0))))
def e46r10 : EE := .out [(2, .c (.bool true))]
def e46 : EFn := ⟨(.seq (.reg e46r0 [0] 0) (.seq (.seq (.reg e46r1 [0] 0) (.cond (.s 10) (.seq (.reg e46r2 [] 0) .ret) .skip)) (.seq (.seq (.reg e46r3 [0] 0) (.block 0 (.loop [0, 12, 13] e46l9))) (.seq (.reg e46r10 [] 0) .ret)))), [.slot 2], 27, 0⟩
theorem g46 : Good Tryd.prog 46 e46 := ⟨Tryd.f46, Tryd.func46, by kernel_rfl, by kernel_rfl, by kernel_rfl, by kernel_rfl⟩
/-! (*concord/disk.Disk).Room -/
def e47r0 : EE := .out [(0, .s 0)]
def e47r1 : EE := .q 1 .nl [.s 0] none <|
 .q 2 (.fld 0) [.r 1] none <|
 .q 3 .ld [.r 2] none <|
 .x 5 (.call 58) [.s 0] none [⟨3, .ld, [.r 2], none⟩] <|
 .q 6 .sub [.r 3, .r 5] none <|
 .out [(2, .r 6)]
def e47 : EFn := ⟨(.seq (.reg e47r0 [0] 0) (.seq (.reg e47r1 [0] 0) .ret)), [.slot 2], 10, 0⟩
theorem g47 : Good Tryd.prog 47 e47 := ⟨Tryd.f47, Tryd.func47, by kernel_rfl, by kernel_rfl, by kernel_rfl, by kernel_rfl⟩
/-! slices.Insert[[]concord/disk.file,concord/disk.file] -/
def e48r0 : EE := .out [(0, .s 0), (1, .s 1), (2, .s 2)]
def e48r1 : EE := .q 2 (.slc 3 true false) [.s 0, .s 1] none <|
 .out [(0, .s 0), (1, .s 1), (2, .s 2)]
def e48r2 : EE := .q 1 .len [.s 2] none <|
 .out [(0, .s 0), (1, .s 1), (2, .s 2), (7, .r 1)]
def e48r3 : EE := .q 1 .eql [.s 7, .c z] none <|
 .out [(0, .s 0), (1, .s 1), (2, .s 2), (7, .s 7), (16, .r 1)]
def e48r4 : EE := .out [(6, .s 0)]
def e48r5 : EE := .q 1 .len [.s 0] none <|
 .out [(0, .s 0), (1, .s 1), (2, .s 2), (7, .s 7), (8, .r 1)]
def e48r6 : EE := .q 2 .eql [.s 1, .s 8] none <|
 .out [(0, .s 0), (1, .s 1), (2, .s 2), (7, .s 7), (8, .s 8), (22, .r 2)]
def e48r7 : EE := .x 2 (.app 70 3 48 [zs, .nsl, z]) [.s 0, .s 2] none [] <|
 .out [(6, .r 2)]
def e48r8 : EE := .q 2 .add [.s 8, .s 7] none <|
 .q 4 .cap [.s 0] none <|
 .q 5 .gtr [.r 2, .r 4] none <|
 .out [(0, .s 0), (1, .s 1), (2, .s 2), (7, .s 7), (8, .s 8), (31, .r 5)]
def e48r9 : EE := .q 2 (.slc 3 false true) [.s 0, .s 1] none <|
 .q 5 .add [.s 8, .s 7] none <|
 .q 7 .sub [.r 5, .s 1] none <|
 .x 8 (.appn 70 3 48 [zs, .nsl, z]) [.r 2, .r 7] none [] <|
 .out [(0, .s 0), (1, .s 1), (2, .s 2), (7, .s 7), (9, .r 8)]
def e48r10 : EE := .q 2 (.slc 3 true false) [.s 9, .s 1] none <|
 .x 4 (.cpy 3) [.r 2, .s 2] none [] <|
 .out [(0, .s 0), (1, .s 1), (7, .s 7), (9, .s 9)]
def e48r11 : EE := .q 3 .add [.s 1, .s 7] none <|
 .q 4 (.slc 3 true false) [.s 9, .r 3] none <|
 .q 7 (.slc 3 true false) [.s 0, .s 1] none <|
 .x 8 (.cpy 3) [.r 4, .r 7] none [] <|
 .out [(9, .s 9)]
def e48r12 : EE := .out [(6, .s 9)]
def e48r13 : EE := .q 3 .add [.s 8, .s 7] none <|
 .q 4 (.slc 3 false true) [.s 0, .r 3] none <|
 .out [(0, .r 4), (1, .s 1), (2, .s 2), (7, .s 7), (8, .s 8)]
def e48r14 : EE := .q 4 .add [.s 1, .s 7] none <|
 .q 5 (.slc 3 true false) [.s 0, .r 4] none <|
 .x 6 .bad [] none [] <|
 .q 7 .not [.r 6] none <|
 .out [(0, .s 0), (1, .s 1), (2, .s 2), (7, .s 7), (8, .s 8), (68, .r 7)]
def e48r15 : EE := .q 3 .add [.s 1, .s 7] none <|
 .q 4 (.slc 3 true false) [.s 0, .r 3] none <|
 .q 7 (.slc 3 true false) [.s 0, .s 1] none <|
 .x 8 (.cpy 3) [.r 4, .r 7] none [] <|
 .out [(0, .s 0), (1, .s 1), (2, .s 2)]
def e48r16 : EE := .q 2 (.slc 3 true false) [.s 0, .s 1] none <|
 .x 4 (.cpy 3) [.r 2, .s 2] none [] <|
 .out [(0, .s 0)]
def e48r17 : EE := .out [(6, .s 0)]
def e48r18 : EE := .q 2 (.slc 3 true false) [.s 0, .s 8] none <|
 .x 4 (.cpy 3) [.r 2, .s 2] none [] <|
 .out [(0, .s 0), (1, .s 1), (7, .s 7)]
def e48r19 : EE := .q 2 (.slc 3 true false) [.s 0, .s 1] none <|
 .x 4 (.call 60) [.r 2, .s 7] none [] <|
 .out [(0, .s 0)]
def e48r20 : EE := .out [(6, .s 0)]
def e48 : EFn := ⟨(.seq (.reg e48r0 [0, 1, 2] 0) (.seq (.reg e48r1 [0, 1, 2] 0) (.seq (.reg e48r2 [0, 1, 2] 0) (.seq (.seq (.reg e48r3 [0, 1, 2, 7] 0) (.cond (.s 16) (.seq (.reg e48r4 [0] 0) .ret) .skip)) (.seq (.reg e48r5 [0, 1, 2, 7] 0) (.seq (.seq (.reg e48r6 [0, 1, 2, 7, 8] 0) (.cond (.s 22) (.seq (.reg e48r7 [0, 2] 0) .ret) .skip)) (.seq (.seq (.reg e48r8 [0, 1, 2, 7, 8] 0) (.cond (.s 31) (.seq (.reg e48r9 [0, 1, 2, 7, 8] 0) (.seq (.reg e48r10 [0, 1, 2, 7, 9] 0) (.seq (.reg e48r11 [0, 1, 7, 9] 0) (.seq (.reg e48r12 [9] 0) .ret)))) .skip)) (.seq (.reg e48r13 [0, 1, 2, 7, 8] 0) (.seq (.seq (.reg e48r14 [0, 1, 2, 7, 8] 0) (.cond (.s 68) (.seq (.reg e48r15 [0, 1, 2, 7] 0) (.seq (.reg e48r16 [0, 1, 2] 0) (.seq (.reg e48r17 [0] 0) .ret))) .skip)) (.seq (.reg e48r18 [0, 1, 2, 7, 8] 0) (.seq (.reg e48r19 [0, 1, 7] 0) (.seq (.reg e48r20 [0] 0) .ret)))))))))))), [.slot 6], 95, 0⟩
theorem g48 : Good Tryd.prog 48 e48 := ⟨Tryd.f48, Tryd.func48, by kernel_rfl, by kernel_rfl, by kernel_rfl, by kernel_rfl⟩
/-! slices.Concat[[]byte,byte] -/
def e49r0 : EE := .out [(0, .s 0)]
def e49r1 : EE := .out [(0, .s 0), (3, .c z)]
def e49r2 : EE := .q 1 .len [.s 0] none <|
 .out [(0, .s 0), (3, .s 3), (9, .s 0), (10, .r 1), (11, .c z)]
def e49r3 : EE := .q 0 .lss [.s 11, .s 10] none <|
 .out [(0, .s 0), (3, .s 3), (9, .s 9), (10, .s 10), (11, .s 11), (12, .r 0)]
def e49r4 : EE := .q 0 (.ixs 1) [.s 9, .s 11] none <|
 .q 1 .ld [.r 0] none <|
 .out [(0, .s 0), (3, .s 3), (5, .r 1), (9, .s 9), (10, .s 10), (11, .s 11)]
def e49r5 : EE := .q 2 .len [.s 5] none <|
 .q 3 .add [.s 3, .r 2] none <|
 .out [(0, .s 0), (3, .r 3), (9, .s 9), (10, .s 10), (11, .s 11)]
def e49r6 : EE := .q 1 .lss [.s 3, .c z] none <|
 .out [(0, .s 0), (3, .s 3), (9, .s 9), (10, .s 10), (11, .s 11), (20, .r 1)]
def e49r7 : EE := .q 0 (.mki 9) [.c (.str [108, 101, 110, 32, 111, 117, 116, 32, 111, 102, 32, 114, 97, 110, 103, 101])] none <|
 .x 1 .bad [] none [] <|
 .out [(0, .s 0), (3, .s 3), (9, .s 9), (10, .s 10), (11, .s 11)]
def e49r8 : EE := .q 0 .add [.s 11, .c (.int .i64 1)] none <|
 .out [(0, .s 0), (3, .s 3), (9, .s 9), (10, .s 10), (11, .r 0)]
def e49l9 : EC := (.seq (.reg e49r3 [0, 3, 9, 10, 11] 0) (.seq (.cond (.s 12) .skip (.exit 0)) (.seq (.block 1 (.seq (.reg e49r4 [0, 3, 9, 10, 11] 0) (.seq (.reg e49r5 [0, 3, 5, 9, 10, 11] 0) (.seq (.reg e49r6 [0, 3, 9, 10, 11] 0) (.cond (.s 20) (.reg e49r7 [0, 3, 9, 10, 11] 0) .skip))))) (.reg e49r8 [0, 3, 9, 10, 11] 0))))
def e49r10 : EE := .x 1 (.call 61) [.c .nsl, .s 3] none [] <|
 .out [(0, .s 0), (6, .r 1)]
def e49r11 : EE := .q 1 .len [.s 0] none <|
 .out [(6, .s 6), (25, .s 0), (26, .r 1), (27, .c z)]
def e49r12 : EE := .q 0 .lss [.s 27, .s 26] none <|
 .out [(6, .s 6), (25, .s 25), (26, .s 26), (27, .s 27), (28, .r 0)]
def e49r13 : EE := .q 0 (.ixs 1) [.s 25, .s 27] none <|
 .q 1 .ld [.r 0] none <|
 .out [(6, .s 6), (8, .r 1), (25, .s 25), (26, .s 26), (27, .s 27)]
def e49r14 : EE := .x 2 (.app 5 1 1 [(.int .u8 0)]) [.s 6, .s 8] none [] <|
 .out [(6, .r 2), (25, .s 25), (26, .s 26), (27, .s 27)]
def e49r15 : EE := .q 0 .add [.s 27, .c (.int .i64 1)] none <|
 .out [(6, .s 6), (25, .s 25), (26, .s 26), (27, .r 0)]
def e49l16 : EC := (.seq (.reg e49r12 [6, 25, 26, 27] 0) (.seq (.cond (.s 28) .skip (.exit 2)) (.seq (.block 3 (.seq (.reg e49r13 [6, 25, 26, 27] 0) (.reg e49r14 [6, 8, 25, 26, 27] 0))) (.reg e49r15 [6, 25, 26, 27] 0))))
def e49r17 : EE := .out [(2, .s 6)]
def e49 : EFn := ⟨(.seq (.reg e49r0 [0] 0) (.seq (.reg e49r1 [0] 0) (.seq (.seq (.reg e49r2 [0, 3] 0) (.block 0 (.loop [0, 3, 9, 10, 11] e49l9))) (.seq (.reg e49r10 [0, 3] 0) (.seq (.seq (.reg e49r11 [0, 6] 0) (.block 2 (.loop [6, 25, 26, 27] e49l16))) (.seq (.reg e49r17 [6] 0) .ret)))))), [.slot 2], 36, 0⟩
theorem g49 : Good Tryd.prog 49 e49 := ⟨Tryd.f49, Tryd.func49, by kernel_rfl, by kernel_rfl, by kernel_rfl, by kernel_rfl⟩
/-! concord/sum.On -/
def e50r0 : EE := .out [(0, .s 0), (1, .s 1)]
def e50r1 : EE := .q 1 .cpl [.s 0] none <|
 .out [(0, .r 1), (1, .s 1)]
def e50r2 : EE := .q 1 .len [.s 1] none <|
 .out [(0, .s 0), (10, .s 1), (11, .r 1), (12, .c z)]
def e50r3 : EE := .q 0 .lss [.s 12, .s 11] none <|
 .out [(0, .s 0), (10, .s 10), (11, .s 11), (12, .s 12), (13, .r 0)]
def e50r4 : EE := .q 0 (.ixs 1) [.s 10, .s 12] none <|
 .q 1 .ld [.r 0] none <|
 .out [(0, .s 0), (6, .r 1), (10, .s 10), (11, .s 11), (12, .s 12)]
def e50r5 : EE := .q 2 (.conv .u32) [.s 6] none <|
 .q 3 .xor [.s 0, .r 2] none <|
 .out [(0, .r 3), (10, .s 10), (11, .s 11), (12, .s 12)]
def e50r6 : EE := .out [(0, .s 0), (10, .s 10), (11, .s 11), (12, .s 12), (20, .c z)]
def e50r7 : EE := .q 0 .lss [.s 20, .c (.int .i64 8)] none <|
 .out [(0, .s 0), (10, .s 10), (11, .s 11), (12, .s 12), (20, .s 20), (21, .r 0)]
def e50r8 : EE := .q 1 .and [.s 0, .c (.int .u32 1)] none <|
 .out [(0, .s 0), (7, .r 1), (10, .s 10), (11, .s 11), (12, .s 12), (20, .s 20)]
def e50r9 : EE := .q 1 .shr [.s 0, .c (.int .u64 1)] none <|
 .out [(0, .r 1), (7, .s 7), (10, .s 10), (11, .s 11), (12, .s 12), (20, .s 20)]
def e50r10 : EE := .q 1 .eql [.s 7, .c (.int .u32 1)] none <|
 .out [(0, .s 0), (10, .s 10), (11, .s 11), (12, .s 12), (20, .s 20), (27, .r 1)]
def e50r11 : EE := .q 1 .xor [.s 0, .c (.int .u32 3988292384)] none <|
 .out [(0, .r 1), (10, .s 10), (11, .s 11), (12, .s 12), (20, .s 20)]
def e50r12 : EE := .q 0 .add [.s 20, .c (.int .i64 1)] none <|
 .out [(0, .s 0), (10, .s 10), (11, .s 11), (12, .s 12), (20, .r 0)]
def e50l13 : EC := (.seq (.reg e50r7 [0, 10, 11, 12, 20] 0) (.seq (.cond (.s 21) .skip (.exit 2)) (.seq (.block 3 (.seq (.reg e50r8 [0, 10, 11, 12, 20] 0) (.seq (.reg e50r9 [0, 7, 10, 11, 12, 20] 0) (.seq (.reg e50r10 [0, 7, 10, 11, 12, 20] 0) (.cond (.s 27) (.reg e50r11 [0, 10, 11, 12, 20] 0) .skip))))) (.reg e50r12 [0, 10, 11, 12, 20] 0))))
def e50r14 : EE := .q 0 .add [.s 12, .c (.int .i64 1)] none <|
 .out [(0, .s 0), (10, .s 10), (11, .s 11), (12, .r 0)]
def e50l15 : EC := (.seq (.reg e50r3 [0, 10, 11, 12] 0) (.seq (.cond (.s 13) .skip (.exit 0)) (.seq (.block 1 (.seq (.reg e50r4 [0, 10, 11, 12] 0) (.seq (.reg e50r5 [0, 6, 10, 11, 12] 0) (.seq (.reg e50r6 [0, 10, 11, 12] 0) (.block 2 (.loop [0, 10, 11, 12, 20] e50l13)))))) (.reg e50r14 [0, 10, 11, 12] 0))))
def e50r16 : EE := .q 1 .cpl [.s 0] none <|
 .out [(4, .r 1)]
def e50 : EFn := ⟨(.seq (.reg e50r0 [0, 1] 0) (.seq (.reg e50r1 [0, 1] 0) (.seq (.seq (.reg e50r2 [0, 1] 0) (.block 0 (.loop [0, 10, 11, 12] e50l15))) (.seq (.reg e50r16 [0] 0) .ret)))), [.slot 4], 34, 0⟩
theorem g50 : Good Tryd.prog 50 e50 := ⟨Tryd.f50, Tryd.func50, by kernel_rfl, by kernel_rfl, by kernel_rfl, by kernel_rfl⟩
/-! concord/word.Zig -/
def e51r0 : EE := .out [(0, .s 0)]
def e51r1 : EE := .q 1 (.conv .u64) [.s 0] none <|
 .q 2 .shl [.r 1, .c (.int .u64 1)] none <|
 .q 4 .shr [.s 0, .c (.int .u64 63)] none <|
 .q 5 (.conv .u64) [.r 4] none <|
 .q 6 .xor [.r 2, .r 5] none <|
 .out [(2, .r 6)]
def e51 : EFn := ⟨(.seq (.reg e51r0 [0] 0) (.seq (.reg e51r1 [0] 0) .ret)), [.slot 2], 10, 0⟩
theorem g51 : Good Tryd.prog 51 e51 := ⟨Tryd.f51, Tryd.func51, by kernel_rfl, by kernel_rfl, by kernel_rfl, by kernel_rfl⟩
/-! internal/stringslite.Cut -/
def e52r0 : EE := .out [(0, .s 0), (1, .s 1)]
def e52r1 : EE := .x 2 (.call 62) [.s 0, .s 1] none [] <|
 .out [(0, .s 0), (1, .s 1), (7, .r 2)]
def e52r2 : EE := .q 1 .geq [.s 7, .c z] none <|
 .out [(0, .s 0), (1, .s 1), (7, .s 7), (12, .r 1)]
def e52r3 : EE := .q 2 (.slcs false true) [.s 0, .s 7] none <|
 .q 6 .lenz [.s 1] none <|
 .q 7 .add [.s 7, .r 6] none <|
 .q 8 (.slcs true false) [.s 0, .r 7] none <|
 .out [(4, .r 2), (5, .r 8), (6, .c (.bool true))]
def e52r4 : EE := .out [(4, .s 0), (5, .c zs), (6, .c (.bool false))]
def e52 : EFn := ⟨(.seq (.reg e52r0 [0, 1] 0) (.seq (.seq (.reg e52r1 [0, 1] 0) (.seq (.reg e52r2 [0, 1, 7] 0) (.cond (.s 12) (.seq (.reg e52r3 [0, 1, 7] 0) .ret) .skip))) (.seq (.reg e52r4 [0] 0) .ret))), [.slot 4, .slot 5, .slot 6], 23, 0⟩
theorem g52 : Good Tryd.prog 52 e52 := ⟨Tryd.f52, Tryd.func52, by kernel_rfl, by kernel_rfl, by kernel_rfl, by kernel_rfl⟩
/-! internal/stringslite.TrimPrefix -/
def e53r0 : EE := .out [(0, .s 0), (1, .s 1)]
def e53r1 : EE := .x 2 (.call 63) [.s 0, .s 1] none [] <|
 .out [(0, .s 0), (1, .s 1), (7, .r 2)]
def e53r2 : EE := .q 2 .lenz [.s 1] none <|
 .q 3 (.slcs true false) [.s 0, .r 2] none <|
 .out [(4, .r 3)]
def e53r3 : EE := .out [(4, .s 0)]
def e53 : EFn := ⟨(.seq (.reg e53r0 [0, 1] 0) (.seq (.seq (.reg e53r1 [0, 1] 0) (.cond (.s 7) (.seq (.reg e53r2 [0, 1] 0) .ret) .skip)) (.seq (.reg e53r3 [0] 0) .ret))), [.slot 4], 13, 0⟩
theorem g53 : Good Tryd.prog 53 e53 := ⟨Tryd.f53, Tryd.func53, by kernel_rfl, by kernel_rfl, by kernel_rfl, by kernel_rfl⟩
end Go.Ev
