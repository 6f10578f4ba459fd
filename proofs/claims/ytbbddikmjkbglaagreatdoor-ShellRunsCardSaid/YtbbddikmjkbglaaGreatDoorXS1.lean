import Derived.Test.YtbbddikmjkbglaaGreatDoorEvB
import Derived.Test.YtbbddikmjkbglaaGreatDoorProg
set_option linter.unusedVariables false
namespace Go.Ev
open Go.Fw Go.Proofs
/-! (*concord/cluster.Cluster).out -/
def e36r0 : EE := .q 1 .nl [.s 0] none <|
 .q 2 (.fld 2) [.r 1] none <|
 .q 3 .ld [.r 2] none <|
 .q 5 (.ixs 1) [.r 3, .s 1] none <|
 .q 6 .ld [.r 5] none <|
 .x 7 (.call 75) [.r 6] none [] <|
 .q 9 (.ext 0) [.r 7] none <|
 .q 10 (.ext 1) [.r 7] none <|
 .out [(0, .s 0), (4, .r 9), (5, .r 10)]
def e36r1 : EE := .q 1 .len [.s 4] none <|
 .out [(0, .s 0), (5, .s 5), (21, .s 4), (22, .r 1), (23, .c z)]
def e36r2 : EE := .q 0 .lss [.s 23, .s 22] none <|
 .out [(0, .s 0), (5, .s 5), (21, .s 21), (22, .s 22), (23, .s 23), (24, .r 0)]
def e36r3 : EE := .q 0 (.ixs 51) [.s 21, .s 23] none <|
 .q 1 (.lda 51) [.r 0] none <|
 .x 2 (.alc [z, z, z, z, z, z, z, z, z, z, zs, zs, zs, zs, z, z, z, z, z, z, z, z, z, z, z, z, z, z, z, z, zs, zs, zs, zs, z, z, z, z, z, z, z, z, (.bool false), z, z, z, z, z, z, z, zs] 172) [] none [] <|
 .x 3 (.st 51) [.r 2, .r 1] none [] <|
 .out [(0, .s 0), (5, .s 5), (7, .r 2), (21, .s 21), (22, .s 22), (23, .s 23)]
def e36r4 : EE := .q 0 (.fld 2) [.s 7] none <|
 .q 1 .ld [.r 0] none <|
 .q 3 .nl [.s 0] none <|
 .q 4 (.fld 0) [.r 3] none <|
 .q 5 .ld [.r 4] none <|
 .q 6 .lss [.r 1, .r 5] none <|
 .q 8 .mv [.s 0] (some (.r 6, true)) <|
 .q 9 .nl [.r 8] (some (.r 6, true)) <|
 .q 10 (.fld 5) [.r 9] (some (.r 6, true)) <|
 .q 11 .ld [.r 10] (some (.r 6, true)) <|
 .q 12 .len [.r 11] (some (.r 6, true)) <|
 .q 13 .lss [.r 12, .c (.int .i64 4000)] (some (.r 6, true)) <|
 .q 14 .pick [.r 6, .r 13, .c (.bool false)] none <|
 .out [(0, .s 0), (5, .s 5), (7, .s 7), (21, .s 21), (22, .s 22), (23, .s 23), (41, .r 14)]
def e36r5 : EE := .q 2 .nl [.s 0] none <|
 .q 3 (.fld 5) [.r 2] none <|
 .q 4 .ld [.r 3] none <|
 .q 5 (.lda 51) [.s 7] none <|
 .x 6 (.bsl 172 1 [z, z, z, z, z, z, z, z, z, z, zs, zs, zs, zs, z, z, z, z, z, z, z, z, z, z, z, z, z, z, z, z, zs, zs, zs, zs, z, z, z, z, z, z, z, z, (.bool false), z, z, z, z, z, z, z, zs] [(0, 51)]) [.r 5] none [⟨4, .ld, [.r 3], none⟩] <|
 .x 7 (.app 172 51 480 [z, z, z, z, z, z, z, z, z, z, zs, zs, zs, zs, z, z, z, z, z, z, z, z, z, z, z, z, z, z, z, z, zs, zs, zs, zs, z, z, z, z, z, z, z, z, (.bool false), z, z, z, z, z, z, z, zs]) [.r 4, .r 6] none [] <|
 .q 8 .nl [.s 0] none <|
 .q 9 (.fld 5) [.r 8] none <|
 .x 10 (.st 1) [.r 9, .r 7] none [] <|
 .out [(0, .s 0), (5, .s 5), (21, .s 21), (22, .s 22), (23, .s 23)]
def e36r6 : EE := .q 0 .add [.s 23, .c (.int .i64 1)] none <|
 .out [(0, .s 0), (5, .s 5), (21, .s 21), (22, .s 22), (23, .r 0)]
def e36l7 : EC := (.seq (.reg e36r2 [0, 5, 21, 22, 23] 0) (.seq (.cond (.s 24) .skip (.exit 0)) (.seq (.block 1 (.seq (.reg e36r3 [0, 5, 21, 22, 23] 0) (.seq (.reg e36r4 [0, 5, 7, 21, 22, 23] 0) (.cond (.s 41) (.reg e36r5 [0, 5, 7, 21, 22, 23] 0) .skip)))) (.reg e36r6 [0, 5, 21, 22, 23] 0))))
def e36r8 : EE := .q 1 .len [.s 5] none <|
 .out [(0, .s 0), (53, .s 5), (54, .r 1), (55, .c z)]
def e36r9 : EE := .q 0 .lss [.s 55, .s 54] none <|
 .out [(0, .s 0), (53, .s 53), (54, .s 54), (55, .s 55), (56, .r 0)]
def e36r10 : EE := .q 0 (.ixs 7) [.s 53, .s 55] none <|
 .q 1 (.lda 7) [.r 0] none <|
 .x 2 (.alc [z, z, z, (.bool false), zs, z, .nsl] 174) [] none [] <|
 .x 3 (.st 7) [.r 2, .r 1] none [] <|
 .out [(0, .s 0), (9, .r 2), (53, .s 53), (54, .s 54), (55, .s 55)]
def e36r11 : EE := .q 0 (.fld 0) [.s 9] none <|
 .q 1 .ld [.r 0] none <|
 .x 2 (.call 76) [.r 1] none [] <|
 .q 4 .mv [.s 0] (some (.r 2, true)) <|
 .q 5 .nl [.r 4] (some (.r 2, true)) <|
 .q 6 (.fld 3) [.r 5] (some (.r 2, true)) <|
 .q 7 .ld [.r 6] (some (.r 2, true)) <|
 .q 8 (.fld 0) [.s 9] (some (.r 2, true)) <|
 .q 9 .ld [.r 8] (some (.r 2, true)) <|
 .q 10 .sub [.r 9, .c (.int .i64 1)] (some (.r 2, true)) <|
 .q 11 (.ixs 1) [.r 7, .r 10] (some (.r 2, true)) <|
 .q 12 .ld [.r 11] (some (.r 2, true)) <|
 .q 13 (.lda 7) [.s 9] (some (.r 2, true)) <|
 .x 14 (.call 77) [.r 12, .r 13] (some (.r 2, true)) [] <|
 .q 15 .pick [.r 2, .r 14, .c (.bool false)] none <|
 .out [(0, .s 0), (9, .s 9), (53, .s 53), (54, .s 54), (55, .s 55), (74, .r 15)]
def e36r12 : EE := .q 0 (.fld 2) [.s 9] none <|
 .q 1 (.fld 4) [.r 0] none <|
 .q 2 .ld [.r 1] none <|
 .x 3 (.call 47) [.r 2] none [] <|
 .q 4 (.fld 2) [.s 9] none <|
 .q 5 (.fld 4) [.r 4] none <|
 .x 6 (.st 1) [.r 5, .r 3] none [] <|
 .out [(0, .s 0), (9, .s 9), (53, .s 53), (54, .s 54), (55, .s 55)]
def e36r13 : EE := .q 2 .nl [.s 0] none <|
 .q 3 (.fld 6) [.r 2] none <|
 .q 4 .ld [.r 3] none <|
 .q 5 (.fld 0) [.s 9] none <|
 .q 6 .ld [.r 5] none <|
 .q 8 .nl [.s 0] none <|
 .q 9 (.fld 4) [.r 8] none <|
 .q 10 .ld [.r 9] none <|
 .q 11 (.fld 0) [.s 9] none <|
 .q 12 .ld [.r 11] none <|
 .q 13 .sub [.r 12, .c (.int .i64 1)] none <|
 .q 14 (.ixs 7) [.r 10, .r 13] none <|
 .q 15 (.lda 7) [.r 14] none <|
 .q 16 (.fld 2) [.s 9] none <|
 .q 17 (.lda 5) [.r 16] none <|
 .q 18 (.bld [z, z, z, z, z, zs, zs, zs, zs, z, (.bool false), zs, z, .nsl] [(0, 1), (1, 1), (2, 7), (9, 5)]) [.c (.int .i64 2), .r 6, .r 15, .r 17] none <|
 .x 19 (.bsl 75 1 [z, z, z, z, z, zs, zs, zs, zs, z, (.bool false), zs, z, .nsl] [(0, 14)]) [.r 18] none [⟨4, .ld, [.r 3], none⟩] <|
 .x 20 (.app 75 14 168 [z, z, z, z, z, zs, zs, zs, zs, z, (.bool false), zs, z, .nsl]) [.r 4, .r 19] none [] <|
 .q 21 .nl [.s 0] none <|
 .q 22 (.fld 6) [.r 21] none <|
 .x 23 (.st 1) [.r 22, .r 20] none [] <|
 .out [(0, .s 0), (53, .s 53), (54, .s 54), (55, .s 55)]
def e36r14 : EE := .q 0 .add [.s 55, .c (.int .i64 1)] none <|
 .out [(0, .s 0), (53, .s 53), (54, .s 54), (55, .r 0)]
def e36l15 : EC := (.seq (.reg e36r9 [0, 53, 54, 55] 0) (.seq (.cond (.s 56) .skip (.exit 2)) (.seq (.block 3 (.seq (.reg e36r10 [0, 53, 54, 55] 0) (.seq (.reg e36r11 [0, 9, 53, 54, 55] 0) (.cond (.s 74) (.seq (.reg e36r12 [0, 9, 53, 54, 55] 0) (.reg e36r13 [0, 9, 53, 54, 55] 0)) .skip)))) (.reg e36r14 [0, 53, 54, 55] 0))))
def e36 : EFn := ⟨(.seq (.reg e36r0 [0, 1] 0) (.seq (.seq (.reg e36r1 [0, 4, 5] 0) (.block 0 (.loop [0, 5, 21, 22, 23] e36l7))) (.seq (.reg e36r8 [0, 5] 0) (.block 2 (.loop [0, 53, 54, 55] e36l15))))), [], 105, 0⟩
theorem g36 : Good Tryz.prog 36 e36 := ⟨Tryz.f36, Tryz.func36, by kernel_rfl, by kernel_rfl, by kernel_rfl, by kernel_rfl⟩
/-! (*concord/cluster.Cluster).Node -/
def e41r0 : EE := .out [(0, .s 0), (1, .s 1)]
def e41r1 : EE := .q 1 .lss [.s 1, .c z] none <|
 .q 3 .mv [.s 1] (some (.r 1, false)) <|
 .q 4 .mv [.s 0] (some (.r 1, false)) <|
 .q 5 .nl [.r 4] (some (.r 1, false)) <|
 .q 6 (.fld 0) [.r 5] (some (.r 1, false)) <|
 .q 7 .ld [.r 6] (some (.r 1, false)) <|
 .q 8 .geq [.r 3, .r 7] (some (.r 1, false)) <|
 .q 9 .pick [.r 1, .c (.bool true), .r 8] none <|
 .out [(0, .s 0), (1, .s 1), (14, .r 9)]
def e41r2 : EE := .out [(4, .c .nptr)]
def e41r3 : EE := .q 1 .nl [.s 0] none <|
 .q 2 (.fld 2) [.r 1] none <|
 .q 3 .ld [.r 2] none <|
 .q 5 (.ixs 1) [.r 3, .s 1] none <|
 .q 6 .ld [.r 5] none <|
 .out [(4, .r 6)]
def e41 : EFn := ⟨(.seq (.reg e41r0 [0, 1] 0) (.seq (.seq (.reg e41r1 [0, 1] 0) (.cond (.s 14) (.seq (.reg e41r2 [] 0) .ret) .skip)) (.seq (.reg e41r3 [0, 1] 0) .ret))), [.slot 4], 22, 0⟩
theorem g41 : Good Tryz.prog 41 e41 := ⟨Tryz.f41, Tryz.func41, by kernel_rfl, by kernel_rfl, by kernel_rfl, by kernel_rfl⟩
/-! (*concord/node.Node).Tick -/
def e42r0 : EE := .q 1 .nl [.s 0] none <|
 .q 2 (.fld 74) [.r 1] none <|
 .q 3 .ld [.r 2] none <|
 .out [(0, .s 0), (6, .r 3)]
def e42r1 : EE := .q 1 .nl [.s 0] none <|
 .q 2 (.fld 4) [.r 1] none <|
 .q 3 .ld [.r 2] none <|
 .x 4 (.call 83) [.r 3] none [] <|
 .out [(0, .s 0)]
def e42r2 : EE := .q 1 .nl [.s 0] none <|
 .q 2 (.fld 70) [.r 1] none <|
 .q 3 .ld [.r 2] none <|
 .q 4 .add [.r 3, .c (.int .i64 1)] none <|
 .q 5 .nl [.s 0] none <|
 .q 6 (.fld 70) [.r 5] none <|
 .x 7 (.st 1) [.r 6, .r 4] none [] <|
 .out [(0, .s 0)]
def e42r3 : EE := .out [(0, .s 0), (2, .c z)]
def e42r4 : EE := .q 2 .nl [.s 0] none <|
 .q 3 (.fld 0) [.r 2] none <|
 .q 4 .ld [.r 3] none <|
 .q 5 .lss [.s 2, .r 4] none <|
 .q 7 .mv [.s 0] (some (.r 5, true)) <|
 .q 8 .nl [.r 7] (some (.r 5, true)) <|
 .q 9 (.fld 70) [.r 8] (some (.r 5, true)) <|
 .q 10 .ld [.r 9] (some (.r 5, true)) <|
 .q 11 .rem [.r 10, .c (.int .i64 8)] (some (.r 5, true)) <|
 .q 12 .eql [.r 11, .c z] (some (.r 5, true)) <|
 .q 13 .pick [.r 5, .r 12, .c (.bool false)] none <|
 .out [(0, .s 0), (2, .s 2), (32, .r 13)]
def e42r5 : EE := .q 2 .nl [.s 0] none <|
 .q 3 (.fld 1) [.r 2] none <|
 .q 4 .ld [.r 3] none <|
 .q 5 .neq [.s 2, .r 4] none <|
 .out [(0, .s 0), (2, .s 2), (40, .r 5)]
def e42r6 : EE := .q 2 .nl [.s 0] none <|
 .q 3 (.fld 72) [.r 2] none <|
 .q 4 .ld [.r 3] none <|
 .q 6 .nl [.s 0] none <|
 .q 7 (.fld 1) [.r 6] none <|
 .q 8 .ld [.r 7] none <|
 .q 11 .nl [.s 0] none <|
 .q 12 (.fld 62) [.r 11] none <|
 .q 13 (.lda 7) [.r 12] none <|
 .q 14 (.bld [z, z, z, z, z, z, z, z, z, z, zs, zs, zs, zs, z, z, z, z, z, z, z, z, z, z, z, z, z, z, z, z, zs, zs, zs, zs, z, z, z, z, z, z, z, z, (.bool false), z, z, z, z, z, z, z, zs] [(0, 1), (1, 1), (2, 1), (43, 7)]) [.c (.int .i64 9), .r 8, .s 2, .r 13] none <|
 .q 16 .nl [.s 0] none <|
 .q 17 (.fld 1) [.r 16] none <|
 .q 18 .ld [.r 17] none <|
 .q 21 .nl [.s 0] none <|
 .q 22 (.fld 55) [.r 21] none <|
 .q 23 (.lda 7) [.r 22] none <|
 .q 24 (.bld [z, z, z, z, z, z, z, z, z, z, zs, zs, zs, zs, z, z, z, z, z, z, z, z, z, z, z, z, z, z, z, z, zs, zs, zs, zs, z, z, z, z, z, z, z, z, (.bool false), z, z, z, z, z, z, z, zs] [(0, 1), (1, 1), (2, 1), (43, 7)]) [.c (.int .i64 11), .r 18, .s 2, .r 23] none <|
 .x 25 (.bsl 172 2 [z, z, z, z, z, z, z, z, z, z, zs, zs, zs, zs, z, z, z, z, z, z, z, z, z, z, z, z, z, z, z, z, zs, zs, zs, zs, z, z, z, z, z, z, z, z, (.bool false), z, z, z, z, z, z, z, zs, z, z, z, z, z, z, z, z, z, z, zs, zs, zs, zs, z, z, z, z, z, z, z, z, z, z, z, z, z, z, z, z, zs, zs, zs, zs, z, z, z, z, z, z, z, z, (.bool false), z, z, z, z, z, z, z, zs] [(0, 51), (51, 51)]) [.r 14, .r 24] none [⟨4, .ld, [.r 3], none⟩] <|
 .x 26 (.app 172 51 480 [z, z, z, z, z, z, z, z, z, z, zs, zs, zs, zs, z, z, z, z, z, z, z, z, z, z, z, z, z, z, z, z, zs, zs, zs, zs, z, z, z, z, z, z, z, z, (.bool false), z, z, z, z, z, z, z, zs]) [.r 4, .r 25] none [] <|
 .q 27 .nl [.s 0] none <|
 .q 28 (.fld 72) [.r 27] none <|
 .x 29 (.st 1) [.r 28, .r 26] none [] <|
 .out [(0, .s 0), (2, .s 2)]
def e42r7 : EE := .q 1 .add [.s 2, .c (.int .i64 1)] none <|
 .out [(0, .s 0), (2, .r 1)]
def e42l8 : EC := (.seq (.seq (.reg e42r4 [0, 2] 0) (.cond (.s 32) .skip (.exit 0))) (.seq (.block 1 (.seq (.reg e42r5 [0, 2] 0) (.cond (.s 40) (.reg e42r6 [0, 2] 0) .skip))) (.reg e42r7 [0, 2] 0)))
def e42r9 : EE := .x 1 (.call 74) [.s 0] none [] <|
 .out []
def e42 : EFn := ⟨(.seq (.seq (.reg e42r0 [0] 0) (.cond (.s 6) .ret .skip)) (.seq (.reg e42r1 [0] 0) (.seq (.reg e42r2 [0] 0) (.seq (.seq (.reg e42r3 [0] 0) (.block 0 (.loop [0, 2] e42l8))) (.reg e42r9 [0] 0))))), [], 72, 0⟩
theorem g42 : Good Tryz.prog 42 e42 := ⟨Tryz.f42, Tryz.func42, by kernel_rfl, by kernel_rfl, by kernel_rfl, by kernel_rfl⟩
/-! (*strings.Builder).copyCheck -/
def e45r0 : EE := .q 1 .nl [.s 0] none <|
 .q 2 (.fld 0) [.r 1] none <|
 .q 3 .ld [.r 2] none <|
 .q 4 (.eqp false) [.r 3, .c .nptr] none <|
 .out [(0, .s 0), (6, .r 4)]
def e45r1 : EE := .q 2 .p2u [.s 0] none <|
 .q 3 .mv [.r 2] none <|
 .q 4 (.u2p 63 2) [.r 3] none <|
 .q 5 .nl [.s 0] none <|
 .q 6 (.fld 0) [.r 5] none <|
 .x 7 (.st 1) [.r 6, .r 4] none [] <|
 .out []
def e45r2 : EE := .q 1 .nl [.s 0] none <|
 .q 2 (.fld 0) [.r 1] none <|
 .q 3 .ld [.r 2] none <|
 .q 5 (.eqq true) [.r 3, .s 0] none <|
 .out [(19, .r 5)]
def e45r3 : EE := .fail
def e45 : EFn := ⟨(.seq (.reg e45r0 [0] 0) (.cond (.s 6) (.reg e45r1 [0] 0) (.seq (.reg e45r2 [0] 0) (.cond (.s 19) (.reg e45r3 [] 0) .skip)))), [], 20, 0⟩
theorem g45 : Good Tryz.prog 45 e45 := ⟨Tryz.f45, Tryz.func45, by kernel_rfl, by kernel_rfl, by kernel_rfl, by kernel_rfl⟩
/-! slices.Clone[[]concord/api.Event,concord/api.Event] -/
def e46r0 : EE := .out [(0, .s 0)]
def e46r1 : EE := .q 1 (.eqs false) [.s 0, .c .nsl] none <|
 .out [(0, .s 0), (4, .r 1)]
def e46r2 : EE := .out [(2, .c .nsl)]
def e46r3 : EE := .x 0 (.bsl 75 0 [] []) [] none [] <|
 .x 2 (.app 75 14 168 [z, z, z, z, z, zs, zs, zs, zs, z, (.bool false), zs, z, .nsl]) [.r 0, .s 0] none [] <|
 .out [(2, .r 2)]
def e46 : EFn := ⟨(.seq (.reg e46r0 [0] 0) (.seq (.seq (.reg e46r1 [0] 0) (.cond (.s 4) (.seq (.reg e46r2 [] 0) .ret) .skip)) (.seq (.reg e46r3 [0] 0) .ret))), [.slot 2], 8, 0⟩
theorem g46 : Good Tryz.prog 46 e46 := ⟨Tryz.f46, Tryz.func46, by kernel_rfl, by kernel_rfl, by kernel_rfl, by kernel_rfl⟩
/-! slices.Clone[[]concord/api.Pair,concord/api.Pair] -/
def e47r0 : EE := .out [(0, .s 0)]
def e47r1 : EE := .q 1 (.eqs false) [.s 0, .c .nsl] none <|
 .out [(0, .s 0), (4, .r 1)]
def e47r2 : EE := .out [(2, .c .nsl)]
def e47r3 : EE := .x 0 (.bsl 111 0 [] []) [] none [] <|
 .x 2 (.app 111 3 40 [zs, zs, z]) [.r 0, .s 0] none [] <|
 .out [(2, .r 2)]
def e47 : EFn := ⟨(.seq (.reg e47r0 [0] 0) (.seq (.seq (.reg e47r1 [0] 0) (.cond (.s 4) (.seq (.reg e47r2 [] 0) .ret) .skip)) (.seq (.reg e47r3 [0] 0) .ret))), [.slot 2], 8, 0⟩
theorem g47 : Good Tryz.prog 47 e47 := ⟨Tryz.f47, Tryz.func47, by kernel_rfl, by kernel_rfl, by kernel_rfl, by kernel_rfl⟩
/-! concord/audit.up -/
def e48r0 : EE := .out [(0, .s 0)]
def e48r1 : EE := .out [(0, .s 0), (3, .c .nsl)]
def e48r2 : EE := .x 1 (.call 50) [.s 0] none [] <|
 .out [(0, .s 0), (3, .s 3), (7, .r 1), (8, .c z)]
def e48r3 : EE := .q 0 .lss [.s 8, .s 7] none <|
 .out [(0, .s 0), (3, .s 3), (7, .s 7), (8, .s 8), (9, .r 0)]
def e48r4 : EE := .out [(0, .s 0), (3, .s 3), (4, .s 8), (7, .s 7), (8, .s 8)]
def e48r5 : EE := .x 2 (.call 41) [.s 0, .s 4] none [] <|
 .out [(0, .s 0), (3, .s 3), (5, .r 2), (7, .s 7), (8, .s 8)]
def e48r6 : EE := .q 1 (.eqp true) [.s 5, .c .nptr] none <|
 .out [(0, .s 0), (3, .s 3), (5, .s 5), (7, .s 7), (8, .s 8), (15, .r 1)]
def e48r7 : EE := .x 2 (.bsl 99 1 [.nptr] [(0, 1)]) [.s 5] none [] <|
 .x 3 (.app 99 1 8 [.nptr]) [.s 3, .r 2] none [] <|
 .out [(0, .s 0), (3, .r 3), (7, .s 7), (8, .s 8)]
def e48r8 : EE := .q 0 .add [.s 8, .c (.int .i64 1)] none <|
 .out [(0, .s 0), (3, .s 3), (7, .s 7), (8, .r 0)]
def e48l9 : EC := (.seq (.reg e48r3 [0, 3, 7, 8] 0) (.seq (.cond (.s 9) .skip (.exit 0)) (.seq (.block 1 (.seq (.reg e48r4 [0, 3, 7, 8] 0) (.seq (.reg e48r5 [0, 3, 4, 7, 8] 0) (.seq (.reg e48r6 [0, 3, 5, 7, 8] 0) (.cond (.s 15) (.reg e48r7 [0, 3, 5, 7, 8] 0) .skip))))) (.reg e48r8 [0, 3, 7, 8] 0))))
def e48r10 : EE := .out [(2, .s 3)]
def e48 : EFn := ⟨(.seq (.reg e48r0 [0] 0) (.seq (.reg e48r1 [0] 0) (.seq (.seq (.reg e48r2 [0, 3] 0) (.block 0 (.loop [0, 3, 7, 8] e48l9))) (.seq (.reg e48r10 [3] 0) .ret)))), [.slot 2], 22, 0⟩
theorem g48 : Good Tryz.prog 48 e48 := ⟨Tryz.f48, Tryz.func48, by kernel_rfl, by kernel_rfl, by kernel_rfl, by kernel_rfl⟩
/-! concord/audit.committed -/
def e49r0 : EE := .out [(0, .s 0), (1, .s 1)]
def e49r1 : EE := .out [(0, .s 0), (1, .s 1), (7, .c .nsl)]
def e49r2 : EE := .x 0 .mkm [] none [] <|
 .out [(0, .s 0), (1, .s 1), (7, .s 7), (8, .r 0)]
def e49r3 : EE := .x 0 .mkm [] none [] <|
 .out [(0, .s 0), (1, .s 1), (7, .s 7), (8, .s 8), (9, .r 0)]
def e49r4 : EE := .q 1 .len [.s 0] none <|
 .out [(1, .s 1), (7, .s 7), (8, .s 8), (9, .s 9), (22, .s 0), (23, .r 1), (24, .c z)]
def e49r5 : EE := .q 0 .lss [.s 24, .s 23] none <|
 .out [(1, .s 1), (7, .s 7), (8, .s 8), (9, .s 9), (22, .s 22), (23, .s 23), (24, .s 24), (25, .r 0)]
def e49r6 : EE := .q 0 (.ixs 1) [.s 22, .s 24] none <|
 .q 1 .ld [.r 0] none <|
 .out [(1, .s 1), (7, .s 7), (8, .s 8), (9, .s 9), (11, .r 1), (22, .s 22), (23, .s 23), (24, .s 24)]
def e49r7 : EE := .x 1 (.call 86) [.s 11] none [] <|
 .x 2 (.alc [z, z, z, z, z, z, z] 123) [] none [] <|
 .x 3 (.st 7) [.r 2, .r 1] none [] <|
 .out [(1, .s 1), (7, .s 7), (8, .s 8), (9, .s 9), (11, .s 11), (12, .r 2), (22, .s 22), (23, .s 23), (24, .s 24)]
def e49r8 : EE := .out [(1, .s 1), (7, .s 7), (8, .s 8), (9, .s 9), (11, .s 11), (12, .s 12), (22, .s 22), (23, .s 23), (24, .s 24), (30, .s 1), (31, .c z)]
def e49r9 : EE := .q 0 .lss [.s 31, .s 30] none <|
 .out [(1, .s 1), (7, .s 7), (8, .s 8), (9, .s 9), (11, .s 11), (12, .s 12), (22, .s 22), (23, .s 23), (24, .s 24), (30, .s 30), (31, .s 31), (32, .r 0)]
def e49r10 : EE := .out [(1, .s 1), (7, .s 7), (8, .s 8), (9, .s 9), (11, .s 11), (12, .s 12), (13, .s 31), (22, .s 22), (23, .s 23), (24, .s 24), (30, .s 30), (31, .s 31)]
def e49r11 : EE := .x 1 (.call 87) [.s 11] none [] <|
 .q 3 (.idx 7 1) [.r 1, .s 13] none <|
 .q 4 .add [.r 3, .c (.int .i64 1)] none <|
 .out [(1, .s 1), (7, .s 7), (8, .s 8), (9, .s 9), (11, .s 11), (12, .s 12), (13, .s 13), (14, .r 4), (22, .s 22), (23, .s 23), (24, .s 24), (30, .s 30), (31, .s 31)]
def e49r12 : EE := .q 2 (.ixa 7 1) [.s 12, .s 13] none <|
 .q 3 .ld [.r 2] none <|
 .q 4 .leq [.s 14, .r 3] none <|
 .out [(1, .s 1), (7, .s 7), (8, .s 8), (9, .s 9), (11, .s 11), (12, .s 12), (13, .s 13), (14, .s 14), (22, .s 22), (23, .s 23), (24, .s 24), (30, .s 30), (31, .s 31), (43, .r 4)]
def e49r13 : EE := .q 2 (.bld [z, z] [(0, 1), (1, 1)]) [.s 13, .s 14] none <|
 .x 3 (.alc [z, z] 119) [] none [] <|
 .x 4 (.st 2) [.r 3, .r 2] none [] <|
 .out [(1, .s 1), (7, .s 7), (8, .s 8), (9, .s 9), (11, .s 11), (12, .s 12), (13, .s 13), (14, .s 14), (15, .r 3), (22, .s 22), (23, .s 23), (24, .s 24), (30, .s 30), (31, .s 31)]
def e49r14 : EE := .q 1 (.lda 2) [.s 15] none <|
 .x 2 (.call 88) [.s 11, .r 1] none [] <|
 .q 4 (.ext 0) [.r 2] none <|
 .q 5 (.ext 1) [.r 2] none <|
 .x 6 (.alc [z, z, z, z, z, z, z, z, zs, zs, zs, zs, z, z, z, z, z, z, z, z, (.bool false)] 127) [] none [] <|
 .x 7 (.st 21) [.r 6, .r 4] none [] <|
 .out [(1, .s 1), (7, .s 7), (8, .s 8), (9, .s 9), (11, .s 11), (12, .s 12), (13, .s 13), (14, .s 14), (15, .s 15), (16, .r 6), (22, .s 22), (23, .s 23), (24, .s 24), (30, .s 30), (31, .s 31)]
def e49r15 : EE := .q 0 (.fld 0) [.s 16] none <|
 .q 1 .ld [.r 0] none <|
 .q 2 .neq [.r 1, .c (.int .i64 3)] none <|
 .out [(1, .s 1), (7, .s 7), (8, .s 8), (9, .s 9), (11, .s 11), (12, .s 12), (13, .s 13), (14, .s 14), (15, .s 15), (16, .s 16), (22, .s 22), (23, .s 23), (24, .s 24), (30, .s 30), (31, .s 31), (57, .r 2)]
def e49r16 : EE := .q 1 (.lda 2) [.s 15] none <|
 .q 2 (.lkp true [(.i .i64), (.i .i64)] (.agg [z, z, z, z, z, z, z, z, zs, zs, zs, zs, z, z, z, z, z, z, z, z, (.bool false)]) true) [.s 8, .r 1] none <|
 .q 4 (.ext 0) [.r 2] none <|
 .q 5 (.ext 1) [.r 2] none <|
 .x 6 (.alc [z, z, z, z, z, z, z, z, zs, zs, zs, zs, z, z, z, z, z, z, z, z, (.bool false)] 127) [] none [] <|
 .x 7 (.st 21) [.r 6, .r 4] none [] <|
 .out [(1, .s 1), (7, .s 7), (8, .s 8), (9, .s 9), (11, .s 11), (12, .s 12), (13, .s 13), (14, .s 14), (15, .s 15), (16, .s 16), (18, .r 6), (19, .r 5), (22, .s 22), (23, .s 23), (24, .s 24), (30, .s 30), (31, .s 31)]
def e49r17 : EE := .q 1 .not [.s 19] none <|
 .out [(1, .s 1), (7, .s 7), (8, .s 8), (9, .s 9), (11, .s 11), (12, .s 12), (13, .s 13), (14, .s 14), (15, .s 15), (16, .s 16), (18, .s 18), (22, .s 22), (23, .s 23), (24, .s 24), (30, .s 30), (31, .s 31), (65, .r 1)]
def e49r18 : EE := .q 1 (.lda 2) [.s 15] none <|
 .q 3 (.lda 2) [.s 15] none <|
 .q 6 (.lda 21) [.s 16] none <|
 .x 4 (.bsl 119 1 [z, z] [(0, 2)]) [.r 3] none [⟨1, (.lda 2), [.s 15], none⟩, ⟨6, (.lda 21), [.s 16], none⟩] <|
 .x 5 (.app 119 2 16 [z, z]) [.s 7, .r 4] none [⟨1, (.lda 2), [.s 15], none⟩, ⟨6, (.lda 21), [.s 16], none⟩] <|
 .x 8 (.mup true [(.i .i64), (.i .i64)]) [.s 8, .r 1, .r 6] none [] <|
 .out [(1, .s 1), (7, .r 5), (8, .s 8), (9, .s 9), (11, .s 11), (12, .s 12), (13, .s 13), (14, .s 14), (22, .s 22), (23, .s 23), (24, .s 24), (30, .s 30), (31, .s 31)]
def e49r19 : EE := .q 0 (.fld 5) [.s 18] none <|
 .q 1 (.lda 7) [.r 0] none <|
 .q 2 (.fld 5) [.s 16] none <|
 .q 3 (.lda 7) [.r 2] none <|
 .q 4 (.eqc true [(.i .i64), (.i .i64), (.i .i64), .s, .s, .s, .s]) [.r 1, .r 3] none <|
 .q 6 (.fld 12) [.s 18] (some (.r 4, false)) <|
 .q 7 (.lda 8) [.r 6] (some (.r 4, false)) <|
 .q 8 (.fld 12) [.s 16] (some (.r 4, false)) <|
 .q 9 (.lda 8) [.r 8] (some (.r 4, false)) <|
 .q 10 (.eqc true [(.i .i64), (.i .i64), (.i .i64), (.i .i64), (.i .i64), (.i .i64), (.i .i64), (.i .i64)]) [.r 7, .r 9] (some (.r 4, false)) <|
 .q 11 .pick [.r 4, .c (.bool true), .r 10] none <|
 .out [(1, .s 1), (7, .s 7), (8, .s 8), (9, .s 9), (11, .s 11), (12, .s 12), (13, .s 13), (14, .s 14), (15, .s 15), (22, .s 22), (23, .s 23), (24, .s 24), (30, .s 30), (31, .s 31), (84, .r 11)]
def e49r20 : EE := .q 1 (.lda 2) [.s 15] none <|
 .q 2 (.bld [] []) [] none <|
 .x 3 (.mup true [(.i .i64), (.i .i64)]) [.s 9, .r 1, .r 2] none [] <|
 .out [(1, .s 1), (7, .s 7), (8, .s 8), (9, .s 9), (11, .s 11), (12, .s 12), (13, .s 13), (14, .s 14), (22, .s 22), (23, .s 23), (24, .s 24), (30, .s 30), (31, .s 31)]
def e49r21 : EE := .q 1 .add [.s 14, .c (.int .i64 1)] none <|
 .out [(1, .s 1), (7, .s 7), (8, .s 8), (9, .s 9), (11, .s 11), (12, .s 12), (13, .s 13), (14, .r 1), (22, .s 22), (23, .s 23), (24, .s 24), (30, .s 30), (31, .s 31)]
def e49l22 : EC := (.seq (.seq (.reg e49r12 [1, 7, 8, 9, 11, 12, 13, 14, 22, 23, 24, 30, 31] 0) (.cond (.s 43) .skip (.exit 4))) (.seq (.block 5 (.seq (.reg e49r13 [1, 7, 8, 9, 11, 12, 13, 14, 22, 23, 24, 30, 31] 0) (.seq (.reg e49r14 [1, 7, 8, 9, 11, 12, 13, 14, 15, 22, 23, 24, 30, 31] 0) (.seq (.seq (.reg e49r15 [1, 7, 8, 9, 11, 12, 13, 14, 15, 16, 22, 23, 24, 30, 31] 0) (.cond (.s 57) (.exit 5) .skip)) (.seq (.reg e49r16 [1, 7, 8, 9, 11, 12, 13, 14, 15, 16, 22, 23, 24, 30, 31] 0) (.seq (.reg e49r17 [1, 7, 8, 9, 11, 12, 13, 14, 15, 16, 18, 19, 22, 23, 24, 30, 31] 0) (.cond (.s 65) (.reg e49r18 [1, 7, 8, 9, 11, 12, 13, 14, 15, 16, 22, 23, 24, 30, 31] 0) (.seq (.reg e49r19 [1, 7, 8, 9, 11, 12, 13, 14, 15, 16, 18, 22, 23, 24, 30, 31] 0) (.cond (.s 84) (.reg e49r20 [1, 7, 8, 9, 11, 12, 13, 14, 15, 22, 23, 24, 30, 31] 0) .skip))))))))) (.reg e49r21 [1, 7, 8, 9, 11, 12, 13, 14, 22, 23, 24, 30, 31] 0)))
def e49r23 : EE := .q 0 .add [.s 31, .c (.int .i64 1)] none <|
 .out [(1, .s 1), (7, .s 7), (8, .s 8), (9, .s 9), (11, .s 11), (12, .s 12), (22, .s 22), (23, .s 23), (24, .s 24), (30, .s 30), (31, .r 0)]
def e49l24 : EC := (.seq (.reg e49r9 [1, 7, 8, 9, 11, 12, 22, 23, 24, 30, 31] 0) (.seq (.cond (.s 32) .skip (.exit 2)) (.seq (.block 3 (.seq (.reg e49r10 [1, 7, 8, 9, 11, 12, 22, 23, 24, 30, 31] 0) (.seq (.reg e49r11 [1, 7, 8, 9, 11, 12, 13, 22, 23, 24, 30, 31] 0) (.block 4 (.loop [1, 7, 8, 9, 11, 12, 13, 14, 22, 23, 24, 30, 31] e49l22))))) (.reg e49r23 [1, 7, 8, 9, 11, 12, 22, 23, 24, 30, 31] 0))))
def e49r25 : EE := .q 0 .add [.s 24, .c (.int .i64 1)] none <|
 .out [(1, .s 1), (7, .s 7), (8, .s 8), (9, .s 9), (22, .s 22), (23, .s 23), (24, .r 0)]
def e49l26 : EC := (.seq (.reg e49r5 [1, 7, 8, 9, 22, 23, 24] 0) (.seq (.cond (.s 25) .skip (.exit 0)) (.seq (.block 1 (.seq (.reg e49r6 [1, 7, 8, 9, 22, 23, 24] 0) (.seq (.reg e49r7 [1, 7, 8, 9, 11, 22, 23, 24] 0) (.seq (.reg e49r8 [1, 7, 8, 9, 11, 12, 22, 23, 24] 0) (.block 2 (.loop [1, 7, 8, 9, 11, 12, 22, 23, 24, 30, 31] e49l24)))))) (.reg e49r25 [1, 7, 8, 9, 22, 23, 24] 0))))
def e49r27 : EE := .q 3 .lenm [.s 9] none <|
 .out [(4, .s 7), (5, .s 8), (6, .r 3)]
def e49 : EFn := ⟨(.seq (.reg e49r0 [0, 1] 0) (.seq (.reg e49r1 [0, 1] 0) (.seq (.reg e49r2 [0, 1, 7] 0) (.seq (.reg e49r3 [0, 1, 7, 8] 0) (.seq (.seq (.reg e49r4 [0, 1, 7, 8, 9] 0) (.block 0 (.loop [1, 7, 8, 9, 22, 23, 24] e49l26))) (.seq (.reg e49r27 [7, 8, 9] 0) .ret)))))), [.slot 4, .slot 5, .slot 6], 94, 0⟩
theorem g49 : Good Tryz.prog 49 e49 := ⟨Tryz.f49, Tryz.func49, by kernel_rfl, by kernel_rfl, by kernel_rfl, by kernel_rfl⟩
/-! (*concord/cluster.Cluster).Nodes -/
def e50r0 : EE := .out [(0, .s 0)]
def e50r1 : EE := .q 1 .nl [.s 0] none <|
 .q 2 (.fld 0) [.r 1] none <|
 .q 3 .ld [.r 2] none <|
 .out [(2, .r 3)]
def e50 : EFn := ⟨(.seq (.reg e50r0 [0] 0) (.seq (.reg e50r1 [0] 0) .ret)), [.slot 2], 7, 0⟩
theorem g50 : Good Tryz.prog 50 e50 := ⟨Tryz.f50, Tryz.func50, by kernel_rfl, by kernel_rfl, by kernel_rfl, by kernel_rfl⟩
/-! (*concord/node.Node).Done -/
def e53r0 : EE := .x 0 (.alc [z, z, z, z, z, z, z] 123) [] none [] <|
 .out [(0, .s 0), (2, .r 0)]
def e53r1 : EE := .q 1 .nl [.s 0] none <|
 .q 2 (.fld 55) [.r 1] none <|
 .q 3 (.lda 7) [.r 2] none <|
 .x 4 (.st 7) [.s 2, .r 3] none [] <|
 .out [(2, .s 2)]
def e53 : EFn := ⟨(.seq (.reg e53r0 [0] 0) (.seq (.reg e53r1 [0, 2] 0) .ret)), [.cells 2 7], 7, 0⟩
theorem g53 : Good Tryz.prog 53 e53 := ⟨Tryz.f53, Tryz.func53, by kernel_rfl, by kernel_rfl, by kernel_rfl, by kernel_rfl⟩
/-! concord/state.Same -/
def e54r0 : EE := .x 0 (.box 136) [.s 0] none [] <|
 .x 1 (.box 136) [.s 1] none [] <|
 .out [(2, .r 0), (3, .r 1)]
def e54r1 : EE := .q 0 (.fld 1) [.s 2] none <|
 .q 1 (.lda 48) [.r 0] none <|
 .out [(2, .s 2), (3, .s 3), (8, .r 1), (9, .c z)]
def e54r2 : EE := .q 0 .lss [.s 9, .c (.int .i64 8)] none <|
 .out [(2, .s 2), (3, .s 3), (8, .s 8), (9, .s 9), (10, .r 0)]
def e54r3 : EE := .q 1 (.idxa 8 6) [.s 8, .s 9] none <|
 .x 2 (.alc [z, z, (.bool false), zs, z, .nsl] 133) [] none [] <|
 .x 4 (.st 6) [.r 2, .r 1] none [] <|
 .out [(2, .s 2), (3, .s 3), (5, .s 9), (6, .r 2), (8, .s 8), (9, .s 9)]
def e54r4 : EE := .q 0 (.fld 0) [.s 6] none <|
 .q 1 .ld [.r 0] none <|
 .q 3 (.fld 1) [.s 3] none <|
 .q 4 (.ixa 8 6) [.r 3, .s 5] none <|
 .q 5 (.fld 0) [.r 4] none <|
 .q 6 .ld [.r 5] none <|
 .q 7 .neq [.r 1, .r 6] none <|
 .q 9 (.fld 1) [.s 6] (some (.r 7, false)) <|
 .q 10 (.lda 5) [.r 9] (some (.r 7, false)) <|
 .q 11 .mv [.s 5] (some (.r 7, false)) <|
 .q 12 (.fld 1) [.s 3] (some (.r 7, false)) <|
 .q 13 (.ixa 8 6) [.r 12, .r 11] (some (.r 7, false)) <|
 .q 14 (.fld 1) [.r 13] (some (.r 7, false)) <|
 .q 15 (.lda 5) [.r 14] (some (.r 7, false)) <|
 .x 16 (.call 93) [.r 10, .r 15] (some (.r 7, false)) [] <|
 .q 17 .not [.r 16] (some (.r 7, false)) <|
 .q 18 .pick [.r 7, .c (.bool true), .r 17] none <|
 .out [(2, .s 2), (3, .s 3), (8, .s 8), (9, .s 9), (31, .r 18)]
def e54r5 : EE := .out [(4, .c (.bool false))]
def e54r6 : EE := .q 0 .add [.s 9, .c (.int .i64 1)] none <|
 .out [(2, .s 2), (3, .s 3), (8, .s 8), (9, .r 0)]
def e54l7 : EC := (.seq (.reg e54r2 [2, 3, 8, 9] 0) (.seq (.cond (.s 10) .skip (.exit 0)) (.seq (.block 1 (.seq (.reg e54r3 [2, 3, 8, 9] 0) (.seq (.reg e54r4 [2, 3, 5, 6, 8, 9] 0) (.cond (.s 31) (.seq (.reg e54r5 [] 0) .ret) .skip)))) (.reg e54r6 [2, 3, 8, 9] 0))))
def e54r8 : EE := .q 0 (.fld 0) [.s 2] none <|
 .q 1 .ld [.r 0] none <|
 .q 2 (.fld 0) [.s 3] none <|
 .q 3 .ld [.r 2] none <|
 .x 4 (.call 94) [.r 1, .r 3] none [] <|
 .out [(4, .r 4)]
def e54 : EFn := ⟨(.seq (.reg e54r0 [0, 1] 0) (.seq (.seq (.reg e54r1 [2, 3] 0) (.block 0 (.loop [2, 3, 8, 9] e54l7))) (.seq (.reg e54r8 [2, 3] 0) .ret))), [.slot 4], 38, 0⟩
theorem g54 : Good Tryz.prog 54 e54 := ⟨Tryz.f54, Tryz.func54, by kernel_rfl, by kernel_rfl, by kernel_rfl, by kernel_rfl⟩
/-! (*concord/node.Node).State -/
def e55r0 : EE := .x 0 (.alc [.nsl, z, z, (.bool false), zs, z, .nsl, z, z, (.bool false), zs, z, .nsl, z, z, (.bool false), zs, z, .nsl, z, z, (.bool false), zs, z, .nsl, z, z, (.bool false), zs, z, .nsl, z, z, (.bool false), zs, z, .nsl, z, z, (.bool false), zs, z, .nsl, z, z, (.bool false), zs, z, .nsl] 136) [] none [] <|
 .out [(0, .s 0), (2, .r 0)]
def e55r1 : EE := .q 1 .nl [.s 0] none <|
 .q 2 (.fld 6) [.r 1] none <|
 .q 3 (.lda 49) [.r 2] none <|
 .x 4 (.call 95) [.r 3, .c .nsl] none [] <|
 .q 6 (.ext 0) [.r 4] none <|
 .q 7 (.ext 1) [.r 4] none <|
 .x 8 (.alc [.nsl, z, z, (.bool false), zs, z, .nsl, z, z, (.bool false), zs, z, .nsl, z, z, (.bool false), zs, z, .nsl, z, z, (.bool false), zs, z, .nsl, z, z, (.bool false), zs, z, .nsl, z, z, (.bool false), zs, z, .nsl, z, z, (.bool false), zs, z, .nsl, z, z, (.bool false), zs, z, .nsl] 136) [] none [] <|
 .x 9 (.st 49) [.r 8, .r 6] none [] <|
 .out [(2, .s 2), (3, .r 8)]
def e55r2 : EE := .q 0 (.lda 49) [.s 3] none <|
 .x 1 (.st 49) [.s 2, .r 0] none [] <|
 .out [(2, .s 2)]
def e55 : EFn := ⟨(.seq (.reg e55r0 [0] 0) (.seq (.reg e55r1 [0, 2] 0) (.seq (.reg e55r2 [2, 3] 0) .ret))), [.cells 2 49], 14, 0⟩
theorem g55 : Good Tryz.prog 55 e55 := ⟨Tryz.f55, Tryz.func55, by kernel_rfl, by kernel_rfl, by kernel_rfl, by kernel_rfl⟩
/-! internal/strconv.FormatInt -/
def e56r0 : EE := .out [(0, .s 0), (1, .s 1)]
def e56r1 : EE := .q 1 .eql [.s 1, .c (.int .i64 10)] none <|
 .out [(0, .s 0), (1, .s 1), (11, .r 1)]
def e56r2 : EE := .q 1 .leq [.c z, .s 0] none <|
 .q 3 .mv [.s 0] (some (.r 1, true)) <|
 .q 4 .lss [.r 3, .c (.int .i64 100)] (some (.r 1, true)) <|
 .q 5 .pick [.r 1, .r 4, .c (.bool false)] none <|
 .out [(0, .s 0), (17, .r 5)]
def e56r3 : EE := .x 1 (.call 96) [.s 0] none [] <|
 .out [(4, .r 1)]
def e56r4 : EE := .x 0 (.alc [(.int .u8 0), (.int .u8 0), (.int .u8 0), (.int .u8 0), (.int .u8 0), (.int .u8 0), (.int .u8 0), (.int .u8 0), (.int .u8 0), (.int .u8 0), (.int .u8 0), (.int .u8 0), (.int .u8 0), (.int .u8 0), (.int .u8 0), (.int .u8 0), (.int .u8 0), (.int .u8 0), (.int .u8 0), (.int .u8 0), (.int .u8 0), (.int .u8 0), (.int .u8 0), (.int .u8 0)] 205) [] none [] <|
 .out [(0, .s 0), (5, .r 0)]
def e56r5 : EE := .q 1 (.conv .u64) [.s 0] none <|
 .out [(0, .s 0), (5, .s 5), (6, .r 1)]
def e56r6 : EE := .q 1 .lss [.s 0, .c z] none <|
 .out [(0, .s 0), (5, .s 5), (6, .s 6), (23, .r 1)]
def e56r7 : EE := .q 1 .neg [.s 6] none <|
 .out [(0, .s 0), (5, .s 5), (6, .r 1)]
def e56r8 : EE := .x 1 (.call 97) [.s 6] none [] <|
 .out [(0, .s 0), (5, .s 5), (6, .s 6), (7, .r 1)]
def e56r9 : EE := .q 1 .add [.c (.int .i64 1), .s 7] none <|
 .q 2 (.sla 24 1 true true) [.s 5, .c (.int .i64 1), .r 1] none <|
 .x 4 (.call 98) [.r 2, .s 6] none [] <|
 .out [(0, .s 0), (5, .s 5), (7, .s 7)]
def e56r10 : EE := .q 1 .lss [.s 0, .c z] none <|
 .out [(5, .s 5), (7, .s 7), (34, .r 1)]
def e56r11 : EE := .q 0 (.ixa 24 1) [.s 5, .c z] none <|
 .x 1 (.st 1) [.r 0, .c (.int .u8 45)] none [] <|
 .out [(5, .s 5), (7, .s 7)]
def e56r12 : EE := .q 1 .add [.c (.int .i64 1), .s 7] none <|
 .q 2 (.sla 24 1 false true) [.s 5, .r 1] none <|
 .q 3 .b2s [.r 2] none <|
 .out [(4, .r 3)]
def e56r13 : EE := .q 1 .add [.c (.int .i64 1), .s 7] none <|
 .q 2 (.sla 24 1 true true) [.s 5, .c (.int .i64 1), .r 1] none <|
 .q 3 .b2s [.r 2] none <|
 .out [(4, .r 3)]
def e56r14 : EE := .q 1 (.conv .u64) [.s 0] none <|
 .q 4 .lss [.s 0, .c z] none <|
 .x 5 (.call 99) [.c .nsl, .r 1, .s 1, .r 4, .c (.bool false)] none [] <|
 .q 7 (.ext 0) [.r 5] none <|
 .q 8 (.ext 1) [.r 5] none <|
 .out [(9, .r 8)]
def e56r15 : EE := .out [(4, .s 9)]
def e56 : EFn := ⟨(.seq (.reg e56r0 [0, 1] 0) (.seq (.seq (.reg e56r1 [0, 1] 0) (.cond (.s 11) (.seq (.seq (.reg e56r2 [0] 0) (.cond (.s 17) (.seq (.reg e56r3 [0] 0) .ret) .skip)) (.seq (.reg e56r4 [0] 0) (.seq (.reg e56r5 [0, 5] 0) (.seq (.seq (.reg e56r6 [0, 5, 6] 0) (.cond (.s 23) (.reg e56r7 [0, 5, 6] 0) .skip)) (.seq (.reg e56r8 [0, 5, 6] 0) (.seq (.reg e56r9 [0, 5, 6, 7] 0) (.seq (.seq (.reg e56r10 [0, 5, 7] 0) (.cond (.s 34) (.seq (.reg e56r11 [5, 7] 0) (.seq (.reg e56r12 [5, 7] 0) .ret)) .skip)) (.seq (.reg e56r13 [5, 7] 0) .ret)))))))) .skip)) (.seq (.reg e56r14 [0, 1] 0) (.seq (.reg e56r15 [9] 0) .ret)))), [.slot 4], 54, 0⟩
theorem g56 : Good Tryz.prog 56 e56 := ⟨Tryz.f56, Tryz.func56, by kernel_rfl, by kernel_rfl, by kernel_rfl, by kernel_rfl⟩
/-! (*strings.Builder).grow -/
def e57r0 : EE := .q 1 .nl [.s 0] none <|
 .q 2 (.fld 1) [.r 1] none <|
 .q 3 .ld [.r 2] none <|
 .q 4 .cap [.r 3] none <|
 .q 5 .mul [.c (.int .i64 2), .r 4] none <|
 .q 7 .add [.r 5, .s 1] none <|
 .q 10 .nl [.s 0] none <|
 .q 11 (.fld 1) [.r 10] none <|
 .q 12 .ld [.r 11] none <|
 .q 13 .len [.r 12] none <|
 .x 8 (.mnz 5) [.r 7] none [⟨12, .ld, [.r 11], none⟩] <|
 .q 14 (.slc 1 false true) [.r 8, .r 13] none <|
 .out [(0, .s 0), (4, .r 14)]
def e57r1 : EE := .q 2 .nl [.s 0] none <|
 .q 3 (.fld 1) [.r 2] none <|
 .q 4 .ld [.r 3] none <|
 .x 5 (.cpy 1) [.s 4, .r 4] none [] <|
 .out [(0, .s 0), (4, .s 4)]
def e57r2 : EE := .q 2 .nl [.s 0] none <|
 .q 3 (.fld 1) [.r 2] none <|
 .x 4 (.st 1) [.r 3, .s 4] none [] <|
 .out []
def e57 : EFn := ⟨(.seq (.reg e57r0 [0, 1] 0) (.seq (.reg e57r1 [0, 4] 0) (.reg e57r2 [0, 4] 0))), [], 30, 0⟩
theorem g57 : Good Tryz.prog 57 e57 := ⟨Tryz.f57, Tryz.func57, by kernel_rfl, by kernel_rfl, by kernel_rfl, by kernel_rfl⟩
/-! strconv.Atoi -/
def e58r0 : EE := .out [(0, .s 0)]
def e58r1 : EE := .x 1 (.call 101) [.s 0] none [] <|
 .q 3 (.ext 0) [.r 1] none <|
 .q 4 (.ext 1) [.r 1] none <|
 .out [(0, .s 0), (4, .r 3), (5, .r 4)]
def e58r2 : EE := .q 1 (.eqi true) [.s 5, .c .nif] none <|
 .out [(0, .s 0), (4, .s 4), (5, .s 5), (12, .r 1)]
def e58r3 : EE := .x 3 (.call 102) [.c (.str [65, 116, 111, 105]), .s 0, .c z, .c z, .s 5] none [] <|
 .out [(2, .s 4), (3, .r 3)]
def e58r4 : EE := .out [(2, .s 4), (3, .c .nif)]
def e58 : EFn := ⟨(.seq (.reg e58r0 [0] 0) (.seq (.reg e58r1 [0] 0) (.seq (.seq (.reg e58r2 [0, 4, 5] 0) (.cond (.s 12) (.seq (.reg e58r3 [0, 4, 5] 0) .ret) .skip)) (.seq (.reg e58r4 [4] 0) .ret)))), [.slot 2, .slot 3], 18, 0⟩
theorem g58 : Good Tryz.prog 58 e58 := ⟨Tryz.f58, Tryz.func58, by kernel_rfl, by kernel_rfl, by kernel_rfl, by kernel_rfl⟩
/-! strings.Count -/
def e61r0 : EE := .out [(0, .s 0), (1, .s 1)]
def e61r1 : EE := .q 1 .lenz [.s 1] none <|
 .q 2 .eql [.r 1, .c z] none <|
 .out [(0, .s 0), (1, .s 1), (9, .r 2)]
def e61r2 : EE := .x 1 (.call 104) [.s 0] none [] <|
 .q 2 .add [.r 1, .c (.int .i64 1)] none <|
 .out [(4, .r 2)]
def e61r3 : EE := .q 1 .lenz [.s 1] none <|
 .q 2 .eql [.r 1, .c (.int .i64 1)] none <|
 .out [(0, .s 0), (1, .s 1), (15, .r 2)]
def e61r4 : EE := .q 2 .idxs [.s 1, .c z] none <|
 .q 3 .cnt [.s 0, .r 2] none <|
 .out [(4, .r 3)]
def e61r5 : EE := .out [(0, .s 0), (1, .s 1), (5, .c z)]
def e61r6 : EE := .x 2 (.call 62) [.s 0, .s 1] none [] <|
 .out [(0, .s 0), (1, .s 1), (5, .s 5), (6, .r 2)]
def e61r7 : EE := .q 1 .eql [.s 6, .c (.int .i64 (-1))] none <|
 .out [(0, .s 0), (1, .s 1), (5, .s 5), (6, .s 6), (24, .r 1)]
def e61r8 : EE := .out [(4, .s 5)]
def e61r9 : EE := .q 1 .add [.s 5, .c (.int .i64 1)] none <|
 .out [(0, .s 0), (1, .s 1), (5, .r 1), (6, .s 6)]
def e61r10 : EE := .q 3 .lenz [.s 1] none <|
 .q 4 .add [.s 6, .r 3] none <|
 .q 5 (.slcs true false) [.s 0, .r 4] none <|
 .out [(0, .r 5), (1, .s 1), (5, .s 5)]
def e61l11 : EC := (.block 1 (.seq (.reg e61r6 [0, 1, 5] 0) (.seq (.seq (.reg e61r7 [0, 1, 5, 6] 0) (.cond (.s 24) (.seq (.reg e61r8 [5] 0) .ret) .skip)) (.seq (.reg e61r9 [0, 1, 5, 6] 0) (.reg e61r10 [0, 1, 5, 6] 0)))))
def e61 : EFn := ⟨(.seq (.reg e61r0 [0, 1] 0) (.seq (.seq (.reg e61r1 [0, 1] 0) (.cond (.s 9) (.seq (.reg e61r2 [0] 0) .ret) .skip)) (.seq (.seq (.reg e61r3 [0, 1] 0) (.cond (.s 15) (.seq (.reg e61r4 [0, 1] 0) .ret) .skip)) (.seq (.reg e61r5 [0, 1] 0) (.block 0 (.loop [0, 1, 5] e61l11)))))), [.slot 4], 34, 0⟩
theorem g61 : Good Tryz.prog 61 e61 := ⟨Tryz.f61, Tryz.func61, by kernel_rfl, by kernel_rfl, by kernel_rfl, by kernel_rfl⟩
/-! strings.Index -/
def e62r0 : EE := .out [(0, .s 0), (1, .s 1)]
def e62r1 : EE := .x 2 (.call 107) [.s 0, .s 1] none [] <|
 .out [(4, .r 2)]
def e62 : EFn := ⟨(.seq (.reg e62r0 [0, 1] 0) (.seq (.reg e62r1 [0, 1] 0) .ret)), [.slot 4], 8, 0⟩
theorem g62 : Good Tryz.prog 62 e62 := ⟨Tryz.f62, Tryz.func62, by kernel_rfl, by kernel_rfl, by kernel_rfl, by kernel_rfl⟩
/-! internal/stringslite.Cut -/
def e63r0 : EE := .out [(0, .s 0), (1, .s 1)]
def e63r1 : EE := .x 2 (.call 107) [.s 0, .s 1] none [] <|
 .out [(0, .s 0), (1, .s 1), (7, .r 2)]
def e63r2 : EE := .q 1 .geq [.s 7, .c z] none <|
 .out [(0, .s 0), (1, .s 1), (7, .s 7), (12, .r 1)]
def e63r3 : EE := .q 2 (.slcs false true) [.s 0, .s 7] none <|
 .q 6 .lenz [.s 1] none <|
 .q 7 .add [.s 7, .r 6] none <|
 .q 8 (.slcs true false) [.s 0, .r 7] none <|
 .out [(4, .r 2), (5, .r 8), (6, .c (.bool true))]
def e63r4 : EE := .out [(4, .s 0), (5, .c zs), (6, .c (.bool false))]
def e63 : EFn := ⟨(.seq (.reg e63r0 [0, 1] 0) (.seq (.seq (.reg e63r1 [0, 1] 0) (.seq (.reg e63r2 [0, 1, 7] 0) (.cond (.s 12) (.seq (.reg e63r3 [0, 1, 7] 0) .ret) .skip))) (.seq (.reg e63r4 [0] 0) .ret))), [.slot 4, .slot 5, .slot 6], 23, 0⟩
theorem g63 : Good Tryz.prog 63 e63 := ⟨Tryz.f63, Tryz.func63, by kernel_rfl, by kernel_rfl, by kernel_rfl, by kernel_rfl⟩
/-! concord/quorum.Fits -/
def e64r0 : EE := .out [(0, .s 0)]
def e64r1 : EE := .q 1 .eql [.s 0, .c (.int .i64 3)] none <|
 .q 3 .mv [.s 0] (some (.r 1, false)) <|
 .q 4 .eql [.r 3, .c (.int .i64 5)] (some (.r 1, false)) <|
 .q 5 .pick [.r 1, .c (.bool true), .r 4] none <|
 .q 7 .mv [.s 0] (some (.r 5, false)) <|
 .q 8 .eql [.r 7, .c (.int .i64 7)] (some (.r 5, false)) <|
 .q 9 .pick [.r 5, .c (.bool true), .r 8] none <|
 .out [(2, .r 9)]
def e64 : EFn := ⟨(.seq (.reg e64r0 [0] 0) (.seq (.reg e64r1 [0] 0) .ret)), [.slot 2], 13, 0⟩
theorem g64 : Good Tryz.prog 64 e64 := ⟨Tryz.f64, Tryz.func64, by kernel_rfl, by kernel_rfl, by kernel_rfl, by kernel_rfl⟩
/-! concord/front.New -/
def e65r0 : EE := .out [(0, .s 0), (1, .s 1)]
def e65r1 : EE := .q 1 .neq [.s 0, .c (.int .i64 3)] none <|
 .q 3 .mv [.s 0] (some (.r 1, true)) <|
 .q 4 .neq [.r 3, .c (.int .i64 5)] (some (.r 1, true)) <|
 .q 5 .pick [.r 1, .r 4, .c (.bool false)] none <|
 .q 7 .mv [.s 0] (some (.r 5, true)) <|
 .q 8 .neq [.r 7, .c (.int .i64 7)] (some (.r 5, true)) <|
 .q 9 .pick [.r 5, .r 8, .c (.bool false)] none <|
 .q 11 .mv [.s 1] (some (.r 9, false)) <|
 .q 12 .lss [.r 11, .c z] (some (.r 9, false)) <|
 .q 13 .pick [.r 9, .c (.bool true), .r 12] none <|
 .q 15 .mv [.s 1] (some (.r 13, false)) <|
 .q 16 .mv [.s 0] (some (.r 13, false)) <|
 .q 17 .geq [.r 15, .r 16] (some (.r 13, false)) <|
 .q 18 .pick [.r 13, .c (.bool true), .r 17] none <|
 .out [(0, .s 0), (1, .s 1), (24, .r 18)]
def e65r2 : EE := .out [(4, .c .nptr), (5, .c (.int .i64 1))]
def e65r3 : EE := .q 2 (.bld [z, z, z, z, z, z, z, z, z, z, z, z, z, z, z, z, z, z, z, z, z, z, z, z, z, z, z, z, z, z, z, z, z, z, z, z, z, z, z, z, z, z, z, z, z, z, z, z, z, z, z] [(0, 1), (1, 1)]) [.s 0, .s 1] none <|
 .x 3 (.box 217) [.r 2] none [] <|
 .out [(4, .r 3), (5, .c z)]
def e65 : EFn := ⟨(.seq (.reg e65r0 [0, 1] 0) (.seq (.seq (.reg e65r1 [0, 1] 0) (.cond (.s 24) (.seq (.reg e65r2 [] 0) .ret) .skip)) (.seq (.reg e65r3 [0, 1] 0) .ret))), [.slot 4, .slot 5], 29, 0⟩
theorem g65 : Good Tryz.prog 65 e65 := ⟨Tryz.f65, Tryz.func65, by kernel_rfl, by kernel_rfl, by kernel_rfl, by kernel_rfl⟩
/-! (*concord/node.Node).load -/
def e66r0 : EE := .out [(0, .s 0)]
def e66r1 : EE := .q 1 .nl [.s 0] none <|
 .q 2 (.fld 2) [.r 1] none <|
 .q 3 .ld [.r 2] none <|
 .x 4 (.call 108) [.r 3, .c (.str [105, 109, 97, 103, 101])] none [] <|
 .q 6 (.ext 0) [.r 4] none <|
 .q 7 (.ext 1) [.r 4] none <|
 .out [(0, .s 0), (3, .r 6), (4, .r 7)]
def e66r2 : EE := .out [(0, .s 0), (3, .s 3), (18, .s 4)]
def e66r3 : EE := .x 1 (.call 109) [.s 3] none [] <|
 .q 3 (.ext 0) [.r 1] none <|
 .q 4 (.ext 1) [.r 1] none <|
 .q 5 (.ext 2) [.r 1] none <|
 .x 6 (.alc [z, z, z, z, z, z, z] 123) [] none [] <|
 .x 7 (.alc [.nsl, z, z, (.bool false), zs, z, .nsl, z, z, (.bool false), zs, z, .nsl, z, z, (.bool false), zs, z, .nsl, z, z, (.bool false), zs, z, .nsl, z, z, (.bool false), zs, z, .nsl, z, z, (.bool false), zs, z, .nsl, z, z, (.bool false), zs, z, .nsl, z, z, (.bool false), zs, z, .nsl] 136) [] none [] <|
 .x 8 (.st 7) [.r 6, .r 3] none [] <|
 .x 9 (.st 49) [.r 7, .r 4] none [] <|
 .out [(0, .s 0), (5, .r 6), (6, .r 7), (7, .r 5)]
def e66r4 : EE := .q 1 .neq [.s 7, .c z] none <|
 .out [(0, .s 0), (5, .s 5), (6, .s 6), (7, .s 7), (26, .r 1)]
def e66r5 : EE := .out [(2, .s 7)]
def e66r6 : EE := .q 3 (.lda 7) [.s 5] none <|
 .q 4 (.lda 7) [.s 5] none <|
 .q 5 (.lda 49) [.s 6] none <|
 .q 6 .nl [.s 0] none <|
 .q 7 (.fld 55) [.r 6] none <|
 .x 8 (.st 7) [.r 7, .r 3] none [⟨4, (.lda 7), [.s 5], none⟩, ⟨5, (.lda 49), [.s 6], none⟩] <|
 .q 9 .nl [.s 0] none <|
 .q 10 (.fld 62) [.r 9] none <|
 .x 11 (.st 7) [.r 10, .r 4] none [⟨5, (.lda 49), [.s 6], none⟩] <|
 .q 12 .nl [.s 0] none <|
 .q 13 (.fld 6) [.r 12] none <|
 .x 14 (.st 49) [.r 13, .r 5] none [] <|
 .out [(0, .s 0)]
def e66r7 : EE := .q 1 .nl [.s 0] none <|
 .q 2 (.fld 2) [.r 1] none <|
 .q 3 .ld [.r 2] none <|
 .x 4 (.call 108) [.r 3, .c (.str [105, 109, 97, 103, 101, 46, 110, 101, 119])] none [] <|
 .q 6 (.ext 0) [.r 4] none <|
 .q 7 (.ext 1) [.r 4] none <|
 .out [(0, .s 0), (9, .r 7)]
def e66r8 : EE := .out [(0, .s 0), (48, .s 9)]
def e66r9 : EE := .q 1 .nl [.s 0] none <|
 .q 2 (.fld 2) [.r 1] none <|
 .q 3 .ld [.r 2] none <|
 .x 4 (.call 110) [.r 3, .c (.str [105, 109, 97, 103, 101, 46, 110, 101, 119])] none [] <|
 .out [(2, .r 4)]
def e66r10 : EE := .out [(2, .c z)]
def e66 : EFn := ⟨(.seq (.reg e66r0 [0] 0) (.seq (.seq (.reg e66r1 [0] 0) (.seq (.reg e66r2 [0, 3, 4] 0) (.cond (.s 18) (.seq (.reg e66r3 [0, 3] 0) (.seq (.seq (.reg e66r4 [0, 5, 6, 7] 0) (.cond (.s 26) (.seq (.reg e66r5 [7] 0) .ret) .skip)) (.reg e66r6 [0, 5, 6] 0))) .skip))) (.seq (.seq (.reg e66r7 [0] 0) (.seq (.reg e66r8 [0, 9] 0) (.cond (.s 48) (.seq (.reg e66r9 [0] 0) .ret) .skip))) (.seq (.reg e66r10 [] 0) .ret)))), [.slot 2], 54, 0⟩
theorem g66 : Good Tryz.prog 66 e66 := ⟨Tryz.f66, Tryz.func66, by kernel_rfl, by kernel_rfl, by kernel_rfl, by kernel_rfl⟩
/-! concord/wal.Open -/
def e67r0 : EE := .out [(0, .s 0)]
def e67r1 : EE := .q 1 (.eqp false) [.s 0, .c .nptr] none <|
 .out [(0, .s 0), (17, .r 1)]
def e67r2 : EE := .out [(2, .c .nptr), (3, .c .nsl), (4, .c (.int .i64 1))]
def e67r3 : EE := .x 1 (.call 111) [.s 0] none [] <|
 .out [(0, .s 0), (5, .r 1)]
def e67r4 : EE := .q 1 .eql [.s 5, .c z] none <|
 .out [(0, .s 0), (5, .s 5), (21, .r 1)]
def e67r5 : EE := .q 1 (.bld [z, z] []) [] none <|
 .x 2 (.call 112) [.s 0, .r 1] none [] <|
 .out [(0, .s 0), (6, .r 2)]
def e67r6 : EE := .q 1 .neq [.s 6, .c z] none <|
 .out [(0, .s 0), (6, .s 6), (26, .r 1)]
def e67r7 : EE := .out [(2, .c .nptr), (3, .c .nsl), (4, .s 6)]
def e67r8 : EE := .q 1 (.bld [.nptr, z, z, (.bool false)] [(0, 1)]) [.s 0] none <|
 .x 2 (.box 228) [.r 1] none [] <|
 .out [(2, .r 2), (3, .c .nsl), (4, .c z)]
def e67r9 : EE := .x 2 (.call 113) [.s 0, .s 5] none [] <|
 .q 4 (.ext 0) [.r 2] none <|
 .q 5 (.ext 1) [.r 2] none <|
 .q 6 (.ext 2) [.r 2] none <|
 .q 7 (.ext 3) [.r 2] none <|
 .x 8 (.alc [z, z] 226) [] none [] <|
 .x 10 (.st 2) [.r 8, .r 5] none [] <|
 .out [(0, .s 0), (7, .r 4), (8, .r 8), (9, .r 6)]
def e67r10 : EE := .q 1 (.lda 2) [.s 8] none <|
 .x 2 (.call 114) [.r 1] none [] <|
 .x 3 (.call 108) [.s 0, .r 2] none [] <|
 .q 5 (.ext 0) [.r 3] none <|
 .q 6 (.ext 1) [.r 3] none <|
 .out [(0, .s 0), (7, .s 7), (8, .s 8), (9, .s 9), (11, .r 5)]
def e67r11 : EE := .q 1 .len [.s 11] none <|
 .q 3 .gtr [.r 1, .s 9] none <|
 .out [(0, .s 0), (7, .s 7), (8, .s 8), (9, .s 9), (49, .r 3)]
def e67r12 : EE := .q 1 (.lda 2) [.s 8] none <|
 .x 2 (.call 114) [.r 1] none [] <|
 .x 4 (.call 115) [.s 0, .r 2, .s 9] none [] <|
 .out [(0, .s 0), (7, .s 7), (8, .s 8), (13, .r 4)]
def e67r13 : EE := .q 1 .neq [.s 13, .c z] none <|
 .out [(0, .s 0), (7, .s 7), (8, .s 8), (13, .s 13), (56, .r 1)]
def e67r14 : EE := .out [(2, .c .nptr), (3, .c .nsl), (4, .s 13)]
def e67r15 : EE := .q 1 (.lda 2) [.s 8] none <|
 .x 2 (.call 112) [.s 0, .r 1] none [] <|
 .out [(0, .s 0), (7, .s 7), (8, .s 8), (14, .r 2)]
def e67r16 : EE := .q 1 .neq [.s 14, .c z] none <|
 .out [(0, .s 0), (7, .s 7), (8, .s 8), (14, .s 14), (62, .r 1)]
def e67r17 : EE := .out [(2, .c .nptr), (3, .c .nsl), (4, .s 14)]
def e67r18 : EE := .q 1 (.lda 2) [.s 8] none <|
 .x 2 (.call 114) [.r 1] none [] <|
 .x 3 (.call 116) [.s 0, .r 2] none [] <|
 .out [(0, .s 0), (7, .s 7), (8, .s 8), (15, .r 3)]
def e67r19 : EE := .q 1 .neq [.s 15, .c z] none <|
 .out [(0, .s 0), (7, .s 7), (8, .s 8), (15, .s 15), (69, .r 1)]
def e67r20 : EE := .out [(2, .c .nptr), (3, .c .nsl), (4, .s 15)]
def e67r21 : EE := .q 1 (.lda 2) [.s 8] none <|
 .q 2 (.bld [.nptr, z, z, (.bool false)] [(0, 1), (1, 2)]) [.s 0, .r 1] none <|
 .x 3 (.box 228) [.r 2] none [] <|
 .out [(2, .r 3), (3, .s 7), (4, .c z)]
def e67 : EFn := ⟨(.seq (.reg e67r0 [0] 0) (.seq (.seq (.reg e67r1 [0] 0) (.cond (.s 17) (.seq (.reg e67r2 [] 0) .ret) .skip)) (.seq (.reg e67r3 [0] 0) (.seq (.seq (.reg e67r4 [0, 5] 0) (.cond (.s 21) (.seq (.seq (.reg e67r5 [0] 0) (.seq (.reg e67r6 [0, 6] 0) (.cond (.s 26) (.seq (.reg e67r7 [6] 0) .ret) .skip))) (.seq (.reg e67r8 [0] 0) .ret)) .skip)) (.seq (.reg e67r9 [0, 5] 0) (.seq (.seq (.reg e67r10 [0, 7, 8, 9] 0) (.seq (.reg e67r11 [0, 7, 8, 9, 11] 0) (.cond (.s 49) (.seq (.reg e67r12 [0, 7, 8, 9] 0) (.seq (.reg e67r13 [0, 7, 8, 13] 0) (.cond (.s 56) (.seq (.reg e67r14 [13] 0) .ret) .skip))) .skip))) (.seq (.seq (.reg e67r15 [0, 7, 8] 0) (.seq (.reg e67r16 [0, 7, 8, 14] 0) (.cond (.s 62) (.seq (.reg e67r17 [14] 0) .ret) .skip))) (.seq (.seq (.reg e67r18 [0, 7, 8] 0) (.seq (.reg e67r19 [0, 7, 8, 15] 0) (.cond (.s 69) (.seq (.reg e67r20 [15] 0) .ret) .skip))) (.seq (.reg e67r21 [0, 7, 8] 0) .ret))))))))), [.slot 2, .slot 3, .slot 4], 76, 0⟩
theorem g67 : Good Tryz.prog 67 e67 := ⟨Tryz.f67, Tryz.func67, by kernel_rfl, by kernel_rfl, by kernel_rfl, by kernel_rfl⟩
/-! concord/core.New -/
def e69r0 : EE := .x 0 (.box 123) [.s 2] none [] <|
 .out [(0, .s 0), (1, .s 1), (3, .s 3), (6, .r 0)]
def e69r1 : EE := .x 1 (.call 64) [.s 0] none [] <|
 .q 2 .not [.r 1] none <|
 .q 4 .mv [.s 1] (some (.r 2, false)) <|
 .q 5 .lss [.r 4, .c z] (some (.r 2, false)) <|
 .q 6 .pick [.r 2, .c (.bool true), .r 5] none <|
 .q 8 .mv [.s 1] (some (.r 6, false)) <|
 .q 9 .mv [.s 0] (some (.r 6, false)) <|
 .q 10 .geq [.r 8, .r 9] (some (.r 6, false)) <|
 .q 11 .pick [.r 6, .c (.bool true), .r 10] none <|
 .q 13 (.lda 7) [.s 6] (some (.r 11, false)) <|
 .q 14 (.bld [z, z, z, z, z, z, z, z] [(1, 7)]) [.r 13] (some (.r 11, false)) <|
 .x 15 (.call 120) [.r 14] (some (.r 11, false)) [] <|
 .q 16 .not [.r 15] (some (.r 11, false)) <|
 .q 17 .pick [.r 11, .c (.bool true), .r 16] none <|
 .out [(0, .s 0), (1, .s 1), (3, .s 3), (6, .s 6), (33, .r 17)]
def e69r2 : EE := .out [(8, .c .nptr), (9, .c (.int .i64 1))]
def e69r3 : EE := .q 2 (.lda 7) [.s 6] none <|
 .x 3 (.call 121) [.r 2] none [] <|
 .x 4 (.call 122) [] none [] <|
 .q 5 (.bld [z, z, .nptr, .nptr, .nsl, .nsl, .nsl, .nsl] [(0, 1), (1, 1), (2, 1), (3, 1)]) [.s 0, .s 1, .r 3, .r 4] none <|
 .x 6 (.box 242) [.r 5] none [] <|
 .out [(3, .s 3), (6, .s 6), (10, .r 6)]
def e69r4 : EE := .q 1 .nl [.s 10] none <|
 .q 2 (.fld 3) [.r 1] none <|
 .q 3 .ld [.r 2] none <|
 .q 4 (.lda 7) [.s 6] none <|
 .x 5 (.call 123) [.r 3, .r 4] none [] <|
 .out [(3, .s 3), (10, .s 10)]
def e69r5 : EE := .q 1 .len [.s 3] none <|
 .out [(10, .s 10), (47, .s 3), (48, .r 1), (49, .c z)]
def e69r6 : EE := .q 0 .lss [.s 49, .s 48] none <|
 .out [(10, .s 10), (47, .s 47), (48, .s 48), (49, .s 49), (50, .r 0)]
def e69r7 : EE := .q 0 (.ixs 1) [.s 47, .s 49] none <|
 .q 1 .ld [.r 0] none <|
 .out [(10, .s 10), (12, .r 1), (47, .s 47), (48, .s 48), (49, .s 49)]
def e69r8 : EE := .x 1 (.call 124) [.s 12] none [] <|
 .q 3 (.ext 0) [.r 1] none <|
 .q 4 (.ext 1) [.r 1] none <|
 .q 5 (.ext 2) [.r 1] none <|
 .x 6 (.alc [z, z] 119) [] none [] <|
 .x 7 (.alc [z, z, z, z, z, z, z, z, zs, zs, zs, zs, z, z, z, z, z, z, z, z, (.bool false)] 127) [] none [] <|
 .x 8 (.st 2) [.r 6, .r 3] none [] <|
 .x 9 (.st 21) [.r 7, .r 4] none [] <|
 .out [(10, .s 10), (13, .r 6), (14, .r 7), (15, .r 5), (47, .s 47), (48, .s 48), (49, .s 49)]
def e69r9 : EE := .q 1 .eql [.s 15, .c z] none <|
 .q 3 .mv [.s 10] (some (.r 1, true)) <|
 .q 4 .nl [.r 3] (some (.r 1, true)) <|
 .q 5 (.fld 2) [.r 4] (some (.r 1, true)) <|
 .q 6 .ld [.r 5] (some (.r 1, true)) <|
 .q 7 (.lda 2) [.s 13] (some (.r 1, true)) <|
 .q 8 (.lda 21) [.s 14] (some (.r 1, true)) <|
 .x 9 (.call 125) [.r 6, .r 7, .r 8] (some (.r 1, true)) [] <|
 .q 10 .pick [.r 1, .r 9, .c (.bool false)] none <|
 .out [(10, .s 10), (13, .s 13), (14, .s 14), (47, .s 47), (48, .s 48), (49, .s 49), (69, .r 10)]
def e69r10 : EE := .q 1 (.lda 2) [.s 13] none <|
 .q 2 (.lda 21) [.s 14] none <|
 .x 3 (.call 126) [.s 10, .r 1, .r 2] none [] <|
 .out [(10, .s 10), (47, .s 47), (48, .s 48), (49, .s 49)]
def e69r11 : EE := .q 0 .add [.s 49, .c (.int .i64 1)] none <|
 .out [(10, .s 10), (47, .s 47), (48, .s 48), (49, .r 0)]
def e69l12 : EC := (.seq (.reg e69r6 [10, 47, 48, 49] 0) (.seq (.cond (.s 50) .skip (.exit 0)) (.seq (.block 1 (.seq (.reg e69r7 [10, 47, 48, 49] 0) (.seq (.reg e69r8 [10, 12, 47, 48, 49] 0) (.seq (.reg e69r9 [10, 13, 14, 15, 47, 48, 49] 0) (.cond (.s 69) (.reg e69r10 [10, 13, 14, 47, 48, 49] 0) .skip))))) (.reg e69r11 [10, 47, 48, 49] 0))))
def e69r13 : EE := .out [(8, .s 10), (9, .c z)]
def e69 : EFn := ⟨(.seq (.reg e69r0 [0, 1, 2, 3] 0) (.seq (.seq (.reg e69r1 [0, 1, 3, 6] 0) (.cond (.s 33) (.seq (.reg e69r2 [] 0) .ret) .skip)) (.seq (.reg e69r3 [0, 1, 3, 6] 0) (.seq (.reg e69r4 [3, 6, 10] 0) (.seq (.seq (.reg e69r5 [3, 10] 0) (.block 0 (.loop [10, 47, 48, 49] e69l12))) (.seq (.reg e69r13 [10] 0) .ret)))))), [.slot 8, .slot 9], 76, 0⟩
theorem g69 : Good Tryz.prog 69 e69 := ⟨Tryz.f69, Tryz.func69, by kernel_rfl, by kernel_rfl, by kernel_rfl, by kernel_rfl⟩
/-! (*concord/wal.Wal).Where -/
def e70r0 : EE := .out [(0, .s 0)]
def e70r1 : EE := .q 1 .nl [.s 0] none <|
 .q 2 (.fld 1) [.r 1] none <|
 .q 3 (.fld 0) [.r 2] none <|
 .q 4 .ld [.r 3] none <|
 .q 6 .nl [.s 0] none <|
 .q 7 (.fld 1) [.r 6] none <|
 .q 8 (.fld 1) [.r 7] none <|
 .q 9 .ld [.r 8] none <|
 .out [(2, .r 4), (3, .r 9)]
def e70 : EFn := ⟨(.seq (.reg e70r0 [0] 0) (.seq (.reg e70r1 [0] 0) .ret)), [.slot 2, .slot 3], 14, 0⟩
theorem g70 : Good Tryz.prog 70 e70 := ⟨Tryz.f70, Tryz.func70, by kernel_rfl, by kernel_rfl, by kernel_rfl, by kernel_rfl⟩
/-! (*concord/wal.Wal).Anew -/
def e71r0 : EE := .out [(0, .s 0), (1, .s 1)]
def e71r1 : EE := .q 1 .nl [.s 0] none <|
 .q 2 (.fld 3) [.r 1] none <|
 .q 3 .ld [.r 2] none <|
 .out [(0, .s 0), (1, .s 1), (14, .r 3)]
def e71r2 : EE := .out [(4, .c (.int .i64 10))]
def e71r3 : EE := .q 1 .len [.s 1] none <|
 .x 2 (.call 129) [.c .nsl, .r 1] none [] <|
 .x 3 (.call 128) [.c .nsl, .r 2] none [] <|
 .x 5 (.call 127) [.r 3, .s 1] none [] <|
 .q 7 (.ext 0) [.r 5] none <|
 .q 8 (.ext 1) [.r 5] none <|
 .out [(0, .s 0), (5, .r 7), (6, .r 8)]
def e71r4 : EE := .q 1 .not [.s 6] none <|
 .out [(0, .s 0), (5, .s 5), (25, .r 1)]
def e71r5 : EE := .out [(4, .c (.int .i64 1))]
def e71r6 : EE := .q 1 .nl [.s 0] none <|
 .q 2 (.fld 1) [.r 1] none <|
 .q 3 (.fld 0) [.r 2] none <|
 .q 4 .ld [.r 3] none <|
 .q 5 .geq [.r 4, .c (.int .i64 999999999)] none <|
 .out [(0, .s 0), (5, .s 5), (31, .r 5)]
def e71r7 : EE := .out [(4, .c (.int .i64 7))]
def e71r8 : EE := .q 1 .nl [.s 0] none <|
 .q 2 (.fld 1) [.r 1] none <|
 .q 3 (.fld 0) [.r 2] none <|
 .q 4 .ld [.r 3] none <|
 .q 5 .add [.r 4, .c (.int .i64 1)] none <|
 .q 6 (.bld [z, z] [(0, 1), (1, 1)]) [.r 5, .c (.int .i64 1)] none <|
 .x 7 (.alc [z, z] 226) [] none [] <|
 .x 8 (.st 2) [.r 7, .r 6] none [] <|
 .out [(0, .s 0), (5, .s 5), (7, .r 7)]
def e71r9 : EE := .q 1 (.lda 2) [.s 7] none <|
 .x 3 (.call 130) [.s 0, .r 1, .s 5] none [] <|
 .out [(0, .s 0), (7, .s 7), (8, .r 3)]
def e71r10 : EE := .q 1 .neq [.s 8, .c z] none <|
 .out [(0, .s 0), (7, .s 7), (8, .s 8), (44, .r 1)]
def e71r11 : EE := .out [(4, .s 8)]
def e71r12 : EE := .out [(0, .s 0), (7, .s 7), (9, .c (.int .i64 1))]
def e71r13 : EE := .q 2 .nl [.s 0] none <|
 .q 3 (.fld 1) [.r 2] none <|
 .q 4 (.fld 1) [.r 3] none <|
 .q 5 .ld [.r 4] none <|
 .q 6 .leq [.s 9, .r 5] none <|
 .out [(0, .s 0), (7, .s 7), (9, .s 9), (52, .r 6)]
def e71r14 : EE := .q 1 .nl [.s 0] none <|
 .q 2 (.fld 0) [.r 1] none <|
 .q 3 .ld [.r 2] none <|
 .q 5 .nl [.s 0] none <|
 .q 6 (.fld 1) [.r 5] none <|
 .q 7 (.fld 0) [.r 6] none <|
 .q 8 .ld [.r 7] none <|
 .q 10 (.bld [z, z] [(0, 1), (1, 1)]) [.r 8, .s 9] none <|
 .x 11 (.call 114) [.r 10] none [⟨3, .ld, [.r 2], none⟩] <|
 .x 12 (.call 110) [.r 3, .r 11] none [] <|
 .out [(0, .s 0), (7, .s 7), (9, .s 9), (10, .r 12)]
def e71r15 : EE := .q 1 .neq [.s 10, .c z] none <|
 .out [(0, .s 0), (7, .s 7), (9, .s 9), (10, .s 10), (69, .r 1)]
def e71r16 : EE := .q 1 .nl [.s 0] none <|
 .q 2 (.fld 3) [.r 1] none <|
 .x 3 (.st 1) [.r 2, .c (.bool true)] none [] <|
 .out [(10, .s 10)]
def e71r17 : EE := .out [(4, .s 10)]
def e71r18 : EE := .q 1 .add [.s 9, .c (.int .i64 1)] none <|
 .out [(0, .s 0), (7, .s 7), (9, .r 1)]
def e71l19 : EC := (.seq (.seq (.reg e71r13 [0, 7, 9] 0) (.cond (.s 52) .skip (.exit 0))) (.seq (.block 1 (.seq (.reg e71r14 [0, 7, 9] 0) (.seq (.reg e71r15 [0, 7, 9, 10] 0) (.cond (.s 69) (.seq (.reg e71r16 [0, 10] 0) (.seq (.reg e71r17 [10] 0) .ret)) .skip)))) (.reg e71r18 [0, 7, 9] 0)))
def e71r20 : EE := .q 1 (.lda 2) [.s 7] none <|
 .q 2 .nl [.s 0] none <|
 .q 3 (.fld 1) [.r 2] none <|
 .x 4 (.st 2) [.r 3, .r 1] none [] <|
 .out []
def e71r21 : EE := .out [(4, .c z)]
def e71 : EFn := ⟨(.seq (.reg e71r0 [0, 1] 0) (.seq (.seq (.reg e71r1 [0, 1] 0) (.cond (.s 14) (.seq (.reg e71r2 [] 0) .ret) .skip)) (.seq (.reg e71r3 [0, 1] 0) (.seq (.seq (.reg e71r4 [0, 5, 6] 0) (.cond (.s 25) (.seq (.reg e71r5 [] 0) .ret) .skip)) (.seq (.seq (.reg e71r6 [0, 5] 0) (.cond (.s 31) (.seq (.reg e71r7 [] 0) .ret) .skip)) (.seq (.reg e71r8 [0, 5] 0) (.seq (.seq (.reg e71r9 [0, 5, 7] 0) (.seq (.reg e71r10 [0, 7, 8] 0) (.cond (.s 44) (.seq (.reg e71r11 [8] 0) .ret) .skip))) (.seq (.seq (.reg e71r12 [0, 7] 0) (.block 0 (.loop [0, 7, 9] e71l19))) (.seq (.reg e71r20 [0, 7] 0) (.seq (.reg e71r21 [] 0) .ret)))))))))), [.slot 4], 78, 0⟩
theorem g71 : Good Tryz.prog 71 e71 := ⟨Tryz.f71, Tryz.func71, by kernel_rfl, by kernel_rfl, by kernel_rfl, by kernel_rfl⟩
/-! concord/node.cutRecord -/
def e72r0 : EE := .x 0 (.box 123) [.s 0] none [] <|
 .out [(1, .r 0)]
def e72r1 : EE := .x 0 (.bsl 5 1 [(.int .u8 0)] [(0, 1)]) [.c (.int .u8 1)] none [] <|
 .out [(1, .s 1), (3, .r 0)]
def e72r2 : EE := .q 0 (.lda 7) [.s 1] none <|
 .out [(3, .s 3), (7, .r 0), (8, .c z)]
def e72r3 : EE := .q 0 .lss [.s 8, .c (.int .i64 7)] none <|
 .out [(3, .s 3), (7, .s 7), (8, .s 8), (9, .r 0)]
def e72r4 : EE := .q 0 (.idx 7 1) [.s 7, .s 8] none <|
 .out [(3, .s 3), (5, .r 0), (7, .s 7), (8, .s 8)]
def e72r5 : EE := .x 2 (.call 129) [.s 3, .s 5] none [] <|
 .out [(3, .r 2), (7, .s 7), (8, .s 8)]
def e72r6 : EE := .q 0 .add [.s 8, .c (.int .i64 1)] none <|
 .out [(3, .s 3), (7, .s 7), (8, .r 0)]
def e72l7 : EC := (.seq (.reg e72r3 [3, 7, 8] 0) (.seq (.cond (.s 9) .skip (.exit 0)) (.seq (.block 1 (.seq (.reg e72r4 [3, 7, 8] 0) (.reg e72r5 [3, 5, 7, 8] 0))) (.reg e72r6 [3, 7, 8] 0))))
def e72r8 : EE := .out [(2, .s 3)]
def e72 : EFn := ⟨(.seq (.reg e72r0 [0] 0) (.seq (.reg e72r1 [1] 0) (.seq (.seq (.reg e72r2 [1, 3] 0) (.block 0 (.loop [3, 7, 8] e72l7))) (.seq (.reg e72r8 [3] 0) .ret)))), [.slot 2], 16, 0⟩
theorem g72 : Good Tryz.prog 72 e72 := ⟨Tryz.f72, Tryz.func72, by kernel_rfl, by kernel_rfl, by kernel_rfl, by kernel_rfl⟩
/-! (*concord/front.Fronts).Hear -/
def e73r0 : EE := .x 0 (.box 123) [.s 2] none [] <|
 .out [(0, .s 0), (1, .s 1), (5, .r 0)]
def e73r1 : EE := .q 1 .lss [.s 1, .c z] none <|
 .q 3 .mv [.s 1] (some (.r 1, false)) <|
 .q 4 .mv [.s 0] (some (.r 1, false)) <|
 .q 5 .nl [.r 4] (some (.r 1, false)) <|
 .q 6 (.fld 0) [.r 5] (some (.r 1, false)) <|
 .q 7 .ld [.r 6] (some (.r 1, false)) <|
 .q 8 .geq [.r 3, .r 7] (some (.r 1, false)) <|
 .q 9 .pick [.r 1, .c (.bool true), .r 8] none <|
 .q 11 (.lda 7) [.s 5] (some (.r 9, false)) <|
 .q 12 (.bld [z, z, z, z, z, z, z, z] [(1, 7)]) [.r 11] (some (.r 9, false)) <|
 .x 13 (.call 120) [.r 12] (some (.r 9, false)) [] <|
 .q 14 .not [.r 13] (some (.r 9, false)) <|
 .q 15 .pick [.r 9, .c (.bool true), .r 14] none <|
 .out [(0, .s 0), (1, .s 1), (5, .s 5), (24, .r 15)]
def e73r2 : EE := .out [(6, .c (.bool false))]
def e73r3 : EE := .q 0 (.lda 7) [.s 5] none <|
 .out [(0, .s 0), (1, .s 1), (25, .r 0), (26, .c z)]
def e73r4 : EE := .q 0 .lss [.s 26, .c (.int .i64 7)] none <|
 .out [(0, .s 0), (1, .s 1), (25, .s 25), (26, .s 26), (27, .r 0)]
def e73r5 : EE := .q 1 (.idx 7 1) [.s 25, .s 26] none <|
 .out [(0, .s 0), (1, .s 1), (7, .s 26), (8, .r 1), (25, .s 25), (26, .s 26)]
def e73r6 : EE := .q 6 .nl [.s 0] none <|
 .q 7 (.fld 2) [.r 6] none <|
 .q 8 (.ixa 7 7) [.r 7, .s 1] none <|
 .q 9 (.ixa 7 1) [.r 8, .s 7] none <|
 .q 10 .ld [.r 9] none <|
 .q 12 .mx [.r 10, .s 8] none <|
 .q 13 .nl [.s 0] none <|
 .q 14 (.fld 2) [.r 13] none <|
 .q 15 (.ixa 7 7) [.r 14, .s 1] none <|
 .q 16 (.ixa 7 1) [.r 15, .s 7] none <|
 .x 17 (.st 1) [.r 16, .r 12] none [] <|
 .out [(0, .s 0), (1, .s 1), (25, .s 25), (26, .s 26)]
def e73r7 : EE := .q 0 .add [.s 26, .c (.int .i64 1)] none <|
 .out [(0, .s 0), (1, .s 1), (25, .s 25), (26, .r 0)]
def e73l8 : EC := (.seq (.reg e73r4 [0, 1, 25, 26] 0) (.seq (.cond (.s 27) .skip (.exit 0)) (.seq (.block 1 (.seq (.reg e73r5 [0, 1, 25, 26] 0) (.reg e73r6 [0, 1, 7, 8, 25, 26] 0))) (.reg e73r7 [0, 1, 25, 26] 0))))
def e73r9 : EE := .out [(6, .c (.bool true))]
def e73 : EFn := ⟨(.seq (.reg e73r0 [0, 1, 2] 0) (.seq (.seq (.reg e73r1 [0, 1, 5] 0) (.cond (.s 24) (.seq (.reg e73r2 [] 0) .ret) .skip)) (.seq (.seq (.reg e73r3 [0, 1, 5] 0) (.block 0 (.loop [0, 1, 25, 26] e73l8))) (.seq (.reg e73r9 [] 0) .ret)))), [.slot 6], 48, 0⟩
theorem g73 : Good Tryz.prog 73 e73 := ⟨Tryz.f73, Tryz.func73, by kernel_rfl, by kernel_rfl, by kernel_rfl, by kernel_rfl⟩
/-! (*concord/node.Node).settle -/
def e74r0 : EE := .q 1 .nl [.s 0] none <|
 .q 2 (.fld 74) [.r 1] none <|
 .q 3 .ld [.r 2] none <|
 .q 5 .mv [.s 0] (some (.r 3, false)) <|
 .x 6 (.call 131) [.r 5] (some (.r 3, false)) [] <|
 .q 7 .not [.r 6] (some (.r 3, false)) <|
 .q 8 .pick [.r 3, .c (.bool true), .r 7] none <|
 .out [(0, .s 0), (10, .r 8)]
def e74r1 : EE := .x 1 (.call 132) [.s 0] none [] <|
 .out [(0, .s 0)]
def e74r2 : EE := .x 1 (.call 133) [.s 0] none [] <|
 .out [(0, .s 0)]
def e74r3 : EE := .q 1 .nl [.s 0] none <|
 .q 2 (.fld 69) [.r 1] none <|
 .q 3 .ld [.r 2] none <|
 .q 4 .geq [.r 3, .c (.int .i64 8)] none <|
 .q 6 .mv [.s 0] (some (.r 4, true)) <|
 .q 7 .mv [.s 0] (some (.r 4, true)) <|
 .q 8 .nl [.r 7] (some (.r 4, true)) <|
 .q 9 (.fld 55) [.r 8] (some (.r 4, true)) <|
 .q 10 (.lda 7) [.r 9] (some (.r 4, true)) <|
 .q 11 .mv [.s 0] (some (.r 4, true)) <|
 .q 12 .nl [.r 11] (some (.r 4, true)) <|
 .q 13 (.fld 6) [.r 12] (some (.r 4, true)) <|
 .q 14 (.lda 49) [.r 13] (some (.r 4, true)) <|
 .x 15 (.call 135) [.r 10, .r 14] (some (.r 4, true)) [] <|
 .x 16 (.call 134) [.r 6, .r 15] (some (.r 4, true)) [] <|
 .q 17 .not [.r 16] (some (.r 4, true)) <|
 .q 18 .pick [.r 4, .r 17, .c (.bool false)] none <|
 .out [(0, .s 0), (33, .r 18)]
def e74r4 : EE := .x 1 (.call 136) [.s 0] none [] <|
 .out []
def e74 : EFn := ⟨(.seq (.seq (.reg e74r0 [0] 0) (.cond (.s 10) .ret .skip)) (.seq (.reg e74r1 [0] 0) (.seq (.reg e74r2 [0] 0) (.seq (.seq (.reg e74r3 [0] 0) (.cond (.s 33) .ret .skip)) (.reg e74r4 [0] 0))))), [], 36, 0⟩
theorem g74 : Good Tryz.prog 74 e74 := ⟨Tryz.f74, Tryz.func74, by kernel_rfl, by kernel_rfl, by kernel_rfl, by kernel_rfl⟩
/-! (*concord/node.Node).Out -/
def e75r0 : EE := .out [(0, .s 0)]
def e75r1 : EE := .q 1 .nl [.s 0] none <|
 .q 2 (.fld 72) [.r 1] none <|
 .q 3 .ld [.r 2] none <|
 .q 5 .nl [.s 0] none <|
 .q 6 (.fld 73) [.r 5] none <|
 .q 7 .ld [.r 6] none <|
 .out [(0, .s 0), (4, .r 3), (5, .r 7)]
def e75r2 : EE := .q 2 .nl [.s 0] none <|
 .q 3 (.fld 72) [.r 2] none <|
 .x 4 (.st 1) [.r 3, .c .nsl] none [] <|
 .q 5 .nl [.s 0] none <|
 .q 6 (.fld 73) [.r 5] none <|
 .x 7 (.st 1) [.r 6, .c .nsl] none [] <|
 .out [(4, .s 4), (5, .s 5)]
def e75r3 : EE := .out [(2, .s 4), (3, .s 5)]
def e75 : EFn := ⟨(.seq (.reg e75r0 [0] 0) (.seq (.reg e75r1 [0] 0) (.seq (.reg e75r2 [0, 4, 5] 0) (.seq (.reg e75r3 [4, 5] 0) .ret)))), [.slot 2, .slot 3], 22, 0⟩
theorem g75 : Good Tryz.prog 75 e75 := ⟨Tryz.f75, Tryz.func75, by kernel_rfl, by kernel_rfl, by kernel_rfl, by kernel_rfl⟩
/-! (*concord/core.Core).Tick -/
def e83r0 : EE := .q 1 .nl [.s 0] none <|
 .q 2 (.fld 4) [.r 1] none <|
 .q 3 .ld [.r 2] none <|
 .x 4 (.call 144) [.r 3] none [] <|
 .q 5 .len [.r 4] none <|
 .out [(0, .s 0), (15, .r 4), (16, .r 5), (17, .c z)]
def e83r1 : EE := .q 0 .lss [.s 17, .s 16] none <|
 .out [(0, .s 0), (15, .s 15), (16, .s 16), (17, .s 17), (18, .r 0)]
def e83r2 : EE := .q 0 (.ixs 1) [.s 15, .s 17] none <|
 .q 1 .ld [.r 0] none <|
 .out [(0, .s 0), (3, .r 1), (15, .s 15), (16, .s 16), (17, .s 17)]
def e83r3 : EE := .q 1 .nl [.s 3] none <|
 .q 2 (.fld 31) [.r 1] none <|
 .q 3 .ld [.r 2] none <|
 .q 4 .add [.r 3, .c (.int .i64 1)] none <|
 .q 5 .nl [.s 3] none <|
 .q 6 (.fld 31) [.r 5] none <|
 .x 7 (.st 1) [.r 6, .r 4] none [] <|
 .out [(0, .s 0), (3, .s 3), (15, .s 15), (16, .s 16), (17, .s 17)]
def e83r4 : EE := .q 1 .nl [.s 3] none <|
 .q 2 (.fld 31) [.r 1] none <|
 .q 3 .ld [.r 2] none <|
 .q 4 .rem [.r 3, .c (.int .i64 4)] none <|
 .q 5 .neq [.r 4, .c z] none <|
 .q 7 .mv [.s 3] (some (.r 5, false)) <|
 .q 8 .nl [.r 7] (some (.r 5, false)) <|
 .q 9 (.fld 2) [.r 8] (some (.r 5, false)) <|
 .q 10 .ld [.r 9] (some (.r 5, false)) <|
 .q 11 .eql [.r 10, .c z] (some (.r 5, false)) <|
 .q 12 .mv [.r 11] (some (.r 5, false)) <|
 .q 13 .mv [.s 0] (some (.r 12, true)) <|
 .q 14 .mv [.s 3] (some (.r 12, true)) <|
 .x 15 (.call 145) [.r 13, .r 14, .c (.bool true)] (some (.r 12, true)) [] <|
 .q 16 .pick [.r 12, .r 15, .c (.bool false)] (some (.r 5, false)) <|
 .q 17 .pick [.r 5, .c (.bool true), .r 16] none <|
 .out [(0, .s 0), (3, .s 3), (15, .s 15), (16, .s 16), (17, .s 17), (45, .r 17)]
def e83r5 : EE := .q 4 .nl [.s 3] none <|
 .q 5 (.fld 21) [.r 4] none <|
 .q 6 (.lda 7) [.r 5] none <|
 .x 2 (.call 147) [.s 3] none [⟨6, (.lda 7), [.r 5], none⟩] <|
 .x 7 (.call 146) [.s 0, .r 2, .r 6] none [] <|
 .out [(0, .s 0), (15, .s 15), (16, .s 16), (17, .s 17)]
def e83r6 : EE := .q 0 .add [.s 17, .c (.int .i64 1)] none <|
 .out [(0, .s 0), (15, .s 15), (16, .s 16), (17, .r 0)]
def e83l7 : EC := (.seq (.reg e83r1 [0, 15, 16, 17] 0) (.seq (.cond (.s 18) .skip (.exit 0)) (.seq (.block 1 (.seq (.reg e83r2 [0, 15, 16, 17] 0) (.seq (.reg e83r3 [0, 3, 15, 16, 17] 0) (.seq (.seq (.reg e83r4 [0, 3, 15, 16, 17] 0) (.cond (.s 45) (.exit 1) .skip)) (.reg e83r5 [0, 3, 15, 16, 17] 0))))) (.reg e83r6 [0, 15, 16, 17] 0))))
def e83r8 : EE := .q 1 .nl [.s 0] none <|
 .q 2 (.fld 2) [.r 1] none <|
 .q 3 .ld [.r 2] none <|
 .x 4 (.call 148) [.r 3] none [] <|
 .q 5 .len [.r 4] none <|
 .out [(0, .s 0), (59, .r 4), (60, .r 5), (61, .c z)]
def e83r9 : EE := .q 0 .lss [.s 61, .s 60] none <|
 .out [(0, .s 0), (59, .s 59), (60, .s 60), (61, .s 61), (62, .r 0)]
def e83r10 : EE := .q 0 (.ixs 2) [.s 59, .s 61] none <|
 .q 1 (.lda 2) [.r 0] none <|
 .x 2 (.alc [z, z] 119) [] none [] <|
 .x 3 (.st 2) [.r 2, .r 1] none [] <|
 .out [(0, .s 0), (5, .r 2), (59, .s 59), (60, .s 60), (61, .s 61)]
def e83r11 : EE := .q 1 .nl [.s 0] none <|
 .q 2 (.fld 2) [.r 1] none <|
 .q 3 .ld [.r 2] none <|
 .q 4 (.lda 2) [.s 5] none <|
 .both false
 (.x 5 (.call 149) [.r 3, .r 4] none [] <|
 .q 7 (.ext 0) [.r 5] none <|
 .q 8 (.ext 1) [.r 5] none <|
 .x 9 (.alc [z, z, z, z, z, z, z, z, zs, zs, zs, zs, z, z, z, z, z, z, z, z, (.bool false)] 127) [] none [⟨3, .ld, [.r 2], none⟩, ⟨4, (.lda 2), [.s 5], none⟩] <|
 .x 10 (.st 21) [.r 9, .r 7] none [] <|
 .out [(0, .s 0), (5, .s 5), (6, .r 9), (59, .s 59), (60, .s 60), (61, .s 61)])
 (.x 9 (.alc [z, z, z, z, z, z, z, z, zs, zs, zs, zs, z, z, z, z, z, z, z, z, (.bool false)] 127) [] none [⟨3, .ld, [.r 2], none⟩, ⟨4, (.lda 2), [.s 5], none⟩] <|
 .x 5 (.call 149) [.r 3, .r 4] none [] <|
 .q 7 (.ext 0) [.r 5] none <|
 .q 8 (.ext 1) [.r 5] none <|
 .x 10 (.st 21) [.r 9, .r 7] none [] <|
 .out [(0, .s 0), (5, .s 5), (6, .r 9), (59, .s 59), (60, .s 60), (61, .s 61)])
def e83r12 : EE := .q 0 (.fld 0) [.s 6] none <|
 .q 1 .ld [.r 0] none <|
 .q 2 .neq [.r 1, .c (.int .i64 3)] none <|
 .q 4 .mv [.s 0] (some (.r 2, true)) <|
 .q 5 (.lda 2) [.s 5] (some (.r 2, true)) <|
 .x 6 (.call 150) [.r 4, .r 5] (some (.r 2, true)) [] <|
 .q 7 (.eqp false) [.r 6, .c .nptr] (some (.r 2, true)) <|
 .q 8 .pick [.r 2, .r 7, .c (.bool false)] none <|
 .out [(0, .s 0), (5, .s 5), (59, .s 59), (60, .s 60), (61, .s 61), (82, .r 8)]
def e83r13 : EE := .q 1 (.lda 2) [.s 5] none <|
 .x 2 (.call 151) [.s 0, .r 1] none [] <|
 .out [(0, .s 0), (59, .s 59), (60, .s 60), (61, .s 61)]
def e83r14 : EE := .q 0 .add [.s 61, .c (.int .i64 1)] none <|
 .out [(0, .s 0), (59, .s 59), (60, .s 60), (61, .r 0)]
def e83l15 : EC := (.seq (.reg e83r9 [0, 59, 60, 61] 0) (.seq (.cond (.s 62) .skip (.exit 2)) (.seq (.block 3 (.seq (.reg e83r10 [0, 59, 60, 61] 0) (.seq (.reg e83r11 [0, 5, 59, 60, 61] 11) (.seq (.reg e83r12 [0, 5, 6, 59, 60, 61] 0) (.cond (.s 82) (.reg e83r13 [0, 5, 59, 60, 61] 0) .skip))))) (.reg e83r14 [0, 59, 60, 61] 0))))
def e83r16 : EE := .q 1 .nl [.s 0] none <|
 .q 2 (.fld 5) [.r 1] none <|
 .q 3 .ld [.r 2] none <|
 .x 4 (.call 152) [.r 3] none [] <|
 .q 5 .len [.r 4] none <|
 .out [(0, .s 0), (91, .r 4), (92, .r 5), (93, .c z)]
def e83r17 : EE := .q 0 .lss [.s 93, .s 92] none <|
 .out [(0, .s 0), (91, .s 91), (92, .s 92), (93, .s 93), (94, .r 0)]
def e83r18 : EE := .q 0 (.ixs 1) [.s 91, .s 93] none <|
 .q 1 .ld [.r 0] none <|
 .x 2 (.alc [.nptr] 269) [] none [] <|
 .x 3 (.st 1) [.r 2, .r 1] none [] <|
 .out [(0, .s 0), (9, .r 2), (91, .s 91), (92, .s 92), (93, .s 93)]
def e83r19 : EE := .q 1 .ld [.s 9] none <|
 .q 2 .nl [.r 1] none <|
 .q 3 (.fld 0) [.r 2] none <|
 .q 4 (.lda 2) [.r 3] none <|
 .x 5 (.call 153) [.s 0, .r 4] none [] <|
 .q 6 .not [.r 5] none <|
 .out [(0, .s 0), (9, .s 9), (91, .s 91), (92, .s 92), (93, .s 93), (103, .r 6)]
def e83r20 : EE := .q 2 .nl [.s 0] none <|
 .q 3 (.fld 5) [.r 2] none <|
 .q 4 .ld [.r 3] none <|
 .q 5 (.mkf 155 0) [.s 9] none <|
 .x 6 (.call 154) [.r 4, .r 5] none [] <|
 .q 7 .nl [.s 0] none <|
 .q 8 (.fld 5) [.r 7] none <|
 .x 9 (.st 1) [.r 8, .r 6] none [] <|
 .out [(0, .s 0), (91, .s 91), (92, .s 92), (93, .s 93)]
def e83r21 : EE := .q 1 .ld [.s 9] none <|
 .q 2 .nl [.r 1] none <|
 .q 3 (.fld 0) [.r 2] none <|
 .q 4 (.lda 2) [.r 3] none <|
 .x 5 (.call 150) [.s 0, .r 4] none [] <|
 .q 6 (.eqp true) [.r 5, .c .nptr] none <|
 .out [(0, .s 0), (9, .s 9), (91, .s 91), (92, .s 92), (93, .s 93), (119, .r 6)]
def e83r22 : EE := .q 0 .ld [.s 9] none <|
 .q 1 .nl [.r 0] none <|
 .q 2 (.fld 2) [.r 1] none <|
 .q 3 .ld [.r 2] none <|
 .q 4 .add [.r 3, .c (.int .i64 1)] none <|
 .q 5 .nl [.r 0] none <|
 .q 6 (.fld 2) [.r 5] none <|
 .x 7 (.st 1) [.r 6, .r 4] none [] <|
 .out [(0, .s 0), (9, .s 9), (91, .s 91), (92, .s 92), (93, .s 93)]
def e83r23 : EE := .q 1 .nl [.s 0] none <|
 .q 2 (.fld 1) [.r 1] none <|
 .q 3 .ld [.r 2] none <|
 .q 4 .ld [.s 9] none <|
 .q 5 .nl [.r 4] none <|
 .q 6 (.fld 0) [.r 5] none <|
 .q 7 (.fld 0) [.r 6] none <|
 .q 8 .ld [.r 7] none <|
 .q 9 .sub [.r 3, .r 8] none <|
 .q 11 .nl [.s 0] none <|
 .q 12 (.fld 0) [.r 11] none <|
 .q 13 .ld [.r 12] none <|
 .q 14 .add [.r 9, .r 13] none <|
 .q 16 .nl [.s 0] none <|
 .q 17 (.fld 0) [.r 16] none <|
 .q 18 .ld [.r 17] none <|
 .q 19 .rem [.r 14, .r 18] none <|
 .out [(0, .s 0), (9, .s 9), (10, .r 19), (91, .s 91), (92, .s 92), (93, .s 93)]
def e83r24 : EE := .q 0 .ld [.s 9] none <|
 .q 1 .nl [.r 0] none <|
 .q 2 (.fld 2) [.r 1] none <|
 .q 3 .ld [.r 2] none <|
 .q 5 .mul [.c (.int .i64 6), .s 10] none <|
 .q 6 .add [.c (.int .i64 12), .r 5] none <|
 .q 7 .geq [.r 3, .r 6] none <|
 .q 9 .mv [.s 0] (some (.r 7, true)) <|
 .q 10 .ld [.s 9] (some (.r 7, true)) <|
 .q 11 .nl [.r 10] (some (.r 7, true)) <|
 .q 12 (.fld 0) [.r 11] (some (.r 7, true)) <|
 .q 13 (.lda 2) [.r 12] (some (.r 7, true)) <|
 .x 14 (.call 156) [.r 9, .r 13] (some (.r 7, true)) [] <|
 .q 15 .pick [.r 7, .r 14, .c (.bool false)] none <|
 .out [(0, .s 0), (9, .s 9), (91, .s 91), (92, .s 92), (93, .s 93), (162, .r 15)]
def e83r25 : EE := .q 0 .ld [.s 9] none <|
 .q 1 .nl [.r 0] none <|
 .q 2 (.fld 2) [.r 1] none <|
 .x 3 (.st 1) [.r 2, .c z] none [] <|
 .out [(0, .s 0), (91, .s 91), (92, .s 92), (93, .s 93)]
def e83r26 : EE := .q 0 .add [.s 93, .c (.int .i64 1)] none <|
 .out [(0, .s 0), (91, .s 91), (92, .s 92), (93, .r 0)]
def e83l27 : EC := (.seq (.reg e83r17 [0, 91, 92, 93] 0) (.seq (.cond (.s 94) .skip (.exit 4)) (.seq (.block 5 (.seq (.reg e83r18 [0, 91, 92, 93] 0) (.seq (.seq (.reg e83r19 [0, 9, 91, 92, 93] 0) (.cond (.s 103) (.seq (.reg e83r20 [0, 9, 91, 92, 93] 0) (.exit 5)) .skip)) (.seq (.seq (.reg e83r21 [0, 9, 91, 92, 93] 0) (.cond (.s 119) (.exit 5) .skip)) (.seq (.reg e83r22 [0, 9, 91, 92, 93] 0) (.seq (.reg e83r23 [0, 9, 91, 92, 93] 0) (.seq (.reg e83r24 [0, 9, 10, 91, 92, 93] 0) (.cond (.s 162) (.reg e83r25 [0, 9, 91, 92, 93] 0) .skip)))))))) (.reg e83r26 [0, 91, 92, 93] 0))))
def e83 : EFn := ⟨(.seq (.seq (.reg e83r0 [0] 0) (.block 0 (.loop [0, 15, 16, 17] e83l7))) (.seq (.seq (.reg e83r8 [0] 0) (.block 2 (.loop [0, 59, 60, 61] e83l15))) (.seq (.reg e83r16 [0] 0) (.block 4 (.loop [0, 91, 92, 93] e83l27))))), [], 167, 0⟩
theorem g83 : Good Tryz.prog 83 e83 := ⟨Tryz.f83, Tryz.func83, by kernel_rfl, by kernel_rfl, by kernel_rfl, by kernel_rfl⟩
/-! (*concord/node.Node).Top -/
def e86r0 : EE := .x 0 (.alc [z, z, z, z, z, z, z] 123) [] none [] <|
 .out [(0, .s 0), (2, .r 0)]
def e86r1 : EE := .q 1 .nl [.s 0] none <|
 .q 2 (.fld 4) [.r 1] none <|
 .q 3 .ld [.r 2] none <|
 .x 4 (.call 157) [.r 3] none [] <|
 .x 5 (.st 7) [.s 2, .r 4] none [] <|
 .out [(2, .s 2)]
def e86 : EFn := ⟨(.seq (.reg e86r0 [0] 0) (.seq (.reg e86r1 [0, 2] 0) .ret)), [.cells 2 7], 8, 0⟩
theorem g86 : Good Tryz.prog 86 e86 := ⟨Tryz.f86, Tryz.func86, by kernel_rfl, by kernel_rfl, by kernel_rfl, by kernel_rfl⟩
/-! (*concord/node.Node).Cut -/
def e87r0 : EE := .x 0 (.alc [z, z, z, z, z, z, z] 123) [] none [] <|
 .out [(0, .s 0), (2, .r 0)]
def e87r1 : EE := .q 1 .nl [.s 0] none <|
 .q 2 (.fld 4) [.r 1] none <|
 .q 3 .ld [.r 2] none <|
 .x 4 (.call 158) [.r 3] none [] <|
 .x 5 (.st 7) [.s 2, .r 4] none [] <|
 .out [(2, .s 2)]
def e87 : EFn := ⟨(.seq (.reg e87r0 [0] 0) (.seq (.reg e87r1 [0, 2] 0) .ret)), [.cells 2 7], 8, 0⟩
theorem g87 : Good Tryz.prog 87 e87 := ⟨Tryz.f87, Tryz.func87, by kernel_rfl, by kernel_rfl, by kernel_rfl, by kernel_rfl⟩
/-! concord/state.same -/
def e93r0 : EE := .x 0 (.box 73) [.s 0] none [] <|
 .x 1 (.box 73) [.s 1] none [] <|
 .out [(2, .r 0), (3, .r 1)]
def e93r1 : EE := .q 0 (.fld 0) [.s 2] none <|
 .q 1 .ld [.r 0] none <|
 .q 2 (.fld 0) [.s 3] none <|
 .q 3 .ld [.r 2] none <|
 .q 4 .eql [.r 1, .r 3] none <|
 .q 6 (.fld 1) [.s 2] (some (.r 4, true)) <|
 .q 7 .ld [.r 6] (some (.r 4, true)) <|
 .q 8 (.fld 1) [.s 3] (some (.r 4, true)) <|
 .q 9 .ld [.r 8] (some (.r 4, true)) <|
 .q 10 (.beq false) [.r 7, .r 9] (some (.r 4, true)) <|
 .q 11 .pick [.r 4, .r 10, .c (.bool false)] none <|
 .q 13 (.fld 2) [.s 2] (some (.r 11, true)) <|
 .q 14 .ld [.r 13] (some (.r 11, true)) <|
 .q 15 (.fld 2) [.s 3] (some (.r 11, true)) <|
 .q 16 .ld [.r 15] (some (.r 11, true)) <|
 .q 17 .seql [.r 14, .r 16] (some (.r 11, true)) <|
 .q 18 .pick [.r 11, .r 17, .c (.bool false)] none <|
 .q 20 (.fld 3) [.s 2] (some (.r 18, true)) <|
 .q 21 .ld [.r 20] (some (.r 18, true)) <|
 .q 22 (.fld 3) [.s 3] (some (.r 18, true)) <|
 .q 23 .ld [.r 22] (some (.r 18, true)) <|
 .q 24 .eql [.r 21, .r 23] (some (.r 18, true)) <|
 .q 25 .pick [.r 18, .r 24, .c (.bool false)] none <|
 .q 27 (.fld 4) [.s 2] (some (.r 25, true)) <|
 .q 28 .ld [.r 27] (some (.r 25, true)) <|
 .q 29 (.fld 4) [.s 3] (some (.r 25, true)) <|
 .q 30 .ld [.r 29] (some (.r 25, true)) <|
 .x 31 (.call 94) [.r 28, .r 30] (some (.r 25, true)) [] <|
 .q 32 .pick [.r 25, .r 31, .c (.bool false)] none <|
 .out [(4, .r 32)]
def e93 : EFn := ⟨(.seq (.reg e93r0 [0, 1] 0) (.seq (.reg e93r1 [2, 3] 0) .ret)), [.slot 4], 38, 0⟩
theorem g93 : Good Tryz.prog 93 e93 := ⟨Tryz.f93, Tryz.func93, by kernel_rfl, by kernel_rfl, by kernel_rfl, by kernel_rfl⟩
/-! slices.Equal[[]concord/api.Pair,concord/api.Pair] -/
def e94r0 : EE := .out [(0, .s 0), (1, .s 1)]
def e94r1 : EE := .q 1 .len [.s 0] none <|
 .q 3 .len [.s 1] none <|
 .q 4 .neq [.r 1, .r 3] none <|
 .out [(0, .s 0), (1, .s 1), (10, .r 4)]
def e94r2 : EE := .out [(4, .c (.bool false))]
def e94r3 : EE := .q 1 .len [.s 0] none <|
 .out [(0, .s 0), (1, .s 1), (12, .r 1), (13, .c z)]
def e94r4 : EE := .q 0 .lss [.s 13, .s 12] none <|
 .out [(0, .s 0), (1, .s 1), (12, .s 12), (13, .s 13), (14, .r 0)]
def e94r5 : EE := .out [(0, .s 0), (1, .s 1), (5, .s 13), (12, .s 12), (13, .s 13)]
def e94r6 : EE := .q 2 (.ixs 3) [.s 0, .s 5] none <|
 .q 3 (.lda 3) [.r 2] none <|
 .q 6 (.ixs 3) [.s 1, .s 5] none <|
 .q 7 (.lda 3) [.r 6] none <|
 .q 8 (.eqc true [.s, .s, (.i .i64)]) [.r 3, .r 7] none <|
 .out [(0, .s 0), (1, .s 1), (12, .s 12), (13, .s 13), (24, .r 8)]
def e94r7 : EE := .out [(4, .c (.bool false))]
def e94r8 : EE := .q 0 .add [.s 13, .c (.int .i64 1)] none <|
 .out [(0, .s 0), (1, .s 1), (12, .s 12), (13, .r 0)]
def e94l9 : EC := (.seq (.reg e94r4 [0, 1, 12, 13] 0) (.seq (.cond (.s 14) .skip (.exit 0)) (.seq (.block 1 (.seq (.reg e94r5 [0, 1, 12, 13] 0) (.seq (.reg e94r6 [0, 1, 5, 12, 13] 0) (.cond (.s 24) (.seq (.reg e94r7 [] 0) .ret) .skip)))) (.reg e94r8 [0, 1, 12, 13] 0))))
def e94r10 : EE := .out [(4, .c (.bool true))]
def e94 : EFn := ⟨(.seq (.reg e94r0 [0, 1] 0) (.seq (.seq (.reg e94r1 [0, 1] 0) (.cond (.s 10) (.seq (.reg e94r2 [] 0) .ret) .skip)) (.seq (.seq (.reg e94r3 [0, 1] 0) (.block 0 (.loop [0, 1, 12, 13] e94l9))) (.seq (.reg e94r10 [] 0) .ret)))), [.slot 4], 26, 0⟩
theorem g94 : Good Tryz.prog 94 e94 := ⟨Tryz.f94, Tryz.func94, by kernel_rfl, by kernel_rfl, by kernel_rfl, by kernel_rfl⟩
/-! concord/state.Play -/
def e95r0 : EE := .x 0 (.box 136) [.s 0] none [] <|
 .x 1 (.alc [.nsl, z, z, (.bool false), zs, z, .nsl, z, z, (.bool false), zs, z, .nsl, z, z, (.bool false), zs, z, .nsl, z, z, (.bool false), zs, z, .nsl, z, z, (.bool false), zs, z, .nsl, z, z, (.bool false), zs, z, .nsl, z, z, (.bool false), zs, z, .nsl, z, z, (.bool false), zs, z, .nsl] 136) [] none [] <|
 .out [(1, .s 1), (2, .r 0), (4, .r 1)]
def e95r1 : EE := .q 0 (.lda 49) [.s 2] none <|
 .x 1 (.call 163) [.r 0] none [] <|
 .x 2 (.st 49) [.s 2, .r 1] none [] <|
 .out [(1, .s 1), (2, .s 2), (4, .s 4)]
def e95r2 : EE := .out [(1, .s 1), (2, .s 2), (4, .s 4), (6, .c .nsl)]
def e95r3 : EE := .q 1 .len [.s 1] none <|
 .out [(2, .s 2), (4, .s 4), (6, .s 6), (12, .s 1), (13, .r 1), (14, .c z)]
def e95r4 : EE := .q 0 .lss [.s 14, .s 13] none <|
 .out [(2, .s 2), (4, .s 4), (6, .s 6), (12, .s 12), (13, .s 13), (14, .s 14), (15, .r 0)]
def e95r5 : EE := .q 0 (.ixs 7) [.s 12, .s 14] none <|
 .q 1 (.lda 7) [.r 0] none <|
 .x 2 (.alc [z, z, z, zs, zs, zs, zs] 24) [] none [] <|
 .x 3 (.st 7) [.r 2, .r 1] none [] <|
 .out [(2, .s 2), (4, .s 4), (6, .s 6), (8, .r 2), (12, .s 12), (13, .s 13), (14, .s 14)]
def e95r6 : EE := .x 0 (.alc [z, (.bool false), zs, z, .nsl] 73) [] none [] <|
 .out [(2, .s 2), (4, .s 4), (6, .s 6), (8, .s 8), (9, .r 0), (12, .s 12), (13, .s 13), (14, .s 14)]
def e95r7 : EE := .q 0 (.lda 49) [.s 2] none <|
 .q 1 (.lda 7) [.s 8] none <|
 .x 2 (.call 164) [.r 0, .r 1] none [] <|
 .q 4 (.ext 0) [.r 2] none <|
 .q 5 (.ext 1) [.r 2] none <|
 .x 6 (.st 49) [.s 2, .r 4] none [] <|
 .x 7 (.st 5) [.s 9, .r 5] none [] <|
 .out [(2, .s 2), (4, .s 4), (6, .s 6), (9, .s 9), (12, .s 12), (13, .s 13), (14, .s 14)]
def e95r8 : EE := .q 1 (.lda 5) [.s 9] none <|
 .x 2 (.bsl 73 1 [z, (.bool false), zs, z, .nsl] [(0, 5)]) [.r 1] none [] <|
 .x 3 (.app 73 5 64 [z, (.bool false), zs, z, .nsl]) [.s 6, .r 2] none [] <|
 .out [(2, .s 2), (4, .s 4), (6, .r 3), (12, .s 12), (13, .s 13), (14, .s 14)]
def e95r9 : EE := .q 0 .add [.s 14, .c (.int .i64 1)] none <|
 .out [(2, .s 2), (4, .s 4), (6, .s 6), (12, .s 12), (13, .s 13), (14, .r 0)]
def e95l10 : EC := (.seq (.reg e95r4 [2, 4, 6, 12, 13, 14] 0) (.seq (.cond (.s 15) .skip (.exit 0)) (.seq (.block 1 (.seq (.reg e95r5 [2, 4, 6, 12, 13, 14] 0) (.seq (.reg e95r6 [2, 4, 6, 8, 12, 13, 14] 0) (.seq (.reg e95r7 [2, 4, 6, 8, 9, 12, 13, 14] 0) (.reg e95r8 [2, 4, 6, 9, 12, 13, 14] 0))))) (.reg e95r9 [2, 4, 6, 12, 13, 14] 0))))
def e95r11 : EE := .q 0 (.lda 49) [.s 2] none <|
 .x 2 (.st 49) [.s 4, .r 0] none [] <|
 .out [(4, .s 4), (5, .s 6)]
def e95 : EFn := ⟨(.seq (.reg e95r0 [0, 1] 0) (.seq (.reg e95r1 [1, 2, 4] 0) (.seq (.reg e95r2 [1, 2, 4] 0) (.seq (.seq (.reg e95r3 [1, 2, 4, 6] 0) (.block 0 (.loop [2, 4, 6, 12, 13, 14] e95l10))) (.seq (.reg e95r11 [2, 4, 6] 0) .ret))))), [.cells 4 49, .slot 5], 31, 0⟩
theorem g95 : Good Tryz.prog 95 e95 := ⟨Tryz.f95, Tryz.func95, by kernel_rfl, by kernel_rfl, by kernel_rfl, by kernel_rfl⟩
/-! internal/strconv.small -/
def e96r0 : EE := .out [(0, .s 0)]
def e96r1 : EE := .q 1 .lss [.s 0, .c (.int .i64 10)] none <|
 .out [(0, .s 0), (4, .r 1)]
def e96r2 : EE := .q 2 .add [.s 0, .c (.int .i64 1)] none <|
 .q 3 (.slcs true true) [.c (.str [48, 49, 50, 51, 52, 53, 54, 55, 56, 57, 97, 98, 99, 100, 101, 102, 103, 104, 105, 106, 107, 108, 109, 110, 111, 112, 113, 114, 115, 116, 117, 118, 119, 120, 121, 122]), .s 0, .r 2] none <|
 .out [(2, .r 3)]
def e96r3 : EE := .q 1 .mul [.s 0, .c (.int .i64 2)] none <|
 .q 3 .mul [.s 0, .c (.int .i64 2)] none <|
 .q 4 .add [.r 3, .c (.int .i64 2)] none <|
 .q 5 (.slcs true true) [.c (.str [48, 48, 48, 49, 48, 50, 48, 51, 48, 52, 48, 53, 48, 54, 48, 55, 48, 56, 48, 57, 49, 48, 49, 49, 49, 50, 49, 51, 49, 52, 49, 53, 49, 54, 49, 55, 49, 56, 49, 57, 50, 48, 50, 49, 50, 50, 50, 51, 50, 52, 50, 53, 50, 54, 50, 55, 50, 56, 50, 57, 51, 48, 51, 49, 51, 50, 51, 51, 51, 52, 51, 53, 51, 54, 51, 55, 51, 56, 51, 57, 52, 48, 52, 49, 52, 50, 52, 51, 52, 52, 52, 53, 52, 54, 52, 55, 52, 56, 52, 57, 53, 48, 53, 49, 53, 50, 53, 51, 53, 52, 53, 53, 53, 54, 53, 55, 53, 56, 53, 57, 54, 48, 54, 49, 54, 50, 54, 51, 54, 52, 54, 53, 54, 54, 54, 55, 54, 56, 54, 57, 55, 48, 55, 49, 55, 50, 55, 51, 55, 52, 55, 53, 55, 54, 55, 55, 55, 56, 55, 57, 56, 48, 56, 49, 56, 50, 56, 51, 56, 52, 56, 53, 56, 54, 56, 55, 56, 56, 56, 57, 57, 48, 57, 49, 57, 50, 57, 51, 57, 52, 57, 53, 57, 54, 57, 55, 57, 56, 57, 57]), .r 1, .r 4] none <|
 .out [(2, .r 5)]
def e96 : EFn := ⟨(.seq (.reg e96r0 [0] 0) (.seq (.seq (.reg e96r1 [0] 0) (.cond (.s 4) (.seq (.reg e96r2 [0] 0) .ret) .skip)) (.seq (.reg e96r3 [0] 0) .ret))), [.slot 2], 15, 0⟩
theorem g96 : Good Tryz.prog 96 e96 := ⟨Tryz.f96, Tryz.func96, by kernel_rfl, by kernel_rfl, by kernel_rfl, by kernel_rfl⟩
/-! internal/strconv.numDigits -/
def e97r0 : EE := .out [(0, .s 0)]
def e97r1 : EE := .x 1 (.call 166) [.s 0] none [] <|
 .x 2 (.call 165) [.r 1] none [] <|
 .out [(0, .s 0), (3, .r 2)]
def e97r2 : EE := .q 3 (.ixa 20 1) [.g 0, .s 3] none <|
 .q 4 .ld [.r 3] none <|
 .q 5 .geq [.s 0, .r 4] none <|
 .x 6 (.call 167) [.r 5] none [] <|
 .q 7 .add [.s 3, .r 6] none <|
 .out [(2, .r 7)]
def e97 : EFn := ⟨(.seq (.reg e97r0 [0] 0) (.seq (.reg e97r1 [0] 0) (.seq (.reg e97r2 [0, 3] 0) .ret))), [.slot 2], 15, 0⟩
theorem g97 : Good Tryz.prog 97 e97 := ⟨Tryz.f97, Tryz.func97, by kernel_rfl, by kernel_rfl, by kernel_rfl, by kernel_rfl⟩
end Go.Ev
