import Derived.Test.YtpjecpkkcabnjaaGreatDoorEvB
import Derived.Test.YtpjecpkkcabnjaaGreatDoorProg
set_option linter.unusedVariables false
set_option linter.unusedSimpArgs false
namespace Go.Ev
open Go.Fw Go.Proofs
/-! (*concord/wal.Wal).Add -/
def e222r0 : EE := .out [(0, .s 0), (1, .s 1)]
def e222r1 : EE := .q 1 .nl [.s 0] none <|
 .q 2 (.fld 3) [.r 1] none <|
 .q 3 .ld [.r 2] none <|
 .out [(0, .s 0), (1, .s 1), (14, .r 3)]
def e222r2 : EE := .out [(4, .c (.int .i64 10))]
def e222r3 : EE := .q 1 .nl [.s 0] none <|
 .q 2 (.fld 1) [.r 1] none <|
 .q 3 (.fld 0) [.r 2] none <|
 .q 4 .ld [.r 3] none <|
 .q 5 .eql [.r 4, .c z] none <|
 .out [(0, .s 0), (1, .s 1), (20, .r 5)]
def e222r4 : EE := .out [(4, .c (.int .i64 8))]
def e222r5 : EE := .x 1 (.call 151) [.c .nsl, .s 1] none [] <|
 .q 3 (.ext 0) [.r 1] none <|
 .q 4 (.ext 1) [.r 1] none <|
 .out [(0, .s 0), (1, .s 1), (5, .r 3), (6, .r 4)]
def e222r6 : EE := .q 1 .not [.s 6] none <|
 .out [(0, .s 0), (1, .s 1), (5, .s 5), (27, .r 1)]
def e222r7 : EE := .out [(4, .c (.int .i64 1))]
def e222r8 : EE := .q 1 .len [.s 1] none <|
 .q 2 .eql [.r 1, .c z] none <|
 .out [(0, .s 0), (5, .s 5), (30, .r 2)]
def e222r9 : EE := .out [(4, .c z)]
def e222r10 : EE := .q 1 .nl [.s 0] none <|
 .q 2 (.fld 1) [.r 1] none <|
 .q 3 (.lda 2) [.r 2] none <|
 .x 4 (.alc [z, z] 243) [] none [] <|
 .x 5 (.st 2) [.r 4, .r 3] none [] <|
 .out [(0, .s 0), (5, .s 5), (7, .r 4)]
def e222r11 : EE := .q 1 .nl [.s 0] none <|
 .q 2 (.fld 0) [.r 1] none <|
 .q 3 .ld [.r 2] none <|
 .q 4 (.lda 2) [.s 7] none <|
 .x 5 (.call 138) [.r 4] none [⟨3, .ld, [.r 2], none⟩] <|
 .x 6 (.call 132) [.r 3, .r 5] none [] <|
 .q 8 (.ext 0) [.r 6] none <|
 .q 9 (.ext 1) [.r 6] none <|
 .out [(0, .s 0), (5, .s 5), (7, .s 7), (8, .r 8)]
def e222r12 : EE := .q 1 .len [.s 8] none <|
 .q 2 .gtr [.r 1, .c (.int .i64 4096)] none <|
 .q 4 (.fld 1) [.s 7] (some (.r 2, true)) <|
 .q 5 .ld [.r 4] (some (.r 2, true)) <|
 .q 6 .lss [.r 5, .c (.int .i64 999999999)] (some (.r 2, true)) <|
 .q 7 .pick [.r 2, .r 6, .c (.bool false)] none <|
 .out [(0, .s 0), (5, .s 5), (7, .s 7), (52, .r 7)]
def e222r13 : EE := .q 0 (.fld 1) [.s 7] none <|
 .q 1 .ld [.r 0] none <|
 .q 2 .add [.r 1, .c (.int .i64 1)] none <|
 .q 3 (.fld 1) [.s 7] none <|
 .x 4 (.st 1) [.r 3, .r 2] none [] <|
 .out [(0, .s 0), (5, .s 5), (7, .s 7)]
def e222r14 : EE := .q 1 (.lda 2) [.s 7] none <|
 .x 3 (.call 154) [.s 0, .r 1, .s 5] none [] <|
 .out [(0, .s 0), (7, .s 7), (10, .r 3)]
def e222r15 : EE := .q 1 .neq [.s 10, .c z] none <|
 .out [(0, .s 0), (7, .s 7), (10, .s 10), (62, .r 1)]
def e222r16 : EE := .out [(4, .s 10)]
def e222r17 : EE := .q 1 (.lda 2) [.s 7] none <|
 .q 2 .nl [.s 0] none <|
 .q 3 (.fld 1) [.r 2] none <|
 .x 4 (.st 2) [.r 3, .r 1] none [] <|
 .out []
def e222r18 : EE := .out [(4, .c z)]
def e222 : EFn := ⟨(.seq (.reg e222r0 [0, 1] 0) (.seq (.seq (.reg e222r1 [0, 1] 0) (.cond (.s 14) (.seq (.reg e222r2 [] 0) .ret) .skip)) (.seq (.seq (.reg e222r3 [0, 1] 0) (.cond (.s 20) (.seq (.reg e222r4 [] 0) .ret) .skip)) (.seq (.reg e222r5 [0, 1] 0) (.seq (.seq (.reg e222r6 [0, 1, 5, 6] 0) (.cond (.s 27) (.seq (.reg e222r7 [] 0) .ret) .skip)) (.seq (.seq (.reg e222r8 [0, 1, 5] 0) (.cond (.s 30) (.seq (.reg e222r9 [] 0) .ret) .skip)) (.seq (.reg e222r10 [0, 5] 0) (.seq (.seq (.reg e222r11 [0, 5, 7] 0) (.seq (.reg e222r12 [0, 5, 7, 8] 0) (.cond (.s 52) (.reg e222r13 [0, 5, 7] 0) .skip))) (.seq (.seq (.reg e222r14 [0, 5, 7] 0) (.seq (.reg e222r15 [0, 7, 10] 0) (.cond (.s 62) (.seq (.reg e222r16 [10] 0) .ret) .skip))) (.seq (.reg e222r17 [0, 7] 0) (.seq (.reg e222r18 [] 0) .ret))))))))))), [.slot 4], 68, 0⟩
theorem g222 : Good Tryz.prog 222 e222 := ⟨Tryz.f222, Tryz.func222, by kernel_rfl, by kernel_rfl, by kernel_rfl, by kernel_rfl⟩
/-! concord/exec.Plan -/
def e224r0 : EE := .x 0 (.box 133) [.s 0] none [] <|
 .out [(1, .s 1), (2, .r 0)]
def e224r1 : EE := .q 0 (.lda 7) [.s 2] none <|
 .x 1 .mkm [] none [] <|
 .q 2 (.bld [z, z, z, z, z, z, z, .nmap, .nsl] [(0, 7), (7, 1)]) [.r 0, .r 1] none <|
 .x 3 (.box 407) [.r 2] none [] <|
 .out [(1, .s 1), (6, .r 3)]
def e224r2 : EE := .q 1 .len [.s 1] none <|
 .out [(6, .s 6), (17, .s 1), (18, .r 1), (19, .c z)]
def e224r3 : EE := .q 0 .lss [.s 19, .s 18] none <|
 .out [(6, .s 6), (17, .s 17), (18, .s 18), (19, .s 19), (20, .r 0)]
def e224r4 : EE := .q 0 (.ixs 23) [.s 17, .s 19] none <|
 .q 1 (.lda 23) [.r 0] none <|
 .x 2 (.alc [z, z, z, z, z, z, z, z, z, z, zs, zs, zs, zs, z, z, z, z, z, z, z, z, (.bool false)] 346) [] none [] <|
 .x 3 (.st 23) [.r 2, .r 1] none [] <|
 .out [(6, .s 6), (8, .r 2), (17, .s 17), (18, .s 18), (19, .s 19)]
def e224r5 : EE := .q 1 .nl [.s 6] none <|
 .q 2 (.fld 7) [.r 1] none <|
 .q 3 .ld [.r 2] none <|
 .q 4 (.fld 0) [.s 8] none <|
 .q 5 (.lda 2) [.r 4] none <|
 .q 6 (.lkp true [(.i .i64), (.i .i64)] (.agg [z, z, z, z, z, z, z, z, zs, zs, zs, zs, z, z, z, z, z, z, z, z, (.bool false)]) true) [.r 3, .r 5] none <|
 .q 8 (.ext 0) [.r 6] none <|
 .q 9 (.ext 1) [.r 6] none <|
 .x 10 (.alc [z, z, z, z, z, z, z, z, zs, zs, zs, zs, z, z, z, z, z, z, z, z, (.bool false)] 137) [] none [⟨3, .ld, [.r 2], none⟩, ⟨5, (.lda 2), [.r 4], none⟩, ⟨6, (.lkp true [(.i .i64), (.i .i64)] (.agg [z, z, z, z, z, z, z, z, zs, zs, zs, zs, z, z, z, z, z, z, z, z, (.bool false)]) true), [.r 3, .r 5], none⟩] <|
 .x 11 (.st 21) [.r 10, .r 8] none [] <|
 .out [(6, .s 6), (8, .s 8), (10, .r 9), (17, .s 17), (18, .s 18), (19, .s 19)]
def e224r6 : EE := .q 2 (.fld 2) [.s 8] (some (.s 10, false)) <|
 .q 3 (.fld 0) [.r 2] (some (.s 10, false)) <|
 .q 4 .ld [.r 3] (some (.s 10, false)) <|
 .q 5 .neq [.r 4, .c (.int .i64 3)] (some (.s 10, false)) <|
 .q 6 .pick [.s 10, .c (.bool true), .r 5] none <|
 .out [(6, .s 6), (8, .s 8), (17, .s 17), (18, .s 18), (19, .s 19), (39, .r 6)]
def e224r7 : EE := .q 1 .nl [.s 6] none <|
 .q 2 (.fld 7) [.r 1] none <|
 .q 3 .ld [.r 2] none <|
 .q 4 (.fld 0) [.s 8] none <|
 .q 5 (.lda 2) [.r 4] none <|
 .q 6 (.fld 2) [.s 8] none <|
 .q 7 (.lda 21) [.r 6] none <|
 .x 8 (.mup true [(.i .i64), (.i .i64)]) [.r 3, .r 5, .r 7] none [] <|
 .out [(6, .s 6), (17, .s 17), (18, .s 18), (19, .s 19)]
def e224r8 : EE := .q 0 .add [.s 19, .c (.int .i64 1)] none <|
 .out [(6, .s 6), (17, .s 17), (18, .s 18), (19, .r 0)]
def e224l9 : EC := (.seq (.reg e224r3 [6, 17, 18, 19] 0) (.seq (.cond (.s 20) .skip (.exit 0)) (.seq (.block 1 (.seq (.reg e224r4 [6, 17, 18, 19] 0) (.seq (.seq (.reg e224r5 [6, 8, 17, 18, 19] 0) (.seq (.reg e224r6 [6, 8, 10, 17, 18, 19] 0) (.cond (.s 39) (.exit 1) .skip))) (.reg e224r7 [6, 8, 17, 18, 19] 0)))) (.reg e224r8 [6, 17, 18, 19] 0))))
def e224r10 : EE := .x 1 (.call 285) [.s 6] none [] <|
 .q 3 (.ext 0) [.r 1] none <|
 .q 4 (.ext 1) [.r 1] none <|
 .out [(6, .s 6), (11, .r 3), (12, .r 4)]
def e224r11 : EE := .q 1 .not [.s 11] none <|
 .out [(6, .s 6), (12, .s 12), (55, .r 1)]
def e224r12 : EE := .q 1 .nl [.s 6] none <|
 .q 2 (.fld 8) [.r 1] none <|
 .q 3 .ld [.r 2] none <|
 .x 5 (.call 286) [.s 12] none [⟨3, .ld, [.r 2], none⟩] <|
 .out [(4, .r 3), (5, .r 5)]
def e224l13 : EC := (.block 3 (.seq (.reg e224r10 [6] 0) (.seq (.reg e224r11 [6, 11, 12] 0) (.cond (.s 55) (.seq (.reg e224r12 [6, 12] 0) .ret) .skip))))
def e224 : EFn := ⟨(.seq (.reg e224r0 [0, 1] 0) (.seq (.reg e224r1 [1, 2] 0) (.seq (.seq (.reg e224r2 [1, 6] 0) (.block 0 (.loop [6, 17, 18, 19] e224l9))) (.block 2 (.loop [6] e224l13))))), [.slot 4, .slot 5], 62, 0⟩
theorem g224 : Good Tryz.prog 224 e224 := ⟨Tryz.f224, Tryz.func224, by kernel_rfl, by kernel_rfl, by kernel_rfl, by kernel_rfl⟩
/-! (*concord/node.Node).committed -/
def e225r0 : EE := .out [(0, .s 0)]
def e225r1 : EE := .out [(0, .s 0), (3, .c .nsl)]
def e225r2 : EE := .q 1 .nl [.s 0] none <|
 .q 2 (.fld 4) [.r 1] none <|
 .q 3 .ld [.r 2] none <|
 .x 4 (.call 232) [.r 3] none [] <|
 .q 5 .len [.r 4] none <|
 .out [(0, .s 0), (3, .s 3), (12, .r 4), (13, .r 5), (14, .c z)]
def e225r3 : EE := .q 0 .lss [.s 14, .s 13] none <|
 .out [(0, .s 0), (3, .s 3), (12, .s 12), (13, .s 13), (14, .s 14), (15, .r 0)]
def e225r4 : EE := .q 0 (.ixs 2) [.s 12, .s 14] none <|
 .q 1 (.lda 2) [.r 0] none <|
 .x 2 (.alc [z, z] 129) [] none [] <|
 .x 3 (.st 2) [.r 2, .r 1] none [] <|
 .out [(0, .s 0), (3, .s 3), (5, .r 2), (12, .s 12), (13, .s 13), (14, .s 14)]
def e225r5 : EE := .q 1 .nl [.s 0] none <|
 .q 2 (.fld 4) [.r 1] none <|
 .q 3 .ld [.r 2] none <|
 .q 4 (.lda 2) [.s 5] none <|
 .both false
 (.x 5 (.call 183) [.r 3, .r 4] none [] <|
 .q 7 (.ext 0) [.r 5] none <|
 .q 8 (.ext 1) [.r 5] none <|
 .x 9 (.alc [z, z, z, z, z, z, z, z, zs, zs, zs, zs, z, z, z, z, z, z, z, z, (.bool false)] 137) [] none [⟨3, .ld, [.r 2], none⟩, ⟨4, (.lda 2), [.s 5], none⟩] <|
 .x 10 (.st 21) [.r 9, .r 7] none [] <|
 .out [(0, .s 0), (3, .s 3), (5, .s 5), (6, .r 9), (12, .s 12), (13, .s 13), (14, .s 14)])
 (.x 9 (.alc [z, z, z, z, z, z, z, z, zs, zs, zs, zs, z, z, z, z, z, z, z, z, (.bool false)] 137) [] none [⟨3, .ld, [.r 2], none⟩, ⟨4, (.lda 2), [.s 5], none⟩] <|
 .x 5 (.call 183) [.r 3, .r 4] none [] <|
 .q 7 (.ext 0) [.r 5] none <|
 .q 8 (.ext 1) [.r 5] none <|
 .x 10 (.st 21) [.r 9, .r 7] none [] <|
 .out [(0, .s 0), (3, .s 3), (5, .s 5), (6, .r 9), (12, .s 12), (13, .s 13), (14, .s 14)])
def e225r6 : EE := .q 0 (.fld 1) [.s 5] none <|
 .q 1 .ld [.r 0] none <|
 .q 3 (.fld 0) [.s 5] none <|
 .q 4 .ld [.r 3] none <|
 .q 5 .nl [.s 0] none <|
 .q 6 (.fld 55) [.r 5] none <|
 .q 7 (.ixa 7 1) [.r 6, .r 4] none <|
 .q 8 .ld [.r 7] none <|
 .q 9 .gtr [.r 1, .r 8] none <|
 .q 11 (.fld 0) [.s 6] (some (.r 9, true)) <|
 .q 12 .ld [.r 11] (some (.r 9, true)) <|
 .q 13 .eql [.r 12, .c (.int .i64 3)] (some (.r 9, true)) <|
 .q 14 .pick [.r 9, .r 13, .c (.bool false)] none <|
 .out [(0, .s 0), (3, .s 3), (5, .s 5), (6, .s 6), (12, .s 12), (13, .s 13), (14, .s 14), (41, .r 14)]
def e225r7 : EE := .q 1 (.lda 2) [.s 5] none <|
 .q 2 (.lda 21) [.s 6] none <|
 .q 3 (.bld [z, z, z, z, z, z, z, z, z, z, zs, zs, zs, zs, z, z, z, z, z, z, z, z, (.bool false)] [(0, 2), (2, 21)]) [.r 1, .r 2] none <|
 .x 4 (.bsl 346 1 [z, z, z, z, z, z, z, z, z, z, zs, zs, zs, zs, z, z, z, z, z, z, z, z, (.bool false)] [(0, 23)]) [.r 3] none [] <|
 .x 5 (.app 346 23 216 [z, z, z, z, z, z, z, z, z, z, zs, zs, zs, zs, z, z, z, z, z, z, z, z, (.bool false)]) [.s 3, .r 4] none [] <|
 .out [(0, .s 0), (3, .r 5), (12, .s 12), (13, .s 13), (14, .s 14)]
def e225r8 : EE := .q 0 .add [.s 14, .c (.int .i64 1)] none <|
 .out [(0, .s 0), (3, .s 3), (12, .s 12), (13, .s 13), (14, .r 0)]
def e225l9 : EC := (.seq (.reg e225r3 [0, 3, 12, 13, 14] 0) (.seq (.cond (.s 15) .skip (.exit 0)) (.seq (.block 1 (.seq (.reg e225r4 [0, 3, 12, 13, 14] 0) (.seq (.reg e225r5 [0, 3, 5, 12, 13, 14] 11) (.seq (.reg e225r6 [0, 3, 5, 6, 12, 13, 14] 0) (.cond (.s 41) (.reg e225r7 [0, 3, 5, 6, 12, 13, 14] 0) .skip))))) (.reg e225r8 [0, 3, 12, 13, 14] 0))))
def e225r10 : EE := .out [(2, .s 3)]
def e225 : EFn := ⟨(.seq (.reg e225r0 [0] 0) (.seq (.reg e225r1 [0] 0) (.seq (.seq (.reg e225r2 [0, 3] 0) (.block 0 (.loop [0, 3, 12, 13, 14] e225l9))) (.seq (.reg e225r10 [3] 0) .ret)))), [.slot 2], 50, 0⟩
theorem g225 : Good Tryz.prog 225 e225 := ⟨Tryz.f225, Tryz.func225, by kernel_rfl, by kernel_rfl, by kernel_rfl, by kernel_rfl⟩
/-! (*concord/front.Fronts).Stable -/
def e230r0 : EE := .x 0 (.alc [z, z, z, z, z, z, z] 133) [] none [] <|
 .out [(0, .s 0), (2, .r 0)]
def e230r1 : EE := .q 2 .nl [.s 0] none <|
 .q 3 (.fld 1) [.r 2] none <|
 .q 4 .ld [.r 3] none <|
 .q 5 .nl [.s 0] none <|
 .q 6 (.fld 2) [.r 5] none <|
 .q 7 (.ixa 7 7) [.r 6, .r 4] none <|
 .q 8 (.lda 7) [.r 7] none <|
 .x 9 (.alc [z, z, z, z, z, z, z] 133) [] none [⟨4, .ld, [.r 3], none⟩, ⟨8, (.lda 7), [.r 7], none⟩] <|
 .x 10 (.st 7) [.r 9, .r 8] none [] <|
 .out [(0, .s 0), (2, .s 2), (3, .r 9)]
def e230r2 : EE := .q 1 .nl [.s 0] none <|
 .q 2 (.fld 0) [.r 1] none <|
 .q 3 .ld [.r 2] none <|
 .out [(0, .s 0), (2, .s 2), (3, .s 3), (19, .r 3), (20, .c z)]
def e230r3 : EE := .q 0 .lss [.s 20, .s 19] none <|
 .out [(0, .s 0), (2, .s 2), (3, .s 3), (19, .s 19), (20, .s 20), (21, .r 0)]
def e230r4 : EE := .out [(0, .s 0), (2, .s 2), (3, .s 3), (4, .s 20), (19, .s 19), (20, .s 20)]
def e230r5 : EE := .q 2 .nl [.s 0] none <|
 .q 3 (.fld 2) [.r 2] none <|
 .q 4 (.ixa 7 7) [.r 3, .s 4] none <|
 .q 5 (.lda 7) [.r 4] none <|
 .out [(0, .s 0), (2, .s 2), (3, .s 3), (19, .s 19), (20, .s 20), (28, .r 5), (29, .c z)]
def e230r6 : EE := .q 0 .lss [.s 29, .c (.int .i64 7)] none <|
 .out [(0, .s 0), (2, .s 2), (3, .s 3), (19, .s 19), (20, .s 20), (28, .s 28), (29, .s 29), (30, .r 0)]
def e230r7 : EE := .q 1 (.idx 7 1) [.s 28, .s 29] none <|
 .out [(0, .s 0), (2, .s 2), (3, .s 3), (5, .s 29), (6, .r 1), (19, .s 19), (20, .s 20), (28, .s 28), (29, .s 29)]
def e230r8 : EE := .q 2 (.ixa 7 1) [.s 3, .s 5] none <|
 .q 3 .ld [.r 2] none <|
 .q 5 .mn [.r 3, .s 6] none <|
 .q 6 (.ixa 7 1) [.s 3, .s 5] none <|
 .x 7 (.st 1) [.r 6, .r 5] none [] <|
 .out [(0, .s 0), (2, .s 2), (3, .s 3), (19, .s 19), (20, .s 20), (28, .s 28), (29, .s 29)]
def e230r9 : EE := .q 0 .add [.s 29, .c (.int .i64 1)] none <|
 .out [(0, .s 0), (2, .s 2), (3, .s 3), (19, .s 19), (20, .s 20), (28, .s 28), (29, .r 0)]
def e230l10 : EC := (.seq (.reg e230r6 [0, 2, 3, 19, 20, 28, 29] 0) (.seq (.cond (.s 30) .skip (.exit 2)) (.seq (.block 3 (.seq (.reg e230r7 [0, 2, 3, 19, 20, 28, 29] 0) (.reg e230r8 [0, 2, 3, 5, 6, 19, 20, 28, 29] 0))) (.reg e230r9 [0, 2, 3, 19, 20, 28, 29] 0))))
def e230r11 : EE := .q 0 .add [.s 20, .c (.int .i64 1)] none <|
 .out [(0, .s 0), (2, .s 2), (3, .s 3), (19, .s 19), (20, .r 0)]
def e230l12 : EC := (.seq (.reg e230r3 [0, 2, 3, 19, 20] 0) (.seq (.cond (.s 21) .skip (.exit 0)) (.seq (.block 1 (.seq (.reg e230r4 [0, 2, 3, 19, 20] 0) (.seq (.reg e230r5 [0, 2, 3, 4, 19, 20] 0) (.block 2 (.loop [0, 2, 3, 19, 20, 28, 29] e230l10))))) (.reg e230r11 [0, 2, 3, 19, 20] 0))))
def e230r13 : EE := .q 0 (.lda 7) [.s 3] none <|
 .x 1 (.st 7) [.s 2, .r 0] none [] <|
 .out [(2, .s 2)]
def e230 : EFn := ⟨(.seq (.reg e230r0 [0] 0) (.seq (.reg e230r1 [0, 2] 0) (.seq (.seq (.reg e230r2 [0, 2, 3] 0) (.block 0 (.loop [0, 2, 3, 19, 20] e230l12))) (.seq (.reg e230r13 [2, 3] 0) .ret)))), [.cells 2 7], 43, 0⟩
theorem g230 : Good Tryz.prog 230 e230 := ⟨Tryz.f230, Tryz.func230, by kernel_rfl, by kernel_rfl, by kernel_rfl, by kernel_rfl⟩
/-! (*concord/core.Core).Cells -/
def e232r0 : EE := .out [(0, .s 0)]
def e232r1 : EE := .q 1 .nl [.s 0] none <|
 .q 2 (.fld 2) [.r 1] none <|
 .q 3 .ld [.r 2] none <|
 .x 4 (.call 172) [.r 3] none [] <|
 .out [(2, .r 4)]
def e232 : EFn := ⟨(.seq (.reg e232r0 [0] 0) (.seq (.reg e232r1 [0] 0) .ret)), [.slot 2], 8, 0⟩
theorem g232 : Good Tryz.prog 232 e232 := ⟨Tryz.f232, Tryz.func232, by kernel_rfl, by kernel_rfl, by kernel_rfl, by kernel_rfl⟩
/-! slices.SortFunc[[]concord/api.Inst,concord/api.Inst] -/
def e253r0 : EE := .q 1 .len [.s 0] none <|
 .out [(0, .s 0), (1, .s 1), (4, .r 1)]
def e253r1 : EE := .q 3 (.conv .u64) [.s 4] none <|
 .x 4 (.call 305) [.r 3] none [] <|
 .x 6 (.call 304) [.s 0, .c z, .s 4, .r 4, .s 1] none [] <|
 .out []
def e253 : EFn := ⟨(.seq (.reg e253r0 [0, 1] 0) (.reg e253r1 [0, 1, 4] 0)), [], 14, 0⟩
theorem g253 : Good Tryz.prog 253 e253 := ⟨Tryz.f253, Tryz.func253, by kernel_rfl, by kernel_rfl, by kernel_rfl, by kernel_rfl⟩
/-! (*concord/log.Log).Top -/
def e263r0 : EE := .x 0 (.alc [z, z, z, z, z, z, z] 133) [] none [] <|
 .out [(0, .s 0), (2, .r 0)]
def e263r1 : EE := .q 1 .nl [.s 0] none <|
 .q 2 (.fld 1) [.r 1] none <|
 .q 3 (.lda 7) [.r 2] none <|
 .x 4 (.alc [z, z, z, z, z, z, z] 133) [] none [] <|
 .x 5 (.st 7) [.r 4, .r 3] none [] <|
 .out [(0, .s 0), (2, .s 2), (3, .r 4)]
def e263r2 : EE := .q 1 .nl [.s 0] none <|
 .q 2 (.fld 0) [.r 1] none <|
 .q 3 .ld [.r 2] none <|
 .x 4 .rng [.r 3] none [] <|
 .out [(2, .s 2), (3, .s 3), (13, .r 4)]
def e263r3 : EE := .x 0 .nxt [.s 13] none [] <|
 .q 1 (.ext 0) [.r 0] none <|
 .out [(2, .s 2), (3, .s 3), (13, .s 13), (15, .r 1)]
def e263r4 : EE := .q 0 .ent [.s 13] none <|
 .q 1 (.ext 0) [.r 0] none <|
 .x 2 (.alc [z, z] 129) [] none [] <|
 .x 3 (.st 2) [.r 2, .r 1] none [] <|
 .out [(2, .s 2), (3, .s 3), (4, .r 2), (13, .s 13)]
def e263r5 : EE := .q 0 (.fld 0) [.s 4] none <|
 .q 1 .ld [.r 0] none <|
 .q 2 (.fld 0) [.s 4] none <|
 .q 3 .ld [.r 2] none <|
 .q 4 (.ixa 7 1) [.s 3, .r 3] none <|
 .q 5 .ld [.r 4] none <|
 .q 6 (.fld 1) [.s 4] none <|
 .q 7 .ld [.r 6] none <|
 .q 8 .mx [.r 5, .r 7] none <|
 .q 9 (.ixa 7 1) [.s 3, .r 1] none <|
 .x 10 (.st 1) [.r 9, .r 8] none [] <|
 .out [(2, .s 2), (3, .s 3), (13, .s 13)]
def e263l6 : EC := (.seq (.reg e263r3 [2, 3, 13] 0) (.seq (.cond (.s 15) .skip (.exit 0)) (.block 1 (.seq (.reg e263r4 [2, 3, 13] 0) (.reg e263r5 [2, 3, 4, 13] 0)))))
def e263r7 : EE := .q 0 (.lda 7) [.s 3] none <|
 .x 1 (.st 7) [.s 2, .r 0] none [] <|
 .out [(2, .s 2)]
def e263 : EFn := ⟨(.seq (.reg e263r0 [0] 0) (.seq (.reg e263r1 [0, 2] 0) (.seq (.seq (.reg e263r2 [0, 2, 3] 0) (.block 0 (.loop [2, 3, 13] e263l6))) (.seq (.reg e263r7 [2, 3] 0) .ret)))), [.cells 2 7], 29, 0⟩
theorem g263 : Good Tryz.prog 263 e263 := ⟨Tryz.f263, Tryz.func263, by kernel_rfl, by kernel_rfl, by kernel_rfl, by kernel_rfl⟩
/-! (*concord/log.Log).Cut -/
def e264r0 : EE := .x 0 (.alc [z, z, z, z, z, z, z] 133) [] none [] <|
 .out [(0, .s 0), (2, .r 0)]
def e264r1 : EE := .q 1 .nl [.s 0] none <|
 .q 2 (.fld 1) [.r 1] none <|
 .q 3 (.lda 7) [.r 2] none <|
 .x 4 (.st 7) [.s 2, .r 3] none [] <|
 .out [(2, .s 2)]
def e264 : EFn := ⟨(.seq (.reg e264r0 [0] 0) (.seq (.reg e264r1 [0, 2] 0) .ret)), [.cells 2 7], 7, 0⟩
theorem g264 : Good Tryz.prog 264 e264 := ⟨Tryz.f264, Tryz.func264, by kernel_rfl, by kernel_rfl, by kernel_rfl, by kernel_rfl⟩
/-! concord/dedup.Note -/
def e265r0 : EE := .x 0 (.box 144) [.s 0] none [] <|
 .x 1 (.box 84) [.s 3] none [] <|
 .x 2 (.alc [z, z, (.bool false), zs, z, .nsl, z, z, (.bool false), zs, z, .nsl, z, z, (.bool false), zs, z, .nsl, z, z, (.bool false), zs, z, .nsl, z, z, (.bool false), zs, z, .nsl, z, z, (.bool false), zs, z, .nsl, z, z, (.bool false), zs, z, .nsl, z, z, (.bool false), zs, z, .nsl] 144) [] none [] <|
 .out [(1, .s 1), (2, .s 2), (4, .r 0), (7, .r 1), (8, .r 2)]
def e265r1 : EE := .x 1 (.call 309) [.s 1] none [] <|
 .out [(1, .s 1), (2, .s 2), (4, .s 4), (7, .s 7), (8, .s 8), (11, .r 1)]
def e265r2 : EE := .q 1 .sub [.s 1, .c (.int .i64 1)] none <|
 .q 3 (.lda 5) [.s 7] none <|
 .q 4 (.bld [z, z, (.bool false), zs, z, .nsl] [(0, 1), (1, 5)]) [.s 2, .r 3] none <|
 .q 5 (.ixa 8 6) [.s 4, .r 1] none <|
 .x 6 (.st 6) [.r 5, .r 4] none [] <|
 .out [(4, .s 4), (8, .s 8)]
def e265r3 : EE := .out [(4, .s 4), (8, .s 8), (18, .c z)]
def e265r4 : EE := .q 0 .lss [.s 18, .c (.int .i64 8)] none <|
 .out [(4, .s 4), (8, .s 8), (18, .s 18), (19, .r 0)]
def e265r5 : EE := .out [(4, .s 4), (8, .s 8), (9, .s 18), (18, .s 18)]
def e265r6 : EE := .q 2 (.ixa 8 6) [.s 4, .s 9] none <|
 .q 3 (.fld 1) [.r 2] none <|
 .q 4 (.lda 5) [.r 3] none <|
 .x 5 (.call 310) [.r 4] none [] <|
 .q 6 (.ixa 8 6) [.s 4, .s 9] none <|
 .q 7 (.fld 1) [.r 6] none <|
 .x 8 (.st 5) [.r 7, .r 5] none [] <|
 .out [(4, .s 4), (8, .s 8), (18, .s 18)]
def e265r7 : EE := .q 0 .add [.s 18, .c (.int .i64 1)] none <|
 .out [(4, .s 4), (8, .s 8), (18, .r 0)]
def e265l8 : EC := (.seq (.reg e265r4 [4, 8, 18] 0) (.seq (.cond (.s 19) .skip (.exit 0)) (.seq (.block 1 (.seq (.reg e265r5 [4, 8, 18] 0) (.reg e265r6 [4, 8, 9, 18] 0))) (.reg e265r7 [4, 8, 18] 0))))
def e265r9 : EE := .q 0 (.lda 48) [.s 4] none <|
 .x 1 (.st 48) [.s 8, .r 0] none [] <|
 .out [(8, .s 8)]
def e265 : EFn := ⟨(.seq (.reg e265r0 [0, 1, 2, 3] 0) (.seq (.seq (.reg e265r1 [1, 2, 4, 7, 8] 0) (.cond (.s 11) (.reg e265r2 [1, 2, 4, 7, 8] 0) .skip)) (.seq (.seq (.reg e265r3 [4, 8] 0) (.block 0 (.loop [4, 8, 18] e265l8))) (.seq (.reg e265r9 [4, 8] 0) .ret)))), [.cells 8 48], 31, 0⟩
theorem g265 : Good Tryz.prog 265 e265 := ⟨Tryz.f265, Tryz.func265, by kernel_rfl, by kernel_rfl, by kernel_rfl, by kernel_rfl⟩
/-! concord/sum.On -/
def e270r0 : EE := .out [(0, .s 0), (1, .s 1)]
def e270r1 : EE := .q 1 .cpl [.s 0] none <|
 .out [(0, .r 1), (1, .s 1)]
def e270r2 : EE := .q 1 .len [.s 1] none <|
 .out [(0, .s 0), (10, .s 1), (11, .r 1), (12, .c z)]
def e270r3 : EE := .q 0 .lss [.s 12, .s 11] none <|
 .out [(0, .s 0), (10, .s 10), (11, .s 11), (12, .s 12), (13, .r 0)]
def e270r4 : EE := .q 0 (.ixs 1) [.s 10, .s 12] none <|
 .q 1 .ld [.r 0] none <|
 .out [(0, .s 0), (6, .r 1), (10, .s 10), (11, .s 11), (12, .s 12)]
def e270r5 : EE := .q 2 (.conv .u32) [.s 6] none <|
 .q 3 .xor [.s 0, .r 2] none <|
 .out [(0, .r 3), (10, .s 10), (11, .s 11), (12, .s 12)]
def e270r6 : EE := .out [(0, .s 0), (10, .s 10), (11, .s 11), (12, .s 12), (20, .c z)]
def e270r7 : EE := .q 0 .lss [.s 20, .c (.int .i64 8)] none <|
 .out [(0, .s 0), (10, .s 10), (11, .s 11), (12, .s 12), (20, .s 20), (21, .r 0)]
def e270r8 : EE := .q 1 .and [.s 0, .c (.int .u32 1)] none <|
 .out [(0, .s 0), (7, .r 1), (10, .s 10), (11, .s 11), (12, .s 12), (20, .s 20)]
def e270r9 : EE := .q 1 .shr [.s 0, .c (.int .u64 1)] none <|
 .out [(0, .r 1), (7, .s 7), (10, .s 10), (11, .s 11), (12, .s 12), (20, .s 20)]
def e270r10 : EE := .q 1 .eql [.s 7, .c (.int .u32 1)] none <|
 .out [(0, .s 0), (10, .s 10), (11, .s 11), (12, .s 12), (20, .s 20), (27, .r 1)]
def e270r11 : EE := .q 1 .xor [.s 0, .c (.int .u32 3988292384)] none <|
 .out [(0, .r 1), (10, .s 10), (11, .s 11), (12, .s 12), (20, .s 20)]
def e270r12 : EE := .q 0 .add [.s 20, .c (.int .i64 1)] none <|
 .out [(0, .s 0), (10, .s 10), (11, .s 11), (12, .s 12), (20, .r 0)]
def e270l13 : EC := (.seq (.reg e270r7 [0, 10, 11, 12, 20] 0) (.seq (.cond (.s 21) .skip (.exit 2)) (.seq (.block 3 (.seq (.reg e270r8 [0, 10, 11, 12, 20] 0) (.seq (.reg e270r9 [0, 7, 10, 11, 12, 20] 0) (.seq (.reg e270r10 [0, 7, 10, 11, 12, 20] 0) (.cond (.s 27) (.reg e270r11 [0, 10, 11, 12, 20] 0) .skip))))) (.reg e270r12 [0, 10, 11, 12, 20] 0))))
def e270r14 : EE := .q 0 .add [.s 12, .c (.int .i64 1)] none <|
 .out [(0, .s 0), (10, .s 10), (11, .s 11), (12, .r 0)]
def e270l15 : EC := (.seq (.reg e270r3 [0, 10, 11, 12] 0) (.seq (.cond (.s 13) .skip (.exit 0)) (.seq (.block 1 (.seq (.reg e270r4 [0, 10, 11, 12] 0) (.seq (.reg e270r5 [0, 6, 10, 11, 12] 0) (.seq (.reg e270r6 [0, 10, 11, 12] 0) (.block 2 (.loop [0, 10, 11, 12, 20] e270l13)))))) (.reg e270r14 [0, 10, 11, 12] 0))))
def e270r16 : EE := .q 1 .cpl [.s 0] none <|
 .out [(4, .r 1)]
def e270 : EFn := ⟨(.seq (.reg e270r0 [0, 1] 0) (.seq (.reg e270r1 [0, 1] 0) (.seq (.seq (.reg e270r2 [0, 1] 0) (.block 0 (.loop [0, 10, 11, 12] e270l15))) (.seq (.reg e270r16 [0] 0) .ret)))), [.slot 4], 34, 0⟩
theorem g270 : Good Tryz.prog 270 e270 := ⟨Tryz.f270, Tryz.func270, by kernel_rfl, by kernel_rfl, by kernel_rfl, by kernel_rfl⟩
/-! concord/word.Zig -/
def e280r0 : EE := .out [(0, .s 0)]
def e280r1 : EE := .q 1 (.conv .u64) [.s 0] none <|
 .q 2 .shl [.r 1, .c (.int .u64 1)] none <|
 .q 4 .shr [.s 0, .c (.int .u64 63)] none <|
 .q 5 (.conv .u64) [.r 4] none <|
 .q 6 .xor [.r 2, .r 5] none <|
 .out [(2, .r 6)]
def e280 : EFn := ⟨(.seq (.reg e280r0 [0] 0) (.seq (.reg e280r1 [0] 0) .ret)), [.slot 2], 10, 0⟩
theorem g280 : Good Tryz.prog 280 e280 := ⟨Tryz.f280, Tryz.func280, by kernel_rfl, by kernel_rfl, by kernel_rfl, by kernel_rfl⟩
/-! concord/disk.may -/
def e281r0 : EE := .out [(0, .s 0)]
def e281r1 : EE := .q 1 .seql [.s 0, .c zs] none <|
 .q 3 .mv [.s 0] (some (.r 1, false)) <|
 .q 4 .lenz [.r 3] (some (.r 1, false)) <|
 .q 5 .gtr [.r 4, .c (.int .i64 24)] (some (.r 1, false)) <|
 .q 6 .pick [.r 1, .c (.bool true), .r 5] none <|
 .out [(0, .s 0), (10, .r 6)]
def e281r2 : EE := .out [(2, .c (.bool false))]
def e281r3 : EE := .q 1 .lenz [.s 0] none <|
 .out [(0, .s 0), (12, .r 1), (13, .c z)]
def e281r4 : EE := .q 0 .lss [.s 13, .s 12] none <|
 .out [(0, .s 0), (12, .s 12), (13, .s 13), (14, .r 0)]
def e281r5 : EE := .out [(0, .s 0), (3, .s 13), (12, .s 12), (13, .s 13)]
def e281r6 : EE := .q 2 .idxs [.s 0, .s 3] none <|
 .q 3 .lss [.r 2, .c (.int .u8 33)] none <|
 .q 5 .mv [.s 0] (some (.r 3, false)) <|
 .q 6 .mv [.s 3] (some (.r 3, false)) <|
 .q 7 .idxs [.r 5, .r 6] (some (.r 3, false)) <|
 .q 8 .gtr [.r 7, .c (.int .u8 126)] (some (.r 3, false)) <|
 .q 9 .pick [.r 3, .c (.bool true), .r 8] none <|
 .out [(0, .s 0), (12, .s 12), (13, .s 13), (25, .r 9)]
def e281r7 : EE := .out [(2, .c (.bool false))]
def e281r8 : EE := .q 0 .add [.s 13, .c (.int .i64 1)] none <|
 .out [(0, .s 0), (12, .s 12), (13, .r 0)]
def e281l9 : EC := (.seq (.reg e281r4 [0, 12, 13] 0) (.seq (.cond (.s 14) .skip (.exit 0)) (.seq (.block 1 (.seq (.reg e281r5 [0, 12, 13] 0) (.seq (.reg e281r6 [0, 3, 12, 13] 0) (.cond (.s 25) (.seq (.reg e281r7 [] 0) .ret) .skip)))) (.reg e281r8 [0, 12, 13] 0))))
def e281r10 : EE := .out [(2, .c (.bool true))]
def e281 : EFn := ⟨(.seq (.reg e281r0 [0] 0) (.seq (.seq (.reg e281r1 [0] 0) (.cond (.s 10) (.seq (.reg e281r2 [] 0) .ret) .skip)) (.seq (.seq (.reg e281r3 [0] 0) (.block 0 (.loop [0, 12, 13] e281l9))) (.seq (.reg e281r10 [] 0) .ret)))), [.slot 2], 27, 0⟩
theorem g281 : Good Tryz.prog 281 e281 := ⟨Tryz.f281, Tryz.func281, by kernel_rfl, by kernel_rfl, by kernel_rfl, by kernel_rfl⟩
/-! (*concord/disk.Disk).Room -/
def e282r0 : EE := .out [(0, .s 0)]
def e282r1 : EE := .q 1 .nl [.s 0] none <|
 .q 2 (.fld 0) [.r 1] none <|
 .q 3 .ld [.r 2] none <|
 .x 5 (.call 317) [.s 0] none [⟨3, .ld, [.r 2], none⟩] <|
 .q 6 .sub [.r 3, .r 5] none <|
 .out [(2, .r 6)]
def e282 : EFn := ⟨(.seq (.reg e282r0 [0] 0) (.seq (.reg e282r1 [0] 0) .ret)), [.slot 2], 10, 0⟩
theorem g282 : Good Tryz.prog 282 e282 := ⟨Tryz.f282, Tryz.func282, by kernel_rfl, by kernel_rfl, by kernel_rfl, by kernel_rfl⟩
/-! slices.Insert[[]concord/disk.file,concord/disk.file] -/
def e283r0 : EE := .out [(0, .s 0), (1, .s 1), (2, .s 2)]
def e283r1 : EE := .q 2 (.slc 3 true false) [.s 0, .s 1] none <|
 .out [(0, .s 0), (1, .s 1), (2, .s 2)]
def e283r2 : EE := .q 1 .len [.s 2] none <|
 .out [(0, .s 0), (1, .s 1), (2, .s 2), (7, .r 1)]
def e283r3 : EE := .q 1 .eql [.s 7, .c z] none <|
 .out [(0, .s 0), (1, .s 1), (2, .s 2), (7, .s 7), (16, .r 1)]
def e283r4 : EE := .out [(6, .s 0)]
def e283r5 : EE := .q 1 .len [.s 0] none <|
 .out [(0, .s 0), (1, .s 1), (2, .s 2), (7, .s 7), (8, .r 1)]
def e283r6 : EE := .q 2 .eql [.s 1, .s 8] none <|
 .out [(0, .s 0), (1, .s 1), (2, .s 2), (7, .s 7), (8, .s 8), (22, .r 2)]
def e283r7 : EE := .x 2 (.app 202 3 48 [zs, .nsl, z]) [.s 0, .s 2] none [] <|
 .out [(6, .r 2)]
def e283r8 : EE := .q 2 .add [.s 8, .s 7] none <|
 .q 4 .cap [.s 0] none <|
 .q 5 .gtr [.r 2, .r 4] none <|
 .out [(0, .s 0), (1, .s 1), (2, .s 2), (7, .s 7), (8, .s 8), (31, .r 5)]
def e283r9 : EE := .q 2 (.slc 3 false true) [.s 0, .s 1] none <|
 .q 5 .add [.s 8, .s 7] none <|
 .q 7 .sub [.r 5, .s 1] none <|
 .x 8 (.appn 202 3 48 [zs, .nsl, z]) [.r 2, .r 7] none [] <|
 .out [(0, .s 0), (1, .s 1), (2, .s 2), (7, .s 7), (9, .r 8)]
def e283r10 : EE := .q 2 (.slc 3 true false) [.s 9, .s 1] none <|
 .x 4 (.cpy 3) [.r 2, .s 2] none [] <|
 .out [(0, .s 0), (1, .s 1), (7, .s 7), (9, .s 9)]
def e283r11 : EE := .q 3 .add [.s 1, .s 7] none <|
 .q 4 (.slc 3 true false) [.s 9, .r 3] none <|
 .q 7 (.slc 3 true false) [.s 0, .s 1] none <|
 .x 8 (.cpy 3) [.r 4, .r 7] none [] <|
 .out [(9, .s 9)]
def e283r12 : EE := .out [(6, .s 9)]
def e283r13 : EE := .q 3 .add [.s 8, .s 7] none <|
 .q 4 (.slc 3 false true) [.s 0, .r 3] none <|
 .out [(0, .r 4), (1, .s 1), (2, .s 2), (7, .s 7), (8, .s 8)]
def e283r14 : EE := .q 4 .add [.s 1, .s 7] none <|
 .q 5 (.slc 3 true false) [.s 0, .r 4] none <|
 .x 6 .bad [] none [] <|
 .q 7 .not [.r 6] none <|
 .out [(0, .s 0), (1, .s 1), (2, .s 2), (7, .s 7), (8, .s 8), (68, .r 7)]
def e283r15 : EE := .q 3 .add [.s 1, .s 7] none <|
 .q 4 (.slc 3 true false) [.s 0, .r 3] none <|
 .q 7 (.slc 3 true false) [.s 0, .s 1] none <|
 .x 8 (.cpy 3) [.r 4, .r 7] none [] <|
 .out [(0, .s 0), (1, .s 1), (2, .s 2)]
def e283r16 : EE := .q 2 (.slc 3 true false) [.s 0, .s 1] none <|
 .x 4 (.cpy 3) [.r 2, .s 2] none [] <|
 .out [(0, .s 0)]
def e283r17 : EE := .out [(6, .s 0)]
def e283r18 : EE := .q 2 (.slc 3 true false) [.s 0, .s 8] none <|
 .x 4 (.cpy 3) [.r 2, .s 2] none [] <|
 .out [(0, .s 0), (1, .s 1), (7, .s 7)]
def e283r19 : EE := .q 2 (.slc 3 true false) [.s 0, .s 1] none <|
 .x 4 (.call 319) [.r 2, .s 7] none [] <|
 .out [(0, .s 0)]
def e283r20 : EE := .out [(6, .s 0)]
def e283 : EFn := ⟨(.seq (.reg e283r0 [0, 1, 2] 0) (.seq (.reg e283r1 [0, 1, 2] 0) (.seq (.reg e283r2 [0, 1, 2] 0) (.seq (.seq (.reg e283r3 [0, 1, 2, 7] 0) (.cond (.s 16) (.seq (.reg e283r4 [0] 0) .ret) .skip)) (.seq (.reg e283r5 [0, 1, 2, 7] 0) (.seq (.seq (.reg e283r6 [0, 1, 2, 7, 8] 0) (.cond (.s 22) (.seq (.reg e283r7 [0, 2] 0) .ret) .skip)) (.seq (.seq (.reg e283r8 [0, 1, 2, 7, 8] 0) (.cond (.s 31) (.seq (.reg e283r9 [0, 1, 2, 7, 8] 0) (.seq (.reg e283r10 [0, 1, 2, 7, 9] 0) (.seq (.reg e283r11 [0, 1, 7, 9] 0) (.seq (.reg e283r12 [9] 0) .ret)))) .skip)) (.seq (.reg e283r13 [0, 1, 2, 7, 8] 0) (.seq (.seq (.reg e283r14 [0, 1, 2, 7, 8] 0) (.cond (.s 68) (.seq (.reg e283r15 [0, 1, 2, 7] 0) (.seq (.reg e283r16 [0, 1, 2] 0) (.seq (.reg e283r17 [0] 0) .ret))) .skip)) (.seq (.reg e283r18 [0, 1, 2, 7, 8] 0) (.seq (.reg e283r19 [0, 1, 7] 0) (.seq (.reg e283r20 [0] 0) .ret)))))))))))), [.slot 6], 95, 0⟩
theorem g283 : Good Tryz.prog 283 e283 := ⟨Tryz.f283, Tryz.func283, by kernel_rfl, by kernel_rfl, by kernel_rfl, by kernel_rfl⟩
/-! slices.Concat[[]byte,byte] -/
def e284r0 : EE := .out [(0, .s 0)]
def e284r1 : EE := .out [(0, .s 0), (3, .c z)]
def e284r2 : EE := .q 1 .len [.s 0] none <|
 .out [(0, .s 0), (3, .s 3), (9, .s 0), (10, .r 1), (11, .c z)]
def e284r3 : EE := .q 0 .lss [.s 11, .s 10] none <|
 .out [(0, .s 0), (3, .s 3), (9, .s 9), (10, .s 10), (11, .s 11), (12, .r 0)]
def e284r4 : EE := .q 0 (.ixs 1) [.s 9, .s 11] none <|
 .q 1 .ld [.r 0] none <|
 .out [(0, .s 0), (3, .s 3), (5, .r 1), (9, .s 9), (10, .s 10), (11, .s 11)]
def e284r5 : EE := .q 2 .len [.s 5] none <|
 .q 3 .add [.s 3, .r 2] none <|
 .out [(0, .s 0), (3, .r 3), (9, .s 9), (10, .s 10), (11, .s 11)]
def e284r6 : EE := .q 1 .lss [.s 3, .c z] none <|
 .out [(0, .s 0), (3, .s 3), (9, .s 9), (10, .s 10), (11, .s 11), (20, .r 1)]
def e284r7 : EE := .q 0 (.mki 9) [.c (.str [108, 101, 110, 32, 111, 117, 116, 32, 111, 102, 32, 114, 97, 110, 103, 101])] none <|
 .x 1 .bad [] none [] <|
 .out [(0, .s 0), (3, .s 3), (9, .s 9), (10, .s 10), (11, .s 11)]
def e284r8 : EE := .q 0 .add [.s 11, .c (.int .i64 1)] none <|
 .out [(0, .s 0), (3, .s 3), (9, .s 9), (10, .s 10), (11, .r 0)]
def e284l9 : EC := (.seq (.reg e284r3 [0, 3, 9, 10, 11] 0) (.seq (.cond (.s 12) .skip (.exit 0)) (.seq (.block 1 (.seq (.reg e284r4 [0, 3, 9, 10, 11] 0) (.seq (.reg e284r5 [0, 3, 5, 9, 10, 11] 0) (.seq (.reg e284r6 [0, 3, 9, 10, 11] 0) (.cond (.s 20) (.reg e284r7 [0, 3, 9, 10, 11] 0) .skip))))) (.reg e284r8 [0, 3, 9, 10, 11] 0))))
def e284r10 : EE := .x 1 (.call 320) [.c .nsl, .s 3] none [] <|
 .out [(0, .s 0), (6, .r 1)]
def e284r11 : EE := .q 1 .len [.s 0] none <|
 .out [(6, .s 6), (25, .s 0), (26, .r 1), (27, .c z)]
def e284r12 : EE := .q 0 .lss [.s 27, .s 26] none <|
 .out [(6, .s 6), (25, .s 25), (26, .s 26), (27, .s 27), (28, .r 0)]
def e284r13 : EE := .q 0 (.ixs 1) [.s 25, .s 27] none <|
 .q 1 .ld [.r 0] none <|
 .out [(6, .s 6), (8, .r 1), (25, .s 25), (26, .s 26), (27, .s 27)]
def e284r14 : EE := .x 2 (.app 5 1 1 [(.int .u8 0)]) [.s 6, .s 8] none [] <|
 .out [(6, .r 2), (25, .s 25), (26, .s 26), (27, .s 27)]
def e284r15 : EE := .q 0 .add [.s 27, .c (.int .i64 1)] none <|
 .out [(6, .s 6), (25, .s 25), (26, .s 26), (27, .r 0)]
def e284l16 : EC := (.seq (.reg e284r12 [6, 25, 26, 27] 0) (.seq (.cond (.s 28) .skip (.exit 2)) (.seq (.block 3 (.seq (.reg e284r13 [6, 25, 26, 27] 0) (.reg e284r14 [6, 8, 25, 26, 27] 0))) (.reg e284r15 [6, 25, 26, 27] 0))))
def e284r17 : EE := .out [(2, .s 6)]
def e284 : EFn := ⟨(.seq (.reg e284r0 [0] 0) (.seq (.reg e284r1 [0] 0) (.seq (.seq (.reg e284r2 [0, 3] 0) (.block 0 (.loop [0, 3, 9, 10, 11] e284l9))) (.seq (.reg e284r10 [0, 3] 0) (.seq (.seq (.reg e284r11 [0, 6] 0) (.block 2 (.loop [6, 25, 26, 27] e284l16))) (.seq (.reg e284r17 [6] 0) .ret)))))), [.slot 2], 36, 0⟩
theorem g284 : Good Tryz.prog 284 e284 := ⟨Tryz.f284, Tryz.func284, by kernel_rfl, by kernel_rfl, by kernel_rfl, by kernel_rfl⟩
/-! (*concord/exec.plan).round -/
def e285r0 : EE := .out [(0, .s 0)]
def e285r1 : EE := .x 0 (.call 321) [.c .nsl] none [] <|
 .out [(0, .s 0), (4, .c (.bool false)), (5, .r 0)]
def e285r2 : EE := .out [(0, .s 0), (4, .s 4), (5, .s 5), (13, .c z)]
def e285r3 : EE := .q 0 .lss [.s 13, .c (.int .i64 7)] none <|
 .out [(0, .s 0), (4, .s 4), (5, .s 5), (13, .s 13), (14, .r 0)]
def e285r4 : EE := .out [(0, .s 0), (4, .s 4), (5, .s 5), (6, .s 13), (13, .s 13)]
def e285r5 : EE := .q 3 .nl [.s 0] none <|
 .q 4 (.fld 0) [.r 3] none <|
 .q 5 (.ixa 7 1) [.r 4, .s 6] none <|
 .q 6 .ld [.r 5] none <|
 .q 7 .add [.r 6, .c (.int .i64 1)] none <|
 .q 8 (.bld [z, z] [(0, 1), (1, 1)]) [.s 6, .r 7] none <|
 .x 9 (.alc [z, z] 129) [] none [] <|
 .x 10 (.st 2) [.r 9, .r 8] none [] <|
 .out [(0, .s 0), (4, .s 4), (5, .s 5), (7, .r 9), (13, .s 13)]
def e285r6 : EE := .q 1 .nl [.s 0] none <|
 .q 2 (.fld 7) [.r 1] none <|
 .q 3 .ld [.r 2] none <|
 .q 4 (.lda 2) [.s 7] none <|
 .q 5 (.lkp true [(.i .i64), (.i .i64)] (.agg [z, z, z, z, z, z, z, z, zs, zs, zs, zs, z, z, z, z, z, z, z, z, (.bool false)]) true) [.r 3, .r 4] none <|
 .q 7 (.ext 0) [.r 5] none <|
 .q 8 (.ext 1) [.r 5] none <|
 .x 9 (.alc [z, z, z, z, z, z, z, z, zs, zs, zs, zs, z, z, z, z, z, z, z, z, (.bool false)] 137) [] none [⟨3, .ld, [.r 2], none⟩, ⟨4, (.lda 2), [.s 7], none⟩, ⟨5, (.lkp true [(.i .i64), (.i .i64)] (.agg [z, z, z, z, z, z, z, z, zs, zs, zs, zs, z, z, z, z, z, z, z, z, (.bool false)]) true), [.r 3, .r 4], none⟩] <|
 .x 10 (.st 21) [.r 9, .r 7] none [] <|
 .out [(0, .s 0), (4, .s 4), (5, .s 5), (7, .s 7), (9, .r 8), (13, .s 13)]
def e285r7 : EE := .q 1 .not [.s 9] none <|
 .out [(0, .s 0), (4, .s 4), (5, .s 5), (7, .s 7), (13, .s 13), (35, .r 1)]
def e285r8 : EE := .q 1 (.lda 2) [.s 7] none <|
 .x 2 (.call 322) [.s 0, .r 1] none [] <|
 .out [(0, .s 0), (4, .s 4), (5, .s 5), (7, .s 7), (13, .s 13), (38, .r 2)]
def e285r9 : EE := .q 1 (.lda 2) [.s 7] none <|
 .x 2 (.call 323) [.s 5, .r 1] none [] <|
 .out [(0, .s 0), (4, .s 4), (5, .s 5), (13, .s 13)]
def e285r10 : EE := .q 1 (.lda 2) [.s 7] none <|
 .x 2 (.call 324) [.s 0, .r 1] none [] <|
 .q 4 (.ext 0) [.r 2] none <|
 .q 5 (.ext 1) [.r 2] none <|
 .x 6 (.alc [z, z] 129) [] none [] <|
 .x 8 (.st 2) [.r 6, .r 5] none [] <|
 .out [(0, .s 0), (4, .s 4), (5, .s 5), (10, .r 4), (11, .r 6), (13, .s 13)]
def e285r11 : EE := .q 1 .len [.s 10] none <|
 .q 2 .gtr [.r 1, .c z] none <|
 .out [(0, .s 0), (4, .s 4), (5, .s 5), (10, .s 10), (11, .s 11), (13, .s 13), (48, .r 2)]
def e285r12 : EE := .x 2 (.call 325) [.s 0, .s 10] none [] <|
 .out [(0, .s 0), (5, .s 5), (13, .s 13)]
def e285r13 : EE := .out [(0, .s 0), (4, .c (.bool true)), (5, .s 5), (13, .s 13)]
def e285r14 : EE := .q 0 (.lda 2) [.s 11] none <|
 .q 1 (.bld [z, z] []) [] none <|
 .q 2 (.eqc true [(.i .i64), (.i .i64)]) [.r 0, .r 1] none <|
 .out [(0, .s 0), (4, .s 4), (5, .s 5), (11, .s 11), (13, .s 13), (55, .r 2)]
def e285r15 : EE := .q 1 (.lda 2) [.s 11] none <|
 .x 2 (.call 323) [.s 5, .r 1] none [] <|
 .out [(0, .s 0), (4, .s 4), (5, .s 5), (13, .s 13)]
def e285r16 : EE := .q 0 .add [.s 13, .c (.int .i64 1)] none <|
 .out [(0, .s 0), (4, .s 4), (5, .s 5), (13, .r 0)]
def e285l17 : EC := (.seq (.reg e285r3 [0, 4, 5, 13] 0) (.seq (.cond (.s 14) .skip (.exit 0)) (.seq (.block 1 (.seq (.reg e285r4 [0, 4, 5, 13] 0) (.seq (.reg e285r5 [0, 4, 5, 6, 13] 0) (.seq (.seq (.reg e285r6 [0, 4, 5, 7, 13] 0) (.seq (.reg e285r7 [0, 4, 5, 7, 9, 13] 0) (.cond (.s 35) (.seq (.seq (.reg e285r8 [0, 4, 5, 7, 13] 0) (.cond (.s 38) (.reg e285r9 [0, 4, 5, 7, 13] 0) .skip)) (.exit 1)) .skip))) (.seq (.reg e285r10 [0, 4, 5, 7, 13] 0) (.block 2 (.seq (.reg e285r11 [0, 4, 5, 10, 11, 13] 0) (.cond (.s 48) (.seq (.reg e285r12 [0, 5, 10, 13] 0) (.reg e285r13 [0, 5, 13] 0)) (.seq (.reg e285r14 [0, 4, 5, 11, 13] 0) (.cond (.s 55) (.reg e285r15 [0, 4, 5, 11, 13] 0) .skip)))))))))) (.reg e285r16 [0, 4, 5, 13] 0))))
def e285r18 : EE := .out [(2, .s 4), (3, .s 5)]
def e285 : EFn := ⟨(.seq (.reg e285r0 [0] 0) (.seq (.reg e285r1 [0] 0) (.seq (.seq (.reg e285r2 [0, 4, 5] 0) (.block 0 (.loop [0, 4, 5, 13] e285l17))) (.seq (.reg e285r18 [4, 5] 0) .ret)))), [.slot 2, .slot 3], 65, 0⟩
theorem g285 : Good Tryz.prog 285 e285 := ⟨Tryz.f285, Tryz.func285, by kernel_rfl, by kernel_rfl, by kernel_rfl, by kernel_rfl⟩
/-! (*concord/inst.Set).List -/
def e286r0 : EE := .out [(0, .s 0)]
def e286r1 : EE := .out [(0, .s 0), (3, .c .nsl)]
def e286r2 : EE := .q 1 .nl [.s 0] none <|
 .q 2 (.fld 0) [.r 1] none <|
 .q 3 .ld [.r 2] none <|
 .x 4 .rng [.r 3] none [] <|
 .out [(3, .s 3), (9, .r 4)]
def e286r3 : EE := .x 0 .nxt [.s 9] none [] <|
 .q 1 (.ext 0) [.r 0] none <|
 .out [(3, .s 3), (9, .s 9), (11, .r 1)]
def e286r4 : EE := .q 0 .ent [.s 9] none <|
 .q 1 (.ext 0) [.r 0] none <|
 .x 2 (.alc [z, z] 129) [] none [] <|
 .x 3 (.st 2) [.r 2, .r 1] none [] <|
 .out [(3, .s 3), (4, .r 2), (9, .s 9)]
def e286r5 : EE := .q 1 (.lda 2) [.s 4] none <|
 .x 2 (.bsl 129 1 [z, z] [(0, 2)]) [.r 1] none [] <|
 .x 3 (.app 129 2 16 [z, z]) [.s 3, .r 2] none [] <|
 .out [(3, .r 3), (9, .s 9)]
def e286l6 : EC := (.seq (.reg e286r3 [3, 9] 0) (.seq (.cond (.s 11) .skip (.exit 0)) (.block 1 (.seq (.reg e286r4 [3, 9] 0) (.reg e286r5 [3, 4, 9] 0)))))
def e286r7 : EE := .x 1 (.call 253) [.s 3, .f 326] none [] <|
 .out [(3, .s 3)]
def e286r8 : EE := .out [(2, .s 3)]
def e286 : EFn := ⟨(.seq (.reg e286r0 [0] 0) (.seq (.reg e286r1 [0] 0) (.seq (.seq (.reg e286r2 [0, 3] 0) (.block 0 (.loop [3, 9] e286l6))) (.seq (.reg e286r7 [3] 0) (.seq (.reg e286r8 [3] 0) .ret))))), [.slot 2], 21, 0⟩
theorem g286 : Good Tryz.prog 286 e286 := ⟨Tryz.f286, Tryz.func286, by kernel_rfl, by kernel_rfl, by kernel_rfl, by kernel_rfl⟩
/-! slices.pdqsortCmpFunc[concord/api.Inst] -/
def e304r0 : EE := .out [(0, .s 0), (1, .s 1), (2, .s 2), (3, .s 3), (4, .s 4), (10, .c (.bool true))]
def e304r1 : EE := .out [(0, .s 0), (1, .s 1), (2, .s 2), (3, .s 3), (4, .s 4), (10, .s 10), (11, .c (.bool true))]
def e304r2 : EE := .q 2 .sub [.s 2, .s 1] none <|
 .out [(0, .s 0), (1, .s 1), (2, .s 2), (3, .s 3), (4, .s 4), (10, .s 10), (11, .s 11), (12, .r 2)]
def e304r3 : EE := .q 1 .leq [.s 12, .c (.int .i64 12)] none <|
 .out [(0, .s 0), (1, .s 1), (2, .s 2), (3, .s 3), (4, .s 4), (10, .s 10), (11, .s 11), (12, .s 12), (25, .r 1)]
def e304r4 : EE := .x 4 (.call 337) [.s 0, .s 1, .s 2, .s 4] none [] <|
 .out []
def e304r5 : EE := .q 1 .eql [.s 3, .c z] none <|
 .out [(0, .s 0), (1, .s 1), (2, .s 2), (3, .s 3), (4, .s 4), (10, .s 10), (11, .s 11), (12, .s 12), (32, .r 1)]
def e304r6 : EE := .x 4 (.call 338) [.s 0, .s 1, .s 2, .s 4] none [] <|
 .out []
def e304r7 : EE := .q 1 .not [.s 10] none <|
 .out [(0, .s 0), (1, .s 1), (2, .s 2), (3, .s 3), (4, .s 4), (10, .s 10), (11, .s 11), (12, .s 12), (39, .r 1)]
def e304r8 : EE := .x 4 (.call 339) [.s 0, .s 1, .s 2, .s 4] none [] <|
 .out [(0, .s 0), (1, .s 1), (2, .s 2), (3, .s 3), (4, .s 4), (10, .s 10), (11, .s 11), (12, .s 12)]
def e304r9 : EE := .q 1 .sub [.s 3, .c (.int .i64 1)] none <|
 .out [(0, .s 0), (1, .s 1), (2, .s 2), (3, .r 1), (4, .s 4), (10, .s 10), (11, .s 11), (12, .s 12)]
def e304r10 : EE := .x 4 (.call 340) [.s 0, .s 1, .s 2, .s 4] none [] <|
 .q 6 (.ext 0) [.r 4] none <|
 .q 7 (.ext 1) [.r 4] none <|
 .out [(0, .s 0), (1, .s 1), (2, .s 2), (3, .s 3), (4, .s 4), (10, .s 10), (11, .s 11), (12, .s 12), (13, .r 6), (14, .r 7)]
def e304r11 : EE := .q 1 .eql [.s 14, .c (.int .i64 2)] none <|
 .out [(0, .s 0), (1, .s 1), (2, .s 2), (3, .s 3), (4, .s 4), (10, .s 10), (11, .s 11), (12, .s 12), (13, .s 13), (14, .s 14), (56, .r 1)]
def e304r12 : EE := .x 4 (.call 341) [.s 0, .s 1, .s 2, .s 4] none [] <|
 .out [(0, .s 0), (1, .s 1), (2, .s 2), (3, .s 3), (4, .s 4), (10, .s 10), (11, .s 11), (12, .s 12), (13, .s 13)]
def e304r13 : EE := .q 1 .sub [.s 2, .c (.int .i64 1)] none <|
 .q 4 .sub [.s 13, .s 1] none <|
 .q 5 .sub [.r 1, .r 4] none <|
 .out [(0, .s 0), (1, .s 1), (2, .s 2), (3, .s 3), (4, .s 4), (10, .s 10), (11, .s 11), (12, .s 12), (13, .r 5)]
def e304r14 : EE := .out [(0, .s 0), (1, .s 1), (2, .s 2), (3, .s 3), (4, .s 4), (10, .s 10), (11, .s 11), (12, .s 12), (13, .s 13), (14, .c (.int .i64 1))]
def e304r15 : EE := .q 2 .mv [.s 11] (some (.s 10, true)) <|
 .q 3 .pick [.s 10, .r 2, .c (.bool false)] none <|
 .q 5 .mv [.s 14] (some (.r 3, true)) <|
 .q 6 .eql [.r 5, .c (.int .i64 1)] (some (.r 3, true)) <|
 .q 7 .pick [.r 3, .r 6, .c (.bool false)] none <|
 .out [(0, .s 0), (1, .s 1), (2, .s 2), (3, .s 3), (4, .s 4), (10, .s 10), (11, .s 11), (12, .s 12), (13, .s 13), (75, .r 7)]
def e304r16 : EE := .x 4 (.call 342) [.s 0, .s 1, .s 2, .s 4] none [] <|
 .out [(0, .s 0), (1, .s 1), (2, .s 2), (3, .s 3), (4, .s 4), (10, .s 10), (11, .s 11), (12, .s 12), (13, .s 13), (80, .r 4)]
def e304r17 : EE := .q 1 .gtr [.s 1, .c z] none <|
 .q 3 .mv [.s 4] (some (.r 1, true)) <|
 .q 4 .mv [.s 0] (some (.r 1, true)) <|
 .q 5 .mv [.s 1] (some (.r 1, true)) <|
 .q 6 .sub [.r 5, .c (.int .i64 1)] (some (.r 1, true)) <|
 .q 7 (.ixs 2) [.r 4, .r 6] (some (.r 1, true)) <|
 .q 8 (.lda 2) [.r 7] (some (.r 1, true)) <|
 .q 9 .mv [.s 0] (some (.r 1, true)) <|
 .q 10 .mv [.s 13] (some (.r 1, true)) <|
 .q 11 (.ixs 2) [.r 9, .r 10] (some (.r 1, true)) <|
 .q 12 (.lda 2) [.r 11] (some (.r 1, true)) <|
 .x 13 .callv [.r 3, .r 8, .r 12] (some (.r 1, true)) [] <|
 .q 14 .lss [.r 13, .c z] (some (.r 1, true)) <|
 .q 15 .not [.r 14] (some (.r 1, true)) <|
 .q 16 .pick [.r 1, .r 15, .c (.bool false)] none <|
 .out [(0, .s 0), (1, .s 1), (2, .s 2), (3, .s 3), (4, .s 4), (10, .s 10), (11, .s 11), (12, .s 12), (13, .s 13), (97, .r 16)]
def e304r18 : EE := .x 5 (.call 343) [.s 0, .s 1, .s 2, .s 13, .s 4] none [] <|
 .out [(0, .s 0), (2, .s 2), (3, .s 3), (4, .s 4), (10, .s 10), (11, .s 11), (15, .r 5)]
def e304r19 : EE := .out [(0, .s 0), (1, .s 15), (2, .s 2), (3, .s 3), (4, .s 4), (10, .s 10), (11, .s 11)]
def e304r20 : EE := .x 5 (.call 344) [.s 0, .s 1, .s 2, .s 13, .s 4] none [] <|
 .q 7 (.ext 0) [.r 5] none <|
 .q 8 (.ext 1) [.r 5] none <|
 .out [(0, .s 0), (1, .s 1), (2, .s 2), (3, .s 3), (4, .s 4), (12, .s 12), (16, .r 7), (17, .r 8)]
def e304r21 : EE := .out [(0, .s 0), (1, .s 1), (2, .s 2), (3, .s 3), (4, .s 4), (11, .s 17), (12, .s 12), (16, .s 16)]
def e304r22 : EE := .q 2 .sub [.s 16, .s 1] none <|
 .q 5 .sub [.s 2, .s 16] none <|
 .out [(0, .s 0), (1, .s 1), (2, .s 2), (3, .s 3), (4, .s 4), (11, .s 11), (12, .s 12), (16, .s 16), (18, .r 2), (19, .r 5)]
def e304r23 : EE := .q 1 .quo [.s 12, .c (.int .i64 8)] none <|
 .out [(0, .s 0), (1, .s 1), (2, .s 2), (3, .s 3), (4, .s 4), (11, .s 11), (16, .s 16), (18, .s 18), (19, .s 19), (20, .r 1)]
def e304r24 : EE := .q 2 .lss [.s 18, .s 19] none <|
 .out [(0, .s 0), (1, .s 1), (2, .s 2), (3, .s 3), (4, .s 4), (11, .s 11), (16, .s 16), (18, .s 18), (19, .s 19), (20, .s 20), (125, .r 2)]
def e304r25 : EE := .q 2 .geq [.s 18, .s 20] none <|
 .out [(0, .s 0), (1, .s 1), (2, .s 2), (3, .s 3), (4, .s 4), (10, .r 2), (11, .s 11), (16, .s 16)]
def e304r26 : EE := .x 5 (.call 304) [.s 0, .s 1, .s 16, .s 3, .s 4] none [] <|
 .out [(0, .s 0), (2, .s 2), (3, .s 3), (4, .s 4), (10, .s 10), (11, .s 11), (16, .s 16)]
def e304r27 : EE := .q 1 .add [.s 16, .c (.int .i64 1)] none <|
 .out [(0, .s 0), (1, .r 1), (2, .s 2), (3, .s 3), (4, .s 4), (10, .s 10), (11, .s 11)]
def e304r28 : EE := .q 2 .geq [.s 19, .s 20] none <|
 .out [(0, .s 0), (1, .s 1), (2, .s 2), (3, .s 3), (4, .s 4), (10, .r 2), (11, .s 11), (16, .s 16)]
def e304r29 : EE := .q 2 .add [.s 16, .c (.int .i64 1)] none <|
 .x 6 (.call 304) [.s 0, .r 2, .s 2, .s 3, .s 4] none [] <|
 .out [(0, .s 0), (1, .s 1), (3, .s 3), (4, .s 4), (10, .s 10), (11, .s 11), (16, .s 16)]
def e304r30 : EE := .out [(0, .s 0), (1, .s 1), (2, .s 16), (3, .s 3), (4, .s 4), (10, .s 10), (11, .s 11)]
def e304l31 : EC := (.block 1 (.seq (.reg e304r2 [0, 1, 2, 3, 4, 10, 11] 0) (.seq (.seq (.reg e304r3 [0, 1, 2, 3, 4, 10, 11, 12] 0) (.cond (.s 25) (.seq (.reg e304r4 [0, 1, 2, 4] 0) .ret) .skip)) (.seq (.seq (.reg e304r5 [0, 1, 2, 3, 4, 10, 11, 12] 0) (.cond (.s 32) (.seq (.reg e304r6 [0, 1, 2, 4] 0) .ret) .skip)) (.seq (.seq (.reg e304r7 [0, 1, 2, 3, 4, 10, 11, 12] 0) (.cond (.s 39) (.seq (.reg e304r8 [0, 1, 2, 3, 4, 10, 11, 12] 0) (.reg e304r9 [0, 1, 2, 3, 4, 10, 11, 12] 0)) .skip)) (.seq (.reg e304r10 [0, 1, 2, 3, 4, 10, 11, 12] 0) (.seq (.seq (.reg e304r11 [0, 1, 2, 3, 4, 10, 11, 12, 13, 14] 0) (.cond (.s 56) (.seq (.reg e304r12 [0, 1, 2, 3, 4, 10, 11, 12, 13] 0) (.seq (.reg e304r13 [0, 1, 2, 3, 4, 10, 11, 12, 13] 0) (.reg e304r14 [0, 1, 2, 3, 4, 10, 11, 12, 13] 0))) .skip)) (.seq (.seq (.reg e304r15 [0, 1, 2, 3, 4, 10, 11, 12, 13, 14] 0) (.cond (.s 75) (.seq (.reg e304r16 [0, 1, 2, 3, 4, 10, 11, 12, 13] 0) (.cond (.s 80) .ret .skip)) .skip)) (.seq (.seq (.reg e304r17 [0, 1, 2, 3, 4, 10, 11, 12, 13] 0) (.cond (.s 97) (.seq (.reg e304r18 [0, 1, 2, 3, 4, 10, 11, 13] 0) (.seq (.reg e304r19 [0, 2, 3, 4, 10, 11, 15] 0) (.exit 1))) .skip)) (.seq (.reg e304r20 [0, 1, 2, 3, 4, 12, 13] 0) (.seq (.reg e304r21 [0, 1, 2, 3, 4, 12, 16, 17] 0) (.seq (.reg e304r22 [0, 1, 2, 3, 4, 11, 12, 16] 0) (.seq (.reg e304r23 [0, 1, 2, 3, 4, 11, 12, 16, 18, 19] 0) (.seq (.reg e304r24 [0, 1, 2, 3, 4, 11, 16, 18, 19, 20] 0) (.cond (.s 125) (.seq (.reg e304r25 [0, 1, 2, 3, 4, 11, 16, 18, 20] 0) (.seq (.reg e304r26 [0, 1, 2, 3, 4, 10, 11, 16] 0) (.reg e304r27 [0, 2, 3, 4, 10, 11, 16] 0))) (.seq (.reg e304r28 [0, 1, 2, 3, 4, 11, 16, 19, 20] 0) (.seq (.reg e304r29 [0, 1, 2, 3, 4, 10, 11, 16] 0) (.reg e304r30 [0, 1, 3, 4, 10, 11, 16] 0))))))))))))))))))
def e304 : EFn := ⟨(.seq (.reg e304r0 [0, 1, 2, 3, 4] 0) (.seq (.reg e304r1 [0, 1, 2, 3, 4, 10] 0) (.block 0 (.loop [0, 1, 2, 3, 4, 10, 11] e304l31)))), [], 148, 0⟩
theorem g304 : Good Tryz.prog 304 e304 := ⟨Tryz.f304, Tryz.func304, by kernel_rfl, by kernel_rfl, by kernel_rfl, by kernel_rfl⟩
/-! math/bits.Len -/
def e305r0 : EE := .out [(0, .s 0)]
def e305r1 : EE := .q 1 (.conv .u32) [.s 0] none <|
 .x 2 (.call 345) [.r 1] none [] <|
 .out [(2, .r 2)]
def e305r2 : EE := .x 1 (.call 118) [.s 0] none [] <|
 .out [(2, .r 1)]
def e305 : EFn := ⟨(.seq (.reg e305r0 [0] 0) (.seq (.cond (.c (.bool false)) (.seq (.reg e305r1 [0] 0) .ret) .skip) (.seq (.reg e305r2 [0] 0) .ret))), [.slot 2], 8, 0⟩
theorem g305 : Good Tryz.prog 305 e305 := ⟨Tryz.f305, Tryz.func305, by kernel_rfl, by kernel_rfl, by kernel_rfl, by kernel_rfl⟩
/-! concord/dedup.known -/
def e309r0 : EE := .out [(0, .s 0)]
def e309r1 : EE := .q 1 .geq [.s 0, .c (.int .i64 1)] none <|
 .q 3 .mv [.s 0] (some (.r 1, true)) <|
 .q 4 .leq [.r 3, .c (.int .i64 8)] (some (.r 1, true)) <|
 .q 5 .pick [.r 1, .r 4, .c (.bool false)] none <|
 .out [(2, .r 5)]
def e309 : EFn := ⟨(.seq (.reg e309r0 [0] 0) (.seq (.reg e309r1 [0] 0) .ret)), [.slot 2], 9, 0⟩
theorem g309 : Good Tryz.prog 309 e309 := ⟨Tryz.f309, Tryz.func309, by kernel_rfl, by kernel_rfl, by kernel_rfl, by kernel_rfl⟩
/-! concord/dedup.copied -/
def e310r0 : EE := .x 0 (.box 84) [.s 0] none [] <|
 .x 1 (.alc [z, (.bool false), zs, z, .nsl] 84) [] none [] <|
 .out [(1, .r 0), (2, .r 1)]
def e310r1 : EE := .q 0 (.fld 4) [.s 1] none <|
 .q 1 .ld [.r 0] none <|
 .x 2 (.call 63) [.r 1] none [] <|
 .q 3 (.fld 4) [.s 1] none <|
 .x 4 (.st 1) [.r 3, .r 2] none [] <|
 .out [(1, .s 1), (2, .s 2)]
def e310r2 : EE := .q 0 (.lda 5) [.s 1] none <|
 .x 1 (.st 5) [.s 2, .r 0] none [] <|
 .out [(2, .s 2)]
def e310 : EFn := ⟨(.seq (.reg e310r0 [0] 0) (.seq (.reg e310r1 [1, 2] 0) (.seq (.reg e310r2 [1, 2] 0) .ret))), [.cells 2 5], 8, 0⟩
theorem g310 : Good Tryz.prog 310 e310 := ⟨Tryz.f310, Tryz.func310, by kernel_rfl, by kernel_rfl, by kernel_rfl, by kernel_rfl⟩
/-! (*concord/disk.Disk).Total -/
def e317r0 : EE := .out [(0, .s 0)]
def e317r1 : EE := .out [(0, .s 0), (3, .c z)]
def e317r2 : EE := .q 1 .nl [.s 0] none <|
 .q 2 (.fld 1) [.r 1] none <|
 .q 3 .ld [.r 2] none <|
 .q 4 .len [.r 3] none <|
 .out [(3, .s 3), (9, .r 3), (10, .r 4), (11, .c z)]
def e317r3 : EE := .q 0 .lss [.s 11, .s 10] none <|
 .out [(3, .s 3), (9, .s 9), (10, .s 10), (11, .s 11), (12, .r 0)]
def e317r4 : EE := .q 0 (.ixs 3) [.s 9, .s 11] none <|
 .q 1 (.lda 3) [.r 0] none <|
 .x 2 (.alc [zs, .nsl, z] 202) [] none [] <|
 .x 3 (.st 3) [.r 2, .r 1] none [] <|
 .out [(3, .s 3), (5, .r 2), (9, .s 9), (10, .s 10), (11, .s 11)]
def e317r5 : EE := .q 1 (.fld 1) [.s 5] none <|
 .q 2 .ld [.r 1] none <|
 .q 3 .len [.r 2] none <|
 .q 4 .add [.s 3, .r 3] none <|
 .out [(3, .r 4), (9, .s 9), (10, .s 10), (11, .s 11)]
def e317r6 : EE := .q 0 .add [.s 11, .c (.int .i64 1)] none <|
 .out [(3, .s 3), (9, .s 9), (10, .s 10), (11, .r 0)]
def e317l7 : EC := (.seq (.reg e317r3 [3, 9, 10, 11] 0) (.seq (.cond (.s 12) .skip (.exit 0)) (.seq (.block 1 (.seq (.reg e317r4 [3, 9, 10, 11] 0) (.reg e317r5 [3, 5, 9, 10, 11] 0))) (.reg e317r6 [3, 9, 10, 11] 0))))
def e317r8 : EE := .out [(2, .s 3)]
def e317 : EFn := ⟨(.seq (.reg e317r0 [0] 0) (.seq (.reg e317r1 [0] 0) (.seq (.seq (.reg e317r2 [0, 3] 0) (.block 0 (.loop [3, 9, 10, 11] e317l7))) (.seq (.reg e317r8 [3] 0) .ret)))), [.slot 2], 22, 0⟩
theorem g317 : Good Tryz.prog 317 e317 := ⟨Tryz.f317, Tryz.func317, by kernel_rfl, by kernel_rfl, by kernel_rfl, by kernel_rfl⟩
/-! slices.Grow[[]byte,byte] -/
def e320r0 : EE := .out [(0, .s 0), (1, .s 1)]
def e320r1 : EE := .q 1 .lss [.s 1, .c z] none <|
 .out [(0, .s 0), (1, .s 1), (6, .r 1)]
def e320r2 : EE := .q 0 (.mki 9) [.c (.str [99, 97, 110, 110, 111, 116, 32, 98, 101, 32, 110, 101, 103, 97, 116, 105, 118, 101])] none <|
 .x 1 .bad [] none [] <|
 .out [(0, .s 0), (1, .s 1)]
def e320r3 : EE := .q 2 .cap [.s 0] none <|
 .q 4 .len [.s 0] none <|
 .q 5 .sub [.r 2, .r 4] none <|
 .q 6 .sub [.s 1, .r 5] none <|
 .out [(0, .s 0), (1, .r 6)]
def e320r4 : EE := .q 1 .gtr [.s 1, .c z] none <|
 .out [(0, .s 0), (1, .s 1), (16, .r 1)]
def e320r5 : EE := .q 2 .cap [.s 0] none <|
 .q 3 (.slc 1 false true) [.s 0, .r 2] none <|
 .x 5 (.appn 5 1 1 [(.int .u8 0)]) [.r 3, .s 1] none [] <|
 .q 7 .len [.s 0] none <|
 .q 8 (.slc 1 false true) [.r 5, .r 7] none <|
 .out [(0, .r 8)]
def e320r6 : EE := .out [(4, .s 0)]
def e320 : EFn := ⟨(.seq (.reg e320r0 [0, 1] 0) (.seq (.seq (.reg e320r1 [0, 1] 0) (.cond (.s 6) (.reg e320r2 [0, 1] 0) .skip)) (.seq (.seq (.reg e320r3 [0, 1] 0) (.seq (.reg e320r4 [0, 1] 0) (.cond (.s 16) (.reg e320r5 [0, 1] 0) .skip))) (.seq (.reg e320r6 [0] 0) .ret)))), [.slot 4], 27, 0⟩
theorem g320 : Good Tryz.prog 320 e320 := ⟨Tryz.f320, Tryz.func320, by kernel_rfl, by kernel_rfl, by kernel_rfl, by kernel_rfl⟩
/-! concord/inst.New -/
def e321r0 : EE := .out [(0, .s 0)]
def e321r1 : EE := .x 0 .mkm [] none [] <|
 .q 1 (.bld [.nmap] [(0, 1)]) [.r 0] none <|
 .x 2 (.box 443) [.r 1] none [] <|
 .out [(0, .s 0), (3, .r 2)]
def e321r2 : EE := .q 1 .len [.s 0] none <|
 .out [(3, .s 3), (9, .s 0), (10, .r 1), (11, .c z)]
def e321r3 : EE := .q 0 .lss [.s 11, .s 10] none <|
 .out [(3, .s 3), (9, .s 9), (10, .s 10), (11, .s 11), (12, .r 0)]
def e321r4 : EE := .q 0 (.ixs 2) [.s 9, .s 11] none <|
 .q 1 (.lda 2) [.r 0] none <|
 .x 2 (.alc [z, z] 129) [] none [] <|
 .x 3 (.st 2) [.r 2, .r 1] none [] <|
 .out [(3, .s 3), (5, .r 2), (9, .s 9), (10, .s 10), (11, .s 11)]
def e321r5 : EE := .q 1 .nl [.s 3] none <|
 .q 2 (.fld 0) [.r 1] none <|
 .q 3 .ld [.r 2] none <|
 .q 4 (.lda 2) [.s 5] none <|
 .q 5 (.bld [] []) [] none <|
 .x 6 (.mup true [(.i .i64), (.i .i64)]) [.r 3, .r 4, .r 5] none [] <|
 .out [(3, .s 3), (9, .s 9), (10, .s 10), (11, .s 11)]
def e321r6 : EE := .q 0 .add [.s 11, .c (.int .i64 1)] none <|
 .out [(3, .s 3), (9, .s 9), (10, .s 10), (11, .r 0)]
def e321l7 : EC := (.seq (.reg e321r3 [3, 9, 10, 11] 0) (.seq (.cond (.s 12) .skip (.exit 0)) (.seq (.block 1 (.seq (.reg e321r4 [3, 9, 10, 11] 0) (.reg e321r5 [3, 5, 9, 10, 11] 0))) (.reg e321r6 [3, 9, 10, 11] 0))))
def e321r8 : EE := .out [(2, .s 3)]
def e321 : EFn := ⟨(.seq (.reg e321r0 [0] 0) (.seq (.reg e321r1 [0] 0) (.seq (.seq (.reg e321r2 [0, 3] 0) (.block 0 (.loop [3, 9, 10, 11] e321l7))) (.seq (.reg e321r8 [3] 0) .ret)))), [.slot 2], 23, 0⟩
theorem g321 : Good Tryz.prog 321 e321 := ⟨Tryz.f321, Tryz.func321, by kernel_rfl, by kernel_rfl, by kernel_rfl, by kernel_rfl⟩
/-! (*concord/exec.plan).beyond -/
def e322r0 : EE := .x 0 (.box 129) [.s 1] none [] <|
 .out [(0, .s 0), (3, .r 0)]
def e322r1 : EE := .q 1 .nl [.s 0] none <|
 .q 2 (.fld 7) [.r 1] none <|
 .q 3 .ld [.r 2] none <|
 .x 4 .rng [.r 3] none [] <|
 .out [(3, .s 3), (10, .r 4)]
def e322r2 : EE := .x 0 .nxt [.s 10] none [] <|
 .q 1 (.ext 0) [.r 0] none <|
 .out [(3, .s 3), (10, .s 10), (12, .r 1)]
def e322r3 : EE := .q 0 .ent [.s 10] none <|
 .q 1 (.ext 0) [.r 0] none <|
 .x 2 (.alc [z, z] 129) [] none [] <|
 .x 3 (.st 2) [.r 2, .r 1] none [] <|
 .out [(3, .s 3), (5, .r 2), (10, .s 10)]
def e322r4 : EE := .q 0 (.fld 0) [.s 5] none <|
 .q 1 .ld [.r 0] none <|
 .q 2 (.fld 0) [.s 3] none <|
 .q 3 .ld [.r 2] none <|
 .q 4 .eql [.r 1, .r 3] none <|
 .q 6 (.fld 1) [.s 5] (some (.r 4, true)) <|
 .q 7 .ld [.r 6] (some (.r 4, true)) <|
 .q 8 (.fld 1) [.s 3] (some (.r 4, true)) <|
 .q 9 .ld [.r 8] (some (.r 4, true)) <|
 .q 10 .gtr [.r 7, .r 9] (some (.r 4, true)) <|
 .q 11 .pick [.r 4, .r 10, .c (.bool false)] none <|
 .out [(3, .s 3), (10, .s 10), (26, .r 11)]
def e322r5 : EE := .out [(4, .c (.bool true))]
def e322l6 : EC := (.seq (.reg e322r2 [3, 10] 0) (.seq (.cond (.s 12) .skip (.exit 0)) (.block 1 (.seq (.reg e322r3 [3, 10] 0) (.seq (.reg e322r4 [3, 5, 10] 0) (.cond (.s 26) (.seq (.reg e322r5 [] 0) .ret) .skip))))))
def e322r7 : EE := .out [(4, .c (.bool false))]
def e322 : EFn := ⟨(.seq (.reg e322r0 [0, 1] 0) (.seq (.seq (.reg e322r1 [0, 3] 0) (.block 0 (.loop [3, 10] e322l6))) (.seq (.reg e322r7 [] 0) .ret))), [.slot 4], 27, 0⟩
theorem g322 : Good Tryz.prog 322 e322 := ⟨Tryz.f322, Tryz.func322, by kernel_rfl, by kernel_rfl, by kernel_rfl, by kernel_rfl⟩
/-! slices.insertionSortCmpFunc[concord/api.Inst] -/
def e337r0 : EE := .q 1 .add [.s 1, .c (.int .i64 1)] none <|
 .out [(0, .s 0), (1, .s 1), (2, .s 2), (3, .s 3), (8, .r 1)]
def e337r1 : EE := .q 2 .lss [.s 8, .s 2] none <|
 .out [(0, .s 0), (1, .s 1), (2, .s 2), (3, .s 3), (8, .s 8), (14, .r 2)]
def e337r2 : EE := .out [(0, .s 0), (1, .s 1), (2, .s 2), (3, .s 3), (8, .s 8), (9, .s 8)]
def e337r3 : EE := .q 2 .gtr [.s 9, .s 1] none <|
 .q 4 .mv [.s 3] (some (.r 2, true)) <|
 .q 5 .mv [.s 0] (some (.r 2, true)) <|
 .q 6 .mv [.s 9] (some (.r 2, true)) <|
 .q 7 (.ixs 2) [.r 5, .r 6] (some (.r 2, true)) <|
 .q 8 (.lda 2) [.r 7] (some (.r 2, true)) <|
 .q 9 .mv [.s 0] (some (.r 2, true)) <|
 .q 10 .mv [.s 9] (some (.r 2, true)) <|
 .q 11 .sub [.r 10, .c (.int .i64 1)] (some (.r 2, true)) <|
 .q 12 (.ixs 2) [.r 9, .r 11] (some (.r 2, true)) <|
 .q 13 (.lda 2) [.r 12] (some (.r 2, true)) <|
 .x 14 .callv [.r 4, .r 8, .r 13] (some (.r 2, true)) [] <|
 .q 15 .lss [.r 14, .c z] (some (.r 2, true)) <|
 .q 16 .pick [.r 2, .r 15, .c (.bool false)] none <|
 .out [(0, .s 0), (1, .s 1), (2, .s 2), (3, .s 3), (8, .s 8), (9, .s 9), (34, .r 16)]
def e337r4 : EE := .q 4 .sub [.s 9, .c (.int .i64 1)] none <|
 .q 7 .sub [.s 9, .c (.int .i64 1)] none <|
 .q 8 (.ixs 2) [.s 0, .r 7] none <|
 .q 9 (.lda 2) [.r 8] none <|
 .q 12 (.ixs 2) [.s 0, .s 9] none <|
 .q 13 (.lda 2) [.r 12] none <|
 .q 14 (.ixs 2) [.s 0, .s 9] none <|
 .x 15 (.st 2) [.r 14, .r 9] none [] <|
 .q 16 (.ixs 2) [.s 0, .r 4] none <|
 .x 17 (.st 2) [.r 16, .r 13] none [] <|
 .out [(0, .s 0), (1, .s 1), (2, .s 2), (3, .s 3), (8, .s 8), (9, .s 9)]
def e337r5 : EE := .q 1 .sub [.s 9, .c (.int .i64 1)] none <|
 .out [(0, .s 0), (1, .s 1), (2, .s 2), (3, .s 3), (8, .s 8), (9, .r 1)]
def e337l6 : EC := (.seq (.seq (.reg e337r3 [0, 1, 2, 3, 8, 9] 0) (.cond (.s 34) .skip (.exit 2))) (.seq (.block 3 (.reg e337r4 [0, 1, 2, 3, 8, 9] 0)) (.reg e337r5 [0, 1, 2, 3, 8, 9] 0)))
def e337r7 : EE := .q 1 .add [.s 8, .c (.int .i64 1)] none <|
 .out [(0, .s 0), (1, .s 1), (2, .s 2), (3, .s 3), (8, .r 1)]
def e337l8 : EC := (.seq (.seq (.reg e337r1 [0, 1, 2, 3, 8] 0) (.cond (.s 14) .skip (.exit 0))) (.seq (.block 1 (.seq (.reg e337r2 [0, 1, 2, 3, 8] 0) (.block 2 (.loop [0, 1, 2, 3, 8, 9] e337l6)))) (.reg e337r7 [0, 1, 2, 3, 8] 0)))
def e337 : EFn := ⟨(.seq (.reg e337r0 [0, 1, 2, 3] 0) (.block 0 (.loop [0, 1, 2, 3, 8] e337l8))), [], 53, 0⟩
theorem g337 : Good Tryz.prog 337 e337 := ⟨Tryz.f337, Tryz.func337, by kernel_rfl, by kernel_rfl, by kernel_rfl, by kernel_rfl⟩
end Go.Ev
