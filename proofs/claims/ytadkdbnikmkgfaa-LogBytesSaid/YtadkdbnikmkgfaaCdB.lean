import Derived.Test.YtadkdbnikmkgfaaCdNames
namespace Go.Fw
open Go.Proofs
/-! concord/letter.RightCell -/
abbrev letter_RightCell_r0 : NC := .reg
    (.x 0 (.box 37) [(.slot 0)] none []
    (.out [(1, (.res 0))]))
    [0]
abbrev letter_RightCell_r1 : NC := .reg
    (.q 0 (.fld 0) [(.slot 1)] none
    (.q 1 .ld [(.res 0)] none
    (.q 2 (.icm .lss) [(.res 1), (.const (.int .i64 0))] none
    (.q 4 (.fld 0) [(.slot 1)] (some ((.res 2), false))
    (.q 5 .ld [(.res 4)] (some ((.res 2), false))
    (.q 6 (.icm .gtr) [(.res 5), (.const (.int .i64 3))] (some ((.res 2), false))
    (.q 7 .pick [(.res 2), (.const (.bool true)), (.res 6)] none
    (.q 9 (.fld 1) [(.slot 1)] (some ((.res 7), false))
    (.q 10 (.lda 2) [(.res 9)] (some ((.res 7), false))
    (.x 11 (.call 58) [(.res 10)] (some ((.res 7), false)) []
    (.q 12 .not [(.res 11)] (some ((.res 7), false))
    (.q 13 .pick [(.res 7), (.const (.bool true)), (.res 12)] none
    (.q 15 (.fld 3) [(.slot 1)] (some ((.res 13), false))
    (.q 16 (.lda 2) [(.res 15)] (some ((.res 13), false))
    (.x 17 (.call 58) [(.res 16)] (some ((.res 13), false)) []
    (.q 18 .not [(.res 17)] (some ((.res 13), false))
    (.q 19 .pick [(.res 13), (.const (.bool true)), (.res 18)] none
    (.q 21 (.fld 1) [(.slot 1)] (some ((.res 19), false))
    (.q 22 (.lda 2) [(.res 21)] (some ((.res 19), false))
    (.q 23 (.fld 3) [(.slot 1)] (some ((.res 19), false))
    (.q 24 (.lda 2) [(.res 23)] (some ((.res 19), false))
    (.x 25 (.call 20) [(.res 22), (.res 24)] (some ((.res 19), false)) []
    (.q 26 .pick [(.res 19), (.const (.bool true)), (.res 25)] none
    (.out [(1, (.slot 1)), (29, (.res 26))]))))))))))))))))))))))))
    [1]
abbrev letter_RightCell_r2 : NC := .reg
    (.out [(2, (.const (.bool false)))])
    []
abbrev letter_RightCell_r3 : NC := .reg
    (.q 0 (.fld 20) [(.slot 1)] none
    (.q 1 .ld [(.res 0)] none
    (.q 3 (.fld 0) [(.slot 1)] (some ((.res 1), true))
    (.q 4 .ld [(.res 3)] (some ((.res 1), true))
    (.q 5 (.icm .neq) [(.res 4), (.const (.int .i64 1))] (some ((.res 1), true))
    (.q 6 .mv [(.res 5)] (some ((.res 1), true))
    (.q 7 (.fld 3) [(.slot 1)] (some ((.res 6), false))
    (.q 8 (.lda 2) [(.res 7)] (some ((.res 6), false))
    (.q 9 (.bld [(.int .i64 0), (.int .i64 0)] []) [] (some ((.res 6), false))
    (.q 10 (.eqc true [(.i .i64), (.i .i64)]) [(.res 8), (.res 9)] (some ((.res 6), false))
    (.q 11 .pick [(.res 6), (.const (.bool true)), (.res 10)] (some ((.res 1), true))
    (.q 12 .pick [(.res 1), (.res 11), (.const (.bool false))] none
    (.q 14 (.fld 0) [(.slot 1)] (some ((.res 12), false))
    (.q 15 .ld [(.res 14)] (some ((.res 12), false))
    (.q 16 (.icm .eql) [(.res 15), (.const (.int .i64 0))] (some ((.res 12), false))
    (.q 17 .mv [(.res 16)] (some ((.res 12), false))
    (.q 18 (.lda 21) [(.slot 1)] (some ((.res 17), true))
    (.q 19 (.fld 1) [(.slot 1)] (some ((.res 17), true))
    (.q 20 (.lda 2) [(.res 19)] (some ((.res 17), true))
    (.q 21 (.bld [(.int .i64 0), (.int .i64 0), (.int .i64 0), (.int .i64 0), (.int .i64 0), (.int .i64 0), (.int .i64 0), (.int .i64 0), (.string ⟨#[]⟩), (.string ⟨#[]⟩), (.string ⟨#[]⟩), (.string ⟨#[]⟩), (.int .i64 0), (.int .i64 0), (.int .i64 0), (.int .i64 0), (.int .i64 0), (.int .i64 0), (.int .i64 0), (.int .i64 0), (.bool false)] [(1, 2)]) [(.res 20)] (some ((.res 17), true))
    (.q 22 (.eqc true [(.i .i64), (.i .i64), (.i .i64), (.i .i64), (.i .i64), (.i .i64), (.i .i64), (.i .i64), .s, .s, .s, .s, (.i .i64), (.i .i64), (.i .i64), (.i .i64), (.i .i64), (.i .i64), (.i .i64), (.i .i64), .b]) [(.res 18), (.res 21)] (some ((.res 17), true))
    (.q 23 .pick [(.res 17), (.res 22), (.const (.bool false))] (some ((.res 12), false))
    (.q 24 .pick [(.res 12), (.const (.bool true)), (.res 23)] none
    (.out [(1, (.slot 1)), (54, (.res 24))]))))))))))))))))))))))))
    [1]
abbrev letter_RightCell_r4 : NC := .reg
    (.out [(2, (.const (.bool false)))])
    []
abbrev letter_RightCell_r5 : NC := .reg
    (.q 0 (.fld 5) [(.slot 1)] none
    (.q 1 (.lda 7) [(.res 0)] none
    (.x 2 (.call 59) [(.res 1)] none []
    (.q 4 (.fld 12) [(.slot 1)] (some ((.res 2), true))
    (.q 5 (.lda 8) [(.res 4)] (some ((.res 2), true))
    (.x 6 (.call 60) [(.res 5)] (some ((.res 2), true)) []
    (.q 7 .pick [(.res 2), (.res 6), (.const (.bool false))] none
    (.out [(2, (.res 7))]))))))))
    [1]
abbrev letter_RightCell_c : NC :=
  (.seq letter_RightCell_r0
  (.seq (.seq letter_RightCell_r1
  (.cond (.slot 29)
    (.seq letter_RightCell_r2
    .ret)
    .skip))
  (.seq (.seq letter_RightCell_r3
  (.cond (.slot 54)
    (.seq letter_RightCell_r4
    .ret)
    .skip))
  (.seq letter_RightCell_r5
  .ret))))
abbrev letter_RightCell_F : FN := ⟨letter_RightCell_c, [.slot 2]⟩
theorem letter_RightCell_ok : compF Try.prog Try.f34 = some letter_RightCell_F := by kernel_rfl
theorem letter_RightCell_go {args : List Value} {m : Mem} {R : Value → Mem → Prop} (hn : args.length ≤ Try.f34.ntmps) (h : wpN Try.prog letter_RightCell_c (retP letter_RightCell_F.rvs R) (zipP 0 args) m) : MC Try.prog 34 args m R := MC_start Try.func34 letter_RightCell_ok mixed_ok hn h
/-! concord/letter.GetCell -/
abbrev letter_GetCell_r0 : NC := .reg
    (.x 0 (.alc [(.int .i64 0), (.int .i64 0), (.int .i64 0), (.int .i64 0), (.int .i64 0), (.int .i64 0), (.int .i64 0), (.int .i64 0), (.string ⟨#[]⟩), (.string ⟨#[]⟩), (.string ⟨#[]⟩), (.string ⟨#[]⟩), (.int .i64 0), (.int .i64 0), (.int .i64 0), (.int .i64 0), (.int .i64 0), (.int .i64 0), (.int .i64 0), (.int .i64 0), (.bool false)] 37) [] none []
    (.out [(0, (.slot 0)), (2, (.res 0))]))
    [0]
abbrev letter_GetCell_r1 : NC := .reg
    (.x 1 (.call 44) [(.slot 0)] none []
    (.q 2 (.bld [(.int .i64 0), (.int .i64 0), (.int .i64 0), (.int .i64 0), (.int .i64 0), (.int .i64 0), (.int .i64 0), (.int .i64 0), (.string ⟨#[]⟩), (.string ⟨#[]⟩), (.string ⟨#[]⟩), (.string ⟨#[]⟩), (.int .i64 0), (.int .i64 0), (.int .i64 0), (.int .i64 0), (.int .i64 0), (.int .i64 0), (.int .i64 0), (.int .i64 0), (.bool false)] [(0, 1)]) [(.res 1)] none
    (.x 3 (.alc [(.int .i64 0), (.int .i64 0), (.int .i64 0), (.int .i64 0), (.int .i64 0), (.int .i64 0), (.int .i64 0), (.int .i64 0), (.string ⟨#[]⟩), (.string ⟨#[]⟩), (.string ⟨#[]⟩), (.string ⟨#[]⟩), (.int .i64 0), (.int .i64 0), (.int .i64 0), (.int .i64 0), (.int .i64 0), (.int .i64 0), (.int .i64 0), (.int .i64 0), (.bool false)] 37) [] none []
    (.x 4 (.st 21) [(.res 3), (.res 2)] none []
    (.out [(0, (.slot 0)), (2, (.slot 2)), (3, (.res 3))])))))
    [0, 2]
abbrev letter_GetCell_r2 : NC := .reg
    (.x 1 (.call 67) [(.slot 0)] none []
    (.q 2 (.fld 1) [(.slot 3)] none
    (.x 3 (.st 2) [(.res 2), (.res 1)] none []
    (.out [(0, (.slot 0)), (2, (.slot 2)), (3, (.slot 3))]))))
    [0, 2, 3]
abbrev letter_GetCell_r3 : NC := .reg
    (.q 0 (.fld 0) [(.slot 3)] none
    (.q 1 .ld [(.res 0)] none
    (.q 2 (.icm .neq) [(.res 1), (.const (.int .i64 0))] none
    (.out [(0, (.slot 0)), (2, (.slot 2)), (3, (.slot 3)), (12, (.res 2))]))))
    [0, 2, 3]
abbrev letter_GetCell_r4 : NC := .reg
    (.x 1 (.call 67) [(.slot 0)] none []
    (.q 2 (.fld 3) [(.slot 3)] none
    (.x 3 (.st 2) [(.res 2), (.res 1)] none []
    (.out [(0, (.slot 0)), (2, (.slot 2)), (3, (.slot 3))]))))
    [0, 2, 3]
abbrev letter_GetCell_r5 : NC := .reg
    (.x 1 (.call 68) [(.slot 0)] none []
    (.q 2 (.fld 5) [(.slot 3)] none
    (.x 3 (.st 7) [(.res 2), (.res 1)] none []
    (.out [(0, (.slot 0)), (2, (.slot 2)), (3, (.slot 3))]))))
    [0, 2, 3]
abbrev letter_GetCell_r6 : NC := .reg
    (.x 1 (.call 69) [(.slot 0)] none []
    (.q 2 (.fld 12) [(.slot 3)] none
    (.x 3 (.st 8) [(.res 2), (.res 1)] none []
    (.out [(0, (.slot 0)), (2, (.slot 2)), (3, (.slot 3))]))))
    [0, 2, 3]
abbrev letter_GetCell_r7 : NC := .reg
    (.x 1 (.call 70) [(.slot 0)] none []
    (.q 2 (.fld 20) [(.slot 3)] none
    (.x 3 (.st 1) [(.res 2), (.res 1)] none []
    (.out [(0, (.slot 0)), (2, (.slot 2)), (3, (.slot 3))]))))
    [0, 2, 3]
abbrev letter_GetCell_r8 : NC := .reg
    (.x 1 (.call 71) [(.slot 0)] none []
    (.q 2 (.icm .eql) [(.res 1), (.const (.int .i64 0))] none
    (.q 4 (.lda 21) [(.slot 3)] (some ((.res 2), true))
    (.x 5 (.call 34) [(.res 4)] (some ((.res 2), true)) []
    (.q 6 .not [(.res 5)] (some ((.res 2), true))
    (.q 7 .pick [(.res 2), (.res 6), (.const (.bool false))] none
    (.out [(0, (.slot 0)), (2, (.slot 2)), (3, (.slot 3)), (32, (.res 7))])))))))
    [0, 2, 3]
abbrev letter_GetCell_r9 : NC := .reg
    (.x 1 (.call 72) [(.slot 0)] none []
    (.out [(0, (.slot 0)), (2, (.slot 2)), (3, (.slot 3))]))
    [0, 2, 3]
abbrev letter_GetCell_r10 : NC := .reg
    (.x 1 (.call 71) [(.slot 0)] none []
    (.q 2 (.icm .neq) [(.res 1), (.const (.int .i64 0))] none
    (.out [(2, (.slot 2)), (3, (.slot 3)), (37, (.res 2))])))
    [0, 2, 3]
abbrev letter_GetCell_r11 : NC := .reg
    (.q 0 (.bld [(.int .i64 0), (.int .i64 0), (.int .i64 0), (.int .i64 0), (.int .i64 0), (.int .i64 0), (.int .i64 0), (.int .i64 0), (.string ⟨#[]⟩), (.string ⟨#[]⟩), (.string ⟨#[]⟩), (.string ⟨#[]⟩), (.int .i64 0), (.int .i64 0), (.int .i64 0), (.int .i64 0), (.int .i64 0), (.int .i64 0), (.int .i64 0), (.int .i64 0), (.bool false)] []) [] none
    (.x 1 (.st 21) [(.slot 2), (.res 0)] none []
    (.out [(2, (.slot 2))])))
    [2]
abbrev letter_GetCell_r12 : NC := .reg
    (.q 0 (.lda 21) [(.slot 3)] none
    (.x 1 (.st 21) [(.slot 2), (.res 0)] none []
    (.out [(2, (.slot 2))])))
    [2, 3]
abbrev letter_GetCell_c : NC :=
  (.seq letter_GetCell_r0
  (.seq letter_GetCell_r1
  (.seq letter_GetCell_r2
  (.seq (.seq letter_GetCell_r3
  (.cond (.slot 12)
    (.seq letter_GetCell_r4
    (.seq letter_GetCell_r5
    (.seq letter_GetCell_r6
    letter_GetCell_r7)))
    .skip))
  (.seq (.seq letter_GetCell_r8
  (.cond (.slot 32)
    letter_GetCell_r9
    .skip))
  (.seq (.seq letter_GetCell_r10
  (.cond (.slot 37)
    (.seq letter_GetCell_r11
    .ret)
    .skip))
  (.seq letter_GetCell_r12
  .ret)))))))
abbrev letter_GetCell_F : FN := ⟨letter_GetCell_c, [.cells 2 21]⟩
theorem letter_GetCell_ok : compF Try.prog Try.f45 = some letter_GetCell_F := by kernel_rfl
theorem letter_GetCell_go {args : List Value} {m : Mem} {R : Value → Mem → Prop} (hn : args.length ≤ Try.f45.ntmps) (h : wpN Try.prog letter_GetCell_c (retP letter_GetCell_F.rvs R) (zipP 0 args) m) : MC Try.prog 45 args m R := MC_start Try.func45 letter_GetCell_ok mixed_ok hn h
/-! concord/letter.PutCell -/
abbrev letter_PutCell_r0 : NC := .reg
    (.x 0 (.box 37) [(.slot 1)] none []
    (.out [(0, (.slot 0)), (3, (.res 0))]))
    [0, 1]
abbrev letter_PutCell_r1 : NC := .reg
    (.q 0 (.lda 21) [(.slot 3)] none
    (.x 1 (.call 34) [(.res 0)] none []
    (.q 2 .not [(.res 1)] none
    (.out [(0, (.slot 0)), (3, (.slot 3)), (7, (.res 2))]))))
    [0, 3]
abbrev letter_PutCell_r2 : NC := .reg
    (.x 1 (.app 5 1 1 [(.int .u8 0)]) [(.const (.slice none 0 0)), (.slot 0)] none []
    (.out [(4, (.res 1))]))
    [0]
abbrev letter_PutCell_r3 : NC := .reg
    (.q 1 (.fld 0) [(.slot 3)] none
    (.q 2 .ld [(.res 1)] none
    (.q 4 (.fld 1) [(.slot 3)] none
    (.q 5 (.lda 2) [(.res 4)] none
    (.x 3 (.call 55) [(.slot 0), (.res 2)] none [(5, (.lda 2), [(.res 4)], none)]
    (.x 6 (.call 80) [(.res 3), (.res 5)] none []
    (.out [(0, (.res 6)), (3, (.slot 3))])))))))
    [0, 3]
abbrev letter_PutCell_r4 : NC := .reg
    (.q 0 (.fld 0) [(.slot 3)] none
    (.q 1 .ld [(.res 0)] none
    (.q 2 (.icm .eql) [(.res 1), (.const (.int .i64 0))] none
    (.out [(0, (.slot 0)), (3, (.slot 3)), (19, (.res 2))]))))
    [0, 3]
abbrev letter_PutCell_r5 : NC := .reg
    (.out [(4, (.slot 0))])
    [0]
abbrev letter_PutCell_r6 : NC := .reg
    (.q 1 (.fld 3) [(.slot 3)] none
    (.q 2 (.lda 2) [(.res 1)] none
    (.q 4 (.fld 5) [(.slot 3)] none
    (.q 5 (.lda 7) [(.res 4)] none
    (.x 3 (.call 80) [(.slot 0), (.res 2)] none [(5, (.lda 7), [(.res 4)], none)]
    (.x 6 (.call 81) [(.res 3), (.res 5)] none []
    (.out [(0, (.res 6)), (3, (.slot 3))])))))))
    [0, 3]
abbrev letter_PutCell_r7 : NC := .reg
    (.q 1 (.fld 12) [(.slot 3)] none
    (.q 2 (.lda 8) [(.res 1)] none
    (.q 4 (.fld 20) [(.slot 3)] none
    (.q 5 .ld [(.res 4)] none
    (.x 3 (.call 83) [(.slot 0), (.res 2)] none [(5, .ld, [(.res 4)], none)]
    (.x 6 (.call 82) [(.res 3), (.res 5)] none []
    (.out [(4, (.res 6))])))))))
    [0, 3]
abbrev letter_PutCell_c : NC :=
  (.seq letter_PutCell_r0
  (.seq (.seq letter_PutCell_r1
  (.cond (.slot 7)
    (.seq letter_PutCell_r2
    .ret)
    .skip))
  (.seq letter_PutCell_r3
  (.seq (.seq letter_PutCell_r4
  (.cond (.slot 19)
    (.seq letter_PutCell_r5
    .ret)
    .skip))
  (.seq letter_PutCell_r6
  (.seq letter_PutCell_r7
  .ret))))))
abbrev letter_PutCell_F : FN := ⟨letter_PutCell_c, [.slot 4]⟩
theorem letter_PutCell_ok : compF Try.prog Try.f54 = some letter_PutCell_F := by kernel_rfl
theorem letter_PutCell_go {args : List Value} {m : Mem} {R : Value → Mem → Prop} (hn : args.length ≤ Try.f54.ntmps) (h : wpN Try.prog letter_PutCell_c (retP letter_PutCell_F.rvs R) (zipP 0 args) m) : MC Try.prog 54 args m R := MC_start Try.func54 letter_PutCell_ok mixed_ok hn h
/-! concord/letter.getBallot -/
abbrev letter_getBallot_r0 : NC := .reg
    (.x 0 (.alc [(.int .i64 0), (.int .i64 0)] 31) [] none []
    (.out [(0, (.slot 0)), (2, (.res 0))]))
    [0]
abbrev letter_getBallot_r1 : NC := .reg
    (.x 1 (.call 44) [(.slot 0)] none []
    (.out [(0, (.slot 0)), (2, (.slot 2)), (3, (.res 1))]))
    [0, 2]
abbrev letter_getBallot_r2 : NC := .reg
    (.x 2 (.call 44) [(.slot 0)] none []
    (.q 3 (.bld [(.int .i64 0), (.int .i64 0)] [(0, 1), (1, 1)]) [(.slot 3), (.res 2)] none
    (.x 4 (.st 2) [(.slot 2), (.res 3)] none []
    (.out [(2, (.slot 2))]))))
    [0, 2, 3]
abbrev letter_getBallot_c : NC :=
  (.seq letter_getBallot_r0
  (.seq letter_getBallot_r1
  (.seq letter_getBallot_r2
  .ret)))
abbrev letter_getBallot_F : FN := ⟨letter_getBallot_c, [.cells 2 2]⟩
theorem letter_getBallot_ok : compF Try.prog Try.f67 = some letter_getBallot_F := by kernel_rfl
theorem letter_getBallot_go {args : List Value} {m : Mem} {R : Value → Mem → Prop} (hn : args.length ≤ Try.f67.ntmps) (h : wpN Try.prog letter_getBallot_c (retP letter_getBallot_F.rvs R) (zipP 0 args) m) : MC Try.prog 67 args m R := MC_start Try.func67 letter_getBallot_ok mixed_ok hn h
/-! concord/letter.ballot -/
abbrev letter_ballot_r0 : NC := .reg
    (.x 0 (.box 31) [(.slot 1)] none []
    (.out [(0, (.slot 0)), (3, (.res 0))]))
    [0, 1]
abbrev letter_ballot_r1 : NC := .reg
    (.q 1 (.fld 0) [(.slot 3)] none
    (.q 2 .ld [(.res 1)] none
    (.q 4 (.fld 1) [(.slot 3)] none
    (.q 5 .ld [(.res 4)] none
    (.x 3 (.call 55) [(.slot 0), (.res 2)] none [(5, .ld, [(.res 4)], none)]
    (.x 6 (.call 55) [(.res 3), (.res 5)] none []
    (.out [(4, (.res 6))])))))))
    [0, 3]
abbrev letter_ballot_c : NC :=
  (.seq letter_ballot_r0
  (.seq letter_ballot_r1
  .ret))
abbrev letter_ballot_F : FN := ⟨letter_ballot_c, [.slot 4]⟩
theorem letter_ballot_ok : compF Try.prog Try.f80 = some letter_ballot_F := by kernel_rfl
theorem letter_ballot_go {args : List Value} {m : Mem} {R : Value → Mem → Prop} (hn : args.length ≤ Try.f80.ntmps) (h : wpN Try.prog letter_ballot_c (retP letter_ballot_F.rvs R) (zipP 0 args) m) : MC Try.prog 80 args m R := MC_start Try.func80 letter_ballot_ok mixed_ok hn h
end Go.Fw
