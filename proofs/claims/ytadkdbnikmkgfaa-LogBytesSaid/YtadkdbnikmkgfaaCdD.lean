import Derived.Test.YtadkdbnikmkgfaaCdNames
namespace Go.Fw
open Go.Proofs
/-! concord/concordlaw16.LogRuns -/
abbrev law16_LogRuns_r0 : NC := .reg
    (.out [])
    []
abbrev law16_LogRuns_r1 : NC := .reg
    (.q 0 (.bld [(.int .i64 0), (.int .i64 0), (.int .i64 0), (.int .i64 0), (.int .i64 0), (.int .i64 0), (.int .i64 0)] []) [] none
    (.x 1 (.call 9) [(.res 0)] none []
    (.out [(1, (.res 1))])))
    []
abbrev law16_LogRuns_r2 : NC := .reg
    (.q 1 (.eqp false) [(.slot 1), (.const (.pointer none))] none
    (.out [(1, (.slot 1)), (9, (.res 1))]))
    [1]
abbrev law16_LogRuns_r3 : NC := .reg
    (.out [(0, (.const (.bool false)))])
    []
abbrev law16_LogRuns_r4 : NC := .reg
    (.x 1 (.call 11) [(.const (.int .i64 1)), (.const (.int .i64 2))] none []
    (.q 2 (.bld [(.int .i64 0), (.int .i64 0), (.int .i64 0), (.int .i64 0), (.int .i64 0), (.int .i64 0), (.int .i64 0), (.int .i64 0), (.string ⟨#[]⟩), (.string ⟨#[]⟩), (.string ⟨#[]⟩), (.string ⟨#[]⟩), (.int .i64 0), (.int .i64 0), (.int .i64 0), (.int .i64 0), (.int .i64 0), (.int .i64 0), (.int .i64 0), (.int .i64 0), (.bool false)] [(0, 1)]) [(.const (.int .i64 1))] none
    (.x 3 (.call 10) [(.slot 1), (.res 1), (.res 2)] none []
    (.out [(1, (.slot 1)), (2, (.res 3))]))))
    [1]
abbrev law16_LogRuns_r5 : NC := .reg
    (.x 1 (.call 11) [(.const (.int .i64 1)), (.const (.int .i64 2))] none []
    (.q 2 (.bld [(.int .i64 0), (.int .i64 0), (.int .i64 0), (.int .i64 0), (.int .i64 0), (.int .i64 0), (.int .i64 0), (.int .i64 0), (.string ⟨#[]⟩), (.string ⟨#[]⟩), (.string ⟨#[]⟩), (.string ⟨#[]⟩), (.int .i64 0), (.int .i64 0), (.int .i64 0), (.int .i64 0), (.int .i64 0), (.int .i64 0), (.int .i64 0), (.int .i64 0), (.bool false)] [(0, 1)]) [(.const (.int .i64 3))] none
    (.x 3 (.call 10) [(.slot 1), (.res 1), (.res 2)] none []
    (.out [(1, (.slot 1)), (2, (.slot 2)), (3, (.res 3))]))))
    [1, 2]
abbrev law16_LogRuns_r6 : NC := .reg
    (.x 1 (.call 11) [(.const (.int .i64 1)), (.const (.int .i64 2))] none []
    (.q 2 (.bld [(.int .i64 0), (.int .i64 0), (.int .i64 0), (.int .i64 0), (.int .i64 0), (.int .i64 0), (.int .i64 0), (.int .i64 0), (.string ⟨#[]⟩), (.string ⟨#[]⟩), (.string ⟨#[]⟩), (.string ⟨#[]⟩), (.int .i64 0), (.int .i64 0), (.int .i64 0), (.int .i64 0), (.int .i64 0), (.int .i64 0), (.int .i64 0), (.int .i64 0), (.bool false)] [(0, 1)]) [(.const (.int .i64 2))] none
    (.x 3 (.call 10) [(.slot 1), (.res 1), (.res 2)] none []
    (.out [(1, (.slot 1)), (2, (.slot 2)), (3, (.slot 3)), (4, (.res 3))]))))
    [1, 2, 3]
abbrev law16_LogRuns_r7 : NC := .reg
    (.x 1 (.call 12) [(.slot 1)] none []
    (.x 2 (.alc [(.int .i64 0), (.int .i64 0), (.int .i64 0), (.int .i64 0), (.int .i64 0), (.int .i64 0), (.int .i64 0)] 25) [] none []
    (.x 3 (.st 7) [(.res 2), (.res 1)] none []
    (.out [(1, (.slot 1)), (2, (.slot 2)), (3, (.slot 3)), (4, (.slot 4)), (5, (.res 2))]))))
    [1, 2, 3, 4]
abbrev law16_LogRuns_r8 : NC := .reg
    (.q 1 (.bld [(.int .i64 0), (.int .i64 0), (.int .i64 0), (.int .i64 0), (.int .i64 0), (.int .i64 0), (.int .i64 0)] [(0, 1), (1, 1)]) [(.const (.int .i64 0)), (.const (.int .i64 5))] none
    (.x 2 (.call 13) [(.slot 1), (.res 1)] none []
    (.out [(1, (.slot 1)), (2, (.slot 2)), (3, (.slot 3)), (4, (.slot 4)), (5, (.slot 5))])))
    [1, 2, 3, 4, 5]
abbrev law16_LogRuns_r9 : NC := .reg
    (.q 2 .mv [(.slot 3)] (some ((.slot 2), true))
    (.q 3 .pick [(.slot 2), (.res 2), (.const (.bool false))] none
    (.q 5 .mv [(.slot 4)] (some ((.res 3), true))
    (.q 6 .not [(.res 5)] (some ((.res 3), true))
    (.q 7 .pick [(.res 3), (.res 6), (.const (.bool false))] none
    (.q 9 (.lda 7) [(.slot 5)] (some ((.res 7), true))
    (.q 10 (.bld [(.int .i64 0), (.int .i64 0), (.int .i64 0), (.int .i64 0), (.int .i64 0), (.int .i64 0), (.int .i64 0)] [(0, 1), (1, 1)]) [(.const (.int .i64 0)), (.const (.int .i64 2))] (some ((.res 7), true))
    (.q 11 (.eqc false [(.i .i64), (.i .i64), (.i .i64), (.i .i64), (.i .i64), (.i .i64), (.i .i64)]) [(.res 9), (.res 10)] (some ((.res 7), true))
    (.q 12 .pick [(.res 7), (.res 11), (.const (.bool false))] none
    (.q 14 .mv [(.slot 1)] (some ((.res 12), true))
    (.x 15 (.call 14) [(.res 14)] (some ((.res 12), true)) []
    (.q 16 .len [(.res 15)] (some ((.res 12), true))
    (.q 17 (.icm .eql) [(.res 16), (.const (.int .i64 0))] (some ((.res 12), true))
    (.q 18 .pick [(.res 12), (.res 17), (.const (.bool false))] none
    (.q 20 .mv [(.slot 1)] (some ((.res 18), true))
    (.x 21 (.call 11) [(.const (.int .i64 1)), (.const (.int .i64 5))] (some ((.res 18), true)) []
    (.x 22 (.call 15) [(.res 20), (.res 21)] (some ((.res 18), true)) []
    (.q 23 .pick [(.res 18), (.res 22), (.const (.bool false))] none
    (.q 25 .mv [(.slot 1)] (some ((.res 23), true))
    (.x 26 (.call 11) [(.const (.int .i64 1)), (.const (.int .i64 6))] (some ((.res 23), true)) []
    (.x 27 (.call 15) [(.res 25), (.res 26)] (some ((.res 23), true)) []
    (.q 28 .not [(.res 27)] (some ((.res 23), true))
    (.q 29 .pick [(.res 23), (.res 28), (.const (.bool false))] none
    (.out [(0, (.res 29))]))))))))))))))))))))))))
    [1, 2, 3, 4, 5]
abbrev law16_LogRuns_c : NC :=
  (.seq law16_LogRuns_r0
  (.seq law16_LogRuns_r1
  (.seq (.seq law16_LogRuns_r2
  (.cond (.slot 9)
    (.seq law16_LogRuns_r3
    .ret)
    .skip))
  (.seq law16_LogRuns_r4
  (.seq law16_LogRuns_r5
  (.seq law16_LogRuns_r6
  (.seq law16_LogRuns_r7
  (.seq law16_LogRuns_r8
  (.seq law16_LogRuns_r9
  .ret)))))))))
abbrev law16_LogRuns_F : FN := ⟨law16_LogRuns_c, [.slot 0]⟩
theorem law16_LogRuns_ok : compF Try.prog Try.f3 = some law16_LogRuns_F := by kernel_rfl
theorem law16_LogRuns_go {args : List Value} {m : Mem} {R : Value → Mem → Prop} (hn : args.length ≤ Try.f3.ntmps) (h : wpN Try.prog law16_LogRuns_c (retP law16_LogRuns_F.rvs R) (zipP 0 args) m) : MC Try.prog 3 args m R := MC_start Try.func3 law16_LogRuns_ok mixed_ok hn h
/-! concord/concordlaw16.LogTops -/
abbrev law16_LogTops_r0 : NC := .reg
    (.x 0 (.box 25) [(.slot 1)] none []
    (.out [(0, (.slot 0)), (3, (.res 0))]))
    [0, 1]
abbrev law16_LogTops_r1 : NC := .reg
    (.q 0 (.bld [(.int .i64 0), (.int .i64 0), (.int .i64 0), (.int .i64 0), (.int .i64 0), (.int .i64 0), (.int .i64 0)] []) [] none
    (.x 1 (.call 9) [(.res 0)] none []
    (.out [(0, (.slot 0)), (3, (.slot 3)), (5, (.res 1))])))
    [0, 3]
abbrev law16_LogTops_r2 : NC := .reg
    (.q 1 (.eqp false) [(.slot 5), (.const (.pointer none))] none
    (.out [(0, (.slot 0)), (3, (.slot 3)), (5, (.slot 5)), (16, (.res 1))]))
    [0, 3, 5]
abbrev law16_LogTops_r3 : NC := .reg
    (.out [(4, (.const (.bool false)))])
    []
abbrev law16_LogTops_r4 : NC := .reg
    (.out [(0, (.slot 0)), (3, (.slot 3)), (5, (.slot 5)), (6, (.const (.int .i64 0)))])
    [0, 3, 5]
abbrev law16_LogTops_r5 : NC := .reg
    (.q 2 .len [(.slot 0)] none
    (.q 3 (.icm .lss) [(.slot 6), (.res 2)] none
    (.q 5 .mv [(.slot 6)] (some ((.res 3), true))
    (.q 6 (.icm .lss) [(.res 5), (.const (.int .i64 40))] (some ((.res 3), true))
    (.q 7 .pick [(.res 3), (.res 6), (.const (.bool false))] none
    (.out [(0, (.slot 0)), (3, (.slot 3)), (5, (.slot 5)), (6, (.slot 6)), (24, (.res 7))]))))))
    [0, 3, 5, 6]
abbrev law16_LogTops_r6 : NC := .reg
    (.q 2 (.ixs 31) [(.slot 0), (.slot 6)] none
    (.q 3 (.fld 3) [(.res 2)] none
    (.q 4 (.lda 21) [(.res 3)] none
    (.x 5 (.call 16) [(.res 4)] none []
    (.out [(0, (.slot 0)), (3, (.slot 3)), (5, (.slot 5)), (6, (.slot 6)), (32, (.res 5))])))))
    [0, 3, 5, 6]
abbrev law16_LogTops_r7 : NC := .reg
    (.q 3 (.ixs 31) [(.slot 0), (.slot 6)] none
    (.q 4 (.fld 1) [(.res 3)] none
    (.q 5 (.lda 2) [(.res 4)] none
    (.q 8 (.ixs 31) [(.slot 0), (.slot 6)] none
    (.q 9 (.fld 3) [(.res 8)] none
    (.q 10 (.lda 21) [(.res 9)] none
    (.x 11 (.call 10) [(.slot 5), (.res 5), (.res 10)] none []
    (.out [(0, (.slot 0)), (3, (.slot 3)), (5, (.slot 5)), (6, (.slot 6))]))))))))
    [0, 3, 5, 6]
abbrev law16_LogTops_r8 : NC := .reg
    (.q 1 (.iar .add) [(.slot 6), (.const (.int .i64 1))] none
    (.out [(0, (.slot 0)), (3, (.slot 3)), (5, (.slot 5)), (6, (.res 1))]))
    [0, 3, 5, 6]
abbrev law16_LogTops_l0 : NC :=
  (.seq (.seq law16_LogTops_r5
  (.cond (.slot 24)
    .skip
    (.exit 0)))
  (.seq (.block 1 (.seq law16_LogTops_r6
  (.cond (.slot 32)
    law16_LogTops_r7
    .skip)))
  law16_LogTops_r8))
abbrev law16_LogTops_r9 : NC := .reg
    (.x 1 (.call 12) [(.slot 5)] none []
    (.x 2 (.alc [(.int .i64 0), (.int .i64 0), (.int .i64 0), (.int .i64 0), (.int .i64 0), (.int .i64 0), (.int .i64 0)] 25) [] none []
    (.x 3 (.st 7) [(.res 2), (.res 1)] none []
    (.out [(3, (.slot 3)), (5, (.slot 5)), (7, (.res 2))]))))
    [3, 5]
abbrev law16_LogTops_r10 : NC := .reg
    (.q 1 (.lda 7) [(.slot 3)] none
    (.x 2 (.call 13) [(.slot 5), (.res 1)] none []
    (.out [(3, (.slot 3)), (5, (.slot 5)), (7, (.slot 7))])))
    [3, 5, 7]
abbrev law16_LogTops_r11 : NC := .reg
    (.x 1 (.call 17) [(.slot 5)] none []
    (.x 3 (.call 14) [(.slot 5)] none []
    (.x 4 (.alc [(.int .i64 0), (.int .i64 0), (.int .i64 0), (.int .i64 0), (.int .i64 0), (.int .i64 0), (.int .i64 0)] 25) [] none []
    (.x 5 (.st 7) [(.res 4), (.res 1)] none []
    (.out [(3, (.slot 3)), (5, (.slot 5)), (7, (.slot 7)), (8, (.res 4)), (9, (.res 3))])))))
    [3, 5, 7]
abbrev law16_LogTops_r12 : NC := .reg
    (.out [(3, (.slot 3)), (5, (.slot 5)), (7, (.slot 7)), (8, (.slot 8)), (9, (.slot 9)), (10, (.const (.int .i64 0)))])
    [3, 5, 7, 8, 9]
abbrev law16_LogTops_r13 : NC := .reg
    (.q 2 .len [(.slot 9)] none
    (.q 3 (.icm .lss) [(.slot 10), (.res 2)] none
    (.out [(3, (.slot 3)), (5, (.slot 5)), (7, (.slot 7)), (8, (.slot 8)), (9, (.slot 9)), (10, (.slot 10)), (57, (.res 3))])))
    [3, 5, 7, 8, 9, 10]
abbrev law16_LogTops_r14 : NC := .reg
    (.q 2 (.ixs 2) [(.slot 9), (.slot 10)] none
    (.q 3 (.fld 1) [(.res 2)] none
    (.q 4 .ld [(.res 3)] none
    (.q 7 (.ixs 2) [(.slot 9), (.slot 10)] none
    (.q 8 (.fld 0) [(.res 7)] none
    (.q 9 .ld [(.res 8)] none
    (.q 10 (.ixa 7 1) [(.slot 8), (.res 9)] none
    (.q 11 .ld [(.res 10)] none
    (.q 12 (.icm .leq) [(.res 4), (.res 11)] none
    (.q 14 .mv [(.slot 9)] (some ((.res 12), false))
    (.q 15 .mv [(.slot 10)] (some ((.res 12), false))
    (.q 16 (.ixs 2) [(.res 14), (.res 15)] (some ((.res 12), false))
    (.q 17 (.fld 1) [(.res 16)] (some ((.res 12), false))
    (.q 18 .ld [(.res 17)] (some ((.res 12), false))
    (.q 19 .mv [(.slot 9)] (some ((.res 12), false))
    (.q 20 .mv [(.slot 10)] (some ((.res 12), false))
    (.q 21 (.ixs 2) [(.res 19), (.res 20)] (some ((.res 12), false))
    (.q 22 (.fld 0) [(.res 21)] (some ((.res 12), false))
    (.q 23 .ld [(.res 22)] (some ((.res 12), false))
    (.q 24 (.ixa 7 1) [(.slot 7), (.res 23)] (some ((.res 12), false))
    (.q 25 .ld [(.res 24)] (some ((.res 12), false))
    (.q 26 (.icm .gtr) [(.res 18), (.res 25)] (some ((.res 12), false))
    (.q 27 .pick [(.res 12), (.const (.bool true)), (.res 26)] none
    (.q 29 .mv [(.slot 5)] (some ((.res 27), false))
    (.q 30 .mv [(.slot 9)] (some ((.res 27), false))
    (.q 31 .mv [(.slot 10)] (some ((.res 27), false))
    (.q 32 (.ixs 2) [(.res 30), (.res 31)] (some ((.res 27), false))
    (.q 33 (.lda 2) [(.res 32)] (some ((.res 27), false))
    (.x 34 (.call 15) [(.res 29), (.res 33)] (some ((.res 27), false)) []
    (.q 35 .pick [(.res 27), (.const (.bool true)), (.res 34)] none
    (.out [(3, (.slot 3)), (5, (.slot 5)), (7, (.slot 7)), (8, (.slot 8)), (9, (.slot 9)), (10, (.slot 10)), (95, (.res 35))])))))))))))))))))))))))))))))))
    [3, 5, 7, 8, 9, 10]
abbrev law16_LogTops_r15 : NC := .reg
    (.out [(4, (.const (.bool false)))])
    []
abbrev law16_LogTops_r16 : NC := .reg
    (.q 1 (.iar .add) [(.slot 10), (.const (.int .i64 1))] none
    (.out [(3, (.slot 3)), (5, (.slot 5)), (7, (.slot 7)), (8, (.slot 8)), (9, (.slot 9)), (10, (.res 1))]))
    [3, 5, 7, 8, 9, 10]
abbrev law16_LogTops_l1 : NC :=
  (.seq (.seq law16_LogTops_r13
  (.cond (.slot 57)
    .skip
    (.exit 2)))
  (.seq (.block 3 (.seq law16_LogTops_r14
  (.cond (.slot 95)
    (.seq law16_LogTops_r15
    .ret)
    .skip)))
  law16_LogTops_r16))
abbrev law16_LogTops_r17 : NC := .reg
    (.x 1 (.call 12) [(.slot 5)] none []
    (.x 2 (.alc [(.int .i64 0), (.int .i64 0), (.int .i64 0), (.int .i64 0), (.int .i64 0), (.int .i64 0), (.int .i64 0)] 25) [] none []
    (.x 3 (.st 7) [(.res 2), (.res 1)] none []
    (.out [(3, (.slot 3)), (5, (.slot 5)), (7, (.slot 7)), (8, (.slot 8)), (9, (.slot 9)), (11, (.res 2))]))))
    [3, 5, 7, 8, 9]
abbrev law16_LogTops_r18 : NC := .reg
    (.out [(3, (.slot 3)), (5, (.slot 5)), (7, (.slot 7)), (8, (.slot 8)), (9, (.slot 9)), (11, (.slot 11)), (12, (.const (.int .i64 0)))])
    [3, 5, 7, 8, 9, 11]
abbrev law16_LogTops_r19 : NC := .reg
    (.q 1 (.icm .lss) [(.slot 12), (.const (.int .i64 7))] none
    (.out [(3, (.slot 3)), (5, (.slot 5)), (7, (.slot 7)), (8, (.slot 8)), (9, (.slot 9)), (11, (.slot 11)), (12, (.slot 12)), (99, (.res 1))]))
    [3, 5, 7, 8, 9, 11, 12]
abbrev law16_LogTops_r20 : NC := .reg
    (.q 1 (.ixa 7 1) [(.slot 11), (.slot 12)] none
    (.q 2 .ld [(.res 1)] none
    (.q 4 (.ixa 7 1) [(.slot 7), (.slot 12)] none
    (.q 5 .ld [(.res 4)] none
    (.q 7 (.ixa 7 1) [(.slot 8), (.slot 12)] none
    (.q 8 .ld [(.res 7)] none
    (.q 9 .mx [(.res 5), (.res 8)] none
    (.q 10 (.icm .neq) [(.res 2), (.res 9)] none
    (.q 12 .mv [(.slot 12)] (some ((.res 10), false))
    (.q 13 (.ixa 7 1) [(.slot 8), (.res 12)] (some ((.res 10), false))
    (.q 14 .ld [(.res 13)] (some ((.res 10), false))
    (.q 15 (.icm .lss) [(.res 14), (.const (.int .i64 0))] (some ((.res 10), false))
    (.q 16 .pick [(.res 10), (.const (.bool true)), (.res 15)] none
    (.q 18 .mv [(.slot 12)] (some ((.res 16), false))
    (.q 19 (.ixa 7 1) [(.slot 8), (.res 18)] (some ((.res 16), false))
    (.q 20 .ld [(.res 19)] (some ((.res 16), false))
    (.q 21 (.icm .gtr) [(.res 20), (.const (.int .i64 1073741824))] (some ((.res 16), false))
    (.q 22 .pick [(.res 16), (.const (.bool true)), (.res 21)] none
    (.out [(3, (.slot 3)), (5, (.slot 5)), (7, (.slot 7)), (8, (.slot 8)), (9, (.slot 9)), (11, (.slot 11)), (12, (.slot 12)), (124, (.res 22))])))))))))))))))))))
    [3, 5, 7, 8, 9, 11, 12]
abbrev law16_LogTops_r21 : NC := .reg
    (.out [(4, (.const (.bool false)))])
    []
abbrev law16_LogTops_r22 : NC := .reg
    (.q 1 (.iar .add) [(.slot 12), (.const (.int .i64 1))] none
    (.out [(3, (.slot 3)), (5, (.slot 5)), (7, (.slot 7)), (8, (.slot 8)), (9, (.slot 9)), (11, (.slot 11)), (12, (.res 1))]))
    [3, 5, 7, 8, 9, 11, 12]
abbrev law16_LogTops_l2 : NC :=
  (.seq (.seq law16_LogTops_r19
  (.cond (.slot 99)
    .skip
    (.exit 4)))
  (.seq (.block 5 (.seq law16_LogTops_r20
  (.cond (.slot 124)
    (.seq law16_LogTops_r21
    .ret)
    .skip)))
  law16_LogTops_r22))
abbrev law16_LogTops_r23 : NC := .reg
    (.q 1 (.lda 7) [(.slot 3)] none
    (.x 2 (.call 13) [(.slot 5), (.res 1)] none []
    (.out [(5, (.slot 5)), (8, (.slot 8)), (9, (.slot 9))])))
    [3, 5, 8, 9]
abbrev law16_LogTops_r24 : NC := .reg
    (.q 1 (.bld [(.int .i64 0), (.int .i64 0), (.int .i64 0), (.int .i64 0), (.int .i64 0), (.int .i64 0), (.int .i64 0)] []) [] none
    (.x 2 (.call 13) [(.slot 5), (.res 1)] none []
    (.out [(5, (.slot 5)), (8, (.slot 8)), (9, (.slot 9))])))
    [5, 8, 9]
abbrev law16_LogTops_r25 : NC := .reg
    (.q 2 (.lda 7) [(.slot 8)] none
    (.x 1 (.call 17) [(.slot 5)] none [(2, (.lda 7), [(.slot 8)], none)]
    (.q 3 (.eqc false [(.i .i64), (.i .i64), (.i .i64), (.i .i64), (.i .i64), (.i .i64), (.i .i64)]) [(.res 1), (.res 2)] none
    (.q 5 .mv [(.slot 5)] (some ((.res 3), true))
    (.q 7 .mv [(.slot 9)] (some ((.res 3), true))
    (.x 6 (.call 14) [(.res 5)] (some ((.res 3), true)) []
    (.x 8 (.call 18) [(.res 6), (.res 7)] (some ((.res 3), true)) []
    (.q 9 .pick [(.res 3), (.res 8), (.const (.bool false))] none
    (.x 11 (.call 3) [] (some ((.res 9), true)) []
    (.q 12 .pick [(.res 9), (.res 11), (.const (.bool false))] none
    (.out [(4, (.res 12))])))))))))))
    [5, 8, 9]
abbrev law16_LogTops_c : NC :=
  (.seq law16_LogTops_r0
  (.seq law16_LogTops_r1
  (.seq (.seq law16_LogTops_r2
  (.cond (.slot 16)
    (.seq law16_LogTops_r3
    .ret)
    .skip))
  (.seq (.seq law16_LogTops_r4
  (.block 0 (.loop [0, 3, 5, 6] law16_LogTops_l0)))
  (.seq law16_LogTops_r9
  (.seq law16_LogTops_r10
  (.seq law16_LogTops_r11
  (.seq (.seq law16_LogTops_r12
  (.block 2 (.loop [3, 5, 7, 8, 9, 10] law16_LogTops_l1)))
  (.seq law16_LogTops_r17
  (.seq (.seq law16_LogTops_r18
  (.block 4 (.loop [3, 5, 7, 8, 9, 11, 12] law16_LogTops_l2)))
  (.seq law16_LogTops_r23
  (.seq law16_LogTops_r24
  (.seq law16_LogTops_r25
  .ret)))))))))))))
abbrev law16_LogTops_F : FN := ⟨law16_LogTops_c, [.slot 4]⟩
theorem law16_LogTops_ok : compF Try.prog Try.f4 = some law16_LogTops_F := by kernel_rfl
theorem law16_LogTops_go {args : List Value} {m : Mem} {R : Value → Mem → Prop} (hn : args.length ≤ Try.f4.ntmps) (h : wpN Try.prog law16_LogTops_c (retP law16_LogTops_F.rvs R) (zipP 0 args) m) : MC Try.prog 4 args m R := MC_start Try.func4 law16_LogTops_ok mixed_ok hn h
/-! concord/concordlaw16.LogHolds -/
abbrev law16_LogHolds_r0 : NC := .reg
    (.out [(0, (.slot 0))])
    [0]
abbrev law16_LogHolds_r1 : NC := .reg
    (.q 0 (.bld [(.int .i64 0), (.int .i64 0), (.int .i64 0), (.int .i64 0), (.int .i64 0), (.int .i64 0), (.int .i64 0)] []) [] none
    (.x 1 (.call 9) [(.res 0)] none []
    (.out [(0, (.slot 0)), (3, (.res 1))])))
    [0]
abbrev law16_LogHolds_r2 : NC := .reg
    (.q 1 (.eqp false) [(.slot 3), (.const (.pointer none))] none
    (.out [(0, (.slot 0)), (3, (.slot 3)), (14, (.res 1))]))
    [0, 3]
abbrev law16_LogHolds_r3 : NC := .reg
    (.out [(2, (.const (.bool false)))])
    []
abbrev law16_LogHolds_r4 : NC := .reg
    (.out [(0, (.slot 0)), (3, (.slot 3)), (4, (.const (.int .i64 0)))])
    [0, 3]
abbrev law16_LogHolds_r5 : NC := .reg
    (.q 2 .len [(.slot 0)] none
    (.q 3 (.icm .lss) [(.slot 4), (.res 2)] none
    (.q 5 .mv [(.slot 4)] (some ((.res 3), true))
    (.q 6 (.icm .lss) [(.res 5), (.const (.int .i64 60))] (some ((.res 3), true))
    (.q 7 .pick [(.res 3), (.res 6), (.const (.bool false))] none
    (.out [(0, (.slot 0)), (3, (.slot 3)), (4, (.slot 4)), (22, (.res 7))]))))))
    [0, 3, 4]
abbrev law16_LogHolds_r6 : NC := .reg
    (.q 2 (.ixs 31) [(.slot 0), (.slot 4)] none
    (.q 3 (.lda 31) [(.res 2)] none
    (.x 4 (.alc [(.int .i64 0), (.int .i64 0), (.int .i64 0), (.int .i64 0), (.int .i64 0), (.int .i64 0), (.int .i64 0), (.int .i64 0), (.int .i64 0), (.int .i64 0), (.int .i64 0), (.string ⟨#[]⟩), (.string ⟨#[]⟩), (.string ⟨#[]⟩), (.string ⟨#[]⟩), (.int .i64 0), (.int .i64 0), (.int .i64 0), (.int .i64 0), (.int .i64 0), (.int .i64 0), (.int .i64 0), (.int .i64 0), (.bool false), (.int .i64 0), (.int .i64 0), (.int .i64 0), (.int .i64 0), (.int .i64 0), (.int .i64 0), (.int .i64 0)] 47) [] none []
    (.x 5 (.st 31) [(.res 4), (.res 3)] none []
    (.out [(0, (.slot 0)), (3, (.slot 3)), (4, (.slot 4)), (5, (.res 4))])))))
    [0, 3, 4]
abbrev law16_LogHolds_r7 : NC := .reg
    (.q 0 (.fld 3) [(.slot 5)] none
    (.q 1 (.lda 21) [(.res 0)] none
    (.x 2 (.call 16) [(.res 1)] none []
    (.q 3 .not [(.res 2)] none
    (.out [(0, (.slot 0)), (3, (.slot 3)), (4, (.slot 4)), (5, (.slot 5)), (32, (.res 3))])))))
    [0, 3, 4, 5]
abbrev law16_LogHolds_r8 : NC := .reg
    (.q 1 (.fld 1) [(.slot 5)] none
    (.q 2 (.lda 2) [(.res 1)] none
    (.x 3 (.call 19) [(.slot 3), (.res 2)] none []
    (.q 5 (.ext 0) [(.res 3)] none
    (.q 6 (.ext 1) [(.res 3)] none
    (.x 7 (.alc [(.int .i64 0), (.int .i64 0), (.int .i64 0), (.int .i64 0), (.int .i64 0), (.int .i64 0), (.int .i64 0), (.int .i64 0), (.string ⟨#[]⟩), (.string ⟨#[]⟩), (.string ⟨#[]⟩), (.string ⟨#[]⟩), (.int .i64 0), (.int .i64 0), (.int .i64 0), (.int .i64 0), (.int .i64 0), (.int .i64 0), (.int .i64 0), (.int .i64 0), (.bool false)] 37) [] none []
    (.x 8 (.st 21) [(.res 7), (.res 5)] none []
    (.out [(0, (.slot 0)), (3, (.slot 3)), (4, (.slot 4)), (5, (.slot 5)), (6, (.res 7)), (7, (.res 6))]))))))))
    [0, 3, 4, 5]
abbrev law16_LogHolds_r9 : NC := .reg
    (.q 1 (.fld 1) [(.slot 5)] none
    (.q 2 (.lda 2) [(.res 1)] none
    (.q 3 (.fld 3) [(.slot 5)] none
    (.q 4 (.lda 21) [(.res 3)] none
    (.x 5 (.call 10) [(.slot 3), (.res 2), (.res 4)] none []
    (.out [(0, (.slot 0)), (3, (.slot 3)), (4, (.slot 4)), (5, (.slot 5)), (6, (.slot 6)), (7, (.slot 7)), (8, (.res 5))]))))))
    [0, 3, 4, 5, 6, 7]
abbrev law16_LogHolds_r10 : NC := .reg
    (.q 1 (.fld 1) [(.slot 5)] none
    (.q 2 (.lda 2) [(.res 1)] none
    (.x 3 (.call 19) [(.slot 3), (.res 2)] none []
    (.q 5 (.ext 0) [(.res 3)] none
    (.q 6 (.ext 1) [(.res 3)] none
    (.x 7 (.alc [(.int .i64 0), (.int .i64 0), (.int .i64 0), (.int .i64 0), (.int .i64 0), (.int .i64 0), (.int .i64 0), (.int .i64 0), (.string ⟨#[]⟩), (.string ⟨#[]⟩), (.string ⟨#[]⟩), (.string ⟨#[]⟩), (.int .i64 0), (.int .i64 0), (.int .i64 0), (.int .i64 0), (.int .i64 0), (.int .i64 0), (.int .i64 0), (.int .i64 0), (.bool false)] 37) [] none []
    (.x 8 (.st 21) [(.res 7), (.res 5)] none []
    (.out [(0, (.slot 0)), (3, (.slot 3)), (4, (.slot 4)), (5, (.slot 5)), (6, (.slot 6)), (7, (.slot 7)), (8, (.slot 8)), (9, (.res 7)), (10, (.res 6))]))))))))
    [0, 3, 4, 5, 6, 7, 8]
abbrev law16_LogHolds_r11 : NC := .reg
    (.q 1 .not [(.slot 8)] none
    (.q 3 (.lda 21) [(.slot 9)] (some ((.res 1), true))
    (.q 4 (.lda 21) [(.slot 6)] (some ((.res 1), true))
    (.q 5 (.eqc true [(.i .i64), (.i .i64), (.i .i64), (.i .i64), (.i .i64), (.i .i64), (.i .i64), (.i .i64), .s, .s, .s, .s, (.i .i64), (.i .i64), (.i .i64), (.i .i64), (.i .i64), (.i .i64), (.i .i64), (.i .i64), .b]) [(.res 3), (.res 4)] (some ((.res 1), true))
    (.q 6 .mv [(.res 5)] (some ((.res 1), true))
    (.q 7 .mv [(.slot 10)] (some ((.res 6), false))
    (.q 8 .mv [(.slot 7)] (some ((.res 6), false))
    (.q 9 (.beq true) [(.res 7), (.res 8)] (some ((.res 6), false))
    (.q 10 .pick [(.res 6), (.const (.bool true)), (.res 9)] (some ((.res 1), true))
    (.q 11 .pick [(.res 1), (.res 10), (.const (.bool false))] none
    (.q 13 .mv [(.slot 8)] (some ((.res 11), false))
    (.q 14 .mv [(.res 13)] (some ((.res 11), false))
    (.q 15 (.lda 21) [(.slot 9)] (some ((.res 14), true))
    (.q 16 (.fld 3) [(.slot 5)] (some ((.res 14), true))
    (.q 17 (.lda 21) [(.res 16)] (some ((.res 14), true))
    (.q 18 (.eqc true [(.i .i64), (.i .i64), (.i .i64), (.i .i64), (.i .i64), (.i .i64), (.i .i64), (.i .i64), .s, .s, .s, .s, (.i .i64), (.i .i64), (.i .i64), (.i .i64), (.i .i64), (.i .i64), (.i .i64), (.i .i64), .b]) [(.res 15), (.res 17)] (some ((.res 14), true))
    (.q 19 .mv [(.res 18)] (some ((.res 14), true))
    (.q 20 .mv [(.slot 10)] (some ((.res 19), false))
    (.q 21 .not [(.res 20)] (some ((.res 19), false))
    (.q 22 .pick [(.res 19), (.const (.bool true)), (.res 21)] (some ((.res 14), true))
    (.q 23 .pick [(.res 14), (.res 22), (.const (.bool false))] (some ((.res 11), false))
    (.q 24 .pick [(.res 11), (.const (.bool true)), (.res 23)] none
    (.out [(0, (.slot 0)), (3, (.slot 3)), (4, (.slot 4)), (6, (.slot 6)), (7, (.slot 7)), (9, (.slot 9)), (77, (.res 24))])))))))))))))))))))))))
    [0, 3, 4, 5, 6, 7, 8, 9, 10]
abbrev law16_LogHolds_r12 : NC := .reg
    (.out [(2, (.const (.bool false)))])
    []
abbrev law16_LogHolds_r13 : NC := .reg
    (.q 2 (.fld 1) [(.slot 9)] (some ((.slot 7), true))
    (.q 3 (.lda 2) [(.res 2)] (some ((.slot 7), true))
    (.q 4 (.fld 1) [(.slot 6)] (some ((.slot 7), true))
    (.q 5 (.lda 2) [(.res 4)] (some ((.slot 7), true))
    (.x 6 (.call 20) [(.res 3), (.res 5)] (some ((.slot 7), true)) []
    (.q 7 .mv [(.res 6)] (some ((.slot 7), true))
    (.q 8 (.fld 3) [(.slot 9)] (some ((.res 7), false))
    (.q 9 (.lda 2) [(.res 8)] (some ((.res 7), false))
    (.q 10 (.fld 3) [(.slot 6)] (some ((.res 7), false))
    (.q 11 (.lda 2) [(.res 10)] (some ((.res 7), false))
    (.x 12 (.call 20) [(.res 9), (.res 11)] (some ((.res 7), false)) []
    (.q 13 .pick [(.res 7), (.const (.bool true)), (.res 12)] (some ((.slot 7), true))
    (.q 14 .pick [(.slot 7), (.res 13), (.const (.bool false))] none
    (.out [(0, (.slot 0)), (3, (.slot 3)), (4, (.slot 4)), (6, (.slot 6)), (7, (.slot 7)), (9, (.slot 9)), (92, (.res 14))]))))))))))))))
    [0, 3, 4, 6, 7, 9]
abbrev law16_LogHolds_r14 : NC := .reg
    (.out [(2, (.const (.bool false)))])
    []
abbrev law16_LogHolds_r15 : NC := .reg
    (.q 2 (.fld 0) [(.slot 6)] (some ((.slot 7), true))
    (.q 3 .ld [(.res 2)] (some ((.slot 7), true))
    (.q 4 (.icm .eql) [(.res 3), (.const (.int .i64 3))] (some ((.slot 7), true))
    (.q 5 .pick [(.slot 7), (.res 4), (.const (.bool false))] none
    (.q 7 (.fld 0) [(.slot 9)] (some ((.res 5), true))
    (.q 8 .ld [(.res 7)] (some ((.res 5), true))
    (.q 9 (.icm .neq) [(.res 8), (.const (.int .i64 3))] (some ((.res 5), true))
    (.q 10 .mv [(.res 9)] (some ((.res 5), true))
    (.q 11 (.fld 5) [(.slot 9)] (some ((.res 10), false))
    (.q 12 (.lda 7) [(.res 11)] (some ((.res 10), false))
    (.q 13 (.fld 5) [(.slot 6)] (some ((.res 10), false))
    (.q 14 (.lda 7) [(.res 13)] (some ((.res 10), false))
    (.q 15 (.eqc true [(.i .i64), (.i .i64), (.i .i64), .s, .s, .s, .s]) [(.res 12), (.res 14)] (some ((.res 10), false))
    (.q 16 .pick [(.res 10), (.const (.bool true)), (.res 15)] (some ((.res 5), true))
    (.q 17 .mv [(.res 16)] (some ((.res 5), true))
    (.q 18 (.fld 12) [(.slot 9)] (some ((.res 17), false))
    (.q 19 (.lda 8) [(.res 18)] (some ((.res 17), false))
    (.q 20 (.fld 12) [(.slot 6)] (some ((.res 17), false))
    (.q 21 (.lda 8) [(.res 20)] (some ((.res 17), false))
    (.q 22 (.eqc true [(.i .i64), (.i .i64), (.i .i64), (.i .i64), (.i .i64), (.i .i64), (.i .i64), (.i .i64)]) [(.res 19), (.res 21)] (some ((.res 17), false))
    (.q 23 .pick [(.res 17), (.const (.bool true)), (.res 22)] (some ((.res 5), true))
    (.q 24 .pick [(.res 5), (.res 23), (.const (.bool false))] none
    (.out [(0, (.slot 0)), (3, (.slot 3)), (4, (.slot 4)), (117, (.res 24))])))))))))))))))))))))))
    [0, 3, 4, 6, 7, 9]
abbrev law16_LogHolds_r16 : NC := .reg
    (.out [(2, (.const (.bool false)))])
    []
abbrev law16_LogHolds_r17 : NC := .reg
    (.q 1 (.iar .add) [(.slot 4), (.const (.int .i64 1))] none
    (.out [(0, (.slot 0)), (3, (.slot 3)), (4, (.res 1))]))
    [0, 3, 4]
abbrev law16_LogHolds_l0 : NC :=
  (.seq (.seq law16_LogHolds_r5
  (.cond (.slot 22)
    .skip
    (.exit 0)))
  (.seq (.block 1 (.seq law16_LogHolds_r6
  (.seq (.seq law16_LogHolds_r7
  (.cond (.slot 32)
    (.exit 1)
    .skip))
  (.seq law16_LogHolds_r8
  (.seq law16_LogHolds_r9
  (.seq law16_LogHolds_r10
  (.seq (.seq law16_LogHolds_r11
  (.cond (.slot 77)
    (.seq law16_LogHolds_r12
    .ret)
    .skip))
  (.seq (.seq law16_LogHolds_r13
  (.cond (.slot 92)
    (.seq law16_LogHolds_r14
    .ret)
    .skip))
  (.seq law16_LogHolds_r15
  (.cond (.slot 117)
    (.seq law16_LogHolds_r16
    .ret)
    .skip))))))))))
  law16_LogHolds_r17))
abbrev law16_LogHolds_r18 : NC := .reg
    (.x 0 (.call 3) [] none []
    (.out [(2, (.res 0))]))
    []
abbrev law16_LogHolds_c : NC :=
  (.seq law16_LogHolds_r0
  (.seq law16_LogHolds_r1
  (.seq (.seq law16_LogHolds_r2
  (.cond (.slot 14)
    (.seq law16_LogHolds_r3
    .ret)
    .skip))
  (.seq (.seq law16_LogHolds_r4
  (.block 0 (.loop [0, 3, 4] law16_LogHolds_l0)))
  (.seq law16_LogHolds_r18
  .ret)))))
abbrev law16_LogHolds_F : FN := ⟨law16_LogHolds_c, [.slot 2]⟩
theorem law16_LogHolds_ok : compF Try.prog Try.f5 = some law16_LogHolds_F := by kernel_rfl
theorem law16_LogHolds_go {args : List Value} {m : Mem} {R : Value → Mem → Prop} (hn : args.length ≤ Try.f5.ntmps) (h : wpN Try.prog law16_LogHolds_c (retP law16_LogHolds_F.rvs R) (zipP 0 args) m) : MC Try.prog 5 args m R := MC_start Try.func5 law16_LogHolds_ok mixed_ok hn h
/-! concord/concordlaw16.LogPlays -/
abbrev law16_LogPlays_r0 : NC := .reg
    (.x 0 (.box 25) [(.slot 0)] none []
    (.out [(1, (.slot 1)), (2, (.res 0))]))
    [0, 1]
abbrev law16_LogPlays_r1 : NC := .reg
    (.q 0 (.lda 7) [(.slot 2)] none
    (.x 1 (.call 9) [(.res 0)] none []
    (.q 2 (.bld [(.slice none 0 0), (.slice none 0 0), (.int .i64 0), (.int .i64 0), (.int .i64 0), (.int .i64 0), (.int .i64 0), (.int .i64 0), (.int .i64 0)] []) [] none
    (.x 3 (.box 57) [(.res 2)] none []
    (.out [(1, (.slot 1)), (2, (.slot 2)), (5, (.res 1)), (6, (.res 3))])))))
    [1, 2]
abbrev law16_LogPlays_r2 : NC := .reg
    (.q 1 (.lda 7) [(.slot 2)] none
    (.x 2 (.call 21) [(.slot 6), (.res 1)] none []
    (.out [(1, (.slot 1)), (5, (.slot 5)), (6, (.slot 6))])))
    [1, 2, 5, 6]
abbrev law16_LogPlays_r3 : NC := .reg
    (.q 1 (.eqp false) [(.slot 5), (.const (.pointer none))] none
    (.q 3 .mv [(.slot 5)] (some ((.res 1), false))
    (.q 4 .mv [(.slot 6)] (some ((.res 1), false))
    (.x 5 (.call 22) [(.res 3), (.res 4)] (some ((.res 1), false)) []
    (.q 6 .not [(.res 5)] (some ((.res 1), false))
    (.q 7 .pick [(.res 1), (.const (.bool true)), (.res 6)] none
    (.out [(1, (.slot 1)), (5, (.slot 5)), (6, (.slot 6)), (27, (.res 7))])))))))
    [1, 5, 6]
abbrev law16_LogPlays_r4 : NC := .reg
    (.out [(4, (.const (.bool false)))])
    []
abbrev law16_LogPlays_r5 : NC := .reg
    (.out [(1, (.slot 1)), (5, (.slot 5)), (6, (.slot 6)), (7, (.const (.int .i64 0)))])
    [1, 5, 6]
abbrev law16_LogPlays_r6 : NC := .reg
    (.q 2 .len [(.slot 1)] none
    (.q 3 (.icm .lss) [(.slot 7), (.res 2)] none
    (.q 5 .mv [(.slot 7)] (some ((.res 3), true))
    (.q 6 (.icm .lss) [(.res 5), (.const (.int .i64 60))] (some ((.res 3), true))
    (.q 7 .pick [(.res 3), (.res 6), (.const (.bool false))] none
    (.out [(1, (.slot 1)), (5, (.slot 5)), (6, (.slot 6)), (7, (.slot 7)), (35, (.res 7))]))))))
    [1, 5, 6, 7]
abbrev law16_LogPlays_r7 : NC := .reg
    (.q 2 (.ixs 31) [(.slot 1), (.slot 7)] none
    (.q 3 (.lda 31) [(.res 2)] none
    (.x 4 (.alc [(.int .i64 0), (.int .i64 0), (.int .i64 0), (.int .i64 0), (.int .i64 0), (.int .i64 0), (.int .i64 0), (.int .i64 0), (.int .i64 0), (.int .i64 0), (.int .i64 0), (.string ⟨#[]⟩), (.string ⟨#[]⟩), (.string ⟨#[]⟩), (.string ⟨#[]⟩), (.int .i64 0), (.int .i64 0), (.int .i64 0), (.int .i64 0), (.int .i64 0), (.int .i64 0), (.int .i64 0), (.int .i64 0), (.bool false), (.int .i64 0), (.int .i64 0), (.int .i64 0), (.int .i64 0), (.int .i64 0), (.int .i64 0), (.int .i64 0)] 47) [] none []
    (.x 5 (.st 31) [(.res 4), (.res 3)] none []
    (.out [(1, (.slot 1)), (5, (.slot 5)), (6, (.slot 6)), (7, (.slot 7)), (8, (.res 4))])))))
    [1, 5, 6, 7]
abbrev law16_LogPlays_r8 : NC := .reg
    (.q 0 (.fld 3) [(.slot 8)] none
    (.q 1 (.lda 21) [(.res 0)] none
    (.x 2 (.call 16) [(.res 1)] none []
    (.q 3 .not [(.res 2)] none
    (.out [(1, (.slot 1)), (5, (.slot 5)), (6, (.slot 6)), (7, (.slot 7)), (8, (.slot 8)), (45, (.res 3))])))))
    [1, 5, 6, 7, 8]
abbrev law16_LogPlays_r9 : NC := .reg
    (.q 0 (.fld 0) [(.slot 8)] none
    (.q 1 .ld [(.res 0)] none
    (.out [(1, (.slot 1)), (5, (.slot 5)), (6, (.slot 6)), (7, (.slot 7)), (8, (.slot 8)), (47, (.res 1))])))
    [1, 5, 6, 7, 8]
abbrev law16_LogPlays_r10 : NC := .reg
    (.q 0 (.icm .eql) [(.slot 47), (.const (.int .i64 1))] none
    (.out [(1, (.slot 1)), (5, (.slot 5)), (6, (.slot 6)), (7, (.slot 7)), (8, (.slot 8)), (47, (.slot 47)), (48, (.res 0))]))
    [1, 5, 6, 7, 8, 47]
abbrev law16_LogPlays_r11 : NC := .reg
    (.q 1 (.fld 1) [(.slot 8)] none
    (.q 2 (.lda 2) [(.res 1)] none
    (.q 3 (.fld 3) [(.slot 8)] none
    (.q 4 (.lda 21) [(.res 3)] none
    (.q 7 (.fld 1) [(.slot 8)] none
    (.q 8 (.lda 2) [(.res 7)] none
    (.q 9 (.fld 3) [(.slot 8)] none
    (.q 10 (.lda 21) [(.res 9)] none
    (.x 5 (.call 10) [(.slot 5), (.res 2), (.res 4)] none [(8, (.lda 2), [(.res 7)], none), (10, (.lda 21), [(.res 9)], none)]
    (.x 11 (.call 23) [(.slot 6), (.res 8), (.res 10)] none []
    (.q 12 (.beq true) [(.res 5), (.res 11)] none
    (.out [(1, (.slot 1)), (5, (.slot 5)), (6, (.slot 6)), (7, (.slot 7)), (62, (.res 12))]))))))))))))
    [1, 5, 6, 7, 8]
abbrev law16_LogPlays_r12 : NC := .reg
    (.out [(4, (.const (.bool false)))])
    []
abbrev law16_LogPlays_r13 : NC := .reg
    (.q 0 (.icm .eql) [(.slot 47), (.const (.int .i64 2))] none
    (.out [(1, (.slot 1)), (5, (.slot 5)), (6, (.slot 6)), (7, (.slot 7)), (8, (.slot 8)), (47, (.slot 47)), (63, (.res 0))]))
    [1, 5, 6, 7, 8, 47]
abbrev law16_LogPlays_r14 : NC := .reg
    (.q 1 (.fld 1) [(.slot 8)] none
    (.q 2 (.lda 2) [(.res 1)] none
    (.x 3 (.call 19) [(.slot 5), (.res 2)] none []
    (.q 5 (.ext 0) [(.res 3)] none
    (.q 6 (.ext 1) [(.res 3)] none
    (.x 7 (.alc [(.int .i64 0), (.int .i64 0), (.int .i64 0), (.int .i64 0), (.int .i64 0), (.int .i64 0), (.int .i64 0), (.int .i64 0), (.string ⟨#[]⟩), (.string ⟨#[]⟩), (.string ⟨#[]⟩), (.string ⟨#[]⟩), (.int .i64 0), (.int .i64 0), (.int .i64 0), (.int .i64 0), (.int .i64 0), (.int .i64 0), (.int .i64 0), (.int .i64 0), (.bool false)] 37) [] none []
    (.x 8 (.st 21) [(.res 7), (.res 5)] none []
    (.out [(1, (.slot 1)), (5, (.slot 5)), (6, (.slot 6)), (7, (.slot 7)), (8, (.slot 8)), (9, (.res 7)), (10, (.res 6))]))))))))
    [1, 5, 6, 7, 8]
abbrev law16_LogPlays_r15 : NC := .reg
    (.q 1 (.fld 1) [(.slot 8)] none
    (.q 2 (.lda 2) [(.res 1)] none
    (.x 3 (.call 24) [(.slot 6), (.res 2)] none []
    (.q 5 (.ext 0) [(.res 3)] none
    (.q 6 (.ext 1) [(.res 3)] none
    (.x 7 (.alc [(.int .i64 0), (.int .i64 0), (.int .i64 0), (.int .i64 0), (.int .i64 0), (.int .i64 0), (.int .i64 0), (.int .i64 0), (.string ⟨#[]⟩), (.string ⟨#[]⟩), (.string ⟨#[]⟩), (.string ⟨#[]⟩), (.int .i64 0), (.int .i64 0), (.int .i64 0), (.int .i64 0), (.int .i64 0), (.int .i64 0), (.int .i64 0), (.int .i64 0), (.bool false)] 37) [] none []
    (.x 8 (.st 21) [(.res 7), (.res 5)] none []
    (.out [(1, (.slot 1)), (5, (.slot 5)), (6, (.slot 6)), (7, (.slot 7)), (8, (.slot 8)), (9, (.slot 9)), (10, (.slot 10)), (11, (.res 7)), (12, (.res 6))]))))))))
    [1, 5, 6, 7, 8, 9, 10]
abbrev law16_LogPlays_r16 : NC := .reg
    (.q 0 (.lda 21) [(.slot 9)] none
    (.q 1 (.lda 21) [(.slot 11)] none
    (.q 2 (.eqc true [(.i .i64), (.i .i64), (.i .i64), (.i .i64), (.i .i64), (.i .i64), (.i .i64), (.i .i64), .s, .s, .s, .s, (.i .i64), (.i .i64), (.i .i64), (.i .i64), (.i .i64), (.i .i64), (.i .i64), (.i .i64), .b]) [(.res 0), (.res 1)] none
    (.q 4 .mv [(.slot 10)] (some ((.res 2), false))
    (.q 5 .mv [(.slot 12)] (some ((.res 2), false))
    (.q 6 (.beq true) [(.res 4), (.res 5)] (some ((.res 2), false))
    (.q 7 .pick [(.res 2), (.const (.bool true)), (.res 6)] none
    (.q 9 .mv [(.slot 5)] (some ((.res 7), false))
    (.q 10 (.fld 1) [(.slot 8)] (some ((.res 7), false))
    (.q 11 (.lda 2) [(.res 10)] (some ((.res 7), false))
    (.q 13 .mv [(.slot 6)] (some ((.res 7), false))
    (.q 14 (.fld 1) [(.slot 8)] (some ((.res 7), false))
    (.q 15 (.lda 2) [(.res 14)] (some ((.res 7), false))
    (.x 12 (.call 15) [(.res 9), (.res 11)] (some ((.res 7), false)) [(15, (.lda 2), [(.res 14)], (some ((.res 7), false)))]
    (.x 16 (.call 25) [(.res 13), (.res 15)] (some ((.res 7), false)) []
    (.q 17 (.beq true) [(.res 12), (.res 16)] (some ((.res 7), false))
    (.q 18 .pick [(.res 7), (.const (.bool true)), (.res 17)] none
    (.out [(1, (.slot 1)), (5, (.slot 5)), (6, (.slot 6)), (7, (.slot 7)), (97, (.res 18))]))))))))))))))))))
    [1, 5, 6, 7, 8, 9, 10, 11, 12]
abbrev law16_LogPlays_r17 : NC := .reg
    (.out [(4, (.const (.bool false)))])
    []
abbrev law16_LogPlays_r18 : NC := .reg
    (.q 0 (.icm .eql) [(.slot 47), (.const (.int .i64 3))] none
    (.out [(1, (.slot 1)), (5, (.slot 5)), (6, (.slot 6)), (7, (.slot 7)), (8, (.slot 8)), (98, (.res 0))]))
    [1, 5, 6, 7, 8, 47]
abbrev law16_LogPlays_r19 : NC := .reg
    (.q 1 (.fld 24) [(.slot 8)] none
    (.q 2 (.lda 7) [(.res 1)] none
    (.x 3 (.call 13) [(.slot 5), (.res 2)] none []
    (.out [(1, (.slot 1)), (5, (.slot 5)), (6, (.slot 6)), (7, (.slot 7)), (8, (.slot 8))]))))
    [1, 5, 6, 7, 8]
abbrev law16_LogPlays_r20 : NC := .reg
    (.q 1 (.fld 24) [(.slot 8)] none
    (.q 2 (.lda 7) [(.res 1)] none
    (.x 3 (.call 21) [(.slot 6), (.res 2)] none []
    (.out [(1, (.slot 1)), (5, (.slot 5)), (6, (.slot 6)), (7, (.slot 7))]))))
    [1, 5, 6, 7, 8]
abbrev law16_LogPlays_r21 : NC := .reg
    (.x 2 (.call 22) [(.slot 5), (.slot 6)] none []
    (.q 3 .not [(.res 2)] none
    (.out [(1, (.slot 1)), (5, (.slot 5)), (6, (.slot 6)), (7, (.slot 7)), (111, (.res 3))])))
    [1, 5, 6, 7]
abbrev law16_LogPlays_r22 : NC := .reg
    (.out [(4, (.const (.bool false)))])
    []
abbrev law16_LogPlays_r23 : NC := .reg
    (.q 1 (.iar .add) [(.slot 7), (.const (.int .i64 1))] none
    (.out [(1, (.slot 1)), (5, (.slot 5)), (6, (.slot 6)), (7, (.res 1))]))
    [1, 5, 6, 7]
abbrev law16_LogPlays_l0 : NC :=
  (.seq (.seq law16_LogPlays_r6
  (.cond (.slot 35)
    .skip
    (.exit 0)))
  (.seq (.block 1 (.seq law16_LogPlays_r7
  (.seq (.seq law16_LogPlays_r8
  (.cond (.slot 45)
    (.exit 1)
    .skip))
  (.seq (.seq law16_LogPlays_r9
  (.block 2 (.seq law16_LogPlays_r10
  (.cond (.slot 48)
    (.seq law16_LogPlays_r11
    (.cond (.slot 62)
      (.seq law16_LogPlays_r12
      .ret)
      .skip))
    (.seq law16_LogPlays_r13
    (.cond (.slot 63)
      (.seq law16_LogPlays_r14
      (.seq law16_LogPlays_r15
      (.seq law16_LogPlays_r16
      (.cond (.slot 97)
        (.seq law16_LogPlays_r17
        .ret)
        .skip))))
      (.seq law16_LogPlays_r18
      (.cond (.slot 98)
        (.seq law16_LogPlays_r19
        law16_LogPlays_r20)
        .skip))))))))
  (.seq law16_LogPlays_r21
  (.cond (.slot 111)
    (.seq law16_LogPlays_r22
    .ret)
    .skip))))))
  law16_LogPlays_r23))
abbrev law16_LogPlays_r24 : NC := .reg
    (.x 0 (.call 3) [] none []
    (.out [(4, (.res 0))]))
    []
abbrev law16_LogPlays_c : NC :=
  (.seq law16_LogPlays_r0
  (.seq law16_LogPlays_r1
  (.seq law16_LogPlays_r2
  (.seq (.seq law16_LogPlays_r3
  (.cond (.slot 27)
    (.seq law16_LogPlays_r4
    .ret)
    .skip))
  (.seq (.seq law16_LogPlays_r5
  (.block 0 (.loop [1, 5, 6, 7] law16_LogPlays_l0)))
  (.seq law16_LogPlays_r24
  .ret))))))
abbrev law16_LogPlays_F : FN := ⟨law16_LogPlays_c, [.slot 4]⟩
theorem law16_LogPlays_ok : compF Try.prog Try.f6 = some law16_LogPlays_F := by kernel_rfl
theorem law16_LogPlays_go {args : List Value} {m : Mem} {R : Value → Mem → Prop} (hn : args.length ≤ Try.f6.ntmps) (h : wpN Try.prog law16_LogPlays_c (retP law16_LogPlays_F.rvs R) (zipP 0 args) m) : MC Try.prog 6 args m R := MC_start Try.func6 law16_LogPlays_ok mixed_ok hn h
/-! concord/concordlaw16.LogBytes -/
abbrev law16_LogBytes_r0 : NC := .reg
    (.x 0 (.box 28) [(.slot 1)] none []
    (.x 1 (.box 37) [(.slot 2)] none []
    (.out [(0, (.slot 0)), (4, (.res 0)), (5, (.res 1))])))
    [0, 1, 2]
abbrev law16_LogBytes_r1 : NC := .reg
    (.q 1 .len [(.slot 0)] none
    (.q 2 (.icm .gtr) [(.res 1), (.const (.int .i64 300))] none
    (.out [(0, (.slot 0)), (4, (.slot 4)), (5, (.slot 5)), (15, (.res 2))])))
    [0, 4, 5]
abbrev law16_LogBytes_r2 : NC := .reg
    (.q 1 (.slc 1 false true) [(.slot 0), (.const (.int .i64 300))] none
    (.out [(0, (.res 1)), (4, (.slot 4)), (5, (.slot 5))]))
    [0, 4, 5]
abbrev law16_LogBytes_r3 : NC := .reg
    (.x 1 (.call 26) [(.slot 0)] none []
    (.q 3 (.ext 0) [(.res 1)] none
    (.q 4 (.ext 1) [(.res 1)] none
    (.q 5 (.ext 2) [(.res 1)] none
    (.x 6 (.alc [(.int .i64 0), (.int .i64 0)] 28) [] none []
    (.x 7 (.alc [(.int .i64 0), (.int .i64 0), (.int .i64 0), (.int .i64 0), (.int .i64 0), (.int .i64 0), (.int .i64 0), (.int .i64 0), (.string ⟨#[]⟩), (.string ⟨#[]⟩), (.string ⟨#[]⟩), (.string ⟨#[]⟩), (.int .i64 0), (.int .i64 0), (.int .i64 0), (.int .i64 0), (.int .i64 0), (.int .i64 0), (.int .i64 0), (.int .i64 0), (.bool false)] 37) [] none []
    (.x 8 (.st 2) [(.res 6), (.res 3)] none []
    (.x 9 (.st 21) [(.res 7), (.res 4)] none []
    (.out [(0, (.slot 0)), (4, (.slot 4)), (5, (.slot 5)), (7, (.res 6)), (8, (.res 7)), (9, (.res 5))])))))))))
    [0, 4, 5]
abbrev law16_LogBytes_r4 : NC := .reg
    (.x 1 (.call 27) [(.slot 0)] none []
    (.q 3 (.ext 0) [(.res 1)] none
    (.q 4 (.ext 1) [(.res 1)] none
    (.q 5 (.ext 2) [(.res 1)] none
    (.x 6 (.alc [(.int .i64 0), (.int .i64 0)] 28) [] none []
    (.x 7 (.alc [(.int .i64 0), (.int .i64 0), (.int .i64 0), (.int .i64 0), (.int .i64 0), (.int .i64 0), (.int .i64 0), (.int .i64 0), (.string ⟨#[]⟩), (.string ⟨#[]⟩), (.string ⟨#[]⟩), (.string ⟨#[]⟩), (.int .i64 0), (.int .i64 0), (.int .i64 0), (.int .i64 0), (.int .i64 0), (.int .i64 0), (.int .i64 0), (.int .i64 0), (.bool false)] 37) [] none []
    (.x 8 (.st 2) [(.res 6), (.res 3)] none []
    (.x 9 (.st 21) [(.res 7), (.res 4)] none []
    (.out [(4, (.slot 4)), (5, (.slot 5)), (7, (.slot 7)), (8, (.slot 8)), (9, (.slot 9)), (10, (.res 6)), (11, (.res 7)), (12, (.res 5))])))))))))
    [0, 4, 5, 7, 8, 9]
abbrev law16_LogBytes_r5 : NC := .reg
    (.q 0 (.lda 2) [(.slot 7)] none
    (.q 1 (.lda 2) [(.slot 10)] none
    (.q 2 (.eqc true [(.i .i64), (.i .i64)]) [(.res 0), (.res 1)] none
    (.q 4 (.lda 21) [(.slot 8)] (some ((.res 2), false))
    (.q 5 (.lda 21) [(.slot 11)] (some ((.res 2), false))
    (.q 6 (.eqc true [(.i .i64), (.i .i64), (.i .i64), (.i .i64), (.i .i64), (.i .i64), (.i .i64), (.i .i64), .s, .s, .s, .s, (.i .i64), (.i .i64), (.i .i64), (.i .i64), (.i .i64), (.i .i64), (.i .i64), (.i .i64), .b]) [(.res 4), (.res 5)] (some ((.res 2), false))
    (.q 7 .pick [(.res 2), (.const (.bool true)), (.res 6)] none
    (.q 9 .mv [(.slot 9)] (some ((.res 7), false))
    (.q 10 .mv [(.slot 12)] (some ((.res 7), false))
    (.q 11 (.icm .neq) [(.res 9), (.res 10)] (some ((.res 7), false))
    (.q 12 .pick [(.res 7), (.const (.bool true)), (.res 11)] none
    (.q 14 (.lda 21) [(.slot 5)] (some ((.res 12), false))
    (.x 15 (.call 16) [(.res 14)] (some ((.res 12), false)) []
    (.q 16 .not [(.res 15)] (some ((.res 12), false))
    (.q 17 .pick [(.res 12), (.const (.bool true)), (.res 16)] none
    (.out [(4, (.slot 4)), (5, (.slot 5)), (7, (.slot 7)), (8, (.slot 8)), (9, (.slot 9)), (10, (.slot 10)), (11, (.slot 11)), (12, (.slot 12)), (47, (.res 17))]))))))))))))))))
    [4, 5, 7, 8, 9, 10, 11, 12]
abbrev law16_LogBytes_r6 : NC := .reg
    (.q 2 (.icm .eql) [(.slot 9), (.slot 12)] none
    (.q 4 (.lda 2) [(.slot 7)] (some ((.res 2), true))
    (.q 5 (.lda 2) [(.slot 10)] (some ((.res 2), true))
    (.q 6 (.eqc false [(.i .i64), (.i .i64)]) [(.res 4), (.res 5)] (some ((.res 2), true))
    (.q 7 .pick [(.res 2), (.res 6), (.const (.bool false))] none
    (.q 9 (.lda 21) [(.slot 8)] (some ((.res 7), true))
    (.q 10 (.lda 21) [(.slot 11)] (some ((.res 7), true))
    (.q 11 (.eqc false [(.i .i64), (.i .i64), (.i .i64), (.i .i64), (.i .i64), (.i .i64), (.i .i64), (.i .i64), .s, .s, .s, .s, (.i .i64), (.i .i64), (.i .i64), (.i .i64), (.i .i64), (.i .i64), (.i .i64), (.i .i64), .b]) [(.res 9), (.res 10)] (some ((.res 7), true))
    (.q 12 .pick [(.res 7), (.res 11), (.const (.bool false))] none
    (.x 14 (.call 3) [] (some ((.res 12), true)) []
    (.q 15 .pick [(.res 12), (.res 14), (.const (.bool false))] none
    (.out [(6, (.res 15))]))))))))))))
    [7, 8, 9, 10, 11, 12]
abbrev law16_LogBytes_r7 : NC := .reg
    (.q 0 (.lda 21) [(.slot 5)] none
    (.x 1 (.call 28) [(.res 0)] none []
    (.q 2 .not [(.res 1)] none
    (.out [(4, (.slot 4)), (5, (.slot 5)), (66, (.res 2))]))))
    [4, 5]
abbrev law16_LogBytes_r8 : NC := .reg
    (.x 0 (.call 3) [] none []
    (.out [(6, (.res 0))]))
    []
abbrev law16_LogBytes_r9 : NC := .reg
    (.q 0 (.lda 2) [(.slot 4)] none
    (.q 1 (.lda 21) [(.slot 5)] none
    (.q 3 (.lda 2) [(.slot 4)] none
    (.q 4 (.lda 21) [(.slot 5)] none
    (.x 2 (.call 30) [(.res 0), (.res 1)] none [(3, (.lda 2), [(.slot 4)], none), (4, (.lda 21), [(.slot 5)], none)]
    (.x 5 (.call 31) [(.res 3), (.res 4)] none []
    (.x 6 (.call 29) [(.res 2), (.res 5)] none []
    (.x 8 (.call 3) [] (some ((.res 6), true)) []
    (.q 9 .pick [(.res 6), (.res 8), (.const (.bool false))] none
    (.out [(6, (.res 9))]))))))))))
    [4, 5]
abbrev law16_LogBytes_c : NC :=
  (.seq law16_LogBytes_r0
  (.seq (.seq law16_LogBytes_r1
  (.cond (.slot 15)
    law16_LogBytes_r2
    .skip))
  (.seq law16_LogBytes_r3
  (.seq law16_LogBytes_r4
  (.seq (.seq law16_LogBytes_r5
  (.cond (.slot 47)
    (.seq law16_LogBytes_r6
    .ret)
    .skip))
  (.seq (.seq law16_LogBytes_r7
  (.cond (.slot 66)
    (.seq law16_LogBytes_r8
    .ret)
    .skip))
  (.seq law16_LogBytes_r9
  .ret)))))))
abbrev law16_LogBytes_F : FN := ⟨law16_LogBytes_c, [.slot 6]⟩
theorem law16_LogBytes_ok : compF Try.prog Try.f7 = some law16_LogBytes_F := by kernel_rfl
theorem law16_LogBytes_go {args : List Value} {m : Mem} {R : Value → Mem → Prop} (hn : args.length ≤ Try.f7.ntmps) (h : wpN Try.prog law16_LogBytes_c (retP law16_LogBytes_F.rvs R) (zipP 0 args) m) : MC Try.prog 7 args m R := MC_start Try.func7 law16_LogBytes_ok mixed_ok hn h
/-! concord/concordlaw16.LogReplays -/
abbrev law16_LogReplays_r0 : NC := .reg
    (.out [(0, (.slot 0)), (1, (.slot 1))])
    [0, 1]
abbrev law16_LogReplays_r1 : NC := .reg
    (.q 0 (.bld [(.int .i64 0), (.int .i64 0), (.int .i64 0), (.int .i64 0), (.int .i64 0), (.int .i64 0), (.int .i64 0)] []) [] none
    (.x 1 (.call 9) [(.res 0)] none []
    (.q 2 (.bld [(.int .i64 0), (.int .i64 0), (.int .i64 0), (.int .i64 0), (.int .i64 0), (.int .i64 0), (.int .i64 0)] []) [] none
    (.x 3 (.call 9) [(.res 2)] none []
    (.out [(0, (.slot 0)), (1, (.slot 1)), (5, (.res 1)), (6, (.res 3))])))))
    [0, 1]
abbrev law16_LogReplays_r2 : NC := .reg
    (.q 1 (.eqp false) [(.slot 5), (.const (.pointer none))] none
    (.q 3 .mv [(.slot 6)] (some ((.res 1), false))
    (.q 4 (.eqp false) [(.res 3), (.const (.pointer none))] (some ((.res 1), false))
    (.q 5 .pick [(.res 1), (.const (.bool true)), (.res 4)] none
    (.out [(0, (.slot 0)), (1, (.slot 1)), (5, (.slot 5)), (6, (.slot 6)), (33, (.res 5))])))))
    [0, 1, 5, 6]
abbrev law16_LogReplays_r3 : NC := .reg
    (.out [(4, (.const (.bool false)))])
    []
abbrev law16_LogReplays_r4 : NC := .reg
    (.out [(0, (.slot 0)), (1, (.slot 1)), (5, (.slot 5)), (6, (.slot 6)), (7, (.const (.slice none 0 0)))])
    [0, 1, 5, 6]
abbrev law16_LogReplays_r5 : NC := .reg
    (.out [(0, (.slot 0)), (1, (.slot 1)), (5, (.slot 5)), (6, (.slot 6)), (7, (.slot 7)), (8, (.const (.int .i64 0)))])
    [0, 1, 5, 6, 7]
abbrev law16_LogReplays_r6 : NC := .reg
    (.q 2 .len [(.slot 0)] none
    (.q 3 (.icm .lss) [(.slot 8), (.res 2)] none
    (.q 5 .mv [(.slot 8)] (some ((.res 3), true))
    (.q 6 (.icm .lss) [(.res 5), (.const (.int .i64 40))] (some ((.res 3), true))
    (.q 7 .pick [(.res 3), (.res 6), (.const (.bool false))] none
    (.out [(0, (.slot 0)), (1, (.slot 1)), (5, (.slot 5)), (6, (.slot 6)), (7, (.slot 7)), (8, (.slot 8)), (41, (.res 7))]))))))
    [0, 1, 5, 6, 7, 8]
abbrev law16_LogReplays_r7 : NC := .reg
    (.q 2 (.ixs 31) [(.slot 0), (.slot 8)] none
    (.q 3 (.fld 3) [(.res 2)] none
    (.q 4 (.lda 21) [(.res 3)] none
    (.x 5 (.call 16) [(.res 4)] none []
    (.q 7 .mv [(.slot 5)] (some ((.res 5), true))
    (.q 8 .mv [(.slot 0)] (some ((.res 5), true))
    (.q 9 .mv [(.slot 8)] (some ((.res 5), true))
    (.q 10 (.ixs 31) [(.res 8), (.res 9)] (some ((.res 5), true))
    (.q 11 (.fld 1) [(.res 10)] (some ((.res 5), true))
    (.q 12 (.lda 2) [(.res 11)] (some ((.res 5), true))
    (.q 13 .mv [(.slot 0)] (some ((.res 5), true))
    (.q 14 .mv [(.slot 8)] (some ((.res 5), true))
    (.q 15 (.ixs 31) [(.res 13), (.res 14)] (some ((.res 5), true))
    (.q 16 (.fld 3) [(.res 15)] (some ((.res 5), true))
    (.q 17 (.lda 21) [(.res 16)] (some ((.res 5), true))
    (.x 18 (.call 10) [(.res 7), (.res 12), (.res 17)] (some ((.res 5), true)) []
    (.q 19 .pick [(.res 5), (.res 18), (.const (.bool false))] none
    (.out [(0, (.slot 0)), (1, (.slot 1)), (5, (.slot 5)), (6, (.slot 6)), (7, (.slot 7)), (8, (.slot 8)), (63, (.res 19))]))))))))))))))))))
    [0, 1, 5, 6, 7, 8]
abbrev law16_LogReplays_r8 : NC := .reg
    (.q 3 (.ixs 31) [(.slot 0), (.slot 8)] none
    (.q 4 (.fld 1) [(.res 3)] none
    (.q 5 (.lda 2) [(.res 4)] none
    (.q 8 (.ixs 31) [(.slot 0), (.slot 8)] none
    (.q 9 (.fld 3) [(.res 8)] none
    (.q 10 (.lda 21) [(.res 9)] none
    (.x 11 (.call 30) [(.res 5), (.res 10)] none []
    (.x 12 (.bsl 60 1 [(.slice none 0 0)] [(0, 1)]) [(.res 11)] none []
    (.x 13 (.app 60 1 24 [(.slice none 0 0)]) [(.slot 7), (.res 12)] none []
    (.out [(0, (.slot 0)), (1, (.slot 1)), (5, (.slot 5)), (6, (.slot 6)), (7, (.res 13)), (8, (.slot 8))]))))))))))
    [0, 1, 5, 6, 7, 8]
abbrev law16_LogReplays_r9 : NC := .reg
    (.q 1 (.iar .add) [(.slot 8), (.const (.int .i64 1))] none
    (.out [(0, (.slot 0)), (1, (.slot 1)), (5, (.slot 5)), (6, (.slot 6)), (7, (.slot 7)), (8, (.res 1))]))
    [0, 1, 5, 6, 7, 8]
abbrev law16_LogReplays_l0 : NC :=
  (.seq (.seq law16_LogReplays_r6
  (.cond (.slot 41)
    .skip
    (.exit 0)))
  (.seq (.block 1 (.seq law16_LogReplays_r7
  (.cond (.slot 63)
    law16_LogReplays_r8
    .skip)))
  law16_LogReplays_r9))
abbrev law16_LogReplays_r10 : NC := .reg
    (.out [(1, (.slot 1)), (5, (.slot 5)), (6, (.slot 6)), (7, (.slot 7)), (9, (.const (.int .i64 0)))])
    [1, 5, 6, 7]
abbrev law16_LogReplays_r11 : NC := .reg
    (.q 1 (.icm .lss) [(.slot 9), (.const (.int .i64 2))] none
    (.out [(1, (.slot 1)), (5, (.slot 5)), (6, (.slot 6)), (7, (.slot 7)), (9, (.slot 9)), (79, (.res 1))]))
    [1, 5, 6, 7, 9]
abbrev law16_LogReplays_r12 : NC := .reg
    (.out [(1, (.slot 1)), (5, (.slot 5)), (6, (.slot 6)), (7, (.slot 7)), (9, (.slot 9)), (10, (.const (.int .i64 0)))])
    [1, 5, 6, 7, 9]
abbrev law16_LogReplays_r13 : NC := .reg
    (.q 2 .len [(.slot 7)] none
    (.q 3 (.icm .lss) [(.slot 10), (.res 2)] none
    (.out [(1, (.slot 1)), (5, (.slot 5)), (6, (.slot 6)), (7, (.slot 7)), (9, (.slot 9)), (10, (.slot 10)), (85, (.res 3))])))
    [1, 5, 6, 7, 9, 10]
abbrev law16_LogReplays_r14 : NC := .reg
    (.q 2 (.ixs 1) [(.slot 7), (.slot 10)] none
    (.q 3 .ld [(.res 2)] none
    (.x 4 (.call 26) [(.res 3)] none []
    (.q 6 (.ext 0) [(.res 4)] none
    (.q 7 (.ext 1) [(.res 4)] none
    (.q 8 (.ext 2) [(.res 4)] none
    (.x 9 (.alc [(.int .i64 0), (.int .i64 0)] 28) [] none []
    (.x 10 (.alc [(.int .i64 0), (.int .i64 0), (.int .i64 0), (.int .i64 0), (.int .i64 0), (.int .i64 0), (.int .i64 0), (.int .i64 0), (.string ⟨#[]⟩), (.string ⟨#[]⟩), (.string ⟨#[]⟩), (.string ⟨#[]⟩), (.int .i64 0), (.int .i64 0), (.int .i64 0), (.int .i64 0), (.int .i64 0), (.int .i64 0), (.int .i64 0), (.int .i64 0), (.bool false)] 37) [] none []
    (.x 11 (.st 2) [(.res 9), (.res 6)] none []
    (.x 12 (.st 21) [(.res 10), (.res 7)] none []
    (.out [(1, (.slot 1)), (5, (.slot 5)), (6, (.slot 6)), (7, (.slot 7)), (9, (.slot 9)), (10, (.slot 10)), (11, (.res 9)), (12, (.res 10)), (13, (.res 8))])))))))))))
    [1, 5, 6, 7, 9, 10]
abbrev law16_LogReplays_r15 : NC := .reg
    (.q 2 (.ixs 1) [(.slot 7), (.slot 10)] none
    (.q 3 .ld [(.res 2)] none
    (.q 7 (.ixs 1) [(.slot 7), (.slot 10)] none
    (.q 8 .ld [(.res 7)] none
    (.q 9 .len [(.res 8)] none
    (.q 10 (.iar .sub) [(.res 9), (.const (.int .i64 1))] none
    (.both
    (.x 11 (.call 32) [(.slot 1), (.const (.int .i64 0)), (.res 10)] none [(3, .ld, [(.res 2)], none)]
    (.q 12 (.slc 1 false true) [(.res 3), (.res 11)] none
    (.both
    (.x 13 (.call 26) [(.res 12)] none []
    (.q 15 (.ext 0) [(.res 13)] none
    (.q 16 (.ext 1) [(.res 13)] none
    (.q 17 (.ext 2) [(.res 13)] none
    (.both
    (.x 18 (.alc [(.int .i64 0), (.int .i64 0)] 28) [] none [(3, .ld, [(.res 2)], none), (8, .ld, [(.res 7)], none)]
    (.x 19 (.alc [(.int .i64 0), (.int .i64 0), (.int .i64 0), (.int .i64 0), (.int .i64 0), (.int .i64 0), (.int .i64 0), (.int .i64 0), (.string ⟨#[]⟩), (.string ⟨#[]⟩), (.string ⟨#[]⟩), (.string ⟨#[]⟩), (.int .i64 0), (.int .i64 0), (.int .i64 0), (.int .i64 0), (.int .i64 0), (.int .i64 0), (.int .i64 0), (.int .i64 0), (.bool false)] 37) [] none [(3, .ld, [(.res 2)], none), (8, .ld, [(.res 7)], none)]
    (.x 20 (.st 2) [(.res 18), (.res 15)] none []
    (.x 21 (.st 21) [(.res 19), (.res 16)] none []
    (.out [(1, (.slot 1)), (5, (.slot 5)), (6, (.slot 6)), (7, (.slot 7)), (9, (.slot 9)), (10, (.slot 10)), (11, (.slot 11)), (12, (.slot 12)), (13, (.slot 13)), (16, (.res 17))])))))
    (.x 19 (.alc [(.int .i64 0), (.int .i64 0), (.int .i64 0), (.int .i64 0), (.int .i64 0), (.int .i64 0), (.int .i64 0), (.int .i64 0), (.string ⟨#[]⟩), (.string ⟨#[]⟩), (.string ⟨#[]⟩), (.string ⟨#[]⟩), (.int .i64 0), (.int .i64 0), (.int .i64 0), (.int .i64 0), (.int .i64 0), (.int .i64 0), (.int .i64 0), (.int .i64 0), (.bool false)] 37) [] none [(3, .ld, [(.res 2)], none), (8, .ld, [(.res 7)], none)]
    (.x 18 (.alc [(.int .i64 0), (.int .i64 0)] 28) [] none [(3, .ld, [(.res 2)], none), (8, .ld, [(.res 7)], none)]
    (.x 20 (.st 2) [(.res 18), (.res 15)] none []
    (.x 21 (.st 21) [(.res 19), (.res 16)] none []
    (.out [(1, (.slot 1)), (5, (.slot 5)), (6, (.slot 6)), (7, (.slot 7)), (9, (.slot 9)), (10, (.slot 10)), (11, (.slot 11)), (12, (.slot 12)), (13, (.slot 13)), (16, (.res 17))]))))))))))
    (.both
    (.x 18 (.alc [(.int .i64 0), (.int .i64 0)] 28) [] none [(3, .ld, [(.res 2)], none), (8, .ld, [(.res 7)], none)]
    (.both
    (.x 13 (.call 26) [(.res 12)] none []
    (.q 15 (.ext 0) [(.res 13)] none
    (.q 16 (.ext 1) [(.res 13)] none
    (.q 17 (.ext 2) [(.res 13)] none
    (.x 19 (.alc [(.int .i64 0), (.int .i64 0), (.int .i64 0), (.int .i64 0), (.int .i64 0), (.int .i64 0), (.int .i64 0), (.int .i64 0), (.string ⟨#[]⟩), (.string ⟨#[]⟩), (.string ⟨#[]⟩), (.string ⟨#[]⟩), (.int .i64 0), (.int .i64 0), (.int .i64 0), (.int .i64 0), (.int .i64 0), (.int .i64 0), (.int .i64 0), (.int .i64 0), (.bool false)] 37) [] none [(3, .ld, [(.res 2)], none), (8, .ld, [(.res 7)], none)]
    (.x 20 (.st 2) [(.res 18), (.res 15)] none []
    (.x 21 (.st 21) [(.res 19), (.res 16)] none []
    (.out [(1, (.slot 1)), (5, (.slot 5)), (6, (.slot 6)), (7, (.slot 7)), (9, (.slot 9)), (10, (.slot 10)), (11, (.slot 11)), (12, (.slot 12)), (13, (.slot 13)), (16, (.res 17))]))))))))
    (.x 19 (.alc [(.int .i64 0), (.int .i64 0), (.int .i64 0), (.int .i64 0), (.int .i64 0), (.int .i64 0), (.int .i64 0), (.int .i64 0), (.string ⟨#[]⟩), (.string ⟨#[]⟩), (.string ⟨#[]⟩), (.string ⟨#[]⟩), (.int .i64 0), (.int .i64 0), (.int .i64 0), (.int .i64 0), (.int .i64 0), (.int .i64 0), (.int .i64 0), (.int .i64 0), (.bool false)] 37) [] none [(3, .ld, [(.res 2)], none), (8, .ld, [(.res 7)], none)]
    (.x 13 (.call 26) [(.res 12)] none []
    (.q 15 (.ext 0) [(.res 13)] none
    (.q 16 (.ext 1) [(.res 13)] none
    (.q 17 (.ext 2) [(.res 13)] none
    (.x 20 (.st 2) [(.res 18), (.res 15)] none []
    (.x 21 (.st 21) [(.res 19), (.res 16)] none []
    (.out [(1, (.slot 1)), (5, (.slot 5)), (6, (.slot 6)), (7, (.slot 7)), (9, (.slot 9)), (10, (.slot 10)), (11, (.slot 11)), (12, (.slot 12)), (13, (.slot 13)), (16, (.res 17))]))))))))))
    (.x 19 (.alc [(.int .i64 0), (.int .i64 0), (.int .i64 0), (.int .i64 0), (.int .i64 0), (.int .i64 0), (.int .i64 0), (.int .i64 0), (.string ⟨#[]⟩), (.string ⟨#[]⟩), (.string ⟨#[]⟩), (.string ⟨#[]⟩), (.int .i64 0), (.int .i64 0), (.int .i64 0), (.int .i64 0), (.int .i64 0), (.int .i64 0), (.int .i64 0), (.int .i64 0), (.bool false)] 37) [] none [(3, .ld, [(.res 2)], none), (8, .ld, [(.res 7)], none)]
    (.both
    (.x 13 (.call 26) [(.res 12)] none []
    (.q 15 (.ext 0) [(.res 13)] none
    (.q 16 (.ext 1) [(.res 13)] none
    (.q 17 (.ext 2) [(.res 13)] none
    (.x 18 (.alc [(.int .i64 0), (.int .i64 0)] 28) [] none [(3, .ld, [(.res 2)], none), (8, .ld, [(.res 7)], none)]
    (.x 20 (.st 2) [(.res 18), (.res 15)] none []
    (.x 21 (.st 21) [(.res 19), (.res 16)] none []
    (.out [(1, (.slot 1)), (5, (.slot 5)), (6, (.slot 6)), (7, (.slot 7)), (9, (.slot 9)), (10, (.slot 10)), (11, (.slot 11)), (12, (.slot 12)), (13, (.slot 13)), (16, (.res 17))]))))))))
    (.x 18 (.alc [(.int .i64 0), (.int .i64 0)] 28) [] none [(3, .ld, [(.res 2)], none), (8, .ld, [(.res 7)], none)]
    (.x 13 (.call 26) [(.res 12)] none []
    (.q 15 (.ext 0) [(.res 13)] none
    (.q 16 (.ext 1) [(.res 13)] none
    (.q 17 (.ext 2) [(.res 13)] none
    (.x 20 (.st 2) [(.res 18), (.res 15)] none []
    (.x 21 (.st 21) [(.res 19), (.res 16)] none []
    (.out [(1, (.slot 1)), (5, (.slot 5)), (6, (.slot 6)), (7, (.slot 7)), (9, (.slot 9)), (10, (.slot 10)), (11, (.slot 11)), (12, (.slot 12)), (13, (.slot 13)), (16, (.res 17))]))))))))))))))
    (.both
    (.x 18 (.alc [(.int .i64 0), (.int .i64 0)] 28) [] none [(3, .ld, [(.res 2)], none), (8, .ld, [(.res 7)], none)]
    (.both
    (.x 11 (.call 32) [(.slot 1), (.const (.int .i64 0)), (.res 10)] none [(3, .ld, [(.res 2)], none)]
    (.q 12 (.slc 1 false true) [(.res 3), (.res 11)] none
    (.both
    (.x 13 (.call 26) [(.res 12)] none []
    (.q 15 (.ext 0) [(.res 13)] none
    (.q 16 (.ext 1) [(.res 13)] none
    (.q 17 (.ext 2) [(.res 13)] none
    (.x 19 (.alc [(.int .i64 0), (.int .i64 0), (.int .i64 0), (.int .i64 0), (.int .i64 0), (.int .i64 0), (.int .i64 0), (.int .i64 0), (.string ⟨#[]⟩), (.string ⟨#[]⟩), (.string ⟨#[]⟩), (.string ⟨#[]⟩), (.int .i64 0), (.int .i64 0), (.int .i64 0), (.int .i64 0), (.int .i64 0), (.int .i64 0), (.int .i64 0), (.int .i64 0), (.bool false)] 37) [] none [(3, .ld, [(.res 2)], none), (8, .ld, [(.res 7)], none)]
    (.x 20 (.st 2) [(.res 18), (.res 15)] none []
    (.x 21 (.st 21) [(.res 19), (.res 16)] none []
    (.out [(1, (.slot 1)), (5, (.slot 5)), (6, (.slot 6)), (7, (.slot 7)), (9, (.slot 9)), (10, (.slot 10)), (11, (.slot 11)), (12, (.slot 12)), (13, (.slot 13)), (16, (.res 17))]))))))))
    (.x 19 (.alc [(.int .i64 0), (.int .i64 0), (.int .i64 0), (.int .i64 0), (.int .i64 0), (.int .i64 0), (.int .i64 0), (.int .i64 0), (.string ⟨#[]⟩), (.string ⟨#[]⟩), (.string ⟨#[]⟩), (.string ⟨#[]⟩), (.int .i64 0), (.int .i64 0), (.int .i64 0), (.int .i64 0), (.int .i64 0), (.int .i64 0), (.int .i64 0), (.int .i64 0), (.bool false)] 37) [] none [(3, .ld, [(.res 2)], none), (8, .ld, [(.res 7)], none)]
    (.x 13 (.call 26) [(.res 12)] none []
    (.q 15 (.ext 0) [(.res 13)] none
    (.q 16 (.ext 1) [(.res 13)] none
    (.q 17 (.ext 2) [(.res 13)] none
    (.x 20 (.st 2) [(.res 18), (.res 15)] none []
    (.x 21 (.st 21) [(.res 19), (.res 16)] none []
    (.out [(1, (.slot 1)), (5, (.slot 5)), (6, (.slot 6)), (7, (.slot 7)), (9, (.slot 9)), (10, (.slot 10)), (11, (.slot 11)), (12, (.slot 12)), (13, (.slot 13)), (16, (.res 17))])))))))))))
    (.x 19 (.alc [(.int .i64 0), (.int .i64 0), (.int .i64 0), (.int .i64 0), (.int .i64 0), (.int .i64 0), (.int .i64 0), (.int .i64 0), (.string ⟨#[]⟩), (.string ⟨#[]⟩), (.string ⟨#[]⟩), (.string ⟨#[]⟩), (.int .i64 0), (.int .i64 0), (.int .i64 0), (.int .i64 0), (.int .i64 0), (.int .i64 0), (.int .i64 0), (.int .i64 0), (.bool false)] 37) [] none [(3, .ld, [(.res 2)], none), (8, .ld, [(.res 7)], none)]
    (.x 11 (.call 32) [(.slot 1), (.const (.int .i64 0)), (.res 10)] none [(3, .ld, [(.res 2)], none)]
    (.q 12 (.slc 1 false true) [(.res 3), (.res 11)] none
    (.x 13 (.call 26) [(.res 12)] none []
    (.q 15 (.ext 0) [(.res 13)] none
    (.q 16 (.ext 1) [(.res 13)] none
    (.q 17 (.ext 2) [(.res 13)] none
    (.x 20 (.st 2) [(.res 18), (.res 15)] none []
    (.x 21 (.st 21) [(.res 19), (.res 16)] none []
    (.out [(1, (.slot 1)), (5, (.slot 5)), (6, (.slot 6)), (7, (.slot 7)), (9, (.slot 9)), (10, (.slot 10)), (11, (.slot 11)), (12, (.slot 12)), (13, (.slot 13)), (16, (.res 17))]))))))))))))
    (.x 19 (.alc [(.int .i64 0), (.int .i64 0), (.int .i64 0), (.int .i64 0), (.int .i64 0), (.int .i64 0), (.int .i64 0), (.int .i64 0), (.string ⟨#[]⟩), (.string ⟨#[]⟩), (.string ⟨#[]⟩), (.string ⟨#[]⟩), (.int .i64 0), (.int .i64 0), (.int .i64 0), (.int .i64 0), (.int .i64 0), (.int .i64 0), (.int .i64 0), (.int .i64 0), (.bool false)] 37) [] none [(3, .ld, [(.res 2)], none), (8, .ld, [(.res 7)], none)]
    (.both
    (.x 11 (.call 32) [(.slot 1), (.const (.int .i64 0)), (.res 10)] none [(3, .ld, [(.res 2)], none)]
    (.q 12 (.slc 1 false true) [(.res 3), (.res 11)] none
    (.both
    (.x 13 (.call 26) [(.res 12)] none []
    (.q 15 (.ext 0) [(.res 13)] none
    (.q 16 (.ext 1) [(.res 13)] none
    (.q 17 (.ext 2) [(.res 13)] none
    (.x 18 (.alc [(.int .i64 0), (.int .i64 0)] 28) [] none [(3, .ld, [(.res 2)], none), (8, .ld, [(.res 7)], none)]
    (.x 20 (.st 2) [(.res 18), (.res 15)] none []
    (.x 21 (.st 21) [(.res 19), (.res 16)] none []
    (.out [(1, (.slot 1)), (5, (.slot 5)), (6, (.slot 6)), (7, (.slot 7)), (9, (.slot 9)), (10, (.slot 10)), (11, (.slot 11)), (12, (.slot 12)), (13, (.slot 13)), (16, (.res 17))]))))))))
    (.x 18 (.alc [(.int .i64 0), (.int .i64 0)] 28) [] none [(3, .ld, [(.res 2)], none), (8, .ld, [(.res 7)], none)]
    (.x 13 (.call 26) [(.res 12)] none []
    (.q 15 (.ext 0) [(.res 13)] none
    (.q 16 (.ext 1) [(.res 13)] none
    (.q 17 (.ext 2) [(.res 13)] none
    (.x 20 (.st 2) [(.res 18), (.res 15)] none []
    (.x 21 (.st 21) [(.res 19), (.res 16)] none []
    (.out [(1, (.slot 1)), (5, (.slot 5)), (6, (.slot 6)), (7, (.slot 7)), (9, (.slot 9)), (10, (.slot 10)), (11, (.slot 11)), (12, (.slot 12)), (13, (.slot 13)), (16, (.res 17))])))))))))))
    (.x 18 (.alc [(.int .i64 0), (.int .i64 0)] 28) [] none [(3, .ld, [(.res 2)], none), (8, .ld, [(.res 7)], none)]
    (.x 11 (.call 32) [(.slot 1), (.const (.int .i64 0)), (.res 10)] none [(3, .ld, [(.res 2)], none)]
    (.q 12 (.slc 1 false true) [(.res 3), (.res 11)] none
    (.x 13 (.call 26) [(.res 12)] none []
    (.q 15 (.ext 0) [(.res 13)] none
    (.q 16 (.ext 1) [(.res 13)] none
    (.q 17 (.ext 2) [(.res 13)] none
    (.x 20 (.st 2) [(.res 18), (.res 15)] none []
    (.x 21 (.st 21) [(.res 19), (.res 16)] none []
    (.out [(1, (.slot 1)), (5, (.slot 5)), (6, (.slot 6)), (7, (.slot 7)), (9, (.slot 9)), (10, (.slot 10)), (11, (.slot 11)), (12, (.slot 12)), (13, (.slot 13)), (16, (.res 17))]))))))))))))))))))))
    [1, 5, 6, 7, 9, 10, 11, 12, 13]
abbrev law16_LogReplays_r16 : NC := .reg
    (.q 1 (.icm .neq) [(.slot 13), (.const (.int .i64 0))] none
    (.q 3 .mv [(.slot 16)] (some ((.res 1), false))
    (.q 4 (.icm .eql) [(.res 3), (.const (.int .i64 0))] (some ((.res 1), false))
    (.q 5 .pick [(.res 1), (.const (.bool true)), (.res 4)] none
    (.q 7 .mv [(.slot 9)] (some ((.res 5), false))
    (.q 8 (.icm .eql) [(.res 7), (.const (.int .i64 0))] (some ((.res 5), false))
    (.q 9 .mv [(.res 8)] (some ((.res 5), false))
    (.q 10 .mv [(.slot 6)] (some ((.res 9), true))
    (.q 11 (.lda 2) [(.slot 11)] (some ((.res 9), true))
    (.q 12 (.lda 21) [(.slot 12)] (some ((.res 9), true))
    (.x 13 (.call 10) [(.res 10), (.res 11), (.res 12)] (some ((.res 9), true)) []
    (.q 14 .not [(.res 13)] (some ((.res 9), true))
    (.q 15 .pick [(.res 9), (.res 14), (.const (.bool false))] (some ((.res 5), false))
    (.q 16 .pick [(.res 5), (.const (.bool true)), (.res 15)] none
    (.out [(1, (.slot 1)), (5, (.slot 5)), (6, (.slot 6)), (7, (.slot 7)), (9, (.slot 9)), (10, (.slot 10)), (11, (.slot 11)), (12, (.slot 12)), (131, (.res 16))])))))))))))))))
    [1, 5, 6, 7, 9, 10, 11, 12, 13, 16]
abbrev law16_LogReplays_r17 : NC := .reg
    (.out [(4, (.const (.bool false)))])
    []
abbrev law16_LogReplays_r18 : NC := .reg
    (.q 1 (.icm .eql) [(.slot 9), (.const (.int .i64 1))] none
    (.out [(1, (.slot 1)), (5, (.slot 5)), (6, (.slot 6)), (7, (.slot 7)), (9, (.slot 9)), (10, (.slot 10)), (11, (.slot 11)), (12, (.slot 12)), (133, (.res 1))]))
    [1, 5, 6, 7, 9, 10, 11, 12]
abbrev law16_LogReplays_r19 : NC := .reg
    (.q 1 (.lda 2) [(.slot 11)] none
    (.q 2 (.lda 21) [(.slot 12)] none
    (.x 3 (.call 10) [(.slot 6), (.res 1), (.res 2)] none []
    (.out [(1, (.slot 1)), (5, (.slot 5)), (6, (.slot 6)), (7, (.slot 7)), (9, (.slot 9)), (10, (.slot 10))]))))
    [1, 5, 6, 7, 9, 10, 11, 12]
abbrev law16_LogReplays_r20 : NC := .reg
    (.q 1 (.iar .add) [(.slot 10), (.const (.int .i64 1))] none
    (.out [(1, (.slot 1)), (5, (.slot 5)), (6, (.slot 6)), (7, (.slot 7)), (9, (.slot 9)), (10, (.res 1))]))
    [1, 5, 6, 7, 9, 10]
abbrev law16_LogReplays_l1 : NC :=
  (.seq (.seq law16_LogReplays_r13
  (.cond (.slot 85)
    .skip
    (.exit 4)))
  (.seq (.block 5 (.seq law16_LogReplays_r14
  (.seq law16_LogReplays_r15
  (.seq (.seq law16_LogReplays_r16
  (.cond (.slot 131)
    (.seq law16_LogReplays_r17
    .ret)
    .skip))
  (.seq law16_LogReplays_r18
  (.cond (.slot 133)
    law16_LogReplays_r19
    .skip))))))
  law16_LogReplays_r20))
abbrev law16_LogReplays_r21 : NC := .reg
    (.q 1 (.iar .add) [(.slot 9), (.const (.int .i64 1))] none
    (.out [(1, (.slot 1)), (5, (.slot 5)), (6, (.slot 6)), (7, (.slot 7)), (9, (.res 1))]))
    [1, 5, 6, 7, 9]
abbrev law16_LogReplays_l2 : NC :=
  (.seq (.seq law16_LogReplays_r11
  (.cond (.slot 79)
    .skip
    (.exit 2)))
  (.seq (.block 3 (.seq law16_LogReplays_r12
  (.block 4 (.loop [1, 5, 6, 7, 9, 10] law16_LogReplays_l1))))
  law16_LogReplays_r21))
abbrev law16_LogReplays_r22 : NC := .reg
    (.x 1 (.call 14) [(.slot 5)] none []
    (.x 3 (.call 14) [(.slot 6)] none []
    (.out [(5, (.slot 5)), (6, (.slot 6)), (17, (.res 1)), (18, (.res 3))])))
    [5, 6]
abbrev law16_LogReplays_r23 : NC := .reg
    (.out [(5, (.slot 5)), (6, (.slot 6)), (17, (.slot 17)), (18, (.slot 18)), (19, (.const (.int .i64 0)))])
    [5, 6, 17, 18]
abbrev law16_LogReplays_r24 : NC := .reg
    (.q 2 .len [(.slot 17)] none
    (.q 3 (.icm .lss) [(.slot 19), (.res 2)] none
    (.out [(5, (.slot 5)), (6, (.slot 6)), (17, (.slot 17)), (18, (.slot 18)), (19, (.slot 19)), (145, (.res 3))])))
    [5, 6, 17, 18, 19]
abbrev law16_LogReplays_r25 : NC := .reg
    (.q 3 (.ixs 2) [(.slot 17), (.slot 19)] none
    (.q 4 (.lda 2) [(.res 3)] none
    (.x 5 (.call 19) [(.slot 5), (.res 4)] none []
    (.q 7 (.ext 0) [(.res 5)] none
    (.q 8 (.ext 1) [(.res 5)] none
    (.x 9 (.alc [(.int .i64 0), (.int .i64 0), (.int .i64 0), (.int .i64 0), (.int .i64 0), (.int .i64 0), (.int .i64 0), (.int .i64 0), (.string ⟨#[]⟩), (.string ⟨#[]⟩), (.string ⟨#[]⟩), (.string ⟨#[]⟩), (.int .i64 0), (.int .i64 0), (.int .i64 0), (.int .i64 0), (.int .i64 0), (.int .i64 0), (.int .i64 0), (.int .i64 0), (.bool false)] 37) [] none []
    (.x 10 (.st 21) [(.res 9), (.res 7)] none []
    (.out [(5, (.slot 5)), (6, (.slot 6)), (17, (.slot 17)), (18, (.slot 18)), (19, (.slot 19)), (20, (.res 9))]))))))))
    [5, 6, 17, 18, 19]
abbrev law16_LogReplays_r26 : NC := .reg
    (.q 3 (.ixs 2) [(.slot 17), (.slot 19)] none
    (.q 4 (.lda 2) [(.res 3)] none
    (.x 5 (.call 19) [(.slot 6), (.res 4)] none []
    (.q 7 (.ext 0) [(.res 5)] none
    (.q 8 (.ext 1) [(.res 5)] none
    (.x 9 (.alc [(.int .i64 0), (.int .i64 0), (.int .i64 0), (.int .i64 0), (.int .i64 0), (.int .i64 0), (.int .i64 0), (.int .i64 0), (.string ⟨#[]⟩), (.string ⟨#[]⟩), (.string ⟨#[]⟩), (.string ⟨#[]⟩), (.int .i64 0), (.int .i64 0), (.int .i64 0), (.int .i64 0), (.int .i64 0), (.int .i64 0), (.int .i64 0), (.int .i64 0), (.bool false)] 37) [] none []
    (.x 10 (.st 21) [(.res 9), (.res 7)] none []
    (.out [(5, (.slot 5)), (6, (.slot 6)), (17, (.slot 17)), (18, (.slot 18)), (19, (.slot 19)), (20, (.slot 20)), (22, (.res 9))]))))))))
    [5, 6, 17, 18, 19, 20]
abbrev law16_LogReplays_r27 : NC := .reg
    (.q 0 (.lda 21) [(.slot 20)] none
    (.q 1 (.lda 21) [(.slot 22)] none
    (.q 2 (.eqc true [(.i .i64), (.i .i64), (.i .i64), (.i .i64), (.i .i64), (.i .i64), (.i .i64), (.i .i64), .s, .s, .s, .s, (.i .i64), (.i .i64), (.i .i64), (.i .i64), (.i .i64), (.i .i64), (.i .i64), (.i .i64), .b]) [(.res 0), (.res 1)] none
    (.out [(5, (.slot 5)), (6, (.slot 6)), (17, (.slot 17)), (18, (.slot 18)), (19, (.slot 19)), (168, (.res 2))]))))
    [5, 6, 17, 18, 19, 20, 22]
abbrev law16_LogReplays_r28 : NC := .reg
    (.out [(4, (.const (.bool false)))])
    []
abbrev law16_LogReplays_r29 : NC := .reg
    (.q 1 (.iar .add) [(.slot 19), (.const (.int .i64 1))] none
    (.out [(5, (.slot 5)), (6, (.slot 6)), (17, (.slot 17)), (18, (.slot 18)), (19, (.res 1))]))
    [5, 6, 17, 18, 19]
abbrev law16_LogReplays_l3 : NC :=
  (.seq (.seq law16_LogReplays_r24
  (.cond (.slot 145)
    .skip
    (.exit 6)))
  (.seq (.block 7 (.seq law16_LogReplays_r25
  (.seq law16_LogReplays_r26
  (.seq law16_LogReplays_r27
  (.cond (.slot 168)
    (.seq law16_LogReplays_r28
    .ret)
    .skip)))))
  law16_LogReplays_r29))
abbrev law16_LogReplays_r30 : NC := .reg
    (.x 2 (.call 18) [(.slot 17), (.slot 18)] none []
    (.q 4 .mv [(.slot 5)] (some ((.res 2), true))
    (.x 5 (.call 12) [(.res 4)] (some ((.res 2), true)) []
    (.q 6 .mv [(.slot 6)] (some ((.res 2), true))
    (.x 7 (.call 12) [(.res 6)] (some ((.res 2), true)) []
    (.q 8 (.eqc false [(.i .i64), (.i .i64), (.i .i64), (.i .i64), (.i .i64), (.i .i64), (.i .i64)]) [(.res 5), (.res 7)] (some ((.res 2), true))
    (.q 9 .pick [(.res 2), (.res 8), (.const (.bool false))] none
    (.x 11 (.call 3) [] (some ((.res 9), true)) []
    (.q 12 .pick [(.res 9), (.res 11), (.const (.bool false))] none
    (.out [(4, (.res 12))]))))))))))
    [5, 6, 17, 18]
abbrev law16_LogReplays_c : NC :=
  (.seq law16_LogReplays_r0
  (.seq law16_LogReplays_r1
  (.seq (.seq law16_LogReplays_r2
  (.cond (.slot 33)
    (.seq law16_LogReplays_r3
    .ret)
    .skip))
  (.seq law16_LogReplays_r4
  (.seq (.seq law16_LogReplays_r5
  (.block 0 (.loop [0, 1, 5, 6, 7, 8] law16_LogReplays_l0)))
  (.seq (.seq law16_LogReplays_r10
  (.block 2 (.loop [1, 5, 6, 7, 9] law16_LogReplays_l2)))
  (.seq law16_LogReplays_r22
  (.seq (.seq law16_LogReplays_r23
  (.block 6 (.loop [5, 6, 17, 18, 19] law16_LogReplays_l3)))
  (.seq law16_LogReplays_r30
  .ret)))))))))
abbrev law16_LogReplays_F : FN := ⟨law16_LogReplays_c, [.slot 4]⟩
theorem law16_LogReplays_ok : compF Try.prog Try.f8 = some law16_LogReplays_F := by kernel_rfl
theorem law16_LogReplays_go {args : List Value} {m : Mem} {R : Value → Mem → Prop} (hn : args.length ≤ Try.f8.ntmps) (h : wpN Try.prog law16_LogReplays_c (retP law16_LogReplays_F.rvs R) (zipP 0 args) m) : MC Try.prog 8 args m R := MC_start Try.func8 law16_LogReplays_ok mixed_ok hn h
/-! concord/concordlaw16.at -/
abbrev law16_at_r0 : NC := .reg
    (.x 0 (.alc [(.int .i64 0), (.int .i64 0)] 28) [] none []
    (.out [(0, (.slot 0)), (1, (.slot 1)), (4, (.res 0))]))
    [0, 1]
abbrev law16_at_r1 : NC := .reg
    (.q 2 (.bld [(.int .i64 0), (.int .i64 0)] [(0, 1), (1, 1)]) [(.slot 0), (.slot 1)] none
    (.x 3 (.st 2) [(.slot 4), (.res 2)] none []
    (.out [(4, (.slot 4))])))
    [0, 1, 4]
abbrev law16_at_c : NC :=
  (.seq law16_at_r0
  (.seq law16_at_r1
  .ret))
abbrev law16_at_F : FN := ⟨law16_at_c, [.cells 4 2]⟩
theorem law16_at_ok : compF Try.prog Try.f11 = some law16_at_F := by kernel_rfl
theorem law16_at_go {args : List Value} {m : Mem} {R : Value → Mem → Prop} (hn : args.length ≤ Try.f11.ntmps) (h : wpN Try.prog law16_at_c (retP law16_at_F.rvs R) (zipP 0 args) m) : MC Try.prog 11 args m R := MC_start Try.func11 law16_at_ok mixed_ok hn h
/-! concord/concordlaw16.light -/
abbrev law16_light_r0 : NC := .reg
    (.x 0 (.box 37) [(.slot 0)] none []
    (.out [(1, (.res 0))]))
    [0]
abbrev law16_light_r1 : NC := .reg
    (.q 0 (.fld 5) [(.slot 1)] none
    (.q 1 (.fld 3) [(.res 0)] none
    (.q 2 .ld [(.res 1)] none
    (.q 3 .lenz [(.res 2)] none
    (.q 4 (.fld 5) [(.slot 1)] none
    (.q 5 (.fld 4) [(.res 4)] none
    (.q 6 .ld [(.res 5)] none
    (.q 7 .lenz [(.res 6)] none
    (.q 8 (.iar .add) [(.res 3), (.res 7)] none
    (.q 9 (.fld 5) [(.slot 1)] none
    (.q 10 (.fld 5) [(.res 9)] none
    (.q 11 .ld [(.res 10)] none
    (.q 12 .lenz [(.res 11)] none
    (.q 13 (.iar .add) [(.res 8), (.res 12)] none
    (.q 14 (.fld 5) [(.slot 1)] none
    (.q 15 (.fld 6) [(.res 14)] none
    (.q 16 .ld [(.res 15)] none
    (.q 17 .lenz [(.res 16)] none
    (.q 18 (.iar .add) [(.res 13), (.res 17)] none
    (.q 19 (.icm .lss) [(.res 18), (.const (.int .i64 500))] none
    (.out [(2, (.res 19))])))))))))))))))))))))
    [1]
abbrev law16_light_c : NC :=
  (.seq law16_light_r0
  (.seq law16_light_r1
  .ret))
abbrev law16_light_F : FN := ⟨law16_light_c, [.slot 2]⟩
theorem law16_light_ok : compF Try.prog Try.f16 = some law16_light_F := by kernel_rfl
theorem law16_light_go {args : List Value} {m : Mem} {R : Value → Mem → Prop} (hn : args.length ≤ Try.f16.ntmps) (h : wpN Try.prog law16_light_c (retP law16_light_F.rvs R) (zipP 0 args) m) : MC Try.prog 16 args m R := MC_start Try.func16 law16_light_ok mixed_ok hn h
/-! concord/concordbook.Same[concord/api.Inst] -/
abbrev book_Same_api_Inst_r0 : NC := .reg
    (.out [(0, (.slot 0)), (1, (.slot 1))])
    [0, 1]
abbrev book_Same_api_Inst_r1 : NC := .reg
    (.q 1 .len [(.slot 0)] none
    (.q 3 .len [(.slot 1)] none
    (.q 4 (.icm .neq) [(.res 1), (.res 3)] none
    (.out [(0, (.slot 0)), (1, (.slot 1)), (10, (.res 4))]))))
    [0, 1]
abbrev book_Same_api_Inst_r2 : NC := .reg
    (.out [(4, (.const (.bool false)))])
    []
abbrev book_Same_api_Inst_r3 : NC := .reg
    (.out [(0, (.slot 0)), (1, (.slot 1)), (5, (.const (.int .i64 0)))])
    [0, 1]
abbrev book_Same_api_Inst_r4 : NC := .reg
    (.q 2 .len [(.slot 0)] none
    (.q 3 (.icm .lss) [(.slot 5), (.res 2)] none
    (.out [(0, (.slot 0)), (1, (.slot 1)), (5, (.slot 5)), (14, (.res 3))])))
    [0, 1, 5]
abbrev book_Same_api_Inst_r5 : NC := .reg
    (.q 2 (.ixs 2) [(.slot 0), (.slot 5)] none
    (.q 3 (.lda 2) [(.res 2)] none
    (.q 6 (.ixs 2) [(.slot 1), (.slot 5)] none
    (.q 7 (.lda 2) [(.res 6)] none
    (.q 8 (.eqc true [(.i .i64), (.i .i64)]) [(.res 3), (.res 7)] none
    (.out [(0, (.slot 0)), (1, (.slot 1)), (5, (.slot 5)), (25, (.res 8))]))))))
    [0, 1, 5]
abbrev book_Same_api_Inst_r6 : NC := .reg
    (.out [(4, (.const (.bool false)))])
    []
abbrev book_Same_api_Inst_r7 : NC := .reg
    (.q 1 (.iar .add) [(.slot 5), (.const (.int .i64 1))] none
    (.out [(0, (.slot 0)), (1, (.slot 1)), (5, (.res 1))]))
    [0, 1, 5]
abbrev book_Same_api_Inst_l0 : NC :=
  (.seq (.seq book_Same_api_Inst_r4
  (.cond (.slot 14)
    .skip
    (.exit 0)))
  (.seq (.block 1 (.seq book_Same_api_Inst_r5
  (.cond (.slot 25)
    (.seq book_Same_api_Inst_r6
    .ret)
    .skip)))
  book_Same_api_Inst_r7))
abbrev book_Same_api_Inst_r8 : NC := .reg
    (.out [(4, (.const (.bool true)))])
    []
abbrev book_Same_api_Inst_c : NC :=
  (.seq book_Same_api_Inst_r0
  (.seq (.seq book_Same_api_Inst_r1
  (.cond (.slot 10)
    (.seq book_Same_api_Inst_r2
    .ret)
    .skip))
  (.seq (.seq book_Same_api_Inst_r3
  (.block 0 (.loop [0, 1, 5] book_Same_api_Inst_l0)))
  (.seq book_Same_api_Inst_r8
  .ret))))
abbrev book_Same_api_Inst_F : FN := ⟨book_Same_api_Inst_c, [.slot 4]⟩
theorem book_Same_api_Inst_ok : compF Try.prog Try.f18 = some book_Same_api_Inst_F := by kernel_rfl
theorem book_Same_api_Inst_go {args : List Value} {m : Mem} {R : Value → Mem → Prop} (hn : args.length ≤ Try.f18.ntmps) (h : wpN Try.prog book_Same_api_Inst_c (retP book_Same_api_Inst_F.rvs R) (zipP 0 args) m) : MC Try.prog 18 args m R := MC_start Try.func18 book_Same_api_Inst_ok mixed_ok hn h
/-! concord/concordlaw16.alike -/
abbrev law16_alike_r0 : NC := .reg
    (.out [(0, (.slot 0)), (1, (.slot 1))])
    [0, 1]
abbrev law16_alike_r1 : NC := .reg
    (.q 3 .nilck [(.slot 1)] none
    (.q 4 (.fld 0) [(.res 3)] none
    (.q 5 .ld [(.res 4)] none
    (.x 1 (.call 14) [(.slot 0)] none [(5, .ld, [(.res 4)], none)]
    (.x 6 (.call 18) [(.res 1), (.res 5)] none []
    (.q 7 .not [(.res 6)] none
    (.q 9 .mv [(.slot 0)] (some ((.res 7), false))
    (.q 11 .mv [(.slot 1)] (some ((.res 7), false))
    (.q 12 .nilck [(.res 11)] (some ((.res 7), false))
    (.q 13 (.fld 2) [(.res 12)] (some ((.res 7), false))
    (.q 14 (.lda 7) [(.res 13)] (some ((.res 7), false))
    (.x 10 (.call 17) [(.res 9)] (some ((.res 7), false)) [(14, (.lda 7), [(.res 13)], (some ((.res 7), false)))]
    (.q 15 (.eqc true [(.i .i64), (.i .i64), (.i .i64), (.i .i64), (.i .i64), (.i .i64), (.i .i64)]) [(.res 10), (.res 14)] (some ((.res 7), false))
    (.q 16 .pick [(.res 7), (.const (.bool true)), (.res 15)] none
    (.q 18 .mv [(.slot 0)] (some ((.res 16), false))
    (.q 20 .mv [(.slot 1)] (some ((.res 16), false))
    (.x 19 (.call 12) [(.res 18)] (some ((.res 16), false)) []
    (.x 21 (.call 39) [(.res 20)] (some ((.res 16), false)) []
    (.q 22 (.eqc true [(.i .i64), (.i .i64), (.i .i64), (.i .i64), (.i .i64), (.i .i64), (.i .i64)]) [(.res 19), (.res 21)] (some ((.res 16), false))
    (.q 23 .pick [(.res 16), (.const (.bool true)), (.res 22)] none
    (.out [(0, (.slot 0)), (1, (.slot 1)), (31, (.res 23))])))))))))))))))))))))
    [0, 1]
abbrev law16_alike_r2 : NC := .reg
    (.out [(4, (.const (.bool false)))])
    []
abbrev law16_alike_r3 : NC := .reg
    (.out [(0, (.slot 0)), (1, (.slot 1)), (5, (.const (.int .i64 0)))])
    [0, 1]
abbrev law16_alike_r4 : NC := .reg
    (.q 2 .nilck [(.slot 1)] none
    (.q 3 (.fld 0) [(.res 2)] none
    (.q 4 .ld [(.res 3)] none
    (.q 5 .len [(.res 4)] none
    (.q 6 (.icm .lss) [(.slot 5), (.res 5)] none
    (.out [(0, (.slot 0)), (1, (.slot 1)), (5, (.slot 5)), (38, (.res 6))]))))))
    [0, 1, 5]
abbrev law16_alike_r5 : NC := .reg
    (.q 2 .nilck [(.slot 1)] none
    (.q 3 (.fld 0) [(.res 2)] none
    (.q 4 .ld [(.res 3)] none
    (.q 6 (.ixs 2) [(.res 4), (.slot 5)] none
    (.q 7 (.lda 2) [(.res 6)] none
    (.x 8 (.call 19) [(.slot 0), (.res 7)] none []
    (.q 10 (.ext 0) [(.res 8)] none
    (.q 11 (.ext 1) [(.res 8)] none
    (.x 12 (.alc [(.int .i64 0), (.int .i64 0), (.int .i64 0), (.int .i64 0), (.int .i64 0), (.int .i64 0), (.int .i64 0), (.int .i64 0), (.string ⟨#[]⟩), (.string ⟨#[]⟩), (.string ⟨#[]⟩), (.string ⟨#[]⟩), (.int .i64 0), (.int .i64 0), (.int .i64 0), (.int .i64 0), (.int .i64 0), (.int .i64 0), (.int .i64 0), (.int .i64 0), (.bool false)] 37) [] none []
    (.x 13 (.st 21) [(.res 12), (.res 10)] none []
    (.out [(0, (.slot 0)), (1, (.slot 1)), (5, (.slot 5)), (6, (.res 12)), (7, (.res 11))])))))))))))
    [0, 1, 5]
abbrev law16_alike_r6 : NC := .reg
    (.q 1 .not [(.slot 7)] none
    (.q 3 (.lda 21) [(.slot 6)] (some ((.res 1), false))
    (.q 4 .mv [(.slot 1)] (some ((.res 1), false))
    (.q 5 .nilck [(.res 4)] (some ((.res 1), false))
    (.q 6 (.fld 1) [(.res 5)] (some ((.res 1), false))
    (.q 7 .ld [(.res 6)] (some ((.res 1), false))
    (.q 8 .mv [(.slot 5)] (some ((.res 1), false))
    (.q 9 (.ixs 21) [(.res 7), (.res 8)] (some ((.res 1), false))
    (.q 10 (.lda 21) [(.res 9)] (some ((.res 1), false))
    (.q 11 (.eqc true [(.i .i64), (.i .i64), (.i .i64), (.i .i64), (.i .i64), (.i .i64), (.i .i64), (.i .i64), .s, .s, .s, .s, (.i .i64), (.i .i64), (.i .i64), (.i .i64), (.i .i64), (.i .i64), (.i .i64), (.i .i64), .b]) [(.res 3), (.res 10)] (some ((.res 1), false))
    (.q 12 .pick [(.res 1), (.const (.bool true)), (.res 11)] none
    (.out [(0, (.slot 0)), (1, (.slot 1)), (5, (.slot 5)), (65, (.res 12))]))))))))))))
    [0, 1, 5, 6, 7]
abbrev law16_alike_r7 : NC := .reg
    (.out [(4, (.const (.bool false)))])
    []
abbrev law16_alike_r8 : NC := .reg
    (.q 1 (.iar .add) [(.slot 5), (.const (.int .i64 1))] none
    (.out [(0, (.slot 0)), (1, (.slot 1)), (5, (.res 1))]))
    [0, 1, 5]
abbrev law16_alike_l0 : NC :=
  (.seq (.seq law16_alike_r4
  (.cond (.slot 38)
    .skip
    (.exit 0)))
  (.seq (.block 1 (.seq law16_alike_r5
  (.seq law16_alike_r6
  (.cond (.slot 65)
    (.seq law16_alike_r7
    .ret)
    .skip))))
  law16_alike_r8))
abbrev law16_alike_r9 : NC := .reg
    (.out [(4, (.const (.bool true)))])
    []
abbrev law16_alike_c : NC :=
  (.seq law16_alike_r0
  (.seq (.seq law16_alike_r1
  (.cond (.slot 31)
    (.seq law16_alike_r2
    .ret)
    .skip))
  (.seq (.seq law16_alike_r3
  (.block 0 (.loop [0, 1, 5] law16_alike_l0)))
  (.seq law16_alike_r9
  .ret))))
abbrev law16_alike_F : FN := ⟨law16_alike_c, [.slot 4]⟩
theorem law16_alike_ok : compF Try.prog Try.f22 = some law16_alike_F := by kernel_rfl
theorem law16_alike_go {args : List Value} {m : Mem} {R : Value → Mem → Prop} (hn : args.length ≤ Try.f22.ntmps) (h : wpN Try.prog law16_alike_c (retP law16_alike_F.rvs R) (zipP 0 args) m) : MC Try.prog 22 args m R := MC_start Try.func22 law16_alike_ok mixed_ok hn h
/-! concord/concordbook.Same[byte] -/
abbrev book_Same_byte_r0 : NC := .reg
    (.out [(0, (.slot 0)), (1, (.slot 1))])
    [0, 1]
abbrev book_Same_byte_r1 : NC := .reg
    (.q 1 .len [(.slot 0)] none
    (.q 3 .len [(.slot 1)] none
    (.q 4 (.icm .neq) [(.res 1), (.res 3)] none
    (.out [(0, (.slot 0)), (1, (.slot 1)), (10, (.res 4))]))))
    [0, 1]
abbrev book_Same_byte_r2 : NC := .reg
    (.out [(4, (.const (.bool false)))])
    []
abbrev book_Same_byte_r3 : NC := .reg
    (.out [(0, (.slot 0)), (1, (.slot 1)), (5, (.const (.int .i64 0)))])
    [0, 1]
abbrev book_Same_byte_r4 : NC := .reg
    (.q 2 .len [(.slot 0)] none
    (.q 3 (.icm .lss) [(.slot 5), (.res 2)] none
    (.out [(0, (.slot 0)), (1, (.slot 1)), (5, (.slot 5)), (14, (.res 3))])))
    [0, 1, 5]
abbrev book_Same_byte_r5 : NC := .reg
    (.q 2 (.ixs 1) [(.slot 0), (.slot 5)] none
    (.q 3 .ld [(.res 2)] none
    (.q 6 (.ixs 1) [(.slot 1), (.slot 5)] none
    (.q 7 .ld [(.res 6)] none
    (.q 8 (.icm .neq) [(.res 3), (.res 7)] none
    (.out [(0, (.slot 0)), (1, (.slot 1)), (5, (.slot 5)), (25, (.res 8))]))))))
    [0, 1, 5]
abbrev book_Same_byte_r6 : NC := .reg
    (.out [(4, (.const (.bool false)))])
    []
abbrev book_Same_byte_r7 : NC := .reg
    (.q 1 (.iar .add) [(.slot 5), (.const (.int .i64 1))] none
    (.out [(0, (.slot 0)), (1, (.slot 1)), (5, (.res 1))]))
    [0, 1, 5]
abbrev book_Same_byte_l0 : NC :=
  (.seq (.seq book_Same_byte_r4
  (.cond (.slot 14)
    .skip
    (.exit 0)))
  (.seq (.block 1 (.seq book_Same_byte_r5
  (.cond (.slot 25)
    (.seq book_Same_byte_r6
    .ret)
    .skip)))
  book_Same_byte_r7))
abbrev book_Same_byte_r8 : NC := .reg
    (.out [(4, (.const (.bool true)))])
    []
abbrev book_Same_byte_c : NC :=
  (.seq book_Same_byte_r0
  (.seq (.seq book_Same_byte_r1
  (.cond (.slot 10)
    (.seq book_Same_byte_r2
    .ret)
    .skip))
  (.seq (.seq book_Same_byte_r3
  (.block 0 (.loop [0, 1, 5] book_Same_byte_l0)))
  (.seq book_Same_byte_r8
  .ret))))
abbrev book_Same_byte_F : FN := ⟨book_Same_byte_c, [.slot 4]⟩
theorem book_Same_byte_ok : compF Try.prog Try.f29 = some book_Same_byte_F := by kernel_rfl
theorem book_Same_byte_go {args : List Value} {m : Mem} {R : Value → Mem → Prop} (hn : args.length ≤ Try.f29.ntmps) (h : wpN Try.prog book_Same_byte_c (retP book_Same_byte_F.rvs R) (zipP 0 args) m) : MC Try.prog 29 args m R := MC_start Try.func29 book_Same_byte_ok mixed_ok hn h
/-! concord/concordbook.Within -/
abbrev book_Within_r0 : NC := .reg
    (.out [(0, (.slot 0)), (1, (.slot 1)), (2, (.slot 2))])
    [0, 1, 2]
abbrev book_Within_r1 : NC := .reg
    (.q 3 (.iar .sub) [(.slot 2), (.slot 1)] none
    (.q 4 (.iar .add) [(.res 3), (.const (.int .i64 1))] none
    (.q 5 (.idv .rem) [(.slot 0), (.res 4)] none
    (.out [(0, (.res 5)), (1, (.slot 1)), (2, (.slot 2))]))))
    [0, 1, 2]
abbrev book_Within_r2 : NC := .reg
    (.q 1 (.icm .lss) [(.slot 0), (.const (.int .i64 0))] none
    (.out [(0, (.slot 0)), (1, (.slot 1)), (2, (.slot 2)), (14, (.res 1))]))
    [0, 1, 2]
abbrev book_Within_r3 : NC := .reg
    (.q 2 (.iar .add) [(.slot 0), (.slot 2)] none
    (.q 4 (.iar .sub) [(.res 2), (.slot 1)] none
    (.q 5 (.iar .add) [(.res 4), (.const (.int .i64 1))] none
    (.out [(0, (.res 5)), (1, (.slot 1))]))))
    [0, 1, 2]
abbrev book_Within_r4 : NC := .reg
    (.q 2 (.iar .add) [(.slot 1), (.slot 0)] none
    (.out [(6, (.res 2))]))
    [0, 1]
abbrev book_Within_c : NC :=
  (.seq book_Within_r0
  (.seq book_Within_r1
  (.seq (.seq book_Within_r2
  (.cond (.slot 14)
    book_Within_r3
    .skip))
  (.seq book_Within_r4
  .ret))))
abbrev book_Within_F : FN := ⟨book_Within_c, [.slot 6]⟩
theorem book_Within_ok : compF Try.prog Try.f32 = some book_Within_F := by kernel_rfl
theorem book_Within_go {args : List Value} {m : Mem} {R : Value → Mem → Prop} (hn : args.length ≤ Try.f32.ntmps) (h : wpN Try.prog book_Within_c (retP book_Within_F.rvs R) (zipP 0 args) m) : MC Try.prog 32 args m R := MC_start Try.func32 book_Within_ok mixed_ok hn h
end Go.Fw
