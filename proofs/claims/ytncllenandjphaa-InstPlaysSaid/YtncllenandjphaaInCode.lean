import Derived.Test.YtncllenandjphaaFvKit
import Derived.Test.YtncllenandjphaaProg
namespace Go.Fw
open Go.Proofs
/-! concord/concordlaw6.InstRuns -/
abbrev iruns_r0 : NC := .reg
    (.out [])
    []
abbrev iruns_r1 : NC := .reg
    (.x 0 (.call 9) [(.const (.int .i64 1)), (.const (.int .i64 2))] none []
    (.x 1 (.call 9) [(.const (.int .i64 0)), (.const (.int .i64 3))] none []
    (.x 2 (.call 9) [(.const (.int .i64 1)), (.const (.int .i64 2))] none []
    (.x 3 (.bsl 25 3 [(.int .i64 0), (.int .i64 0), (.int .i64 0), (.int .i64 0), (.int .i64 0), (.int .i64 0)] [(0, 2), (2, 2), (4, 2)]) [(.res 0), (.res 1), (.res 2)] none []
    (.x 4 (.call 8) [(.res 3)] none []
    (.out [(1, (.res 4))]))))))
    []
abbrev iruns_r2 : NC := .reg
    (.q 1 (.eqp false) [(.slot 1), (.const (.pointer none))] none
    (.q 3 .mv [(.slot 1)] (some ((.res 1), false))
    (.x 4 (.call 10) [(.res 3)] (some ((.res 1), false)) []
    (.q 5 (.icm .neq) [(.res 4), (.const (.int .i64 2))] (some ((.res 1), false))
    (.q 6 .pick [(.res 1), (.const (.bool true)), (.res 5)] none
    (.q 8 .mv [(.slot 1)] (some ((.res 6), false))
    (.x 9 (.call 12) [(.res 8)] (some ((.res 6), false)) []
    (.x 10 (.call 9) [(.const (.int .i64 0)), (.const (.int .i64 3))] (some ((.res 6), false)) []
    (.x 11 (.call 9) [(.const (.int .i64 1)), (.const (.int .i64 2))] (some ((.res 6), false)) []
    (.x 12 (.bsl 25 2 [(.int .i64 0), (.int .i64 0), (.int .i64 0), (.int .i64 0)] [(0, 2), (2, 2)]) [(.res 10), (.res 11)] (some ((.res 6), false)) []
    (.x 13 (.call 11) [(.res 9), (.res 12)] (some ((.res 6), false)) []
    (.q 14 .not [(.res 13)] (some ((.res 6), false))
    (.q 15 .pick [(.res 6), (.const (.bool true)), (.res 14)] none
    (.out [(1, (.slot 1)), (24, (.res 15))]))))))))))))))
    [1]
abbrev iruns_r3 : NC := .reg
    (.out [(0, (.const (.bool false)))])
    []
abbrev iruns_r4 : NC := .reg
    (.x 1 (.call 9) [(.const (.int .i64 0)), (.const (.int .i64 3))] none []
    (.x 2 (.call 13) [(.slot 1), (.res 1)] none []
    (.x 4 (.call 9) [(.const (.int .i64 1)), (.const (.int .i64 2))] none []
    (.x 5 (.call 14) [(.slot 1), (.res 4)] none []
    (.out [(1, (.slot 1)), (2, (.res 2)), (3, (.res 5))])))))
    [1]
abbrev iruns_r5 : NC := .reg
    (.x 0 (.call 9) [(.const (.int .i64 0)), (.const (.int .i64 9))] none []
    (.x 1 (.call 9) [(.const (.int .i64 1)), (.const (.int .i64 1))] none []
    (.x 2 (.call 15) [(.res 0), (.res 1)] none []
    (.q 4 (.bld [(.int .i64 0), (.int .i64 0)] [(0, 1), (1, 1)]) [(.const (.int .i64 1)), (.const (.int .i64 5))] (some ((.res 2), true))
    (.q 5 (.bld [(.int .i64 0), (.int .i64 0)] [(0, 1)]) [(.const (.int .i64 2))] (some ((.res 2), true))
    (.x 6 (.call 16) [(.res 4), (.res 5)] (some ((.res 2), true)) []
    (.q 7 .pick [(.res 2), (.res 6), (.const (.bool false))] none
    (.q 9 (.bld [(.int .i64 0), (.int .i64 0)] [(0, 1), (1, 1)]) [(.const (.int .i64 3)), (.const (.int .i64 1))] (some ((.res 7), true))
    (.x 10 (.call 17) [(.res 9), (.const (.int .i64 2))] (some ((.res 7), true)) []
    (.q 11 (.bld [(.int .i64 0), (.int .i64 0)] [(0, 1), (1, 1)]) [(.const (.int .i64 4)), (.const (.int .i64 2))] (some ((.res 7), true))
    (.q 12 (.eqc false [(.i .i64), (.i .i64)]) [(.res 10), (.res 11)] (some ((.res 7), true))
    (.q 13 .pick [(.res 7), (.res 12), (.const (.bool false))] none
    (.q 15 .mv [(.slot 2)] (some ((.res 13), true))
    (.q 16 .not [(.res 15)] (some ((.res 13), true))
    (.q 17 .pick [(.res 13), (.res 16), (.const (.bool false))] none
    (.q 19 .mv [(.slot 3)] (some ((.res 17), true))
    (.q 20 .pick [(.res 17), (.res 19), (.const (.bool false))] none
    (.q 22 .mv [(.slot 1)] (some ((.res 20), true))
    (.x 23 (.call 9) [(.const (.int .i64 1)), (.const (.int .i64 2))] (some ((.res 20), true)) []
    (.x 24 (.call 18) [(.res 22), (.res 23)] (some ((.res 20), true)) []
    (.q 25 .not [(.res 24)] (some ((.res 20), true))
    (.q 26 .pick [(.res 20), (.res 25), (.const (.bool false))] none
    (.out [(0, (.res 26))])))))))))))))))))))))))
    [1, 2, 3]
abbrev iruns_c : NC :=
  (.seq iruns_r0
  (.seq iruns_r1
  (.seq (.seq iruns_r2
  (.cond (.slot 24)
    (.seq iruns_r3
    .ret)
    .skip))
  (.seq iruns_r4
  (.seq iruns_r5
  .ret)))))
abbrev iruns_F : FN := ⟨iruns_c, [.slot 0]⟩
theorem iruns_ok : compF Try.prog Try.f3 = some iruns_F := by kernel_rfl
/-! concord/concordlaw6.InstOrder -/
abbrev iorder_r0 : NC := .reg
    (.x 0 (.box 25) [(.slot 0)] none []
    (.x 1 (.box 25) [(.slot 1)] none []
    (.x 2 (.box 25) [(.slot 2)] none []
    (.x 3 (.box 35) [(.slot 3)] none []
    (.x 4 (.box 35) [(.slot 4)] none []
    (.x 5 (.box 35) [(.slot 5)] none []
    (.out [(6, (.slot 6)), (7, (.res 0)), (8, (.res 1)), (9, (.res 2)), (10, (.res 3)), (11, (.res 4)), (12, (.res 5))])))))))
    [0, 1, 2, 3, 4, 5, 6]
abbrev iorder_r1 : NC := .reg
    (.q 0 (.lda 2) [(.slot 7)] none
    (.q 1 (.lda 2) [(.slot 7)] none
    (.x 2 (.call 15) [(.res 0), (.res 1)] none []
    (.q 3 .not [(.res 2)] none
    (.q 5 (.lda 2) [(.slot 7)] (some ((.res 3), true))
    (.q 6 (.lda 2) [(.slot 8)] (some ((.res 3), true))
    (.q 7 (.eqc false [(.i .i64), (.i .i64)]) [(.res 5), (.res 6)] (some ((.res 3), true))
    (.q 8 .mv [(.res 7)] (some ((.res 3), true))
    (.q 9 (.lda 2) [(.slot 7)] (some ((.res 8), false))
    (.q 10 (.lda 2) [(.slot 8)] (some ((.res 8), false))
    (.q 12 (.lda 2) [(.slot 8)] (some ((.res 8), false))
    (.q 13 (.lda 2) [(.slot 7)] (some ((.res 8), false))
    (.x 11 (.call 15) [(.res 9), (.res 10)] (some ((.res 8), false)) [(12, (.lda 2), [(.slot 8)], (some ((.res 8), false))), (13, (.lda 2), [(.slot 7)], (some ((.res 8), false)))]
    (.x 14 (.call 15) [(.res 12), (.res 13)] (some ((.res 8), false)) []
    (.q 15 (.beq true) [(.res 11), (.res 14)] (some ((.res 8), false))
    (.q 16 .pick [(.res 8), (.const (.bool true)), (.res 15)] (some ((.res 3), true))
    (.q 17 .pick [(.res 3), (.res 16), (.const (.bool false))] none
    (.q 19 (.lda 2) [(.slot 7)] (some ((.res 17), true))
    (.q 20 (.lda 2) [(.slot 8)] (some ((.res 17), true))
    (.x 21 (.call 15) [(.res 19), (.res 20)] (some ((.res 17), true)) []
    (.q 22 .not [(.res 21)] (some ((.res 17), true))
    (.q 23 .mv [(.res 22)] (some ((.res 17), true))
    (.q 24 (.lda 2) [(.slot 8)] (some ((.res 23), false))
    (.q 25 (.lda 2) [(.slot 9)] (some ((.res 23), false))
    (.x 26 (.call 15) [(.res 24), (.res 25)] (some ((.res 23), false)) []
    (.q 27 .not [(.res 26)] (some ((.res 23), false))
    (.q 28 .pick [(.res 23), (.const (.bool true)), (.res 27)] (some ((.res 17), true))
    (.q 29 .mv [(.res 28)] (some ((.res 17), true))
    (.q 30 (.lda 2) [(.slot 7)] (some ((.res 29), false))
    (.q 31 (.lda 2) [(.slot 9)] (some ((.res 29), false))
    (.x 32 (.call 15) [(.res 30), (.res 31)] (some ((.res 29), false)) []
    (.q 33 .pick [(.res 29), (.const (.bool true)), (.res 32)] (some ((.res 17), true))
    (.q 34 .pick [(.res 17), (.res 33), (.const (.bool false))] none
    (.out [(6, (.slot 6)), (7, (.slot 7)), (8, (.slot 8)), (9, (.slot 9)), (10, (.slot 10)), (11, (.slot 11)), (12, (.slot 12)), (15, (.res 34))]))))))))))))))))))))))))))))))))))
    [6, 7, 8, 9, 10, 11, 12]
abbrev iorder_r2 : NC := .reg
    (.q 0 (.lda 2) [(.slot 10)] none
    (.q 1 (.lda 2) [(.slot 10)] none
    (.x 2 (.call 16) [(.res 0), (.res 1)] none []
    (.q 3 .not [(.res 2)] none
    (.q 5 (.lda 2) [(.slot 10)] (some ((.res 3), true))
    (.q 6 (.lda 2) [(.slot 11)] (some ((.res 3), true))
    (.q 7 (.eqc false [(.i .i64), (.i .i64)]) [(.res 5), (.res 6)] (some ((.res 3), true))
    (.q 8 .mv [(.res 7)] (some ((.res 3), true))
    (.q 9 (.lda 2) [(.slot 10)] (some ((.res 8), false))
    (.q 10 (.lda 2) [(.slot 11)] (some ((.res 8), false))
    (.q 12 (.lda 2) [(.slot 11)] (some ((.res 8), false))
    (.q 13 (.lda 2) [(.slot 10)] (some ((.res 8), false))
    (.x 11 (.call 16) [(.res 9), (.res 10)] (some ((.res 8), false)) [(12, (.lda 2), [(.slot 11)], (some ((.res 8), false))), (13, (.lda 2), [(.slot 10)], (some ((.res 8), false)))]
    (.x 14 (.call 16) [(.res 12), (.res 13)] (some ((.res 8), false)) []
    (.q 15 (.beq true) [(.res 11), (.res 14)] (some ((.res 8), false))
    (.q 16 .pick [(.res 8), (.const (.bool true)), (.res 15)] (some ((.res 3), true))
    (.q 17 .pick [(.res 3), (.res 16), (.const (.bool false))] none
    (.q 19 (.lda 2) [(.slot 10)] (some ((.res 17), true))
    (.q 20 (.lda 2) [(.slot 11)] (some ((.res 17), true))
    (.x 21 (.call 16) [(.res 19), (.res 20)] (some ((.res 17), true)) []
    (.q 22 .not [(.res 21)] (some ((.res 17), true))
    (.q 23 .mv [(.res 22)] (some ((.res 17), true))
    (.q 24 (.lda 2) [(.slot 11)] (some ((.res 23), false))
    (.q 25 (.lda 2) [(.slot 12)] (some ((.res 23), false))
    (.x 26 (.call 16) [(.res 24), (.res 25)] (some ((.res 23), false)) []
    (.q 27 .not [(.res 26)] (some ((.res 23), false))
    (.q 28 .pick [(.res 23), (.const (.bool true)), (.res 27)] (some ((.res 17), true))
    (.q 29 .mv [(.res 28)] (some ((.res 17), true))
    (.q 30 (.lda 2) [(.slot 10)] (some ((.res 29), false))
    (.q 31 (.lda 2) [(.slot 12)] (some ((.res 29), false))
    (.x 32 (.call 16) [(.res 30), (.res 31)] (some ((.res 29), false)) []
    (.q 33 .pick [(.res 29), (.const (.bool true)), (.res 32)] (some ((.res 17), true))
    (.q 34 .pick [(.res 17), (.res 33), (.const (.bool false))] none
    (.out [(6, (.slot 6)), (7, (.slot 7)), (8, (.slot 8)), (9, (.slot 9)), (10, (.slot 10)), (15, (.slot 15)), (16, (.res 34))]))))))))))))))))))))))))))))))))))
    [6, 7, 8, 9, 10, 11, 12, 15]
abbrev iorder_r3 : NC := .reg
    (.q 0 (.lda 2) [(.slot 7)] none
    (.q 1 (.lda 2) [(.slot 8)] none
    (.q 2 (.lda 2) [(.slot 9)] none
    (.q 5 (.lda 2) [(.slot 9)] none
    (.q 6 (.lda 2) [(.slot 7)] none
    (.q 7 (.lda 2) [(.slot 7)] none
    (.q 8 (.lda 2) [(.slot 8)] none
    (.both
    (.x 3 (.bsl 25 3 [(.int .i64 0), (.int .i64 0), (.int .i64 0), (.int .i64 0), (.int .i64 0), (.int .i64 0)] [(0, 2), (2, 2), (4, 2)]) [(.res 0), (.res 1), (.res 2)] none [(5, (.lda 2), [(.slot 9)], none), (6, (.lda 2), [(.slot 7)], none), (7, (.lda 2), [(.slot 7)], none), (8, (.lda 2), [(.slot 8)], none)]
    (.both
    (.x 4 (.call 8) [(.res 3)] none [(5, (.lda 2), [(.slot 9)], none), (6, (.lda 2), [(.slot 7)], none), (7, (.lda 2), [(.slot 7)], none), (8, (.lda 2), [(.slot 8)], none)]
    (.x 9 (.bsl 25 4 [(.int .i64 0), (.int .i64 0), (.int .i64 0), (.int .i64 0), (.int .i64 0), (.int .i64 0), (.int .i64 0), (.int .i64 0)] [(0, 2), (2, 2), (4, 2), (6, 2)]) [(.res 5), (.res 6), (.res 7), (.res 8)] none [(0, (.lda 2), [(.slot 7)], none), (1, (.lda 2), [(.slot 8)], none), (2, (.lda 2), [(.slot 9)], none)]
    (.x 10 (.call 8) [(.res 9)] none []
    (.out [(6, (.slot 6)), (10, (.slot 10)), (15, (.slot 15)), (16, (.slot 16)), (17, (.res 4)), (18, (.res 10))]))))
    (.x 9 (.bsl 25 4 [(.int .i64 0), (.int .i64 0), (.int .i64 0), (.int .i64 0), (.int .i64 0), (.int .i64 0), (.int .i64 0), (.int .i64 0)] [(0, 2), (2, 2), (4, 2), (6, 2)]) [(.res 5), (.res 6), (.res 7), (.res 8)] none [(0, (.lda 2), [(.slot 7)], none), (1, (.lda 2), [(.slot 8)], none), (2, (.lda 2), [(.slot 9)], none)]
    (.x 4 (.call 8) [(.res 3)] none [(5, (.lda 2), [(.slot 9)], none), (6, (.lda 2), [(.slot 7)], none), (7, (.lda 2), [(.slot 7)], none), (8, (.lda 2), [(.slot 8)], none)]
    (.x 10 (.call 8) [(.res 9)] none []
    (.out [(6, (.slot 6)), (10, (.slot 10)), (15, (.slot 15)), (16, (.slot 16)), (17, (.res 4)), (18, (.res 10))]))))))
    (.x 9 (.bsl 25 4 [(.int .i64 0), (.int .i64 0), (.int .i64 0), (.int .i64 0), (.int .i64 0), (.int .i64 0), (.int .i64 0), (.int .i64 0)] [(0, 2), (2, 2), (4, 2), (6, 2)]) [(.res 5), (.res 6), (.res 7), (.res 8)] none [(0, (.lda 2), [(.slot 7)], none), (1, (.lda 2), [(.slot 8)], none), (2, (.lda 2), [(.slot 9)], none)]
    (.x 3 (.bsl 25 3 [(.int .i64 0), (.int .i64 0), (.int .i64 0), (.int .i64 0), (.int .i64 0), (.int .i64 0)] [(0, 2), (2, 2), (4, 2)]) [(.res 0), (.res 1), (.res 2)] none [(5, (.lda 2), [(.slot 9)], none), (6, (.lda 2), [(.slot 7)], none), (7, (.lda 2), [(.slot 7)], none), (8, (.lda 2), [(.slot 8)], none)]
    (.x 4 (.call 8) [(.res 3)] none [(5, (.lda 2), [(.slot 9)], none), (6, (.lda 2), [(.slot 7)], none), (7, (.lda 2), [(.slot 7)], none), (8, (.lda 2), [(.slot 8)], none)]
    (.x 10 (.call 8) [(.res 9)] none []
    (.out [(6, (.slot 6)), (10, (.slot 10)), (15, (.slot 15)), (16, (.slot 16)), (17, (.res 4)), (18, (.res 10))])))))))))))))
    [6, 7, 8, 9, 10, 15, 16]
abbrev iorder_r4 : NC := .reg
    (.q 2 .mv [(.slot 16)] (some ((.slot 15), true))
    (.q 3 .pick [(.slot 15), (.res 2), (.const (.bool false))] none
    (.q 5 (.fld 0) [(.slot 10)] (some ((.res 3), true))
    (.q 6 .ld [(.res 5)] (some ((.res 3), true))
    (.q 7 (.icm .eql) [(.res 6), (.const (.int .i64 9223372036854775807))] (some ((.res 3), true))
    (.q 8 .mv [(.res 7)] (some ((.res 3), true))
    (.q 9 (.lda 2) [(.slot 10)] (some ((.res 8), false))
    (.q 10 (.lda 2) [(.slot 10)] (some ((.res 8), false))
    (.q 11 .mv [(.slot 6)] (some ((.res 8), false))
    (.x 12 (.call 17) [(.res 10), (.res 11)] (some ((.res 8), false)) [(9, (.lda 2), [(.slot 10)], (some ((.res 8), false)))]
    (.x 13 (.call 16) [(.res 9), (.res 12)] (some ((.res 8), false)) []
    (.q 14 .pick [(.res 8), (.const (.bool true)), (.res 13)] (some ((.res 3), true))
    (.q 15 .pick [(.res 3), (.res 14), (.const (.bool false))] none
    (.q 17 .mv [(.slot 17)] (some ((.res 15), true))
    (.q 18 (.eqp true) [(.res 17), (.const (.pointer none))] (some ((.res 15), true))
    (.q 19 .pick [(.res 15), (.res 18), (.const (.bool false))] none
    (.q 21 .mv [(.slot 18)] (some ((.res 19), true))
    (.q 22 (.eqp true) [(.res 21), (.const (.pointer none))] (some ((.res 19), true))
    (.q 23 .pick [(.res 19), (.res 22), (.const (.bool false))] none
    (.q 25 .mv [(.slot 17)] (some ((.res 23), true))
    (.q 27 .mv [(.slot 18)] (some ((.res 23), true))
    (.x 26 (.call 12) [(.res 25)] (some ((.res 23), true)) []
    (.x 28 (.call 12) [(.res 27)] (some ((.res 23), true)) []
    (.x 29 (.call 11) [(.res 26), (.res 28)] (some ((.res 23), true)) []
    (.q 30 .pick [(.res 23), (.res 29), (.const (.bool false))] none
    (.q 32 .mv [(.slot 17)] (some ((.res 30), true))
    (.q 34 .mv [(.slot 18)] (some ((.res 30), true))
    (.x 33 (.call 10) [(.res 32)] (some ((.res 30), true)) []
    (.x 35 (.call 10) [(.res 34)] (some ((.res 30), true)) []
    (.q 36 (.icm .eql) [(.res 33), (.res 35)] (some ((.res 30), true))
    (.q 37 .pick [(.res 30), (.res 36), (.const (.bool false))] none
    (.x 39 (.call 3) [] (some ((.res 37), true)) []
    (.q 40 .pick [(.res 37), (.res 39), (.const (.bool false))] none
    (.out [(14, (.res 40))]))))))))))))))))))))))))))))))))))
    [6, 10, 15, 16, 17, 18]
abbrev iorder_c : NC :=
  (.seq iorder_r0
  (.seq iorder_r1
  (.seq iorder_r2
  (.seq iorder_r3
  (.seq iorder_r4
  .ret)))))
abbrev iorder_F : FN := ⟨iorder_c, [.slot 14]⟩
theorem iorder_ok : compF Try.prog Try.f5 = some iorder_F := by kernel_rfl
/-! concord/concordlaw6.InstNext -/
abbrev inext_r0 : NC := .reg
    (.x 0 (.box 35) [(.slot 0)] none []
    (.out [(1, (.slot 1)), (2, (.slot 2)), (3, (.slot 3)), (4, (.res 0))]))
    [0, 1, 2, 3]
abbrev inext_r1 : NC := .reg
    (.q 0 (.fld 0) [(.slot 4)] none
    (.q 1 .ld [(.res 0)] none
    (.q 3 (.fld 1) [(.slot 4)] none
    (.q 4 .ld [(.res 3)] none
    (.both
    (.x 2 (.call 21) [(.res 1), (.const (.int .i64 0)), (.const (.int .i64 1000))] none [(4, .ld, [(.res 3)], none)]
    (.both
    (.x 5 (.call 21) [(.res 4), (.const (.int .i64 0)), (.const (.int .i64 6))] none []
    (.q 6 (.bld [(.int .i64 0), (.int .i64 0)] [(0, 1), (1, 1)]) [(.res 2), (.res 5)] none
    (.x 7 (.alc [(.int .i64 0), (.int .i64 0)] 35) [] none [(1, .ld, [(.res 0)], none), (4, .ld, [(.res 3)], none)]
    (.x 8 (.st 2) [(.res 7), (.res 6)] none []
    (.out [(1, (.slot 1)), (2, (.slot 2)), (3, (.slot 3)), (9, (.res 7))])))))
    (.x 7 (.alc [(.int .i64 0), (.int .i64 0)] 35) [] none [(1, .ld, [(.res 0)], none), (4, .ld, [(.res 3)], none)]
    (.x 5 (.call 21) [(.res 4), (.const (.int .i64 0)), (.const (.int .i64 6))] none []
    (.q 6 (.bld [(.int .i64 0), (.int .i64 0)] [(0, 1), (1, 1)]) [(.res 2), (.res 5)] none
    (.x 8 (.st 2) [(.res 7), (.res 6)] none []
    (.out [(1, (.slot 1)), (2, (.slot 2)), (3, (.slot 3)), (9, (.res 7))])))))))
    (.x 7 (.alc [(.int .i64 0), (.int .i64 0)] 35) [] none [(1, .ld, [(.res 0)], none), (4, .ld, [(.res 3)], none)]
    (.x 2 (.call 21) [(.res 1), (.const (.int .i64 0)), (.const (.int .i64 1000))] none [(4, .ld, [(.res 3)], none)]
    (.x 5 (.call 21) [(.res 4), (.const (.int .i64 0)), (.const (.int .i64 6))] none []
    (.q 6 (.bld [(.int .i64 0), (.int .i64 0)] [(0, 1), (1, 1)]) [(.res 2), (.res 5)] none
    (.x 8 (.st 2) [(.res 7), (.res 6)] none []
    (.out [(1, (.slot 1)), (2, (.slot 2)), (3, (.slot 3)), (9, (.res 7))])))))))))))
    [1, 2, 3, 4]
abbrev inext_r2 : NC := .reg
    (.out [(1, (.slot 1)), (2, (.slot 2)), (3, (.slot 3)), (9, (.slot 9)), (10, (.const (.int .i64 0)))])
    [1, 2, 3, 9]
abbrev inext_r3 : NC := .reg
    (.q 2 .len [(.slot 1)] none
    (.q 3 (.icm .lss) [(.slot 10), (.res 2)] none
    (.q 5 .mv [(.slot 10)] (some ((.res 3), true))
    (.q 6 (.icm .lss) [(.res 5), (.const (.int .i64 30))] (some ((.res 3), true))
    (.q 7 .pick [(.res 3), (.res 6), (.const (.bool false))] none
    (.out [(1, (.slot 1)), (2, (.slot 2)), (3, (.slot 3)), (9, (.slot 9)), (10, (.slot 10)), (28, (.res 7))]))))))
    [1, 2, 3, 9, 10]
abbrev inext_r4 : NC := .reg
    (.q 0 (.lda 2) [(.slot 9)] none
    (.q 3 (.ixs 1) [(.slot 1), (.slot 10)] none
    (.q 4 .ld [(.res 3)] none
    (.both
    (.x 5 (.call 21) [(.res 4), (.const (.int .i64 0)), (.const (.int .i64 6))] none [(0, (.lda 2), [(.slot 9)], none)]
    (.both
    (.x 6 (.call 17) [(.res 0), (.res 5)] none []
    (.x 7 (.alc [(.int .i64 0), (.int .i64 0)] 35) [] none [(0, (.lda 2), [(.slot 9)], none), (4, .ld, [(.res 3)], none)]
    (.x 8 (.st 2) [(.res 7), (.res 6)] none []
    (.out [(1, (.slot 1)), (2, (.slot 2)), (3, (.slot 3)), (9, (.slot 9)), (10, (.slot 10)), (11, (.res 7))]))))
    (.x 7 (.alc [(.int .i64 0), (.int .i64 0)] 35) [] none [(0, (.lda 2), [(.slot 9)], none), (4, .ld, [(.res 3)], none)]
    (.x 6 (.call 17) [(.res 0), (.res 5)] none []
    (.x 8 (.st 2) [(.res 7), (.res 6)] none []
    (.out [(1, (.slot 1)), (2, (.slot 2)), (3, (.slot 3)), (9, (.slot 9)), (10, (.slot 10)), (11, (.res 7))]))))))
    (.x 7 (.alc [(.int .i64 0), (.int .i64 0)] 35) [] none [(0, (.lda 2), [(.slot 9)], none), (4, .ld, [(.res 3)], none)]
    (.x 5 (.call 21) [(.res 4), (.const (.int .i64 0)), (.const (.int .i64 6))] none [(0, (.lda 2), [(.slot 9)], none)]
    (.x 6 (.call 17) [(.res 0), (.res 5)] none []
    (.x 8 (.st 2) [(.res 7), (.res 6)] none []
    (.out [(1, (.slot 1)), (2, (.slot 2)), (3, (.slot 3)), (9, (.slot 9)), (10, (.slot 10)), (11, (.res 7))])))))))))
    [1, 2, 3, 9, 10]
abbrev inext_r5 : NC := .reg
    (.q 0 (.lda 2) [(.slot 9)] none
    (.q 1 (.lda 2) [(.slot 11)] none
    (.x 2 (.call 16) [(.res 0), (.res 1)] none []
    (.q 3 .not [(.res 2)] none
    (.q 5 (.lda 2) [(.slot 11)] (some ((.res 3), false))
    (.q 6 (.lda 2) [(.slot 9)] (some ((.res 3), false))
    (.x 7 (.call 16) [(.res 5), (.res 6)] (some ((.res 3), false)) []
    (.q 8 .pick [(.res 3), (.const (.bool true)), (.res 7)] none
    (.q 10 (.lda 2) [(.slot 11)] (some ((.res 8), false))
    (.x 11 (.call 22) [(.res 10)] (some ((.res 8), false)) []
    (.q 12 .not [(.res 11)] (some ((.res 8), false))
    (.q 13 .pick [(.res 8), (.const (.bool true)), (.res 12)] none
    (.out [(1, (.slot 1)), (2, (.slot 2)), (3, (.slot 3)), (9, (.slot 9)), (10, (.slot 10)), (11, (.slot 11)), (51, (.res 13))])))))))))))))
    [1, 2, 3, 9, 10, 11]
abbrev inext_r6 : NC := .reg
    (.out [(8, (.const (.bool false)))])
    []
abbrev inext_r7 : NC := .reg
    (.q 0 (.lda 2) [(.slot 11)] none
    (.x 1 (.st 2) [(.slot 9), (.res 0)] none []
    (.out [(1, (.slot 1)), (2, (.slot 2)), (3, (.slot 3)), (9, (.slot 9)), (10, (.slot 10))])))
    [1, 2, 3, 9, 10, 11]
abbrev inext_r8 : NC := .reg
    (.q 1 (.iar .add) [(.slot 10), (.const (.int .i64 1))] none
    (.out [(1, (.slot 1)), (2, (.slot 2)), (3, (.slot 3)), (9, (.slot 9)), (10, (.res 1))]))
    [1, 2, 3, 9, 10]
abbrev inext_l0 : NC :=
  (.seq (.seq inext_r3
  (.cond (.slot 28)
    .skip
    (.exit 0)))
  (.seq (.block 1 (.seq inext_r4
  (.seq (.seq inext_r5
  (.cond (.slot 51)
    (.seq inext_r6
    .ret)
    .skip))
  inext_r7)))
  inext_r8))
abbrev inext_r9 : NC := .reg
    (.x 1 (.call 21) [(.slot 2), (.const (.int .i64 0)), (.const (.int .i64 6))] none []
    (.x 3 (.call 21) [(.slot 3), (.const (.int .i64 0)), (.const (.int .i64 6))] none []
    (.out [(9, (.slot 9)), (12, (.res 1)), (13, (.res 3))])))
    [2, 3, 9]
abbrev inext_r10 : NC := .reg
    (.q 0 (.lda 2) [(.slot 9)] none
    (.q 3 (.lda 2) [(.slot 9)] none
    (.q 9 (.icm .eql) [(.slot 12), (.slot 13)] none
    (.x 2 (.call 17) [(.res 0), (.slot 12)] none [(3, (.lda 2), [(.slot 9)], none)]
    (.x 5 (.call 17) [(.res 3), (.slot 13)] none []
    (.q 6 (.eqc false [(.i .i64), (.i .i64)]) [(.res 2), (.res 5)] none
    (.q 10 (.beq false) [(.res 6), (.res 9)] none
    (.x 12 (.call 3) [] (some ((.res 10), true)) []
    (.q 13 .pick [(.res 10), (.res 12), (.const (.bool false))] none
    (.out [(8, (.res 13))]))))))))))
    [9, 12, 13]
abbrev inext_c : NC :=
  (.seq inext_r0
  (.seq inext_r1
  (.seq (.seq inext_r2
  (.block 0 (.loop [1, 2, 3, 9, 10] inext_l0)))
  (.seq inext_r9
  (.seq inext_r10
  .ret)))))
abbrev inext_F : FN := ⟨inext_c, [.slot 8]⟩
theorem inext_ok : compF Try.prog Try.f6 = some inext_F := by kernel_rfl
/-! concord/concordlaw6.InstTells -/
abbrev itells_r0 : NC := .reg
    (.x 0 (.box 25) [(.slot 0)] none []
    (.x 1 (.box 25) [(.slot 1)] none []
    (.x 2 (.box 35) [(.slot 2)] none []
    (.x 3 (.box 35) [(.slot 3)] none []
    (.out [(4, (.slot 4)), (5, (.res 0)), (6, (.res 1)), (7, (.res 2)), (8, (.res 3))])))))
    [0, 1, 2, 3, 4]
abbrev itells_r1 : NC := .reg
    (.q 0 (.fld 0) [(.slot 7)] none
    (.q 1 .ld [(.res 0)] none
    (.q 2 (.icm .geq) [(.res 1), (.const (.int .i64 0))] none
    (.q 4 (.fld 0) [(.slot 7)] (some ((.res 2), true))
    (.q 5 .ld [(.res 4)] (some ((.res 2), true))
    (.q 6 (.icm .leq) [(.res 5), (.const (.int .i64 1073741824))] (some ((.res 2), true))
    (.q 7 .pick [(.res 2), (.res 6), (.const (.bool false))] none
    (.q 9 (.fld 1) [(.slot 7)] (some ((.res 7), true))
    (.q 10 .ld [(.res 9)] (some ((.res 7), true))
    (.q 11 (.icm .geq) [(.res 10), (.const (.int .i64 0))] (some ((.res 7), true))
    (.q 12 .pick [(.res 7), (.res 11), (.const (.bool false))] none
    (.q 14 (.fld 1) [(.slot 7)] (some ((.res 12), true))
    (.q 15 .ld [(.res 14)] (some ((.res 12), true))
    (.q 16 (.icm .lss) [(.res 15), (.const (.int .i64 7))] (some ((.res 12), true))
    (.q 17 .pick [(.res 12), (.res 16), (.const (.bool false))] none
    (.out [(4, (.slot 4)), (5, (.slot 5)), (6, (.slot 6)), (7, (.slot 7)), (8, (.slot 8)), (11, (.res 17))]))))))))))))))))
    [4, 5, 6, 7, 8]
abbrev itells_r2 : NC := .reg
    (.q 0 (.lda 2) [(.slot 5)] none
    (.q 2 (.fld 0) [(.slot 5)] none
    (.q 3 .ld [(.res 2)] none
    (.q 4 (.icm .geq) [(.res 3), (.const (.int .i64 0))] none
    (.x 1 (.call 23) [(.res 0)] none [(3, .ld, [(.res 2)], none)]
    (.q 6 (.fld 0) [(.slot 5)] (some ((.res 4), true))
    (.q 7 .ld [(.res 6)] (some ((.res 4), true))
    (.q 8 (.icm .lss) [(.res 7), (.const (.int .i64 7))] (some ((.res 4), true))
    (.q 9 .pick [(.res 4), (.res 8), (.const (.bool false))] none
    (.q 11 (.fld 1) [(.slot 5)] (some ((.res 9), true))
    (.q 12 .ld [(.res 11)] (some ((.res 9), true))
    (.q 13 (.icm .geq) [(.res 12), (.const (.int .i64 1))] (some ((.res 9), true))
    (.q 14 .pick [(.res 9), (.res 13), (.const (.bool false))] none
    (.q 16 (.fld 1) [(.slot 5)] (some ((.res 14), true))
    (.q 17 .ld [(.res 16)] (some ((.res 14), true))
    (.q 18 (.icm .leq) [(.res 17), (.const (.int .i64 1073741824))] (some ((.res 14), true))
    (.q 19 .pick [(.res 14), (.res 18), (.const (.bool false))] none
    (.q 20 (.beq false) [(.res 1), (.res 19)] none
    (.q 22 (.lda 2) [(.slot 5)] (some ((.res 20), true))
    (.q 23 (.lda 2) [(.slot 6)] (some ((.res 20), true))
    (.q 25 (.lda 2) [(.slot 5)] (some ((.res 20), true))
    (.q 26 (.lda 2) [(.slot 6)] (some ((.res 20), true))
    (.x 24 (.call 15) [(.res 22), (.res 23)] (some ((.res 20), true)) [(25, (.lda 2), [(.slot 5)], (some ((.res 20), true))), (26, (.lda 2), [(.slot 6)], (some ((.res 20), true)))]
    (.x 27 (.call 20) [(.res 25), (.res 26)] (some ((.res 20), true)) []
    (.q 28 (.beq false) [(.res 24), (.res 27)] (some ((.res 20), true))
    (.q 29 .pick [(.res 20), (.res 28), (.const (.bool false))] none
    (.q 31 (.lda 2) [(.slot 7)] (some ((.res 29), true))
    (.q 32 (.lda 2) [(.slot 8)] (some ((.res 29), true))
    (.q 34 (.lda 2) [(.slot 7)] (some ((.res 29), true))
    (.q 35 (.lda 2) [(.slot 8)] (some ((.res 29), true))
    (.x 33 (.call 16) [(.res 31), (.res 32)] (some ((.res 29), true)) [(34, (.lda 2), [(.slot 7)], (some ((.res 29), true))), (35, (.lda 2), [(.slot 8)], (some ((.res 29), true)))]
    (.x 36 (.call 24) [(.res 34), (.res 35)] (some ((.res 29), true)) []
    (.q 37 (.beq false) [(.res 33), (.res 36)] (some ((.res 29), true))
    (.q 38 .pick [(.res 29), (.res 37), (.const (.bool false))] none
    (.q 40 (.lda 2) [(.slot 7)] (some ((.res 38), true))
    (.q 42 .mv [(.slot 11)] (some ((.res 38), true))
    (.x 41 (.call 22) [(.res 40)] (some ((.res 38), true)) []
    (.q 43 (.beq false) [(.res 41), (.res 42)] (some ((.res 38), true))
    (.q 44 .pick [(.res 38), (.res 43), (.const (.bool false))] none
    (.q 46 (.fld 0) [(.slot 7)] (some ((.res 44), true))
    (.q 47 .ld [(.res 46)] (some ((.res 44), true))
    (.q 48 (.icm .eql) [(.res 47), (.const (.int .i64 9223372036854775807))] (some ((.res 44), true))
    (.q 49 .mv [(.res 48)] (some ((.res 44), true))
    (.q 50 (.lda 2) [(.slot 7)] (some ((.res 49), false))
    (.q 51 .mv [(.slot 4)] (some ((.res 49), false))
    (.q 53 (.fld 0) [(.slot 7)] (some ((.res 49), false))
    (.q 54 .ld [(.res 53)] (some ((.res 49), false))
    (.q 55 (.iar .add) [(.res 54), (.const (.int .i64 1))] (some ((.res 49), false))
    (.q 56 .mv [(.slot 4)] (some ((.res 49), false))
    (.q 57 (.bld [(.int .i64 0), (.int .i64 0)] [(0, 1), (1, 1)]) [(.res 55), (.res 56)] (some ((.res 49), false))
    (.x 52 (.call 17) [(.res 50), (.res 51)] (some ((.res 49), false)) [(54, .ld, [(.res 53)], (some ((.res 49), false)))]
    (.q 58 (.eqc false [(.i .i64), (.i .i64)]) [(.res 52), (.res 57)] (some ((.res 49), false))
    (.q 59 .pick [(.res 49), (.const (.bool true)), (.res 58)] (some ((.res 44), true))
    (.q 60 .pick [(.res 44), (.res 59), (.const (.bool false))] none
    (.x 62 (.call 3) [] (some ((.res 60), true)) []
    (.q 63 .pick [(.res 60), (.res 62), (.const (.bool false))] none
    (.out [(10, (.res 63))])))))))))))))))))))))))))))))))))))))))))))))))))))))))))
    [4, 5, 6, 7, 8, 11]
abbrev itells_c : NC :=
  (.seq itells_r0
  (.seq itells_r1
  (.seq itells_r2
  .ret)))
abbrev itells_F : FN := ⟨itells_c, [.slot 10]⟩
theorem itells_ok : compF Try.prog Try.f7 = some itells_F := by kernel_rfl
/-! concord/inst.New -/
abbrev new__r0 : NC := .reg
    (.out [(0, (.slot 0))])
    [0]
abbrev new__r1 : NC := .reg
    (.x 0 .mkm [] none []
    (.q 1 (.bld [(.map none)] [(0, 1)]) [(.res 0)] none
    (.x 2 (.box 50) [(.res 1)] none []
    (.out [(0, (.slot 0)), (3, (.res 2))]))))
    [0]
abbrev new__r2 : NC := .reg
    (.q 1 .len [(.slot 0)] none
    (.out [(3, (.slot 3)), (9, (.slot 0)), (10, (.res 1)), (11, (.const (.int .i64 0)))]))
    [0, 3]
abbrev new__r3 : NC := .reg
    (.q 0 (.icm .lss) [(.slot 11), (.slot 10)] none
    (.out [(3, (.slot 3)), (9, (.slot 9)), (10, (.slot 10)), (11, (.slot 11)), (12, (.res 0))]))
    [3, 9, 10, 11]
abbrev new__r4 : NC := .reg
    (.q 0 (.ixs 2) [(.slot 9), (.slot 11)] none
    (.q 1 (.lda 2) [(.res 0)] none
    (.x 2 (.alc [(.int .i64 0), (.int .i64 0)] 25) [] none []
    (.x 3 (.st 2) [(.res 2), (.res 1)] none []
    (.out [(3, (.slot 3)), (5, (.res 2)), (9, (.slot 9)), (10, (.slot 10)), (11, (.slot 11))])))))
    [3, 9, 10, 11]
abbrev new__r5 : NC := .reg
    (.q 1 .nilck [(.slot 3)] none
    (.q 2 (.fld 0) [(.res 1)] none
    (.q 3 .ld [(.res 2)] none
    (.q 4 (.lda 2) [(.slot 5)] none
    (.q 5 (.bld [] []) [] none
    (.x 6 (.mup true [(.i .i64), (.i .i64)]) [(.res 3), (.res 4), (.res 5)] none []
    (.out [(3, (.slot 3)), (9, (.slot 9)), (10, (.slot 10)), (11, (.slot 11))])))))))
    [3, 5, 9, 10, 11]
abbrev new__r6 : NC := .reg
    (.q 0 (.iar .add) [(.slot 11), (.const (.int .i64 1))] none
    (.out [(3, (.slot 3)), (9, (.slot 9)), (10, (.slot 10)), (11, (.res 0))]))
    [3, 9, 10, 11]
abbrev new__l0 : NC :=
  (.seq new__r3
  (.seq (.cond (.slot 12)
    .skip
    (.exit 0))
  (.seq (.block 1 (.seq new__r4
  new__r5))
  new__r6)))
abbrev new__r7 : NC := .reg
    (.out [(2, (.slot 3))])
    [3]
abbrev new__c : NC :=
  (.seq new__r0
  (.seq new__r1
  (.seq (.seq new__r2
  (.block 0 (.loop [3, 9, 10, 11] new__l0)))
  (.seq new__r7
  .ret))))
abbrev new__F : FN := ⟨new__c, [.slot 2]⟩
theorem new__ok : compF Try.prog Try.f8 = some new__F := by kernel_rfl
/-! concord/concordlaw6.at -/
abbrev at__r0 : NC := .reg
    (.x 0 (.alc [(.int .i64 0), (.int .i64 0)] 25) [] none []
    (.out [(0, (.slot 0)), (1, (.slot 1)), (4, (.res 0))]))
    [0, 1]
abbrev at__r1 : NC := .reg
    (.q 2 (.bld [(.int .i64 0), (.int .i64 0)] [(0, 1), (1, 1)]) [(.slot 0), (.slot 1)] none
    (.x 3 (.st 2) [(.slot 4), (.res 2)] none []
    (.out [(4, (.slot 4))])))
    [0, 1, 4]
abbrev at__c : NC :=
  (.seq at__r0
  (.seq at__r1
  .ret))
abbrev at__F : FN := ⟨at__c, [.cells 4 2]⟩
theorem at__ok : compF Try.prog Try.f9 = some at__F := by kernel_rfl
/-! (*concord/inst.Set).Len -/
abbrev len__r0 : NC := .reg
    (.out [(0, (.slot 0))])
    [0]
abbrev len__r1 : NC := .reg
    (.q 1 .nilck [(.slot 0)] none
    (.q 2 (.fld 0) [(.res 1)] none
    (.q 3 .ld [(.res 2)] none
    (.q 4 .lenm [(.res 3)] none
    (.out [(2, (.res 4))])))))
    [0]
abbrev len__c : NC :=
  (.seq len__r0
  (.seq len__r1
  .ret))
abbrev len__F : FN := ⟨len__c, [.slot 2]⟩
theorem len__ok : compF Try.prog Try.f10 = some len__F := by kernel_rfl
/-! concord/concordbook.Same[concord/api.Inst] -/
abbrev same__r0 : NC := .reg
    (.out [(0, (.slot 0)), (1, (.slot 1))])
    [0, 1]
abbrev same__r1 : NC := .reg
    (.q 1 .len [(.slot 0)] none
    (.q 3 .len [(.slot 1)] none
    (.q 4 (.icm .neq) [(.res 1), (.res 3)] none
    (.out [(0, (.slot 0)), (1, (.slot 1)), (10, (.res 4))]))))
    [0, 1]
abbrev same__r2 : NC := .reg
    (.out [(4, (.const (.bool false)))])
    []
abbrev same__r3 : NC := .reg
    (.out [(0, (.slot 0)), (1, (.slot 1)), (5, (.const (.int .i64 0)))])
    [0, 1]
abbrev same__r4 : NC := .reg
    (.q 2 .len [(.slot 0)] none
    (.q 3 (.icm .lss) [(.slot 5), (.res 2)] none
    (.out [(0, (.slot 0)), (1, (.slot 1)), (5, (.slot 5)), (14, (.res 3))])))
    [0, 1, 5]
abbrev same__r5 : NC := .reg
    (.q 2 (.ixs 2) [(.slot 0), (.slot 5)] none
    (.q 3 (.lda 2) [(.res 2)] none
    (.q 6 (.ixs 2) [(.slot 1), (.slot 5)] none
    (.q 7 (.lda 2) [(.res 6)] none
    (.q 8 (.eqc true [(.i .i64), (.i .i64)]) [(.res 3), (.res 7)] none
    (.out [(0, (.slot 0)), (1, (.slot 1)), (5, (.slot 5)), (25, (.res 8))]))))))
    [0, 1, 5]
abbrev same__r6 : NC := .reg
    (.out [(4, (.const (.bool false)))])
    []
abbrev same__r7 : NC := .reg
    (.q 1 (.iar .add) [(.slot 5), (.const (.int .i64 1))] none
    (.out [(0, (.slot 0)), (1, (.slot 1)), (5, (.res 1))]))
    [0, 1, 5]
abbrev same__l0 : NC :=
  (.seq (.seq same__r4
  (.cond (.slot 14)
    .skip
    (.exit 0)))
  (.seq (.block 1 (.seq same__r5
  (.cond (.slot 25)
    (.seq same__r6
    .ret)
    .skip)))
  same__r7))
abbrev same__r8 : NC := .reg
    (.out [(4, (.const (.bool true)))])
    []
abbrev same__c : NC :=
  (.seq same__r0
  (.seq (.seq same__r1
  (.cond (.slot 10)
    (.seq same__r2
    .ret)
    .skip))
  (.seq (.seq same__r3
  (.block 0 (.loop [0, 1, 5] same__l0)))
  (.seq same__r8
  .ret))))
abbrev same__F : FN := ⟨same__c, [.slot 4]⟩
theorem same__ok : compF Try.prog Try.f11 = some same__F := by kernel_rfl
/-! (*concord/inst.Set).List -/
abbrev list__r0 : NC := .reg
    (.out [(0, (.slot 0))])
    [0]
abbrev list__r1 : NC := .reg
    (.out [(0, (.slot 0)), (3, (.const (.slice none 0 0)))])
    [0]
abbrev list__r2 : NC := .reg
    (.q 1 .nilck [(.slot 0)] none
    (.q 2 (.fld 0) [(.res 1)] none
    (.q 3 .ld [(.res 2)] none
    (.x 4 .rng [(.res 3)] none []
    (.out [(3, (.slot 3)), (9, (.res 4))])))))
    [0, 3]
abbrev list__r3 : NC := .reg
    (.x 0 .nxt [(.slot 9)] none []
    (.q 1 (.ext 0) [(.res 0)] none
    (.out [(3, (.slot 3)), (9, (.slot 9)), (11, (.res 1))])))
    [3, 9]
abbrev list__r4 : NC := .reg
    (.q 0 .ent [(.slot 9)] none
    (.q 1 (.ext 0) [(.res 0)] none
    (.x 2 (.alc [(.int .i64 0), (.int .i64 0)] 25) [] none []
    (.x 3 (.st 2) [(.res 2), (.res 1)] none []
    (.out [(3, (.slot 3)), (4, (.res 2)), (9, (.slot 9))])))))
    [3, 9]
abbrev list__r5 : NC := .reg
    (.q 1 (.lda 2) [(.slot 4)] none
    (.x 2 (.bsl 25 1 [(.int .i64 0), (.int .i64 0)] [(0, 2)]) [(.res 1)] none []
    (.x 3 (.app 25 2 16 [(.int .i64 0), (.int .i64 0)]) [(.slot 3), (.res 2)] none []
    (.out [(3, (.res 3)), (9, (.slot 9))]))))
    [3, 4, 9]
abbrev list__l0 : NC :=
  (.seq list__r3
  (.seq (.cond (.slot 11)
    .skip
    (.exit 0))
  (.block 1 (.seq list__r4
  list__r5))))
abbrev list__r6 : NC := .reg
    (.x 1 (.call 25) [(.slot 3), (.fn 26)] none []
    (.out [(3, (.slot 3))]))
    [3]
abbrev list__r7 : NC := .reg
    (.out [(2, (.slot 3))])
    [3]
abbrev list__c : NC :=
  (.seq list__r0
  (.seq list__r1
  (.seq (.seq list__r2
  (.block 0 (.loop [3, 9] list__l0)))
  (.seq list__r6
  (.seq list__r7
  .ret)))))
abbrev list__F : FN := ⟨list__c, [.slot 2]⟩
theorem list__ok : compF Try.prog Try.f12 = some list__F := by kernel_rfl
/-! (*concord/inst.Set).Add -/
abbrev add__r0 : NC := .reg
    (.x 0 (.box 25) [(.slot 1)] none []
    (.out [(0, (.slot 0)), (3, (.res 0))]))
    [0, 1]
abbrev add__r1 : NC := .reg
    (.q 1 .nilck [(.slot 0)] none
    (.q 2 (.fld 0) [(.res 1)] none
    (.q 3 .ld [(.res 2)] none
    (.q 4 .lenm [(.res 3)] none
    (.out [(0, (.slot 0)), (3, (.slot 3)), (5, (.res 4))])))))
    [0, 3]
abbrev add__r2 : NC := .reg
    (.q 1 .nilck [(.slot 0)] none
    (.q 2 (.fld 0) [(.res 1)] none
    (.q 3 .ld [(.res 2)] none
    (.q 4 (.lda 2) [(.slot 3)] none
    (.q 5 (.bld [] []) [] none
    (.x 6 (.mup true [(.i .i64), (.i .i64)]) [(.res 3), (.res 4), (.res 5)] none []
    (.out [(0, (.slot 0)), (5, (.slot 5))])))))))
    [0, 3, 5]
abbrev add__r3 : NC := .reg
    (.q 1 .nilck [(.slot 0)] none
    (.q 2 (.fld 0) [(.res 1)] none
    (.q 3 .ld [(.res 2)] none
    (.q 4 .lenm [(.res 3)] none
    (.q 6 (.icm .gtr) [(.res 4), (.slot 5)] none
    (.out [(4, (.res 6))]))))))
    [0, 5]
abbrev add__c : NC :=
  (.seq add__r0
  (.seq add__r1
  (.seq add__r2
  (.seq add__r3
  .ret))))
abbrev add__F : FN := ⟨add__c, [.slot 4]⟩
theorem add__ok : compF Try.prog Try.f13 = some add__F := by kernel_rfl
/-! (*concord/inst.Set).Drop -/
abbrev drop__r0 : NC := .reg
    (.x 0 (.box 25) [(.slot 1)] none []
    (.out [(0, (.slot 0)), (3, (.res 0))]))
    [0, 1]
abbrev drop__r1 : NC := .reg
    (.q 1 .nilck [(.slot 0)] none
    (.q 2 (.fld 0) [(.res 1)] none
    (.q 3 .ld [(.res 2)] none
    (.q 4 .lenm [(.res 3)] none
    (.out [(0, (.slot 0)), (3, (.slot 3)), (5, (.res 4))])))))
    [0, 3]
abbrev drop__r2 : NC := .reg
    (.q 1 .nilck [(.slot 0)] none
    (.q 2 (.fld 0) [(.res 1)] none
    (.q 3 .ld [(.res 2)] none
    (.q 4 (.lda 2) [(.slot 3)] none
    (.x 5 (.dlt true [(.i .i64), (.i .i64)]) [(.res 3), (.res 4)] none []
    (.out [(0, (.slot 0)), (5, (.slot 5))]))))))
    [0, 3, 5]
abbrev drop__r3 : NC := .reg
    (.q 1 .nilck [(.slot 0)] none
    (.q 2 (.fld 0) [(.res 1)] none
    (.q 3 .ld [(.res 2)] none
    (.q 4 .lenm [(.res 3)] none
    (.q 6 (.icm .lss) [(.res 4), (.slot 5)] none
    (.out [(4, (.res 6))]))))))
    [0, 5]
abbrev drop__c : NC :=
  (.seq drop__r0
  (.seq drop__r1
  (.seq drop__r2
  (.seq drop__r3
  .ret))))
abbrev drop__F : FN := ⟨drop__c, [.slot 4]⟩
theorem drop__ok : compF Try.prog Try.f14 = some drop__F := by kernel_rfl
/-! concord/inst.Less -/
abbrev less__r0 : NC := .reg
    (.x 0 (.box 25) [(.slot 0)] none []
    (.x 1 (.box 25) [(.slot 1)] none []
    (.out [(2, (.res 0)), (3, (.res 1))])))
    [0, 1]
abbrev less__r1 : NC := .reg
    (.q 0 (.fld 0) [(.slot 2)] none
    (.q 1 .ld [(.res 0)] none
    (.q 2 (.fld 0) [(.slot 3)] none
    (.q 3 .ld [(.res 2)] none
    (.q 4 (.icm .lss) [(.res 1), (.res 3)] none
    (.q 6 (.fld 0) [(.slot 2)] (some ((.res 4), false))
    (.q 7 .ld [(.res 6)] (some ((.res 4), false))
    (.q 8 (.fld 0) [(.slot 3)] (some ((.res 4), false))
    (.q 9 .ld [(.res 8)] (some ((.res 4), false))
    (.q 10 (.icm .eql) [(.res 7), (.res 9)] (some ((.res 4), false))
    (.q 11 .mv [(.res 10)] (some ((.res 4), false))
    (.q 12 (.fld 1) [(.slot 2)] (some ((.res 11), true))
    (.q 13 .ld [(.res 12)] (some ((.res 11), true))
    (.q 14 (.fld 1) [(.slot 3)] (some ((.res 11), true))
    (.q 15 .ld [(.res 14)] (some ((.res 11), true))
    (.q 16 (.icm .lss) [(.res 13), (.res 15)] (some ((.res 11), true))
    (.q 17 .pick [(.res 11), (.res 16), (.const (.bool false))] (some ((.res 4), false))
    (.q 18 .pick [(.res 4), (.const (.bool true)), (.res 17)] none
    (.out [(4, (.res 18))])))))))))))))))))))
    [2, 3]
abbrev less__c : NC :=
  (.seq less__r0
  (.seq less__r1
  .ret))
abbrev less__F : FN := ⟨less__c, [.slot 4]⟩
theorem less__ok : compF Try.prog Try.f15 = some less__F := by kernel_rfl
/-! concord/inst.Below -/
abbrev below__r0 : NC := .reg
    (.x 0 (.box 35) [(.slot 0)] none []
    (.x 1 (.box 35) [(.slot 1)] none []
    (.out [(2, (.res 0)), (3, (.res 1))])))
    [0, 1]
abbrev below__r1 : NC := .reg
    (.q 0 (.fld 0) [(.slot 2)] none
    (.q 1 .ld [(.res 0)] none
    (.q 2 (.fld 0) [(.slot 3)] none
    (.q 3 .ld [(.res 2)] none
    (.q 4 (.icm .lss) [(.res 1), (.res 3)] none
    (.q 6 (.fld 0) [(.slot 2)] (some ((.res 4), false))
    (.q 7 .ld [(.res 6)] (some ((.res 4), false))
    (.q 8 (.fld 0) [(.slot 3)] (some ((.res 4), false))
    (.q 9 .ld [(.res 8)] (some ((.res 4), false))
    (.q 10 (.icm .eql) [(.res 7), (.res 9)] (some ((.res 4), false))
    (.q 11 .mv [(.res 10)] (some ((.res 4), false))
    (.q 12 (.fld 1) [(.slot 2)] (some ((.res 11), true))
    (.q 13 .ld [(.res 12)] (some ((.res 11), true))
    (.q 14 (.fld 1) [(.slot 3)] (some ((.res 11), true))
    (.q 15 .ld [(.res 14)] (some ((.res 11), true))
    (.q 16 (.icm .lss) [(.res 13), (.res 15)] (some ((.res 11), true))
    (.q 17 .pick [(.res 11), (.res 16), (.const (.bool false))] (some ((.res 4), false))
    (.q 18 .pick [(.res 4), (.const (.bool true)), (.res 17)] none
    (.out [(4, (.res 18))])))))))))))))))))))
    [2, 3]
abbrev below__c : NC :=
  (.seq below__r0
  (.seq below__r1
  .ret))
abbrev below__F : FN := ⟨below__c, [.slot 4]⟩
theorem below__ok : compF Try.prog Try.f16 = some below__F := by kernel_rfl
/-! concord/inst.Next -/
abbrev next__r0 : NC := .reg
    (.x 0 (.box 35) [(.slot 0)] none []
    (.x 1 (.alc [(.int .i64 0), (.int .i64 0)] 35) [] none []
    (.out [(1, (.slot 1)), (2, (.res 0)), (4, (.res 1))])))
    [0, 1]
abbrev next__r1 : NC := .reg
    (.q 0 (.fld 0) [(.slot 2)] none
    (.q 1 .ld [(.res 0)] none
    (.q 2 (.iar .add) [(.res 1), (.const (.int .i64 1))] none
    (.q 4 (.bld [(.int .i64 0), (.int .i64 0)] [(0, 1), (1, 1)]) [(.res 2), (.slot 1)] none
    (.x 5 (.st 2) [(.slot 4), (.res 4)] none []
    (.out [(4, (.slot 4))]))))))
    [1, 2, 4]
abbrev next__c : NC :=
  (.seq next__r0
  (.seq next__r1
  .ret))
abbrev next__F : FN := ⟨next__c, [.cells 4 2]⟩
theorem next__ok : compF Try.prog Try.f17 = some next__F := by kernel_rfl
/-! (*concord/inst.Set).Has -/
abbrev has__r0 : NC := .reg
    (.x 0 (.box 25) [(.slot 1)] none []
    (.out [(0, (.slot 0)), (3, (.res 0))]))
    [0, 1]
abbrev has__r1 : NC := .reg
    (.q 1 .nilck [(.slot 0)] none
    (.q 2 (.fld 0) [(.res 1)] none
    (.q 3 .ld [(.res 2)] none
    (.q 4 (.lda 2) [(.slot 3)] none
    (.q 5 (.lkp true [(.i .i64), (.i .i64)] (.agg #[]) true) [(.res 3), (.res 4)] none
    (.q 7 (.ext 0) [(.res 5)] none
    (.q 8 (.ext 1) [(.res 5)] none
    (.x 9 (.alc [] 51) [] none [(3, .ld, [(.res 2)], none), (4, (.lda 2), [(.slot 3)], none), (5, (.lkp true [(.i .i64), (.i .i64)] (.agg #[]) true), [(.res 3), (.res 4)], none)]
    (.x 10 (.st 0) [(.res 9), (.res 7)] none []
    (.out [(6, (.res 8))]))))))))))
    [0, 3]
abbrev has__r2 : NC := .reg
    (.out [(4, (.slot 6))])
    [6]
abbrev has__c : NC :=
  (.seq has__r0
  (.seq has__r1
  (.seq has__r2
  .ret)))
abbrev has__F : FN := ⟨has__c, [.slot 4]⟩
theorem has__ok : compF Try.prog Try.f18 = some has__F := by kernel_rfl
/-! concord/concordref1.Less -/
abbrev rless__r0 : NC := .reg
    (.x 0 (.box 25) [(.slot 0)] none []
    (.x 1 (.box 25) [(.slot 1)] none []
    (.out [(2, (.res 0)), (3, (.res 1))])))
    [0, 1]
abbrev rless__r1 : NC := .reg
    (.q 0 (.fld 0) [(.slot 2)] none
    (.q 1 .ld [(.res 0)] none
    (.q 2 (.fld 0) [(.slot 3)] none
    (.q 3 .ld [(.res 2)] none
    (.q 4 (.icm .lss) [(.res 1), (.res 3)] none
    (.q 6 (.fld 0) [(.slot 2)] (some ((.res 4), false))
    (.q 7 .ld [(.res 6)] (some ((.res 4), false))
    (.q 8 (.fld 0) [(.slot 3)] (some ((.res 4), false))
    (.q 9 .ld [(.res 8)] (some ((.res 4), false))
    (.q 10 (.icm .eql) [(.res 7), (.res 9)] (some ((.res 4), false))
    (.q 11 .mv [(.res 10)] (some ((.res 4), false))
    (.q 12 (.fld 1) [(.slot 2)] (some ((.res 11), true))
    (.q 13 .ld [(.res 12)] (some ((.res 11), true))
    (.q 14 (.fld 1) [(.slot 3)] (some ((.res 11), true))
    (.q 15 .ld [(.res 14)] (some ((.res 11), true))
    (.q 16 (.icm .lss) [(.res 13), (.res 15)] (some ((.res 11), true))
    (.q 17 .pick [(.res 11), (.res 16), (.const (.bool false))] (some ((.res 4), false))
    (.q 18 .pick [(.res 4), (.const (.bool true)), (.res 17)] none
    (.out [(4, (.res 18))])))))))))))))))))))
    [2, 3]
abbrev rless__c : NC :=
  (.seq rless__r0
  (.seq rless__r1
  .ret))
abbrev rless__F : FN := ⟨rless__c, [.slot 4]⟩
theorem rless__ok : compF Try.prog Try.f20 = some rless__F := by kernel_rfl
/-! concord/concordbook.Within -/
abbrev within__r0 : NC := .reg
    (.out [(0, (.slot 0)), (1, (.slot 1)), (2, (.slot 2))])
    [0, 1, 2]
abbrev within__r1 : NC := .reg
    (.q 3 (.iar .sub) [(.slot 2), (.slot 1)] none
    (.q 4 (.iar .add) [(.res 3), (.const (.int .i64 1))] none
    (.q 5 (.idv .rem) [(.slot 0), (.res 4)] none
    (.out [(0, (.res 5)), (1, (.slot 1)), (2, (.slot 2))]))))
    [0, 1, 2]
abbrev within__r2 : NC := .reg
    (.q 1 (.icm .lss) [(.slot 0), (.const (.int .i64 0))] none
    (.out [(0, (.slot 0)), (1, (.slot 1)), (2, (.slot 2)), (14, (.res 1))]))
    [0, 1, 2]
abbrev within__r3 : NC := .reg
    (.q 2 (.iar .add) [(.slot 0), (.slot 2)] none
    (.q 4 (.iar .sub) [(.res 2), (.slot 1)] none
    (.q 5 (.iar .add) [(.res 4), (.const (.int .i64 1))] none
    (.out [(0, (.res 5)), (1, (.slot 1))]))))
    [0, 1, 2]
abbrev within__r4 : NC := .reg
    (.q 2 (.iar .add) [(.slot 1), (.slot 0)] none
    (.out [(6, (.res 2))]))
    [0, 1]
abbrev within__c : NC :=
  (.seq within__r0
  (.seq within__r1
  (.seq (.seq within__r2
  (.cond (.slot 14)
    within__r3
    .skip))
  (.seq within__r4
  .ret))))
abbrev within__F : FN := ⟨within__c, [.slot 6]⟩
theorem within__ok : compF Try.prog Try.f21 = some within__F := by kernel_rfl
/-! concord/inst.RightBallot -/
abbrev rball__r0 : NC := .reg
    (.x 0 (.box 35) [(.slot 0)] none []
    (.out [(1, (.res 0))]))
    [0]
abbrev rball__r1 : NC := .reg
    (.q 0 (.fld 0) [(.slot 1)] none
    (.q 1 .ld [(.res 0)] none
    (.q 2 (.icm .geq) [(.res 1), (.const (.int .i64 0))] none
    (.q 4 (.fld 0) [(.slot 1)] (some ((.res 2), true))
    (.q 5 .ld [(.res 4)] (some ((.res 2), true))
    (.q 6 (.icm .leq) [(.res 5), (.const (.int .i64 1073741824))] (some ((.res 2), true))
    (.q 7 .pick [(.res 2), (.res 6), (.const (.bool false))] none
    (.q 9 (.fld 1) [(.slot 1)] (some ((.res 7), true))
    (.q 10 .ld [(.res 9)] (some ((.res 7), true))
    (.q 11 (.icm .geq) [(.res 10), (.const (.int .i64 0))] (some ((.res 7), true))
    (.q 12 .pick [(.res 7), (.res 11), (.const (.bool false))] none
    (.q 14 (.fld 1) [(.slot 1)] (some ((.res 12), true))
    (.q 15 .ld [(.res 14)] (some ((.res 12), true))
    (.q 16 (.icm .lss) [(.res 15), (.const (.int .i64 7))] (some ((.res 12), true))
    (.q 17 .pick [(.res 12), (.res 16), (.const (.bool false))] none
    (.out [(2, (.res 17))]))))))))))))))))
    [1]
abbrev rball__c : NC :=
  (.seq rball__r0
  (.seq rball__r1
  .ret))
abbrev rball__F : FN := ⟨rball__c, [.slot 2]⟩
theorem rball__ok : compF Try.prog Try.f22 = some rball__F := by kernel_rfl
/-! concord/inst.Right -/
abbrev right__r0 : NC := .reg
    (.x 0 (.box 25) [(.slot 0)] none []
    (.out [(1, (.res 0))]))
    [0]
abbrev right__r1 : NC := .reg
    (.q 0 (.fld 0) [(.slot 1)] none
    (.q 1 .ld [(.res 0)] none
    (.q 2 (.icm .geq) [(.res 1), (.const (.int .i64 0))] none
    (.q 4 (.fld 0) [(.slot 1)] (some ((.res 2), true))
    (.q 5 .ld [(.res 4)] (some ((.res 2), true))
    (.q 6 (.icm .lss) [(.res 5), (.const (.int .i64 7))] (some ((.res 2), true))
    (.q 7 .pick [(.res 2), (.res 6), (.const (.bool false))] none
    (.q 9 (.fld 1) [(.slot 1)] (some ((.res 7), true))
    (.q 10 .ld [(.res 9)] (some ((.res 7), true))
    (.q 11 (.icm .geq) [(.res 10), (.const (.int .i64 1))] (some ((.res 7), true))
    (.q 12 .pick [(.res 7), (.res 11), (.const (.bool false))] none
    (.q 14 (.fld 1) [(.slot 1)] (some ((.res 12), true))
    (.q 15 .ld [(.res 14)] (some ((.res 12), true))
    (.q 16 (.icm .leq) [(.res 15), (.const (.int .i64 1073741824))] (some ((.res 12), true))
    (.q 17 .pick [(.res 12), (.res 16), (.const (.bool false))] none
    (.out [(2, (.res 17))]))))))))))))))))
    [1]
abbrev right__c : NC :=
  (.seq right__r0
  (.seq right__r1
  .ret))
abbrev right__F : FN := ⟨right__c, [.slot 2]⟩
theorem right__ok : compF Try.prog Try.f23 = some right__F := by kernel_rfl
/-! concord/concordref1.Below -/
abbrev rbelow__r0 : NC := .reg
    (.x 0 (.box 35) [(.slot 0)] none []
    (.x 1 (.box 35) [(.slot 1)] none []
    (.out [(2, (.res 0)), (3, (.res 1))])))
    [0, 1]
abbrev rbelow__r1 : NC := .reg
    (.q 0 (.fld 0) [(.slot 2)] none
    (.q 1 .ld [(.res 0)] none
    (.q 2 (.fld 0) [(.slot 3)] none
    (.q 3 .ld [(.res 2)] none
    (.q 4 (.icm .lss) [(.res 1), (.res 3)] none
    (.q 6 (.fld 0) [(.slot 2)] (some ((.res 4), false))
    (.q 7 .ld [(.res 6)] (some ((.res 4), false))
    (.q 8 (.fld 0) [(.slot 3)] (some ((.res 4), false))
    (.q 9 .ld [(.res 8)] (some ((.res 4), false))
    (.q 10 (.icm .eql) [(.res 7), (.res 9)] (some ((.res 4), false))
    (.q 11 .mv [(.res 10)] (some ((.res 4), false))
    (.q 12 (.fld 1) [(.slot 2)] (some ((.res 11), true))
    (.q 13 .ld [(.res 12)] (some ((.res 11), true))
    (.q 14 (.fld 1) [(.slot 3)] (some ((.res 11), true))
    (.q 15 .ld [(.res 14)] (some ((.res 11), true))
    (.q 16 (.icm .lss) [(.res 13), (.res 15)] (some ((.res 11), true))
    (.q 17 .pick [(.res 11), (.res 16), (.const (.bool false))] (some ((.res 4), false))
    (.q 18 .pick [(.res 4), (.const (.bool true)), (.res 17)] none
    (.out [(4, (.res 18))])))))))))))))))))))
    [2, 3]
abbrev rbelow__c : NC :=
  (.seq rbelow__r0
  (.seq rbelow__r1
  .ret))
abbrev rbelow__F : FN := ⟨rbelow__c, [.slot 4]⟩
theorem rbelow__ok : compF Try.prog Try.f24 = some rbelow__F := by kernel_rfl
/-! slices.SortFunc[[]concord/api.Inst,concord/api.Inst] -/
abbrev sfunc__r0 : NC := .reg
    (.q 1 .len [(.slot 0)] none
    (.out [(0, (.slot 0)), (1, (.slot 1)), (4, (.res 1))]))
    [0, 1]
abbrev sfunc__r1 : NC := .reg
    (.q 3 (.conv .u64) [(.slot 4)] none
    (.x 4 (.call 28) [(.res 3)] none []
    (.x 6 (.call 27) [(.slot 0), (.const (.int .i64 0)), (.slot 4), (.res 4), (.slot 1)] none []
    (.out []))))
    [0, 1, 4]
abbrev sfunc__c : NC :=
  (.seq sfunc__r0
  sfunc__r1)
abbrev sfunc__F : FN := ⟨sfunc__c, []⟩
theorem sfunc__ok : compF Try.prog Try.f25 = some sfunc__F := by kernel_rfl
/-! (*concord/inst.Set).List$1 -/
abbrev cmp__r0 : NC := .reg
    (.x 0 (.box 25) [(.slot 0)] none []
    (.x 1 (.box 25) [(.slot 1)] none []
    (.out [(2, (.res 0)), (3, (.res 1))])))
    [0, 1]
abbrev cmp__r1 : NC := .reg
    (.q 0 (.lda 2) [(.slot 2)] none
    (.q 1 (.lda 2) [(.slot 3)] none
    (.x 2 (.call 15) [(.res 0), (.res 1)] none []
    (.out [(7, (.res 2))]))))
    [2, 3]
abbrev cmp__r2 : NC := .reg
    (.out [(4, (.const (.int .i64 (-1))))])
    []
abbrev cmp__r3 : NC := .reg
    (.out [(4, (.const (.int .i64 1)))])
    []
abbrev cmp__c : NC :=
  (.seq cmp__r0
  (.seq (.seq cmp__r1
  (.cond (.slot 7)
    (.seq cmp__r2
    .ret)
    .skip))
  (.seq cmp__r3
  .ret)))
abbrev cmp__F : FN := ⟨cmp__c, [.slot 4]⟩
theorem cmp__ok : compF Try.prog Try.f26 = some cmp__F := by kernel_rfl
/-! slices.pdqsortCmpFunc[concord/api.Inst] -/
abbrev pdq__r0 : NC := .reg
    (.out [(0, (.slot 0)), (1, (.slot 1)), (2, (.slot 2)), (3, (.slot 3)), (4, (.slot 4)), (10, (.const (.bool true)))])
    [0, 1, 2, 3, 4]
abbrev pdq__r1 : NC := .reg
    (.out [(0, (.slot 0)), (1, (.slot 1)), (2, (.slot 2)), (3, (.slot 3)), (4, (.slot 4)), (10, (.slot 10)), (11, (.const (.bool true)))])
    [0, 1, 2, 3, 4, 10]
abbrev pdq__r2 : NC := .reg
    (.q 2 (.iar .sub) [(.slot 2), (.slot 1)] none
    (.out [(0, (.slot 0)), (1, (.slot 1)), (2, (.slot 2)), (3, (.slot 3)), (4, (.slot 4)), (10, (.slot 10)), (11, (.slot 11)), (12, (.res 2))]))
    [0, 1, 2, 3, 4, 10, 11]
abbrev pdq__r3 : NC := .reg
    (.q 1 (.icm .leq) [(.slot 12), (.const (.int .i64 12))] none
    (.out [(0, (.slot 0)), (1, (.slot 1)), (2, (.slot 2)), (3, (.slot 3)), (4, (.slot 4)), (10, (.slot 10)), (11, (.slot 11)), (12, (.slot 12)), (25, (.res 1))]))
    [0, 1, 2, 3, 4, 10, 11, 12]
abbrev pdq__r4 : NC := .reg
    (.x 4 (.call 29) [(.slot 0), (.slot 1), (.slot 2), (.slot 4)] none []
    (.out []))
    [0, 1, 2, 4]
abbrev pdq__r5 : NC := .reg
    (.q 1 (.icm .eql) [(.slot 3), (.const (.int .i64 0))] none
    (.out [(0, (.slot 0)), (1, (.slot 1)), (2, (.slot 2)), (3, (.slot 3)), (4, (.slot 4)), (10, (.slot 10)), (11, (.slot 11)), (12, (.slot 12)), (32, (.res 1))]))
    [0, 1, 2, 3, 4, 10, 11, 12]
abbrev pdq__r6 : NC := .reg
    (.x 4 (.call 30) [(.slot 0), (.slot 1), (.slot 2), (.slot 4)] none []
    (.out []))
    [0, 1, 2, 4]
abbrev pdq__r7 : NC := .reg
    (.q 1 .not [(.slot 10)] none
    (.out [(0, (.slot 0)), (1, (.slot 1)), (2, (.slot 2)), (3, (.slot 3)), (4, (.slot 4)), (10, (.slot 10)), (11, (.slot 11)), (12, (.slot 12)), (39, (.res 1))]))
    [0, 1, 2, 3, 4, 10, 11, 12]
abbrev pdq__r8 : NC := .reg
    (.x 4 (.call 31) [(.slot 0), (.slot 1), (.slot 2), (.slot 4)] none []
    (.out [(0, (.slot 0)), (1, (.slot 1)), (2, (.slot 2)), (3, (.slot 3)), (4, (.slot 4)), (10, (.slot 10)), (11, (.slot 11)), (12, (.slot 12))]))
    [0, 1, 2, 3, 4, 10, 11, 12]
abbrev pdq__r9 : NC := .reg
    (.q 1 (.iar .sub) [(.slot 3), (.const (.int .i64 1))] none
    (.out [(0, (.slot 0)), (1, (.slot 1)), (2, (.slot 2)), (3, (.res 1)), (4, (.slot 4)), (10, (.slot 10)), (11, (.slot 11)), (12, (.slot 12))]))
    [0, 1, 2, 3, 4, 10, 11, 12]
abbrev pdq__r10 : NC := .reg
    (.x 4 (.call 32) [(.slot 0), (.slot 1), (.slot 2), (.slot 4)] none []
    (.q 6 (.ext 0) [(.res 4)] none
    (.q 7 (.ext 1) [(.res 4)] none
    (.out [(0, (.slot 0)), (1, (.slot 1)), (2, (.slot 2)), (3, (.slot 3)), (4, (.slot 4)), (10, (.slot 10)), (11, (.slot 11)), (12, (.slot 12)), (13, (.res 6)), (14, (.res 7))]))))
    [0, 1, 2, 3, 4, 10, 11, 12]
abbrev pdq__r11 : NC := .reg
    (.q 1 (.icm .eql) [(.slot 14), (.const (.int .i64 2))] none
    (.out [(0, (.slot 0)), (1, (.slot 1)), (2, (.slot 2)), (3, (.slot 3)), (4, (.slot 4)), (10, (.slot 10)), (11, (.slot 11)), (12, (.slot 12)), (13, (.slot 13)), (14, (.slot 14)), (56, (.res 1))]))
    [0, 1, 2, 3, 4, 10, 11, 12, 13, 14]
abbrev pdq__r12 : NC := .reg
    (.x 4 (.call 33) [(.slot 0), (.slot 1), (.slot 2), (.slot 4)] none []
    (.out [(0, (.slot 0)), (1, (.slot 1)), (2, (.slot 2)), (3, (.slot 3)), (4, (.slot 4)), (10, (.slot 10)), (11, (.slot 11)), (12, (.slot 12)), (13, (.slot 13))]))
    [0, 1, 2, 3, 4, 10, 11, 12, 13]
abbrev pdq__r13 : NC := .reg
    (.q 1 (.iar .sub) [(.slot 2), (.const (.int .i64 1))] none
    (.q 4 (.iar .sub) [(.slot 13), (.slot 1)] none
    (.q 5 (.iar .sub) [(.res 1), (.res 4)] none
    (.out [(0, (.slot 0)), (1, (.slot 1)), (2, (.slot 2)), (3, (.slot 3)), (4, (.slot 4)), (10, (.slot 10)), (11, (.slot 11)), (12, (.slot 12)), (13, (.res 5))]))))
    [0, 1, 2, 3, 4, 10, 11, 12, 13]
abbrev pdq__r14 : NC := .reg
    (.out [(0, (.slot 0)), (1, (.slot 1)), (2, (.slot 2)), (3, (.slot 3)), (4, (.slot 4)), (10, (.slot 10)), (11, (.slot 11)), (12, (.slot 12)), (13, (.slot 13)), (14, (.const (.int .i64 1)))])
    [0, 1, 2, 3, 4, 10, 11, 12, 13]
abbrev pdq__r15 : NC := .reg
    (.q 2 .mv [(.slot 11)] (some ((.slot 10), true))
    (.q 3 .pick [(.slot 10), (.res 2), (.const (.bool false))] none
    (.q 5 .mv [(.slot 14)] (some ((.res 3), true))
    (.q 6 (.icm .eql) [(.res 5), (.const (.int .i64 1))] (some ((.res 3), true))
    (.q 7 .pick [(.res 3), (.res 6), (.const (.bool false))] none
    (.out [(0, (.slot 0)), (1, (.slot 1)), (2, (.slot 2)), (3, (.slot 3)), (4, (.slot 4)), (10, (.slot 10)), (11, (.slot 11)), (12, (.slot 12)), (13, (.slot 13)), (75, (.res 7))]))))))
    [0, 1, 2, 3, 4, 10, 11, 12, 13, 14]
abbrev pdq__r16 : NC := .reg
    (.x 4 (.call 34) [(.slot 0), (.slot 1), (.slot 2), (.slot 4)] none []
    (.out [(0, (.slot 0)), (1, (.slot 1)), (2, (.slot 2)), (3, (.slot 3)), (4, (.slot 4)), (10, (.slot 10)), (11, (.slot 11)), (12, (.slot 12)), (13, (.slot 13)), (80, (.res 4))]))
    [0, 1, 2, 3, 4, 10, 11, 12, 13]
abbrev pdq__r17 : NC := .reg
    (.q 1 (.icm .gtr) [(.slot 1), (.const (.int .i64 0))] none
    (.q 3 .mv [(.slot 4)] (some ((.res 1), true))
    (.q 4 .mv [(.slot 0)] (some ((.res 1), true))
    (.q 5 .mv [(.slot 1)] (some ((.res 1), true))
    (.q 6 (.iar .sub) [(.res 5), (.const (.int .i64 1))] (some ((.res 1), true))
    (.q 7 (.ixs 2) [(.res 4), (.res 6)] (some ((.res 1), true))
    (.q 8 (.lda 2) [(.res 7)] (some ((.res 1), true))
    (.q 9 .mv [(.slot 0)] (some ((.res 1), true))
    (.q 10 .mv [(.slot 13)] (some ((.res 1), true))
    (.q 11 (.ixs 2) [(.res 9), (.res 10)] (some ((.res 1), true))
    (.q 12 (.lda 2) [(.res 11)] (some ((.res 1), true))
    (.x 13 .callv [(.res 3), (.res 8), (.res 12)] (some ((.res 1), true)) []
    (.q 14 (.icm .lss) [(.res 13), (.const (.int .i64 0))] (some ((.res 1), true))
    (.q 15 .not [(.res 14)] (some ((.res 1), true))
    (.q 16 .pick [(.res 1), (.res 15), (.const (.bool false))] none
    (.out [(0, (.slot 0)), (1, (.slot 1)), (2, (.slot 2)), (3, (.slot 3)), (4, (.slot 4)), (10, (.slot 10)), (11, (.slot 11)), (12, (.slot 12)), (13, (.slot 13)), (97, (.res 16))]))))))))))))))))
    [0, 1, 2, 3, 4, 10, 11, 12, 13]
abbrev pdq__r18 : NC := .reg
    (.x 5 (.call 35) [(.slot 0), (.slot 1), (.slot 2), (.slot 13), (.slot 4)] none []
    (.out [(0, (.slot 0)), (2, (.slot 2)), (3, (.slot 3)), (4, (.slot 4)), (10, (.slot 10)), (11, (.slot 11)), (15, (.res 5))]))
    [0, 1, 2, 3, 4, 10, 11, 13]
abbrev pdq__r19 : NC := .reg
    (.out [(0, (.slot 0)), (1, (.slot 15)), (2, (.slot 2)), (3, (.slot 3)), (4, (.slot 4)), (10, (.slot 10)), (11, (.slot 11))])
    [0, 2, 3, 4, 10, 11, 15]
abbrev pdq__r20 : NC := .reg
    (.x 5 (.call 36) [(.slot 0), (.slot 1), (.slot 2), (.slot 13), (.slot 4)] none []
    (.q 7 (.ext 0) [(.res 5)] none
    (.q 8 (.ext 1) [(.res 5)] none
    (.out [(0, (.slot 0)), (1, (.slot 1)), (2, (.slot 2)), (3, (.slot 3)), (4, (.slot 4)), (12, (.slot 12)), (16, (.res 7)), (17, (.res 8))]))))
    [0, 1, 2, 3, 4, 12, 13]
abbrev pdq__r21 : NC := .reg
    (.out [(0, (.slot 0)), (1, (.slot 1)), (2, (.slot 2)), (3, (.slot 3)), (4, (.slot 4)), (11, (.slot 17)), (12, (.slot 12)), (16, (.slot 16))])
    [0, 1, 2, 3, 4, 12, 16, 17]
abbrev pdq__r22 : NC := .reg
    (.q 2 (.iar .sub) [(.slot 16), (.slot 1)] none
    (.q 5 (.iar .sub) [(.slot 2), (.slot 16)] none
    (.out [(0, (.slot 0)), (1, (.slot 1)), (2, (.slot 2)), (3, (.slot 3)), (4, (.slot 4)), (11, (.slot 11)), (12, (.slot 12)), (16, (.slot 16)), (18, (.res 2)), (19, (.res 5))])))
    [0, 1, 2, 3, 4, 11, 12, 16]
abbrev pdq__r23 : NC := .reg
    (.q 1 (.idv .quo) [(.slot 12), (.const (.int .i64 8))] none
    (.out [(0, (.slot 0)), (1, (.slot 1)), (2, (.slot 2)), (3, (.slot 3)), (4, (.slot 4)), (11, (.slot 11)), (16, (.slot 16)), (18, (.slot 18)), (19, (.slot 19)), (20, (.res 1))]))
    [0, 1, 2, 3, 4, 11, 12, 16, 18, 19]
abbrev pdq__r24 : NC := .reg
    (.q 2 (.icm .lss) [(.slot 18), (.slot 19)] none
    (.out [(0, (.slot 0)), (1, (.slot 1)), (2, (.slot 2)), (3, (.slot 3)), (4, (.slot 4)), (11, (.slot 11)), (16, (.slot 16)), (18, (.slot 18)), (19, (.slot 19)), (20, (.slot 20)), (125, (.res 2))]))
    [0, 1, 2, 3, 4, 11, 16, 18, 19, 20]
abbrev pdq__r25 : NC := .reg
    (.q 2 (.icm .geq) [(.slot 18), (.slot 20)] none
    (.out [(0, (.slot 0)), (1, (.slot 1)), (2, (.slot 2)), (3, (.slot 3)), (4, (.slot 4)), (10, (.res 2)), (11, (.slot 11)), (16, (.slot 16))]))
    [0, 1, 2, 3, 4, 11, 16, 18, 20]
abbrev pdq__r26 : NC := .reg
    (.x 5 (.call 27) [(.slot 0), (.slot 1), (.slot 16), (.slot 3), (.slot 4)] none []
    (.out [(0, (.slot 0)), (2, (.slot 2)), (3, (.slot 3)), (4, (.slot 4)), (10, (.slot 10)), (11, (.slot 11)), (16, (.slot 16))]))
    [0, 1, 2, 3, 4, 10, 11, 16]
abbrev pdq__r27 : NC := .reg
    (.q 1 (.iar .add) [(.slot 16), (.const (.int .i64 1))] none
    (.out [(0, (.slot 0)), (1, (.res 1)), (2, (.slot 2)), (3, (.slot 3)), (4, (.slot 4)), (10, (.slot 10)), (11, (.slot 11))]))
    [0, 2, 3, 4, 10, 11, 16]
abbrev pdq__r28 : NC := .reg
    (.q 2 (.icm .geq) [(.slot 19), (.slot 20)] none
    (.out [(0, (.slot 0)), (1, (.slot 1)), (2, (.slot 2)), (3, (.slot 3)), (4, (.slot 4)), (10, (.res 2)), (11, (.slot 11)), (16, (.slot 16))]))
    [0, 1, 2, 3, 4, 11, 16, 19, 20]
abbrev pdq__r29 : NC := .reg
    (.q 2 (.iar .add) [(.slot 16), (.const (.int .i64 1))] none
    (.x 6 (.call 27) [(.slot 0), (.res 2), (.slot 2), (.slot 3), (.slot 4)] none []
    (.out [(0, (.slot 0)), (1, (.slot 1)), (3, (.slot 3)), (4, (.slot 4)), (10, (.slot 10)), (11, (.slot 11)), (16, (.slot 16))])))
    [0, 1, 2, 3, 4, 10, 11, 16]
abbrev pdq__r30 : NC := .reg
    (.out [(0, (.slot 0)), (1, (.slot 1)), (2, (.slot 16)), (3, (.slot 3)), (4, (.slot 4)), (10, (.slot 10)), (11, (.slot 11))])
    [0, 1, 3, 4, 10, 11, 16]
abbrev pdq__l0 : NC :=
  (.block 1 (.seq pdq__r2
  (.seq (.seq pdq__r3
  (.cond (.slot 25)
    (.seq pdq__r4
    .ret)
    .skip))
  (.seq (.seq pdq__r5
  (.cond (.slot 32)
    (.seq pdq__r6
    .ret)
    .skip))
  (.seq (.seq pdq__r7
  (.cond (.slot 39)
    (.seq pdq__r8
    pdq__r9)
    .skip))
  (.seq pdq__r10
  (.seq (.seq pdq__r11
  (.cond (.slot 56)
    (.seq pdq__r12
    (.seq pdq__r13
    pdq__r14))
    .skip))
  (.seq (.seq pdq__r15
  (.cond (.slot 75)
    (.seq pdq__r16
    (.cond (.slot 80)
      .ret
      .skip))
    .skip))
  (.seq (.seq pdq__r17
  (.cond (.slot 97)
    (.seq pdq__r18
    (.seq pdq__r19
    (.exit 1)))
    .skip))
  (.seq pdq__r20
  (.seq pdq__r21
  (.seq pdq__r22
  (.seq pdq__r23
  (.seq pdq__r24
  (.cond (.slot 125)
    (.seq pdq__r25
    (.seq pdq__r26
    pdq__r27))
    (.seq pdq__r28
    (.seq pdq__r29
    pdq__r30)))))))))))))))))
abbrev pdq__c : NC :=
  (.seq pdq__r0
  (.seq pdq__r1
  (.block 0 (.loop [0, 1, 2, 3, 4, 10, 11] pdq__l0))))
abbrev pdq__F : FN := ⟨pdq__c, []⟩
theorem pdq__ok : compF Try.prog Try.f27 = some pdq__F := by kernel_rfl
/-! math/bits.Len -/
abbrev blen__r0 : NC := .reg
    (.out [(0, (.slot 0))])
    [0]
abbrev blen__r1 : NC := .reg
    (.q 1 (.conv .u32) [(.slot 0)] none
    (.x 2 (.call 37) [(.res 1)] none []
    (.out [(2, (.res 2))])))
    [0]
abbrev blen__r2 : NC := .reg
    (.x 1 (.call 38) [(.slot 0)] none []
    (.out [(2, (.res 1))]))
    [0]
abbrev blen__c : NC :=
  (.seq blen__r0
  (.seq (.cond (.const (.bool false))
    (.seq blen__r1
    .ret)
    .skip)
  (.seq blen__r2
  .ret)))
abbrev blen__F : FN := ⟨blen__c, [.slot 2]⟩
theorem blen__ok : compF Try.prog Try.f28 = some blen__F := by kernel_rfl
/-! slices.insertionSortCmpFunc[concord/api.Inst] -/
abbrev ins__r0 : NC := .reg
    (.q 1 (.iar .add) [(.slot 1), (.const (.int .i64 1))] none
    (.out [(0, (.slot 0)), (1, (.slot 1)), (2, (.slot 2)), (3, (.slot 3)), (8, (.res 1))]))
    [0, 1, 2, 3]
abbrev ins__r1 : NC := .reg
    (.q 2 (.icm .lss) [(.slot 8), (.slot 2)] none
    (.out [(0, (.slot 0)), (1, (.slot 1)), (2, (.slot 2)), (3, (.slot 3)), (8, (.slot 8)), (14, (.res 2))]))
    [0, 1, 2, 3, 8]
abbrev ins__r2 : NC := .reg
    (.out [(0, (.slot 0)), (1, (.slot 1)), (2, (.slot 2)), (3, (.slot 3)), (8, (.slot 8)), (9, (.slot 8))])
    [0, 1, 2, 3, 8]
abbrev ins__r3 : NC := .reg
    (.q 2 (.icm .gtr) [(.slot 9), (.slot 1)] none
    (.q 4 .mv [(.slot 3)] (some ((.res 2), true))
    (.q 5 .mv [(.slot 0)] (some ((.res 2), true))
    (.q 6 .mv [(.slot 9)] (some ((.res 2), true))
    (.q 7 (.ixs 2) [(.res 5), (.res 6)] (some ((.res 2), true))
    (.q 8 (.lda 2) [(.res 7)] (some ((.res 2), true))
    (.q 9 .mv [(.slot 0)] (some ((.res 2), true))
    (.q 10 .mv [(.slot 9)] (some ((.res 2), true))
    (.q 11 (.iar .sub) [(.res 10), (.const (.int .i64 1))] (some ((.res 2), true))
    (.q 12 (.ixs 2) [(.res 9), (.res 11)] (some ((.res 2), true))
    (.q 13 (.lda 2) [(.res 12)] (some ((.res 2), true))
    (.x 14 .callv [(.res 4), (.res 8), (.res 13)] (some ((.res 2), true)) []
    (.q 15 (.icm .lss) [(.res 14), (.const (.int .i64 0))] (some ((.res 2), true))
    (.q 16 .pick [(.res 2), (.res 15), (.const (.bool false))] none
    (.out [(0, (.slot 0)), (1, (.slot 1)), (2, (.slot 2)), (3, (.slot 3)), (8, (.slot 8)), (9, (.slot 9)), (34, (.res 16))])))))))))))))))
    [0, 1, 2, 3, 8, 9]
abbrev ins__r4 : NC := .reg
    (.q 4 (.iar .sub) [(.slot 9), (.const (.int .i64 1))] none
    (.q 7 (.iar .sub) [(.slot 9), (.const (.int .i64 1))] none
    (.q 8 (.ixs 2) [(.slot 0), (.res 7)] none
    (.q 9 (.lda 2) [(.res 8)] none
    (.q 12 (.ixs 2) [(.slot 0), (.slot 9)] none
    (.q 13 (.lda 2) [(.res 12)] none
    (.q 14 (.ixs 2) [(.slot 0), (.slot 9)] none
    (.x 15 (.st 2) [(.res 14), (.res 9)] none []
    (.q 16 (.ixs 2) [(.slot 0), (.res 4)] none
    (.x 17 (.st 2) [(.res 16), (.res 13)] none []
    (.out [(0, (.slot 0)), (1, (.slot 1)), (2, (.slot 2)), (3, (.slot 3)), (8, (.slot 8)), (9, (.slot 9))])))))))))))
    [0, 1, 2, 3, 8, 9]
abbrev ins__r5 : NC := .reg
    (.q 1 (.iar .sub) [(.slot 9), (.const (.int .i64 1))] none
    (.out [(0, (.slot 0)), (1, (.slot 1)), (2, (.slot 2)), (3, (.slot 3)), (8, (.slot 8)), (9, (.res 1))]))
    [0, 1, 2, 3, 8, 9]
abbrev ins__l0 : NC :=
  (.seq (.seq ins__r3
  (.cond (.slot 34)
    .skip
    (.exit 2)))
  (.seq (.block 3 ins__r4)
  ins__r5))
abbrev ins__r6 : NC := .reg
    (.q 1 (.iar .add) [(.slot 8), (.const (.int .i64 1))] none
    (.out [(0, (.slot 0)), (1, (.slot 1)), (2, (.slot 2)), (3, (.slot 3)), (8, (.res 1))]))
    [0, 1, 2, 3, 8]
abbrev ins__l1 : NC :=
  (.seq (.seq ins__r1
  (.cond (.slot 14)
    .skip
    (.exit 0)))
  (.seq (.block 1 (.seq ins__r2
  (.block 2 (.loop [0, 1, 2, 3, 8, 9] ins__l0))))
  ins__r6))
abbrev ins__c : NC :=
  (.seq ins__r0
  (.block 0 (.loop [0, 1, 2, 3, 8] ins__l1)))
abbrev ins__F : FN := ⟨ins__c, []⟩
theorem ins__ok : compF Try.prog Try.f29 = some ins__F := by kernel_rfl
/-! math/bits.Len64 -/
abbrev blen64__r0 : NC := .reg
    (.out [(0, (.slot 0)), (2, (.const (.int .i64 0)))])
    [0]
abbrev blen64__r1 : NC := .reg
    (.q 1 (.icm .geq) [(.slot 0), (.const (.int .u64 4294967296))] none
    (.out [(0, (.slot 0)), (2, (.slot 2)), (4, (.res 1))]))
    [0, 2]
abbrev blen64__r2 : NC := .reg
    (.q 1 (.ish .shr) [(.slot 0), (.const (.int .u64 32))] none
    (.out [(0, (.res 1))]))
    [0]
abbrev blen64__r3 : NC := .reg
    (.out [(0, (.slot 0)), (2, (.const (.int .i64 32)))])
    [0]
abbrev blen64__r4 : NC := .reg
    (.q 1 (.icm .geq) [(.slot 0), (.const (.int .u64 65536))] none
    (.out [(0, (.slot 0)), (2, (.slot 2)), (8, (.res 1))]))
    [0, 2]
abbrev blen64__r5 : NC := .reg
    (.q 1 (.ish .shr) [(.slot 0), (.const (.int .u64 16))] none
    (.out [(0, (.res 1)), (2, (.slot 2))]))
    [0, 2]
abbrev blen64__r6 : NC := .reg
    (.q 1 (.iar .add) [(.slot 2), (.const (.int .i64 16))] none
    (.out [(0, (.slot 0)), (2, (.res 1))]))
    [0, 2]
abbrev blen64__r7 : NC := .reg
    (.q 1 (.icm .geq) [(.slot 0), (.const (.int .u64 256))] none
    (.out [(0, (.slot 0)), (2, (.slot 2)), (14, (.res 1))]))
    [0, 2]
abbrev blen64__r8 : NC := .reg
    (.q 1 (.ish .shr) [(.slot 0), (.const (.int .u64 8))] none
    (.out [(0, (.res 1)), (2, (.slot 2))]))
    [0, 2]
abbrev blen64__r9 : NC := .reg
    (.q 1 (.iar .add) [(.slot 2), (.const (.int .i64 8))] none
    (.out [(0, (.slot 0)), (2, (.res 1))]))
    [0, 2]
abbrev blen64__r10 : NC := .reg
    (.q 2 (.conv .u8) [(.slot 0)] none
    (.q 3 .idxs [(.const (.string ⟨#[0, 1, 2, 2, 3, 3, 3, 3, 4, 4, 4, 4, 4, 4, 4, 4, 5, 5, 5, 5, 5, 5, 5, 5, 5, 5, 5, 5, 5, 5, 5, 5, 6, 6, 6, 6, 6, 6, 6, 6, 6, 6, 6, 6, 6, 6, 6, 6, 6, 6, 6, 6, 6, 6, 6, 6, 6, 6, 6, 6, 6, 6, 6, 6, 7, 7, 7, 7, 7, 7, 7, 7, 7, 7, 7, 7, 7, 7, 7, 7, 7, 7, 7, 7, 7, 7, 7, 7, 7, 7, 7, 7, 7, 7, 7, 7, 7, 7, 7, 7, 7, 7, 7, 7, 7, 7, 7, 7, 7, 7, 7, 7, 7, 7, 7, 7, 7, 7, 7, 7, 7, 7, 7, 7, 7, 7, 7, 7, 8, 8, 8, 8, 8, 8, 8, 8, 8, 8, 8, 8, 8, 8, 8, 8, 8, 8, 8, 8, 8, 8, 8, 8, 8, 8, 8, 8, 8, 8, 8, 8, 8, 8, 8, 8, 8, 8, 8, 8, 8, 8, 8, 8, 8, 8, 8, 8, 8, 8, 8, 8, 8, 8, 8, 8, 8, 8, 8, 8, 8, 8, 8, 8, 8, 8, 8, 8, 8, 8, 8, 8, 8, 8, 8, 8, 8, 8, 8, 8, 8, 8, 8, 8, 8, 8, 8, 8, 8, 8, 8, 8, 8, 8, 8, 8, 8, 8, 8, 8, 8, 8, 8, 8, 8, 8, 8, 8, 8, 8, 8, 8, 8, 8, 8, 8, 8, 8, 8, 8, 8, 8, 8, 8, 8, 8, 8, 8]⟩)), (.res 2)] none
    (.q 4 (.conv .i64) [(.res 3)] none
    (.q 5 (.iar .add) [(.slot 2), (.res 4)] none
    (.out [(2, (.res 5))])))))
    [0, 2]
abbrev blen64__c : NC :=
  (.seq blen64__r0
  (.seq (.seq blen64__r1
  (.cond (.slot 4)
    (.seq blen64__r2
    blen64__r3)
    .skip))
  (.seq (.seq blen64__r4
  (.cond (.slot 8)
    (.seq blen64__r5
    blen64__r6)
    .skip))
  (.seq (.seq blen64__r7
  (.cond (.slot 14)
    (.seq blen64__r8
    blen64__r9)
    .skip))
  (.seq blen64__r10
  .ret)))))
abbrev blen64__F : FN := ⟨blen64__c, [.slot 2]⟩
theorem blen64__ok : compF Try.prog Try.f38 = some blen64__F := by kernel_rfl
end Go.Fw
