import Derived.Test.YtnpldldflbeogaaFwMem
import Derived.Test.YtnpldldflbeogaaProg
namespace Go.Fw
open Go.Proofs
/-! concord/concordlaw19.GraphRuns -/
abbrev runs_r0 : NC := .reg
    (.out [])
    []
abbrev runs_r1 : NC := .reg
    (.x 0 (.bsl 3 1 [(.int .i64 0)] [(0, 1)]) [(.const (.int .i64 1))] none []
    (.x 1 (.bsl 3 1 [(.int .i64 0)] [(0, 1)]) [(.const (.int .i64 2))] none []
    (.x 2 (.bsl 3 1 [(.int .i64 0)] [(0, 1)]) [(.const (.int .i64 1))] none []
    (.x 3 (.bsl 3 1 [(.int .i64 0)] [(0, 1)]) [(.const (.int .i64 0))] none []
    (.x 4 (.bsl 26 4 [(.slice none 0 0), (.slice none 0 0), (.slice none 0 0), (.slice none 0 0)] [(0, 1), (1, 1), (2, 1), (3, 1)]) [(.res 0), (.res 1), (.res 2), (.res 3)] none []
    (.x 5 (.call 9) [(.res 4)] none []
    (.q 7 (.ext 0) [(.res 5)] none
    (.q 8 (.ext 1) [(.res 5)] none
    (.out [(1, (.res 7)), (2, (.res 8))])))))))))
    []
abbrev runs_r2 : NC := .reg
    (.x 0 (.mks 26 24 [(.slice none 0 0)]) [(.const (.int .i64 3)), (.const (.int .i64 3))] none []
    (.x 1 (.call 9) [(.res 0)] none []
    (.q 3 (.ext 0) [(.res 1)] none
    (.q 4 (.ext 1) [(.res 1)] none
    (.out [(1, (.slot 1)), (2, (.slot 2)), (3, (.res 3)), (4, (.res 4))])))))
    [1, 2]
abbrev runs_r3 : NC := .reg
    (.x 0 (.mks 26 24 [(.slice none 0 0)]) [(.const (.int .i64 513)), (.const (.int .i64 513))] none []
    (.x 1 (.call 9) [(.res 0)] none []
    (.q 3 (.ext 0) [(.res 1)] none
    (.q 4 (.ext 1) [(.res 1)] none
    (.out [(1, (.slot 1)), (2, (.slot 2)), (3, (.slot 3)), (4, (.slot 4)), (6, (.res 4))])))))
    [1, 2, 3, 4]
abbrev runs_r4 : NC := .reg
    (.q 1 (.icm .eql) [(.slot 2), (.const (.int .i64 0))] none
    (.q 3 .mv [(.slot 4)] (some ((.res 1), true))
    (.q 4 (.icm .eql) [(.res 3), (.const (.int .i64 0))] (some ((.res 1), true))
    (.q 5 .pick [(.res 1), (.res 4), (.const (.bool false))] none
    (.q 7 .mv [(.slot 6)] (some ((.res 5), true))
    (.q 8 (.icm .eql) [(.res 7), (.const (.int .i64 2))] (some ((.res 5), true))
    (.q 9 .pick [(.res 5), (.res 8), (.const (.bool false))] none
    (.q 11 .mv [(.slot 1)] (some ((.res 9), true))
    (.x 12 (.bsl 3 2 [(.int .i64 0), (.int .i64 0)] [(0, 1), (1, 1)]) [(.const (.int .i64 1)), (.const (.int .i64 2))] (some ((.res 9), true)) []
    (.x 13 (.bsl 3 1 [(.int .i64 0)] [(0, 1)]) [(.const (.int .i64 0))] (some ((.res 9), true)) []
    (.x 14 (.bsl 3 1 [(.int .i64 0)] [(0, 1)]) [(.const (.int .i64 3))] (some ((.res 9), true)) []
    (.x 15 (.bsl 26 3 [(.slice none 0 0), (.slice none 0 0), (.slice none 0 0)] [(0, 1), (1, 1), (2, 1)]) [(.res 12), (.res 13), (.res 14)] (some ((.res 9), true)) []
    (.x 16 (.call 10) [(.res 11), (.res 15)] (some ((.res 9), true)) []
    (.q 17 .pick [(.res 9), (.res 16), (.const (.bool false))] none
    (.q 19 .mv [(.slot 3)] (some ((.res 17), true))
    (.x 20 (.bsl 3 1 [(.int .i64 0)] [(0, 1)]) [(.const (.int .i64 0))] (some ((.res 17), true)) []
    (.x 21 (.bsl 3 1 [(.int .i64 0)] [(0, 1)]) [(.const (.int .i64 1))] (some ((.res 17), true)) []
    (.x 22 (.bsl 3 1 [(.int .i64 0)] [(0, 1)]) [(.const (.int .i64 2))] (some ((.res 17), true)) []
    (.x 23 (.bsl 26 3 [(.slice none 0 0), (.slice none 0 0), (.slice none 0 0)] [(0, 1), (1, 1), (2, 1)]) [(.res 20), (.res 21), (.res 22)] (some ((.res 17), true)) []
    (.x 24 (.call 10) [(.res 19), (.res 23)] (some ((.res 17), true)) []
    (.q 25 .pick [(.res 17), (.res 24), (.const (.bool false))] none
    (.out [(0, (.res 25))]))))))))))))))))))))))
    [1, 2, 3, 4, 6]
abbrev runs_c : NC :=
  (.seq runs_r0
  (.seq runs_r1
  (.seq runs_r2
  (.seq runs_r3
  (.seq runs_r4
  .ret)))))
abbrev runs_F : FN := ⟨runs_c, [.slot 0]⟩
theorem runs_ok : compF Try.prog Try.f3 = some runs_F := by kernel_rfl
/-! concord/concordlaw19.GraphTells -/
abbrev tells_r0 : NC := .reg
    (.out [(0, (.slot 0))])
    [0]
abbrev tells_r1 : NC := .reg
    (.x 1 (.call 11) [(.slot 0)] none []
    (.out [(3, (.res 1))]))
    [0]
abbrev tells_r2 : NC := .reg
    (.out [(3, (.slot 3)), (4, (.const (.slice none 0 0)))])
    [3]
abbrev tells_r3 : NC := .reg
    (.out [(3, (.slot 3)), (4, (.slot 4)), (5, (.const (.slice none 0 0)))])
    [3, 4]
abbrev tells_r4 : NC := .reg
    (.out [(3, (.slot 3)), (4, (.slot 4)), (5, (.slot 5)), (6, (.const (.int .i64 0)))])
    [3, 4, 5]
abbrev tells_r5 : NC := .reg
    (.q 2 .len [(.slot 3)] none
    (.q 3 (.icm .lss) [(.slot 6), (.res 2)] none
    (.out [(3, (.slot 3)), (4, (.slot 4)), (5, (.slot 5)), (6, (.slot 6)), (16, (.res 3))])))
    [3, 4, 5, 6]
abbrev tells_r6 : NC := .reg
    (.q 2 (.ixs 1) [(.slot 3), (.slot 6)] none
    (.q 3 .ld [(.res 2)] none
    (.x 4 (.call 12) [(.res 3), (.const (.int .i64 (-7)))] none []
    (.out [(3, (.slot 3)), (4, (.slot 4)), (5, (.slot 5)), (6, (.slot 6)), (7, (.res 4))]))))
    [3, 4, 5, 6]
abbrev tells_r7 : NC := .reg
    (.q 8 (.ixs 1) [(.slot 3), (.slot 6)] none
    (.q 9 .ld [(.res 8)] none
    (.q 10 .len [(.res 9)] none
    (.q 11 (.slc 1 false true) [(.slot 7), (.res 10)] none
    (.both
    (.x 2 (.bsl 26 1 [(.slice none 0 0)] [(0, 1)]) [(.slot 7)] none [(9, .ld, [(.res 8)], none)]
    (.both
    (.x 3 (.app 26 1 24 [(.slice none 0 0)]) [(.slot 4), (.res 2)] none [(9, .ld, [(.res 8)], none)]
    (.x 12 (.bsl 26 1 [(.slice none 0 0)] [(0, 1)]) [(.res 11)] none []
    (.x 13 (.app 26 1 24 [(.slice none 0 0)]) [(.slot 5), (.res 12)] none []
    (.out [(3, (.slot 3)), (4, (.res 3)), (5, (.res 13)), (6, (.slot 6))]))))
    (.x 12 (.bsl 26 1 [(.slice none 0 0)] [(0, 1)]) [(.res 11)] none []
    (.x 3 (.app 26 1 24 [(.slice none 0 0)]) [(.slot 4), (.res 2)] none [(9, .ld, [(.res 8)], none)]
    (.x 13 (.app 26 1 24 [(.slice none 0 0)]) [(.slot 5), (.res 12)] none []
    (.out [(3, (.slot 3)), (4, (.res 3)), (5, (.res 13)), (6, (.slot 6))]))))))
    (.x 12 (.bsl 26 1 [(.slice none 0 0)] [(0, 1)]) [(.res 11)] none []
    (.x 2 (.bsl 26 1 [(.slice none 0 0)] [(0, 1)]) [(.slot 7)] none [(9, .ld, [(.res 8)], none)]
    (.x 3 (.app 26 1 24 [(.slice none 0 0)]) [(.slot 4), (.res 2)] none [(9, .ld, [(.res 8)], none)]
    (.x 13 (.app 26 1 24 [(.slice none 0 0)]) [(.slot 5), (.res 12)] none []
    (.out [(3, (.slot 3)), (4, (.res 3)), (5, (.res 13)), (6, (.slot 6))]))))))))))
    [3, 4, 5, 6, 7]
abbrev tells_r8 : NC := .reg
    (.q 1 (.iar .add) [(.slot 6), (.const (.int .i64 1))] none
    (.out [(3, (.slot 3)), (4, (.slot 4)), (5, (.slot 5)), (6, (.res 1))]))
    [3, 4, 5, 6]
abbrev tells_l0 : NC :=
  (.seq (.seq tells_r5
  (.cond (.slot 16)
    .skip
    (.exit 0)))
  (.seq (.block 1 (.seq tells_r6
  tells_r7))
  tells_r8))
abbrev tells_r9 : NC := .reg
    (.x 1 (.call 9) [(.slot 5)] none []
    (.q 3 (.ext 0) [(.res 1)] none
    (.q 4 (.ext 1) [(.res 1)] none
    (.out [(3, (.slot 3)), (4, (.slot 4)), (8, (.res 3)), (9, (.res 4))]))))
    [3, 4, 5]
abbrev tells_r10 : NC := .reg
    (.out [(3, (.slot 3)), (4, (.slot 4)), (8, (.slot 8)), (9, (.slot 9)), (10, (.const (.int .i64 0)))])
    [3, 4, 8, 9]
abbrev tells_r11 : NC := .reg
    (.q 2 .len [(.slot 3)] none
    (.q 3 (.icm .lss) [(.slot 10), (.res 2)] none
    (.out [(3, (.slot 3)), (4, (.slot 4)), (8, (.slot 8)), (9, (.slot 9)), (10, (.slot 10)), (46, (.res 3))])))
    [3, 4, 8, 9, 10]
abbrev tells_r12 : NC := .reg
    (.q 2 (.ixs 1) [(.slot 4), (.slot 10)] none
    (.q 3 .ld [(.res 2)] none
    (.q 6 (.ixs 1) [(.slot 3), (.slot 10)] none
    (.q 7 .ld [(.res 6)] none
    (.x 8 (.call 13) [(.res 3), (.res 7), (.const (.int .i64 (-7)))] none []
    (.q 9 .not [(.res 8)] none
    (.out [(3, (.slot 3)), (4, (.slot 4)), (8, (.slot 8)), (9, (.slot 9)), (10, (.slot 10)), (58, (.res 9))])))))))
    [3, 4, 8, 9, 10]
abbrev tells_r13 : NC := .reg
    (.out [(2, (.const (.bool false)))])
    []
abbrev tells_r14 : NC := .reg
    (.q 1 (.iar .add) [(.slot 10), (.const (.int .i64 1))] none
    (.out [(3, (.slot 3)), (4, (.slot 4)), (8, (.slot 8)), (9, (.slot 9)), (10, (.res 1))]))
    [3, 4, 8, 9, 10]
abbrev tells_l1 : NC :=
  (.seq (.seq tells_r11
  (.cond (.slot 46)
    .skip
    (.exit 2)))
  (.seq (.block 3 (.seq tells_r12
  (.cond (.slot 58)
    (.seq tells_r13
    .ret)
    .skip)))
  tells_r14))
abbrev tells_r15 : NC := .reg
    (.q 1 (.icm .eql) [(.slot 9), (.const (.int .i64 0))] none
    (.q 3 .mv [(.slot 8)] (some ((.res 1), true))
    (.q 4 .mv [(.slot 3)] (some ((.res 1), true))
    (.x 5 (.call 14) [(.res 4)] (some ((.res 1), true)) []
    (.x 6 (.call 10) [(.res 3), (.res 5)] (some ((.res 1), true)) []
    (.q 7 .pick [(.res 1), (.res 6), (.const (.bool false))] none
    (.x 9 (.call 3) [] (some ((.res 7), true)) []
    (.q 10 .pick [(.res 7), (.res 9), (.const (.bool false))] none
    (.out [(2, (.res 10))])))))))))
    [3, 8, 9]
abbrev tells_c : NC :=
  (.seq tells_r0
  (.seq tells_r1
  (.seq tells_r2
  (.seq tells_r3
  (.seq (.seq tells_r4
  (.block 0 (.loop [3, 4, 5, 6] tells_l0)))
  (.seq tells_r9
  (.seq (.seq tells_r10
  (.block 2 (.loop [3, 4, 8, 9, 10] tells_l1)))
  (.seq tells_r15
  .ret))))))))
abbrev tells_F : FN := ⟨tells_c, [.slot 2]⟩
theorem tells_ok : compF Try.prog Try.f4 = some tells_F := by kernel_rfl
/-! concord/concordlaw19.GraphOrder -/
abbrev order_law_r0 : NC := .reg
    (.out [(0, (.slot 0))])
    [0]
abbrev order_law_r1 : NC := .reg
    (.x 1 (.call 11) [(.slot 0)] none []
    (.out [(3, (.res 1))]))
    [0]
abbrev order_law_r2 : NC := .reg
    (.x 1 (.call 9) [(.slot 3)] none []
    (.q 3 (.ext 0) [(.res 1)] none
    (.q 4 (.ext 1) [(.res 1)] none
    (.out [(3, (.slot 3)), (4, (.res 3)), (5, (.res 4))]))))
    [3]
abbrev order_law_r3 : NC := .reg
    (.q 1 .len [(.slot 3)] none
    (.x 2 (.mks 3 8 [(.int .i64 0)]) [(.res 1), (.res 1)] none []
    (.out [(3, (.slot 3)), (4, (.slot 4)), (5, (.slot 5)), (6, (.res 2))])))
    [3, 4, 5]
abbrev order_law_r4 : NC := .reg
    (.out [(3, (.slot 3)), (4, (.slot 4)), (5, (.slot 5)), (6, (.slot 6)), (7, (.const (.int .i64 0)))])
    [3, 4, 5, 6]
abbrev order_law_r5 : NC := .reg
    (.q 2 .len [(.slot 6)] none
    (.q 3 (.icm .lss) [(.slot 7), (.res 2)] none
    (.out [(3, (.slot 3)), (4, (.slot 4)), (5, (.slot 5)), (6, (.slot 6)), (7, (.slot 7)), (27, (.res 3))])))
    [3, 4, 5, 6, 7]
abbrev order_law_r6 : NC := .reg
    (.q 2 (.ixs 1) [(.slot 6), (.slot 7)] none
    (.x 3 (.st 1) [(.res 2), (.const (.int .i64 (-1)))] none []
    (.out [(3, (.slot 3)), (4, (.slot 4)), (5, (.slot 5)), (6, (.slot 6)), (7, (.slot 7))])))
    [3, 4, 5, 6, 7]
abbrev order_law_r7 : NC := .reg
    (.q 1 (.iar .add) [(.slot 7), (.const (.int .i64 1))] none
    (.out [(3, (.slot 3)), (4, (.slot 4)), (5, (.slot 5)), (6, (.slot 6)), (7, (.res 1))]))
    [3, 4, 5, 6, 7]
abbrev order_law_l0 : NC :=
  (.seq (.seq order_law_r5
  (.cond (.slot 27)
    .skip
    (.exit 0)))
  (.seq (.block 1 order_law_r6)
  order_law_r7))
abbrev order_law_r8 : NC := .reg
    (.out [(3, (.slot 3)), (4, (.slot 4)), (5, (.slot 5)), (6, (.slot 6)), (8, (.const (.int .i64 0)))])
    [3, 4, 5, 6]
abbrev order_law_r9 : NC := .reg
    (.q 2 .len [(.slot 4)] none
    (.q 3 (.icm .lss) [(.slot 8), (.res 2)] none
    (.out [(3, (.slot 3)), (4, (.slot 4)), (5, (.slot 5)), (6, (.slot 6)), (8, (.slot 8)), (36, (.res 3))])))
    [3, 4, 5, 6, 8]
abbrev order_law_r10 : NC := .reg
    (.out [(3, (.slot 3)), (4, (.slot 4)), (5, (.slot 5)), (6, (.slot 6)), (8, (.slot 8)), (9, (.const (.int .i64 0)))])
    [3, 4, 5, 6, 8]
abbrev order_law_r11 : NC := .reg
    (.q 3 (.ixs 1) [(.slot 4), (.slot 8)] none
    (.q 4 .ld [(.res 3)] none
    (.q 5 .len [(.res 4)] none
    (.q 6 (.icm .lss) [(.slot 9), (.res 5)] none
    (.out [(3, (.slot 3)), (4, (.slot 4)), (5, (.slot 5)), (6, (.slot 6)), (8, (.slot 8)), (9, (.slot 9)), (45, (.res 6))])))))
    [3, 4, 5, 6, 8, 9]
abbrev order_law_r12 : NC := .reg
    (.q 2 (.ixs 1) [(.slot 4), (.slot 8)] none
    (.q 3 .ld [(.res 2)] none
    (.q 5 (.ixs 1) [(.res 3), (.slot 9)] none
    (.q 6 .ld [(.res 5)] none
    (.out [(3, (.slot 3)), (4, (.slot 4)), (5, (.slot 5)), (6, (.slot 6)), (8, (.slot 8)), (9, (.slot 9)), (10, (.res 6))])))))
    [3, 4, 5, 6, 8, 9]
abbrev order_law_r13 : NC := .reg
    (.q 1 (.icm .lss) [(.slot 10), (.const (.int .i64 0))] none
    (.q 3 .mv [(.slot 10)] (some ((.res 1), false))
    (.q 4 .mv [(.slot 6)] (some ((.res 1), false))
    (.q 5 .len [(.res 4)] (some ((.res 1), false))
    (.q 6 (.icm .geq) [(.res 3), (.res 5)] (some ((.res 1), false))
    (.q 7 .pick [(.res 1), (.const (.bool true)), (.res 6)] none
    (.q 9 .mv [(.slot 6)] (some ((.res 7), false))
    (.q 10 .mv [(.slot 10)] (some ((.res 7), false))
    (.q 11 (.ixs 1) [(.res 9), (.res 10)] (some ((.res 7), false))
    (.q 12 .ld [(.res 11)] (some ((.res 7), false))
    (.q 13 (.icm .geq) [(.res 12), (.const (.int .i64 0))] (some ((.res 7), false))
    (.q 14 .pick [(.res 7), (.const (.bool true)), (.res 13)] none
    (.q 16 .mv [(.slot 9)] (some ((.res 14), false))
    (.q 17 (.icm .gtr) [(.res 16), (.const (.int .i64 0))] (some ((.res 14), false))
    (.q 18 .mv [(.res 17)] (some ((.res 14), false))
    (.q 19 .mv [(.slot 4)] (some ((.res 18), true))
    (.q 20 .mv [(.slot 8)] (some ((.res 18), true))
    (.q 21 (.ixs 1) [(.res 19), (.res 20)] (some ((.res 18), true))
    (.q 22 .ld [(.res 21)] (some ((.res 18), true))
    (.q 23 .mv [(.slot 9)] (some ((.res 18), true))
    (.q 24 (.iar .sub) [(.res 23), (.const (.int .i64 1))] (some ((.res 18), true))
    (.q 25 (.ixs 1) [(.res 22), (.res 24)] (some ((.res 18), true))
    (.q 26 .ld [(.res 25)] (some ((.res 18), true))
    (.q 27 .mv [(.slot 10)] (some ((.res 18), true))
    (.q 28 (.icm .geq) [(.res 26), (.res 27)] (some ((.res 18), true))
    (.q 29 .pick [(.res 18), (.res 28), (.const (.bool false))] (some ((.res 14), false))
    (.q 30 .pick [(.res 14), (.const (.bool true)), (.res 29)] none
    (.out [(3, (.slot 3)), (4, (.slot 4)), (5, (.slot 5)), (6, (.slot 6)), (8, (.slot 8)), (9, (.slot 9)), (10, (.slot 10)), (85, (.res 30))]))))))))))))))))))))))))))))
    [3, 4, 5, 6, 8, 9, 10]
abbrev order_law_r14 : NC := .reg
    (.out [(2, (.const (.bool false)))])
    []
abbrev order_law_r15 : NC := .reg
    (.q 3 (.ixs 1) [(.slot 6), (.slot 10)] none
    (.x 4 (.st 1) [(.res 3), (.slot 8)] none []
    (.out [(3, (.slot 3)), (4, (.slot 4)), (5, (.slot 5)), (6, (.slot 6)), (8, (.slot 8)), (9, (.slot 9))])))
    [3, 4, 5, 6, 8, 9, 10]
abbrev order_law_r16 : NC := .reg
    (.q 1 (.iar .add) [(.slot 9), (.const (.int .i64 1))] none
    (.out [(3, (.slot 3)), (4, (.slot 4)), (5, (.slot 5)), (6, (.slot 6)), (8, (.slot 8)), (9, (.res 1))]))
    [3, 4, 5, 6, 8, 9]
abbrev order_law_l1 : NC :=
  (.seq (.seq order_law_r11
  (.cond (.slot 45)
    .skip
    (.exit 4)))
  (.seq (.block 5 (.seq order_law_r12
  (.seq (.seq order_law_r13
  (.cond (.slot 85)
    (.seq order_law_r14
    .ret)
    .skip))
  order_law_r15)))
  order_law_r16))
abbrev order_law_r17 : NC := .reg
    (.q 1 (.iar .add) [(.slot 8), (.const (.int .i64 1))] none
    (.out [(3, (.slot 3)), (4, (.slot 4)), (5, (.slot 5)), (6, (.slot 6)), (8, (.res 1))]))
    [3, 4, 5, 6, 8]
abbrev order_law_l2 : NC :=
  (.seq (.seq order_law_r9
  (.cond (.slot 36)
    .skip
    (.exit 2)))
  (.seq (.block 3 (.seq order_law_r10
  (.block 4 (.loop [3, 4, 5, 6, 8, 9] order_law_l1))))
  order_law_r17))
abbrev order_law_r18 : NC := .reg
    (.out [(3, (.slot 3)), (5, (.slot 5)), (6, (.slot 6)), (11, (.const (.int .i64 0)))])
    [3, 5, 6]
abbrev order_law_r19 : NC := .reg
    (.q 2 .len [(.slot 3)] none
    (.q 3 (.icm .lss) [(.slot 11), (.res 2)] none
    (.out [(3, (.slot 3)), (5, (.slot 5)), (6, (.slot 6)), (11, (.slot 11)), (93, (.res 3))])))
    [3, 5, 6, 11]
abbrev order_law_r20 : NC := .reg
    (.q 2 (.ixs 1) [(.slot 6), (.slot 11)] none
    (.q 3 .ld [(.res 2)] none
    (.q 4 (.icm .lss) [(.res 3), (.const (.int .i64 0))] none
    (.out [(3, (.slot 3)), (5, (.slot 5)), (6, (.slot 6)), (11, (.slot 11)), (100, (.res 4))]))))
    [3, 5, 6, 11]
abbrev order_law_r21 : NC := .reg
    (.out [(2, (.const (.bool false)))])
    []
abbrev order_law_r22 : NC := .reg
    (.out [(3, (.slot 3)), (5, (.slot 5)), (6, (.slot 6)), (11, (.slot 11)), (12, (.const (.int .i64 0)))])
    [3, 5, 6, 11]
abbrev order_law_r23 : NC := .reg
    (.q 3 (.ixs 1) [(.slot 3), (.slot 11)] none
    (.q 4 .ld [(.res 3)] none
    (.q 5 .len [(.res 4)] none
    (.q 6 (.icm .lss) [(.slot 12), (.res 5)] none
    (.out [(3, (.slot 3)), (5, (.slot 5)), (6, (.slot 6)), (11, (.slot 11)), (12, (.slot 12)), (107, (.res 6))])))))
    [3, 5, 6, 11, 12]
abbrev order_law_r24 : NC := .reg
    (.q 2 (.ixs 1) [(.slot 3), (.slot 11)] none
    (.q 3 .ld [(.res 2)] none
    (.q 5 (.ixs 1) [(.res 3), (.slot 12)] none
    (.q 6 .ld [(.res 5)] none
    (.out [(3, (.slot 3)), (5, (.slot 5)), (6, (.slot 6)), (11, (.slot 11)), (12, (.slot 12)), (13, (.res 6))])))))
    [3, 5, 6, 11, 12]
abbrev order_law_r25 : NC := .reg
    (.q 1 (.icm .lss) [(.slot 13), (.const (.int .i64 0))] none
    (.q 3 .mv [(.slot 13)] (some ((.res 1), false))
    (.q 4 .mv [(.slot 3)] (some ((.res 1), false))
    (.q 5 .len [(.res 4)] (some ((.res 1), false))
    (.q 6 (.icm .geq) [(.res 3), (.res 5)] (some ((.res 1), false))
    (.q 7 .pick [(.res 1), (.const (.bool true)), (.res 6)] none
    (.out [(3, (.slot 3)), (5, (.slot 5)), (6, (.slot 6)), (11, (.slot 11)), (12, (.slot 12)), (13, (.slot 13)), (124, (.res 7))])))))))
    [3, 5, 6, 11, 12, 13]
abbrev order_law_r26 : NC := .reg
    (.q 2 (.ixs 1) [(.slot 6), (.slot 13)] none
    (.q 3 .ld [(.res 2)] none
    (.q 6 (.ixs 1) [(.slot 6), (.slot 11)] none
    (.q 7 .ld [(.res 6)] none
    (.q 8 (.icm .gtr) [(.res 3), (.res 7)] none
    (.q 10 .mv [(.slot 6)] (some ((.res 8), false))
    (.q 11 .mv [(.slot 13)] (some ((.res 8), false))
    (.q 12 (.ixs 1) [(.res 10), (.res 11)] (some ((.res 8), false))
    (.q 13 .ld [(.res 12)] (some ((.res 8), false))
    (.q 14 .mv [(.slot 6)] (some ((.res 8), false))
    (.q 15 .mv [(.slot 11)] (some ((.res 8), false))
    (.q 16 (.ixs 1) [(.res 14), (.res 15)] (some ((.res 8), false))
    (.q 17 .ld [(.res 16)] (some ((.res 8), false))
    (.q 18 (.icm .eql) [(.res 13), (.res 17)] (some ((.res 8), false))
    (.q 19 .mv [(.slot 3)] (some ((.res 8), false))
    (.q 20 .mv [(.slot 13)] (some ((.res 8), false))
    (.q 21 .mv [(.slot 11)] (some ((.res 8), false))
    (.x 22 (.call 15) [(.res 19), (.res 20), (.res 21)] (some ((.res 8), false)) [(13, .ld, [(.res 12)], (some ((.res 8), false))), (17, .ld, [(.res 16)], (some ((.res 8), false)))]
    (.q 23 (.beq true) [(.res 18), (.res 22)] (some ((.res 8), false))
    (.q 24 .pick [(.res 8), (.const (.bool true)), (.res 23)] none
    (.out [(3, (.slot 3)), (5, (.slot 5)), (6, (.slot 6)), (11, (.slot 11)), (12, (.slot 12)), (149, (.res 24))])))))))))))))))))))))
    [3, 5, 6, 11, 12, 13]
abbrev order_law_r27 : NC := .reg
    (.out [(2, (.const (.bool false)))])
    []
abbrev order_law_r28 : NC := .reg
    (.q 1 (.iar .add) [(.slot 12), (.const (.int .i64 1))] none
    (.out [(3, (.slot 3)), (5, (.slot 5)), (6, (.slot 6)), (11, (.slot 11)), (12, (.res 1))]))
    [3, 5, 6, 11, 12]
abbrev order_law_l3 : NC :=
  (.seq (.seq order_law_r23
  (.cond (.slot 107)
    .skip
    (.exit 8)))
  (.seq (.block 9 (.seq order_law_r24
  (.seq (.seq order_law_r25
  (.cond (.slot 124)
    (.exit 9)
    .skip))
  (.seq order_law_r26
  (.cond (.slot 149)
    (.seq order_law_r27
    .ret)
    .skip)))))
  order_law_r28))
abbrev order_law_r29 : NC := .reg
    (.q 1 (.iar .add) [(.slot 11), (.const (.int .i64 1))] none
    (.out [(3, (.slot 3)), (5, (.slot 5)), (6, (.slot 6)), (11, (.res 1))]))
    [3, 5, 6, 11]
abbrev order_law_l4 : NC :=
  (.seq (.seq order_law_r19
  (.cond (.slot 93)
    .skip
    (.exit 6)))
  (.seq (.block 7 (.seq (.seq order_law_r20
  (.cond (.slot 100)
    (.seq order_law_r21
    .ret)
    .skip))
  (.seq order_law_r22
  (.block 8 (.loop [3, 5, 6, 11, 12] order_law_l3)))))
  order_law_r29))
abbrev order_law_r30 : NC := .reg
    (.q 1 (.icm .eql) [(.slot 5), (.const (.int .i64 0))] none
    (.x 3 (.call 3) [] (some ((.res 1), true)) []
    (.q 4 .pick [(.res 1), (.res 3), (.const (.bool false))] none
    (.out [(2, (.res 4))]))))
    [5]
abbrev order_law_c : NC :=
  (.seq order_law_r0
  (.seq order_law_r1
  (.seq order_law_r2
  (.seq order_law_r3
  (.seq (.seq order_law_r4
  (.block 0 (.loop [3, 4, 5, 6, 7] order_law_l0)))
  (.seq (.seq order_law_r8
  (.block 2 (.loop [3, 4, 5, 6, 8] order_law_l2)))
  (.seq (.seq order_law_r18
  (.block 6 (.loop [3, 5, 6, 11] order_law_l4)))
  (.seq order_law_r30
  .ret))))))))
abbrev order_law_F : FN := ⟨order_law_c, [.slot 2]⟩
theorem order_law_ok : compF Try.prog Try.f5 = some order_law_F := by kernel_rfl
/-! concord/concordlaw19.GraphTurned -/
abbrev turned_r0 : NC := .reg
    (.out [(0, (.slot 0)), (1, (.slot 1))])
    [0, 1]
abbrev turned_r1 : NC := .reg
    (.x 1 (.call 11) [(.slot 0)] none []
    (.out [(1, (.slot 1)), (5, (.res 1))]))
    [0, 1]
abbrev turned_r2 : NC := .reg
    (.out [(1, (.slot 1)), (5, (.slot 5)), (6, (.const (.slice none 0 0)))])
    [1, 5]
abbrev turned_r3 : NC := .reg
    (.out [(1, (.slot 1)), (5, (.slot 5)), (6, (.slot 6)), (7, (.const (.int .i64 0)))])
    [1, 5, 6]
abbrev turned_r4 : NC := .reg
    (.q 2 .len [(.slot 5)] none
    (.q 3 (.icm .lss) [(.slot 7), (.res 2)] none
    (.out [(1, (.slot 1)), (5, (.slot 5)), (6, (.slot 6)), (7, (.slot 7)), (19, (.res 3))])))
    [1, 5, 6, 7]
abbrev turned_r5 : NC := .reg
    (.out [(1, (.slot 1)), (5, (.slot 5)), (6, (.slot 6)), (7, (.slot 7)), (8, (.const (.int .i64 0)))])
    [1, 5, 6, 7]
abbrev turned_r6 : NC := .reg
    (.q 2 (.ixs 1) [(.slot 5), (.slot 7)] none
    (.q 3 .ld [(.res 2)] none
    (.q 4 .len [(.res 3)] none
    (.q 5 (.icm .gtr) [(.res 4), (.const (.int .i64 0))] none
    (.out [(1, (.slot 1)), (5, (.slot 5)), (6, (.slot 6)), (7, (.slot 7)), (8, (.slot 8)), (27, (.res 5))])))))
    [1, 5, 6, 7, 8]
abbrev turned_r7 : NC := .reg
    (.q 3 (.ixs 1) [(.slot 5), (.slot 7)] none
    (.q 4 .ld [(.res 3)] none
    (.q 5 .len [(.res 4)] none
    (.x 6 (.call 16) [(.slot 1), (.const (.int .i64 0)), (.res 5)] none []
    (.out [(1, (.slot 1)), (5, (.slot 5)), (6, (.slot 6)), (7, (.slot 7)), (8, (.res 6))])))))
    [1, 5, 6, 7]
abbrev turned_r8 : NC := .reg
    (.q 3 (.ixs 1) [(.slot 5), (.slot 7)] none
    (.q 4 .ld [(.res 3)] none
    (.q 6 (.slc 1 true false) [(.res 4), (.slot 8)] none
    (.q 10 (.ixs 1) [(.slot 5), (.slot 7)] none
    (.q 11 .ld [(.res 10)] none
    (.x 0 (.bsl 3 0 [] []) [] none [(4, .ld, [(.res 3)], none), (11, .ld, [(.res 10)], none)]
    (.x 7 (.app 3 1 8 [(.int .i64 0)]) [(.res 0), (.res 6)] none [(11, .ld, [(.res 10)], none)]
    (.x 12 (.app 3 1 8 [(.int .i64 0)]) [(.res 7), (.res 11)] none []
    (.out [(1, (.slot 1)), (5, (.slot 5)), (6, (.slot 6)), (7, (.slot 7)), (9, (.res 12))])))))))))
    [1, 5, 6, 7, 8]
abbrev turned_r9 : NC := .reg
    (.x 2 (.bsl 26 1 [(.slice none 0 0)] [(0, 1)]) [(.slot 9)] none []
    (.x 3 (.app 26 1 24 [(.slice none 0 0)]) [(.slot 6), (.res 2)] none []
    (.out [(1, (.slot 1)), (5, (.slot 5)), (6, (.res 3)), (7, (.slot 7))])))
    [1, 5, 6, 7, 9]
abbrev turned_r10 : NC := .reg
    (.q 1 (.iar .add) [(.slot 7), (.const (.int .i64 1))] none
    (.out [(1, (.slot 1)), (5, (.slot 5)), (6, (.slot 6)), (7, (.res 1))]))
    [1, 5, 6, 7]
abbrev turned_l0 : NC :=
  (.seq (.seq turned_r4
  (.cond (.slot 19)
    .skip
    (.exit 0)))
  (.seq (.block 1 (.seq turned_r5
  (.seq (.seq turned_r6
  (.cond (.slot 27)
    turned_r7
    .skip))
  (.seq turned_r8
  turned_r9))))
  turned_r10))
abbrev turned_r11 : NC := .reg
    (.x 1 (.call 9) [(.slot 5)] none []
    (.q 3 (.ext 0) [(.res 1)] none
    (.q 4 (.ext 1) [(.res 1)] none
    (.out [(6, (.slot 6)), (10, (.res 3)), (11, (.res 4))]))))
    [5, 6]
abbrev turned_r12 : NC := .reg
    (.x 1 (.call 9) [(.slot 6)] none []
    (.q 3 (.ext 0) [(.res 1)] none
    (.q 4 (.ext 1) [(.res 1)] none
    (.out [(10, (.slot 10)), (11, (.slot 11)), (12, (.res 3)), (13, (.res 4))]))))
    [6, 10, 11]
abbrev turned_r13 : NC := .reg
    (.q 1 (.icm .eql) [(.slot 11), (.const (.int .i64 0))] none
    (.q 3 .mv [(.slot 13)] (some ((.res 1), true))
    (.q 4 (.icm .eql) [(.res 3), (.const (.int .i64 0))] (some ((.res 1), true))
    (.q 5 .pick [(.res 1), (.res 4), (.const (.bool false))] none
    (.q 7 .mv [(.slot 10)] (some ((.res 5), true))
    (.q 8 .mv [(.slot 12)] (some ((.res 5), true))
    (.x 9 (.call 10) [(.res 7), (.res 8)] (some ((.res 5), true)) []
    (.q 10 .pick [(.res 5), (.res 9), (.const (.bool false))] none
    (.x 12 (.call 3) [] (some ((.res 10), true)) []
    (.q 13 .pick [(.res 10), (.res 12), (.const (.bool false))] none
    (.out [(4, (.res 13))])))))))))))
    [10, 11, 12, 13]
abbrev turned_c : NC :=
  (.seq turned_r0
  (.seq turned_r1
  (.seq turned_r2
  (.seq (.seq turned_r3
  (.block 0 (.loop [1, 5, 6, 7] turned_l0)))
  (.seq turned_r11
  (.seq turned_r12
  (.seq turned_r13
  .ret)))))))
abbrev turned_F : FN := ⟨turned_c, [.slot 4]⟩
theorem turned_ok : compF Try.prog Try.f6 = some turned_F := by kernel_rfl
/-! concord/concordlaw19.GraphRing -/
abbrev ring_r0 : NC := .reg
    (.out [(0, (.slot 0)), (1, (.slot 1))])
    [0, 1]
abbrev ring_r1 : NC := .reg
    (.x 1 (.call 16) [(.slot 0), (.const (.int .i64 1)), (.const (.int .i64 512))] none []
    (.out [(1, (.slot 1)), (5, (.res 1))]))
    [0, 1]
abbrev ring_r2 : NC := .reg
    (.x 1 (.mks 26 24 [(.slice none 0 0)]) [(.slot 5), (.slot 5)] none []
    (.out [(1, (.slot 1)), (5, (.slot 5)), (6, (.res 1))]))
    [1, 5]
abbrev ring_r3 : NC := .reg
    (.out [(1, (.slot 1)), (5, (.slot 5)), (6, (.slot 6)), (7, (.const (.int .i64 0)))])
    [1, 5, 6]
abbrev ring_r4 : NC := .reg
    (.q 2 (.icm .lss) [(.slot 7), (.slot 5)] none
    (.out [(1, (.slot 1)), (5, (.slot 5)), (6, (.slot 6)), (7, (.slot 7)), (20, (.res 2))]))
    [1, 5, 6, 7]
abbrev ring_r5 : NC := .reg
    (.q 3 (.iar .add) [(.slot 7), (.const (.int .i64 1))] none
    (.q 5 (.idv .rem) [(.res 3), (.slot 5)] none
    (.x 6 (.bsl 3 1 [(.int .i64 0)] [(0, 1)]) [(.res 5)] none []
    (.q 7 (.ixs 1) [(.slot 6), (.slot 7)] none
    (.x 8 (.st 1) [(.res 7), (.res 6)] none []
    (.out [(1, (.slot 1)), (5, (.slot 5)), (6, (.slot 6)), (7, (.slot 7))]))))))
    [1, 5, 6, 7]
abbrev ring_r6 : NC := .reg
    (.q 1 (.iar .add) [(.slot 7), (.const (.int .i64 1))] none
    (.out [(1, (.slot 1)), (5, (.slot 5)), (6, (.slot 6)), (7, (.res 1))]))
    [1, 5, 6, 7]
abbrev ring_l0 : NC :=
  (.seq (.seq ring_r4
  (.cond (.slot 20)
    .skip
    (.exit 0)))
  (.seq (.block 1 ring_r5)
  ring_r6))
abbrev ring_r7 : NC := .reg
    (.x 1 (.call 9) [(.slot 6)] none []
    (.q 3 (.ext 0) [(.res 1)] none
    (.q 4 (.ext 1) [(.res 1)] none
    (.out [(1, (.slot 1)), (5, (.slot 5)), (6, (.slot 6)), (8, (.res 3)), (9, (.res 4))]))))
    [1, 5, 6]
abbrev ring_r8 : NC := .reg
    (.q 2 (.iar .sub) [(.slot 5), (.const (.int .i64 1))] none
    (.x 3 (.call 16) [(.slot 1), (.const (.int .i64 0)), (.res 2)] none []
    (.out [(5, (.slot 5)), (6, (.slot 6)), (8, (.slot 8)), (9, (.slot 9)), (10, (.res 3))])))
    [1, 5, 6, 8, 9]
abbrev ring_r9 : NC := .reg
    (.q 2 (.ixs 1) [(.slot 6), (.slot 10)] none
    (.x 3 (.st 1) [(.res 2), (.const (.slice none 0 0))] none []
    (.out [(5, (.slot 5)), (6, (.slot 6)), (8, (.slot 8)), (9, (.slot 9)), (10, (.slot 10))])))
    [5, 6, 8, 9, 10]
abbrev ring_r10 : NC := .reg
    (.x 1 (.call 9) [(.slot 6)] none []
    (.q 3 (.ext 0) [(.res 1)] none
    (.q 4 (.ext 1) [(.res 1)] none
    (.out [(5, (.slot 5)), (8, (.slot 8)), (9, (.slot 9)), (10, (.slot 10)), (11, (.res 3)), (12, (.res 4))]))))
    [5, 6, 8, 9, 10]
abbrev ring_r11 : NC := .reg
    (.q 1 (.icm .neq) [(.slot 9), (.const (.int .i64 0))] none
    (.q 3 .mv [(.slot 12)] (some ((.res 1), false))
    (.q 4 (.icm .neq) [(.res 3), (.const (.int .i64 0))] (some ((.res 1), false))
    (.q 5 .pick [(.res 1), (.const (.bool true)), (.res 4)] none
    (.q 7 .mv [(.slot 8)] (some ((.res 5), false))
    (.q 8 .len [(.res 7)] (some ((.res 5), false))
    (.q 9 (.icm .neq) [(.res 8), (.const (.int .i64 1))] (some ((.res 5), false))
    (.q 10 .pick [(.res 5), (.const (.bool true)), (.res 9)] none
    (.q 12 .mv [(.slot 8)] (some ((.res 10), false))
    (.q 13 (.ixs 1) [(.res 12), (.const (.int .i64 0))] (some ((.res 10), false))
    (.q 14 .ld [(.res 13)] (some ((.res 10), false))
    (.q 15 .len [(.res 14)] (some ((.res 10), false))
    (.q 16 .mv [(.slot 5)] (some ((.res 10), false))
    (.q 17 (.icm .neq) [(.res 15), (.res 16)] (some ((.res 10), false))
    (.q 18 .pick [(.res 10), (.const (.bool true)), (.res 17)] none
    (.q 20 .mv [(.slot 11)] (some ((.res 18), false))
    (.q 21 .len [(.res 20)] (some ((.res 18), false))
    (.q 22 .mv [(.slot 5)] (some ((.res 18), false))
    (.q 23 (.icm .neq) [(.res 21), (.res 22)] (some ((.res 18), false))
    (.q 24 .pick [(.res 18), (.const (.bool true)), (.res 23)] none
    (.out [(5, (.slot 5)), (10, (.slot 10)), (11, (.slot 11)), (72, (.res 24))])))))))))))))))))))))
    [5, 8, 9, 10, 11, 12]
abbrev ring_r12 : NC := .reg
    (.out [(4, (.const (.bool false)))])
    []
abbrev ring_r13 : NC := .reg
    (.out [(5, (.slot 5)), (10, (.slot 10)), (11, (.slot 11)), (13, (.const (.int .i64 0)))])
    [5, 10, 11]
abbrev ring_r14 : NC := .reg
    (.q 2 (.icm .lss) [(.slot 13), (.slot 5)] none
    (.out [(5, (.slot 5)), (10, (.slot 10)), (11, (.slot 11)), (13, (.slot 13)), (75, (.res 2))]))
    [5, 10, 11, 13]
abbrev ring_r15 : NC := .reg
    (.q 2 (.ixs 1) [(.slot 11), (.slot 13)] none
    (.q 3 .ld [(.res 2)] none
    (.q 4 .len [(.res 3)] none
    (.q 5 (.icm .neq) [(.res 4), (.const (.int .i64 1))] none
    (.q 7 .mv [(.slot 11)] (some ((.res 5), false))
    (.q 8 .mv [(.slot 13)] (some ((.res 5), false))
    (.q 9 (.ixs 1) [(.res 7), (.res 8)] (some ((.res 5), false))
    (.q 10 .ld [(.res 9)] (some ((.res 5), false))
    (.q 11 (.ixs 1) [(.res 10), (.const (.int .i64 0))] (some ((.res 5), false))
    (.q 12 .ld [(.res 11)] (some ((.res 5), false))
    (.q 13 .mv [(.slot 10)] (some ((.res 5), false))
    (.q 14 .mv [(.slot 13)] (some ((.res 5), false))
    (.q 15 (.iar .sub) [(.res 13), (.res 14)] (some ((.res 5), false))
    (.q 16 .mv [(.slot 5)] (some ((.res 5), false))
    (.q 17 (.iar .add) [(.res 15), (.res 16)] (some ((.res 5), false))
    (.q 18 .mv [(.slot 5)] (some ((.res 5), false))
    (.q 19 (.idv .rem) [(.res 17), (.res 18)] (some ((.res 5), false))
    (.q 20 (.icm .neq) [(.res 12), (.res 19)] (some ((.res 5), false))
    (.q 21 .pick [(.res 5), (.const (.bool true)), (.res 20)] none
    (.out [(5, (.slot 5)), (10, (.slot 10)), (11, (.slot 11)), (13, (.slot 13)), (99, (.res 21))]))))))))))))))))))))
    [5, 10, 11, 13]
abbrev ring_r16 : NC := .reg
    (.out [(4, (.const (.bool false)))])
    []
abbrev ring_r17 : NC := .reg
    (.q 1 (.iar .add) [(.slot 13), (.const (.int .i64 1))] none
    (.out [(5, (.slot 5)), (10, (.slot 10)), (11, (.slot 11)), (13, (.res 1))]))
    [5, 10, 11, 13]
abbrev ring_l1 : NC :=
  (.seq (.seq ring_r14
  (.cond (.slot 75)
    .skip
    (.exit 2)))
  (.seq (.block 3 (.seq ring_r15
  (.cond (.slot 99)
    (.seq ring_r16
    .ret)
    .skip)))
  ring_r17))
abbrev ring_r18 : NC := .reg
    (.x 0 (.call 3) [] none []
    (.out [(4, (.res 0))]))
    []
abbrev ring_c : NC :=
  (.seq ring_r0
  (.seq ring_r1
  (.seq ring_r2
  (.seq (.seq ring_r3
  (.block 0 (.loop [1, 5, 6, 7] ring_l0)))
  (.seq ring_r7
  (.seq ring_r8
  (.seq ring_r9
  (.seq ring_r10
  (.seq (.seq ring_r11
  (.cond (.slot 72)
    (.seq ring_r12
    .ret)
    .skip))
  (.seq (.seq ring_r13
  (.block 2 (.loop [5, 10, 11, 13] ring_l1)))
  (.seq ring_r18
  .ret)))))))))))
abbrev ring_F : FN := ⟨ring_c, [.slot 4]⟩
theorem ring_ok : compF Try.prog Try.f7 = some ring_F := by kernel_rfl
/-! concord/concordlaw19.GraphChain -/
abbrev chain_r0 : NC := .reg
    (.out [(0, (.slot 0)), (1, (.slot 1))])
    [0, 1]
abbrev chain_r1 : NC := .reg
    (.x 1 (.call 16) [(.slot 0), (.const (.int .i64 1)), (.const (.int .i64 60))] none []
    (.out [(1, (.slot 1)), (5, (.res 1))]))
    [0, 1]
abbrev chain_r2 : NC := .reg
    (.x 1 (.mks 26 24 [(.slice none 0 0)]) [(.slot 5), (.slot 5)] none []
    (.out [(1, (.slot 1)), (5, (.slot 5)), (6, (.res 1))]))
    [1, 5]
abbrev chain_r3 : NC := .reg
    (.out [(1, (.slot 1)), (5, (.slot 5)), (6, (.slot 6)), (7, (.const (.int .i64 1)))])
    [1, 5, 6]
abbrev chain_r4 : NC := .reg
    (.q 2 (.icm .lss) [(.slot 7), (.slot 5)] none
    (.out [(1, (.slot 1)), (5, (.slot 5)), (6, (.slot 6)), (7, (.slot 7)), (20, (.res 2))]))
    [1, 5, 6, 7]
abbrev chain_r5 : NC := .reg
    (.q 3 (.iar .sub) [(.slot 7), (.const (.int .i64 1))] none
    (.x 4 (.bsl 3 1 [(.int .i64 0)] [(0, 1)]) [(.res 3)] none []
    (.q 5 (.ixs 1) [(.slot 6), (.slot 7)] none
    (.x 6 (.st 1) [(.res 5), (.res 4)] none []
    (.out [(1, (.slot 1)), (5, (.slot 5)), (6, (.slot 6)), (7, (.slot 7))])))))
    [1, 5, 6, 7]
abbrev chain_r6 : NC := .reg
    (.q 1 (.iar .add) [(.slot 7), (.const (.int .i64 1))] none
    (.out [(1, (.slot 1)), (5, (.slot 5)), (6, (.slot 6)), (7, (.res 1))]))
    [1, 5, 6, 7]
abbrev chain_l0 : NC :=
  (.seq (.seq chain_r4
  (.cond (.slot 20)
    .skip
    (.exit 0)))
  (.seq (.block 1 chain_r5)
  chain_r6))
abbrev chain_r7 : NC := .reg
    (.x 1 (.call 9) [(.slot 6)] none []
    (.q 3 (.ext 0) [(.res 1)] none
    (.q 4 (.ext 1) [(.res 1)] none
    (.out [(1, (.slot 1)), (5, (.slot 5)), (6, (.slot 6)), (8, (.res 3)), (9, (.res 4))]))))
    [1, 5, 6]
abbrev chain_r8 : NC := .reg
    (.q 2 (.iar .sub) [(.slot 5), (.const (.int .i64 1))] none
    (.x 3 (.call 16) [(.slot 1), (.const (.int .i64 0)), (.res 2)] none []
    (.out [(5, (.slot 5)), (6, (.slot 6)), (8, (.slot 8)), (9, (.slot 9)), (10, (.res 3))])))
    [1, 5, 6, 8, 9]
abbrev chain_r9 : NC := .reg
    (.x 2 (.bsl 3 1 [(.int .i64 0)] [(0, 1)]) [(.slot 10)] none []
    (.q 3 (.ixs 1) [(.slot 6), (.const (.int .i64 0))] none
    (.x 4 (.st 1) [(.res 3), (.res 2)] none []
    (.out [(5, (.slot 5)), (6, (.slot 6)), (8, (.slot 8)), (9, (.slot 9)), (10, (.slot 10))]))))
    [5, 6, 8, 9, 10]
abbrev chain_r10 : NC := .reg
    (.x 1 (.call 9) [(.slot 6)] none []
    (.q 3 (.ext 0) [(.res 1)] none
    (.q 4 (.ext 1) [(.res 1)] none
    (.out [(5, (.slot 5)), (8, (.slot 8)), (9, (.slot 9)), (10, (.slot 10)), (11, (.res 3)), (12, (.res 4))]))))
    [5, 6, 8, 9, 10]
abbrev chain_r11 : NC := .reg
    (.q 1 (.icm .neq) [(.slot 9), (.const (.int .i64 0))] none
    (.q 3 .mv [(.slot 12)] (some ((.res 1), false))
    (.q 4 (.icm .neq) [(.res 3), (.const (.int .i64 0))] (some ((.res 1), false))
    (.q 5 .pick [(.res 1), (.const (.bool true)), (.res 4)] none
    (.q 7 .mv [(.slot 8)] (some ((.res 5), false))
    (.q 8 .len [(.res 7)] (some ((.res 5), false))
    (.q 9 .mv [(.slot 5)] (some ((.res 5), false))
    (.q 10 (.icm .neq) [(.res 8), (.res 9)] (some ((.res 5), false))
    (.q 11 .pick [(.res 5), (.const (.bool true)), (.res 10)] none
    (.q 13 .mv [(.slot 11)] (some ((.res 11), false))
    (.q 14 .len [(.res 13)] (some ((.res 11), false))
    (.q 15 .mv [(.slot 5)] (some ((.res 11), false))
    (.q 16 .mv [(.slot 10)] (some ((.res 11), false))
    (.q 17 (.iar .sub) [(.res 15), (.res 16)] (some ((.res 11), false))
    (.q 18 (.icm .neq) [(.res 14), (.res 17)] (some ((.res 11), false))
    (.q 19 .pick [(.res 11), (.const (.bool true)), (.res 18)] none
    (.q 21 .mv [(.slot 11)] (some ((.res 19), false))
    (.q 22 (.ixs 1) [(.res 21), (.const (.int .i64 0))] (some ((.res 19), false))
    (.q 23 .ld [(.res 22)] (some ((.res 19), false))
    (.q 24 .len [(.res 23)] (some ((.res 19), false))
    (.q 25 .mv [(.slot 10)] (some ((.res 19), false))
    (.q 26 (.iar .add) [(.res 25), (.const (.int .i64 1))] (some ((.res 19), false))
    (.q 27 (.icm .neq) [(.res 24), (.res 26)] (some ((.res 19), false))
    (.q 28 .pick [(.res 19), (.const (.bool true)), (.res 27)] none
    (.out [(5, (.slot 5)), (8, (.slot 8)), (75, (.res 28))])))))))))))))))))))))))))
    [5, 8, 9, 10, 11, 12]
abbrev chain_r12 : NC := .reg
    (.out [(4, (.const (.bool false)))])
    []
abbrev chain_r13 : NC := .reg
    (.out [(5, (.slot 5)), (8, (.slot 8)), (13, (.const (.int .i64 0)))])
    [5, 8]
abbrev chain_r14 : NC := .reg
    (.q 2 (.icm .lss) [(.slot 13), (.slot 5)] none
    (.out [(5, (.slot 5)), (8, (.slot 8)), (13, (.slot 13)), (78, (.res 2))]))
    [5, 8, 13]
abbrev chain_r15 : NC := .reg
    (.q 2 (.ixs 1) [(.slot 8), (.slot 13)] none
    (.q 3 .ld [(.res 2)] none
    (.q 4 .len [(.res 3)] none
    (.q 5 (.icm .neq) [(.res 4), (.const (.int .i64 1))] none
    (.q 7 .mv [(.slot 8)] (some ((.res 5), false))
    (.q 8 .mv [(.slot 13)] (some ((.res 5), false))
    (.q 9 (.ixs 1) [(.res 7), (.res 8)] (some ((.res 5), false))
    (.q 10 .ld [(.res 9)] (some ((.res 5), false))
    (.q 11 (.ixs 1) [(.res 10), (.const (.int .i64 0))] (some ((.res 5), false))
    (.q 12 .ld [(.res 11)] (some ((.res 5), false))
    (.q 13 .mv [(.slot 13)] (some ((.res 5), false))
    (.q 14 (.icm .neq) [(.res 12), (.res 13)] (some ((.res 5), false))
    (.q 15 .pick [(.res 5), (.const (.bool true)), (.res 14)] none
    (.out [(5, (.slot 5)), (8, (.slot 8)), (13, (.slot 13)), (96, (.res 15))]))))))))))))))
    [5, 8, 13]
abbrev chain_r16 : NC := .reg
    (.out [(4, (.const (.bool false)))])
    []
abbrev chain_r17 : NC := .reg
    (.q 1 (.iar .add) [(.slot 13), (.const (.int .i64 1))] none
    (.out [(5, (.slot 5)), (8, (.slot 8)), (13, (.res 1))]))
    [5, 8, 13]
abbrev chain_l1 : NC :=
  (.seq (.seq chain_r14
  (.cond (.slot 78)
    .skip
    (.exit 2)))
  (.seq (.block 3 (.seq chain_r15
  (.cond (.slot 96)
    (.seq chain_r16
    .ret)
    .skip)))
  chain_r17))
abbrev chain_r18 : NC := .reg
    (.x 0 (.call 3) [] none []
    (.out [(4, (.res 0))]))
    []
abbrev chain_c : NC :=
  (.seq chain_r0
  (.seq chain_r1
  (.seq chain_r2
  (.seq (.seq chain_r3
  (.block 0 (.loop [1, 5, 6, 7] chain_l0)))
  (.seq chain_r7
  (.seq chain_r8
  (.seq chain_r9
  (.seq chain_r10
  (.seq (.seq chain_r11
  (.cond (.slot 75)
    (.seq chain_r12
    .ret)
    .skip))
  (.seq (.seq chain_r13
  (.block 2 (.loop [5, 8, 13] chain_l1)))
  (.seq chain_r18
  .ret)))))))))))
abbrev chain_F : FN := ⟨chain_c, [.slot 4]⟩
theorem chain_ok : compF Try.prog Try.f8 = some chain_F := by kernel_rfl
/-! concord/graph.Parts -/
abbrev parts_r0 : NC := .reg
    (.out [(0, (.slot 0))])
    [0]
abbrev parts_r1 : NC := .reg
    (.q 1 .len [(.slot 0)] none
    (.out [(0, (.slot 0)), (4, (.res 1))]))
    [0]
abbrev parts_r2 : NC := .reg
    (.q 1 (.icm .gtr) [(.slot 4), (.const (.int .i64 512))] none
    (.out [(0, (.slot 0)), (4, (.slot 4)), (13, (.res 1))]))
    [0, 4]
abbrev parts_r3 : NC := .reg
    (.out [(2, (.const (.slice none 0 0))), (3, (.const (.int .i64 2)))])
    []
abbrev parts_r4 : NC := .reg
    (.both
    (.x 2 (.mks 3 8 [(.int .i64 0)]) [(.slot 4), (.slot 4)] none []
    (.both
    (.x 4 (.mks 3 8 [(.int .i64 0)]) [(.slot 4), (.slot 4)] none []
    (.both
    (.x 6 (.mks 4 1 [(.bool false)]) [(.slot 4), (.slot 4)] none []
    (.x 8 (.mks 3 8 [(.int .i64 0)]) [(.slot 4), (.slot 4)] none []
    (.q 9 (.bld [(.slice none 0 0), (.slice none 0 0), (.slice none 0 0), (.slice none 0 0), (.slice none 0 0), (.slice none 0 0), (.int .i64 0), (.int .i64 0)] [(0, 1), (1, 1), (2, 1), (3, 1), (5, 1)]) [(.slot 0), (.res 2), (.res 4), (.res 6), (.res 8)] none
    (.x 10 (.box 40) [(.res 9)] none []
    (.out [(0, (.slot 0)), (4, (.slot 4)), (5, (.res 10))])))))
    (.x 8 (.mks 3 8 [(.int .i64 0)]) [(.slot 4), (.slot 4)] none []
    (.x 6 (.mks 4 1 [(.bool false)]) [(.slot 4), (.slot 4)] none []
    (.q 9 (.bld [(.slice none 0 0), (.slice none 0 0), (.slice none 0 0), (.slice none 0 0), (.slice none 0 0), (.slice none 0 0), (.int .i64 0), (.int .i64 0)] [(0, 1), (1, 1), (2, 1), (3, 1), (5, 1)]) [(.slot 0), (.res 2), (.res 4), (.res 6), (.res 8)] none
    (.x 10 (.box 40) [(.res 9)] none []
    (.out [(0, (.slot 0)), (4, (.slot 4)), (5, (.res 10))])))))))
    (.both
    (.x 6 (.mks 4 1 [(.bool false)]) [(.slot 4), (.slot 4)] none []
    (.both
    (.x 4 (.mks 3 8 [(.int .i64 0)]) [(.slot 4), (.slot 4)] none []
    (.x 8 (.mks 3 8 [(.int .i64 0)]) [(.slot 4), (.slot 4)] none []
    (.q 9 (.bld [(.slice none 0 0), (.slice none 0 0), (.slice none 0 0), (.slice none 0 0), (.slice none 0 0), (.slice none 0 0), (.int .i64 0), (.int .i64 0)] [(0, 1), (1, 1), (2, 1), (3, 1), (5, 1)]) [(.slot 0), (.res 2), (.res 4), (.res 6), (.res 8)] none
    (.x 10 (.box 40) [(.res 9)] none []
    (.out [(0, (.slot 0)), (4, (.slot 4)), (5, (.res 10))])))))
    (.x 8 (.mks 3 8 [(.int .i64 0)]) [(.slot 4), (.slot 4)] none []
    (.x 4 (.mks 3 8 [(.int .i64 0)]) [(.slot 4), (.slot 4)] none []
    (.q 9 (.bld [(.slice none 0 0), (.slice none 0 0), (.slice none 0 0), (.slice none 0 0), (.slice none 0 0), (.slice none 0 0), (.int .i64 0), (.int .i64 0)] [(0, 1), (1, 1), (2, 1), (3, 1), (5, 1)]) [(.slot 0), (.res 2), (.res 4), (.res 6), (.res 8)] none
    (.x 10 (.box 40) [(.res 9)] none []
    (.out [(0, (.slot 0)), (4, (.slot 4)), (5, (.res 10))])))))))
    (.x 8 (.mks 3 8 [(.int .i64 0)]) [(.slot 4), (.slot 4)] none []
    (.both
    (.x 4 (.mks 3 8 [(.int .i64 0)]) [(.slot 4), (.slot 4)] none []
    (.x 6 (.mks 4 1 [(.bool false)]) [(.slot 4), (.slot 4)] none []
    (.q 9 (.bld [(.slice none 0 0), (.slice none 0 0), (.slice none 0 0), (.slice none 0 0), (.slice none 0 0), (.slice none 0 0), (.int .i64 0), (.int .i64 0)] [(0, 1), (1, 1), (2, 1), (3, 1), (5, 1)]) [(.slot 0), (.res 2), (.res 4), (.res 6), (.res 8)] none
    (.x 10 (.box 40) [(.res 9)] none []
    (.out [(0, (.slot 0)), (4, (.slot 4)), (5, (.res 10))])))))
    (.x 6 (.mks 4 1 [(.bool false)]) [(.slot 4), (.slot 4)] none []
    (.x 4 (.mks 3 8 [(.int .i64 0)]) [(.slot 4), (.slot 4)] none []
    (.q 9 (.bld [(.slice none 0 0), (.slice none 0 0), (.slice none 0 0), (.slice none 0 0), (.slice none 0 0), (.slice none 0 0), (.int .i64 0), (.int .i64 0)] [(0, 1), (1, 1), (2, 1), (3, 1), (5, 1)]) [(.slot 0), (.res 2), (.res 4), (.res 6), (.res 8)] none
    (.x 10 (.box 40) [(.res 9)] none []
    (.out [(0, (.slot 0)), (4, (.slot 4)), (5, (.res 10))]))))))))))
    (.both
    (.x 4 (.mks 3 8 [(.int .i64 0)]) [(.slot 4), (.slot 4)] none []
    (.both
    (.x 2 (.mks 3 8 [(.int .i64 0)]) [(.slot 4), (.slot 4)] none []
    (.both
    (.x 6 (.mks 4 1 [(.bool false)]) [(.slot 4), (.slot 4)] none []
    (.x 8 (.mks 3 8 [(.int .i64 0)]) [(.slot 4), (.slot 4)] none []
    (.q 9 (.bld [(.slice none 0 0), (.slice none 0 0), (.slice none 0 0), (.slice none 0 0), (.slice none 0 0), (.slice none 0 0), (.int .i64 0), (.int .i64 0)] [(0, 1), (1, 1), (2, 1), (3, 1), (5, 1)]) [(.slot 0), (.res 2), (.res 4), (.res 6), (.res 8)] none
    (.x 10 (.box 40) [(.res 9)] none []
    (.out [(0, (.slot 0)), (4, (.slot 4)), (5, (.res 10))])))))
    (.x 8 (.mks 3 8 [(.int .i64 0)]) [(.slot 4), (.slot 4)] none []
    (.x 6 (.mks 4 1 [(.bool false)]) [(.slot 4), (.slot 4)] none []
    (.q 9 (.bld [(.slice none 0 0), (.slice none 0 0), (.slice none 0 0), (.slice none 0 0), (.slice none 0 0), (.slice none 0 0), (.int .i64 0), (.int .i64 0)] [(0, 1), (1, 1), (2, 1), (3, 1), (5, 1)]) [(.slot 0), (.res 2), (.res 4), (.res 6), (.res 8)] none
    (.x 10 (.box 40) [(.res 9)] none []
    (.out [(0, (.slot 0)), (4, (.slot 4)), (5, (.res 10))])))))))
    (.both
    (.x 6 (.mks 4 1 [(.bool false)]) [(.slot 4), (.slot 4)] none []
    (.both
    (.x 2 (.mks 3 8 [(.int .i64 0)]) [(.slot 4), (.slot 4)] none []
    (.x 8 (.mks 3 8 [(.int .i64 0)]) [(.slot 4), (.slot 4)] none []
    (.q 9 (.bld [(.slice none 0 0), (.slice none 0 0), (.slice none 0 0), (.slice none 0 0), (.slice none 0 0), (.slice none 0 0), (.int .i64 0), (.int .i64 0)] [(0, 1), (1, 1), (2, 1), (3, 1), (5, 1)]) [(.slot 0), (.res 2), (.res 4), (.res 6), (.res 8)] none
    (.x 10 (.box 40) [(.res 9)] none []
    (.out [(0, (.slot 0)), (4, (.slot 4)), (5, (.res 10))])))))
    (.x 8 (.mks 3 8 [(.int .i64 0)]) [(.slot 4), (.slot 4)] none []
    (.x 2 (.mks 3 8 [(.int .i64 0)]) [(.slot 4), (.slot 4)] none []
    (.q 9 (.bld [(.slice none 0 0), (.slice none 0 0), (.slice none 0 0), (.slice none 0 0), (.slice none 0 0), (.slice none 0 0), (.int .i64 0), (.int .i64 0)] [(0, 1), (1, 1), (2, 1), (3, 1), (5, 1)]) [(.slot 0), (.res 2), (.res 4), (.res 6), (.res 8)] none
    (.x 10 (.box 40) [(.res 9)] none []
    (.out [(0, (.slot 0)), (4, (.slot 4)), (5, (.res 10))])))))))
    (.x 8 (.mks 3 8 [(.int .i64 0)]) [(.slot 4), (.slot 4)] none []
    (.both
    (.x 2 (.mks 3 8 [(.int .i64 0)]) [(.slot 4), (.slot 4)] none []
    (.x 6 (.mks 4 1 [(.bool false)]) [(.slot 4), (.slot 4)] none []
    (.q 9 (.bld [(.slice none 0 0), (.slice none 0 0), (.slice none 0 0), (.slice none 0 0), (.slice none 0 0), (.slice none 0 0), (.int .i64 0), (.int .i64 0)] [(0, 1), (1, 1), (2, 1), (3, 1), (5, 1)]) [(.slot 0), (.res 2), (.res 4), (.res 6), (.res 8)] none
    (.x 10 (.box 40) [(.res 9)] none []
    (.out [(0, (.slot 0)), (4, (.slot 4)), (5, (.res 10))])))))
    (.x 6 (.mks 4 1 [(.bool false)]) [(.slot 4), (.slot 4)] none []
    (.x 2 (.mks 3 8 [(.int .i64 0)]) [(.slot 4), (.slot 4)] none []
    (.q 9 (.bld [(.slice none 0 0), (.slice none 0 0), (.slice none 0 0), (.slice none 0 0), (.slice none 0 0), (.slice none 0 0), (.int .i64 0), (.int .i64 0)] [(0, 1), (1, 1), (2, 1), (3, 1), (5, 1)]) [(.slot 0), (.res 2), (.res 4), (.res 6), (.res 8)] none
    (.x 10 (.box 40) [(.res 9)] none []
    (.out [(0, (.slot 0)), (4, (.slot 4)), (5, (.res 10))]))))))))))
    (.both
    (.x 6 (.mks 4 1 [(.bool false)]) [(.slot 4), (.slot 4)] none []
    (.both
    (.x 2 (.mks 3 8 [(.int .i64 0)]) [(.slot 4), (.slot 4)] none []
    (.both
    (.x 4 (.mks 3 8 [(.int .i64 0)]) [(.slot 4), (.slot 4)] none []
    (.x 8 (.mks 3 8 [(.int .i64 0)]) [(.slot 4), (.slot 4)] none []
    (.q 9 (.bld [(.slice none 0 0), (.slice none 0 0), (.slice none 0 0), (.slice none 0 0), (.slice none 0 0), (.slice none 0 0), (.int .i64 0), (.int .i64 0)] [(0, 1), (1, 1), (2, 1), (3, 1), (5, 1)]) [(.slot 0), (.res 2), (.res 4), (.res 6), (.res 8)] none
    (.x 10 (.box 40) [(.res 9)] none []
    (.out [(0, (.slot 0)), (4, (.slot 4)), (5, (.res 10))])))))
    (.x 8 (.mks 3 8 [(.int .i64 0)]) [(.slot 4), (.slot 4)] none []
    (.x 4 (.mks 3 8 [(.int .i64 0)]) [(.slot 4), (.slot 4)] none []
    (.q 9 (.bld [(.slice none 0 0), (.slice none 0 0), (.slice none 0 0), (.slice none 0 0), (.slice none 0 0), (.slice none 0 0), (.int .i64 0), (.int .i64 0)] [(0, 1), (1, 1), (2, 1), (3, 1), (5, 1)]) [(.slot 0), (.res 2), (.res 4), (.res 6), (.res 8)] none
    (.x 10 (.box 40) [(.res 9)] none []
    (.out [(0, (.slot 0)), (4, (.slot 4)), (5, (.res 10))])))))))
    (.both
    (.x 4 (.mks 3 8 [(.int .i64 0)]) [(.slot 4), (.slot 4)] none []
    (.both
    (.x 2 (.mks 3 8 [(.int .i64 0)]) [(.slot 4), (.slot 4)] none []
    (.x 8 (.mks 3 8 [(.int .i64 0)]) [(.slot 4), (.slot 4)] none []
    (.q 9 (.bld [(.slice none 0 0), (.slice none 0 0), (.slice none 0 0), (.slice none 0 0), (.slice none 0 0), (.slice none 0 0), (.int .i64 0), (.int .i64 0)] [(0, 1), (1, 1), (2, 1), (3, 1), (5, 1)]) [(.slot 0), (.res 2), (.res 4), (.res 6), (.res 8)] none
    (.x 10 (.box 40) [(.res 9)] none []
    (.out [(0, (.slot 0)), (4, (.slot 4)), (5, (.res 10))])))))
    (.x 8 (.mks 3 8 [(.int .i64 0)]) [(.slot 4), (.slot 4)] none []
    (.x 2 (.mks 3 8 [(.int .i64 0)]) [(.slot 4), (.slot 4)] none []
    (.q 9 (.bld [(.slice none 0 0), (.slice none 0 0), (.slice none 0 0), (.slice none 0 0), (.slice none 0 0), (.slice none 0 0), (.int .i64 0), (.int .i64 0)] [(0, 1), (1, 1), (2, 1), (3, 1), (5, 1)]) [(.slot 0), (.res 2), (.res 4), (.res 6), (.res 8)] none
    (.x 10 (.box 40) [(.res 9)] none []
    (.out [(0, (.slot 0)), (4, (.slot 4)), (5, (.res 10))])))))))
    (.x 8 (.mks 3 8 [(.int .i64 0)]) [(.slot 4), (.slot 4)] none []
    (.both
    (.x 2 (.mks 3 8 [(.int .i64 0)]) [(.slot 4), (.slot 4)] none []
    (.x 4 (.mks 3 8 [(.int .i64 0)]) [(.slot 4), (.slot 4)] none []
    (.q 9 (.bld [(.slice none 0 0), (.slice none 0 0), (.slice none 0 0), (.slice none 0 0), (.slice none 0 0), (.slice none 0 0), (.int .i64 0), (.int .i64 0)] [(0, 1), (1, 1), (2, 1), (3, 1), (5, 1)]) [(.slot 0), (.res 2), (.res 4), (.res 6), (.res 8)] none
    (.x 10 (.box 40) [(.res 9)] none []
    (.out [(0, (.slot 0)), (4, (.slot 4)), (5, (.res 10))])))))
    (.x 4 (.mks 3 8 [(.int .i64 0)]) [(.slot 4), (.slot 4)] none []
    (.x 2 (.mks 3 8 [(.int .i64 0)]) [(.slot 4), (.slot 4)] none []
    (.q 9 (.bld [(.slice none 0 0), (.slice none 0 0), (.slice none 0 0), (.slice none 0 0), (.slice none 0 0), (.slice none 0 0), (.int .i64 0), (.int .i64 0)] [(0, 1), (1, 1), (2, 1), (3, 1), (5, 1)]) [(.slot 0), (.res 2), (.res 4), (.res 6), (.res 8)] none
    (.x 10 (.box 40) [(.res 9)] none []
    (.out [(0, (.slot 0)), (4, (.slot 4)), (5, (.res 10))]))))))))))
    (.x 8 (.mks 3 8 [(.int .i64 0)]) [(.slot 4), (.slot 4)] none []
    (.both
    (.x 2 (.mks 3 8 [(.int .i64 0)]) [(.slot 4), (.slot 4)] none []
    (.both
    (.x 4 (.mks 3 8 [(.int .i64 0)]) [(.slot 4), (.slot 4)] none []
    (.x 6 (.mks 4 1 [(.bool false)]) [(.slot 4), (.slot 4)] none []
    (.q 9 (.bld [(.slice none 0 0), (.slice none 0 0), (.slice none 0 0), (.slice none 0 0), (.slice none 0 0), (.slice none 0 0), (.int .i64 0), (.int .i64 0)] [(0, 1), (1, 1), (2, 1), (3, 1), (5, 1)]) [(.slot 0), (.res 2), (.res 4), (.res 6), (.res 8)] none
    (.x 10 (.box 40) [(.res 9)] none []
    (.out [(0, (.slot 0)), (4, (.slot 4)), (5, (.res 10))])))))
    (.x 6 (.mks 4 1 [(.bool false)]) [(.slot 4), (.slot 4)] none []
    (.x 4 (.mks 3 8 [(.int .i64 0)]) [(.slot 4), (.slot 4)] none []
    (.q 9 (.bld [(.slice none 0 0), (.slice none 0 0), (.slice none 0 0), (.slice none 0 0), (.slice none 0 0), (.slice none 0 0), (.int .i64 0), (.int .i64 0)] [(0, 1), (1, 1), (2, 1), (3, 1), (5, 1)]) [(.slot 0), (.res 2), (.res 4), (.res 6), (.res 8)] none
    (.x 10 (.box 40) [(.res 9)] none []
    (.out [(0, (.slot 0)), (4, (.slot 4)), (5, (.res 10))])))))))
    (.both
    (.x 4 (.mks 3 8 [(.int .i64 0)]) [(.slot 4), (.slot 4)] none []
    (.both
    (.x 2 (.mks 3 8 [(.int .i64 0)]) [(.slot 4), (.slot 4)] none []
    (.x 6 (.mks 4 1 [(.bool false)]) [(.slot 4), (.slot 4)] none []
    (.q 9 (.bld [(.slice none 0 0), (.slice none 0 0), (.slice none 0 0), (.slice none 0 0), (.slice none 0 0), (.slice none 0 0), (.int .i64 0), (.int .i64 0)] [(0, 1), (1, 1), (2, 1), (3, 1), (5, 1)]) [(.slot 0), (.res 2), (.res 4), (.res 6), (.res 8)] none
    (.x 10 (.box 40) [(.res 9)] none []
    (.out [(0, (.slot 0)), (4, (.slot 4)), (5, (.res 10))])))))
    (.x 6 (.mks 4 1 [(.bool false)]) [(.slot 4), (.slot 4)] none []
    (.x 2 (.mks 3 8 [(.int .i64 0)]) [(.slot 4), (.slot 4)] none []
    (.q 9 (.bld [(.slice none 0 0), (.slice none 0 0), (.slice none 0 0), (.slice none 0 0), (.slice none 0 0), (.slice none 0 0), (.int .i64 0), (.int .i64 0)] [(0, 1), (1, 1), (2, 1), (3, 1), (5, 1)]) [(.slot 0), (.res 2), (.res 4), (.res 6), (.res 8)] none
    (.x 10 (.box 40) [(.res 9)] none []
    (.out [(0, (.slot 0)), (4, (.slot 4)), (5, (.res 10))])))))))
    (.x 6 (.mks 4 1 [(.bool false)]) [(.slot 4), (.slot 4)] none []
    (.both
    (.x 2 (.mks 3 8 [(.int .i64 0)]) [(.slot 4), (.slot 4)] none []
    (.x 4 (.mks 3 8 [(.int .i64 0)]) [(.slot 4), (.slot 4)] none []
    (.q 9 (.bld [(.slice none 0 0), (.slice none 0 0), (.slice none 0 0), (.slice none 0 0), (.slice none 0 0), (.slice none 0 0), (.int .i64 0), (.int .i64 0)] [(0, 1), (1, 1), (2, 1), (3, 1), (5, 1)]) [(.slot 0), (.res 2), (.res 4), (.res 6), (.res 8)] none
    (.x 10 (.box 40) [(.res 9)] none []
    (.out [(0, (.slot 0)), (4, (.slot 4)), (5, (.res 10))])))))
    (.x 4 (.mks 3 8 [(.int .i64 0)]) [(.slot 4), (.slot 4)] none []
    (.x 2 (.mks 3 8 [(.int .i64 0)]) [(.slot 4), (.slot 4)] none []
    (.q 9 (.bld [(.slice none 0 0), (.slice none 0 0), (.slice none 0 0), (.slice none 0 0), (.slice none 0 0), (.slice none 0 0), (.int .i64 0), (.int .i64 0)] [(0, 1), (1, 1), (2, 1), (3, 1), (5, 1)]) [(.slot 0), (.res 2), (.res 4), (.res 6), (.res 8)] none
    (.x 10 (.box 40) [(.res 9)] none []
    (.out [(0, (.slot 0)), (4, (.slot 4)), (5, (.res 10))])))))))))))))
    [0, 4]
abbrev parts_r5 : NC := .reg
    (.out [(0, (.slot 0)), (5, (.slot 5)), (25, (.slot 4)), (26, (.const (.int .i64 0)))])
    [0, 4, 5]
abbrev parts_r6 : NC := .reg
    (.q 0 (.icm .lss) [(.slot 26), (.slot 25)] none
    (.out [(0, (.slot 0)), (5, (.slot 5)), (25, (.slot 25)), (26, (.slot 26)), (27, (.res 0))]))
    [0, 5, 25, 26]
abbrev parts_r7 : NC := .reg
    (.out [(0, (.slot 0)), (5, (.slot 5)), (6, (.slot 26)), (25, (.slot 25)), (26, (.slot 26))])
    [0, 5, 25, 26]
abbrev parts_r8 : NC := .reg
    (.q 1 .nilck [(.slot 5)] none
    (.q 2 (.fld 1) [(.res 1)] none
    (.q 3 .ld [(.res 2)] none
    (.q 5 (.ixs 1) [(.res 3), (.slot 6)] none
    (.q 6 .ld [(.res 5)] none
    (.q 7 (.icm .eql) [(.res 6), (.const (.int .i64 0))] none
    (.out [(0, (.slot 0)), (5, (.slot 5)), (6, (.slot 6)), (25, (.slot 25)), (26, (.slot 26)), (36, (.res 7))])))))))
    [0, 5, 6, 25, 26]
abbrev parts_r9 : NC := .reg
    (.x 2 (.call 17) [(.slot 5), (.slot 6)] none []
    (.out [(0, (.slot 0)), (5, (.slot 5)), (25, (.slot 25)), (26, (.slot 26))]))
    [0, 5, 6, 25, 26]
abbrev parts_r10 : NC := .reg
    (.q 0 (.iar .add) [(.slot 26), (.const (.int .i64 1))] none
    (.out [(0, (.slot 0)), (5, (.slot 5)), (25, (.slot 25)), (26, (.res 0))]))
    [0, 5, 25, 26]
abbrev parts_l0 : NC :=
  (.seq parts_r6
  (.seq (.cond (.slot 27)
    .skip
    (.exit 0))
  (.seq (.block 1 (.seq parts_r7
  (.seq parts_r8
  (.cond (.slot 36)
    parts_r9
    .skip))))
  parts_r10)))
abbrev parts_r11 : NC := .reg
    (.q 1 .nilck [(.slot 5)] none
    (.q 2 (.fld 6) [(.res 1)] none
    (.q 3 .ld [(.res 2)] none
    (.x 4 (.mks 26 24 [(.slice none 0 0)]) [(.res 3), (.res 3)] none []
    (.out [(0, (.slot 0)), (5, (.slot 5)), (7, (.res 4))])))))
    [0, 5]
abbrev parts_r12 : NC := .reg
    (.q 1 .nilck [(.slot 5)] none
    (.q 2 (.fld 5) [(.res 1)] none
    (.q 3 .ld [(.res 2)] none
    (.q 4 .len [(.res 3)] none
    (.out [(0, (.slot 0)), (5, (.slot 5)), (7, (.slot 7)), (49, (.res 3)), (50, (.res 4)), (51, (.const (.int .i64 0)))])))))
    [0, 5, 7]
abbrev parts_r13 : NC := .reg
    (.q 0 (.icm .lss) [(.slot 51), (.slot 50)] none
    (.out [(0, (.slot 0)), (5, (.slot 5)), (7, (.slot 7)), (49, (.slot 49)), (50, (.slot 50)), (51, (.slot 51)), (52, (.res 0))]))
    [0, 5, 7, 49, 50, 51]
abbrev parts_r14 : NC := .reg
    (.q 1 (.ixs 1) [(.slot 49), (.slot 51)] none
    (.q 2 .ld [(.res 1)] none
    (.out [(0, (.slot 0)), (5, (.slot 5)), (7, (.slot 7)), (8, (.slot 51)), (9, (.res 2)), (49, (.slot 49)), (50, (.slot 50)), (51, (.slot 51))])))
    [0, 5, 7, 49, 50, 51]
abbrev parts_r15 : NC := .reg
    (.q 4 (.ixs 1) [(.slot 7), (.slot 9)] none
    (.q 5 .ld [(.res 4)] none
    (.x 7 (.bsl 3 1 [(.int .i64 0)] [(0, 1)]) [(.slot 8)] none []
    (.x 8 (.app 3 1 8 [(.int .i64 0)]) [(.res 5), (.res 7)] none []
    (.q 9 (.ixs 1) [(.slot 7), (.slot 9)] none
    (.x 10 (.st 1) [(.res 9), (.res 8)] none []
    (.out [(0, (.slot 0)), (5, (.slot 5)), (7, (.slot 7)), (49, (.slot 49)), (50, (.slot 50)), (51, (.slot 51))])))))))
    [0, 5, 7, 8, 9, 49, 50, 51]
abbrev parts_r16 : NC := .reg
    (.q 0 (.iar .add) [(.slot 51), (.const (.int .i64 1))] none
    (.out [(0, (.slot 0)), (5, (.slot 5)), (7, (.slot 7)), (49, (.slot 49)), (50, (.slot 50)), (51, (.res 0))]))
    [0, 5, 7, 49, 50, 51]
abbrev parts_l1 : NC :=
  (.seq parts_r13
  (.seq (.cond (.slot 52)
    .skip
    (.exit 2))
  (.seq (.block 3 (.seq parts_r14
  parts_r15))
  parts_r16)))
abbrev parts_r17 : NC := .reg
    (.q 2 .nilck [(.slot 5)] none
    (.q 3 (.fld 5) [(.res 2)] none
    (.q 4 .ld [(.res 3)] none
    (.x 6 (.call 18) [(.slot 0), (.res 4), (.slot 7)] none []
    (.out [(2, (.res 6)), (3, (.const (.int .i64 0)))])))))
    [0, 5, 7]
abbrev parts_c : NC :=
  (.seq parts_r0
  (.seq parts_r1
  (.seq (.seq parts_r2
  (.cond (.slot 13)
    (.seq parts_r3
    .ret)
    .skip))
  (.seq parts_r4
  (.seq (.seq parts_r5
  (.block 0 (.loop [0, 5, 25, 26] parts_l0)))
  (.seq parts_r11
  (.seq (.seq parts_r12
  (.block 2 (.loop [0, 5, 7, 49, 50, 51] parts_l1)))
  (.seq parts_r17
  .ret))))))))
abbrev parts_F : FN := ⟨parts_c, [.slot 2, .slot 3]⟩
theorem parts_ok : compF Try.prog Try.f9 = some parts_F := by kernel_rfl
/-! concord/concordlaw19.same -/
abbrev same2_r0 : NC := .reg
    (.out [(0, (.slot 0)), (1, (.slot 1))])
    [0, 1]
abbrev same2_r1 : NC := .reg
    (.q 1 .len [(.slot 0)] none
    (.q 3 .len [(.slot 1)] none
    (.q 4 (.icm .neq) [(.res 1), (.res 3)] none
    (.out [(0, (.slot 0)), (1, (.slot 1)), (10, (.res 4))]))))
    [0, 1]
abbrev same2_r2 : NC := .reg
    (.out [(4, (.const (.bool false)))])
    []
abbrev same2_r3 : NC := .reg
    (.out [(0, (.slot 0)), (1, (.slot 1)), (5, (.const (.int .i64 0)))])
    [0, 1]
abbrev same2_r4 : NC := .reg
    (.q 2 .len [(.slot 0)] none
    (.q 3 (.icm .lss) [(.slot 5), (.res 2)] none
    (.out [(0, (.slot 0)), (1, (.slot 1)), (5, (.slot 5)), (14, (.res 3))])))
    [0, 1, 5]
abbrev same2_r5 : NC := .reg
    (.q 2 (.ixs 1) [(.slot 0), (.slot 5)] none
    (.q 3 .ld [(.res 2)] none
    (.q 6 (.ixs 1) [(.slot 1), (.slot 5)] none
    (.q 7 .ld [(.res 6)] none
    (.x 8 (.call 19) [(.res 3), (.res 7)] none []
    (.q 9 .not [(.res 8)] none
    (.out [(0, (.slot 0)), (1, (.slot 1)), (5, (.slot 5)), (26, (.res 9))])))))))
    [0, 1, 5]
abbrev same2_r6 : NC := .reg
    (.out [(4, (.const (.bool false)))])
    []
abbrev same2_r7 : NC := .reg
    (.q 1 (.iar .add) [(.slot 5), (.const (.int .i64 1))] none
    (.out [(0, (.slot 0)), (1, (.slot 1)), (5, (.res 1))]))
    [0, 1, 5]
abbrev same2_l0 : NC :=
  (.seq (.seq same2_r4
  (.cond (.slot 14)
    .skip
    (.exit 0)))
  (.seq (.block 1 (.seq same2_r5
  (.cond (.slot 26)
    (.seq same2_r6
    .ret)
    .skip)))
  same2_r7))
abbrev same2_r8 : NC := .reg
    (.out [(4, (.const (.bool true)))])
    []
abbrev same2_c : NC :=
  (.seq same2_r0
  (.seq (.seq same2_r1
  (.cond (.slot 10)
    (.seq same2_r2
    .ret)
    .skip))
  (.seq (.seq same2_r3
  (.block 0 (.loop [0, 1, 5] same2_l0)))
  (.seq same2_r8
  .ret))))
abbrev same2_F : FN := ⟨same2_c, [.slot 4]⟩
theorem same2_ok : compF Try.prog Try.f10 = some same2_F := by kernel_rfl
/-! concord/concordlaw19.small -/
abbrev small_r0 : NC := .reg
    (.out [(0, (.slot 0))])
    [0]
abbrev small_r1 : NC := .reg
    (.q 1 .len [(.slot 0)] none
    (.q 2 (.icm .gtr) [(.res 1), (.const (.int .i64 24))] none
    (.out [(0, (.slot 0)), (7, (.res 2))])))
    [0]
abbrev small_r2 : NC := .reg
    (.q 1 (.slc 1 false true) [(.slot 0), (.const (.int .i64 24))] none
    (.out [(0, (.res 1))]))
    [0]
abbrev small_r3 : NC := .reg
    (.q 1 .len [(.slot 0)] none
    (.x 2 (.mks 26 24 [(.slice none 0 0)]) [(.res 1), (.res 1)] none []
    (.out [(0, (.slot 0)), (3, (.res 2))])))
    [0]
abbrev small_r4 : NC := .reg
    (.out [(0, (.slot 0)), (3, (.slot 3)), (4, (.const (.int .i64 0)))])
    [0, 3]
abbrev small_r5 : NC := .reg
    (.q 2 .len [(.slot 0)] none
    (.q 3 (.icm .lss) [(.slot 4), (.res 2)] none
    (.out [(0, (.slot 0)), (3, (.slot 3)), (4, (.slot 4)), (16, (.res 3))])))
    [0, 3, 4]
abbrev small_r6 : NC := .reg
    (.q 4 (.ixs 1) [(.slot 0), (.slot 4)] none
    (.q 5 .ld [(.res 4)] none
    (.q 6 (.ixs 1) [(.slot 3), (.slot 4)] none
    (.x 7 (.st 1) [(.res 6), (.res 5)] none []
    (.out [(0, (.slot 0)), (3, (.slot 3)), (4, (.slot 4))])))))
    [0, 3, 4]
abbrev small_r7 : NC := .reg
    (.q 2 (.ixs 1) [(.slot 3), (.slot 4)] none
    (.q 3 .ld [(.res 2)] none
    (.q 4 .len [(.res 3)] none
    (.q 5 (.icm .gtr) [(.res 4), (.const (.int .i64 30))] none
    (.out [(0, (.slot 0)), (3, (.slot 3)), (4, (.slot 4)), (31, (.res 5))])))))
    [0, 3, 4]
abbrev small_r8 : NC := .reg
    (.q 4 (.ixs 1) [(.slot 3), (.slot 4)] none
    (.q 5 .ld [(.res 4)] none
    (.q 6 (.slc 1 false true) [(.res 5), (.const (.int .i64 30))] none
    (.q 7 (.ixs 1) [(.slot 3), (.slot 4)] none
    (.x 8 (.st 1) [(.res 7), (.res 6)] none []
    (.out [(0, (.slot 0)), (3, (.slot 3)), (4, (.slot 4))]))))))
    [0, 3, 4]
abbrev small_r9 : NC := .reg
    (.q 1 (.iar .add) [(.slot 4), (.const (.int .i64 1))] none
    (.out [(0, (.slot 0)), (3, (.slot 3)), (4, (.res 1))]))
    [0, 3, 4]
abbrev small_l0 : NC :=
  (.seq (.seq small_r5
  (.cond (.slot 16)
    .skip
    (.exit 0)))
  (.seq (.block 1 (.seq small_r6
  (.seq small_r7
  (.cond (.slot 31)
    small_r8
    .skip))))
  small_r9))
abbrev small_r10 : NC := .reg
    (.out [(2, (.slot 3))])
    [3]
abbrev small_c : NC :=
  (.seq small_r0
  (.seq (.seq small_r1
  (.cond (.slot 7)
    small_r2
    .skip))
  (.seq small_r3
  (.seq (.seq small_r4
  (.block 0 (.loop [0, 3, 4] small_l0)))
  (.seq small_r10
  .ret)))))
abbrev small_F : FN := ⟨small_c, [.slot 2]⟩
theorem small_ok : compF Try.prog Try.f11 = some small_F := by kernel_rfl
/-! concord/concordbook.Roomy[int] -/
abbrev roomy_r0 : NC := .reg
    (.out [(0, (.slot 0)), (1, (.slot 1))])
    [0, 1]
abbrev roomy_r1 : NC := .reg
    (.q 1 .len [(.slot 0)] none
    (.q 2 (.iar .add) [(.res 1), (.const (.int .i64 80))] none
    (.x 3 (.mks 3 8 [(.int .i64 0)]) [(.res 2), (.res 2)] none []
    (.out [(0, (.slot 0)), (1, (.slot 1)), (5, (.res 3))]))))
    [0, 1]
abbrev roomy_r2 : NC := .reg
    (.x 2 (.cpy 1) [(.slot 5), (.slot 0)] none []
    (.out [(0, (.slot 0)), (1, (.slot 1)), (5, (.slot 5))]))
    [0, 1, 5]
abbrev roomy_r3 : NC := .reg
    (.q 1 .len [(.slot 0)] none
    (.out [(1, (.slot 1)), (5, (.slot 5)), (6, (.res 1))]))
    [0, 1, 5]
abbrev roomy_r4 : NC := .reg
    (.q 2 .len [(.slot 5)] none
    (.q 3 (.icm .lss) [(.slot 6), (.res 2)] none
    (.out [(1, (.slot 1)), (5, (.slot 5)), (6, (.slot 6)), (19, (.res 3))])))
    [1, 5, 6]
abbrev roomy_r5 : NC := .reg
    (.q 3 (.ixs 1) [(.slot 5), (.slot 6)] none
    (.x 4 (.st 1) [(.res 3), (.slot 1)] none []
    (.out [(1, (.slot 1)), (5, (.slot 5)), (6, (.slot 6))])))
    [1, 5, 6]
abbrev roomy_r6 : NC := .reg
    (.q 1 (.iar .add) [(.slot 6), (.const (.int .i64 1))] none
    (.out [(1, (.slot 1)), (5, (.slot 5)), (6, (.res 1))]))
    [1, 5, 6]
abbrev roomy_l0 : NC :=
  (.seq (.seq roomy_r4
  (.cond (.slot 19)
    .skip
    (.exit 0)))
  (.seq (.block 1 roomy_r5)
  roomy_r6))
abbrev roomy_r7 : NC := .reg
    (.out [(4, (.slot 5))])
    [5]
abbrev roomy_c : NC :=
  (.seq roomy_r0
  (.seq roomy_r1
  (.seq roomy_r2
  (.seq (.seq roomy_r3
  (.block 0 (.loop [1, 5, 6] roomy_l0)))
  (.seq roomy_r7
  .ret)))))
abbrev roomy_F : FN := ⟨roomy_c, [.slot 4]⟩
theorem roomy_ok : compF Try.prog Try.f12 = some roomy_F := by kernel_rfl
/-! concord/concordbook.Intact[int] -/
abbrev intact_r0 : NC := .reg
    (.out [(0, (.slot 0)), (1, (.slot 1)), (2, (.slot 2))])
    [0, 1, 2]
abbrev intact_r1 : NC := .reg
    (.q 1 .len [(.slot 0)] none
    (.q 3 .len [(.slot 1)] none
    (.q 4 (.iar .add) [(.res 3), (.const (.int .i64 80))] none
    (.q 5 (.icm .neq) [(.res 1), (.res 4)] none
    (.q 7 .mv [(.slot 0)] (some ((.res 5), false))
    (.q 8 .mv [(.slot 1)] (some ((.res 5), false))
    (.q 9 .len [(.res 8)] (some ((.res 5), false))
    (.q 10 (.slc 1 false true) [(.res 7), (.res 9)] (some ((.res 5), false))
    (.q 11 .mv [(.slot 1)] (some ((.res 5), false))
    (.x 12 (.call 19) [(.res 10), (.res 11)] (some ((.res 5), false)) []
    (.q 13 .not [(.res 12)] (some ((.res 5), false))
    (.q 14 .pick [(.res 5), (.const (.bool true)), (.res 13)] none
    (.out [(0, (.slot 0)), (1, (.slot 1)), (2, (.slot 2)), (22, (.res 14))])))))))))))))
    [0, 1, 2]
abbrev intact_r2 : NC := .reg
    (.out [(6, (.const (.bool false)))])
    []
abbrev intact_r3 : NC := .reg
    (.q 1 .len [(.slot 1)] none
    (.out [(0, (.slot 0)), (2, (.slot 2)), (7, (.res 1))]))
    [0, 1, 2]
abbrev intact_r4 : NC := .reg
    (.q 2 .len [(.slot 0)] none
    (.q 3 (.icm .lss) [(.slot 7), (.res 2)] none
    (.out [(0, (.slot 0)), (2, (.slot 2)), (7, (.slot 7)), (28, (.res 3))])))
    [0, 2, 7]
abbrev intact_r5 : NC := .reg
    (.q 2 (.ixs 1) [(.slot 0), (.slot 7)] none
    (.q 3 .ld [(.res 2)] none
    (.q 5 (.icm .neq) [(.res 3), (.slot 2)] none
    (.out [(0, (.slot 0)), (2, (.slot 2)), (7, (.slot 7)), (36, (.res 5))]))))
    [0, 2, 7]
abbrev intact_r6 : NC := .reg
    (.out [(6, (.const (.bool false)))])
    []
abbrev intact_r7 : NC := .reg
    (.q 1 (.iar .add) [(.slot 7), (.const (.int .i64 1))] none
    (.out [(0, (.slot 0)), (2, (.slot 2)), (7, (.res 1))]))
    [0, 2, 7]
abbrev intact_l0 : NC :=
  (.seq (.seq intact_r4
  (.cond (.slot 28)
    .skip
    (.exit 0)))
  (.seq (.block 1 (.seq intact_r5
  (.cond (.slot 36)
    (.seq intact_r6
    .ret)
    .skip)))
  intact_r7))
abbrev intact_r8 : NC := .reg
    (.out [(6, (.const (.bool true)))])
    []
abbrev intact_c : NC :=
  (.seq intact_r0
  (.seq (.seq intact_r1
  (.cond (.slot 22)
    (.seq intact_r2
    .ret)
    .skip))
  (.seq (.seq intact_r3
  (.block 0 (.loop [0, 2, 7] intact_l0)))
  (.seq intact_r8
  .ret))))
abbrev intact_F : FN := ⟨intact_c, [.slot 6]⟩
theorem intact_ok : compF Try.prog Try.f13 = some intact_F := by kernel_rfl
/-! concord/concordref19.Parts -/
abbrev refparts_r0 : NC := .reg
    (.out [(0, (.slot 0))])
    [0]
abbrev refparts_r1 : NC := .reg
    (.x 1 (.call 20) [(.slot 0)] none []
    (.out [(0, (.slot 0)), (3, (.res 1))]))
    [0]
abbrev refparts_r2 : NC := .reg
    (.q 1 .len [(.slot 0)] none
    (.out [(3, (.slot 3)), (4, (.res 1))]))
    [0, 3]
abbrev refparts_r3 : NC := .reg
    (.x 1 (.mks 4 1 [(.bool false)]) [(.slot 4), (.slot 4)] none []
    (.out [(3, (.slot 3)), (4, (.slot 4)), (5, (.res 1))]))
    [3, 4]
abbrev refparts_r4 : NC := .reg
    (.out [(3, (.slot 3)), (4, (.slot 4)), (5, (.slot 5)), (6, (.const (.slice none 0 0)))])
    [3, 4, 5]
abbrev refparts_r5 : NC := .reg
    (.out [(3, (.slot 3)), (4, (.slot 4)), (5, (.slot 5)), (6, (.slot 6)), (7, (.const (.int .i64 (-1))))])
    [3, 4, 5, 6]
abbrev refparts_r6 : NC := .reg
    (.out [(3, (.slot 3)), (4, (.slot 4)), (5, (.slot 5)), (6, (.slot 6)), (7, (.slot 7)), (8, (.const (.int .i64 0)))])
    [3, 4, 5, 6, 7]
abbrev refparts_r7 : NC := .reg
    (.q 2 (.icm .lss) [(.slot 8), (.slot 4)] none
    (.q 4 .mv [(.slot 7)] (some ((.res 2), true))
    (.q 5 (.icm .lss) [(.res 4), (.const (.int .i64 0))] (some ((.res 2), true))
    (.q 6 .pick [(.res 2), (.res 5), (.const (.bool false))] none
    (.out [(3, (.slot 3)), (4, (.slot 4)), (5, (.slot 5)), (6, (.slot 6)), (7, (.slot 7)), (8, (.slot 8)), (25, (.res 6))])))))
    [3, 4, 5, 6, 7, 8]
abbrev refparts_r8 : NC := .reg
    (.q 2 (.ixs 1) [(.slot 5), (.slot 8)] none
    (.q 3 .ld [(.res 2)] none
    (.out [(3, (.slot 3)), (4, (.slot 4)), (5, (.slot 5)), (6, (.slot 6)), (7, (.slot 7)), (8, (.slot 8)), (31, (.res 3))])))
    [3, 4, 5, 6, 7, 8]
abbrev refparts_r9 : NC := .reg
    (.out [(3, (.slot 3)), (4, (.slot 4)), (5, (.slot 5)), (6, (.slot 6)), (7, (.slot 7)), (8, (.slot 8)), (9, (.const (.bool true)))])
    [3, 4, 5, 6, 7, 8]
abbrev refparts_r10 : NC := .reg
    (.out [(3, (.slot 3)), (4, (.slot 4)), (5, (.slot 5)), (6, (.slot 6)), (7, (.slot 7)), (8, (.slot 8)), (9, (.slot 9)), (10, (.const (.int .i64 0)))])
    [3, 4, 5, 6, 7, 8, 9]
abbrev refparts_r11 : NC := .reg
    (.q 2 (.icm .lss) [(.slot 10), (.slot 4)] none
    (.out [(3, (.slot 3)), (4, (.slot 4)), (5, (.slot 5)), (6, (.slot 6)), (7, (.slot 7)), (8, (.slot 8)), (9, (.slot 9)), (10, (.slot 10)), (34, (.res 2))]))
    [3, 4, 5, 6, 7, 8, 9, 10]
abbrev refparts_r12 : NC := .reg
    (.q 2 .mv [(.slot 3)] (some ((.slot 9), true))
    (.q 3 .mv [(.slot 8)] (some ((.slot 9), true))
    (.q 4 (.ixs 1) [(.res 2), (.res 3)] (some ((.slot 9), true))
    (.q 5 .ld [(.res 4)] (some ((.slot 9), true))
    (.q 6 .mv [(.slot 10)] (some ((.slot 9), true))
    (.q 7 (.ixs 1) [(.res 5), (.res 6)] (some ((.slot 9), true))
    (.q 8 .ld [(.res 7)] (some ((.slot 9), true))
    (.q 9 .not [(.res 8)] (some ((.slot 9), true))
    (.q 10 .mv [(.res 9)] (some ((.slot 9), true))
    (.q 11 .mv [(.slot 3)] (some ((.res 10), false))
    (.q 12 .mv [(.slot 10)] (some ((.res 10), false))
    (.q 13 (.ixs 1) [(.res 11), (.res 12)] (some ((.res 10), false))
    (.q 14 .ld [(.res 13)] (some ((.res 10), false))
    (.q 15 .mv [(.slot 8)] (some ((.res 10), false))
    (.q 16 (.ixs 1) [(.res 14), (.res 15)] (some ((.res 10), false))
    (.q 17 .ld [(.res 16)] (some ((.res 10), false))
    (.q 18 .pick [(.res 10), (.const (.bool true)), (.res 17)] (some ((.slot 9), true))
    (.q 19 .mv [(.res 18)] (some ((.slot 9), true))
    (.q 20 .mv [(.slot 5)] (some ((.res 19), false))
    (.q 21 .mv [(.slot 10)] (some ((.res 19), false))
    (.q 22 (.ixs 1) [(.res 20), (.res 21)] (some ((.res 19), false))
    (.q 23 .ld [(.res 22)] (some ((.res 19), false))
    (.q 24 .pick [(.res 19), (.const (.bool true)), (.res 23)] (some ((.slot 9), true))
    (.q 25 .pick [(.slot 9), (.res 24), (.const (.bool false))] none
    (.out [(3, (.slot 3)), (4, (.slot 4)), (5, (.slot 5)), (6, (.slot 6)), (7, (.slot 7)), (8, (.slot 8)), (9, (.res 25)), (10, (.slot 10))])))))))))))))))))))))))))
    [3, 4, 5, 6, 7, 8, 9, 10]
abbrev refparts_r13 : NC := .reg
    (.q 1 (.iar .add) [(.slot 10), (.const (.int .i64 1))] none
    (.out [(3, (.slot 3)), (4, (.slot 4)), (5, (.slot 5)), (6, (.slot 6)), (7, (.slot 7)), (8, (.slot 8)), (9, (.slot 9)), (10, (.res 1))]))
    [3, 4, 5, 6, 7, 8, 9, 10]
abbrev refparts_l0 : NC :=
  (.seq (.seq refparts_r11
  (.cond (.slot 34)
    .skip
    (.exit 4)))
  (.seq (.block 5 refparts_r12)
  refparts_r13))
abbrev refparts_r14 : NC := .reg
    (.out [(3, (.slot 3)), (4, (.slot 4)), (5, (.slot 5)), (6, (.slot 6)), (7, (.slot 7)), (8, (.slot 8)), (63, (.slot 9))])
    [3, 4, 5, 6, 7, 8, 9]
abbrev refparts_r15 : NC := .reg
    (.out [(3, (.slot 3)), (4, (.slot 4)), (5, (.slot 5)), (6, (.slot 6)), (7, (.slot 8)), (8, (.slot 8))])
    [3, 4, 5, 6, 8]
abbrev refparts_r16 : NC := .reg
    (.q 1 (.iar .add) [(.slot 8), (.const (.int .i64 1))] none
    (.out [(3, (.slot 3)), (4, (.slot 4)), (5, (.slot 5)), (6, (.slot 6)), (7, (.slot 7)), (8, (.res 1))]))
    [3, 4, 5, 6, 7, 8]
abbrev refparts_l1 : NC :=
  (.seq (.seq refparts_r7
  (.cond (.slot 25)
    .skip
    (.exit 2)))
  (.seq (.block 3 (.seq (.seq refparts_r8
  (.cond (.slot 31)
    (.exit 3)
    .skip))
  (.seq refparts_r9
  (.seq (.seq refparts_r10
  (.block 4 (.loop [3, 4, 5, 6, 7, 8, 9, 10] refparts_l0)))
  (.seq refparts_r14
  (.cond (.slot 63)
    refparts_r15
    .skip))))))
  refparts_r16))
abbrev refparts_r17 : NC := .reg
    (.q 1 (.icm .lss) [(.slot 7), (.const (.int .i64 0))] none
    (.out [(3, (.slot 3)), (4, (.slot 4)), (5, (.slot 5)), (6, (.slot 6)), (7, (.slot 7)), (66, (.res 1))]))
    [3, 4, 5, 6, 7]
abbrev refparts_r18 : NC := .reg
    (.out [(2, (.slot 6))])
    [6]
abbrev refparts_r19 : NC := .reg
    (.out [(3, (.slot 3)), (4, (.slot 4)), (5, (.slot 5)), (6, (.slot 6)), (7, (.slot 7)), (11, (.const (.slice none 0 0)))])
    [3, 4, 5, 6, 7]
abbrev refparts_r20 : NC := .reg
    (.out [(3, (.slot 3)), (4, (.slot 4)), (5, (.slot 5)), (6, (.slot 6)), (7, (.slot 7)), (11, (.slot 11)), (12, (.const (.int .i64 0)))])
    [3, 4, 5, 6, 7, 11]
abbrev refparts_r21 : NC := .reg
    (.q 2 (.icm .lss) [(.slot 12), (.slot 4)] none
    (.out [(3, (.slot 3)), (4, (.slot 4)), (5, (.slot 5)), (6, (.slot 6)), (7, (.slot 7)), (11, (.slot 11)), (12, (.slot 12)), (70, (.res 2))]))
    [3, 4, 5, 6, 7, 11, 12]
abbrev refparts_r22 : NC := .reg
    (.q 2 (.ixs 1) [(.slot 3), (.slot 7)] none
    (.q 3 .ld [(.res 2)] none
    (.q 5 (.ixs 1) [(.res 3), (.slot 12)] none
    (.q 6 .ld [(.res 5)] none
    (.q 8 .mv [(.slot 3)] (some ((.res 6), true))
    (.q 9 .mv [(.slot 12)] (some ((.res 6), true))
    (.q 10 (.ixs 1) [(.res 8), (.res 9)] (some ((.res 6), true))
    (.q 11 .ld [(.res 10)] (some ((.res 6), true))
    (.q 12 .mv [(.slot 7)] (some ((.res 6), true))
    (.q 13 (.ixs 1) [(.res 11), (.res 12)] (some ((.res 6), true))
    (.q 14 .ld [(.res 13)] (some ((.res 6), true))
    (.q 15 .pick [(.res 6), (.res 14), (.const (.bool false))] none
    (.out [(3, (.slot 3)), (4, (.slot 4)), (5, (.slot 5)), (6, (.slot 6)), (7, (.slot 7)), (11, (.slot 11)), (12, (.slot 12)), (88, (.res 15))])))))))))))))
    [3, 4, 5, 6, 7, 11, 12]
abbrev refparts_r23 : NC := .reg
    (.x 2 (.bsl 3 1 [(.int .i64 0)] [(0, 1)]) [(.slot 12)] none []
    (.x 3 (.app 3 1 8 [(.int .i64 0)]) [(.slot 11), (.res 2)] none []
    (.out [(3, (.slot 3)), (4, (.slot 4)), (5, (.slot 5)), (6, (.slot 6)), (7, (.slot 7)), (11, (.res 3)), (12, (.slot 12))])))
    [3, 4, 5, 6, 7, 11, 12]
abbrev refparts_r24 : NC := .reg
    (.q 2 (.ixs 1) [(.slot 5), (.slot 12)] none
    (.x 3 (.st 1) [(.res 2), (.const (.bool true))] none []
    (.out [(3, (.slot 3)), (4, (.slot 4)), (5, (.slot 5)), (6, (.slot 6)), (7, (.slot 7)), (11, (.slot 11)), (12, (.slot 12))])))
    [3, 4, 5, 6, 7, 11, 12]
abbrev refparts_r25 : NC := .reg
    (.q 1 (.iar .add) [(.slot 12), (.const (.int .i64 1))] none
    (.out [(3, (.slot 3)), (4, (.slot 4)), (5, (.slot 5)), (6, (.slot 6)), (7, (.slot 7)), (11, (.slot 11)), (12, (.res 1))]))
    [3, 4, 5, 6, 7, 11, 12]
abbrev refparts_l2 : NC :=
  (.seq (.seq refparts_r21
  (.cond (.slot 70)
    .skip
    (.exit 6)))
  (.seq (.block 7 (.seq refparts_r22
  (.cond (.slot 88)
    (.seq refparts_r23
    refparts_r24)
    .skip)))
  refparts_r25))
abbrev refparts_r26 : NC := .reg
    (.x 2 (.bsl 26 1 [(.slice none 0 0)] [(0, 1)]) [(.slot 11)] none []
    (.x 3 (.app 26 1 24 [(.slice none 0 0)]) [(.slot 6), (.res 2)] none []
    (.out [(3, (.slot 3)), (4, (.slot 4)), (5, (.slot 5)), (6, (.res 3))])))
    [3, 4, 5, 6, 11]
abbrev refparts_l3 : NC :=
  (.block 1 (.seq refparts_r5
  (.seq (.seq refparts_r6
  (.block 2 (.loop [3, 4, 5, 6, 7, 8] refparts_l1)))
  (.seq (.seq refparts_r17
  (.cond (.slot 66)
    (.seq refparts_r18
    .ret)
    .skip))
  (.seq refparts_r19
  (.seq (.seq refparts_r20
  (.block 6 (.loop [3, 4, 5, 6, 7, 11, 12] refparts_l2)))
  refparts_r26))))))
abbrev refparts_c : NC :=
  (.seq refparts_r0
  (.seq refparts_r1
  (.seq refparts_r2
  (.seq refparts_r3
  (.seq refparts_r4
  (.block 0 (.loop [3, 4, 5, 6] refparts_l3)))))))
abbrev refparts_F : FN := ⟨refparts_c, [.slot 2]⟩
theorem refparts_ok : compF Try.prog Try.f14 = some refparts_F := by kernel_rfl
/-! concord/concordlaw19.comes -/
abbrev comes_r0 : NC := .reg
    (.out [(0, (.slot 0)), (1, (.slot 1)), (2, (.slot 2))])
    [0, 1, 2]
abbrev comes_r1 : NC := .reg
    (.q 1 .len [(.slot 0)] none
    (.x 2 (.mks 4 1 [(.bool false)]) [(.res 1), (.res 1)] none []
    (.out [(0, (.slot 0)), (1, (.slot 1)), (2, (.slot 2)), (7, (.res 2))])))
    [0, 1, 2]
abbrev comes_r2 : NC := .reg
    (.q 2 (.ixs 1) [(.slot 7), (.slot 1)] none
    (.x 3 (.st 1) [(.res 2), (.const (.bool true))] none []
    (.out [(0, (.slot 0)), (1, (.slot 1)), (2, (.slot 2)), (7, (.slot 7))])))
    [0, 1, 2, 7]
abbrev comes_r3 : NC := .reg
    (.x 1 (.bsl 3 1 [(.int .i64 0)] [(0, 1)]) [(.slot 1)] none []
    (.out [(0, (.slot 0)), (2, (.slot 2)), (7, (.slot 7)), (8, (.res 1))]))
    [0, 1, 2, 7]
abbrev comes_r4 : NC := .reg
    (.q 1 .len [(.slot 8)] none
    (.q 2 (.icm .gtr) [(.res 1), (.const (.int .i64 0))] none
    (.out [(0, (.slot 0)), (2, (.slot 2)), (7, (.slot 7)), (8, (.slot 8)), (22, (.res 2))])))
    [0, 2, 7, 8]
abbrev comes_r5 : NC := .reg
    (.q 2 .len [(.slot 8)] none
    (.q 3 (.iar .sub) [(.res 2), (.const (.int .i64 1))] none
    (.q 4 (.ixs 1) [(.slot 8), (.res 3)] none
    (.q 5 .ld [(.res 4)] none
    (.out [(0, (.slot 0)), (2, (.slot 2)), (7, (.slot 7)), (8, (.slot 8)), (9, (.res 5))])))))
    [0, 2, 7, 8]
abbrev comes_r6 : NC := .reg
    (.q 2 .len [(.slot 8)] none
    (.q 3 (.iar .sub) [(.res 2), (.const (.int .i64 1))] none
    (.q 4 (.slc 1 false true) [(.slot 8), (.res 3)] none
    (.out [(0, (.slot 0)), (2, (.slot 2)), (7, (.slot 7)), (8, (.res 4)), (9, (.slot 9))]))))
    [0, 2, 7, 8, 9]
abbrev comes_r7 : NC := .reg
    (.out [(0, (.slot 0)), (2, (.slot 2)), (7, (.slot 7)), (8, (.slot 8)), (9, (.slot 9)), (10, (.const (.int .i64 0)))])
    [0, 2, 7, 8, 9]
abbrev comes_r8 : NC := .reg
    (.q 3 (.ixs 1) [(.slot 0), (.slot 9)] none
    (.q 4 .ld [(.res 3)] none
    (.q 5 .len [(.res 4)] none
    (.q 6 (.icm .lss) [(.slot 10), (.res 5)] none
    (.out [(0, (.slot 0)), (2, (.slot 2)), (7, (.slot 7)), (8, (.slot 8)), (9, (.slot 9)), (10, (.slot 10)), (40, (.res 6))])))))
    [0, 2, 7, 8, 9, 10]
abbrev comes_r9 : NC := .reg
    (.q 2 (.ixs 1) [(.slot 0), (.slot 9)] none
    (.q 3 .ld [(.res 2)] none
    (.q 5 (.ixs 1) [(.res 3), (.slot 10)] none
    (.q 6 .ld [(.res 5)] none
    (.out [(0, (.slot 0)), (2, (.slot 2)), (7, (.slot 7)), (8, (.slot 8)), (9, (.slot 9)), (10, (.slot 10)), (11, (.res 6))])))))
    [0, 2, 7, 8, 9, 10]
abbrev comes_r10 : NC := .reg
    (.q 1 (.icm .geq) [(.slot 11), (.const (.int .i64 0))] none
    (.q 3 .mv [(.slot 11)] (some ((.res 1), true))
    (.q 4 .mv [(.slot 0)] (some ((.res 1), true))
    (.q 5 .len [(.res 4)] (some ((.res 1), true))
    (.q 6 (.icm .lss) [(.res 3), (.res 5)] (some ((.res 1), true))
    (.q 7 .pick [(.res 1), (.res 6), (.const (.bool false))] none
    (.q 9 .mv [(.slot 7)] (some ((.res 7), true))
    (.q 10 .mv [(.slot 11)] (some ((.res 7), true))
    (.q 11 (.ixs 1) [(.res 9), (.res 10)] (some ((.res 7), true))
    (.q 12 .ld [(.res 11)] (some ((.res 7), true))
    (.q 13 .not [(.res 12)] (some ((.res 7), true))
    (.q 14 .pick [(.res 7), (.res 13), (.const (.bool false))] none
    (.out [(0, (.slot 0)), (2, (.slot 2)), (7, (.slot 7)), (8, (.slot 8)), (9, (.slot 9)), (10, (.slot 10)), (11, (.slot 11)), (64, (.res 14))])))))))))))))
    [0, 2, 7, 8, 9, 10, 11]
abbrev comes_r11 : NC := .reg
    (.q 2 (.ixs 1) [(.slot 7), (.slot 11)] none
    (.x 3 (.st 1) [(.res 2), (.const (.bool true))] none []
    (.out [(0, (.slot 0)), (2, (.slot 2)), (7, (.slot 7)), (8, (.slot 8)), (9, (.slot 9)), (10, (.slot 10)), (11, (.slot 11))])))
    [0, 2, 7, 8, 9, 10, 11]
abbrev comes_r12 : NC := .reg
    (.x 2 (.bsl 3 1 [(.int .i64 0)] [(0, 1)]) [(.slot 11)] none []
    (.x 3 (.app 3 1 8 [(.int .i64 0)]) [(.slot 8), (.res 2)] none []
    (.out [(0, (.slot 0)), (2, (.slot 2)), (7, (.slot 7)), (8, (.res 3)), (9, (.slot 9)), (10, (.slot 10))])))
    [0, 2, 7, 8, 9, 10, 11]
abbrev comes_r13 : NC := .reg
    (.q 1 (.iar .add) [(.slot 10), (.const (.int .i64 1))] none
    (.out [(0, (.slot 0)), (2, (.slot 2)), (7, (.slot 7)), (8, (.slot 8)), (9, (.slot 9)), (10, (.res 1))]))
    [0, 2, 7, 8, 9, 10]
abbrev comes_l0 : NC :=
  (.seq (.seq comes_r8
  (.cond (.slot 40)
    .skip
    (.exit 2)))
  (.seq (.block 3 (.seq comes_r9
  (.seq comes_r10
  (.cond (.slot 64)
    (.seq comes_r11
    comes_r12)
    .skip))))
  comes_r13))
abbrev comes_l1 : NC :=
  (.seq (.seq comes_r4
  (.cond (.slot 22)
    .skip
    (.exit 0)))
  (.block 1 (.seq comes_r5
  (.seq comes_r6
  (.seq comes_r7
  (.block 2 (.loop [0, 2, 7, 8, 9, 10] comes_l0)))))))
abbrev comes_r14 : NC := .reg
    (.q 2 (.ixs 1) [(.slot 7), (.slot 2)] none
    (.q 3 .ld [(.res 2)] none
    (.out [(6, (.res 3))])))
    [2, 7]
abbrev comes_c : NC :=
  (.seq comes_r0
  (.seq comes_r1
  (.seq comes_r2
  (.seq comes_r3
  (.seq (.block 0 (.loop [0, 2, 7, 8] comes_l1))
  (.seq comes_r14
  .ret))))))
abbrev comes_F : FN := ⟨comes_c, [.slot 6]⟩
theorem comes_ok : compF Try.prog Try.f15 = some comes_F := by kernel_rfl
/-! concord/concordbook.Within -/
abbrev within_r0 : NC := .reg
    (.out [(0, (.slot 0)), (1, (.slot 1)), (2, (.slot 2))])
    [0, 1, 2]
abbrev within_r1 : NC := .reg
    (.q 3 (.iar .sub) [(.slot 2), (.slot 1)] none
    (.q 4 (.iar .add) [(.res 3), (.const (.int .i64 1))] none
    (.q 5 (.idv .rem) [(.slot 0), (.res 4)] none
    (.out [(0, (.res 5)), (1, (.slot 1)), (2, (.slot 2))]))))
    [0, 1, 2]
abbrev within_r2 : NC := .reg
    (.q 1 (.icm .lss) [(.slot 0), (.const (.int .i64 0))] none
    (.out [(0, (.slot 0)), (1, (.slot 1)), (2, (.slot 2)), (14, (.res 1))]))
    [0, 1, 2]
abbrev within_r3 : NC := .reg
    (.q 2 (.iar .add) [(.slot 0), (.slot 2)] none
    (.q 4 (.iar .sub) [(.res 2), (.slot 1)] none
    (.q 5 (.iar .add) [(.res 4), (.const (.int .i64 1))] none
    (.out [(0, (.res 5)), (1, (.slot 1))]))))
    [0, 1, 2]
abbrev within_r4 : NC := .reg
    (.q 2 (.iar .add) [(.slot 1), (.slot 0)] none
    (.out [(6, (.res 2))]))
    [0, 1]
abbrev within_c : NC :=
  (.seq within_r0
  (.seq within_r1
  (.seq (.seq within_r2
  (.cond (.slot 14)
    within_r3
    .skip))
  (.seq within_r4
  .ret))))
abbrev within_F : FN := ⟨within_c, [.slot 6]⟩
theorem within_ok : compF Try.prog Try.f16 = some within_F := by kernel_rfl
/-! (*concord/graph.walk).from -/
abbrev from__r0 : NC := .reg
    (.x 2 (.call 21) [(.slot 0), (.slot 1)] none []
    (.x 3 (.bsl 47 1 [(.int .i64 0), (.int .i64 0)] [(0, 2)]) [(.res 2)] none []
    (.out [(0, (.slot 0)), (4, (.res 3))])))
    [0, 1]
abbrev from__r1 : NC := .reg
    (.q 1 .len [(.slot 4)] none
    (.q 2 (.icm .gtr) [(.res 1), (.const (.int .i64 0))] none
    (.out [(0, (.slot 0)), (4, (.slot 4)), (15, (.res 2))])))
    [0, 4]
abbrev from__r2 : NC := .reg
    (.q 2 .len [(.slot 4)] none
    (.q 3 (.iar .sub) [(.res 2), (.const (.int .i64 1))] none
    (.q 4 (.ixs 2) [(.slot 4), (.res 3)] none
    (.out [(0, (.slot 0)), (4, (.slot 4)), (5, (.res 4))]))))
    [0, 4]
abbrev from__r3 : NC := .reg
    (.q 1 .nilck [(.slot 5)] none
    (.q 2 (.fld 1) [(.res 1)] none
    (.q 3 .ld [(.res 2)] none
    (.q 5 .nilck [(.slot 0)] none
    (.q 6 (.fld 0) [(.res 5)] none
    (.q 7 .ld [(.res 6)] none
    (.q 9 .nilck [(.slot 5)] none
    (.q 10 (.fld 0) [(.res 9)] none
    (.q 11 .ld [(.res 10)] none
    (.q 12 (.ixs 1) [(.res 7), (.res 11)] none
    (.q 13 .ld [(.res 12)] none
    (.q 14 .len [(.res 13)] none
    (.q 15 (.icm .eql) [(.res 3), (.res 14)] none
    (.out [(0, (.slot 0)), (4, (.slot 4)), (5, (.slot 5)), (36, (.res 15))]))))))))))))))
    [0, 4, 5]
abbrev from__r4 : NC := .reg
    (.q 1 .nilck [(.slot 5)] none
    (.q 2 (.fld 0) [(.res 1)] none
    (.q 3 .ld [(.res 2)] none
    (.out [(0, (.slot 0)), (4, (.slot 4)), (6, (.res 3))]))))
    [0, 4, 5]
abbrev from__r5 : NC := .reg
    (.x 2 (.call 22) [(.slot 0), (.slot 6)] none []
    (.out [(0, (.slot 0)), (4, (.slot 4)), (6, (.slot 6))]))
    [0, 4, 6]
abbrev from__r6 : NC := .reg
    (.q 2 .len [(.slot 4)] none
    (.q 3 (.iar .sub) [(.res 2), (.const (.int .i64 1))] none
    (.q 4 (.slc 2 false true) [(.slot 4), (.res 3)] none
    (.out [(0, (.slot 0)), (4, (.res 4)), (6, (.slot 6))]))))
    [0, 4, 6]
abbrev from__r7 : NC := .reg
    (.q 1 .len [(.slot 4)] none
    (.q 2 (.icm .gtr) [(.res 1), (.const (.int .i64 0))] none
    (.out [(0, (.slot 0)), (4, (.slot 4)), (6, (.slot 6)), (51, (.res 2))])))
    [0, 4, 6]
abbrev from__r8 : NC := .reg
    (.q 2 .len [(.slot 4)] none
    (.q 3 (.iar .sub) [(.res 2), (.const (.int .i64 1))] none
    (.q 4 (.ixs 2) [(.slot 4), (.res 3)] none
    (.q 5 (.fld 0) [(.res 4)] none
    (.q 6 .ld [(.res 5)] none
    (.out [(0, (.slot 0)), (4, (.slot 4)), (6, (.slot 6)), (7, (.res 6))]))))))
    [0, 4, 6]
abbrev from__r9 : NC := .reg
    (.q 1 .nilck [(.slot 0)] none
    (.q 2 (.fld 2) [(.res 1)] none
    (.q 3 .ld [(.res 2)] none
    (.q 6 .nilck [(.slot 0)] none
    (.q 7 (.fld 2) [(.res 6)] none
    (.q 8 .ld [(.res 7)] none
    (.q 10 (.ixs 1) [(.res 8), (.slot 7)] none
    (.q 11 .ld [(.res 10)] none
    (.q 13 .nilck [(.slot 0)] none
    (.q 14 (.fld 2) [(.res 13)] none
    (.q 15 .ld [(.res 14)] none
    (.q 17 (.ixs 1) [(.res 15), (.slot 6)] none
    (.q 18 .ld [(.res 17)] none
    (.q 19 .mn [(.res 11), (.res 18)] none
    (.q 20 (.ixs 1) [(.res 3), (.slot 7)] none
    (.x 21 (.st 1) [(.res 20), (.res 19)] none []
    (.out [(0, (.slot 0)), (4, (.slot 4))])))))))))))))))))
    [0, 4, 6, 7]
abbrev from__r10 : NC := .reg
    (.q 1 .nilck [(.slot 0)] none
    (.q 2 (.fld 0) [(.res 1)] none
    (.q 3 .ld [(.res 2)] none
    (.q 5 .nilck [(.slot 5)] none
    (.q 6 (.fld 0) [(.res 5)] none
    (.q 7 .ld [(.res 6)] none
    (.q 8 (.ixs 1) [(.res 3), (.res 7)] none
    (.q 9 .ld [(.res 8)] none
    (.q 11 .nilck [(.slot 5)] none
    (.q 12 (.fld 1) [(.res 11)] none
    (.q 13 .ld [(.res 12)] none
    (.q 14 (.ixs 1) [(.res 9), (.res 13)] none
    (.q 15 .ld [(.res 14)] none
    (.out [(0, (.slot 0)), (4, (.slot 4)), (5, (.slot 5)), (8, (.res 15))]))))))))))))))
    [0, 4, 5]
abbrev from__r11 : NC := .reg
    (.q 1 .nilck [(.slot 5)] none
    (.q 2 (.fld 1) [(.res 1)] none
    (.q 3 .ld [(.res 2)] none
    (.q 4 (.iar .add) [(.res 3), (.const (.int .i64 1))] none
    (.q 5 .nilck [(.slot 5)] none
    (.q 6 (.fld 1) [(.res 5)] none
    (.x 7 (.st 1) [(.res 6), (.res 4)] none []
    (.out [(0, (.slot 0)), (4, (.slot 4)), (5, (.slot 5)), (8, (.slot 8))]))))))))
    [0, 4, 5, 8]
abbrev from__r12 : NC := .reg
    (.q 1 (.icm .lss) [(.slot 8), (.const (.int .i64 0))] none
    (.q 3 .mv [(.slot 8)] (some ((.res 1), false))
    (.q 4 .mv [(.slot 0)] (some ((.res 1), false))
    (.q 5 .nilck [(.res 4)] (some ((.res 1), false))
    (.q 6 (.fld 0) [(.res 5)] (some ((.res 1), false))
    (.q 7 .ld [(.res 6)] (some ((.res 1), false))
    (.q 8 .len [(.res 7)] (some ((.res 1), false))
    (.q 9 (.icm .geq) [(.res 3), (.res 8)] (some ((.res 1), false))
    (.q 10 .pick [(.res 1), (.const (.bool true)), (.res 9)] none
    (.out [(0, (.slot 0)), (4, (.slot 4)), (5, (.slot 5)), (8, (.slot 8)), (103, (.res 10))]))))))))))
    [0, 4, 5, 8]
abbrev from__r13 : NC := .reg
    (.q 1 .nilck [(.slot 0)] none
    (.q 2 (.fld 1) [(.res 1)] none
    (.q 3 .ld [(.res 2)] none
    (.q 5 (.ixs 1) [(.res 3), (.slot 8)] none
    (.q 6 .ld [(.res 5)] none
    (.q 7 (.icm .eql) [(.res 6), (.const (.int .i64 0))] none
    (.out [(0, (.slot 0)), (4, (.slot 4)), (5, (.slot 5)), (8, (.slot 8)), (115, (.res 7))])))))))
    [0, 4, 5, 8]
abbrev from__r14 : NC := .reg
    (.x 3 (.call 21) [(.slot 0), (.slot 8)] none []
    (.x 4 (.bsl 47 1 [(.int .i64 0), (.int .i64 0)] [(0, 2)]) [(.res 3)] none []
    (.x 5 (.app 47 2 16 [(.int .i64 0), (.int .i64 0)]) [(.slot 4), (.res 4)] none []
    (.out [(0, (.slot 0)), (4, (.res 5))]))))
    [0, 4, 8]
abbrev from__r15 : NC := .reg
    (.q 1 .nilck [(.slot 0)] none
    (.q 2 (.fld 3) [(.res 1)] none
    (.q 3 .ld [(.res 2)] none
    (.q 5 (.ixs 1) [(.res 3), (.slot 8)] none
    (.q 6 .ld [(.res 5)] none
    (.out [(0, (.slot 0)), (4, (.slot 4)), (5, (.slot 5)), (8, (.slot 8)), (130, (.res 6))]))))))
    [0, 4, 5, 8]
abbrev from__r16 : NC := .reg
    (.q 1 .nilck [(.slot 0)] none
    (.q 2 (.fld 2) [(.res 1)] none
    (.q 3 .ld [(.res 2)] none
    (.q 5 .nilck [(.slot 5)] none
    (.q 6 (.fld 0) [(.res 5)] none
    (.q 7 .ld [(.res 6)] none
    (.q 9 .nilck [(.slot 0)] none
    (.q 10 (.fld 2) [(.res 9)] none
    (.q 11 .ld [(.res 10)] none
    (.q 13 .nilck [(.slot 5)] none
    (.q 14 (.fld 0) [(.res 13)] none
    (.q 15 .ld [(.res 14)] none
    (.q 16 (.ixs 1) [(.res 11), (.res 15)] none
    (.q 17 .ld [(.res 16)] none
    (.q 19 .nilck [(.slot 0)] none
    (.q 20 (.fld 1) [(.res 19)] none
    (.q 21 .ld [(.res 20)] none
    (.q 23 (.ixs 1) [(.res 21), (.slot 8)] none
    (.q 24 .ld [(.res 23)] none
    (.q 25 .mn [(.res 17), (.res 24)] none
    (.q 26 (.ixs 1) [(.res 3), (.res 7)] none
    (.x 27 (.st 1) [(.res 26), (.res 25)] none []
    (.out [(0, (.slot 0)), (4, (.slot 4))])))))))))))))))))))))))
    [0, 4, 5, 8]
abbrev from__l0 : NC :=
  (.seq (.seq from__r1
  (.cond (.slot 15)
    .skip
    (.exit 0)))
  (.block 1 (.seq from__r2
  (.seq (.seq from__r3
  (.cond (.slot 36)
    (.seq from__r4
    (.seq from__r5
    (.seq from__r6
    (.seq (.seq from__r7
    (.cond (.slot 51)
      (.seq from__r8
      from__r9)
      .skip))
    (.exit 1)))))
    .skip))
  (.seq from__r10
  (.seq from__r11
  (.block 2 (.seq from__r12
  (.cond (.slot 103)
    .skip
    (.seq from__r13
    (.cond (.slot 115)
      from__r14
      (.seq from__r15
      (.cond (.slot 130)
        from__r16
        .skip)))))))))))))
abbrev from__c : NC :=
  (.seq from__r0
  (.block 0 (.loop [0, 4] from__l0)))
abbrev from__F : FN := ⟨from__c, []⟩
theorem from__ok : compF Try.prog Try.f17 = some from__F := by kernel_rfl
/-! concord/graph.order -/
abbrev order__r0 : NC := .reg
    (.out [(0, (.slot 0)), (1, (.slot 1)), (2, (.slot 2))])
    [0, 1, 2]
abbrev order__r1 : NC := .reg
    (.q 1 .len [(.slot 2)] none
    (.x 2 (.mks 3 8 [(.int .i64 0)]) [(.res 1), (.res 1)] none []
    (.out [(0, (.slot 0)), (1, (.slot 1)), (2, (.slot 2)), (7, (.res 2))])))
    [0, 1, 2]
abbrev order__r2 : NC := .reg
    (.q 1 .len [(.slot 2)] none
    (.x 2 (.mks 26 24 [(.slice none 0 0)]) [(.res 1), (.res 1)] none []
    (.out [(0, (.slot 0)), (1, (.slot 1)), (2, (.slot 2)), (7, (.slot 7)), (8, (.res 2))])))
    [0, 1, 2, 7]
abbrev order__r3 : NC := .reg
    (.q 1 .len [(.slot 0)] none
    (.out [(0, (.slot 0)), (1, (.slot 1)), (2, (.slot 2)), (7, (.slot 7)), (8, (.slot 8)), (25, (.slot 0)), (26, (.res 1)), (27, (.const (.int .i64 0)))]))
    [0, 1, 2, 7, 8]
abbrev order__r4 : NC := .reg
    (.q 0 (.icm .lss) [(.slot 27), (.slot 26)] none
    (.out [(0, (.slot 0)), (1, (.slot 1)), (2, (.slot 2)), (7, (.slot 7)), (8, (.slot 8)), (25, (.slot 25)), (26, (.slot 26)), (27, (.slot 27)), (28, (.res 0))]))
    [0, 1, 2, 7, 8, 25, 26, 27]
abbrev order__r5 : NC := .reg
    (.q 1 (.ixs 1) [(.slot 25), (.slot 27)] none
    (.q 2 .ld [(.res 1)] none
    (.out [(0, (.slot 0)), (1, (.slot 1)), (2, (.slot 2)), (7, (.slot 7)), (8, (.slot 8)), (9, (.slot 27)), (10, (.res 2)), (25, (.slot 25)), (26, (.slot 26)), (27, (.slot 27))])))
    [0, 1, 2, 7, 8, 25, 26, 27]
abbrev order__r6 : NC := .reg
    (.q 1 .len [(.slot 10)] none
    (.out [(0, (.slot 0)), (1, (.slot 1)), (2, (.slot 2)), (7, (.slot 7)), (8, (.slot 8)), (9, (.slot 9)), (25, (.slot 25)), (26, (.slot 26)), (27, (.slot 27)), (32, (.slot 10)), (33, (.res 1)), (34, (.const (.int .i64 0)))]))
    [0, 1, 2, 7, 8, 9, 10, 25, 26, 27]
abbrev order__r7 : NC := .reg
    (.q 0 (.icm .lss) [(.slot 34), (.slot 33)] none
    (.out [(0, (.slot 0)), (1, (.slot 1)), (2, (.slot 2)), (7, (.slot 7)), (8, (.slot 8)), (9, (.slot 9)), (25, (.slot 25)), (26, (.slot 26)), (27, (.slot 27)), (32, (.slot 32)), (33, (.slot 33)), (34, (.slot 34)), (35, (.res 0))]))
    [0, 1, 2, 7, 8, 9, 25, 26, 27, 32, 33, 34]
abbrev order__r8 : NC := .reg
    (.q 0 (.ixs 1) [(.slot 32), (.slot 34)] none
    (.q 1 .ld [(.res 0)] none
    (.out [(0, (.slot 0)), (1, (.slot 1)), (2, (.slot 2)), (7, (.slot 7)), (8, (.slot 8)), (9, (.slot 9)), (12, (.res 1)), (25, (.slot 25)), (26, (.slot 26)), (27, (.slot 27)), (32, (.slot 32)), (33, (.slot 33)), (34, (.slot 34))])))
    [0, 1, 2, 7, 8, 9, 25, 26, 27, 32, 33, 34]
abbrev order__r9 : NC := .reg
    (.q 1 (.icm .geq) [(.slot 12), (.const (.int .i64 0))] none
    (.q 3 .mv [(.slot 12)] (some ((.res 1), true))
    (.q 4 .mv [(.slot 0)] (some ((.res 1), true))
    (.q 5 .len [(.res 4)] (some ((.res 1), true))
    (.q 6 (.icm .lss) [(.res 3), (.res 5)] (some ((.res 1), true))
    (.q 7 .pick [(.res 1), (.res 6), (.const (.bool false))] none
    (.q 9 .mv [(.slot 1)] (some ((.res 7), true))
    (.q 10 .mv [(.slot 12)] (some ((.res 7), true))
    (.q 11 (.ixs 1) [(.res 9), (.res 10)] (some ((.res 7), true))
    (.q 12 .ld [(.res 11)] (some ((.res 7), true))
    (.q 13 .mv [(.slot 1)] (some ((.res 7), true))
    (.q 14 .mv [(.slot 9)] (some ((.res 7), true))
    (.q 15 (.ixs 1) [(.res 13), (.res 14)] (some ((.res 7), true))
    (.q 16 .ld [(.res 15)] (some ((.res 7), true))
    (.q 17 (.icm .neq) [(.res 12), (.res 16)] (some ((.res 7), true))
    (.q 18 .pick [(.res 7), (.res 17), (.const (.bool false))] none
    (.out [(0, (.slot 0)), (1, (.slot 1)), (2, (.slot 2)), (7, (.slot 7)), (8, (.slot 8)), (9, (.slot 9)), (12, (.slot 12)), (25, (.slot 25)), (26, (.slot 26)), (27, (.slot 27)), (32, (.slot 32)), (33, (.slot 33)), (34, (.slot 34)), (56, (.res 18))])))))))))))))))))
    [0, 1, 2, 7, 8, 9, 12, 25, 26, 27, 32, 33, 34]
abbrev order__r10 : NC := .reg
    (.q 3 (.ixs 1) [(.slot 1), (.slot 9)] none
    (.q 4 .ld [(.res 3)] none
    (.q 5 (.ixs 1) [(.slot 7), (.res 4)] none
    (.q 6 .ld [(.res 5)] none
    (.q 7 (.iar .add) [(.res 6), (.const (.int .i64 1))] none
    (.q 8 (.ixs 1) [(.slot 7), (.res 4)] none
    (.x 9 (.st 1) [(.res 8), (.res 7)] none []
    (.out [(0, (.slot 0)), (1, (.slot 1)), (2, (.slot 2)), (7, (.slot 7)), (8, (.slot 8)), (9, (.slot 9)), (12, (.slot 12)), (25, (.slot 25)), (26, (.slot 26)), (27, (.slot 27)), (32, (.slot 32)), (33, (.slot 33)), (34, (.slot 34))]))))))))
    [0, 1, 2, 7, 8, 9, 12, 25, 26, 27, 32, 33, 34]
abbrev order__r11 : NC := .reg
    (.q 3 (.ixs 1) [(.slot 1), (.slot 12)] none
    (.q 4 .ld [(.res 3)] none
    (.q 8 (.ixs 1) [(.slot 1), (.slot 12)] none
    (.q 9 .ld [(.res 8)] none
    (.q 10 (.ixs 1) [(.slot 8), (.res 9)] none
    (.q 11 .ld [(.res 10)] none
    (.q 14 (.ixs 1) [(.slot 1), (.slot 9)] none
    (.q 15 .ld [(.res 14)] none
    (.x 16 (.bsl 3 1 [(.int .i64 0)] [(0, 1)]) [(.res 15)] none [(4, .ld, [(.res 3)], none), (9, .ld, [(.res 8)], none), (11, .ld, [(.res 10)], none)]
    (.x 17 (.app 3 1 8 [(.int .i64 0)]) [(.res 11), (.res 16)] none [(4, .ld, [(.res 3)], none)]
    (.q 18 (.ixs 1) [(.slot 8), (.res 4)] none
    (.x 19 (.st 1) [(.res 18), (.res 17)] none []
    (.out [(0, (.slot 0)), (1, (.slot 1)), (2, (.slot 2)), (7, (.slot 7)), (8, (.slot 8)), (9, (.slot 9)), (25, (.slot 25)), (26, (.slot 26)), (27, (.slot 27)), (32, (.slot 32)), (33, (.slot 33)), (34, (.slot 34))])))))))))))))
    [0, 1, 2, 7, 8, 9, 12, 25, 26, 27, 32, 33, 34]
abbrev order__r12 : NC := .reg
    (.q 0 (.iar .add) [(.slot 34), (.const (.int .i64 1))] none
    (.out [(0, (.slot 0)), (1, (.slot 1)), (2, (.slot 2)), (7, (.slot 7)), (8, (.slot 8)), (9, (.slot 9)), (25, (.slot 25)), (26, (.slot 26)), (27, (.slot 27)), (32, (.slot 32)), (33, (.slot 33)), (34, (.res 0))]))
    [0, 1, 2, 7, 8, 9, 25, 26, 27, 32, 33, 34]
abbrev order__l0 : NC :=
  (.seq order__r7
  (.seq (.cond (.slot 35)
    .skip
    (.exit 2))
  (.seq (.block 3 (.seq order__r8
  (.seq order__r9
  (.cond (.slot 56)
    (.seq order__r10
    order__r11)
    .skip))))
  order__r12)))
abbrev order__r13 : NC := .reg
    (.q 0 (.iar .add) [(.slot 27), (.const (.int .i64 1))] none
    (.out [(0, (.slot 0)), (1, (.slot 1)), (2, (.slot 2)), (7, (.slot 7)), (8, (.slot 8)), (25, (.slot 25)), (26, (.slot 26)), (27, (.res 0))]))
    [0, 1, 2, 7, 8, 25, 26, 27]
abbrev order__l1 : NC :=
  (.seq order__r4
  (.seq (.cond (.slot 28)
    .skip
    (.exit 0))
  (.seq (.block 1 (.seq order__r5
  (.seq order__r6
  (.block 2 (.loop [0, 1, 2, 7, 8, 9, 25, 26, 27, 32, 33, 34] order__l0)))))
  order__r13)))
abbrev order__r14 : NC := .reg
    (.q 1 .len [(.slot 2)] none
    (.x 2 (.mks 3 8 [(.int .i64 0)]) [(.res 1), (.res 1)] none []
    (.out [(2, (.slot 2)), (7, (.slot 7)), (8, (.slot 8)), (13, (.res 2))])))
    [2, 7, 8]
abbrev order__r15 : NC := .reg
    (.out [(2, (.slot 2)), (7, (.slot 7)), (8, (.slot 8)), (13, (.slot 13)), (14, (.const (.slice none 0 0)))])
    [2, 7, 8, 13]
abbrev order__r16 : NC := .reg
    (.q 1 .len [(.slot 14)] none
    (.q 3 .len [(.slot 2)] none
    (.q 4 (.icm .lss) [(.res 1), (.res 3)] none
    (.out [(2, (.slot 2)), (7, (.slot 7)), (8, (.slot 8)), (13, (.slot 13)), (14, (.slot 14)), (94, (.res 4))]))))
    [2, 7, 8, 13, 14]
abbrev order__r17 : NC := .reg
    (.out [(2, (.slot 2)), (7, (.slot 7)), (8, (.slot 8)), (13, (.slot 13)), (14, (.slot 14)), (15, (.const (.int .i64 (-1))))])
    [2, 7, 8, 13, 14]
abbrev order__r18 : NC := .reg
    (.q 1 .len [(.slot 2)] none
    (.out [(2, (.slot 2)), (7, (.slot 7)), (8, (.slot 8)), (13, (.slot 13)), (14, (.slot 14)), (15, (.slot 15)), (96, (.res 1)), (97, (.const (.int .i64 0)))]))
    [2, 7, 8, 13, 14, 15]
abbrev order__r19 : NC := .reg
    (.q 0 (.icm .lss) [(.slot 97), (.slot 96)] none
    (.out [(2, (.slot 2)), (7, (.slot 7)), (8, (.slot 8)), (13, (.slot 13)), (14, (.slot 14)), (15, (.slot 15)), (96, (.slot 96)), (97, (.slot 97)), (98, (.res 0))]))
    [2, 7, 8, 13, 14, 15, 96, 97]
abbrev order__r20 : NC := .reg
    (.out [(2, (.slot 2)), (7, (.slot 7)), (8, (.slot 8)), (13, (.slot 13)), (14, (.slot 14)), (15, (.slot 15)), (16, (.slot 97)), (96, (.slot 96)), (97, (.slot 97))])
    [2, 7, 8, 13, 14, 15, 96, 97]
abbrev order__r21 : NC := .reg
    (.q 2 (.ixs 1) [(.slot 13), (.slot 16)] none
    (.q 3 .ld [(.res 2)] none
    (.q 4 (.icm .eql) [(.res 3), (.const (.int .i64 0))] none
    (.q 6 .mv [(.slot 7)] (some ((.res 4), true))
    (.q 7 .mv [(.slot 16)] (some ((.res 4), true))
    (.q 8 (.ixs 1) [(.res 6), (.res 7)] (some ((.res 4), true))
    (.q 9 .ld [(.res 8)] (some ((.res 4), true))
    (.q 10 (.icm .eql) [(.res 9), (.const (.int .i64 0))] (some ((.res 4), true))
    (.q 11 .pick [(.res 4), (.res 10), (.const (.bool false))] none
    (.q 13 .mv [(.slot 15)] (some ((.res 11), true))
    (.q 14 (.icm .lss) [(.res 13), (.const (.int .i64 0))] (some ((.res 11), true))
    (.q 15 .mv [(.res 14)] (some ((.res 11), true))
    (.q 16 .mv [(.slot 2)] (some ((.res 15), false))
    (.q 17 .mv [(.slot 16)] (some ((.res 15), false))
    (.q 18 (.ixs 1) [(.res 16), (.res 17)] (some ((.res 15), false))
    (.q 19 .ld [(.res 18)] (some ((.res 15), false))
    (.q 20 (.ixs 1) [(.res 19), (.const (.int .i64 0))] (some ((.res 15), false))
    (.q 21 .ld [(.res 20)] (some ((.res 15), false))
    (.q 22 .mv [(.slot 2)] (some ((.res 15), false))
    (.q 23 .mv [(.slot 15)] (some ((.res 15), false))
    (.q 24 (.ixs 1) [(.res 22), (.res 23)] (some ((.res 15), false))
    (.q 25 .ld [(.res 24)] (some ((.res 15), false))
    (.q 26 (.ixs 1) [(.res 25), (.const (.int .i64 0))] (some ((.res 15), false))
    (.q 27 .ld [(.res 26)] (some ((.res 15), false))
    (.q 28 (.icm .lss) [(.res 21), (.res 27)] (some ((.res 15), false))
    (.q 29 .pick [(.res 15), (.const (.bool true)), (.res 28)] (some ((.res 11), true))
    (.q 30 .pick [(.res 11), (.res 29), (.const (.bool false))] none
    (.out [(2, (.slot 2)), (7, (.slot 7)), (8, (.slot 8)), (13, (.slot 13)), (14, (.slot 14)), (15, (.slot 15)), (16, (.slot 16)), (96, (.slot 96)), (97, (.slot 97)), (130, (.res 30))]))))))))))))))))))))))))))))
    [2, 7, 8, 13, 14, 15, 16, 96, 97]
abbrev order__r22 : NC := .reg
    (.out [(2, (.slot 2)), (7, (.slot 7)), (8, (.slot 8)), (13, (.slot 13)), (14, (.slot 14)), (15, (.slot 16)), (96, (.slot 96)), (97, (.slot 97))])
    [2, 7, 8, 13, 14, 16, 96, 97]
abbrev order__r23 : NC := .reg
    (.q 0 (.iar .add) [(.slot 97), (.const (.int .i64 1))] none
    (.out [(2, (.slot 2)), (7, (.slot 7)), (8, (.slot 8)), (13, (.slot 13)), (14, (.slot 14)), (15, (.slot 15)), (96, (.slot 96)), (97, (.res 0))]))
    [2, 7, 8, 13, 14, 15, 96, 97]
abbrev order__l2 : NC :=
  (.seq order__r19
  (.seq (.cond (.slot 98)
    .skip
    (.exit 6))
  (.seq (.block 7 (.seq order__r20
  (.seq order__r21
  (.cond (.slot 130)
    order__r22
    .skip))))
  order__r23)))
abbrev order__r24 : NC := .reg
    (.q 2 (.ixs 1) [(.slot 13), (.slot 15)] none
    (.x 3 (.st 1) [(.res 2), (.const (.int .i64 1))] none []
    (.out [(2, (.slot 2)), (7, (.slot 7)), (8, (.slot 8)), (13, (.slot 13)), (14, (.slot 14)), (15, (.slot 15))])))
    [2, 7, 8, 13, 14, 15]
abbrev order__r25 : NC := .reg
    (.q 3 (.ixs 1) [(.slot 2), (.slot 15)] none
    (.q 4 .ld [(.res 3)] none
    (.x 5 (.bsl 26 1 [(.slice none 0 0)] [(0, 1)]) [(.res 4)] none []
    (.x 6 (.app 26 1 24 [(.slice none 0 0)]) [(.slot 14), (.res 5)] none []
    (.out [(2, (.slot 2)), (7, (.slot 7)), (8, (.slot 8)), (13, (.slot 13)), (14, (.res 6)), (15, (.slot 15))])))))
    [2, 7, 8, 13, 14, 15]
abbrev order__r26 : NC := .reg
    (.q 2 (.ixs 1) [(.slot 8), (.slot 15)] none
    (.q 3 .ld [(.res 2)] none
    (.q 4 .len [(.res 3)] none
    (.out [(2, (.slot 2)), (7, (.slot 7)), (8, (.slot 8)), (13, (.slot 13)), (14, (.slot 14)), (146, (.res 3)), (147, (.res 4)), (148, (.const (.int .i64 0)))]))))
    [2, 7, 8, 13, 14, 15]
abbrev order__r27 : NC := .reg
    (.q 0 (.icm .lss) [(.slot 148), (.slot 147)] none
    (.out [(2, (.slot 2)), (7, (.slot 7)), (8, (.slot 8)), (13, (.slot 13)), (14, (.slot 14)), (146, (.slot 146)), (147, (.slot 147)), (148, (.slot 148)), (149, (.res 0))]))
    [2, 7, 8, 13, 14, 146, 147, 148]
abbrev order__r28 : NC := .reg
    (.q 0 (.ixs 1) [(.slot 146), (.slot 148)] none
    (.q 1 .ld [(.res 0)] none
    (.out [(2, (.slot 2)), (7, (.slot 7)), (8, (.slot 8)), (13, (.slot 13)), (14, (.slot 14)), (18, (.res 1)), (146, (.slot 146)), (147, (.slot 147)), (148, (.slot 148))])))
    [2, 7, 8, 13, 14, 146, 147, 148]
abbrev order__r29 : NC := .reg
    (.q 2 (.ixs 1) [(.slot 7), (.slot 18)] none
    (.q 3 .ld [(.res 2)] none
    (.q 4 (.iar .sub) [(.res 3), (.const (.int .i64 1))] none
    (.q 5 (.ixs 1) [(.slot 7), (.slot 18)] none
    (.x 6 (.st 1) [(.res 5), (.res 4)] none []
    (.out [(2, (.slot 2)), (7, (.slot 7)), (8, (.slot 8)), (13, (.slot 13)), (14, (.slot 14)), (146, (.slot 146)), (147, (.slot 147)), (148, (.slot 148))]))))))
    [2, 7, 8, 13, 14, 18, 146, 147, 148]
abbrev order__r30 : NC := .reg
    (.q 0 (.iar .add) [(.slot 148), (.const (.int .i64 1))] none
    (.out [(2, (.slot 2)), (7, (.slot 7)), (8, (.slot 8)), (13, (.slot 13)), (14, (.slot 14)), (146, (.slot 146)), (147, (.slot 147)), (148, (.res 0))]))
    [2, 7, 8, 13, 14, 146, 147, 148]
abbrev order__l3 : NC :=
  (.seq order__r27
  (.seq (.cond (.slot 149)
    .skip
    (.exit 8))
  (.seq (.block 9 (.seq order__r28
  order__r29))
  order__r30)))
abbrev order__l4 : NC :=
  (.seq (.seq order__r16
  (.cond (.slot 94)
    .skip
    (.exit 4)))
  (.block 5 (.seq order__r17
  (.seq (.seq order__r18
  (.block 6 (.loop [2, 7, 8, 13, 14, 15, 96, 97] order__l2)))
  (.seq order__r24
  (.seq order__r25
  (.seq order__r26
  (.block 8 (.loop [2, 7, 8, 13, 14, 146, 147, 148] order__l3)))))))))
abbrev order__r31 : NC := .reg
    (.out [(6, (.slot 14))])
    [14]
abbrev order__c : NC :=
  (.seq order__r0
  (.seq order__r1
  (.seq order__r2
  (.seq (.seq order__r3
  (.block 0 (.loop [0, 1, 2, 7, 8, 25, 26, 27] order__l1)))
  (.seq order__r14
  (.seq order__r15
  (.seq (.block 4 (.loop [2, 7, 8, 13, 14] order__l4))
  (.seq order__r31
  .ret))))))))
abbrev order__F : FN := ⟨order__c, [.slot 6]⟩
theorem order__ok : compF Try.prog Try.f18 = some order__F := by kernel_rfl
/-! concord/concordbook.Same[int] -/
abbrev same1_r0 : NC := .reg
    (.out [(0, (.slot 0)), (1, (.slot 1))])
    [0, 1]
abbrev same1_r1 : NC := .reg
    (.q 1 .len [(.slot 0)] none
    (.q 3 .len [(.slot 1)] none
    (.q 4 (.icm .neq) [(.res 1), (.res 3)] none
    (.out [(0, (.slot 0)), (1, (.slot 1)), (10, (.res 4))]))))
    [0, 1]
abbrev same1_r2 : NC := .reg
    (.out [(4, (.const (.bool false)))])
    []
abbrev same1_r3 : NC := .reg
    (.out [(0, (.slot 0)), (1, (.slot 1)), (5, (.const (.int .i64 0)))])
    [0, 1]
abbrev same1_r4 : NC := .reg
    (.q 2 .len [(.slot 0)] none
    (.q 3 (.icm .lss) [(.slot 5), (.res 2)] none
    (.out [(0, (.slot 0)), (1, (.slot 1)), (5, (.slot 5)), (14, (.res 3))])))
    [0, 1, 5]
abbrev same1_r5 : NC := .reg
    (.q 2 (.ixs 1) [(.slot 0), (.slot 5)] none
    (.q 3 .ld [(.res 2)] none
    (.q 6 (.ixs 1) [(.slot 1), (.slot 5)] none
    (.q 7 .ld [(.res 6)] none
    (.q 8 (.icm .neq) [(.res 3), (.res 7)] none
    (.out [(0, (.slot 0)), (1, (.slot 1)), (5, (.slot 5)), (25, (.res 8))]))))))
    [0, 1, 5]
abbrev same1_r6 : NC := .reg
    (.out [(4, (.const (.bool false)))])
    []
abbrev same1_r7 : NC := .reg
    (.q 1 (.iar .add) [(.slot 5), (.const (.int .i64 1))] none
    (.out [(0, (.slot 0)), (1, (.slot 1)), (5, (.res 1))]))
    [0, 1, 5]
abbrev same1_l0 : NC :=
  (.seq (.seq same1_r4
  (.cond (.slot 14)
    .skip
    (.exit 0)))
  (.seq (.block 1 (.seq same1_r5
  (.cond (.slot 25)
    (.seq same1_r6
    .ret)
    .skip)))
  same1_r7))
abbrev same1_r8 : NC := .reg
    (.out [(4, (.const (.bool true)))])
    []
abbrev same1_c : NC :=
  (.seq same1_r0
  (.seq (.seq same1_r1
  (.cond (.slot 10)
    (.seq same1_r2
    .ret)
    .skip))
  (.seq (.seq same1_r3
  (.block 0 (.loop [0, 1, 5] same1_l0)))
  (.seq same1_r8
  .ret))))
abbrev same1_F : FN := ⟨same1_c, [.slot 4]⟩
theorem same1_ok : compF Try.prog Try.f19 = some same1_F := by kernel_rfl
/-! concord/concordref19.reach -/
abbrev reach_r0 : NC := .reg
    (.out [(0, (.slot 0))])
    [0]
abbrev reach_r1 : NC := .reg
    (.q 1 .len [(.slot 0)] none
    (.out [(0, (.slot 0)), (3, (.res 1))]))
    [0]
abbrev reach_r2 : NC := .reg
    (.x 1 (.mks 38 24 [(.slice none 0 0)]) [(.slot 3), (.slot 3)] none []
    (.out [(0, (.slot 0)), (3, (.slot 3)), (4, (.res 1))]))
    [0, 3]
abbrev reach_r3 : NC := .reg
    (.out [(0, (.slot 0)), (3, (.slot 3)), (4, (.slot 4)), (5, (.const (.int .i64 0)))])
    [0, 3, 4]
abbrev reach_r4 : NC := .reg
    (.q 2 (.icm .lss) [(.slot 5), (.slot 3)] none
    (.out [(0, (.slot 0)), (3, (.slot 3)), (4, (.slot 4)), (5, (.slot 5)), (16, (.res 2))]))
    [0, 3, 4, 5]
abbrev reach_r5 : NC := .reg
    (.x 3 (.mks 4 1 [(.bool false)]) [(.slot 3), (.slot 3)] none []
    (.q 4 (.ixs 1) [(.slot 4), (.slot 5)] none
    (.x 5 (.st 1) [(.res 4), (.res 3)] none []
    (.out [(0, (.slot 0)), (3, (.slot 3)), (4, (.slot 4)), (5, (.slot 5))]))))
    [0, 3, 4, 5]
abbrev reach_r6 : NC := .reg
    (.x 1 (.bsl 3 1 [(.int .i64 0)] [(0, 1)]) [(.slot 5)] none []
    (.out [(0, (.slot 0)), (3, (.slot 3)), (4, (.slot 4)), (5, (.slot 5)), (6, (.res 1))]))
    [0, 3, 4, 5]
abbrev reach_r7 : NC := .reg
    (.q 2 (.ixs 1) [(.slot 4), (.slot 5)] none
    (.q 3 .ld [(.res 2)] none
    (.q 5 (.ixs 1) [(.res 3), (.slot 5)] none
    (.x 6 (.st 1) [(.res 5), (.const (.bool true))] none []
    (.out [(0, (.slot 0)), (3, (.slot 3)), (4, (.slot 4)), (5, (.slot 5)), (6, (.slot 6))])))))
    [0, 3, 4, 5, 6]
abbrev reach_r8 : NC := .reg
    (.q 1 .len [(.slot 6)] none
    (.q 2 (.icm .gtr) [(.res 1), (.const (.int .i64 0))] none
    (.out [(0, (.slot 0)), (3, (.slot 3)), (4, (.slot 4)), (5, (.slot 5)), (6, (.slot 6)), (34, (.res 2))])))
    [0, 3, 4, 5, 6]
abbrev reach_r9 : NC := .reg
    (.q 2 .len [(.slot 6)] none
    (.q 3 (.iar .sub) [(.res 2), (.const (.int .i64 1))] none
    (.q 4 (.ixs 1) [(.slot 6), (.res 3)] none
    (.q 5 .ld [(.res 4)] none
    (.out [(0, (.slot 0)), (3, (.slot 3)), (4, (.slot 4)), (5, (.slot 5)), (6, (.slot 6)), (7, (.res 5))])))))
    [0, 3, 4, 5, 6]
abbrev reach_r10 : NC := .reg
    (.q 2 .len [(.slot 6)] none
    (.q 3 (.iar .sub) [(.res 2), (.const (.int .i64 1))] none
    (.q 4 (.slc 1 false true) [(.slot 6), (.res 3)] none
    (.out [(0, (.slot 0)), (3, (.slot 3)), (4, (.slot 4)), (5, (.slot 5)), (6, (.res 4)), (7, (.slot 7))]))))
    [0, 3, 4, 5, 6, 7]
abbrev reach_r11 : NC := .reg
    (.out [(0, (.slot 0)), (3, (.slot 3)), (4, (.slot 4)), (5, (.slot 5)), (6, (.slot 6)), (7, (.slot 7)), (8, (.const (.int .i64 0)))])
    [0, 3, 4, 5, 6, 7]
abbrev reach_r12 : NC := .reg
    (.q 3 (.ixs 1) [(.slot 0), (.slot 7)] none
    (.q 4 .ld [(.res 3)] none
    (.q 5 .len [(.res 4)] none
    (.q 6 (.icm .lss) [(.slot 8), (.res 5)] none
    (.out [(0, (.slot 0)), (3, (.slot 3)), (4, (.slot 4)), (5, (.slot 5)), (6, (.slot 6)), (7, (.slot 7)), (8, (.slot 8)), (52, (.res 6))])))))
    [0, 3, 4, 5, 6, 7, 8]
abbrev reach_r13 : NC := .reg
    (.q 2 (.ixs 1) [(.slot 0), (.slot 7)] none
    (.q 3 .ld [(.res 2)] none
    (.q 5 (.ixs 1) [(.res 3), (.slot 8)] none
    (.q 6 .ld [(.res 5)] none
    (.out [(0, (.slot 0)), (3, (.slot 3)), (4, (.slot 4)), (5, (.slot 5)), (6, (.slot 6)), (7, (.slot 7)), (8, (.slot 8)), (9, (.res 6))])))))
    [0, 3, 4, 5, 6, 7, 8]
abbrev reach_r14 : NC := .reg
    (.q 1 (.icm .geq) [(.slot 9), (.const (.int .i64 0))] none
    (.q 3 .mv [(.slot 9)] (some ((.res 1), true))
    (.q 4 .mv [(.slot 3)] (some ((.res 1), true))
    (.q 5 (.icm .lss) [(.res 3), (.res 4)] (some ((.res 1), true))
    (.q 6 .pick [(.res 1), (.res 5), (.const (.bool false))] none
    (.q 8 .mv [(.slot 4)] (some ((.res 6), true))
    (.q 9 .mv [(.slot 5)] (some ((.res 6), true))
    (.q 10 (.ixs 1) [(.res 8), (.res 9)] (some ((.res 6), true))
    (.q 11 .ld [(.res 10)] (some ((.res 6), true))
    (.q 12 .mv [(.slot 9)] (some ((.res 6), true))
    (.q 13 (.ixs 1) [(.res 11), (.res 12)] (some ((.res 6), true))
    (.q 14 .ld [(.res 13)] (some ((.res 6), true))
    (.q 15 .not [(.res 14)] (some ((.res 6), true))
    (.q 16 .pick [(.res 6), (.res 15), (.const (.bool false))] none
    (.out [(0, (.slot 0)), (3, (.slot 3)), (4, (.slot 4)), (5, (.slot 5)), (6, (.slot 6)), (7, (.slot 7)), (8, (.slot 8)), (9, (.slot 9)), (78, (.res 16))])))))))))))))))
    [0, 3, 4, 5, 6, 7, 8, 9]
abbrev reach_r15 : NC := .reg
    (.q 2 (.ixs 1) [(.slot 4), (.slot 5)] none
    (.q 3 .ld [(.res 2)] none
    (.q 5 (.ixs 1) [(.res 3), (.slot 9)] none
    (.x 6 (.st 1) [(.res 5), (.const (.bool true))] none []
    (.out [(0, (.slot 0)), (3, (.slot 3)), (4, (.slot 4)), (5, (.slot 5)), (6, (.slot 6)), (7, (.slot 7)), (8, (.slot 8)), (9, (.slot 9))])))))
    [0, 3, 4, 5, 6, 7, 8, 9]
abbrev reach_r16 : NC := .reg
    (.x 2 (.bsl 3 1 [(.int .i64 0)] [(0, 1)]) [(.slot 9)] none []
    (.x 3 (.app 3 1 8 [(.int .i64 0)]) [(.slot 6), (.res 2)] none []
    (.out [(0, (.slot 0)), (3, (.slot 3)), (4, (.slot 4)), (5, (.slot 5)), (6, (.res 3)), (7, (.slot 7)), (8, (.slot 8))])))
    [0, 3, 4, 5, 6, 7, 8, 9]
abbrev reach_r17 : NC := .reg
    (.q 1 (.iar .add) [(.slot 8), (.const (.int .i64 1))] none
    (.out [(0, (.slot 0)), (3, (.slot 3)), (4, (.slot 4)), (5, (.slot 5)), (6, (.slot 6)), (7, (.slot 7)), (8, (.res 1))]))
    [0, 3, 4, 5, 6, 7, 8]
abbrev reach_l0 : NC :=
  (.seq (.seq reach_r12
  (.cond (.slot 52)
    .skip
    (.exit 4)))
  (.seq (.block 5 (.seq reach_r13
  (.seq reach_r14
  (.cond (.slot 78)
    (.seq reach_r15
    reach_r16)
    .skip))))
  reach_r17))
abbrev reach_l1 : NC :=
  (.seq (.seq reach_r8
  (.cond (.slot 34)
    .skip
    (.exit 2)))
  (.block 3 (.seq reach_r9
  (.seq reach_r10
  (.seq reach_r11
  (.block 4 (.loop [0, 3, 4, 5, 6, 7, 8] reach_l0)))))))
abbrev reach_r18 : NC := .reg
    (.q 1 (.iar .add) [(.slot 5), (.const (.int .i64 1))] none
    (.out [(0, (.slot 0)), (3, (.slot 3)), (4, (.slot 4)), (5, (.res 1))]))
    [0, 3, 4, 5]
abbrev reach_l2 : NC :=
  (.seq (.seq reach_r4
  (.cond (.slot 16)
    .skip
    (.exit 0)))
  (.seq (.block 1 (.seq reach_r5
  (.seq reach_r6
  (.seq reach_r7
  (.block 2 (.loop [0, 3, 4, 5, 6] reach_l1))))))
  reach_r18))
abbrev reach_r19 : NC := .reg
    (.out [(2, (.slot 4))])
    [4]
abbrev reach_c : NC :=
  (.seq reach_r0
  (.seq reach_r1
  (.seq reach_r2
  (.seq (.seq reach_r3
  (.block 0 (.loop [0, 3, 4, 5] reach_l2)))
  (.seq reach_r19
  .ret)))))
abbrev reach_F : FN := ⟨reach_c, [.slot 2]⟩
theorem reach_ok : compF Try.prog Try.f20 = some reach_F := by kernel_rfl
/-! (*concord/graph.walk).come -/
abbrev come_r0 : NC := .reg
    (.x 0 (.alc [(.int .i64 0), (.int .i64 0)] 47) [] none []
    (.out [(0, (.slot 0)), (1, (.slot 1)), (4, (.res 0))]))
    [0, 1]
abbrev come_r1 : NC := .reg
    (.q 1 .nilck [(.slot 0)] none
    (.q 2 (.fld 7) [(.res 1)] none
    (.q 3 .ld [(.res 2)] none
    (.q 4 (.iar .add) [(.res 3), (.const (.int .i64 1))] none
    (.q 5 .nilck [(.slot 0)] none
    (.q 6 (.fld 7) [(.res 5)] none
    (.x 7 (.st 1) [(.res 6), (.res 4)] none []
    (.out [(0, (.slot 0)), (1, (.slot 1)), (4, (.slot 4))]))))))))
    [0, 1, 4]
abbrev come_r2 : NC := .reg
    (.q 1 .nilck [(.slot 0)] none
    (.q 2 (.fld 1) [(.res 1)] none
    (.q 3 .ld [(.res 2)] none
    (.q 6 .nilck [(.slot 0)] none
    (.q 7 (.fld 2) [(.res 6)] none
    (.q 8 .ld [(.res 7)] none
    (.q 11 .nilck [(.slot 0)] none
    (.q 12 (.fld 3) [(.res 11)] none
    (.q 13 .ld [(.res 12)] none
    (.q 16 .nilck [(.slot 0)] none
    (.q 17 (.fld 7) [(.res 16)] none
    (.q 18 .ld [(.res 17)] none
    (.q 20 .nilck [(.slot 0)] none
    (.q 21 (.fld 7) [(.res 20)] none
    (.q 22 .ld [(.res 21)] none
    (.q 23 (.ixs 1) [(.res 3), (.slot 1)] none
    (.x 24 (.st 1) [(.res 23), (.res 18)] none []
    (.q 25 (.ixs 1) [(.res 8), (.slot 1)] none
    (.x 26 (.st 1) [(.res 25), (.res 22)] none []
    (.q 27 (.ixs 1) [(.res 13), (.slot 1)] none
    (.x 28 (.st 1) [(.res 27), (.const (.bool true))] none []
    (.out [(0, (.slot 0)), (1, (.slot 1)), (4, (.slot 4))]))))))))))))))))))))))
    [0, 1, 4]
abbrev come_r3 : NC := .reg
    (.q 2 .nilck [(.slot 0)] none
    (.q 3 (.fld 4) [(.res 2)] none
    (.q 4 .ld [(.res 3)] none
    (.x 6 (.bsl 3 1 [(.int .i64 0)] [(0, 1)]) [(.slot 1)] none []
    (.x 7 (.app 3 1 8 [(.int .i64 0)]) [(.res 4), (.res 6)] none []
    (.q 8 .nilck [(.slot 0)] none
    (.q 9 (.fld 4) [(.res 8)] none
    (.x 10 (.st 1) [(.res 9), (.res 7)] none []
    (.out [(1, (.slot 1)), (4, (.slot 4))])))))))))
    [0, 1, 4]
abbrev come_r4 : NC := .reg
    (.q 1 (.bld [(.int .i64 0), (.int .i64 0)] [(0, 1), (1, 1)]) [(.slot 1), (.const (.int .i64 0))] none
    (.x 2 (.st 2) [(.slot 4), (.res 1)] none []
    (.out [(4, (.slot 4))])))
    [1, 4]
abbrev come_c : NC :=
  (.seq come_r0
  (.seq come_r1
  (.seq come_r2
  (.seq come_r3
  (.seq come_r4
  .ret)))))
abbrev come_F : FN := ⟨come_c, [.cells 4 2]⟩
theorem come_ok : compF Try.prog Try.f21 = some come_F := by kernel_rfl
/-! (*concord/graph.walk).leave -/
abbrev leave_r0 : NC := .reg
    (.q 1 .nilck [(.slot 0)] none
    (.q 2 (.fld 2) [(.res 1)] none
    (.q 3 .ld [(.res 2)] none
    (.q 5 (.ixs 1) [(.res 3), (.slot 1)] none
    (.q 6 .ld [(.res 5)] none
    (.q 8 .nilck [(.slot 0)] none
    (.q 9 (.fld 1) [(.res 8)] none
    (.q 10 .ld [(.res 9)] none
    (.q 12 (.ixs 1) [(.res 10), (.slot 1)] none
    (.q 13 .ld [(.res 12)] none
    (.q 14 (.icm .neq) [(.res 6), (.res 13)] none
    (.out [(0, (.slot 0)), (1, (.slot 1)), (19, (.res 14))]))))))))))))
    [0, 1]
abbrev leave_r1 : NC := .reg
    (.q 1 .nilck [(.slot 0)] none
    (.q 2 (.fld 4) [(.res 1)] none
    (.q 3 .ld [(.res 2)] none
    (.q 5 .nilck [(.slot 0)] none
    (.q 6 (.fld 4) [(.res 5)] none
    (.q 7 .ld [(.res 6)] none
    (.q 8 .len [(.res 7)] none
    (.q 9 (.iar .sub) [(.res 8), (.const (.int .i64 1))] none
    (.q 10 (.ixs 1) [(.res 3), (.res 9)] none
    (.q 11 .ld [(.res 10)] none
    (.out [(0, (.slot 0)), (1, (.slot 1)), (4, (.res 11))])))))))))))
    [0, 1]
abbrev leave_r2 : NC := .reg
    (.q 2 .nilck [(.slot 0)] none
    (.q 3 (.fld 4) [(.res 2)] none
    (.q 4 .ld [(.res 3)] none
    (.q 6 .nilck [(.slot 0)] none
    (.q 7 (.fld 4) [(.res 6)] none
    (.q 8 .ld [(.res 7)] none
    (.q 9 .len [(.res 8)] none
    (.q 10 (.iar .sub) [(.res 9), (.const (.int .i64 1))] none
    (.q 11 (.slc 1 false true) [(.res 4), (.res 10)] none
    (.q 12 .nilck [(.slot 0)] none
    (.q 13 (.fld 4) [(.res 12)] none
    (.x 14 (.st 1) [(.res 13), (.res 11)] none []
    (.out [(0, (.slot 0)), (1, (.slot 1)), (4, (.slot 4))])))))))))))))
    [0, 1, 4]
abbrev leave_r3 : NC := .reg
    (.q 1 .nilck [(.slot 0)] none
    (.q 2 (.fld 3) [(.res 1)] none
    (.q 3 .ld [(.res 2)] none
    (.q 6 .nilck [(.slot 0)] none
    (.q 7 (.fld 5) [(.res 6)] none
    (.q 8 .ld [(.res 7)] none
    (.q 11 .nilck [(.slot 0)] none
    (.q 12 (.fld 6) [(.res 11)] none
    (.q 13 .ld [(.res 12)] none
    (.q 14 (.ixs 1) [(.res 3), (.slot 4)] none
    (.x 15 (.st 1) [(.res 14), (.const (.bool false))] none []
    (.q 16 (.ixs 1) [(.res 8), (.slot 4)] none
    (.x 17 (.st 1) [(.res 16), (.res 13)] none []
    (.out [(0, (.slot 0)), (1, (.slot 1)), (4, (.slot 4))]))))))))))))))
    [0, 1, 4]
abbrev leave_r4 : NC := .reg
    (.q 2 (.icm .eql) [(.slot 4), (.slot 1)] none
    (.out [(0, (.slot 0)), (1, (.slot 1)), (64, (.res 2))]))
    [0, 1, 4]
abbrev leave_l0 : NC :=
  (.block 1 (.seq leave_r1
  (.seq leave_r2
  (.seq leave_r3
  (.seq leave_r4
  (.cond (.slot 64)
    (.exit 0)
    .skip))))))
abbrev leave_r5 : NC := .reg
    (.q 1 .nilck [(.slot 0)] none
    (.q 2 (.fld 6) [(.res 1)] none
    (.q 3 .ld [(.res 2)] none
    (.q 4 (.iar .add) [(.res 3), (.const (.int .i64 1))] none
    (.q 5 .nilck [(.slot 0)] none
    (.q 6 (.fld 6) [(.res 5)] none
    (.x 7 (.st 1) [(.res 6), (.res 4)] none []
    (.out []))))))))
    [0]
abbrev leave_c : NC :=
  (.seq (.seq leave_r0
  (.cond (.slot 19)
    .ret
    .skip))
  (.seq (.block 0 (.loop [0, 1] leave_l0))
  leave_r5))
abbrev leave_F : FN := ⟨leave_c, []⟩
theorem leave_ok : compF Try.prog Try.f22 = some leave_F := by kernel_rfl
end Go.Fw
