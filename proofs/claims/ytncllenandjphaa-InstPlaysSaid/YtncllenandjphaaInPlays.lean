import Derived.Test.YtncllenandjphaaInNext
namespace Go.Fw
open Go.Proofs
/-! concord/concordlaw6.InstPlays -/
abbrev iplays_r0 : NC := .reg
    (.out [(0, (.slot 0)), (1, (.slot 1))])
    [0, 1]
abbrev iplays_r1 : NC := .reg
    (.q 1 .len [(.slot 0)] none
    (.q 2 (.icm .gtr) [(.res 1), (.const (.int .i64 30))] none
    (.out [(0, (.slot 0)), (1, (.slot 1)), (14, (.res 2))])))
    [0, 1]
abbrev iplays_r2 : NC := .reg
    (.q 1 (.slc 2 false true) [(.slot 0), (.const (.int .i64 30))] none
    (.out [(0, (.res 1)), (1, (.slot 1))]))
    [0, 1]
abbrev iplays_r3 : NC := .reg
    (.x 1 (.call 8) [(.slot 0)] none []
    (.out [(0, (.slot 0)), (1, (.slot 1)), (5, (.res 1))]))
    [0, 1]
abbrev iplays_r4 : NC := .reg
    (.q 1 (.eqp false) [(.slot 5), (.const (.pointer none))] none
    (.out [(0, (.slot 0)), (1, (.slot 1)), (5, (.slot 5)), (20, (.res 1))]))
    [0, 1, 5]
abbrev iplays_r5 : NC := .reg
    (.out [(4, (.const (.bool false)))])
    []
abbrev iplays_r6 : NC := .reg
    (.x 0 (.alc [(.slice none 0 0)] 29) [] none []
    (.out [(0, (.slot 0)), (1, (.slot 1)), (5, (.slot 5)), (6, (.res 0))]))
    [0, 1, 5]
abbrev iplays_r7 : NC := .reg
    (.q 0 (.mkf (.func 19) 0) [(.slot 6)] none
    (.out [(0, (.slot 0)), (1, (.slot 1)), (5, (.slot 5)), (6, (.slot 6)), (7, (.res 0))]))
    [0, 1, 5, 6]
abbrev iplays_r8 : NC := .reg
    (.out [(0, (.slot 0)), (1, (.slot 1)), (5, (.slot 5)), (6, (.slot 6)), (7, (.slot 7)), (8, (.const (.int .i64 0)))])
    [0, 1, 5, 6, 7]
abbrev iplays_r9 : NC := .reg
    (.q 2 .len [(.slot 0)] none
    (.q 3 (.icm .lss) [(.slot 8), (.res 2)] none
    (.out [(0, (.slot 0)), (1, (.slot 1)), (5, (.slot 5)), (6, (.slot 6)), (7, (.slot 7)), (8, (.slot 8)), (25, (.res 3))])))
    [0, 1, 5, 6, 7, 8]
abbrev iplays_r10 : NC := .reg
    (.q 3 (.ixs 2) [(.slot 0), (.slot 8)] none
    (.q 4 (.lda 2) [(.res 3)] none
    (.x 5 .callv [(.slot 7), (.res 4)] none []
    (.out [(0, (.slot 0)), (1, (.slot 1)), (5, (.slot 5)), (6, (.slot 6)), (7, (.slot 7)), (8, (.slot 8))]))))
    [0, 1, 5, 6, 7, 8]
abbrev iplays_r11 : NC := .reg
    (.q 1 (.iar .add) [(.slot 8), (.const (.int .i64 1))] none
    (.out [(0, (.slot 0)), (1, (.slot 1)), (5, (.slot 5)), (6, (.slot 6)), (7, (.slot 7)), (8, (.res 1))]))
    [0, 1, 5, 6, 7, 8]
abbrev iplays_l0 : NC :=
  (.seq (.seq iplays_r9
  (.cond (.slot 25)
    .skip
    (.exit 0)))
  (.seq (.block 1 iplays_r10)
  iplays_r11))
abbrev iplays_r12 : NC := .reg
    (.out [(1, (.slot 1)), (5, (.slot 5)), (6, (.slot 6)), (7, (.slot 7)), (9, (.const (.int .i64 0)))])
    [1, 5, 6, 7]
abbrev iplays_r13 : NC := .reg
    (.q 2 .len [(.slot 1)] none
    (.q 3 (.icm .lss) [(.slot 9), (.res 2)] none
    (.q 5 .mv [(.slot 9)] (some ((.res 3), true))
    (.q 6 (.icm .lss) [(.res 5), (.const (.int .i64 60))] (some ((.res 3), true))
    (.q 7 .pick [(.res 3), (.res 6), (.const (.bool false))] none
    (.out [(1, (.slot 1)), (5, (.slot 5)), (6, (.slot 6)), (7, (.slot 7)), (9, (.slot 9)), (41, (.res 7))]))))))
    [1, 5, 6, 7, 9]
abbrev iplays_r14 : NC := .reg
    (.out [(1, (.slot 1)), (5, (.slot 5)), (6, (.slot 6)), (7, (.slot 7)), (9, (.slot 9)), (10, (.const (.int .i64 0)))])
    [1, 5, 6, 7, 9]
abbrev iplays_r15 : NC := .reg
    (.q 1 .ld [(.slot 6)] none
    (.q 2 .len [(.res 1)] none
    (.q 3 (.icm .lss) [(.slot 10), (.res 2)] none
    (.q 5 .ld [(.slot 6)] (some ((.res 3), true))
    (.q 6 .mv [(.slot 10)] (some ((.res 3), true))
    (.q 7 (.ixs 2) [(.res 5), (.res 6)] (some ((.res 3), true))
    (.q 8 (.lda 2) [(.res 7)] (some ((.res 3), true))
    (.q 9 .mv [(.slot 1)] (some ((.res 3), true))
    (.q 10 .mv [(.slot 9)] (some ((.res 3), true))
    (.q 11 (.ixs 3) [(.res 9), (.res 10)] (some ((.res 3), true))
    (.q 12 (.fld 1) [(.res 11)] (some ((.res 3), true))
    (.q 13 (.lda 2) [(.res 12)] (some ((.res 3), true))
    (.q 14 (.eqc true [(.i .i64), (.i .i64)]) [(.res 8), (.res 13)] (some ((.res 3), true))
    (.q 15 .pick [(.res 3), (.res 14), (.const (.bool false))] none
    (.out [(1, (.slot 1)), (5, (.slot 5)), (6, (.slot 6)), (7, (.slot 7)), (9, (.slot 9)), (10, (.slot 10)), (59, (.res 15))])))))))))))))))
    [1, 5, 6, 7, 9, 10]
abbrev iplays_r16 : NC := .reg
    (.q 1 (.iar .add) [(.slot 10), (.const (.int .i64 1))] none
    (.out [(1, (.slot 1)), (5, (.slot 5)), (6, (.slot 6)), (7, (.slot 7)), (9, (.slot 9)), (10, (.res 1))]))
    [1, 5, 6, 7, 9, 10]
abbrev iplays_l1 : NC :=
  (.seq (.seq iplays_r15
  (.cond (.slot 59)
    .skip
    (.exit 4)))
  (.block 5 iplays_r16))
abbrev iplays_r17 : NC := .reg
    (.q 1 .ld [(.slot 6)] none
    (.q 2 .len [(.res 1)] none
    (.q 3 (.icm .lss) [(.slot 10), (.res 2)] none
    (.out [(1, (.slot 1)), (5, (.slot 5)), (6, (.slot 6)), (7, (.slot 7)), (9, (.slot 9)), (10, (.slot 10)), (11, (.res 3))]))))
    [1, 5, 6, 7, 9, 10]
abbrev iplays_r18 : NC := .reg
    (.q 2 (.ixs 3) [(.slot 1), (.slot 9)] none
    (.q 3 (.fld 0) [(.res 2)] none
    (.q 4 .ld [(.res 3)] none
    (.out [(1, (.slot 1)), (5, (.slot 5)), (6, (.slot 6)), (7, (.slot 7)), (9, (.slot 9)), (10, (.slot 10)), (11, (.slot 11)), (70, (.res 4))]))))
    [1, 5, 6, 7, 9, 10, 11]
abbrev iplays_r19 : NC := .reg
    (.q 0 (.icm .eql) [(.slot 70), (.const (.int .i64 1))] none
    (.out [(1, (.slot 1)), (5, (.slot 5)), (6, (.slot 6)), (7, (.slot 7)), (9, (.slot 9)), (10, (.slot 10)), (11, (.slot 11)), (70, (.slot 70)), (71, (.res 0))]))
    [1, 5, 6, 7, 9, 10, 11, 70]
abbrev iplays_r20 : NC := .reg
    (.q 3 (.ixs 3) [(.slot 1), (.slot 9)] none
    (.q 4 (.fld 1) [(.res 3)] none
    (.q 5 (.lda 2) [(.res 4)] none
    (.q 10 (.ixs 3) [(.slot 1), (.slot 9)] none
    (.q 11 (.fld 1) [(.res 10)] none
    (.q 12 (.lda 2) [(.res 11)] none
    (.x 6 (.call 13) [(.slot 5), (.res 5)] none [(12, (.lda 2), [(.res 11)], none)]
    (.x 13 .callv [(.slot 7), (.res 12)] none []
    (.q 14 (.beq true) [(.res 6), (.res 13)] none
    (.out [(1, (.slot 1)), (5, (.slot 5)), (6, (.slot 6)), (7, (.slot 7)), (9, (.slot 9)), (87, (.res 14))]))))))))))
    [1, 5, 6, 7, 9]
abbrev iplays_r21 : NC := .reg
    (.out [(4, (.const (.bool false)))])
    []
abbrev iplays_r22 : NC := .reg
    (.q 0 (.icm .eql) [(.slot 70), (.const (.int .i64 2))] none
    (.out [(1, (.slot 1)), (5, (.slot 5)), (6, (.slot 6)), (7, (.slot 7)), (9, (.slot 9)), (10, (.slot 10)), (11, (.slot 11)), (70, (.slot 70)), (88, (.res 0))]))
    [1, 5, 6, 7, 9, 10, 11, 70]
abbrev iplays_r23 : NC := .reg
    (.q 3 (.ixs 3) [(.slot 1), (.slot 9)] none
    (.q 4 (.fld 1) [(.res 3)] none
    (.q 5 (.lda 2) [(.res 4)] none
    (.x 6 (.call 14) [(.slot 5), (.res 5)] none []
    (.q 8 (.beq true) [(.res 6), (.slot 11)] none
    (.out [(1, (.slot 1)), (5, (.slot 5)), (6, (.slot 6)), (7, (.slot 7)), (9, (.slot 9)), (10, (.slot 10)), (11, (.slot 11)), (98, (.res 8))]))))))
    [1, 5, 6, 7, 9, 10, 11]
abbrev iplays_r24 : NC := .reg
    (.out [(4, (.const (.bool false)))])
    []
abbrev iplays_r25 : NC := .reg
    (.out [(1, (.slot 1)), (5, (.slot 5)), (6, (.slot 6)), (7, (.slot 7)), (9, (.slot 9)), (10, (.slot 10)), (99, (.slot 11))])
    [1, 5, 6, 7, 9, 10, 11]
abbrev iplays_r26 : NC := .reg
    (.q 1 .ld [(.slot 6)] none
    (.q 3 (.slc 2 false true) [(.res 1), (.slot 10)] none
    (.q 5 .ld [(.slot 6)] none
    (.q 7 (.iar .add) [(.slot 10), (.const (.int .i64 1))] none
    (.q 8 (.slc 2 true false) [(.res 5), (.res 7)] none
    (.x 0 (.bsl 25 0 [] []) [] none [(1, .ld, [(.slot 6)], none), (5, .ld, [(.slot 6)], none)]
    (.x 4 (.app 25 2 16 [(.int .i64 0), (.int .i64 0)]) [(.res 0), (.res 3)] none [(5, .ld, [(.slot 6)], none)]
    (.x 9 (.app 25 2 16 [(.int .i64 0), (.int .i64 0)]) [(.res 4), (.res 8)] none []
    (.x 10 (.st 1) [(.slot 6), (.res 9)] none []
    (.out [(1, (.slot 1)), (5, (.slot 5)), (6, (.slot 6)), (7, (.slot 7)), (9, (.slot 9))]))))))))))
    [1, 5, 6, 7, 9, 10]
abbrev iplays_r27 : NC := .reg
    (.q 0 (.icm .eql) [(.slot 70), (.const (.int .i64 3))] none
    (.out [(1, (.slot 1)), (5, (.slot 5)), (6, (.slot 6)), (7, (.slot 7)), (9, (.slot 9)), (11, (.slot 11)), (110, (.res 0))]))
    [1, 5, 6, 7, 9, 11, 70]
abbrev iplays_r28 : NC := .reg
    (.q 3 (.ixs 3) [(.slot 1), (.slot 9)] none
    (.q 4 (.fld 1) [(.res 3)] none
    (.q 5 (.lda 2) [(.res 4)] none
    (.x 6 (.call 18) [(.slot 5), (.res 5)] none []
    (.q 8 (.beq true) [(.res 6), (.slot 11)] none
    (.out [(1, (.slot 1)), (5, (.slot 5)), (6, (.slot 6)), (7, (.slot 7)), (9, (.slot 9)), (120, (.res 8))]))))))
    [1, 5, 6, 7, 9, 11]
abbrev iplays_r29 : NC := .reg
    (.out [(4, (.const (.bool false)))])
    []
abbrev iplays_r30 : NC := .reg
    (.q 2 .ld [(.slot 6)] none
    (.q 3 .len [(.res 2)] none
    (.x 1 (.call 10) [(.slot 5)] none [(2, .ld, [(.slot 6)], none)]
    (.q 4 (.icm .neq) [(.res 1), (.res 3)] none
    (.q 6 .mv [(.slot 5)] (some ((.res 4), false))
    (.q 8 .ld [(.slot 6)] (some ((.res 4), false))
    (.x 7 (.call 12) [(.res 6)] (some ((.res 4), false)) [(8, .ld, [(.slot 6)], (some ((.res 4), false)))]
    (.x 9 (.call 11) [(.res 7), (.res 8)] (some ((.res 4), false)) []
    (.q 10 .not [(.res 9)] (some ((.res 4), false))
    (.q 11 .pick [(.res 4), (.const (.bool true)), (.res 10)] none
    (.out [(1, (.slot 1)), (5, (.slot 5)), (6, (.slot 6)), (7, (.slot 7)), (9, (.slot 9)), (132, (.res 11))])))))))))))
    [1, 5, 6, 7, 9]
abbrev iplays_r31 : NC := .reg
    (.out [(4, (.const (.bool false)))])
    []
abbrev iplays_r32 : NC := .reg
    (.q 1 (.iar .add) [(.slot 9), (.const (.int .i64 1))] none
    (.out [(1, (.slot 1)), (5, (.slot 5)), (6, (.slot 6)), (7, (.slot 7)), (9, (.res 1))]))
    [1, 5, 6, 7, 9]
abbrev iplays_l2 : NC :=
  (.seq (.seq iplays_r13
  (.cond (.slot 41)
    .skip
    (.exit 2)))
  (.seq (.block 3 (.seq iplays_r14
  (.seq (.block 4 (.loop [1, 5, 6, 7, 9, 10] iplays_l1))
  (.seq iplays_r17
  (.seq (.seq iplays_r18
  (.block 6 (.seq iplays_r19
  (.cond (.slot 71)
    (.seq iplays_r20
    (.cond (.slot 87)
      (.seq iplays_r21
      .ret)
      .skip))
    (.seq iplays_r22
    (.cond (.slot 88)
      (.seq (.seq iplays_r23
      (.cond (.slot 98)
        (.seq iplays_r24
        .ret)
        .skip))
      (.seq iplays_r25
      (.cond (.slot 99)
        iplays_r26
        .skip)))
      (.seq iplays_r27
      (.cond (.slot 110)
        (.seq iplays_r28
        (.cond (.slot 120)
          (.seq iplays_r29
          .ret)
          .skip))
        .skip))))))))
  (.seq iplays_r30
  (.cond (.slot 132)
    (.seq iplays_r31
    .ret)
    .skip)))))))
  iplays_r32))
abbrev iplays_r33 : NC := .reg
    (.x 0 (.call 3) [] none []
    (.out [(4, (.res 0))]))
    []
abbrev iplays_c : NC :=
  (.seq iplays_r0
  (.seq (.seq iplays_r1
  (.cond (.slot 14)
    iplays_r2
    .skip))
  (.seq iplays_r3
  (.seq (.seq iplays_r4
  (.cond (.slot 20)
    (.seq iplays_r5
    .ret)
    .skip))
  (.seq iplays_r6
  (.seq iplays_r7
  (.seq (.seq iplays_r8
  (.block 0 (.loop [0, 1, 5, 6, 7, 8] iplays_l0)))
  (.seq (.seq iplays_r12
  (.block 2 (.loop [1, 5, 6, 7, 9] iplays_l2)))
  (.seq iplays_r33
  .ret)))))))))
abbrev iplays_F : FN := ⟨iplays_c, [.slot 4]⟩
theorem iplays_ok : compF Try.prog Try.f4 = some iplays_F := by kernel_rfl
/-! concord/concordlaw6.InstPlays$1 -/
abbrev padd_r0 : NC := .reg
    (.x 0 (.box 25) [(.slot 0)] none []
    (.out [(1, (.slot 1)), (2, (.res 0))]))
    [0, 1]
abbrev padd_r1 : NC := .reg
    (.out [(1, (.slot 1)), (2, (.slot 2)), (4, (.const (.int .i64 0)))])
    [1, 2]
abbrev padd_r2 : NC := .reg
    (.q 1 .ld [(.slot 1)] none
    (.q 2 .len [(.res 1)] none
    (.q 3 (.icm .lss) [(.slot 4), (.res 2)] none
    (.q 5 .ld [(.slot 1)] (some ((.res 3), true))
    (.q 6 .mv [(.slot 4)] (some ((.res 3), true))
    (.q 7 (.ixs 2) [(.res 5), (.res 6)] (some ((.res 3), true))
    (.q 8 (.lda 2) [(.res 7)] (some ((.res 3), true))
    (.q 9 (.lda 2) [(.slot 2)] (some ((.res 3), true))
    (.x 10 (.call 20) [(.res 8), (.res 9)] (some ((.res 3), true)) []
    (.q 11 .pick [(.res 3), (.res 10), (.const (.bool false))] none
    (.out [(1, (.slot 1)), (2, (.slot 2)), (4, (.slot 4)), (16, (.res 11))])))))))))))
    [1, 2, 4]
abbrev padd_r3 : NC := .reg
    (.q 1 (.iar .add) [(.slot 4), (.const (.int .i64 1))] none
    (.out [(1, (.slot 1)), (2, (.slot 2)), (4, (.res 1))]))
    [1, 2, 4]
abbrev padd_l0 : NC :=
  (.seq (.seq padd_r2
  (.cond (.slot 16)
    .skip
    (.exit 0)))
  (.block 1 padd_r3))
abbrev padd_r4 : NC := .reg
    (.q 1 .ld [(.slot 1)] none
    (.q 2 .len [(.res 1)] none
    (.q 3 (.icm .lss) [(.slot 4), (.res 2)] none
    (.q 5 .ld [(.slot 1)] (some ((.res 3), true))
    (.q 6 .mv [(.slot 4)] (some ((.res 3), true))
    (.q 7 (.ixs 2) [(.res 5), (.res 6)] (some ((.res 3), true))
    (.q 8 (.lda 2) [(.res 7)] (some ((.res 3), true))
    (.q 9 (.lda 2) [(.slot 2)] (some ((.res 3), true))
    (.q 10 (.eqc false [(.i .i64), (.i .i64)]) [(.res 8), (.res 9)] (some ((.res 3), true))
    (.q 11 .pick [(.res 3), (.res 10), (.const (.bool false))] none
    (.out [(1, (.slot 1)), (2, (.slot 2)), (4, (.slot 4)), (30, (.res 11))])))))))))))
    [1, 2, 4]
abbrev padd_r5 : NC := .reg
    (.out [(3, (.const (.bool false)))])
    []
abbrev padd_r6 : NC := .reg
    (.q 1 .ld [(.slot 1)] none
    (.q 3 (.slc 2 false true) [(.res 1), (.slot 4)] none
    (.q 5 (.lda 2) [(.slot 2)] none
    (.q 8 .ld [(.slot 1)] none
    (.q 10 (.slc 2 true false) [(.res 8), (.slot 4)] none
    (.both
    (.x 0 (.bsl 25 0 [] []) [] none [(1, .ld, [(.slot 1)], none), (5, (.lda 2), [(.slot 2)], none), (8, .ld, [(.slot 1)], none)]
    (.both
    (.x 4 (.app 25 2 16 [(.int .i64 0), (.int .i64 0)]) [(.res 0), (.res 3)] none [(5, (.lda 2), [(.slot 2)], none), (8, .ld, [(.slot 1)], none)]
    (.x 6 (.bsl 25 1 [(.int .i64 0), (.int .i64 0)] [(0, 2)]) [(.res 5)] none [(1, .ld, [(.slot 1)], none), (8, .ld, [(.slot 1)], none)]
    (.x 7 (.app 25 2 16 [(.int .i64 0), (.int .i64 0)]) [(.res 4), (.res 6)] none [(8, .ld, [(.slot 1)], none)]
    (.x 11 (.app 25 2 16 [(.int .i64 0), (.int .i64 0)]) [(.res 7), (.res 10)] none []
    (.x 12 (.st 1) [(.slot 1), (.res 11)] none []
    (.out []))))))
    (.x 6 (.bsl 25 1 [(.int .i64 0), (.int .i64 0)] [(0, 2)]) [(.res 5)] none [(1, .ld, [(.slot 1)], none), (8, .ld, [(.slot 1)], none)]
    (.x 4 (.app 25 2 16 [(.int .i64 0), (.int .i64 0)]) [(.res 0), (.res 3)] none [(5, (.lda 2), [(.slot 2)], none), (8, .ld, [(.slot 1)], none)]
    (.x 7 (.app 25 2 16 [(.int .i64 0), (.int .i64 0)]) [(.res 4), (.res 6)] none [(8, .ld, [(.slot 1)], none)]
    (.x 11 (.app 25 2 16 [(.int .i64 0), (.int .i64 0)]) [(.res 7), (.res 10)] none []
    (.x 12 (.st 1) [(.slot 1), (.res 11)] none []
    (.out []))))))))
    (.x 6 (.bsl 25 1 [(.int .i64 0), (.int .i64 0)] [(0, 2)]) [(.res 5)] none [(1, .ld, [(.slot 1)], none), (8, .ld, [(.slot 1)], none)]
    (.x 0 (.bsl 25 0 [] []) [] none [(1, .ld, [(.slot 1)], none), (5, (.lda 2), [(.slot 2)], none), (8, .ld, [(.slot 1)], none)]
    (.x 4 (.app 25 2 16 [(.int .i64 0), (.int .i64 0)]) [(.res 0), (.res 3)] none [(5, (.lda 2), [(.slot 2)], none), (8, .ld, [(.slot 1)], none)]
    (.x 7 (.app 25 2 16 [(.int .i64 0), (.int .i64 0)]) [(.res 4), (.res 6)] none [(8, .ld, [(.slot 1)], none)]
    (.x 11 (.app 25 2 16 [(.int .i64 0), (.int .i64 0)]) [(.res 7), (.res 10)] none []
    (.x 12 (.st 1) [(.slot 1), (.res 11)] none []
    (.out [])))))))))))))
    [1, 2, 4]
abbrev padd_r7 : NC := .reg
    (.out [(3, (.const (.bool true)))])
    []
abbrev padd_c : NC :=
  (.seq padd_r0
  (.seq padd_r1
  (.seq (.block 0 (.loop [1, 2, 4] padd_l0))
  (.seq (.seq padd_r4
  (.cond (.slot 30)
    (.seq padd_r5
    .ret)
    .skip))
  (.seq padd_r6
  (.seq padd_r7
  .ret))))))
abbrev padd_F : FN := ⟨padd_c, [.slot 3]⟩
theorem padd_ok : compF Try.prog Try.f19 = some padd_F := by kernel_rfl

theorem prs_take : ∀ (l : List (Int × Int)) (k : Nat), (prs l).take (k * 2) = prs (l.take k)
  | [], k => by simp [prs]
  | p :: r, 0 => by simp [prs]
  | p :: r, k + 1 => by rw [prs_cons, show (k + 1) * 2 = k * 2 + 1 + 1 from by omega, List.take_succ_cons, List.take_succ_cons, prs_take r k, List.take_succ_cons, prs_cons]
theorem prs_drop : ∀ (l : List (Int × Int)) (k : Nat), (prs l).drop (k * 2) = prs (l.drop k)
  | [], k => by simp [prs]
  | p :: r, 0 => by simp
  | p :: r, k + 1 => by rw [prs_cons, show (k + 1) * 2 = k * 2 + 1 + 1 from by omega, List.drop_succ_cons, List.drop_succ_cons, prs_drop r k, List.drop_succ_cons]
theorem prs_one (l : List (Int × Int)) : ∀ v ∈ prs l, v.oneCell' = true := by
  intro v hv
  obtain ⟨p, _, hp⟩ := List.mem_flatMap.1 hv
  simp at hp
  rcases hp with rfl | rfl <;> rfl

/-- what a row of the call's own reads as, cut -/
theorem own_cut {m : Mem} {t : TypeId} {a : Option Addr} {c : Nat} {W : List (Int × Int)} (h : Own m t 2 (.slice a W.length c) W.length (prs W)) {k : Nat} (hk : k ≤ W.length) :
    W.length ≤ c ∧ ldS m a (k * 2) = some (prs (W.take k)) ∧ ldS m (if c = k then a else a.map (·.add (k * 2))) ((W.length - k) * 2) = some (prs (W.drop k)) := by
  obtain ⟨hlen, ⟨e, h0⟩ | ⟨b, cap, tail, e, hb, hcap⟩⟩ := h
  · have : W = [] := List.eq_nil_of_length_eq_zero h0
    subst this
    simp only [Value.slice.injEq] at e
    obtain ⟨rfl, _, rfl⟩ := e
    simp only [List.length_nil, Nat.le_zero_eq] at hk
    subst hk
    exact ⟨Nat.le_refl _, rfl, rfl⟩
  · simp only [Value.slice.injEq] at e
    obtain ⟨rfl, _, rfl⟩ := e
    have hl2 := prs_len W
    rw [List.length_append, hl2] at hcap
    have hrow := fun (n i o : Nat) => ldCells_row (m := m) (b := b) (l := prs W ++ tail) hb n i o
    refine ⟨by omega, ?_, ?_⟩
    · show ldCells m _ _ _ = _
      rw [hrow _ _ _ (by simp only [List.length_append, hl2]; omega)]
      rw [List.drop_zero, List.take_append_of_le_length (by rw [hl2]; omega), prs_take]
    · by_cases hc : c = k
      · have hkn : k = W.length := by omega
        rw [if_pos hc, hkn, Nat.sub_self]
        simp [ldS, ldCells, prs]
      · rw [if_neg hc]
        show ldCells m (Addr.add ⟨b, 0, none⟩ (k * 2)) 0 _ = _
        rw [add_mk, hrow _ _ _ (by simp only [List.length_append, hl2]; omega), Nat.zero_add, Nat.add_zero, List.drop_append_of_le_length (by rw [hl2]; omega), prs_drop]
        rw [List.take_append_of_le_length (by rw [prs_len]; simp), List.take_of_length_le (by rw [prs_len]; simp)]
theorem ldS_frame {m m' : Mem} {a : Option Addr} {n : Nat} {l : List Value} {S : List Nat} (h : ldS m a n = some l) (f : Fr m m' S) (hS : ∀ x, a = some x → x.block ∉ S) : ldS m' a n = some l := by
  cases a with
  | none => exact h
  | some a =>
    simp only [ldS] at h ⊢
    have go : ∀ (n i : Nat) (l : List Value), ldCells m a i n = some l → ldCells m' a i n = some l := by
      intro n
      induction n with
      | zero => intro i l h; exact h
      | succ n ih =>
        intro i l h
        simp only [ldCells, Option.bind_eq_some_iff, Option.map_eq_some_iff] at h ⊢
        obtain ⟨v, hv, r, hr, rfl⟩ := h
        refine ⟨v, ?_, r, ih _ _ hr, rfl⟩
        have hb : (a.add i).block = a.block := by unfold Addr.add; split <;> rfl
        unfold cell at hv ⊢
        rw [hb] at hv ⊢
        have hne : m a.block ≠ none := by intro e; rw [e] at hv; cases hv
        rw [f _ hne (hS a rfl)]
        exact hv
    exact go _ _ _ h

/-! the sorted list -/
def insA (i : Int × Int) (W : List (Int × Int)) : List (Int × Int) := if i ∈ W then W else (W.filter fun p => decide (lt2 p i)) ++ i :: (W.filter fun p => decide (¬ lt2 p i))
theorem asc_split {W : List (Int × Int)} (h : Asc W) (i : Int × Int) (k : Nat) (hk : k ≤ W.length) (h1 : ∀ j (hj : j < k), lt2 W[j] i) (h2 : ∀ hk' : k < W.length, ¬ lt2 W[k] i) :
    (W.take k = W.filter fun p => decide (lt2 p i)) ∧ (W.drop k = W.filter fun p => decide (¬ lt2 p i)) := by
  have hall : ∀ j (hj : j < W.length), k ≤ j → ¬ lt2 W[j] i := by
    intro j hj hkj hlt
    have hk' : k < W.length := by omega
    refine h2 hk' ?_
    rcases Nat.eq_or_lt_of_le hkj with e | e
    · subst e; exact hlt
    · have := (List.pairwise_iff_getElem.1 h) k j hk' hj e
      unfold lt2 at *; omega
  have e := List.take_append_drop k W
  have f1 : (W.take k).filter (fun p => decide (lt2 p i)) = W.take k := List.filter_eq_self.2 fun p hp => by
    obtain ⟨j, hj, rfl⟩ := List.mem_iff_getElem.1 hp
    simp only [List.length_take] at hj
    rw [List.getElem_take]; exact decide_eq_true (h1 j (by omega))
  have f2 : (W.drop k).filter (fun p => decide (lt2 p i)) = [] := List.filter_eq_nil_iff.2 fun p hp => by
    obtain ⟨j, hj, rfl⟩ := List.mem_iff_getElem.1 hp
    simp only [List.length_drop] at hj
    rw [List.getElem_drop]; simp [hall (k + j) (by omega) (by omega)]
  have f3 : (W.take k).filter (fun p => decide (¬ lt2 p i)) = [] := List.filter_eq_nil_iff.2 fun p hp => by
    obtain ⟨j, hj, rfl⟩ := List.mem_iff_getElem.1 hp
    simp only [List.length_take] at hj
    rw [List.getElem_take]; simp [h1 j (by omega)]
  have f4 : (W.drop k).filter (fun p => decide (¬ lt2 p i)) = W.drop k := List.filter_eq_self.2 fun p hp => by
    obtain ⟨j, hj, rfl⟩ := List.mem_iff_getElem.1 hp
    simp only [List.length_drop] at hj
    rw [List.getElem_drop]; exact decide_eq_true (hall (k + j) (by omega) (by omega))
  constructor
  · conv => rhs; rw [← e, List.filter_append, f1, f2, List.append_nil]
  · conv => rhs; rw [← e, List.filter_append, f3, f4, List.nil_append]
theorem insA_asc {W : List (Int × Int)} (h : Asc W) (i : Int × Int) : Asc (insA i W) := by
  unfold insA
  split
  · exact h
  · rename_i hi
    refine List.pairwise_append.2 ⟨h.filter _, List.pairwise_cons.2 ⟨fun p hp => ?_, h.filter _⟩, fun p hp q hq => ?_⟩
    · obtain ⟨hp1, hp2⟩ := List.mem_filter.1 hp
      simp only [decide_eq_true_eq] at hp2
      have : ¬ (p.1 = i.1 ∧ p.2 = i.2) := fun h => hi ((Prod.ext h.1 h.2 : p = i) ▸ hp1)
      unfold lt2 at *; omega
    · obtain ⟨_, hp2⟩ := List.mem_filter.1 hp
      simp only [decide_eq_true_eq] at hp2
      rcases List.mem_cons.1 hq with rfl | hq
      · exact hp2
      · obtain ⟨_, hq2⟩ := List.mem_filter.1 hq
        simp only [decide_eq_true_eq] at hq2
        unfold lt2 at *; omega
theorem insA_perm {W l : List (Int × Int)} (i : Int × Int) (h : l.Perm W) : (addL l i).Perm (insA i W) := by
  unfold addL insA
  by_cases hi : i ∈ l
  · rw [if_pos hi, if_pos (h.mem_iff.1 hi)]; exact h
  · rw [if_neg hi, if_neg (fun h' => hi (h.mem_iff.2 h'))]
    have h1 : ((W.filter fun p => decide (lt2 p i)) ++ (W.filter fun p => !decide (lt2 p i))).Perm W := List.filter_append_perm _ _
    have e : (W.filter fun p => decide (¬ lt2 p i)) = (W.filter fun p => !decide (lt2 p i)) := by congr 1; funext p; simp
    rw [e]
    exact (List.perm_append_comm (l₁ := l) (l₂ := [i])).trans ((List.Perm.cons i (h.trans h1.symm)).trans List.perm_middle.symm)
end Go.Fw
