import Derived.Test.YthmfahaebogibaaCd
set_option linter.unusedVariables false
set_option linter.unusedSimpArgs false
namespace Go.Fw
open Go.Proofs
/-! concord/concordref19.Plan -/
abbrev ref19_Plan_r0 : NC := .reg
    (.x 0 (.box 30) [(.slot 0)] none []
    (.out [(1, (.slot 1)), (2, (.res 0))]))
    [0, 1]
abbrev ref19_Plan_r1 : NC := .reg
    (.out [(1, (.slot 1)), (2, (.slot 2)), (6, (.const (.slice none 0 0)))])
    [1, 2]
abbrev ref19_Plan_r2 : NC := .reg
    (.out [(1, (.slot 1)), (2, (.slot 2)), (6, (.slot 6)), (7, (.const (.slice none 0 0)))])
    [1, 2, 6]
abbrev ref19_Plan_r3 : NC := .reg
    (.out [(1, (.slot 1)), (2, (.slot 2)), (6, (.slot 6)), (7, (.slot 7)), (8, (.const (.bool true)))])
    [1, 2, 6, 7]
abbrev ref19_Plan_r4 : NC := .reg
    (.out [(1, (.slot 1)), (2, (.slot 2)), (6, (.slot 6)), (7, (.slot 7)), (17, (.slot 8))])
    [1, 2, 6, 7, 8]
abbrev ref19_Plan_r5 : NC := .reg
    (.out [(1, (.slot 1)), (2, (.slot 2)), (6, (.slot 6)), (8, (.const (.bool false)))])
    [1, 2, 6]
abbrev ref19_Plan_r6 : NC := .reg
    (.out [(1, (.slot 1)), (2, (.slot 2)), (6, (.slot 6)), (7, (.const (.slice none 0 0))), (8, (.slot 8))])
    [1, 2, 6, 8]
abbrev ref19_Plan_r7 : NC := .reg
    (.out [(1, (.slot 1)), (2, (.slot 2)), (6, (.slot 6)), (7, (.slot 7)), (8, (.slot 8)), (9, (.const (.int .i64 0)))])
    [1, 2, 6, 7, 8]
abbrev ref19_Plan_r8 : NC := .reg
    (.q 1 (.icm .lss) [(.slot 9), (.const (.int .i64 7))] none
    (.out [(1, (.slot 1)), (2, (.slot 2)), (6, (.slot 6)), (7, (.slot 7)), (8, (.slot 8)), (9, (.slot 9)), (19, (.res 1))]))
    [1, 2, 6, 7, 8, 9]
abbrev ref19_Plan_r9 : NC := .reg
    (.q 2 (.ixa 7 1) [(.slot 2), (.slot 9)] none
    (.q 3 .ld [(.res 2)] none
    (.q 4 (.iar .add) [(.res 3), (.const (.int .i64 1))] none
    (.q 5 (.bld [(.int .i64 0), (.int .i64 0)] [(0, 1), (1, 1)]) [(.slot 9), (.res 4)] none
    (.x 6 (.alc [(.int .i64 0), (.int .i64 0)] 23) [] none []
    (.x 7 (.st 2) [(.res 6), (.res 5)] none []
    (.out [(1, (.slot 1)), (2, (.slot 2)), (6, (.slot 6)), (7, (.slot 7)), (8, (.slot 8)), (9, (.slot 9)), (10, (.res 6))])))))))
    [1, 2, 6, 7, 8, 9]
abbrev ref19_Plan_r10 : NC := .reg
    (.q 1 (.lda 2) [(.slot 10)] none
    (.x 2 (.call 25) [(.slot 1), (.res 1)] none []
    (.q 4 (.ext 0) [(.res 2)] none
    (.q 5 (.ext 1) [(.res 2)] none
    (.x 6 (.alc [(.int .i64 0), (.int .i64 0), (.int .i64 0), (.int .i64 0), (.int .i64 0), (.int .i64 0), (.int .i64 0), (.int .i64 0), (.string ⟨#[]⟩), (.string ⟨#[]⟩), (.string ⟨#[]⟩), (.string ⟨#[]⟩), (.int .i64 0), (.int .i64 0), (.int .i64 0), (.int .i64 0), (.int .i64 0), (.int .i64 0), (.int .i64 0), (.int .i64 0), (.bool false)] 38) [] none []
    (.x 7 (.st 21) [(.res 6), (.res 4)] none []
    (.out [(1, (.slot 1)), (2, (.slot 2)), (6, (.slot 6)), (7, (.slot 7)), (8, (.slot 8)), (9, (.slot 9)), (10, (.slot 10)), (12, (.res 5))])))))))
    [1, 2, 6, 7, 8, 9, 10]
abbrev ref19_Plan_r11 : NC := .reg
    (.q 1 .not [(.slot 12)] none
    (.out [(1, (.slot 1)), (2, (.slot 2)), (6, (.slot 6)), (7, (.slot 7)), (8, (.slot 8)), (9, (.slot 9)), (10, (.slot 10)), (35, (.res 1))]))
    [1, 2, 6, 7, 8, 9, 10, 12]
abbrev ref19_Plan_r12 : NC := .reg
    (.q 1 (.lda 2) [(.slot 10)] none
    (.x 2 (.call 26) [(.slot 1), (.res 1)] none []
    (.out [(1, (.slot 1)), (2, (.slot 2)), (6, (.slot 6)), (7, (.slot 7)), (8, (.slot 8)), (9, (.slot 9)), (10, (.slot 10)), (38, (.res 2))])))
    [1, 2, 6, 7, 8, 9, 10]
abbrev ref19_Plan_r13 : NC := .reg
    (.q 1 (.lda 2) [(.slot 10)] none
    (.x 2 (.bsl 23 1 [(.int .i64 0), (.int .i64 0)] [(0, 2)]) [(.res 1)] none []
    (.x 3 (.app 23 2 16 [(.int .i64 0), (.int .i64 0)]) [(.slot 7), (.res 2)] none []
    (.out [(1, (.slot 1)), (2, (.slot 2)), (6, (.slot 6)), (7, (.res 3)), (8, (.slot 8)), (9, (.slot 9))]))))
    [1, 2, 6, 7, 8, 9, 10]
abbrev ref19_Plan_r14 : NC := .reg
    (.q 0 (.lda 7) [(.slot 2)] none
    (.q 2 (.lda 2) [(.slot 10)] none
    (.x 3 (.call 27) [(.res 0), (.slot 1), (.res 2)] none []
    (.q 5 (.ext 0) [(.res 3)] none
    (.q 6 (.ext 1) [(.res 3)] none
    (.out [(1, (.slot 1)), (2, (.slot 2)), (6, (.slot 6)), (7, (.slot 7)), (8, (.slot 8)), (9, (.slot 9)), (13, (.res 5)), (14, (.res 6))]))))))
    [1, 2, 6, 7, 8, 9, 10]
abbrev ref19_Plan_r15 : NC := .reg
    (.x 2 (.app 23 2 16 [(.int .i64 0), (.int .i64 0)]) [(.slot 7), (.slot 14)] none []
    (.out [(1, (.slot 1)), (2, (.slot 2)), (6, (.slot 6)), (7, (.res 2)), (8, (.slot 8)), (9, (.slot 9)), (13, (.slot 13))]))
    [1, 2, 6, 7, 8, 9, 13, 14]
abbrev ref19_Plan_r16 : NC := .reg
    (.q 1 (.eqs false) [(.slot 13), (.const (.slice none 0 0))] none
    (.out [(1, (.slot 1)), (2, (.slot 2)), (6, (.slot 6)), (7, (.slot 7)), (8, (.slot 8)), (9, (.slot 9)), (13, (.slot 13)), (54, (.res 1))]))
    [1, 2, 6, 7, 8, 9, 13]
abbrev ref19_Plan_r17 : NC := .reg
    (.q 1 (.lda 7) [(.slot 2)] none
    (.x 3 (.call 28) [(.res 1), (.slot 13)] none []
    (.x 4 (.app 52 23 216 [(.int .i64 0), (.int .i64 0), (.int .i64 0), (.int .i64 0), (.int .i64 0), (.int .i64 0), (.int .i64 0), (.int .i64 0), (.int .i64 0), (.int .i64 0), (.string ⟨#[]⟩), (.string ⟨#[]⟩), (.string ⟨#[]⟩), (.string ⟨#[]⟩), (.int .i64 0), (.int .i64 0), (.int .i64 0), (.int .i64 0), (.int .i64 0), (.int .i64 0), (.int .i64 0), (.int .i64 0), (.bool false)]) [(.slot 6), (.res 3)] none []
    (.out [(1, (.slot 1)), (2, (.slot 2)), (6, (.res 4)), (7, (.slot 7)), (9, (.slot 9)), (13, (.slot 13))]))))
    [1, 2, 6, 7, 9, 13]
abbrev ref19_Plan_r18 : NC := .reg
    (.out [(1, (.slot 1)), (2, (.slot 2)), (6, (.slot 6)), (7, (.slot 7)), (9, (.slot 9)), (13, (.slot 13)), (15, (.const (.int .i64 0)))])
    [1, 2, 6, 7, 9, 13]
abbrev ref19_Plan_r19 : NC := .reg
    (.q 2 .len [(.slot 13)] none
    (.q 3 (.icm .lss) [(.slot 15), (.res 2)] none
    (.out [(1, (.slot 1)), (2, (.slot 2)), (6, (.slot 6)), (7, (.slot 7)), (9, (.slot 9)), (13, (.slot 13)), (15, (.slot 15)), (63, (.res 3))])))
    [1, 2, 6, 7, 9, 13, 15]
abbrev ref19_Plan_r20 : NC := .reg
    (.q 2 (.ixs 23) [(.slot 13), (.slot 15)] none
    (.q 3 (.fld 0) [(.res 2)] none
    (.q 4 (.lda 2) [(.res 3)] none
    (.x 5 (.alc [(.int .i64 0), (.int .i64 0)] 23) [] none []
    (.x 6 (.st 2) [(.res 5), (.res 4)] none []
    (.out [(1, (.slot 1)), (2, (.slot 2)), (6, (.slot 6)), (7, (.slot 7)), (9, (.slot 9)), (13, (.slot 13)), (15, (.slot 15)), (16, (.res 5))]))))))
    [1, 2, 6, 7, 9, 13, 15]
abbrev ref19_Plan_r21 : NC := .reg
    (.q 0 (.fld 0) [(.slot 16)] none
    (.q 1 .ld [(.res 0)] none
    (.q 2 (.fld 0) [(.slot 16)] none
    (.q 3 .ld [(.res 2)] none
    (.q 4 (.ixa 7 1) [(.slot 2), (.res 3)] none
    (.q 5 .ld [(.res 4)] none
    (.q 6 (.fld 1) [(.slot 16)] none
    (.q 7 .ld [(.res 6)] none
    (.q 8 .mx [(.res 5), (.res 7)] none
    (.q 9 (.ixa 7 1) [(.slot 2), (.res 1)] none
    (.x 10 (.st 1) [(.res 9), (.res 8)] none []
    (.out [(1, (.slot 1)), (2, (.slot 2)), (6, (.slot 6)), (7, (.slot 7)), (9, (.slot 9)), (13, (.slot 13)), (15, (.slot 15))]))))))))))))
    [1, 2, 6, 7, 9, 13, 15, 16]
abbrev ref19_Plan_r22 : NC := .reg
    (.q 1 (.iar .add) [(.slot 15), (.const (.int .i64 1))] none
    (.out [(1, (.slot 1)), (2, (.slot 2)), (6, (.slot 6)), (7, (.slot 7)), (9, (.slot 9)), (13, (.slot 13)), (15, (.res 1))]))
    [1, 2, 6, 7, 9, 13, 15]
abbrev ref19_Plan_l0 : NC :=
  (.seq (.seq ref19_Plan_r19
  (.cond (.slot 63)
    .skip
    (.exit 4)))
  (.seq (.block 5 (.seq ref19_Plan_r20
  ref19_Plan_r21))
  ref19_Plan_r22))
abbrev ref19_Plan_r23 : NC := .reg
    (.out [(1, (.slot 1)), (2, (.slot 2)), (6, (.slot 6)), (7, (.slot 7)), (8, (.const (.bool true))), (9, (.slot 9))])
    [1, 2, 6, 7, 9]
abbrev ref19_Plan_r24 : NC := .reg
    (.q 1 (.iar .add) [(.slot 9), (.const (.int .i64 1))] none
    (.out [(1, (.slot 1)), (2, (.slot 2)), (6, (.slot 6)), (7, (.slot 7)), (8, (.slot 8)), (9, (.res 1))]))
    [1, 2, 6, 7, 8, 9]
abbrev ref19_Plan_l1 : NC :=
  (.seq (.seq ref19_Plan_r8
  (.cond (.slot 19)
    .skip
    (.exit 2)))
  (.seq (.block 3 (.seq ref19_Plan_r9
  (.seq (.seq ref19_Plan_r10
  (.seq ref19_Plan_r11
  (.cond (.slot 35)
    (.seq (.seq ref19_Plan_r12
    (.cond (.slot 38)
      ref19_Plan_r13
      .skip))
    (.exit 3))
    .skip)))
  (.seq ref19_Plan_r14
  (.seq ref19_Plan_r15
  (.seq (.seq ref19_Plan_r16
  (.cond (.slot 54)
    (.exit 3)
    .skip))
  (.seq ref19_Plan_r17
  (.seq (.seq ref19_Plan_r18
  (.block 4 (.loop [1, 2, 6, 7, 9, 13, 15] ref19_Plan_l0)))
  ref19_Plan_r23))))))))
  ref19_Plan_r24))
abbrev ref19_Plan_l2 : NC :=
  (.seq (.seq ref19_Plan_r4
  (.cond (.slot 17)
    .skip
    (.exit 0)))
  (.block 1 (.seq ref19_Plan_r5
  (.seq ref19_Plan_r6
  (.seq ref19_Plan_r7
  (.block 2 (.loop [1, 2, 6, 7, 8, 9] ref19_Plan_l1)))))))
abbrev ref19_Plan_r25 : NC := .reg
    (.x 2 (.call 29) [(.slot 7)] none []
    (.out [(4, (.slot 6)), (5, (.res 2))]))
    [6, 7]
abbrev ref19_Plan_c : NC :=
  (.seq ref19_Plan_r0
  (.seq ref19_Plan_r1
  (.seq ref19_Plan_r2
  (.seq (.seq ref19_Plan_r3
  (.block 0 (.loop [1, 2, 6, 7, 8] ref19_Plan_l2)))
  (.seq ref19_Plan_r25
  .ret)))))
abbrev ref19_Plan_F : FN := ⟨ref19_Plan_c, [.slot 4, .slot 5]⟩
theorem ref19_Plan_ok : compF Try.prog Try.f17 = some ref19_Plan_F := by kernel_rfl
theorem ref19_Plan_go {args : List Value} {m : Mem} {R : Value → Mem → Prop} (hn : args.length ≤ Try.f17.ntmps) (h : wpN Try.prog ref19_Plan_c (retP ref19_Plan_F.rvs R) (zipP 0 args) m) : MC Try.prog 17 args m R := MC_start Try.func17 ref19_Plan_ok mixed_ok hn h
/-! concord/concordref19.get -/
abbrev ref19_get_r0 : NC := .reg
    (.x 0 (.box 23) [(.slot 1)] none []
    (.x 1 (.alc [(.int .i64 0), (.int .i64 0), (.int .i64 0), (.int .i64 0), (.int .i64 0), (.int .i64 0), (.int .i64 0), (.int .i64 0), (.string ⟨#[]⟩), (.string ⟨#[]⟩), (.string ⟨#[]⟩), (.string ⟨#[]⟩), (.int .i64 0), (.int .i64 0), (.int .i64 0), (.int .i64 0), (.int .i64 0), (.int .i64 0), (.int .i64 0), (.int .i64 0), (.bool false)] 38) [] none []
    (.out [(0, (.slot 0)), (3, (.res 0)), (4, (.res 1))])))
    [0, 1]
abbrev ref19_get_r1 : NC := .reg
    (.out [(0, (.slot 0)), (3, (.slot 3)), (4, (.slot 4)), (6, (.const (.int .i64 0)))])
    [0, 3, 4]
abbrev ref19_get_r2 : NC := .reg
    (.q 2 .len [(.slot 0)] none
    (.q 3 (.icm .lss) [(.slot 6), (.res 2)] none
    (.out [(0, (.slot 0)), (3, (.slot 3)), (4, (.slot 4)), (6, (.slot 6)), (10, (.res 3))])))
    [0, 3, 4, 6]
abbrev ref19_get_r3 : NC := .reg
    (.q 2 (.ixs 23) [(.slot 0), (.slot 6)] none
    (.q 3 (.fld 0) [(.res 2)] none
    (.q 4 (.lda 2) [(.res 3)] none
    (.q 5 (.lda 2) [(.slot 3)] none
    (.q 6 (.eqc false [(.i .i64), (.i .i64)]) [(.res 4), (.res 5)] none
    (.q 8 .mv [(.slot 0)] (some ((.res 6), true))
    (.q 9 .mv [(.slot 6)] (some ((.res 6), true))
    (.q 10 (.ixs 23) [(.res 8), (.res 9)] (some ((.res 6), true))
    (.q 11 (.fld 2) [(.res 10)] (some ((.res 6), true))
    (.q 12 (.fld 0) [(.res 11)] (some ((.res 6), true))
    (.q 13 .ld [(.res 12)] (some ((.res 6), true))
    (.q 14 (.icm .eql) [(.res 13), (.const (.int .i64 3))] (some ((.res 6), true))
    (.q 15 .pick [(.res 6), (.res 14), (.const (.bool false))] none
    (.out [(0, (.slot 0)), (3, (.slot 3)), (4, (.slot 4)), (6, (.slot 6)), (28, (.res 15))]))))))))))))))
    [0, 3, 4, 6]
abbrev ref19_get_r4 : NC := .reg
    (.q 2 (.ixs 23) [(.slot 0), (.slot 6)] none
    (.q 3 (.fld 2) [(.res 2)] none
    (.q 4 (.lda 21) [(.res 3)] none
    (.x 5 (.st 21) [(.slot 4), (.res 4)] none []
    (.out [(4, (.slot 4)), (5, (.const (.bool true)))])))))
    [0, 4, 6]
abbrev ref19_get_r5 : NC := .reg
    (.q 1 (.iar .add) [(.slot 6), (.const (.int .i64 1))] none
    (.out [(0, (.slot 0)), (3, (.slot 3)), (4, (.slot 4)), (6, (.res 1))]))
    [0, 3, 4, 6]
abbrev ref19_get_l0 : NC :=
  (.seq (.seq ref19_get_r2
  (.cond (.slot 10)
    .skip
    (.exit 0)))
  (.seq (.block 1 (.seq ref19_get_r3
  (.cond (.slot 28)
    (.seq ref19_get_r4
    .ret)
    .skip)))
  ref19_get_r5))
abbrev ref19_get_r6 : NC := .reg
    (.q 0 (.bld [(.int .i64 0), (.int .i64 0), (.int .i64 0), (.int .i64 0), (.int .i64 0), (.int .i64 0), (.int .i64 0), (.int .i64 0), (.string ⟨#[]⟩), (.string ⟨#[]⟩), (.string ⟨#[]⟩), (.string ⟨#[]⟩), (.int .i64 0), (.int .i64 0), (.int .i64 0), (.int .i64 0), (.int .i64 0), (.int .i64 0), (.int .i64 0), (.int .i64 0), (.bool false)] []) [] none
    (.x 1 (.st 21) [(.slot 4), (.res 0)] none []
    (.out [(4, (.slot 4)), (5, (.const (.bool false)))])))
    [4]
abbrev ref19_get_c : NC :=
  (.seq ref19_get_r0
  (.seq (.seq ref19_get_r1
  (.block 0 (.loop [0, 3, 4, 6] ref19_get_l0)))
  (.seq ref19_get_r6
  .ret)))
abbrev ref19_get_F : FN := ⟨ref19_get_c, [.cells 4 21, .slot 5]⟩
theorem ref19_get_ok : compF Try.prog Try.f25 = some ref19_get_F := by kernel_rfl
theorem ref19_get_go {args : List Value} {m : Mem} {R : Value → Mem → Prop} (hn : args.length ≤ Try.f25.ntmps) (h : wpN Try.prog ref19_get_c (retP ref19_get_F.rvs R) (zipP 0 args) m) : MC Try.prog 25 args m R := MC_start Try.func25 ref19_get_ok mixed_ok hn h
/-! concord/concordref19.beyond -/
abbrev ref19_beyond_r0 : NC := .reg
    (.x 0 (.box 23) [(.slot 1)] none []
    (.out [(0, (.slot 0)), (3, (.res 0))]))
    [0, 1]
abbrev ref19_beyond_r1 : NC := .reg
    (.out [(0, (.slot 0)), (3, (.slot 3)), (5, (.const (.int .i64 0)))])
    [0, 3]
abbrev ref19_beyond_r2 : NC := .reg
    (.q 2 .len [(.slot 0)] none
    (.q 3 (.icm .lss) [(.slot 5), (.res 2)] none
    (.out [(0, (.slot 0)), (3, (.slot 3)), (5, (.slot 5)), (9, (.res 3))])))
    [0, 3, 5]
abbrev ref19_beyond_r3 : NC := .reg
    (.q 2 (.ixs 23) [(.slot 0), (.slot 5)] none
    (.q 3 (.fld 2) [(.res 2)] none
    (.q 4 (.fld 0) [(.res 3)] none
    (.q 5 .ld [(.res 4)] none
    (.q 6 (.icm .eql) [(.res 5), (.const (.int .i64 3))] none
    (.q 8 .mv [(.slot 0)] (some ((.res 6), true))
    (.q 9 .mv [(.slot 5)] (some ((.res 6), true))
    (.q 10 (.ixs 23) [(.res 8), (.res 9)] (some ((.res 6), true))
    (.q 11 (.fld 0) [(.res 10)] (some ((.res 6), true))
    (.q 12 (.fld 0) [(.res 11)] (some ((.res 6), true))
    (.q 13 .ld [(.res 12)] (some ((.res 6), true))
    (.q 14 (.fld 0) [(.slot 3)] (some ((.res 6), true))
    (.q 15 .ld [(.res 14)] (some ((.res 6), true))
    (.q 16 (.icm .eql) [(.res 13), (.res 15)] (some ((.res 6), true))
    (.q 17 .pick [(.res 6), (.res 16), (.const (.bool false))] none
    (.q 19 .mv [(.slot 0)] (some ((.res 17), true))
    (.q 20 .mv [(.slot 5)] (some ((.res 17), true))
    (.q 21 (.ixs 23) [(.res 19), (.res 20)] (some ((.res 17), true))
    (.q 22 (.fld 0) [(.res 21)] (some ((.res 17), true))
    (.q 23 (.fld 1) [(.res 22)] (some ((.res 17), true))
    (.q 24 .ld [(.res 23)] (some ((.res 17), true))
    (.q 25 (.fld 1) [(.slot 3)] (some ((.res 17), true))
    (.q 26 .ld [(.res 25)] (some ((.res 17), true))
    (.q 27 (.icm .gtr) [(.res 24), (.res 26)] (some ((.res 17), true))
    (.q 28 .pick [(.res 17), (.res 27), (.const (.bool false))] none
    (.out [(0, (.slot 0)), (3, (.slot 3)), (5, (.slot 5)), (40, (.res 28))]))))))))))))))))))))))))))
    [0, 3, 5]
abbrev ref19_beyond_r4 : NC := .reg
    (.out [(4, (.const (.bool true)))])
    []
abbrev ref19_beyond_r5 : NC := .reg
    (.q 1 (.iar .add) [(.slot 5), (.const (.int .i64 1))] none
    (.out [(0, (.slot 0)), (3, (.slot 3)), (5, (.res 1))]))
    [0, 3, 5]
abbrev ref19_beyond_l0 : NC :=
  (.seq (.seq ref19_beyond_r2
  (.cond (.slot 9)
    .skip
    (.exit 0)))
  (.seq (.block 1 (.seq ref19_beyond_r3
  (.cond (.slot 40)
    (.seq ref19_beyond_r4
    .ret)
    .skip)))
  ref19_beyond_r5))
abbrev ref19_beyond_r6 : NC := .reg
    (.out [(4, (.const (.bool false)))])
    []
abbrev ref19_beyond_c : NC :=
  (.seq ref19_beyond_r0
  (.seq (.seq ref19_beyond_r1
  (.block 0 (.loop [0, 3, 5] ref19_beyond_l0)))
  (.seq ref19_beyond_r6
  .ret)))
abbrev ref19_beyond_F : FN := ⟨ref19_beyond_c, [.slot 4]⟩
theorem ref19_beyond_ok : compF Try.prog Try.f26 = some ref19_beyond_F := by kernel_rfl
theorem ref19_beyond_go {args : List Value} {m : Mem} {R : Value → Mem → Prop} (hn : args.length ≤ Try.f26.ntmps) (h : wpN Try.prog ref19_beyond_c (retP ref19_beyond_F.rvs R) (zipP 0 args) m) : MC Try.prog 26 args m R := MC_start Try.func26 ref19_beyond_ok mixed_ok hn h
/-! concord/concordref19.closure -/
abbrev ref19_closure_r0 : NC := .reg
    (.x 0 (.box 30) [(.slot 0)] none []
    (.x 1 (.box 23) [(.slot 2)] none []
    (.out [(1, (.slot 1)), (3, (.res 0)), (5, (.res 1))])))
    [0, 1, 2]
abbrev ref19_closure_r1 : NC := .reg
    (.out [(1, (.slot 1)), (3, (.slot 3)), (5, (.slot 5)), (8, (.const (.slice none 0 0)))])
    [1, 3, 5]
abbrev ref19_closure_r2 : NC := .reg
    (.q 0 (.lda 2) [(.slot 5)] none
    (.x 1 (.bsl 23 1 [(.int .i64 0), (.int .i64 0)] [(0, 2)]) [(.res 0)] none []
    (.out [(1, (.slot 1)), (3, (.slot 3)), (8, (.slot 8)), (9, (.res 1))])))
    [1, 3, 5, 8]
abbrev ref19_closure_r3 : NC := .reg
    (.out [(1, (.slot 1)), (3, (.slot 3)), (8, (.slot 8)), (9, (.slot 9)), (10, (.const (.int .i64 0)))])
    [1, 3, 8, 9]
abbrev ref19_closure_r4 : NC := .reg
    (.q 2 .len [(.slot 9)] none
    (.q 3 (.icm .lss) [(.slot 10), (.res 2)] none
    (.out [(1, (.slot 1)), (3, (.slot 3)), (8, (.slot 8)), (9, (.slot 9)), (10, (.slot 10)), (26, (.res 3))])))
    [1, 3, 8, 9, 10]
abbrev ref19_closure_r5 : NC := .reg
    (.q 3 (.ixs 2) [(.slot 9), (.slot 10)] none
    (.q 4 (.lda 2) [(.res 3)] none
    (.x 5 (.call 25) [(.slot 1), (.res 4)] none []
    (.q 7 (.ext 0) [(.res 5)] none
    (.q 8 (.ext 1) [(.res 5)] none
    (.x 9 (.alc [(.int .i64 0), (.int .i64 0), (.int .i64 0), (.int .i64 0), (.int .i64 0), (.int .i64 0), (.int .i64 0), (.int .i64 0), (.string ⟨#[]⟩), (.string ⟨#[]⟩), (.string ⟨#[]⟩), (.string ⟨#[]⟩), (.int .i64 0), (.int .i64 0), (.int .i64 0), (.int .i64 0), (.int .i64 0), (.int .i64 0), (.int .i64 0), (.int .i64 0), (.bool false)] 38) [] none []
    (.x 10 (.st 21) [(.res 9), (.res 7)] none []
    (.out [(1, (.slot 1)), (3, (.slot 3)), (8, (.slot 8)), (9, (.slot 9)), (10, (.slot 10)), (11, (.res 9)), (12, (.res 8))]))))))))
    [1, 3, 8, 9, 10]
abbrev ref19_closure_r6 : NC := .reg
    (.q 1 .not [(.slot 12)] none
    (.out [(1, (.slot 1)), (3, (.slot 3)), (8, (.slot 8)), (9, (.slot 9)), (10, (.slot 10)), (11, (.slot 11)), (39, (.res 1))]))
    [1, 3, 8, 9, 10, 11, 12]
abbrev ref19_closure_r7 : NC := .reg
    (.q 2 (.ixs 2) [(.slot 9), (.slot 10)] none
    (.q 3 (.lda 2) [(.res 2)] none
    (.x 4 (.bsl 23 1 [(.int .i64 0), (.int .i64 0)] [(0, 2)]) [(.res 3)] none []
    (.out [(6, (.const (.slice none 0 0))), (7, (.res 4))]))))
    [9, 10]
abbrev ref19_closure_r8 : NC := .reg
    (.q 1 .len [(.slot 8)] none
    (.q 2 (.icm .geq) [(.res 1), (.const (.int .i64 512))] none
    (.out [(1, (.slot 1)), (3, (.slot 3)), (8, (.slot 8)), (9, (.slot 9)), (10, (.slot 10)), (11, (.slot 11)), (47, (.res 2))])))
    [1, 3, 8, 9, 10, 11]
abbrev ref19_closure_r9 : NC := .reg
    (.out [(6, (.const (.slice none 0 0))), (7, (.const (.slice none 0 0)))])
    []
abbrev ref19_closure_r10 : NC := .reg
    (.q 3 (.ixs 2) [(.slot 9), (.slot 10)] none
    (.q 4 (.lda 2) [(.res 3)] none
    (.q 5 (.lda 21) [(.slot 11)] none
    (.q 6 (.bld [(.int .i64 0), (.int .i64 0), (.int .i64 0), (.int .i64 0), (.int .i64 0), (.int .i64 0), (.int .i64 0), (.int .i64 0), (.int .i64 0), (.int .i64 0), (.string ⟨#[]⟩), (.string ⟨#[]⟩), (.string ⟨#[]⟩), (.string ⟨#[]⟩), (.int .i64 0), (.int .i64 0), (.int .i64 0), (.int .i64 0), (.int .i64 0), (.int .i64 0), (.int .i64 0), (.int .i64 0), (.bool false)] [(0, 2), (2, 21)]) [(.res 4), (.res 5)] none
    (.x 7 (.bsl 52 1 [(.int .i64 0), (.int .i64 0), (.int .i64 0), (.int .i64 0), (.int .i64 0), (.int .i64 0), (.int .i64 0), (.int .i64 0), (.int .i64 0), (.int .i64 0), (.string ⟨#[]⟩), (.string ⟨#[]⟩), (.string ⟨#[]⟩), (.string ⟨#[]⟩), (.int .i64 0), (.int .i64 0), (.int .i64 0), (.int .i64 0), (.int .i64 0), (.int .i64 0), (.int .i64 0), (.int .i64 0), (.bool false)] [(0, 23)]) [(.res 6)] none []
    (.x 8 (.app 52 23 216 [(.int .i64 0), (.int .i64 0), (.int .i64 0), (.int .i64 0), (.int .i64 0), (.int .i64 0), (.int .i64 0), (.int .i64 0), (.int .i64 0), (.int .i64 0), (.string ⟨#[]⟩), (.string ⟨#[]⟩), (.string ⟨#[]⟩), (.string ⟨#[]⟩), (.int .i64 0), (.int .i64 0), (.int .i64 0), (.int .i64 0), (.int .i64 0), (.int .i64 0), (.int .i64 0), (.int .i64 0), (.bool false)]) [(.slot 8), (.res 7)] none []
    (.out [(1, (.slot 1)), (3, (.slot 3)), (8, (.res 8)), (9, (.slot 9)), (10, (.slot 10)), (11, (.slot 11))])))))))
    [1, 3, 8, 9, 10, 11]
abbrev ref19_closure_r11 : NC := .reg
    (.out [(1, (.slot 1)), (3, (.slot 3)), (8, (.slot 8)), (9, (.slot 9)), (10, (.slot 10)), (11, (.slot 11)), (13, (.const (.int .i64 0)))])
    [1, 3, 8, 9, 10, 11]
abbrev ref19_closure_r12 : NC := .reg
    (.q 1 (.icm .lss) [(.slot 13), (.const (.int .i64 7))] none
    (.out [(1, (.slot 1)), (3, (.slot 3)), (8, (.slot 8)), (9, (.slot 9)), (10, (.slot 10)), (11, (.slot 11)), (13, (.slot 13)), (58, (.res 1))]))
    [1, 3, 8, 9, 10, 11, 13]
abbrev ref19_closure_r13 : NC := .reg
    (.q 1 (.fld 12) [(.slot 11)] none
    (.q 2 (.fld 1) [(.res 1)] none
    (.q 3 (.ixa 7 1) [(.res 2), (.slot 13)] none
    (.q 4 .ld [(.res 3)] none
    (.out [(1, (.slot 1)), (3, (.slot 3)), (8, (.slot 8)), (9, (.slot 9)), (10, (.slot 10)), (11, (.slot 11)), (13, (.slot 13)), (14, (.res 4))])))))
    [1, 3, 8, 9, 10, 11, 13]
abbrev ref19_closure_r14 : NC := .reg
    (.q 3 (.ixs 2) [(.slot 9), (.slot 10)] none
    (.q 4 (.fld 0) [(.res 3)] none
    (.q 5 .ld [(.res 4)] none
    (.q 6 (.icm .eql) [(.slot 13), (.res 5)] none
    (.out [(1, (.slot 1)), (3, (.slot 3)), (8, (.slot 8)), (9, (.slot 9)), (10, (.slot 10)), (11, (.slot 11)), (13, (.slot 13)), (14, (.slot 14)), (72, (.res 6))])))))
    [1, 3, 8, 9, 10, 11, 13, 14]
abbrev ref19_closure_r15 : NC := .reg
    (.q 3 (.ixs 2) [(.slot 9), (.slot 10)] none
    (.q 4 (.fld 1) [(.res 3)] none
    (.q 5 .ld [(.res 4)] none
    (.q 6 (.iar .sub) [(.res 5), (.const (.int .i64 1))] none
    (.q 7 .mx [(.slot 14), (.res 6)] none
    (.out [(1, (.slot 1)), (3, (.slot 3)), (8, (.slot 8)), (9, (.slot 9)), (10, (.slot 10)), (11, (.slot 11)), (13, (.slot 13)), (14, (.res 7))]))))))
    [1, 3, 8, 9, 10, 11, 13, 14]
abbrev ref19_closure_r16 : NC := .reg
    (.q 1 (.ixa 7 1) [(.slot 3), (.slot 13)] none
    (.q 2 .ld [(.res 1)] none
    (.q 3 (.iar .add) [(.res 2), (.const (.int .i64 1))] none
    (.out [(1, (.slot 1)), (3, (.slot 3)), (8, (.slot 8)), (9, (.slot 9)), (10, (.slot 10)), (11, (.slot 11)), (13, (.slot 13)), (14, (.slot 14)), (15, (.res 3))]))))
    [1, 3, 8, 9, 10, 11, 13, 14]
abbrev ref19_closure_r17 : NC := .reg
    (.q 2 (.icm .leq) [(.slot 15), (.slot 14)] none
    (.out [(1, (.slot 1)), (3, (.slot 3)), (8, (.slot 8)), (9, (.slot 9)), (10, (.slot 10)), (11, (.slot 11)), (13, (.slot 13)), (14, (.slot 14)), (15, (.slot 15)), (87, (.res 2))]))
    [1, 3, 8, 9, 10, 11, 13, 14, 15]
abbrev ref19_closure_r18 : NC := .reg
    (.q 2 (.bld [(.int .i64 0), (.int .i64 0)] [(0, 1), (1, 1)]) [(.slot 13), (.slot 15)] none
    (.x 3 (.alc [(.int .i64 0), (.int .i64 0)] 23) [] none []
    (.x 4 (.st 2) [(.res 3), (.res 2)] none []
    (.out [(1, (.slot 1)), (3, (.slot 3)), (8, (.slot 8)), (9, (.slot 9)), (10, (.slot 10)), (11, (.slot 11)), (13, (.slot 13)), (14, (.slot 14)), (15, (.slot 15)), (16, (.res 3))]))))
    [1, 3, 8, 9, 10, 11, 13, 14, 15]
abbrev ref19_closure_r19 : NC := .reg
    (.out [(1, (.slot 1)), (3, (.slot 3)), (8, (.slot 8)), (9, (.slot 9)), (10, (.slot 10)), (11, (.slot 11)), (13, (.slot 13)), (14, (.slot 14)), (15, (.slot 15)), (16, (.slot 16)), (17, (.const (.bool false)))])
    [1, 3, 8, 9, 10, 11, 13, 14, 15, 16]
abbrev ref19_closure_r20 : NC := .reg
    (.out [(1, (.slot 1)), (3, (.slot 3)), (8, (.slot 8)), (9, (.slot 9)), (10, (.slot 10)), (11, (.slot 11)), (13, (.slot 13)), (14, (.slot 14)), (15, (.slot 15)), (16, (.slot 16)), (17, (.slot 17)), (18, (.const (.int .i64 0)))])
    [1, 3, 8, 9, 10, 11, 13, 14, 15, 16, 17]
abbrev ref19_closure_r21 : NC := .reg
    (.q 2 .len [(.slot 9)] none
    (.q 3 (.icm .lss) [(.slot 18), (.res 2)] none
    (.out [(1, (.slot 1)), (3, (.slot 3)), (8, (.slot 8)), (9, (.slot 9)), (10, (.slot 10)), (11, (.slot 11)), (13, (.slot 13)), (14, (.slot 14)), (15, (.slot 15)), (16, (.slot 16)), (17, (.slot 17)), (18, (.slot 18)), (96, (.res 3))])))
    [1, 3, 8, 9, 10, 11, 13, 14, 15, 16, 17, 18]
abbrev ref19_closure_r22 : NC := .reg
    (.q 2 .mv [(.slot 9)] (some ((.slot 17), false))
    (.q 3 .mv [(.slot 18)] (some ((.slot 17), false))
    (.q 4 (.ixs 2) [(.res 2), (.res 3)] (some ((.slot 17), false))
    (.q 5 (.lda 2) [(.res 4)] (some ((.slot 17), false))
    (.q 6 (.lda 2) [(.slot 16)] (some ((.slot 17), false))
    (.q 7 (.eqc false [(.i .i64), (.i .i64)]) [(.res 5), (.res 6)] (some ((.slot 17), false))
    (.q 8 .pick [(.slot 17), (.const (.bool true)), (.res 7)] none
    (.out [(1, (.slot 1)), (3, (.slot 3)), (8, (.slot 8)), (9, (.slot 9)), (10, (.slot 10)), (11, (.slot 11)), (13, (.slot 13)), (14, (.slot 14)), (15, (.slot 15)), (16, (.slot 16)), (17, (.res 8)), (18, (.slot 18))]))))))))
    [1, 3, 8, 9, 10, 11, 13, 14, 15, 16, 17, 18]
abbrev ref19_closure_r23 : NC := .reg
    (.q 1 (.iar .add) [(.slot 18), (.const (.int .i64 1))] none
    (.out [(1, (.slot 1)), (3, (.slot 3)), (8, (.slot 8)), (9, (.slot 9)), (10, (.slot 10)), (11, (.slot 11)), (13, (.slot 13)), (14, (.slot 14)), (15, (.slot 15)), (16, (.slot 16)), (17, (.slot 17)), (18, (.res 1))]))
    [1, 3, 8, 9, 10, 11, 13, 14, 15, 16, 17, 18]
abbrev ref19_closure_l0 : NC :=
  (.seq (.seq ref19_closure_r21
  (.cond (.slot 96)
    .skip
    (.exit 6)))
  (.seq (.block 7 ref19_closure_r22)
  ref19_closure_r23))
abbrev ref19_closure_r24 : NC := .reg
    (.out [(1, (.slot 1)), (3, (.slot 3)), (8, (.slot 8)), (9, (.slot 9)), (10, (.slot 10)), (11, (.slot 11)), (13, (.slot 13)), (14, (.slot 14)), (15, (.slot 15)), (16, (.slot 16)), (108, (.slot 17))])
    [1, 3, 8, 9, 10, 11, 13, 14, 15, 16, 17]
abbrev ref19_closure_r25 : NC := .reg
    (.q 1 (.lda 2) [(.slot 16)] none
    (.x 2 (.bsl 23 1 [(.int .i64 0), (.int .i64 0)] [(0, 2)]) [(.res 1)] none []
    (.x 3 (.app 23 2 16 [(.int .i64 0), (.int .i64 0)]) [(.slot 9), (.res 2)] none []
    (.out [(1, (.slot 1)), (3, (.slot 3)), (8, (.slot 8)), (9, (.res 3)), (10, (.slot 10)), (11, (.slot 11)), (13, (.slot 13)), (14, (.slot 14)), (15, (.slot 15)), (16, (.slot 16))]))))
    [1, 3, 8, 9, 10, 11, 13, 14, 15, 16]
abbrev ref19_closure_r26 : NC := .reg
    (.q 1 (.lda 2) [(.slot 16)] none
    (.x 2 (.call 25) [(.slot 1), (.res 1)] none []
    (.q 4 (.ext 0) [(.res 2)] none
    (.q 5 (.ext 1) [(.res 2)] none
    (.x 6 (.alc [(.int .i64 0), (.int .i64 0), (.int .i64 0), (.int .i64 0), (.int .i64 0), (.int .i64 0), (.int .i64 0), (.int .i64 0), (.string ⟨#[]⟩), (.string ⟨#[]⟩), (.string ⟨#[]⟩), (.string ⟨#[]⟩), (.int .i64 0), (.int .i64 0), (.int .i64 0), (.int .i64 0), (.int .i64 0), (.int .i64 0), (.int .i64 0), (.int .i64 0), (.bool false)] 38) [] none []
    (.x 7 (.st 21) [(.res 6), (.res 4)] none []
    (.out [(1, (.slot 1)), (3, (.slot 3)), (8, (.slot 8)), (9, (.slot 9)), (10, (.slot 10)), (11, (.slot 11)), (13, (.slot 13)), (14, (.slot 14)), (15, (.slot 15)), (16, (.slot 16)), (20, (.res 5))])))))))
    [1, 3, 8, 9, 10, 11, 13, 14, 15, 16]
abbrev ref19_closure_r27 : NC := .reg
    (.q 1 .not [(.slot 20)] none
    (.out [(1, (.slot 1)), (3, (.slot 3)), (8, (.slot 8)), (9, (.slot 9)), (10, (.slot 10)), (11, (.slot 11)), (13, (.slot 13)), (14, (.slot 14)), (15, (.slot 15)), (16, (.slot 16)), (120, (.res 1))]))
    [1, 3, 8, 9, 10, 11, 13, 14, 15, 16, 20]
abbrev ref19_closure_r28 : NC := .reg
    (.q 0 (.lda 2) [(.slot 16)] none
    (.x 1 (.bsl 23 1 [(.int .i64 0), (.int .i64 0)] [(0, 2)]) [(.res 0)] none []
    (.out [(6, (.const (.slice none 0 0))), (7, (.res 1))])))
    [16]
abbrev ref19_closure_r29 : NC := .reg
    (.q 1 (.iar .add) [(.slot 15), (.const (.int .i64 1))] none
    (.out [(1, (.slot 1)), (3, (.slot 3)), (8, (.slot 8)), (9, (.slot 9)), (10, (.slot 10)), (11, (.slot 11)), (13, (.slot 13)), (14, (.slot 14)), (15, (.res 1))]))
    [1, 3, 8, 9, 10, 11, 13, 14, 15]
abbrev ref19_closure_l1 : NC :=
  (.seq (.seq ref19_closure_r17
  (.cond (.slot 87)
    .skip
    (.exit 4)))
  (.seq (.block 5 (.seq ref19_closure_r18
  (.seq ref19_closure_r19
  (.seq (.seq ref19_closure_r20
  (.block 6 (.loop [1, 3, 8, 9, 10, 11, 13, 14, 15, 16, 17, 18] ref19_closure_l0)))
  (.seq (.seq ref19_closure_r24
  (.cond (.slot 108)
    (.exit 5)
    .skip))
  (.seq ref19_closure_r25
  (.seq ref19_closure_r26
  (.seq ref19_closure_r27
  (.cond (.slot 120)
    (.seq ref19_closure_r28
    .ret)
    .skip)))))))))
  ref19_closure_r29))
abbrev ref19_closure_r30 : NC := .reg
    (.q 1 (.iar .add) [(.slot 13), (.const (.int .i64 1))] none
    (.out [(1, (.slot 1)), (3, (.slot 3)), (8, (.slot 8)), (9, (.slot 9)), (10, (.slot 10)), (11, (.slot 11)), (13, (.res 1))]))
    [1, 3, 8, 9, 10, 11, 13]
abbrev ref19_closure_l2 : NC :=
  (.seq (.seq ref19_closure_r12
  (.cond (.slot 58)
    .skip
    (.exit 2)))
  (.seq (.block 3 (.seq ref19_closure_r13
  (.seq (.seq ref19_closure_r14
  (.cond (.slot 72)
    ref19_closure_r15
    .skip))
  (.seq ref19_closure_r16
  (.block 4 (.loop [1, 3, 8, 9, 10, 11, 13, 14, 15] ref19_closure_l1))))))
  ref19_closure_r30))
abbrev ref19_closure_r31 : NC := .reg
    (.q 1 (.iar .add) [(.slot 10), (.const (.int .i64 1))] none
    (.out [(1, (.slot 1)), (3, (.slot 3)), (8, (.slot 8)), (9, (.slot 9)), (10, (.res 1))]))
    [1, 3, 8, 9, 10]
abbrev ref19_closure_l3 : NC :=
  (.seq (.seq ref19_closure_r4
  (.cond (.slot 26)
    .skip
    (.exit 0)))
  (.seq (.block 1 (.seq ref19_closure_r5
  (.seq (.seq ref19_closure_r6
  (.cond (.slot 39)
    (.seq ref19_closure_r7
    .ret)
    .skip))
  (.seq (.seq ref19_closure_r8
  (.cond (.slot 47)
    (.seq ref19_closure_r9
    .ret)
    .skip))
  (.seq ref19_closure_r10
  (.seq ref19_closure_r11
  (.block 2 (.loop [1, 3, 8, 9, 10, 11, 13] ref19_closure_l2))))))))
  ref19_closure_r31))
abbrev ref19_closure_r32 : NC := .reg
    (.out [(6, (.slot 8)), (7, (.const (.slice none 0 0)))])
    [8]
abbrev ref19_closure_c : NC :=
  (.seq ref19_closure_r0
  (.seq ref19_closure_r1
  (.seq ref19_closure_r2
  (.seq (.seq ref19_closure_r3
  (.block 0 (.loop [1, 3, 8, 9, 10] ref19_closure_l3)))
  (.seq ref19_closure_r32
  .ret)))))
abbrev ref19_closure_F : FN := ⟨ref19_closure_c, [.slot 6, .slot 7]⟩
theorem ref19_closure_ok : compF Try.prog Try.f27 = some ref19_closure_F := by kernel_rfl
theorem ref19_closure_go {args : List Value} {m : Mem} {R : Value → Mem → Prop} (hn : args.length ≤ Try.f27.ntmps) (h : wpN Try.prog ref19_closure_c (retP ref19_closure_F.rvs R) (zipP 0 args) m) : MC Try.prog 27 args m R := MC_start Try.func27 ref19_closure_ok mixed_ok hn h
/-! concord/concordref19.order -/
abbrev ref19_order_r0 : NC := .reg
    (.x 0 (.box 30) [(.slot 0)] none []
    (.out [(1, (.slot 1))]))
    [0, 1]
abbrev ref19_order_r1 : NC := .reg
    (.x 0 (.bsl 52 0 [] []) [] none []
    (.x 2 (.app 52 23 216 [(.int .i64 0), (.int .i64 0), (.int .i64 0), (.int .i64 0), (.int .i64 0), (.int .i64 0), (.int .i64 0), (.int .i64 0), (.int .i64 0), (.int .i64 0), (.string ⟨#[]⟩), (.string ⟨#[]⟩), (.string ⟨#[]⟩), (.string ⟨#[]⟩), (.int .i64 0), (.int .i64 0), (.int .i64 0), (.int .i64 0), (.int .i64 0), (.int .i64 0), (.int .i64 0), (.int .i64 0), (.bool false)]) [(.res 0), (.slot 1)] none []
    (.out [(5, (.res 2))])))
    [1]
abbrev ref19_order_r2 : NC := .reg
    (.out [(5, (.slot 5)), (6, (.const (.int .i64 1)))])
    [5]
abbrev ref19_order_r3 : NC := .reg
    (.q 2 .len [(.slot 5)] none
    (.q 3 (.icm .lss) [(.slot 6), (.res 2)] none
    (.out [(5, (.slot 5)), (6, (.slot 6)), (26, (.res 3))])))
    [5, 6]
abbrev ref19_order_r4 : NC := .reg
    (.out [(5, (.slot 5)), (6, (.slot 6)), (7, (.slot 6))])
    [5, 6]
abbrev ref19_order_r5 : NC := .reg
    (.q 1 (.icm .gtr) [(.slot 7), (.const (.int .i64 0))] none
    (.q 3 .mv [(.slot 5)] (some ((.res 1), true))
    (.q 4 .mv [(.slot 7)] (some ((.res 1), true))
    (.q 5 (.ixs 23) [(.res 3), (.res 4)] (some ((.res 1), true))
    (.q 6 (.fld 0) [(.res 5)] (some ((.res 1), true))
    (.q 7 (.lda 2) [(.res 6)] (some ((.res 1), true))
    (.q 8 .mv [(.slot 5)] (some ((.res 1), true))
    (.q 9 .mv [(.slot 7)] (some ((.res 1), true))
    (.q 10 (.iar .sub) [(.res 9), (.const (.int .i64 1))] (some ((.res 1), true))
    (.q 11 (.ixs 23) [(.res 8), (.res 10)] (some ((.res 1), true))
    (.q 12 (.fld 0) [(.res 11)] (some ((.res 1), true))
    (.q 13 (.lda 2) [(.res 12)] (some ((.res 1), true))
    (.x 14 (.call 40) [(.res 7), (.res 13)] (some ((.res 1), true)) []
    (.q 15 .pick [(.res 1), (.res 14), (.const (.bool false))] none
    (.out [(5, (.slot 5)), (6, (.slot 6)), (7, (.slot 7)), (45, (.res 15))])))))))))))))))
    [5, 6, 7]
abbrev ref19_order_r6 : NC := .reg
    (.q 4 (.iar .sub) [(.slot 7), (.const (.int .i64 1))] none
    (.q 7 (.iar .sub) [(.slot 7), (.const (.int .i64 1))] none
    (.q 8 (.ixs 23) [(.slot 5), (.res 7)] none
    (.q 9 (.lda 23) [(.res 8)] none
    (.q 12 (.ixs 23) [(.slot 5), (.slot 7)] none
    (.q 13 (.lda 23) [(.res 12)] none
    (.q 14 (.ixs 23) [(.slot 5), (.slot 7)] none
    (.x 15 (.st 23) [(.res 14), (.res 9)] none []
    (.q 16 (.ixs 23) [(.slot 5), (.res 4)] none
    (.x 17 (.st 23) [(.res 16), (.res 13)] none []
    (.out [(5, (.slot 5)), (6, (.slot 6)), (7, (.slot 7))])))))))))))
    [5, 6, 7]
abbrev ref19_order_r7 : NC := .reg
    (.q 1 (.iar .sub) [(.slot 7), (.const (.int .i64 1))] none
    (.out [(5, (.slot 5)), (6, (.slot 6)), (7, (.res 1))]))
    [5, 6, 7]
abbrev ref19_order_l0 : NC :=
  (.seq (.seq ref19_order_r5
  (.cond (.slot 45)
    .skip
    (.exit 2)))
  (.seq (.block 3 ref19_order_r6)
  ref19_order_r7))
abbrev ref19_order_r8 : NC := .reg
    (.q 1 (.iar .add) [(.slot 6), (.const (.int .i64 1))] none
    (.out [(5, (.slot 5)), (6, (.res 1))]))
    [5, 6]
abbrev ref19_order_l1 : NC :=
  (.seq (.seq ref19_order_r3
  (.cond (.slot 26)
    .skip
    (.exit 0)))
  (.seq (.block 1 (.seq ref19_order_r4
  (.block 2 (.loop [5, 6, 7] ref19_order_l0))))
  ref19_order_r8))
abbrev ref19_order_r9 : NC := .reg
    (.q 1 .len [(.slot 5)] none
    (.x 2 (.mks 55 24 [(.slice none 0 0)]) [(.res 1), (.res 1)] none []
    (.out [(5, (.slot 5)), (8, (.res 2))])))
    [5]
abbrev ref19_order_r10 : NC := .reg
    (.out [(5, (.slot 5)), (8, (.slot 8)), (9, (.const (.int .i64 0)))])
    [5, 8]
abbrev ref19_order_r11 : NC := .reg
    (.q 2 .len [(.slot 5)] none
    (.q 3 (.icm .lss) [(.slot 9), (.res 2)] none
    (.out [(5, (.slot 5)), (8, (.slot 8)), (9, (.slot 9)), (70, (.res 3))])))
    [5, 8, 9]
abbrev ref19_order_r12 : NC := .reg
    (.out [(5, (.slot 5)), (8, (.slot 8)), (9, (.slot 9)), (10, (.const (.int .i64 0)))])
    [5, 8, 9]
abbrev ref19_order_r13 : NC := .reg
    (.q 2 .len [(.slot 5)] none
    (.q 3 (.icm .lss) [(.slot 10), (.res 2)] none
    (.out [(5, (.slot 5)), (8, (.slot 8)), (9, (.slot 9)), (10, (.slot 10)), (76, (.res 3))])))
    [5, 8, 9, 10]
abbrev ref19_order_r14 : NC := .reg
    (.q 2 (.ixs 23) [(.slot 5), (.slot 10)] none
    (.q 3 (.fld 0) [(.res 2)] none
    (.q 4 (.lda 2) [(.res 3)] none
    (.x 5 (.alc [(.int .i64 0), (.int .i64 0)] 23) [] none []
    (.x 6 (.st 2) [(.res 5), (.res 4)] none []
    (.out [(5, (.slot 5)), (8, (.slot 8)), (9, (.slot 9)), (10, (.slot 10)), (11, (.res 5))]))))))
    [5, 8, 9, 10]
abbrev ref19_order_r15 : NC := .reg
    (.q 2 (.fld 0) [(.slot 11)] none
    (.q 3 .ld [(.res 2)] none
    (.q 4 (.ixs 23) [(.slot 5), (.slot 9)] none
    (.q 5 (.fld 2) [(.res 4)] none
    (.q 6 (.fld 12) [(.res 5)] none
    (.q 7 (.fld 1) [(.res 6)] none
    (.q 8 (.ixa 7 1) [(.res 7), (.res 3)] none
    (.q 9 .ld [(.res 8)] none
    (.out [(5, (.slot 5)), (8, (.slot 8)), (9, (.slot 9)), (10, (.slot 10)), (11, (.slot 11)), (12, (.res 9))])))))))))
    [5, 8, 9, 10, 11]
abbrev ref19_order_r16 : NC := .reg
    (.q 0 (.fld 0) [(.slot 11)] none
    (.q 1 .ld [(.res 0)] none
    (.q 4 (.ixs 23) [(.slot 5), (.slot 9)] none
    (.q 5 (.fld 0) [(.res 4)] none
    (.q 6 (.fld 0) [(.res 5)] none
    (.q 7 .ld [(.res 6)] none
    (.q 8 (.icm .eql) [(.res 1), (.res 7)] none
    (.out [(5, (.slot 5)), (8, (.slot 8)), (9, (.slot 9)), (10, (.slot 10)), (11, (.slot 11)), (12, (.slot 12)), (102, (.res 8))]))))))))
    [5, 8, 9, 10, 11, 12]
abbrev ref19_order_r17 : NC := .reg
    (.q 3 (.ixs 23) [(.slot 5), (.slot 9)] none
    (.q 4 (.fld 0) [(.res 3)] none
    (.q 5 (.fld 1) [(.res 4)] none
    (.q 6 .ld [(.res 5)] none
    (.q 7 (.iar .sub) [(.res 6), (.const (.int .i64 1))] none
    (.q 8 .mx [(.slot 12), (.res 7)] none
    (.out [(5, (.slot 5)), (8, (.slot 8)), (9, (.slot 9)), (10, (.slot 10)), (11, (.slot 11)), (12, (.res 8))])))))))
    [5, 8, 9, 10, 11, 12]
abbrev ref19_order_r18 : NC := .reg
    (.q 1 (.fld 1) [(.slot 11)] none
    (.q 2 .ld [(.res 1)] none
    (.q 3 (.icm .geq) [(.slot 12), (.res 2)] none
    (.out [(5, (.slot 5)), (8, (.slot 8)), (9, (.slot 9)), (10, (.slot 10)), (115, (.res 3))]))))
    [5, 8, 9, 10, 11, 12]
abbrev ref19_order_r19 : NC := .reg
    (.q 4 (.ixs 1) [(.slot 8), (.slot 9)] none
    (.q 5 .ld [(.res 4)] none
    (.x 7 (.bsl 3 1 [(.int .i64 0)] [(0, 1)]) [(.slot 10)] none []
    (.x 8 (.app 3 1 8 [(.int .i64 0)]) [(.res 5), (.res 7)] none []
    (.q 9 (.ixs 1) [(.slot 8), (.slot 9)] none
    (.x 10 (.st 1) [(.res 9), (.res 8)] none []
    (.out [(5, (.slot 5)), (8, (.slot 8)), (9, (.slot 9)), (10, (.slot 10))])))))))
    [5, 8, 9, 10]
abbrev ref19_order_r20 : NC := .reg
    (.q 1 (.iar .add) [(.slot 10), (.const (.int .i64 1))] none
    (.out [(5, (.slot 5)), (8, (.slot 8)), (9, (.slot 9)), (10, (.res 1))]))
    [5, 8, 9, 10]
abbrev ref19_order_l2 : NC :=
  (.seq (.seq ref19_order_r13
  (.cond (.slot 76)
    .skip
    (.exit 6)))
  (.seq (.block 7 (.seq ref19_order_r14
  (.seq ref19_order_r15
  (.seq (.seq ref19_order_r16
  (.cond (.slot 102)
    ref19_order_r17
    .skip))
  (.seq ref19_order_r18
  (.cond (.slot 115)
    ref19_order_r19
    .skip))))))
  ref19_order_r20))
abbrev ref19_order_r21 : NC := .reg
    (.q 1 (.iar .add) [(.slot 9), (.const (.int .i64 1))] none
    (.out [(5, (.slot 5)), (8, (.slot 8)), (9, (.res 1))]))
    [5, 8, 9]
abbrev ref19_order_l3 : NC :=
  (.seq (.seq ref19_order_r11
  (.cond (.slot 70)
    .skip
    (.exit 4)))
  (.seq (.block 5 (.seq ref19_order_r12
  (.block 6 (.loop [5, 8, 9, 10] ref19_order_l2))))
  ref19_order_r21))
abbrev ref19_order_r22 : NC := .reg
    (.out [(5, (.slot 5)), (8, (.slot 8)), (13, (.const (.slice none 0 0)))])
    [5, 8]
abbrev ref19_order_r23 : NC := .reg
    (.x 1 (.call 41) [(.slot 8)] none []
    (.out [(5, (.slot 5)), (13, (.slot 13)), (14, (.res 1))]))
    [5, 8, 13]
abbrev ref19_order_r24 : NC := .reg
    (.out [(5, (.slot 5)), (13, (.slot 13)), (14, (.slot 14)), (15, (.const (.int .i64 0)))])
    [5, 13, 14]
abbrev ref19_order_r25 : NC := .reg
    (.q 2 .len [(.slot 14)] none
    (.q 3 (.icm .lss) [(.slot 15), (.res 2)] none
    (.out [(5, (.slot 5)), (13, (.slot 13)), (14, (.slot 14)), (15, (.slot 15)), (131, (.res 3))])))
    [5, 13, 14, 15]
abbrev ref19_order_r26 : NC := .reg
    (.out [(5, (.slot 5)), (13, (.slot 13)), (14, (.slot 14)), (15, (.slot 15)), (16, (.const (.slice none 0 0)))])
    [5, 13, 14, 15]
abbrev ref19_order_r27 : NC := .reg
    (.out [(5, (.slot 5)), (13, (.slot 13)), (14, (.slot 14)), (15, (.slot 15)), (16, (.slot 16)), (17, (.const (.int .i64 0)))])
    [5, 13, 14, 15, 16]
abbrev ref19_order_r28 : NC := .reg
    (.q 3 (.ixs 1) [(.slot 14), (.slot 15)] none
    (.q 4 .ld [(.res 3)] none
    (.q 5 .len [(.res 4)] none
    (.q 6 (.icm .lss) [(.slot 17), (.res 5)] none
    (.out [(5, (.slot 5)), (13, (.slot 13)), (14, (.slot 14)), (15, (.slot 15)), (16, (.slot 16)), (17, (.slot 17)), (140, (.res 6))])))))
    [5, 13, 14, 15, 16, 17]
abbrev ref19_order_r29 : NC := .reg
    (.q 4 (.ixs 1) [(.slot 14), (.slot 15)] none
    (.q 5 .ld [(.res 4)] none
    (.q 7 (.ixs 1) [(.res 5), (.slot 17)] none
    (.q 8 .ld [(.res 7)] none
    (.q 9 (.ixs 23) [(.slot 5), (.res 8)] none
    (.q 10 (.lda 23) [(.res 9)] none
    (.x 11 (.bsl 52 1 [(.int .i64 0), (.int .i64 0), (.int .i64 0), (.int .i64 0), (.int .i64 0), (.int .i64 0), (.int .i64 0), (.int .i64 0), (.int .i64 0), (.int .i64 0), (.string ⟨#[]⟩), (.string ⟨#[]⟩), (.string ⟨#[]⟩), (.string ⟨#[]⟩), (.int .i64 0), (.int .i64 0), (.int .i64 0), (.int .i64 0), (.int .i64 0), (.int .i64 0), (.int .i64 0), (.int .i64 0), (.bool false)] [(0, 23)]) [(.res 10)] none []
    (.x 12 (.app 52 23 216 [(.int .i64 0), (.int .i64 0), (.int .i64 0), (.int .i64 0), (.int .i64 0), (.int .i64 0), (.int .i64 0), (.int .i64 0), (.int .i64 0), (.int .i64 0), (.string ⟨#[]⟩), (.string ⟨#[]⟩), (.string ⟨#[]⟩), (.string ⟨#[]⟩), (.int .i64 0), (.int .i64 0), (.int .i64 0), (.int .i64 0), (.int .i64 0), (.int .i64 0), (.int .i64 0), (.int .i64 0), (.bool false)]) [(.slot 16), (.res 11)] none []
    (.out [(5, (.slot 5)), (13, (.slot 13)), (14, (.slot 14)), (15, (.slot 15)), (16, (.res 12)), (17, (.slot 17))])))))))))
    [5, 13, 14, 15, 16, 17]
abbrev ref19_order_r30 : NC := .reg
    (.q 1 (.iar .add) [(.slot 17), (.const (.int .i64 1))] none
    (.out [(5, (.slot 5)), (13, (.slot 13)), (14, (.slot 14)), (15, (.slot 15)), (16, (.slot 16)), (17, (.res 1))]))
    [5, 13, 14, 15, 16, 17]
abbrev ref19_order_l4 : NC :=
  (.seq (.seq ref19_order_r28
  (.cond (.slot 140)
    .skip
    (.exit 10)))
  (.seq (.block 11 ref19_order_r29)
  ref19_order_r30))
abbrev ref19_order_r31 : NC := .reg
    (.out [(5, (.slot 5)), (13, (.slot 13)), (14, (.slot 14)), (15, (.slot 15)), (16, (.slot 16)), (18, (.const (.int .i64 1)))])
    [5, 13, 14, 15, 16]
abbrev ref19_order_r32 : NC := .reg
    (.q 2 .len [(.slot 16)] none
    (.q 3 (.icm .lss) [(.slot 18), (.res 2)] none
    (.out [(5, (.slot 5)), (13, (.slot 13)), (14, (.slot 14)), (15, (.slot 15)), (16, (.slot 16)), (18, (.slot 18)), (159, (.res 3))])))
    [5, 13, 14, 15, 16, 18]
abbrev ref19_order_r33 : NC := .reg
    (.out [(5, (.slot 5)), (13, (.slot 13)), (14, (.slot 14)), (15, (.slot 15)), (16, (.slot 16)), (18, (.slot 18)), (19, (.slot 18))])
    [5, 13, 14, 15, 16, 18]
abbrev ref19_order_r34 : NC := .reg
    (.q 1 (.icm .gtr) [(.slot 19), (.const (.int .i64 0))] none
    (.q 3 .mv [(.slot 16)] (some ((.res 1), true))
    (.q 4 .mv [(.slot 19)] (some ((.res 1), true))
    (.q 5 (.ixs 23) [(.res 3), (.res 4)] (some ((.res 1), true))
    (.q 6 (.lda 23) [(.res 5)] (some ((.res 1), true))
    (.q 7 .mv [(.slot 16)] (some ((.res 1), true))
    (.q 8 .mv [(.slot 19)] (some ((.res 1), true))
    (.q 9 (.iar .sub) [(.res 8), (.const (.int .i64 1))] (some ((.res 1), true))
    (.q 10 (.ixs 23) [(.res 7), (.res 9)] (some ((.res 1), true))
    (.q 11 (.lda 23) [(.res 10)] (some ((.res 1), true))
    (.x 12 (.call 42) [(.res 6), (.res 11)] (some ((.res 1), true)) []
    (.q 13 .pick [(.res 1), (.res 12), (.const (.bool false))] none
    (.out [(5, (.slot 5)), (13, (.slot 13)), (14, (.slot 14)), (15, (.slot 15)), (16, (.slot 16)), (18, (.slot 18)), (19, (.slot 19)), (176, (.res 13))])))))))))))))
    [5, 13, 14, 15, 16, 18, 19]
abbrev ref19_order_r35 : NC := .reg
    (.q 4 (.iar .sub) [(.slot 19), (.const (.int .i64 1))] none
    (.q 7 (.iar .sub) [(.slot 19), (.const (.int .i64 1))] none
    (.q 8 (.ixs 23) [(.slot 16), (.res 7)] none
    (.q 9 (.lda 23) [(.res 8)] none
    (.q 12 (.ixs 23) [(.slot 16), (.slot 19)] none
    (.q 13 (.lda 23) [(.res 12)] none
    (.q 14 (.ixs 23) [(.slot 16), (.slot 19)] none
    (.x 15 (.st 23) [(.res 14), (.res 9)] none []
    (.q 16 (.ixs 23) [(.slot 16), (.res 4)] none
    (.x 17 (.st 23) [(.res 16), (.res 13)] none []
    (.out [(5, (.slot 5)), (13, (.slot 13)), (14, (.slot 14)), (15, (.slot 15)), (16, (.slot 16)), (18, (.slot 18)), (19, (.slot 19))])))))))))))
    [5, 13, 14, 15, 16, 18, 19]
abbrev ref19_order_r36 : NC := .reg
    (.q 1 (.iar .sub) [(.slot 19), (.const (.int .i64 1))] none
    (.out [(5, (.slot 5)), (13, (.slot 13)), (14, (.slot 14)), (15, (.slot 15)), (16, (.slot 16)), (18, (.slot 18)), (19, (.res 1))]))
    [5, 13, 14, 15, 16, 18, 19]
abbrev ref19_order_l5 : NC :=
  (.seq (.seq ref19_order_r34
  (.cond (.slot 176)
    .skip
    (.exit 14)))
  (.seq (.block 15 ref19_order_r35)
  ref19_order_r36))
abbrev ref19_order_r37 : NC := .reg
    (.q 1 (.iar .add) [(.slot 18), (.const (.int .i64 1))] none
    (.out [(5, (.slot 5)), (13, (.slot 13)), (14, (.slot 14)), (15, (.slot 15)), (16, (.slot 16)), (18, (.res 1))]))
    [5, 13, 14, 15, 16, 18]
abbrev ref19_order_l6 : NC :=
  (.seq (.seq ref19_order_r32
  (.cond (.slot 159)
    .skip
    (.exit 12)))
  (.seq (.block 13 (.seq ref19_order_r33
  (.block 14 (.loop [5, 13, 14, 15, 16, 18, 19] ref19_order_l5))))
  ref19_order_r37))
abbrev ref19_order_r38 : NC := .reg
    (.x 2 (.app 52 23 216 [(.int .i64 0), (.int .i64 0), (.int .i64 0), (.int .i64 0), (.int .i64 0), (.int .i64 0), (.int .i64 0), (.int .i64 0), (.int .i64 0), (.int .i64 0), (.string ⟨#[]⟩), (.string ⟨#[]⟩), (.string ⟨#[]⟩), (.string ⟨#[]⟩), (.int .i64 0), (.int .i64 0), (.int .i64 0), (.int .i64 0), (.int .i64 0), (.int .i64 0), (.int .i64 0), (.int .i64 0), (.bool false)]) [(.slot 13), (.slot 16)] none []
    (.out [(5, (.slot 5)), (13, (.res 2)), (14, (.slot 14)), (15, (.slot 15))]))
    [5, 13, 14, 15, 16]
abbrev ref19_order_r39 : NC := .reg
    (.q 1 (.iar .add) [(.slot 15), (.const (.int .i64 1))] none
    (.out [(5, (.slot 5)), (13, (.slot 13)), (14, (.slot 14)), (15, (.res 1))]))
    [5, 13, 14, 15]
abbrev ref19_order_l7 : NC :=
  (.seq (.seq ref19_order_r25
  (.cond (.slot 131)
    .skip
    (.exit 8)))
  (.seq (.block 9 (.seq ref19_order_r26
  (.seq (.seq ref19_order_r27
  (.block 10 (.loop [5, 13, 14, 15, 16, 17] ref19_order_l4)))
  (.seq (.seq ref19_order_r31
  (.block 12 (.loop [5, 13, 14, 15, 16, 18] ref19_order_l6)))
  ref19_order_r38))))
  ref19_order_r39))
abbrev ref19_order_r40 : NC := .reg
    (.out [(4, (.slot 13))])
    [13]
abbrev ref19_order_c : NC :=
  (.seq ref19_order_r0
  (.seq ref19_order_r1
  (.seq (.seq ref19_order_r2
  (.block 0 (.loop [5, 6] ref19_order_l1)))
  (.seq ref19_order_r9
  (.seq (.seq ref19_order_r10
  (.block 4 (.loop [5, 8, 9] ref19_order_l3)))
  (.seq ref19_order_r22
  (.seq ref19_order_r23
  (.seq (.seq ref19_order_r24
  (.block 8 (.loop [5, 13, 14, 15] ref19_order_l7)))
  (.seq ref19_order_r40
  .ret)))))))))
abbrev ref19_order_F : FN := ⟨ref19_order_c, [.slot 4]⟩
theorem ref19_order_ok : compF Try.prog Try.f28 = some ref19_order_F := by kernel_rfl
theorem ref19_order_go {args : List Value} {m : Mem} {R : Value → Mem → Prop} (hn : args.length ≤ Try.f28.ntmps) (h : wpN Try.prog ref19_order_c (retP ref19_order_F.rvs R) (zipP 0 args) m) : MC Try.prog 28 args m R := MC_start Try.func28 ref19_order_ok mixed_ok hn h
/-! concord/concordref19.unique -/
abbrev ref19_unique_r0 : NC := .reg
    (.out [(0, (.slot 0))])
    [0]
abbrev ref19_unique_r1 : NC := .reg
    (.out [(0, (.slot 0)), (3, (.const (.slice none 0 0)))])
    [0]
abbrev ref19_unique_r2 : NC := .reg
    (.out [(0, (.slot 0)), (3, (.slot 3)), (4, (.const (.int .i64 0)))])
    [0, 3]
abbrev ref19_unique_r3 : NC := .reg
    (.q 2 .len [(.slot 0)] none
    (.q 3 (.icm .lss) [(.slot 4), (.res 2)] none
    (.out [(0, (.slot 0)), (3, (.slot 3)), (4, (.slot 4)), (9, (.res 3))])))
    [0, 3, 4]
abbrev ref19_unique_r4 : NC := .reg
    (.out [(0, (.slot 0)), (3, (.slot 3)), (4, (.slot 4)), (5, (.const (.int .i64 0)))])
    [0, 3, 4]
abbrev ref19_unique_r5 : NC := .reg
    (.q 2 .len [(.slot 3)] none
    (.q 3 (.icm .lss) [(.slot 5), (.res 2)] none
    (.q 5 .mv [(.slot 3)] (some ((.res 3), true))
    (.q 6 .mv [(.slot 5)] (some ((.res 3), true))
    (.q 7 (.ixs 2) [(.res 5), (.res 6)] (some ((.res 3), true))
    (.q 8 (.lda 2) [(.res 7)] (some ((.res 3), true))
    (.q 9 .mv [(.slot 0)] (some ((.res 3), true))
    (.q 10 .mv [(.slot 4)] (some ((.res 3), true))
    (.q 11 (.ixs 2) [(.res 9), (.res 10)] (some ((.res 3), true))
    (.q 12 (.lda 2) [(.res 11)] (some ((.res 3), true))
    (.x 13 (.call 40) [(.res 8), (.res 12)] (some ((.res 3), true)) []
    (.q 14 .pick [(.res 3), (.res 13), (.const (.bool false))] none
    (.out [(0, (.slot 0)), (3, (.slot 3)), (4, (.slot 4)), (5, (.slot 5)), (26, (.res 14))])))))))))))))
    [0, 3, 4, 5]
abbrev ref19_unique_r6 : NC := .reg
    (.q 1 (.iar .add) [(.slot 5), (.const (.int .i64 1))] none
    (.out [(0, (.slot 0)), (3, (.slot 3)), (4, (.slot 4)), (5, (.res 1))]))
    [0, 3, 4, 5]
abbrev ref19_unique_l0 : NC :=
  (.seq (.seq ref19_unique_r5
  (.cond (.slot 26)
    .skip
    (.exit 2)))
  (.block 3 ref19_unique_r6))
abbrev ref19_unique_r7 : NC := .reg
    (.q 2 .len [(.slot 3)] none
    (.q 3 (.icm .eql) [(.slot 5), (.res 2)] none
    (.q 5 .mv [(.slot 3)] (some ((.res 3), false))
    (.q 6 .mv [(.slot 5)] (some ((.res 3), false))
    (.q 7 (.ixs 2) [(.res 5), (.res 6)] (some ((.res 3), false))
    (.q 8 (.lda 2) [(.res 7)] (some ((.res 3), false))
    (.q 9 .mv [(.slot 0)] (some ((.res 3), false))
    (.q 10 .mv [(.slot 4)] (some ((.res 3), false))
    (.q 11 (.ixs 2) [(.res 9), (.res 10)] (some ((.res 3), false))
    (.q 12 (.lda 2) [(.res 11)] (some ((.res 3), false))
    (.q 13 (.eqc true [(.i .i64), (.i .i64)]) [(.res 8), (.res 12)] (some ((.res 3), false))
    (.q 14 .pick [(.res 3), (.const (.bool true)), (.res 13)] none
    (.out [(0, (.slot 0)), (3, (.slot 3)), (4, (.slot 4)), (5, (.slot 5)), (43, (.res 14))])))))))))))))
    [0, 3, 4, 5]
abbrev ref19_unique_r8 : NC := .reg
    (.q 3 (.slc 2 false true) [(.slot 3), (.slot 5)] none
    (.q 7 (.ixs 2) [(.slot 0), (.slot 4)] none
    (.q 8 (.lda 2) [(.res 7)] none
    (.q 13 (.slc 2 true false) [(.slot 3), (.slot 5)] none
    (.both
    (.x 0 (.bsl 23 0 [] []) [] none [(8, (.lda 2), [(.res 7)], none)]
    (.both
    (.x 4 (.app 23 2 16 [(.int .i64 0), (.int .i64 0)]) [(.res 0), (.res 3)] none [(8, (.lda 2), [(.res 7)], none)]
    (.x 9 (.bsl 23 1 [(.int .i64 0), (.int .i64 0)] [(0, 2)]) [(.res 8)] none []
    (.x 10 (.app 23 2 16 [(.int .i64 0), (.int .i64 0)]) [(.res 4), (.res 9)] none []
    (.x 14 (.app 23 2 16 [(.int .i64 0), (.int .i64 0)]) [(.res 10), (.res 13)] none []
    (.out [(0, (.slot 0)), (3, (.res 14)), (4, (.slot 4))])))))
    (.x 9 (.bsl 23 1 [(.int .i64 0), (.int .i64 0)] [(0, 2)]) [(.res 8)] none []
    (.x 4 (.app 23 2 16 [(.int .i64 0), (.int .i64 0)]) [(.res 0), (.res 3)] none [(8, (.lda 2), [(.res 7)], none)]
    (.x 10 (.app 23 2 16 [(.int .i64 0), (.int .i64 0)]) [(.res 4), (.res 9)] none []
    (.x 14 (.app 23 2 16 [(.int .i64 0), (.int .i64 0)]) [(.res 10), (.res 13)] none []
    (.out [(0, (.slot 0)), (3, (.res 14)), (4, (.slot 4))])))))))
    (.x 9 (.bsl 23 1 [(.int .i64 0), (.int .i64 0)] [(0, 2)]) [(.res 8)] none []
    (.x 0 (.bsl 23 0 [] []) [] none [(8, (.lda 2), [(.res 7)], none)]
    (.x 4 (.app 23 2 16 [(.int .i64 0), (.int .i64 0)]) [(.res 0), (.res 3)] none [(8, (.lda 2), [(.res 7)], none)]
    (.x 10 (.app 23 2 16 [(.int .i64 0), (.int .i64 0)]) [(.res 4), (.res 9)] none []
    (.x 14 (.app 23 2 16 [(.int .i64 0), (.int .i64 0)]) [(.res 10), (.res 13)] none []
    (.out [(0, (.slot 0)), (3, (.res 14)), (4, (.slot 4))])))))))))))
    [0, 3, 4, 5]
abbrev ref19_unique_r9 : NC := .reg
    (.q 1 (.iar .add) [(.slot 4), (.const (.int .i64 1))] none
    (.out [(0, (.slot 0)), (3, (.slot 3)), (4, (.res 1))]))
    [0, 3, 4]
abbrev ref19_unique_l1 : NC :=
  (.seq (.seq ref19_unique_r3
  (.cond (.slot 9)
    .skip
    (.exit 0)))
  (.seq (.block 1 (.seq ref19_unique_r4
  (.seq (.block 2 (.loop [0, 3, 4, 5] ref19_unique_l0))
  (.seq ref19_unique_r7
  (.cond (.slot 43)
    ref19_unique_r8
    .skip)))))
  ref19_unique_r9))
abbrev ref19_unique_r10 : NC := .reg
    (.out [(2, (.slot 3))])
    [3]
abbrev ref19_unique_c : NC :=
  (.seq ref19_unique_r0
  (.seq ref19_unique_r1
  (.seq (.seq ref19_unique_r2
  (.block 0 (.loop [0, 3, 4] ref19_unique_l1)))
  (.seq ref19_unique_r10
  .ret))))
abbrev ref19_unique_F : FN := ⟨ref19_unique_c, [.slot 2]⟩
theorem ref19_unique_ok : compF Try.prog Try.f29 = some ref19_unique_F := by kernel_rfl
theorem ref19_unique_go {args : List Value} {m : Mem} {R : Value → Mem → Prop} (hn : args.length ≤ Try.f29.ntmps) (h : wpN Try.prog ref19_unique_c (retP ref19_unique_F.rvs R) (zipP 0 args) m) : MC Try.prog 29 args m R := MC_start Try.func29 ref19_unique_ok mixed_ok hn h
/-! concord/concordref1.Less -/
abbrev ref1_Less_r0 : NC := .reg
    (.x 0 (.box 23) [(.slot 0)] none []
    (.x 1 (.box 23) [(.slot 1)] none []
    (.out [(2, (.res 0)), (3, (.res 1))])))
    [0, 1]
abbrev ref1_Less_r1 : NC := .reg
    (.q 0 (.fld 0) [(.slot 2)] none
    (.q 1 .ld [(.res 0)] none
    (.q 2 (.fld 0) [(.slot 3)] none
    (.q 3 .ld [(.res 2)] none
    (.q 4 (.icm .lss) [(.res 1), (.res 3)] none
    (.q 6 (.fld 0) [(.slot 2)] (some ((.res 4), false))
    (.q 7 .ld [(.res 6)] (some ((.res 4), false))
    (.q 8 (.fld 0) [(.slot 3)] (some ((.res 4), false))
    (.q 9 .ld [(.res 8)] (some ((.res 4), false))
    (.q 10 (.icm .eql) [(.res 7), (.res 9)] (some ((.res 4), false))
    (.q 11 .mv [(.res 10)] (some ((.res 4), false))
    (.q 12 (.fld 1) [(.slot 2)] (some ((.res 11), true))
    (.q 13 .ld [(.res 12)] (some ((.res 11), true))
    (.q 14 (.fld 1) [(.slot 3)] (some ((.res 11), true))
    (.q 15 .ld [(.res 14)] (some ((.res 11), true))
    (.q 16 (.icm .lss) [(.res 13), (.res 15)] (some ((.res 11), true))
    (.q 17 .pick [(.res 11), (.res 16), (.const (.bool false))] (some ((.res 4), false))
    (.q 18 .pick [(.res 4), (.const (.bool true)), (.res 17)] none
    (.out [(4, (.res 18))])))))))))))))))))))
    [2, 3]
abbrev ref1_Less_c : NC :=
  (.seq ref1_Less_r0
  (.seq ref1_Less_r1
  .ret))
abbrev ref1_Less_F : FN := ⟨ref1_Less_c, [.slot 4]⟩
theorem ref1_Less_ok : compF Try.prog Try.f40 = some ref1_Less_F := by kernel_rfl
theorem ref1_Less_go {args : List Value} {m : Mem} {R : Value → Mem → Prop} (hn : args.length ≤ Try.f40.ntmps) (h : wpN Try.prog ref1_Less_c (retP ref1_Less_F.rvs R) (zipP 0 args) m) : MC Try.prog 40 args m R := MC_start Try.func40 ref1_Less_ok mixed_ok hn h
/-! concord/concordref19.Parts -/
abbrev ref19_Parts_r0 : NC := .reg
    (.out [(0, (.slot 0))])
    [0]
abbrev ref19_Parts_r1 : NC := .reg
    (.x 1 (.call 52) [(.slot 0)] none []
    (.out [(0, (.slot 0)), (3, (.res 1))]))
    [0]
abbrev ref19_Parts_r2 : NC := .reg
    (.q 1 .len [(.slot 0)] none
    (.out [(3, (.slot 3)), (4, (.res 1))]))
    [0, 3]
abbrev ref19_Parts_r3 : NC := .reg
    (.x 1 (.mks 4 1 [(.bool false)]) [(.slot 4), (.slot 4)] none []
    (.out [(3, (.slot 3)), (4, (.slot 4)), (5, (.res 1))]))
    [3, 4]
abbrev ref19_Parts_r4 : NC := .reg
    (.out [(3, (.slot 3)), (4, (.slot 4)), (5, (.slot 5)), (6, (.const (.slice none 0 0)))])
    [3, 4, 5]
abbrev ref19_Parts_r5 : NC := .reg
    (.out [(3, (.slot 3)), (4, (.slot 4)), (5, (.slot 5)), (6, (.slot 6)), (7, (.const (.int .i64 (-1))))])
    [3, 4, 5, 6]
abbrev ref19_Parts_r6 : NC := .reg
    (.out [(3, (.slot 3)), (4, (.slot 4)), (5, (.slot 5)), (6, (.slot 6)), (7, (.slot 7)), (8, (.const (.int .i64 0)))])
    [3, 4, 5, 6, 7]
abbrev ref19_Parts_r7 : NC := .reg
    (.q 2 (.icm .lss) [(.slot 8), (.slot 4)] none
    (.q 4 .mv [(.slot 7)] (some ((.res 2), true))
    (.q 5 (.icm .lss) [(.res 4), (.const (.int .i64 0))] (some ((.res 2), true))
    (.q 6 .pick [(.res 2), (.res 5), (.const (.bool false))] none
    (.out [(3, (.slot 3)), (4, (.slot 4)), (5, (.slot 5)), (6, (.slot 6)), (7, (.slot 7)), (8, (.slot 8)), (25, (.res 6))])))))
    [3, 4, 5, 6, 7, 8]
abbrev ref19_Parts_r8 : NC := .reg
    (.q 2 (.ixs 1) [(.slot 5), (.slot 8)] none
    (.q 3 .ld [(.res 2)] none
    (.out [(3, (.slot 3)), (4, (.slot 4)), (5, (.slot 5)), (6, (.slot 6)), (7, (.slot 7)), (8, (.slot 8)), (31, (.res 3))])))
    [3, 4, 5, 6, 7, 8]
abbrev ref19_Parts_r9 : NC := .reg
    (.out [(3, (.slot 3)), (4, (.slot 4)), (5, (.slot 5)), (6, (.slot 6)), (7, (.slot 7)), (8, (.slot 8)), (9, (.const (.bool true)))])
    [3, 4, 5, 6, 7, 8]
abbrev ref19_Parts_r10 : NC := .reg
    (.out [(3, (.slot 3)), (4, (.slot 4)), (5, (.slot 5)), (6, (.slot 6)), (7, (.slot 7)), (8, (.slot 8)), (9, (.slot 9)), (10, (.const (.int .i64 0)))])
    [3, 4, 5, 6, 7, 8, 9]
abbrev ref19_Parts_r11 : NC := .reg
    (.q 2 (.icm .lss) [(.slot 10), (.slot 4)] none
    (.out [(3, (.slot 3)), (4, (.slot 4)), (5, (.slot 5)), (6, (.slot 6)), (7, (.slot 7)), (8, (.slot 8)), (9, (.slot 9)), (10, (.slot 10)), (34, (.res 2))]))
    [3, 4, 5, 6, 7, 8, 9, 10]
abbrev ref19_Parts_r12 : NC := .reg
    (.q 2 .mv [(.slot 3)] (some ((.slot 9), true))
    (.q 3 .mv [(.slot 8)] (some ((.slot 9), true))
    (.q 4 (.ixs 1) [(.res 2), (.res 3)] (some ((.slot 9), true))
    (.q 5 .ld [(.res 4)] (some ((.slot 9), true))
    (.q 6 .mv [(.slot 10)] (some ((.slot 9), true))
    (.q 7 (.ixs 1) [(.res 5), (.res 6)] (some ((.slot 9), true))
    (.q 8 .ld [(.res 7)] (some ((.slot 9), true))
    (.q 9 .not [(.res 8)] (some ((.slot 9), true))
    (.q 10 .mv [(.res 9)] (some ((.slot 9), true))
    (.q 11 .mv [(.slot 3)] (some ((.res 10), false))
    (.q 12 .mv [(.slot 10)] (some ((.res 10), false))
    (.q 13 (.ixs 1) [(.res 11), (.res 12)] (some ((.res 10), false))
    (.q 14 .ld [(.res 13)] (some ((.res 10), false))
    (.q 15 .mv [(.slot 8)] (some ((.res 10), false))
    (.q 16 (.ixs 1) [(.res 14), (.res 15)] (some ((.res 10), false))
    (.q 17 .ld [(.res 16)] (some ((.res 10), false))
    (.q 18 .pick [(.res 10), (.const (.bool true)), (.res 17)] (some ((.slot 9), true))
    (.q 19 .mv [(.res 18)] (some ((.slot 9), true))
    (.q 20 .mv [(.slot 5)] (some ((.res 19), false))
    (.q 21 .mv [(.slot 10)] (some ((.res 19), false))
    (.q 22 (.ixs 1) [(.res 20), (.res 21)] (some ((.res 19), false))
    (.q 23 .ld [(.res 22)] (some ((.res 19), false))
    (.q 24 .pick [(.res 19), (.const (.bool true)), (.res 23)] (some ((.slot 9), true))
    (.q 25 .pick [(.slot 9), (.res 24), (.const (.bool false))] none
    (.out [(3, (.slot 3)), (4, (.slot 4)), (5, (.slot 5)), (6, (.slot 6)), (7, (.slot 7)), (8, (.slot 8)), (9, (.res 25)), (10, (.slot 10))])))))))))))))))))))))))))
    [3, 4, 5, 6, 7, 8, 9, 10]
abbrev ref19_Parts_r13 : NC := .reg
    (.q 1 (.iar .add) [(.slot 10), (.const (.int .i64 1))] none
    (.out [(3, (.slot 3)), (4, (.slot 4)), (5, (.slot 5)), (6, (.slot 6)), (7, (.slot 7)), (8, (.slot 8)), (9, (.slot 9)), (10, (.res 1))]))
    [3, 4, 5, 6, 7, 8, 9, 10]
abbrev ref19_Parts_l0 : NC :=
  (.seq (.seq ref19_Parts_r11
  (.cond (.slot 34)
    .skip
    (.exit 4)))
  (.seq (.block 5 ref19_Parts_r12)
  ref19_Parts_r13))
abbrev ref19_Parts_r14 : NC := .reg
    (.out [(3, (.slot 3)), (4, (.slot 4)), (5, (.slot 5)), (6, (.slot 6)), (7, (.slot 7)), (8, (.slot 8)), (63, (.slot 9))])
    [3, 4, 5, 6, 7, 8, 9]
abbrev ref19_Parts_r15 : NC := .reg
    (.out [(3, (.slot 3)), (4, (.slot 4)), (5, (.slot 5)), (6, (.slot 6)), (7, (.slot 8)), (8, (.slot 8))])
    [3, 4, 5, 6, 8]
abbrev ref19_Parts_r16 : NC := .reg
    (.q 1 (.iar .add) [(.slot 8), (.const (.int .i64 1))] none
    (.out [(3, (.slot 3)), (4, (.slot 4)), (5, (.slot 5)), (6, (.slot 6)), (7, (.slot 7)), (8, (.res 1))]))
    [3, 4, 5, 6, 7, 8]
abbrev ref19_Parts_l1 : NC :=
  (.seq (.seq ref19_Parts_r7
  (.cond (.slot 25)
    .skip
    (.exit 2)))
  (.seq (.block 3 (.seq (.seq ref19_Parts_r8
  (.cond (.slot 31)
    (.exit 3)
    .skip))
  (.seq ref19_Parts_r9
  (.seq (.seq ref19_Parts_r10
  (.block 4 (.loop [3, 4, 5, 6, 7, 8, 9, 10] ref19_Parts_l0)))
  (.seq ref19_Parts_r14
  (.cond (.slot 63)
    ref19_Parts_r15
    .skip))))))
  ref19_Parts_r16))
abbrev ref19_Parts_r17 : NC := .reg
    (.q 1 (.icm .lss) [(.slot 7), (.const (.int .i64 0))] none
    (.out [(3, (.slot 3)), (4, (.slot 4)), (5, (.slot 5)), (6, (.slot 6)), (7, (.slot 7)), (66, (.res 1))]))
    [3, 4, 5, 6, 7]
abbrev ref19_Parts_r18 : NC := .reg
    (.out [(2, (.slot 6))])
    [6]
abbrev ref19_Parts_r19 : NC := .reg
    (.out [(3, (.slot 3)), (4, (.slot 4)), (5, (.slot 5)), (6, (.slot 6)), (7, (.slot 7)), (11, (.const (.slice none 0 0)))])
    [3, 4, 5, 6, 7]
abbrev ref19_Parts_r20 : NC := .reg
    (.out [(3, (.slot 3)), (4, (.slot 4)), (5, (.slot 5)), (6, (.slot 6)), (7, (.slot 7)), (11, (.slot 11)), (12, (.const (.int .i64 0)))])
    [3, 4, 5, 6, 7, 11]
abbrev ref19_Parts_r21 : NC := .reg
    (.q 2 (.icm .lss) [(.slot 12), (.slot 4)] none
    (.out [(3, (.slot 3)), (4, (.slot 4)), (5, (.slot 5)), (6, (.slot 6)), (7, (.slot 7)), (11, (.slot 11)), (12, (.slot 12)), (70, (.res 2))]))
    [3, 4, 5, 6, 7, 11, 12]
abbrev ref19_Parts_r22 : NC := .reg
    (.q 2 (.ixs 1) [(.slot 3), (.slot 7)] none
    (.q 3 .ld [(.res 2)] none
    (.q 5 (.ixs 1) [(.res 3), (.slot 12)] none
    (.q 6 .ld [(.res 5)] none
    (.q 8 .mv [(.slot 3)] (some ((.res 6), true))
    (.q 9 .mv [(.slot 12)] (some ((.res 6), true))
    (.q 10 (.ixs 1) [(.res 8), (.res 9)] (some ((.res 6), true))
    (.q 11 .ld [(.res 10)] (some ((.res 6), true))
    (.q 12 .mv [(.slot 7)] (some ((.res 6), true))
    (.q 13 (.ixs 1) [(.res 11), (.res 12)] (some ((.res 6), true))
    (.q 14 .ld [(.res 13)] (some ((.res 6), true))
    (.q 15 .pick [(.res 6), (.res 14), (.const (.bool false))] none
    (.out [(3, (.slot 3)), (4, (.slot 4)), (5, (.slot 5)), (6, (.slot 6)), (7, (.slot 7)), (11, (.slot 11)), (12, (.slot 12)), (88, (.res 15))])))))))))))))
    [3, 4, 5, 6, 7, 11, 12]
abbrev ref19_Parts_r23 : NC := .reg
    (.x 2 (.bsl 3 1 [(.int .i64 0)] [(0, 1)]) [(.slot 12)] none []
    (.x 3 (.app 3 1 8 [(.int .i64 0)]) [(.slot 11), (.res 2)] none []
    (.out [(3, (.slot 3)), (4, (.slot 4)), (5, (.slot 5)), (6, (.slot 6)), (7, (.slot 7)), (11, (.res 3)), (12, (.slot 12))])))
    [3, 4, 5, 6, 7, 11, 12]
abbrev ref19_Parts_r24 : NC := .reg
    (.q 2 (.ixs 1) [(.slot 5), (.slot 12)] none
    (.x 3 (.st 1) [(.res 2), (.const (.bool true))] none []
    (.out [(3, (.slot 3)), (4, (.slot 4)), (5, (.slot 5)), (6, (.slot 6)), (7, (.slot 7)), (11, (.slot 11)), (12, (.slot 12))])))
    [3, 4, 5, 6, 7, 11, 12]
abbrev ref19_Parts_r25 : NC := .reg
    (.q 1 (.iar .add) [(.slot 12), (.const (.int .i64 1))] none
    (.out [(3, (.slot 3)), (4, (.slot 4)), (5, (.slot 5)), (6, (.slot 6)), (7, (.slot 7)), (11, (.slot 11)), (12, (.res 1))]))
    [3, 4, 5, 6, 7, 11, 12]
abbrev ref19_Parts_l2 : NC :=
  (.seq (.seq ref19_Parts_r21
  (.cond (.slot 70)
    .skip
    (.exit 6)))
  (.seq (.block 7 (.seq ref19_Parts_r22
  (.cond (.slot 88)
    (.seq ref19_Parts_r23
    ref19_Parts_r24)
    .skip)))
  ref19_Parts_r25))
abbrev ref19_Parts_r26 : NC := .reg
    (.x 2 (.bsl 55 1 [(.slice none 0 0)] [(0, 1)]) [(.slot 11)] none []
    (.x 3 (.app 55 1 24 [(.slice none 0 0)]) [(.slot 6), (.res 2)] none []
    (.out [(3, (.slot 3)), (4, (.slot 4)), (5, (.slot 5)), (6, (.res 3))])))
    [3, 4, 5, 6, 11]
abbrev ref19_Parts_l3 : NC :=
  (.block 1 (.seq ref19_Parts_r5
  (.seq (.seq ref19_Parts_r6
  (.block 2 (.loop [3, 4, 5, 6, 7, 8] ref19_Parts_l1)))
  (.seq (.seq ref19_Parts_r17
  (.cond (.slot 66)
    (.seq ref19_Parts_r18
    .ret)
    .skip))
  (.seq ref19_Parts_r19
  (.seq (.seq ref19_Parts_r20
  (.block 6 (.loop [3, 4, 5, 6, 7, 11, 12] ref19_Parts_l2)))
  ref19_Parts_r26))))))
abbrev ref19_Parts_c : NC :=
  (.seq ref19_Parts_r0
  (.seq ref19_Parts_r1
  (.seq ref19_Parts_r2
  (.seq ref19_Parts_r3
  (.seq ref19_Parts_r4
  (.block 0 (.loop [3, 4, 5, 6] ref19_Parts_l3)))))))
abbrev ref19_Parts_F : FN := ⟨ref19_Parts_c, [.slot 2]⟩
theorem ref19_Parts_ok : compF Try.prog Try.f41 = some ref19_Parts_F := by kernel_rfl
theorem ref19_Parts_go {args : List Value} {m : Mem} {R : Value → Mem → Prop} (hn : args.length ≤ Try.f41.ntmps) (h : wpN Try.prog ref19_Parts_c (retP ref19_Parts_F.rvs R) (zipP 0 args) m) : MC Try.prog 41 args m R := MC_start Try.func41 ref19_Parts_ok mixed_ok hn h
/-! concord/concordref19.below -/
abbrev ref19_below_r0 : NC := .reg
    (.x 0 (.box 52) [(.slot 0)] none []
    (.x 1 (.box 52) [(.slot 1)] none []
    (.out [(2, (.res 0)), (3, (.res 1))])))
    [0, 1]
abbrev ref19_below_r1 : NC := .reg
    (.q 0 (.fld 2) [(.slot 2)] none
    (.q 1 (.fld 12) [(.res 0)] none
    (.q 2 (.fld 0) [(.res 1)] none
    (.q 3 .ld [(.res 2)] none
    (.q 4 (.fld 2) [(.slot 3)] none
    (.q 5 (.fld 12) [(.res 4)] none
    (.q 6 (.fld 0) [(.res 5)] none
    (.q 7 .ld [(.res 6)] none
    (.q 8 (.icm .neq) [(.res 3), (.res 7)] none
    (.out [(2, (.slot 2)), (3, (.slot 3)), (13, (.res 8))]))))))))))
    [2, 3]
abbrev ref19_below_r2 : NC := .reg
    (.q 0 (.fld 2) [(.slot 2)] none
    (.q 1 (.fld 12) [(.res 0)] none
    (.q 2 (.fld 0) [(.res 1)] none
    (.q 3 .ld [(.res 2)] none
    (.q 4 (.fld 2) [(.slot 3)] none
    (.q 5 (.fld 12) [(.res 4)] none
    (.q 6 (.fld 0) [(.res 5)] none
    (.q 7 .ld [(.res 6)] none
    (.q 8 (.icm .lss) [(.res 3), (.res 7)] none
    (.out [(4, (.res 8))]))))))))))
    [2, 3]
abbrev ref19_below_r3 : NC := .reg
    (.q 0 (.fld 0) [(.slot 2)] none
    (.q 1 (.lda 2) [(.res 0)] none
    (.q 2 (.fld 0) [(.slot 3)] none
    (.q 3 (.lda 2) [(.res 2)] none
    (.x 4 (.call 40) [(.res 1), (.res 3)] none []
    (.out [(4, (.res 4))]))))))
    [2, 3]
abbrev ref19_below_c : NC :=
  (.seq ref19_below_r0
  (.seq (.seq ref19_below_r1
  (.cond (.slot 13)
    (.seq ref19_below_r2
    .ret)
    .skip))
  (.seq ref19_below_r3
  .ret)))
abbrev ref19_below_F : FN := ⟨ref19_below_c, [.slot 4]⟩
theorem ref19_below_ok : compF Try.prog Try.f42 = some ref19_below_F := by kernel_rfl
theorem ref19_below_go {args : List Value} {m : Mem} {R : Value → Mem → Prop} (hn : args.length ≤ Try.f42.ntmps) (h : wpN Try.prog ref19_below_c (retP ref19_below_F.rvs R) (zipP 0 args) m) : MC Try.prog 42 args m R := MC_start Try.func42 ref19_below_ok mixed_ok hn h
/-! concord/concordref19.reach -/
abbrev ref19_reach_r0 : NC := .reg
    (.out [(0, (.slot 0))])
    [0]
abbrev ref19_reach_r1 : NC := .reg
    (.q 1 .len [(.slot 0)] none
    (.out [(0, (.slot 0)), (3, (.res 1))]))
    [0]
abbrev ref19_reach_r2 : NC := .reg
    (.x 1 (.mks 104 24 [(.slice none 0 0)]) [(.slot 3), (.slot 3)] none []
    (.out [(0, (.slot 0)), (3, (.slot 3)), (4, (.res 1))]))
    [0, 3]
abbrev ref19_reach_r3 : NC := .reg
    (.out [(0, (.slot 0)), (3, (.slot 3)), (4, (.slot 4)), (5, (.const (.int .i64 0)))])
    [0, 3, 4]
abbrev ref19_reach_r4 : NC := .reg
    (.q 2 (.icm .lss) [(.slot 5), (.slot 3)] none
    (.out [(0, (.slot 0)), (3, (.slot 3)), (4, (.slot 4)), (5, (.slot 5)), (16, (.res 2))]))
    [0, 3, 4, 5]
abbrev ref19_reach_r5 : NC := .reg
    (.x 3 (.mks 4 1 [(.bool false)]) [(.slot 3), (.slot 3)] none []
    (.q 4 (.ixs 1) [(.slot 4), (.slot 5)] none
    (.x 5 (.st 1) [(.res 4), (.res 3)] none []
    (.out [(0, (.slot 0)), (3, (.slot 3)), (4, (.slot 4)), (5, (.slot 5))]))))
    [0, 3, 4, 5]
abbrev ref19_reach_r6 : NC := .reg
    (.x 1 (.bsl 3 1 [(.int .i64 0)] [(0, 1)]) [(.slot 5)] none []
    (.out [(0, (.slot 0)), (3, (.slot 3)), (4, (.slot 4)), (5, (.slot 5)), (6, (.res 1))]))
    [0, 3, 4, 5]
abbrev ref19_reach_r7 : NC := .reg
    (.q 2 (.ixs 1) [(.slot 4), (.slot 5)] none
    (.q 3 .ld [(.res 2)] none
    (.q 5 (.ixs 1) [(.res 3), (.slot 5)] none
    (.x 6 (.st 1) [(.res 5), (.const (.bool true))] none []
    (.out [(0, (.slot 0)), (3, (.slot 3)), (4, (.slot 4)), (5, (.slot 5)), (6, (.slot 6))])))))
    [0, 3, 4, 5, 6]
abbrev ref19_reach_r8 : NC := .reg
    (.q 1 .len [(.slot 6)] none
    (.q 2 (.icm .gtr) [(.res 1), (.const (.int .i64 0))] none
    (.out [(0, (.slot 0)), (3, (.slot 3)), (4, (.slot 4)), (5, (.slot 5)), (6, (.slot 6)), (34, (.res 2))])))
    [0, 3, 4, 5, 6]
abbrev ref19_reach_r9 : NC := .reg
    (.q 2 .len [(.slot 6)] none
    (.q 3 (.iar .sub) [(.res 2), (.const (.int .i64 1))] none
    (.q 4 (.ixs 1) [(.slot 6), (.res 3)] none
    (.q 5 .ld [(.res 4)] none
    (.out [(0, (.slot 0)), (3, (.slot 3)), (4, (.slot 4)), (5, (.slot 5)), (6, (.slot 6)), (7, (.res 5))])))))
    [0, 3, 4, 5, 6]
abbrev ref19_reach_r10 : NC := .reg
    (.q 2 .len [(.slot 6)] none
    (.q 3 (.iar .sub) [(.res 2), (.const (.int .i64 1))] none
    (.q 4 (.slc 1 false true) [(.slot 6), (.res 3)] none
    (.out [(0, (.slot 0)), (3, (.slot 3)), (4, (.slot 4)), (5, (.slot 5)), (6, (.res 4)), (7, (.slot 7))]))))
    [0, 3, 4, 5, 6, 7]
abbrev ref19_reach_r11 : NC := .reg
    (.out [(0, (.slot 0)), (3, (.slot 3)), (4, (.slot 4)), (5, (.slot 5)), (6, (.slot 6)), (7, (.slot 7)), (8, (.const (.int .i64 0)))])
    [0, 3, 4, 5, 6, 7]
abbrev ref19_reach_r12 : NC := .reg
    (.q 3 (.ixs 1) [(.slot 0), (.slot 7)] none
    (.q 4 .ld [(.res 3)] none
    (.q 5 .len [(.res 4)] none
    (.q 6 (.icm .lss) [(.slot 8), (.res 5)] none
    (.out [(0, (.slot 0)), (3, (.slot 3)), (4, (.slot 4)), (5, (.slot 5)), (6, (.slot 6)), (7, (.slot 7)), (8, (.slot 8)), (52, (.res 6))])))))
    [0, 3, 4, 5, 6, 7, 8]
abbrev ref19_reach_r13 : NC := .reg
    (.q 2 (.ixs 1) [(.slot 0), (.slot 7)] none
    (.q 3 .ld [(.res 2)] none
    (.q 5 (.ixs 1) [(.res 3), (.slot 8)] none
    (.q 6 .ld [(.res 5)] none
    (.out [(0, (.slot 0)), (3, (.slot 3)), (4, (.slot 4)), (5, (.slot 5)), (6, (.slot 6)), (7, (.slot 7)), (8, (.slot 8)), (9, (.res 6))])))))
    [0, 3, 4, 5, 6, 7, 8]
abbrev ref19_reach_r14 : NC := .reg
    (.q 1 (.icm .geq) [(.slot 9), (.const (.int .i64 0))] none
    (.q 3 .mv [(.slot 9)] (some ((.res 1), true))
    (.q 4 .mv [(.slot 3)] (some ((.res 1), true))
    (.q 5 (.icm .lss) [(.res 3), (.res 4)] (some ((.res 1), true))
    (.q 6 .pick [(.res 1), (.res 5), (.const (.bool false))] none
    (.q 8 .mv [(.slot 4)] (some ((.res 6), true))
    (.q 9 .mv [(.slot 5)] (some ((.res 6), true))
    (.q 10 (.ixs 1) [(.res 8), (.res 9)] (some ((.res 6), true))
    (.q 11 .ld [(.res 10)] (some ((.res 6), true))
    (.q 12 .mv [(.slot 9)] (some ((.res 6), true))
    (.q 13 (.ixs 1) [(.res 11), (.res 12)] (some ((.res 6), true))
    (.q 14 .ld [(.res 13)] (some ((.res 6), true))
    (.q 15 .not [(.res 14)] (some ((.res 6), true))
    (.q 16 .pick [(.res 6), (.res 15), (.const (.bool false))] none
    (.out [(0, (.slot 0)), (3, (.slot 3)), (4, (.slot 4)), (5, (.slot 5)), (6, (.slot 6)), (7, (.slot 7)), (8, (.slot 8)), (9, (.slot 9)), (78, (.res 16))])))))))))))))))
    [0, 3, 4, 5, 6, 7, 8, 9]
abbrev ref19_reach_r15 : NC := .reg
    (.q 2 (.ixs 1) [(.slot 4), (.slot 5)] none
    (.q 3 .ld [(.res 2)] none
    (.q 5 (.ixs 1) [(.res 3), (.slot 9)] none
    (.x 6 (.st 1) [(.res 5), (.const (.bool true))] none []
    (.out [(0, (.slot 0)), (3, (.slot 3)), (4, (.slot 4)), (5, (.slot 5)), (6, (.slot 6)), (7, (.slot 7)), (8, (.slot 8)), (9, (.slot 9))])))))
    [0, 3, 4, 5, 6, 7, 8, 9]
abbrev ref19_reach_r16 : NC := .reg
    (.x 2 (.bsl 3 1 [(.int .i64 0)] [(0, 1)]) [(.slot 9)] none []
    (.x 3 (.app 3 1 8 [(.int .i64 0)]) [(.slot 6), (.res 2)] none []
    (.out [(0, (.slot 0)), (3, (.slot 3)), (4, (.slot 4)), (5, (.slot 5)), (6, (.res 3)), (7, (.slot 7)), (8, (.slot 8))])))
    [0, 3, 4, 5, 6, 7, 8, 9]
abbrev ref19_reach_r17 : NC := .reg
    (.q 1 (.iar .add) [(.slot 8), (.const (.int .i64 1))] none
    (.out [(0, (.slot 0)), (3, (.slot 3)), (4, (.slot 4)), (5, (.slot 5)), (6, (.slot 6)), (7, (.slot 7)), (8, (.res 1))]))
    [0, 3, 4, 5, 6, 7, 8]
abbrev ref19_reach_l0 : NC :=
  (.seq (.seq ref19_reach_r12
  (.cond (.slot 52)
    .skip
    (.exit 4)))
  (.seq (.block 5 (.seq ref19_reach_r13
  (.seq ref19_reach_r14
  (.cond (.slot 78)
    (.seq ref19_reach_r15
    ref19_reach_r16)
    .skip))))
  ref19_reach_r17))
abbrev ref19_reach_l1 : NC :=
  (.seq (.seq ref19_reach_r8
  (.cond (.slot 34)
    .skip
    (.exit 2)))
  (.block 3 (.seq ref19_reach_r9
  (.seq ref19_reach_r10
  (.seq ref19_reach_r11
  (.block 4 (.loop [0, 3, 4, 5, 6, 7, 8] ref19_reach_l0)))))))
abbrev ref19_reach_r18 : NC := .reg
    (.q 1 (.iar .add) [(.slot 5), (.const (.int .i64 1))] none
    (.out [(0, (.slot 0)), (3, (.slot 3)), (4, (.slot 4)), (5, (.res 1))]))
    [0, 3, 4, 5]
abbrev ref19_reach_l2 : NC :=
  (.seq (.seq ref19_reach_r4
  (.cond (.slot 16)
    .skip
    (.exit 0)))
  (.seq (.block 1 (.seq ref19_reach_r5
  (.seq ref19_reach_r6
  (.seq ref19_reach_r7
  (.block 2 (.loop [0, 3, 4, 5, 6] ref19_reach_l1))))))
  ref19_reach_r18))
abbrev ref19_reach_r19 : NC := .reg
    (.out [(2, (.slot 4))])
    [4]
abbrev ref19_reach_c : NC :=
  (.seq ref19_reach_r0
  (.seq ref19_reach_r1
  (.seq ref19_reach_r2
  (.seq (.seq ref19_reach_r3
  (.block 0 (.loop [0, 3, 4, 5] ref19_reach_l2)))
  (.seq ref19_reach_r19
  .ret)))))
abbrev ref19_reach_F : FN := ⟨ref19_reach_c, [.slot 2]⟩
theorem ref19_reach_ok : compF Try.prog Try.f52 = some ref19_reach_F := by kernel_rfl
theorem ref19_reach_go {args : List Value} {m : Mem} {R : Value → Mem → Prop} (hn : args.length ≤ Try.f52.ntmps) (h : wpN Try.prog ref19_reach_c (retP ref19_reach_F.rvs R) (zipP 0 args) m) : MC Try.prog 52 args m R := MC_start Try.func52 ref19_reach_ok mixed_ok hn h
end Go.Fw
