import Derived.Test.YtfihhmbjpmnopaaGreatDoorFxA
import Derived.Test.YtfihhmbjpmnopaaGreatDoorProg
set_option linter.unusedVariables false
set_option linter.unusedSimpArgs false
namespace Go.Fw
open Go.Proofs
abbrev n_law25_ClusterIgnores : Nat := 3
abbrev n_book_Within : Nat := 5
abbrev n_keep_Light : Nat := 6
abbrev n_cluster_Cluster_Nodes : Nat := 7
abbrev n_cluster_Cluster_Do : Nat := 8
abbrev n_cluster_Cluster_Node : Nat := 9
abbrev n_cluster_Cluster_call : Nat := 19
abbrev n_cluster_Cluster_letter : Nat := 20
abbrev n_cluster_Cluster_time : Nat := 21
abbrev n_cluster_Cluster_start : Nat := 22
abbrev n_cluster_known : Nat := 43
theorem mixed_ok : Tryz.prog.follows .mixedOrders = true := by kernel_rfl
end Go.Fw
namespace Go.Fw
open Go.Proofs
/-! concord/concordlaw25.ClusterIgnores -/
abbrev law25_ClusterIgnores_r0 : NC := .reg
    (.out [(0, (.slot 0)), (1, (.slot 1))])
    [0, 1]
abbrev law25_ClusterIgnores_r1 : NC := .reg
    (.x 0 (.bsl 3 3 [(.int .i64 0), (.int .i64 0), (.int .i64 0)] [(0, 1), (1, 1), (2, 1)]) [(.const (.int .i64 3)), (.const (.int .i64 5)), (.const (.int .i64 7))] none []
    (.x 2 (.call 5) [(.slot 0), (.const (.int .i64 0)), (.const (.int .i64 2))] none []
    (.q 3 (.ixs 1) [(.res 0), (.res 2)] none
    (.q 4 .ld [(.res 3)] none
    (.x 5 (.call 4) [(.res 4)] none []
    (.q 7 (.ext 0) [(.res 5)] none
    (.q 8 (.ext 1) [(.res 5)] none
    (.out [(1, (.slot 1)), (5, (.res 7)), (6, (.res 8))]))))))))
    [0, 1]
abbrev law25_ClusterIgnores_r2 : NC := .reg
    (.q 1 (.eqp false) [(.slot 5), (.const (.pointer none))] none
    (.q 3 .mv [(.slot 6)] (some ((.res 1), false))
    (.q 4 (.icm .neq) [(.res 3), (.const (.int .i64 0))] (some ((.res 1), false))
    (.q 5 .pick [(.res 1), (.const (.bool true)), (.res 4)] none
    (.out [(1, (.slot 1)), (5, (.slot 5)), (25, (.res 5))])))))
    [1, 5, 6]
abbrev law25_ClusterIgnores_r3 : NC := .reg
    (.out [(4, (.const (.bool false)))])
    []
abbrev law25_ClusterIgnores_r4 : NC := .reg
    (.out [(1, (.slot 1)), (5, (.slot 5)), (7, (.const (.int .i64 0)))])
    [1, 5]
abbrev law25_ClusterIgnores_r5 : NC := .reg
    (.q 2 .len [(.slot 1)] none
    (.q 3 (.icm .lss) [(.slot 7), (.res 2)] none
    (.q 5 .mv [(.slot 7)] (some ((.res 3), true))
    (.q 6 (.icm .lss) [(.res 5), (.const (.int .i64 40))] (some ((.res 3), true))
    (.q 7 .pick [(.res 3), (.res 6), (.const (.bool false))] none
    (.out [(1, (.slot 1)), (5, (.slot 5)), (7, (.slot 7)), (33, (.res 7))]))))))
    [1, 5, 7]
abbrev law25_ClusterIgnores_r6 : NC := .reg
    (.q 2 (.ixs 12) [(.slot 1), (.slot 7)] none
    (.q 3 (.lda 12) [(.res 2)] none
    (.x 4 (.alc [(.int .i64 0), (.int .i64 0), (.int .i64 0), (.int .i64 0), (.int .i64 0), (.int .i64 0), (.int .i64 0), (.string ⟨#[]⟩), (.string ⟨#[]⟩), (.string ⟨#[]⟩), (.string ⟨#[]⟩), (.slice none 0 0)] 32) [] none []
    (.x 5 (.st 12) [(.res 4), (.res 3)] none []
    (.out [(1, (.slot 1)), (5, (.slot 5)), (7, (.slot 7)), (8, (.res 4))])))))
    [1, 5, 7]
abbrev law25_ClusterIgnores_r7 : NC := .reg
    (.q 0 (.lda 12) [(.slot 8)] none
    (.x 1 (.call 6) [(.res 0)] none []
    (.q 2 .not [(.res 1)] none
    (.out [(1, (.slot 1)), (5, (.slot 5)), (7, (.slot 7)), (8, (.slot 8)), (42, (.res 2))]))))
    [1, 5, 7, 8]
abbrev law25_ClusterIgnores_r8 : NC := .reg
    (.q 0 (.fld 0) [(.slot 8)] none
    (.q 1 .ld [(.res 0)] none
    (.out [(1, (.slot 1)), (5, (.slot 5)), (7, (.slot 7)), (8, (.slot 8)), (44, (.res 1))])))
    [1, 5, 7, 8]
abbrev law25_ClusterIgnores_r9 : NC := .reg
    (.q 0 (.icm .eql) [(.slot 44), (.const (.int .i64 1))] none
    (.out [(1, (.slot 1)), (5, (.slot 5)), (7, (.slot 7)), (8, (.slot 8)), (44, (.slot 44)), (45, (.res 0))]))
    [1, 5, 7, 8, 44]
abbrev law25_ClusterIgnores_r10 : NC := .reg
    (.q 0 (.fld 3) [(.slot 8)] none
    (.q 1 .ld [(.res 0)] none
    (.x 2 (.call 5) [(.res 1), (.const (.int .i64 0)), (.const (.int .i64 9))] none []
    (.q 3 .neg [(.res 2)] none
    (.q 4 (.fld 3) [(.slot 8)] none
    (.x 5 (.st 1) [(.res 4), (.res 3)] none []
    (.out [(1, (.slot 1)), (5, (.slot 5)), (7, (.slot 7)), (8, (.slot 8))])))))))
    [1, 5, 7, 8]
abbrev law25_ClusterIgnores_r11 : NC := .reg
    (.q 0 (.icm .eql) [(.slot 44), (.const (.int .i64 5))] none
    (.out [(1, (.slot 1)), (5, (.slot 5)), (7, (.slot 7)), (8, (.slot 8)), (44, (.slot 44)), (52, (.res 0))]))
    [1, 5, 7, 8, 44]
abbrev law25_ClusterIgnores_r12 : NC := .reg
    (.q 0 (.icm .eql) [(.slot 44), (.const (.int .i64 7))] none
    (.out [(1, (.slot 1)), (5, (.slot 5)), (7, (.slot 7)), (8, (.slot 8)), (44, (.slot 44)), (52, (.res 0))]))
    [1, 5, 7, 8, 44]
abbrev law25_ClusterIgnores_r13 : NC := .reg
    (.q 0 (.icm .eql) [(.slot 44), (.const (.int .i64 8))] none
    (.out [(1, (.slot 1)), (5, (.slot 5)), (7, (.slot 7)), (8, (.slot 8)), (44, (.slot 44)), (52, (.res 0))]))
    [1, 5, 7, 8, 44]
abbrev law25_ClusterIgnores_r14 : NC := .reg
    (.q 2 (.fld 1) [(.slot 8)] none
    (.q 3 .ld [(.res 2)] none
    (.x 1 (.call 7) [(.slot 5)] none [(3, .ld, [(.res 2)], none)]
    (.x 4 (.call 5) [(.res 3), (.const (.int .i64 0)), (.const (.int .i64 9))] none []
    (.q 5 (.iar .add) [(.res 1), (.res 4)] none
    (.q 6 (.fld 1) [(.slot 8)] none
    (.x 7 (.st 1) [(.res 6), (.res 5)] none []
    (.out [(1, (.slot 1)), (5, (.slot 5)), (7, (.slot 7)), (8, (.slot 8))]))))))))
    [1, 5, 7, 8]
abbrev law25_ClusterIgnores_r15 : NC := .reg
    (.q 0 (.icm .eql) [(.slot 44), (.const (.int .i64 9))] none
    (.out [(1, (.slot 1)), (5, (.slot 5)), (7, (.slot 7)), (8, (.slot 8)), (44, (.slot 44)), (63, (.res 0))]))
    [1, 5, 7, 8, 44]
abbrev law25_ClusterIgnores_r16 : NC := .reg
    (.q 0 (.fld 1) [(.slot 8)] none
    (.q 1 .ld [(.res 0)] none
    (.x 3 (.call 7) [(.slot 5)] none [(1, .ld, [(.res 0)], none)]
    (.q 4 (.iar .sub) [(.res 3), (.const (.int .i64 1))] none
    (.x 5 (.call 5) [(.res 1), (.const (.int .i64 0)), (.res 4)] none []
    (.q 6 (.fld 1) [(.slot 8)] none
    (.x 7 (.st 1) [(.res 6), (.res 5)] none []
    (.out [(1, (.slot 1)), (5, (.slot 5)), (7, (.slot 7)), (8, (.slot 8))]))))))))
    [1, 5, 7, 8]
abbrev law25_ClusterIgnores_r17 : NC := .reg
    (.q 0 (.icm .eql) [(.slot 44), (.const (.int .i64 6))] none
    (.out [(1, (.slot 1)), (5, (.slot 5)), (7, (.slot 7)), (8, (.slot 8)), (44, (.slot 44)), (72, (.res 0))]))
    [1, 5, 7, 8, 44]
abbrev law25_ClusterIgnores_r18 : NC := .reg
    (.q 0 (.fld 1) [(.slot 8)] none
    (.q 1 .ld [(.res 0)] none
    (.x 2 (.call 5) [(.res 1), (.const (.int .i64 0)), (.const (.int .i64 9))] none []
    (.q 3 .neg [(.res 2)] none
    (.q 4 (.fld 1) [(.slot 8)] none
    (.x 5 (.st 1) [(.res 4), (.res 3)] none []
    (.out [(1, (.slot 1)), (5, (.slot 5)), (7, (.slot 7)), (8, (.slot 8))])))))))
    [1, 5, 7, 8]
abbrev law25_ClusterIgnores_r19 : NC := .reg
    (.q 0 (.icm .eql) [(.slot 44), (.const (.int .i64 2))] none
    (.out [(1, (.slot 1)), (5, (.slot 5)), (7, (.slot 7)), (8, (.slot 8)), (44, (.slot 44)), (79, (.res 0))]))
    [1, 5, 7, 8, 44]
abbrev law25_ClusterIgnores_r20 : NC := .reg
    (.q 0 (.icm .eql) [(.slot 44), (.const (.int .i64 3))] none
    (.out [(1, (.slot 1)), (5, (.slot 5)), (7, (.slot 7)), (8, (.slot 8)), (44, (.slot 44)), (79, (.res 0))]))
    [1, 5, 7, 8, 44]
abbrev law25_ClusterIgnores_r21 : NC := .reg
    (.q 0 (.icm .eql) [(.slot 44), (.const (.int .i64 4))] none
    (.out [(1, (.slot 1)), (5, (.slot 5)), (7, (.slot 7)), (8, (.slot 8)), (79, (.res 0))]))
    [1, 5, 7, 8, 44]
abbrev law25_ClusterIgnores_r22 : NC := .reg
    (.q 0 (.fld 1) [(.slot 8)] none
    (.q 1 .ld [(.res 0)] none
    (.x 2 (.call 5) [(.res 1), (.const (.int .i64 0)), (.const (.int .i64 9))] none []
    (.q 3 (.fld 1) [(.slot 8)] none
    (.x 4 (.st 1) [(.res 3), (.res 2)] none []
    (.out [(1, (.slot 1)), (5, (.slot 5)), (7, (.slot 7)), (8, (.slot 8))]))))))
    [1, 5, 7, 8]
abbrev law25_ClusterIgnores_r23 : NC := .reg
    (.q 1 (.lda 12) [(.slot 8)] none
    (.x 2 (.call 8) [(.slot 5), (.res 1)] none []
    (.out [(1, (.slot 1)), (5, (.slot 5)), (7, (.slot 7)), (89, (.res 2))])))
    [1, 5, 7, 8]
abbrev law25_ClusterIgnores_r24 : NC := .reg
    (.out [(4, (.const (.bool false)))])
    []
abbrev law25_ClusterIgnores_r25 : NC := .reg
    (.q 1 (.iar .add) [(.slot 7), (.const (.int .i64 1))] none
    (.out [(1, (.slot 1)), (5, (.slot 5)), (7, (.res 1))]))
    [1, 5, 7]
abbrev law25_ClusterIgnores_l0 : NC :=
  (.seq (.seq law25_ClusterIgnores_r5
  (.cond (.slot 33)
    .skip
    (.exit 0)))
  (.seq (.block 1 (.seq law25_ClusterIgnores_r6
  (.seq (.seq law25_ClusterIgnores_r7
  (.cond (.slot 42)
    (.exit 1)
    .skip))
  (.seq (.seq law25_ClusterIgnores_r8
  (.block 2 (.seq law25_ClusterIgnores_r9
  (.cond (.slot 45)
    law25_ClusterIgnores_r10
    (.seq (.seq law25_ClusterIgnores_r11
    (.cond (.slot 52)
      .skip
      (.seq law25_ClusterIgnores_r12
      (.cond (.slot 52)
        .skip
        law25_ClusterIgnores_r13))))
    (.cond (.slot 52)
      law25_ClusterIgnores_r14
      (.seq law25_ClusterIgnores_r15
      (.cond (.slot 63)
        law25_ClusterIgnores_r16
        (.seq law25_ClusterIgnores_r17
        (.cond (.slot 72)
          law25_ClusterIgnores_r18
          (.seq (.seq law25_ClusterIgnores_r19
          (.cond (.slot 79)
            .skip
            (.seq law25_ClusterIgnores_r20
            (.cond (.slot 79)
              .skip
              law25_ClusterIgnores_r21))))
          (.cond (.slot 79)
            law25_ClusterIgnores_r22
            .skip))))))))))))
  (.seq law25_ClusterIgnores_r23
  (.cond (.slot 89)
    (.seq law25_ClusterIgnores_r24
    .ret)
    .skip))))))
  law25_ClusterIgnores_r25))
abbrev law25_ClusterIgnores_r26 : NC := .reg
    (.out [(5, (.slot 5)), (9, (.const (.int .i64 0)))])
    [5]
abbrev law25_ClusterIgnores_r27 : NC := .reg
    (.x 2 (.call 7) [(.slot 5)] none []
    (.q 3 (.icm .lss) [(.slot 9), (.res 2)] none
    (.out [(5, (.slot 5)), (9, (.slot 9)), (93, (.res 3))])))
    [5, 9]
abbrev law25_ClusterIgnores_r28 : NC := .reg
    (.x 2 (.call 9) [(.slot 5), (.slot 9)] none []
    (.out [(5, (.slot 5)), (9, (.slot 9)), (10, (.res 2))]))
    [5, 9]
abbrev law25_ClusterIgnores_r29 : NC := .reg
    (.q 1 (.eqp false) [(.slot 10), (.const (.pointer none))] none
    (.q 3 .mv [(.slot 10)] (some ((.res 1), false))
    (.x 4 (.call 10) [(.res 3)] (some ((.res 1), false)) []
    (.q 5 (.bld [(.int .i64 0), (.int .i64 0), (.int .i64 0), (.int .i64 0), (.int .i64 0), (.int .i64 0), (.int .i64 0)] []) [] (some ((.res 1), false))
    (.q 6 (.eqc true [(.i .i64), (.i .i64), (.i .i64), (.i .i64), (.i .i64), (.i .i64), (.i .i64)]) [(.res 4), (.res 5)] (some ((.res 1), false))
    (.q 7 .pick [(.res 1), (.const (.bool true)), (.res 6)] none
    (.q 9 .mv [(.slot 10)] (some ((.res 7), false))
    (.x 10 (.call 11) [(.res 9)] (some ((.res 7), false)) []
    (.q 11 (.bld [(.int .i64 0), (.int .i64 0), (.int .i64 0), (.int .i64 0), (.int .i64 0), (.int .i64 0), (.int .i64 0)] []) [] (some ((.res 7), false))
    (.q 12 (.eqc true [(.i .i64), (.i .i64), (.i .i64), (.i .i64), (.i .i64), (.i .i64), (.i .i64)]) [(.res 10), (.res 11)] (some ((.res 7), false))
    (.q 13 .pick [(.res 7), (.const (.bool true)), (.res 12)] none
    (.out [(5, (.slot 5)), (9, (.slot 9)), (112, (.res 13))]))))))))))))
    [5, 9, 10]
abbrev law25_ClusterIgnores_r30 : NC := .reg
    (.out [(4, (.const (.bool false)))])
    []
abbrev law25_ClusterIgnores_r31 : NC := .reg
    (.q 1 (.iar .add) [(.slot 9), (.const (.int .i64 1))] none
    (.out [(5, (.slot 5)), (9, (.res 1))]))
    [5, 9]
abbrev law25_ClusterIgnores_l1 : NC :=
  (.seq (.seq law25_ClusterIgnores_r27
  (.cond (.slot 93)
    .skip
    (.exit 3)))
  (.seq (.block 4 (.seq law25_ClusterIgnores_r28
  (.seq law25_ClusterIgnores_r29
  (.cond (.slot 112)
    (.seq law25_ClusterIgnores_r30
    .ret)
    .skip))))
  law25_ClusterIgnores_r31))
abbrev law25_ClusterIgnores_r32 : NC := .reg
    (.x 1 (.call 12) [(.slot 5)] none []
    (.q 2 .len [(.res 1)] none
    (.q 3 (.icm .eql) [(.res 2), (.const (.int .i64 0))] none
    (.q 5 .mv [(.slot 5)] (some ((.res 3), true))
    (.x 6 (.call 13) [(.res 5)] (some ((.res 3), true)) []
    (.q 7 .len [(.res 6)] (some ((.res 3), true))
    (.q 8 (.icm .eql) [(.res 7), (.const (.int .i64 0))] (some ((.res 3), true))
    (.q 9 .pick [(.res 3), (.res 8), (.const (.bool false))] none
    (.x 11 (.call 14) [] (some ((.res 9), true)) []
    (.q 12 .pick [(.res 9), (.res 11), (.const (.bool false))] none
    (.out [(4, (.res 12))])))))))))))
    [5]
abbrev law25_ClusterIgnores_c : NC :=
  (.seq law25_ClusterIgnores_r0
  (.seq law25_ClusterIgnores_r1
  (.seq (.seq law25_ClusterIgnores_r2
  (.cond (.slot 25)
    (.seq law25_ClusterIgnores_r3
    .ret)
    .skip))
  (.seq (.seq law25_ClusterIgnores_r4
  (.block 0 (.loop [1, 5, 7] law25_ClusterIgnores_l0)))
  (.seq (.seq law25_ClusterIgnores_r26
  (.block 3 (.loop [5, 9] law25_ClusterIgnores_l1)))
  (.seq law25_ClusterIgnores_r32
  .ret))))))
abbrev law25_ClusterIgnores_F : FN := ⟨law25_ClusterIgnores_c, [.slot 4]⟩
theorem law25_ClusterIgnores_ok : compF Tryz.prog Tryz.f3 = some law25_ClusterIgnores_F := by kernel_rfl
theorem law25_ClusterIgnores_go {args : List Value} {m : Mem} {R : Value → Mem → Prop} (hn : args.length ≤ Tryz.f3.ntmps) (h : wpN Tryz.prog law25_ClusterIgnores_c (retP law25_ClusterIgnores_F.rvs R) (zipP 0 args) m) : MC Tryz.prog 3 args m R := MC_start Tryz.func3 law25_ClusterIgnores_ok mixed_ok hn h
/-! concord/concordbook.Within -/
abbrev book_Within_r0 : NC := .reg
    (.out [(0, (.slot 0)), (1, (.slot 1)), (2, (.slot 2))])
    [0, 1, 2]
abbrev book_Within_r1 : NC := .reg
    (.q 3 (.iar .sub) [(.slot 2), (.slot 1)] none
    (.q 4 (.iar .add) [(.res 3), (.const (.int .i64 1))] none
    (.q 5 (.idv .rem) [(.slot 0), (.res 4)] none
    (.out [(0, (.res 5)), (1, (.slot 1)), (2, (.slot 2))]))))
    [0, 1, 2]
abbrev book_Within_r2 : NC := .reg
    (.q 1 (.icm .lss) [(.slot 0), (.const (.int .i64 0))] none
    (.out [(0, (.slot 0)), (1, (.slot 1)), (2, (.slot 2)), (14, (.res 1))]))
    [0, 1, 2]
abbrev book_Within_r3 : NC := .reg
    (.q 2 (.iar .add) [(.slot 0), (.slot 2)] none
    (.q 4 (.iar .sub) [(.res 2), (.slot 1)] none
    (.q 5 (.iar .add) [(.res 4), (.const (.int .i64 1))] none
    (.out [(0, (.res 5)), (1, (.slot 1))]))))
    [0, 1, 2]
abbrev book_Within_r4 : NC := .reg
    (.q 2 (.iar .add) [(.slot 1), (.slot 0)] none
    (.out [(6, (.res 2))]))
    [0, 1]
abbrev book_Within_c : NC :=
  (.seq book_Within_r0
  (.seq book_Within_r1
  (.seq (.seq book_Within_r2
  (.cond (.slot 14)
    book_Within_r3
    .skip))
  (.seq book_Within_r4
  .ret))))
abbrev book_Within_F : FN := ⟨book_Within_c, [.slot 6]⟩
theorem book_Within_ok : compF Tryz.prog Tryz.f5 = some book_Within_F := by kernel_rfl
theorem book_Within_go {args : List Value} {m : Mem} {R : Value → Mem → Prop} (hn : args.length ≤ Tryz.f5.ntmps) (h : wpN Tryz.prog book_Within_c (retP book_Within_F.rvs R) (zipP 0 args) m) : MC Tryz.prog 5 args m R := MC_start Tryz.func5 book_Within_ok mixed_ok hn h
/-! concord/concordkeep.Light -/
abbrev keep_Light_r0 : NC := .reg
    (.x 0 (.box 32) [(.slot 0)] none []
    (.out [(1, (.res 0))]))
    [0]
abbrev keep_Light_r1 : NC := .reg
    (.q 0 (.fld 4) [(.slot 1)] none
    (.q 1 (.fld 3) [(.res 0)] none
    (.q 2 .ld [(.res 1)] none
    (.q 3 .lenz [(.res 2)] none
    (.q 4 (.fld 4) [(.slot 1)] none
    (.q 5 (.fld 4) [(.res 4)] none
    (.q 6 .ld [(.res 5)] none
    (.q 7 .lenz [(.res 6)] none
    (.q 8 (.iar .add) [(.res 3), (.res 7)] none
    (.q 9 (.fld 4) [(.slot 1)] none
    (.q 10 (.fld 5) [(.res 9)] none
    (.q 11 .ld [(.res 10)] none
    (.q 12 .lenz [(.res 11)] none
    (.q 13 (.iar .add) [(.res 8), (.res 12)] none
    (.q 14 (.fld 4) [(.slot 1)] none
    (.q 15 (.fld 6) [(.res 14)] none
    (.q 16 .ld [(.res 15)] none
    (.q 17 .lenz [(.res 16)] none
    (.q 18 (.iar .add) [(.res 13), (.res 17)] none
    (.q 19 (.fld 11) [(.slot 1)] none
    (.q 20 .ld [(.res 19)] none
    (.q 21 .len [(.res 20)] none
    (.q 22 (.iar .add) [(.res 18), (.res 21)] none
    (.q 23 (.icm .lss) [(.res 22), (.const (.int .i64 1000))] none
    (.out [(2, (.res 23))])))))))))))))))))))))))))
    [1]
abbrev keep_Light_c : NC :=
  (.seq keep_Light_r0
  (.seq keep_Light_r1
  .ret))
abbrev keep_Light_F : FN := ⟨keep_Light_c, [.slot 2]⟩
theorem keep_Light_ok : compF Tryz.prog Tryz.f6 = some keep_Light_F := by kernel_rfl
theorem keep_Light_go {args : List Value} {m : Mem} {R : Value → Mem → Prop} (hn : args.length ≤ Tryz.f6.ntmps) (h : wpN Tryz.prog keep_Light_c (retP keep_Light_F.rvs R) (zipP 0 args) m) : MC Tryz.prog 6 args m R := MC_start Tryz.func6 keep_Light_ok mixed_ok hn h
end Go.Fw
namespace Go.Fw
open Go.Proofs
/-! (*concord/cluster.Cluster).Nodes -/
abbrev cluster_Cluster_Nodes_r0 : NC := .reg
    (.out [(0, (.slot 0))])
    [0]
abbrev cluster_Cluster_Nodes_r1 : NC := .reg
    (.q 1 .nilck [(.slot 0)] none
    (.q 2 (.fld 0) [(.res 1)] none
    (.q 3 .ld [(.res 2)] none
    (.out [(2, (.res 3))]))))
    [0]
abbrev cluster_Cluster_Nodes_c : NC :=
  (.seq cluster_Cluster_Nodes_r0
  (.seq cluster_Cluster_Nodes_r1
  .ret))
abbrev cluster_Cluster_Nodes_F : FN := ⟨cluster_Cluster_Nodes_c, [.slot 2]⟩
theorem cluster_Cluster_Nodes_ok : compF Tryz.prog Tryz.f7 = some cluster_Cluster_Nodes_F := by kernel_rfl
theorem cluster_Cluster_Nodes_go {args : List Value} {m : Mem} {R : Value → Mem → Prop} (hn : args.length ≤ Tryz.f7.ntmps) (h : wpN Tryz.prog cluster_Cluster_Nodes_c (retP cluster_Cluster_Nodes_F.rvs R) (zipP 0 args) m) : MC Tryz.prog 7 args m R := MC_start Tryz.func7 cluster_Cluster_Nodes_ok mixed_ok hn h
/-! (*concord/cluster.Cluster).Do -/
abbrev cluster_Cluster_Do_r0 : NC := .reg
    (.x 0 (.box 32) [(.slot 1)] none []
    (.out [(0, (.slot 0)), (3, (.res 0))]))
    [0, 1]
abbrev cluster_Cluster_Do_r1 : NC := .reg
    (.q 0 (.fld 0) [(.slot 3)] none
    (.q 1 .ld [(.res 0)] none
    (.out [(0, (.slot 0)), (3, (.slot 3)), (7, (.res 1))])))
    [0, 3]
abbrev cluster_Cluster_Do_r2 : NC := .reg
    (.q 0 (.icm .eql) [(.slot 7), (.const (.int .i64 1))] none
    (.out [(0, (.slot 0)), (3, (.slot 3)), (7, (.slot 7)), (8, (.res 0))]))
    [0, 3, 7]
abbrev cluster_Cluster_Do_r3 : NC := .reg
    (.q 1 (.lda 12) [(.slot 3)] none
    (.x 2 (.call 19) [(.slot 0), (.res 1)] none []
    (.out [(4, (.res 2))])))
    [0, 3]
abbrev cluster_Cluster_Do_r4 : NC := .reg
    (.q 0 (.icm .eql) [(.slot 7), (.const (.int .i64 2))] none
    (.out [(0, (.slot 0)), (3, (.slot 3)), (7, (.slot 7)), (13, (.res 0))]))
    [0, 3, 7]
abbrev cluster_Cluster_Do_r5 : NC := .reg
    (.q 0 (.icm .eql) [(.slot 7), (.const (.int .i64 3))] none
    (.out [(0, (.slot 0)), (3, (.slot 3)), (7, (.slot 7)), (13, (.res 0))]))
    [0, 3, 7]
abbrev cluster_Cluster_Do_r6 : NC := .reg
    (.q 0 (.icm .eql) [(.slot 7), (.const (.int .i64 4))] none
    (.out [(0, (.slot 0)), (3, (.slot 3)), (7, (.slot 7)), (13, (.res 0))]))
    [0, 3, 7]
abbrev cluster_Cluster_Do_r7 : NC := .reg
    (.q 1 (.lda 12) [(.slot 3)] none
    (.x 2 (.call 20) [(.slot 0), (.res 1)] none []
    (.out [(4, (.res 2))])))
    [0, 3]
abbrev cluster_Cluster_Do_r8 : NC := .reg
    (.q 0 (.icm .eql) [(.slot 7), (.const (.int .i64 6))] none
    (.out [(0, (.slot 0)), (3, (.slot 3)), (7, (.slot 7)), (20, (.res 0))]))
    [0, 3, 7]
abbrev cluster_Cluster_Do_r9 : NC := .reg
    (.q 1 (.fld 1) [(.slot 3)] none
    (.q 2 .ld [(.res 1)] none
    (.x 3 (.call 21) [(.slot 0), (.res 2)] none []
    (.out [(4, (.res 3))]))))
    [0, 3]
abbrev cluster_Cluster_Do_r10 : NC := .reg
    (.q 0 (.icm .eql) [(.slot 7), (.const (.int .i64 9))] none
    (.out [(0, (.slot 0)), (3, (.slot 3)), (26, (.res 0))]))
    [0, 3, 7]
abbrev cluster_Cluster_Do_r11 : NC := .reg
    (.q 1 (.fld 1) [(.slot 3)] none
    (.q 2 .ld [(.res 1)] none
    (.x 3 (.call 22) [(.slot 0), (.res 2)] none []
    (.out [(4, (.res 3))]))))
    [0, 3]
abbrev cluster_Cluster_Do_r12 : NC := .reg
    (.q 1 (.fld 1) [(.slot 3)] none
    (.q 2 .ld [(.res 1)] none
    (.x 3 (.call 9) [(.slot 0), (.res 2)] none []
    (.out [(0, (.slot 0)), (3, (.slot 3)), (5, (.res 3))]))))
    [0, 3]
abbrev cluster_Cluster_Do_r13 : NC := .reg
    (.q 1 (.eqp false) [(.slot 5), (.const (.pointer none))] none
    (.out [(0, (.slot 0)), (3, (.slot 3)), (5, (.slot 5)), (37, (.res 1))]))
    [0, 3, 5]
abbrev cluster_Cluster_Do_r14 : NC := .reg
    (.out [(4, (.const (.bool false)))])
    []
abbrev cluster_Cluster_Do_r15 : NC := .reg
    (.q 0 (.fld 0) [(.slot 3)] none
    (.q 1 .ld [(.res 0)] none
    (.out [(0, (.slot 0)), (3, (.slot 3)), (5, (.slot 5)), (39, (.res 1))])))
    [0, 3, 5]
abbrev cluster_Cluster_Do_r16 : NC := .reg
    (.q 0 (.icm .eql) [(.slot 39), (.const (.int .i64 5))] none
    (.out [(0, (.slot 0)), (3, (.slot 3)), (5, (.slot 5)), (39, (.slot 39)), (40, (.res 0))]))
    [0, 3, 5, 39]
abbrev cluster_Cluster_Do_r17 : NC := .reg
    (.x 1 (.call 23) [(.slot 5)] none []
    (.out [(0, (.slot 0)), (3, (.slot 3))]))
    [0, 3, 5]
abbrev cluster_Cluster_Do_r18 : NC := .reg
    (.q 1 (.fld 1) [(.slot 3)] none
    (.q 2 .ld [(.res 1)] none
    (.x 3 (.call 18) [(.slot 0), (.res 2)] none []
    (.out []))))
    [0, 3]
abbrev cluster_Cluster_Do_r19 : NC := .reg
    (.q 0 (.icm .eql) [(.slot 39), (.const (.int .i64 7))] none
    (.out [(0, (.slot 0)), (3, (.slot 3)), (39, (.slot 39)), (48, (.res 0))]))
    [0, 3, 39]
abbrev cluster_Cluster_Do_r20 : NC := .reg
    (.q 1 .nilck [(.slot 0)] none
    (.q 2 (.fld 1) [(.res 1)] none
    (.q 3 .ld [(.res 2)] none
    (.q 4 (.fld 1) [(.slot 3)] none
    (.q 5 .ld [(.res 4)] none
    (.q 6 (.ixs 1) [(.res 3), (.res 5)] none
    (.q 7 .ld [(.res 6)] none
    (.q 8 (.fld 2) [(.slot 3)] none
    (.q 9 .ld [(.res 8)] none
    (.x 10 (.call 24) [(.res 7), (.res 9)] none []
    (.out [])))))))))))
    [0, 3]
abbrev cluster_Cluster_Do_r21 : NC := .reg
    (.q 0 (.icm .eql) [(.slot 39), (.const (.int .i64 8))] none
    (.out [(0, (.slot 0)), (3, (.slot 3)), (61, (.res 0))]))
    [0, 3, 39]
abbrev cluster_Cluster_Do_r22 : NC := .reg
    (.q 1 .nilck [(.slot 0)] none
    (.q 2 (.fld 2) [(.res 1)] none
    (.q 3 .ld [(.res 2)] none
    (.q 4 (.fld 1) [(.slot 3)] none
    (.q 5 .ld [(.res 4)] none
    (.q 6 (.ixs 1) [(.res 3), (.res 5)] none
    (.x 7 (.st 1) [(.res 6), (.const (.pointer none))] none []
    (.out [(0, (.slot 0)), (3, (.slot 3))]))))))))
    [0, 3]
abbrev cluster_Cluster_Do_r23 : NC := .reg
    (.q 1 .nilck [(.slot 0)] none
    (.q 2 (.fld 1) [(.res 1)] none
    (.q 3 .ld [(.res 2)] none
    (.q 4 (.fld 1) [(.slot 3)] none
    (.q 5 .ld [(.res 4)] none
    (.q 6 (.ixs 1) [(.res 3), (.res 5)] none
    (.q 7 .ld [(.res 6)] none
    (.q 8 (.fld 11) [(.slot 3)] none
    (.q 9 .ld [(.res 8)] none
    (.x 10 (.call 25) [(.res 7), (.res 9)] none []
    (.out [])))))))))))
    [0, 3]
abbrev cluster_Cluster_Do_r24 : NC := .reg
    (.out [(4, (.const (.bool false)))])
    []
abbrev cluster_Cluster_Do_r25 : NC := .reg
    (.out [(4, (.const (.bool true)))])
    []
abbrev cluster_Cluster_Do_c : NC :=
  (.seq cluster_Cluster_Do_r0
  (.seq (.seq cluster_Cluster_Do_r1
  (.block 0 (.seq cluster_Cluster_Do_r2
  (.cond (.slot 8)
    (.seq cluster_Cluster_Do_r3
    .ret)
    (.seq (.seq cluster_Cluster_Do_r4
    (.cond (.slot 13)
      .skip
      (.seq cluster_Cluster_Do_r5
      (.cond (.slot 13)
        .skip
        cluster_Cluster_Do_r6))))
    (.cond (.slot 13)
      (.seq cluster_Cluster_Do_r7
      .ret)
      (.seq cluster_Cluster_Do_r8
      (.cond (.slot 20)
        (.seq cluster_Cluster_Do_r9
        .ret)
        (.seq cluster_Cluster_Do_r10
        (.cond (.slot 26)
          (.seq cluster_Cluster_Do_r11
          .ret)
          .skip))))))))))
  (.seq cluster_Cluster_Do_r12
  (.seq (.seq cluster_Cluster_Do_r13
  (.cond (.slot 37)
    (.seq cluster_Cluster_Do_r14
    .ret)
    .skip))
  (.seq (.seq cluster_Cluster_Do_r15
  (.block 1 (.seq cluster_Cluster_Do_r16
  (.cond (.slot 40)
    (.seq cluster_Cluster_Do_r17
    cluster_Cluster_Do_r18)
    (.seq cluster_Cluster_Do_r19
    (.cond (.slot 48)
      cluster_Cluster_Do_r20
      (.seq cluster_Cluster_Do_r21
      (.cond (.slot 61)
        (.seq cluster_Cluster_Do_r22
        cluster_Cluster_Do_r23)
        (.seq cluster_Cluster_Do_r24
        .ret)))))))))
  (.seq cluster_Cluster_Do_r25
  .ret))))))
abbrev cluster_Cluster_Do_F : FN := ⟨cluster_Cluster_Do_c, [.slot 4]⟩
theorem cluster_Cluster_Do_ok : compF Tryz.prog Tryz.f8 = some cluster_Cluster_Do_F := by kernel_rfl
theorem cluster_Cluster_Do_go {args : List Value} {m : Mem} {R : Value → Mem → Prop} (hn : args.length ≤ Tryz.f8.ntmps) (h : wpN Tryz.prog cluster_Cluster_Do_c (retP cluster_Cluster_Do_F.rvs R) (zipP 0 args) m) : MC Tryz.prog 8 args m R := MC_start Tryz.func8 cluster_Cluster_Do_ok mixed_ok hn h
/-! (*concord/cluster.Cluster).Node -/
abbrev cluster_Cluster_Node_r0 : NC := .reg
    (.out [(0, (.slot 0)), (1, (.slot 1))])
    [0, 1]
abbrev cluster_Cluster_Node_r1 : NC := .reg
    (.q 1 (.icm .lss) [(.slot 1), (.const (.int .i64 0))] none
    (.q 3 .mv [(.slot 1)] (some ((.res 1), false))
    (.q 4 .mv [(.slot 0)] (some ((.res 1), false))
    (.q 5 .nilck [(.res 4)] (some ((.res 1), false))
    (.q 6 (.fld 0) [(.res 5)] (some ((.res 1), false))
    (.q 7 .ld [(.res 6)] (some ((.res 1), false))
    (.q 8 (.icm .geq) [(.res 3), (.res 7)] (some ((.res 1), false))
    (.q 9 .pick [(.res 1), (.const (.bool true)), (.res 8)] none
    (.out [(0, (.slot 0)), (1, (.slot 1)), (14, (.res 9))])))))))))
    [0, 1]
abbrev cluster_Cluster_Node_r2 : NC := .reg
    (.out [(4, (.const (.pointer none)))])
    []
abbrev cluster_Cluster_Node_r3 : NC := .reg
    (.q 1 .nilck [(.slot 0)] none
    (.q 2 (.fld 2) [(.res 1)] none
    (.q 3 .ld [(.res 2)] none
    (.q 5 (.ixs 1) [(.res 3), (.slot 1)] none
    (.q 6 .ld [(.res 5)] none
    (.out [(4, (.res 6))]))))))
    [0, 1]
abbrev cluster_Cluster_Node_c : NC :=
  (.seq cluster_Cluster_Node_r0
  (.seq (.seq cluster_Cluster_Node_r1
  (.cond (.slot 14)
    (.seq cluster_Cluster_Node_r2
    .ret)
    .skip))
  (.seq cluster_Cluster_Node_r3
  .ret)))
abbrev cluster_Cluster_Node_F : FN := ⟨cluster_Cluster_Node_c, [.slot 4]⟩
theorem cluster_Cluster_Node_ok : compF Tryz.prog Tryz.f9 = some cluster_Cluster_Node_F := by kernel_rfl
theorem cluster_Cluster_Node_go {args : List Value} {m : Mem} {R : Value → Mem → Prop} (hn : args.length ≤ Tryz.f9.ntmps) (h : wpN Tryz.prog cluster_Cluster_Node_c (retP cluster_Cluster_Node_F.rvs R) (zipP 0 args) m) : MC Tryz.prog 9 args m R := MC_start Tryz.func9 cluster_Cluster_Node_ok mixed_ok hn h
/-! (*concord/cluster.Cluster).call -/
abbrev cluster_Cluster_call_r0 : NC := .reg
    (.x 0 (.box 32) [(.slot 1)] none []
    (.out [(0, (.slot 0)), (3, (.res 0))]))
    [0, 1]
abbrev cluster_Cluster_call_r1 : NC := .reg
    (.q 0 (.fld 3) [(.slot 3)] none
    (.q 1 .ld [(.res 0)] none
    (.x 2 (.call 43) [(.res 1)] none []
    (.q 3 .not [(.res 2)] none
    (.q 5 (.fld 1) [(.slot 3)] (some ((.res 3), false))
    (.q 6 .ld [(.res 5)] (some ((.res 3), false))
    (.q 7 (.icm .lss) [(.res 6), (.const (.int .i64 0))] (some ((.res 3), false))
    (.q 8 .pick [(.res 3), (.const (.bool true)), (.res 7)] none
    (.q 10 (.fld 1) [(.slot 3)] (some ((.res 8), false))
    (.q 11 .ld [(.res 10)] (some ((.res 8), false))
    (.q 12 .mv [(.slot 0)] (some ((.res 8), false))
    (.q 13 .nilck [(.res 12)] (some ((.res 8), false))
    (.q 14 (.fld 0) [(.res 13)] (some ((.res 8), false))
    (.q 15 .ld [(.res 14)] (some ((.res 8), false))
    (.q 16 (.icm .geq) [(.res 11), (.res 15)] (some ((.res 8), false))
    (.q 17 .pick [(.res 8), (.const (.bool true)), (.res 16)] none
    (.out [(0, (.slot 0)), (3, (.slot 3)), (24, (.res 17))])))))))))))))))))
    [0, 3]
abbrev cluster_Cluster_call_r2 : NC := .reg
    (.out [(4, (.const (.bool false)))])
    []
abbrev cluster_Cluster_call_r3 : NC := .reg
    (.q 1 .nilck [(.slot 0)] none
    (.q 2 (.fld 3) [(.res 1)] none
    (.q 3 .ld [(.res 2)] none
    (.q 4 (.fld 3) [(.slot 3)] none
    (.q 5 .ld [(.res 4)] none
    (.q 6 (.iar .sub) [(.res 5), (.const (.int .i64 1))] none
    (.q 7 (.ixs 1) [(.res 3), (.res 6)] none
    (.q 8 .ld [(.res 7)] none
    (.q 9 (.fld 4) [(.slot 3)] none
    (.q 10 (.lda 7) [(.res 9)] none
    (.q 11 (.fld 1) [(.slot 3)] none
    (.q 12 .ld [(.res 11)] none
    (.both
    (.x 13 (.call 45) [(.res 8), (.res 10), (.res 12)] none []
    (.q 15 (.ext 0) [(.res 13)] none
    (.q 16 (.ext 1) [(.res 13)] none
    (.x 17 (.alc [(.int .i64 0), (.int .i64 0), (.int .i64 0), (.string ⟨#[]⟩), (.string ⟨#[]⟩), (.string ⟨#[]⟩), (.string ⟨#[]⟩)] 30) [] none [(3, .ld, [(.res 2)], none), (5, .ld, [(.res 4)], none), (8, .ld, [(.res 7)], none), (10, (.lda 7), [(.res 9)], none), (12, .ld, [(.res 11)], none)]
    (.x 18 (.st 7) [(.res 17), (.res 15)] none []
    (.out [(0, (.slot 0)), (3, (.slot 3)), (5, (.res 17)), (6, (.res 16))]))))))
    (.x 17 (.alc [(.int .i64 0), (.int .i64 0), (.int .i64 0), (.string ⟨#[]⟩), (.string ⟨#[]⟩), (.string ⟨#[]⟩), (.string ⟨#[]⟩)] 30) [] none [(3, .ld, [(.res 2)], none), (5, .ld, [(.res 4)], none), (8, .ld, [(.res 7)], none), (10, (.lda 7), [(.res 9)], none), (12, .ld, [(.res 11)], none)]
    (.x 13 (.call 45) [(.res 8), (.res 10), (.res 12)] none []
    (.q 15 (.ext 0) [(.res 13)] none
    (.q 16 (.ext 1) [(.res 13)] none
    (.x 18 (.st 7) [(.res 17), (.res 15)] none []
    (.out [(0, (.slot 0)), (3, (.slot 3)), (5, (.res 17)), (6, (.res 16))])))))))))))))))))))
    [0, 3]
abbrev cluster_Cluster_call_r4 : NC := .reg
    (.q 1 .not [(.slot 6)] none
    (.out [(0, (.slot 0)), (3, (.slot 3)), (5, (.slot 5)), (43, (.res 1))]))
    [0, 3, 5, 6]
abbrev cluster_Cluster_call_r5 : NC := .reg
    (.out [(4, (.const (.bool false)))])
    []
abbrev cluster_Cluster_call_r6 : NC := .reg
    (.q 1 .nilck [(.slot 0)] none
    (.q 2 (.fld 4) [(.res 1)] none
    (.q 3 .ld [(.res 2)] none
    (.q 4 (.fld 3) [(.slot 3)] none
    (.q 5 .ld [(.res 4)] none
    (.q 6 (.iar .sub) [(.res 5), (.const (.int .i64 1))] none
    (.q 7 (.lda 7) [(.slot 5)] none
    (.q 8 (.ixs 7) [(.res 3), (.res 6)] none
    (.x 9 (.st 7) [(.res 8), (.res 7)] none []
    (.out [(0, (.slot 0)), (3, (.slot 3)), (5, (.slot 5))]))))))))))
    [0, 3, 5]
abbrev cluster_Cluster_call_r7 : NC := .reg
    (.q 2 .nilck [(.slot 0)] none
    (.q 3 (.fld 6) [(.res 2)] none
    (.q 4 .ld [(.res 3)] none
    (.q 5 (.fld 3) [(.slot 3)] none
    (.q 6 .ld [(.res 5)] none
    (.q 7 (.lda 7) [(.slot 5)] none
    (.q 8 (.bld [(.int .i64 0), (.int .i64 0), (.int .i64 0), (.int .i64 0), (.int .i64 0), (.string ⟨#[]⟩), (.string ⟨#[]⟩), (.string ⟨#[]⟩), (.string ⟨#[]⟩), (.int .i64 0), (.bool false), (.string ⟨#[]⟩), (.int .i64 0), (.slice none 0 0)] [(0, 1), (1, 1), (2, 7)]) [(.const (.int .i64 1)), (.res 6), (.res 7)] none
    (.x 9 (.bsl 91 1 [(.int .i64 0), (.int .i64 0), (.int .i64 0), (.int .i64 0), (.int .i64 0), (.string ⟨#[]⟩), (.string ⟨#[]⟩), (.string ⟨#[]⟩), (.string ⟨#[]⟩), (.int .i64 0), (.bool false), (.string ⟨#[]⟩), (.int .i64 0), (.slice none 0 0)] [(0, 14)]) [(.res 8)] none [(4, .ld, [(.res 3)], none)]
    (.x 10 (.app 91 14 168 [(.int .i64 0), (.int .i64 0), (.int .i64 0), (.int .i64 0), (.int .i64 0), (.string ⟨#[]⟩), (.string ⟨#[]⟩), (.string ⟨#[]⟩), (.string ⟨#[]⟩), (.int .i64 0), (.bool false), (.string ⟨#[]⟩), (.int .i64 0), (.slice none 0 0)]) [(.res 4), (.res 9)] none []
    (.q 11 .nilck [(.slot 0)] none
    (.q 12 (.fld 6) [(.res 11)] none
    (.x 13 (.st 1) [(.res 12), (.res 10)] none []
    (.out [(0, (.slot 0)), (3, (.slot 3)), (5, (.slot 5))])))))))))))))
    [0, 3, 5]
abbrev cluster_Cluster_call_r8 : NC := .reg
    (.q 1 (.lda 7) [(.slot 5)] none
    (.q 2 (.fld 1) [(.slot 3)] none
    (.q 3 .ld [(.res 2)] none
    (.x 4 (.call 46) [(.slot 0), (.res 1), (.res 3)] none []
    (.out [])))))
    [0, 3, 5]
abbrev cluster_Cluster_call_r9 : NC := .reg
    (.out [(4, (.const (.bool true)))])
    []
abbrev cluster_Cluster_call_c : NC :=
  (.seq cluster_Cluster_call_r0
  (.seq (.seq cluster_Cluster_call_r1
  (.cond (.slot 24)
    (.seq cluster_Cluster_call_r2
    .ret)
    .skip))
  (.seq cluster_Cluster_call_r3
  (.seq (.seq cluster_Cluster_call_r4
  (.cond (.slot 43)
    (.seq cluster_Cluster_call_r5
    .ret)
    .skip))
  (.seq cluster_Cluster_call_r6
  (.seq cluster_Cluster_call_r7
  (.seq cluster_Cluster_call_r8
  (.seq cluster_Cluster_call_r9
  .ret))))))))
abbrev cluster_Cluster_call_F : FN := ⟨cluster_Cluster_call_c, [.slot 4]⟩
theorem cluster_Cluster_call_ok : compF Tryz.prog Tryz.f19 = some cluster_Cluster_call_F := by kernel_rfl
theorem cluster_Cluster_call_go {args : List Value} {m : Mem} {R : Value → Mem → Prop} (hn : args.length ≤ Tryz.f19.ntmps) (h : wpN Tryz.prog cluster_Cluster_call_c (retP cluster_Cluster_call_F.rvs R) (zipP 0 args) m) : MC Tryz.prog 19 args m R := MC_start Tryz.func19 cluster_Cluster_call_ok mixed_ok hn h
/-! (*concord/cluster.Cluster).letter -/
abbrev cluster_Cluster_letter_r0 : NC := .reg
    (.x 0 (.box 32) [(.slot 1)] none []
    (.out [(0, (.slot 0)), (3, (.res 0))]))
    [0, 1]
abbrev cluster_Cluster_letter_r1 : NC := .reg
    (.q 0 (.fld 1) [(.slot 3)] none
    (.q 1 .ld [(.res 0)] none
    (.q 2 (.icm .lss) [(.res 1), (.const (.int .i64 0))] none
    (.q 4 (.fld 1) [(.slot 3)] (some ((.res 2), false))
    (.q 5 .ld [(.res 4)] (some ((.res 2), false))
    (.q 6 .mv [(.slot 0)] (some ((.res 2), false))
    (.q 7 .nilck [(.res 6)] (some ((.res 2), false))
    (.q 8 (.fld 5) [(.res 7)] (some ((.res 2), false))
    (.q 9 .ld [(.res 8)] (some ((.res 2), false))
    (.q 10 .len [(.res 9)] (some ((.res 2), false))
    (.q 11 (.icm .geq) [(.res 5), (.res 10)] (some ((.res 2), false))
    (.q 12 .pick [(.res 2), (.const (.bool true)), (.res 11)] none
    (.out [(0, (.slot 0)), (3, (.slot 3)), (19, (.res 12))])))))))))))))
    [0, 3]
abbrev cluster_Cluster_letter_r2 : NC := .reg
    (.out [(4, (.const (.bool false)))])
    []
abbrev cluster_Cluster_letter_r3 : NC := .reg
    (.q 1 .nilck [(.slot 0)] none
    (.q 2 (.fld 5) [(.res 1)] none
    (.q 3 .ld [(.res 2)] none
    (.q 4 (.fld 1) [(.slot 3)] none
    (.q 5 .ld [(.res 4)] none
    (.q 6 (.ixs 51) [(.res 3), (.res 5)] none
    (.q 7 (.lda 51) [(.res 6)] none
    (.x 8 (.alc [(.int .i64 0), (.int .i64 0), (.int .i64 0), (.int .i64 0), (.int .i64 0), (.int .i64 0), (.int .i64 0), (.int .i64 0), (.int .i64 0), (.int .i64 0), (.string ⟨#[]⟩), (.string ⟨#[]⟩), (.string ⟨#[]⟩), (.string ⟨#[]⟩), (.int .i64 0), (.int .i64 0), (.int .i64 0), (.int .i64 0), (.int .i64 0), (.int .i64 0), (.int .i64 0), (.int .i64 0), (.int .i64 0), (.int .i64 0), (.int .i64 0), (.int .i64 0), (.int .i64 0), (.int .i64 0), (.int .i64 0), (.int .i64 0), (.string ⟨#[]⟩), (.string ⟨#[]⟩), (.string ⟨#[]⟩), (.string ⟨#[]⟩), (.int .i64 0), (.int .i64 0), (.int .i64 0), (.int .i64 0), (.int .i64 0), (.int .i64 0), (.int .i64 0), (.int .i64 0), (.bool false), (.int .i64 0), (.int .i64 0), (.int .i64 0), (.int .i64 0), (.int .i64 0), (.int .i64 0), (.int .i64 0), (.string ⟨#[]⟩)] 88) [] none [(3, .ld, [(.res 2)], none), (5, .ld, [(.res 4)], none), (7, (.lda 51), [(.res 6)], none)]
    (.x 9 (.st 51) [(.res 8), (.res 7)] none []
    (.out [(0, (.slot 0)), (3, (.slot 3)), (5, (.res 8))]))))))))))
    [0, 3]
abbrev cluster_Cluster_letter_r4 : NC := .reg
    (.q 0 (.fld 0) [(.slot 3)] none
    (.q 1 .ld [(.res 0)] none
    (.q 2 (.icm .neq) [(.res 1), (.const (.int .i64 3))] none
    (.out [(0, (.slot 0)), (3, (.slot 3)), (5, (.slot 5)), (30, (.res 2))]))))
    [0, 3, 5]
abbrev cluster_Cluster_letter_r5 : NC := .reg
    (.q 2 .nilck [(.slot 0)] none
    (.q 3 (.fld 5) [(.res 2)] none
    (.q 4 .ld [(.res 3)] none
    (.q 5 (.fld 1) [(.slot 3)] none
    (.q 6 .ld [(.res 5)] none
    (.q 7 (.fld 1) [(.slot 3)] none
    (.q 8 .ld [(.res 7)] none
    (.q 9 (.iar .add) [(.res 8), (.const (.int .i64 1))] none
    (.x 10 (.call 47) [(.res 4), (.res 6), (.res 9)] none []
    (.q 11 .nilck [(.slot 0)] none
    (.q 12 (.fld 5) [(.res 11)] none
    (.x 13 (.st 1) [(.res 12), (.res 10)] none []
    (.out [(0, (.slot 0)), (3, (.slot 3)), (5, (.slot 5))])))))))))))))
    [0, 3, 5]
abbrev cluster_Cluster_letter_r6 : NC := .reg
    (.q 1 (.fld 2) [(.slot 5)] none
    (.q 2 .ld [(.res 1)] none
    (.x 3 (.call 9) [(.slot 0), (.res 2)] none []
    (.out [(0, (.slot 0)), (3, (.slot 3)), (5, (.slot 5)), (6, (.res 3))]))))
    [0, 3, 5]
abbrev cluster_Cluster_letter_r7 : NC := .reg
    (.q 0 (.fld 0) [(.slot 3)] none
    (.q 1 .ld [(.res 0)] none
    (.q 2 (.icm .neq) [(.res 1), (.const (.int .i64 4))] none
    (.q 4 .mv [(.slot 6)] (some ((.res 2), true))
    (.q 5 (.eqp true) [(.res 4), (.const (.pointer none))] (some ((.res 2), true))
    (.q 6 .pick [(.res 2), (.res 5), (.const (.bool false))] none
    (.out [(0, (.slot 0)), (5, (.slot 5)), (6, (.slot 6)), (54, (.res 6))])))))))
    [0, 3, 5, 6]
abbrev cluster_Cluster_letter_r8 : NC := .reg
    (.q 1 (.lda 51) [(.slot 5)] none
    (.x 2 (.call 48) [(.slot 6), (.res 1)] none []
    (.out [(0, (.slot 0)), (5, (.slot 5))])))
    [0, 5, 6]
abbrev cluster_Cluster_letter_r9 : NC := .reg
    (.q 1 (.fld 2) [(.slot 5)] none
    (.q 2 .ld [(.res 1)] none
    (.x 3 (.call 18) [(.slot 0), (.res 2)] none []
    (.out []))))
    [0, 5]
abbrev cluster_Cluster_letter_r10 : NC := .reg
    (.out [(4, (.const (.bool true)))])
    []
abbrev cluster_Cluster_letter_c : NC :=
  (.seq cluster_Cluster_letter_r0
  (.seq (.seq cluster_Cluster_letter_r1
  (.cond (.slot 19)
    (.seq cluster_Cluster_letter_r2
    .ret)
    .skip))
  (.seq cluster_Cluster_letter_r3
  (.seq (.seq cluster_Cluster_letter_r4
  (.cond (.slot 30)
    cluster_Cluster_letter_r5
    .skip))
  (.seq (.seq cluster_Cluster_letter_r6
  (.seq cluster_Cluster_letter_r7
  (.cond (.slot 54)
    (.seq cluster_Cluster_letter_r8
    cluster_Cluster_letter_r9)
    .skip)))
  (.seq cluster_Cluster_letter_r10
  .ret))))))
abbrev cluster_Cluster_letter_F : FN := ⟨cluster_Cluster_letter_c, [.slot 4]⟩
theorem cluster_Cluster_letter_ok : compF Tryz.prog Tryz.f20 = some cluster_Cluster_letter_F := by kernel_rfl
theorem cluster_Cluster_letter_go {args : List Value} {m : Mem} {R : Value → Mem → Prop} (hn : args.length ≤ Tryz.f20.ntmps) (h : wpN Tryz.prog cluster_Cluster_letter_c (retP cluster_Cluster_letter_F.rvs R) (zipP 0 args) m) : MC Tryz.prog 20 args m R := MC_start Tryz.func20 cluster_Cluster_letter_ok mixed_ok hn h
/-! (*concord/cluster.Cluster).time -/
abbrev cluster_Cluster_time_r0 : NC := .reg
    (.out [(0, (.slot 0)), (1, (.slot 1))])
    [0, 1]
abbrev cluster_Cluster_time_r1 : NC := .reg
    (.x 1 (.call 43) [(.slot 1)] none []
    (.q 2 .not [(.res 1)] none
    (.out [(0, (.slot 0)), (1, (.slot 1)), (10, (.res 2))])))
    [0, 1]
abbrev cluster_Cluster_time_r2 : NC := .reg
    (.out [(4, (.const (.bool false)))])
    []
abbrev cluster_Cluster_time_r3 : NC := .reg
    (.q 1 .nilck [(.slot 0)] none
    (.q 2 (.fld 3) [(.res 1)] none
    (.q 3 .ld [(.res 2)] none
    (.q 5 (.iar .sub) [(.slot 1), (.const (.int .i64 1))] none
    (.q 6 (.ixs 1) [(.res 3), (.res 5)] none
    (.q 7 .ld [(.res 6)] none
    (.q 9 .nilck [(.slot 0)] none
    (.q 10 (.fld 0) [(.res 9)] none
    (.q 11 .ld [(.res 10)] none
    (.both
    (.x 12 (.call 49) [(.res 7), (.res 11)] none []
    (.q 14 (.ext 0) [(.res 12)] none
    (.q 15 (.ext 1) [(.res 12)] none
    (.q 16 (.ext 2) [(.res 12)] none
    (.x 17 (.alc [(.int .i64 0), (.int .i64 0), (.int .i64 0), (.string ⟨#[]⟩), (.string ⟨#[]⟩), (.string ⟨#[]⟩), (.string ⟨#[]⟩)] 30) [] none [(3, .ld, [(.res 2)], none), (7, .ld, [(.res 6)], none), (11, .ld, [(.res 10)], none)]
    (.x 18 (.st 7) [(.res 17), (.res 14)] none []
    (.out [(0, (.slot 0)), (5, (.res 17)), (6, (.res 15)), (7, (.res 16))])))))))
    (.x 17 (.alc [(.int .i64 0), (.int .i64 0), (.int .i64 0), (.string ⟨#[]⟩), (.string ⟨#[]⟩), (.string ⟨#[]⟩), (.string ⟨#[]⟩)] 30) [] none [(3, .ld, [(.res 2)], none), (7, .ld, [(.res 6)], none), (11, .ld, [(.res 10)], none)]
    (.x 12 (.call 49) [(.res 7), (.res 11)] none []
    (.q 14 (.ext 0) [(.res 12)] none
    (.q 15 (.ext 1) [(.res 12)] none
    (.q 16 (.ext 2) [(.res 12)] none
    (.x 18 (.st 7) [(.res 17), (.res 14)] none []
    (.out [(0, (.slot 0)), (5, (.res 17)), (6, (.res 15)), (7, (.res 16))])))))))))))))))))
    [0, 1]
abbrev cluster_Cluster_time_r4 : NC := .reg
    (.out [(0, (.slot 0)), (5, (.slot 5)), (6, (.slot 6)), (28, (.slot 7))])
    [0, 5, 6, 7]
abbrev cluster_Cluster_time_r5 : NC := .reg
    (.q 1 (.lda 7) [(.slot 5)] none
    (.x 3 (.call 46) [(.slot 0), (.res 1), (.slot 6)] none []
    (.out [])))
    [0, 5, 6]
abbrev cluster_Cluster_time_r6 : NC := .reg
    (.out [(4, (.const (.bool true)))])
    []
abbrev cluster_Cluster_time_c : NC :=
  (.seq cluster_Cluster_time_r0
  (.seq (.seq cluster_Cluster_time_r1
  (.cond (.slot 10)
    (.seq cluster_Cluster_time_r2
    .ret)
    .skip))
  (.seq (.seq cluster_Cluster_time_r3
  (.seq cluster_Cluster_time_r4
  (.cond (.slot 28)
    cluster_Cluster_time_r5
    .skip)))
  (.seq cluster_Cluster_time_r6
  .ret))))
abbrev cluster_Cluster_time_F : FN := ⟨cluster_Cluster_time_c, [.slot 4]⟩
theorem cluster_Cluster_time_ok : compF Tryz.prog Tryz.f21 = some cluster_Cluster_time_F := by kernel_rfl
theorem cluster_Cluster_time_go {args : List Value} {m : Mem} {R : Value → Mem → Prop} (hn : args.length ≤ Tryz.f21.ntmps) (h : wpN Tryz.prog cluster_Cluster_time_c (retP cluster_Cluster_time_F.rvs R) (zipP 0 args) m) : MC Tryz.prog 21 args m R := MC_start Tryz.func21 cluster_Cluster_time_ok mixed_ok hn h
/-! (*concord/cluster.Cluster).start -/
abbrev cluster_Cluster_start_r0 : NC := .reg
    (.out [(0, (.slot 0)), (1, (.slot 1))])
    [0, 1]
abbrev cluster_Cluster_start_r1 : NC := .reg
    (.q 1 (.icm .lss) [(.slot 1), (.const (.int .i64 0))] none
    (.q 3 .mv [(.slot 1)] (some ((.res 1), false))
    (.q 4 .mv [(.slot 0)] (some ((.res 1), false))
    (.q 5 .nilck [(.res 4)] (some ((.res 1), false))
    (.q 6 (.fld 0) [(.res 5)] (some ((.res 1), false))
    (.q 7 .ld [(.res 6)] (some ((.res 1), false))
    (.q 8 (.icm .geq) [(.res 3), (.res 7)] (some ((.res 1), false))
    (.q 9 .pick [(.res 1), (.const (.bool true)), (.res 8)] none
    (.q 11 .mv [(.slot 0)] (some ((.res 9), false))
    (.q 12 .nilck [(.res 11)] (some ((.res 9), false))
    (.q 13 (.fld 2) [(.res 12)] (some ((.res 9), false))
    (.q 14 .ld [(.res 13)] (some ((.res 9), false))
    (.q 15 .mv [(.slot 1)] (some ((.res 9), false))
    (.q 16 (.ixs 1) [(.res 14), (.res 15)] (some ((.res 9), false))
    (.q 17 .ld [(.res 16)] (some ((.res 9), false))
    (.q 18 (.eqp true) [(.res 17), (.const (.pointer none))] (some ((.res 9), false))
    (.q 19 .pick [(.res 9), (.const (.bool true)), (.res 18)] none
    (.out [(0, (.slot 0)), (1, (.slot 1)), (26, (.res 19))]))))))))))))))))))
    [0, 1]
abbrev cluster_Cluster_start_r2 : NC := .reg
    (.out [(4, (.const (.bool false)))])
    []
abbrev cluster_Cluster_start_r3 : NC := .reg
    (.q 1 .nilck [(.slot 0)] none
    (.q 2 (.fld 0) [(.res 1)] none
    (.q 3 .ld [(.res 2)] none
    (.q 6 .nilck [(.slot 0)] none
    (.q 7 (.fld 1) [(.res 6)] none
    (.q 8 .ld [(.res 7)] none
    (.q 10 (.ixs 1) [(.res 8), (.slot 1)] none
    (.q 11 .ld [(.res 10)] none
    (.x 12 (.call 16) [(.res 3), (.slot 1), (.res 11)] none []
    (.q 14 (.ext 0) [(.res 12)] none
    (.q 15 (.ext 1) [(.res 12)] none
    (.out [(0, (.slot 0)), (1, (.slot 1)), (5, (.res 14)), (6, (.res 15))]))))))))))))
    [0, 1]
abbrev cluster_Cluster_start_r4 : NC := .reg
    (.q 1 (.icm .neq) [(.slot 6), (.const (.int .i64 0))] none
    (.out [(0, (.slot 0)), (1, (.slot 1)), (5, (.slot 5)), (44, (.res 1))]))
    [0, 1, 5, 6]
abbrev cluster_Cluster_start_r5 : NC := .reg
    (.out [(4, (.const (.bool false)))])
    []
abbrev cluster_Cluster_start_r6 : NC := .reg
    (.q 1 .nilck [(.slot 0)] none
    (.q 2 (.fld 2) [(.res 1)] none
    (.q 3 .ld [(.res 2)] none
    (.q 6 (.ixs 1) [(.res 3), (.slot 1)] none
    (.x 7 (.st 1) [(.res 6), (.slot 5)] none []
    (.out [(0, (.slot 0)), (1, (.slot 1))]))))))
    [0, 1, 5]
abbrev cluster_Cluster_start_r7 : NC := .reg
    (.x 2 (.call 18) [(.slot 0), (.slot 1)] none []
    (.out []))
    [0, 1]
abbrev cluster_Cluster_start_r8 : NC := .reg
    (.out [(4, (.const (.bool true)))])
    []
abbrev cluster_Cluster_start_c : NC :=
  (.seq cluster_Cluster_start_r0
  (.seq (.seq cluster_Cluster_start_r1
  (.cond (.slot 26)
    (.seq cluster_Cluster_start_r2
    .ret)
    .skip))
  (.seq cluster_Cluster_start_r3
  (.seq (.seq cluster_Cluster_start_r4
  (.cond (.slot 44)
    (.seq cluster_Cluster_start_r5
    .ret)
    .skip))
  (.seq cluster_Cluster_start_r6
  (.seq cluster_Cluster_start_r7
  (.seq cluster_Cluster_start_r8
  .ret)))))))
abbrev cluster_Cluster_start_F : FN := ⟨cluster_Cluster_start_c, [.slot 4]⟩
theorem cluster_Cluster_start_ok : compF Tryz.prog Tryz.f22 = some cluster_Cluster_start_F := by kernel_rfl
theorem cluster_Cluster_start_go {args : List Value} {m : Mem} {R : Value → Mem → Prop} (hn : args.length ≤ Tryz.f22.ntmps) (h : wpN Tryz.prog cluster_Cluster_start_c (retP cluster_Cluster_start_F.rvs R) (zipP 0 args) m) : MC Tryz.prog 22 args m R := MC_start Tryz.func22 cluster_Cluster_start_ok mixed_ok hn h
/-! concord/cluster.known -/
abbrev cluster_known_r0 : NC := .reg
    (.out [(0, (.slot 0))])
    [0]
abbrev cluster_known_r1 : NC := .reg
    (.q 1 (.icm .geq) [(.slot 0), (.const (.int .i64 1))] none
    (.q 3 .mv [(.slot 0)] (some ((.res 1), true))
    (.q 4 (.icm .leq) [(.res 3), (.const (.int .i64 8))] (some ((.res 1), true))
    (.q 5 .pick [(.res 1), (.res 4), (.const (.bool false))] none
    (.out [(2, (.res 5))])))))
    [0]
abbrev cluster_known_c : NC :=
  (.seq cluster_known_r0
  (.seq cluster_known_r1
  .ret))
abbrev cluster_known_F : FN := ⟨cluster_known_c, [.slot 2]⟩
theorem cluster_known_ok : compF Tryz.prog Tryz.f43 = some cluster_known_F := by kernel_rfl
theorem cluster_known_go {args : List Value} {m : Mem} {R : Value → Mem → Prop} (hn : args.length ≤ Tryz.f43.ntmps) (h : wpN Tryz.prog cluster_known_c (retP cluster_known_F.rvs R) (zipP 0 args) m) : MC Tryz.prog 43 args m R := MC_start Tryz.func43 cluster_known_ok mixed_ok hn h
end Go.Fw
