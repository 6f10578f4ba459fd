import Derived.Test.YtadkdbnikmkgfaaCd
namespace Go.Fw
open Go.Proofs
/-! concord/log.New -/
abbrev log_New_r0 : NC := .reg
    (.x 0 (.box 25) [(.slot 0)] none []
    (.out [(1, (.res 0))]))
    [0]
abbrev log_New_r1 : NC := .reg
    (.x 0 .mkm [] none []
    (.q 1 (.bld [(.map none), (.int .i64 0), (.int .i64 0), (.int .i64 0), (.int .i64 0), (.int .i64 0), (.int .i64 0), (.int .i64 0)] [(0, 1)]) [(.res 0)] none
    (.x 2 (.box 74) [(.res 1)] none []
    (.out [(1, (.slot 1)), (3, (.res 2))]))))
    [1]
abbrev log_New_r2 : NC := .reg
    (.q 1 (.lda 7) [(.slot 1)] none
    (.x 2 (.call 13) [(.slot 3), (.res 1)] none []
    (.out [(3, (.slot 3))])))
    [1, 3]
abbrev log_New_r3 : NC := .reg
    (.out [(2, (.slot 3))])
    [3]
abbrev log_New_c : NC :=
  (.seq log_New_r0
  (.seq log_New_r1
  (.seq log_New_r2
  (.seq log_New_r3
  .ret))))
abbrev log_New_F : FN := ⟨log_New_c, [.slot 2]⟩
theorem log_New_ok : compF Try.prog Try.f9 = some log_New_F := by kernel_rfl
theorem log_New_go {args : List Value} {m : Mem} {R : Value → Mem → Prop} (hn : args.length ≤ Try.f9.ntmps) (h : wpN Try.prog log_New_c (retP log_New_F.rvs R) (zipP 0 args) m) : MC Try.prog 9 args m R := MC_start Try.func9 log_New_ok mixed_ok hn h
/-! (*concord/log.Log).Set -/
abbrev log_Log_Set_r0 : NC := .reg
    (.x 0 (.box 28) [(.slot 1)] none []
    (.x 1 (.box 37) [(.slot 2)] none []
    (.out [(0, (.slot 0)), (4, (.res 0)), (5, (.res 1))])))
    [0, 1, 2]
abbrev log_Log_Set_r1 : NC := .reg
    (.q 0 (.lda 2) [(.slot 4)] none
    (.x 1 (.call 33) [(.res 0)] none []
    (.q 2 .not [(.res 1)] none
    (.q 4 .mv [(.slot 0)] (some ((.res 2), false))
    (.q 5 (.lda 2) [(.slot 4)] (some ((.res 2), false))
    (.x 6 (.call 15) [(.res 4), (.res 5)] (some ((.res 2), false)) []
    (.q 7 .pick [(.res 2), (.const (.bool true)), (.res 6)] none
    (.q 9 (.lda 21) [(.slot 5)] (some ((.res 7), false))
    (.x 10 (.call 34) [(.res 9)] (some ((.res 7), false)) []
    (.q 11 .not [(.res 10)] (some ((.res 7), false))
    (.q 12 .pick [(.res 7), (.const (.bool true)), (.res 11)] none
    (.out [(0, (.slot 0)), (4, (.slot 4)), (5, (.slot 5)), (21, (.res 12))]))))))))))))
    [0, 4, 5]
abbrev log_Log_Set_r2 : NC := .reg
    (.out [(6, (.const (.bool false)))])
    []
abbrev log_Log_Set_r3 : NC := .reg
    (.q 1 .nilck [(.slot 0)] none
    (.q 2 (.fld 0) [(.res 1)] none
    (.q 3 .ld [(.res 2)] none
    (.q 4 (.lda 2) [(.slot 4)] none
    (.q 5 (.lkp true [(.i .i64), (.i .i64)] (.agg #[(.int .i64 0), (.int .i64 0), (.int .i64 0), (.int .i64 0), (.int .i64 0), (.int .i64 0), (.int .i64 0), (.int .i64 0), (.string ⟨#[]⟩), (.string ⟨#[]⟩), (.string ⟨#[]⟩), (.string ⟨#[]⟩), (.int .i64 0), (.int .i64 0), (.int .i64 0), (.int .i64 0), (.int .i64 0), (.int .i64 0), (.int .i64 0), (.int .i64 0), (.bool false)]) true) [(.res 3), (.res 4)] none
    (.q 7 (.ext 0) [(.res 5)] none
    (.q 8 (.ext 1) [(.res 5)] none
    (.x 9 (.alc [(.int .i64 0), (.int .i64 0), (.int .i64 0), (.int .i64 0), (.int .i64 0), (.int .i64 0), (.int .i64 0), (.int .i64 0), (.string ⟨#[]⟩), (.string ⟨#[]⟩), (.string ⟨#[]⟩), (.string ⟨#[]⟩), (.int .i64 0), (.int .i64 0), (.int .i64 0), (.int .i64 0), (.int .i64 0), (.int .i64 0), (.int .i64 0), (.int .i64 0), (.bool false)] 37) [] none [(3, .ld, [(.res 2)], none), (4, (.lda 2), [(.slot 4)], none), (5, (.lkp true [(.i .i64), (.i .i64)] (.agg #[(.int .i64 0), (.int .i64 0), (.int .i64 0), (.int .i64 0), (.int .i64 0), (.int .i64 0), (.int .i64 0), (.int .i64 0), (.string ⟨#[]⟩), (.string ⟨#[]⟩), (.string ⟨#[]⟩), (.string ⟨#[]⟩), (.int .i64 0), (.int .i64 0), (.int .i64 0), (.int .i64 0), (.int .i64 0), (.int .i64 0), (.int .i64 0), (.int .i64 0), (.bool false)]) true), [(.res 3), (.res 4)], none)]
    (.x 10 (.st 21) [(.res 9), (.res 7)] none []
    (.out [(0, (.slot 0)), (4, (.slot 4)), (5, (.slot 5)), (7, (.res 9)), (8, (.res 8))]))))))))))
    [0, 4, 5]
abbrev log_Log_Set_r4 : NC := .reg
    (.q 2 (.lda 21) [(.slot 7)] (some ((.slot 8), true))
    (.q 3 (.lda 21) [(.slot 5)] (some ((.slot 8), true))
    (.x 4 (.call 35) [(.res 2), (.res 3)] (some ((.slot 8), true)) []
    (.q 5 .not [(.res 4)] (some ((.slot 8), true))
    (.q 6 .pick [(.slot 8), (.res 5), (.const (.bool false))] none
    (.out [(0, (.slot 0)), (4, (.slot 4)), (5, (.slot 5)), (37, (.res 6))]))))))
    [0, 4, 5, 7, 8]
abbrev log_Log_Set_r5 : NC := .reg
    (.out [(6, (.const (.bool false)))])
    []
abbrev log_Log_Set_r6 : NC := .reg
    (.q 1 .nilck [(.slot 0)] none
    (.q 2 (.fld 0) [(.res 1)] none
    (.q 3 .ld [(.res 2)] none
    (.q 4 (.lda 2) [(.slot 4)] none
    (.q 5 (.lda 21) [(.slot 5)] none
    (.x 6 (.mup true [(.i .i64), (.i .i64)]) [(.res 3), (.res 4), (.res 5)] none []
    (.out [])))))))
    [0, 4, 5]
abbrev log_Log_Set_r7 : NC := .reg
    (.out [(6, (.const (.bool true)))])
    []
abbrev log_Log_Set_c : NC :=
  (.seq log_Log_Set_r0
  (.seq (.seq log_Log_Set_r1
  (.cond (.slot 21)
    (.seq log_Log_Set_r2
    .ret)
    .skip))
  (.seq (.seq log_Log_Set_r3
  (.seq log_Log_Set_r4
  (.cond (.slot 37)
    (.seq log_Log_Set_r5
    .ret)
    .skip)))
  (.seq log_Log_Set_r6
  (.seq log_Log_Set_r7
  .ret)))))
abbrev log_Log_Set_F : FN := ⟨log_Log_Set_c, [.slot 6]⟩
theorem log_Log_Set_ok : compF Try.prog Try.f10 = some log_Log_Set_F := by kernel_rfl
theorem log_Log_Set_go {args : List Value} {m : Mem} {R : Value → Mem → Prop} (hn : args.length ≤ Try.f10.ntmps) (h : wpN Try.prog log_Log_Set_c (retP log_Log_Set_F.rvs R) (zipP 0 args) m) : MC Try.prog 10 args m R := MC_start Try.func10 log_Log_Set_ok mixed_ok hn h
/-! (*concord/log.Log).Top -/
abbrev log_Log_Top_r0 : NC := .reg
    (.x 0 (.alc [(.int .i64 0), (.int .i64 0), (.int .i64 0), (.int .i64 0), (.int .i64 0), (.int .i64 0), (.int .i64 0)] 25) [] none []
    (.out [(0, (.slot 0)), (2, (.res 0))]))
    [0]
abbrev log_Log_Top_r1 : NC := .reg
    (.q 1 .nilck [(.slot 0)] none
    (.q 2 (.fld 1) [(.res 1)] none
    (.q 3 (.lda 7) [(.res 2)] none
    (.x 4 (.alc [(.int .i64 0), (.int .i64 0), (.int .i64 0), (.int .i64 0), (.int .i64 0), (.int .i64 0), (.int .i64 0)] 25) [] none []
    (.x 5 (.st 7) [(.res 4), (.res 3)] none []
    (.out [(0, (.slot 0)), (2, (.slot 2)), (3, (.res 4))]))))))
    [0, 2]
abbrev log_Log_Top_r2 : NC := .reg
    (.q 1 .nilck [(.slot 0)] none
    (.q 2 (.fld 0) [(.res 1)] none
    (.q 3 .ld [(.res 2)] none
    (.x 4 .rng [(.res 3)] none []
    (.out [(2, (.slot 2)), (3, (.slot 3)), (13, (.res 4))])))))
    [0, 2, 3]
abbrev log_Log_Top_r3 : NC := .reg
    (.x 0 .nxt [(.slot 13)] none []
    (.q 1 (.ext 0) [(.res 0)] none
    (.out [(2, (.slot 2)), (3, (.slot 3)), (13, (.slot 13)), (15, (.res 1))])))
    [2, 3, 13]
abbrev log_Log_Top_r4 : NC := .reg
    (.q 0 .ent [(.slot 13)] none
    (.q 1 (.ext 0) [(.res 0)] none
    (.x 2 (.alc [(.int .i64 0), (.int .i64 0)] 28) [] none []
    (.x 3 (.st 2) [(.res 2), (.res 1)] none []
    (.out [(2, (.slot 2)), (3, (.slot 3)), (4, (.res 2)), (13, (.slot 13))])))))
    [2, 3, 13]
abbrev log_Log_Top_r5 : NC := .reg
    (.q 0 (.fld 0) [(.slot 4)] none
    (.q 1 .ld [(.res 0)] none
    (.q 2 (.fld 0) [(.slot 4)] none
    (.q 3 .ld [(.res 2)] none
    (.q 4 (.ixa 7 1) [(.slot 3), (.res 3)] none
    (.q 5 .ld [(.res 4)] none
    (.q 6 (.fld 1) [(.slot 4)] none
    (.q 7 .ld [(.res 6)] none
    (.q 8 .mx [(.res 5), (.res 7)] none
    (.q 9 (.ixa 7 1) [(.slot 3), (.res 1)] none
    (.x 10 (.st 1) [(.res 9), (.res 8)] none []
    (.out [(2, (.slot 2)), (3, (.slot 3)), (13, (.slot 13))]))))))))))))
    [2, 3, 4, 13]
abbrev log_Log_Top_l0 : NC :=
  (.seq log_Log_Top_r3
  (.seq (.cond (.slot 15)
    .skip
    (.exit 0))
  (.block 1 (.seq log_Log_Top_r4
  log_Log_Top_r5))))
abbrev log_Log_Top_r6 : NC := .reg
    (.q 0 (.lda 7) [(.slot 3)] none
    (.x 1 (.st 7) [(.slot 2), (.res 0)] none []
    (.out [(2, (.slot 2))])))
    [2, 3]
abbrev log_Log_Top_c : NC :=
  (.seq log_Log_Top_r0
  (.seq log_Log_Top_r1
  (.seq (.seq log_Log_Top_r2
  (.block 0 (.loop [2, 3, 13] log_Log_Top_l0)))
  (.seq log_Log_Top_r6
  .ret))))
abbrev log_Log_Top_F : FN := ⟨log_Log_Top_c, [.cells 2 7]⟩
theorem log_Log_Top_ok : compF Try.prog Try.f12 = some log_Log_Top_F := by kernel_rfl
theorem log_Log_Top_go {args : List Value} {m : Mem} {R : Value → Mem → Prop} (hn : args.length ≤ Try.f12.ntmps) (h : wpN Try.prog log_Log_Top_c (retP log_Log_Top_F.rvs R) (zipP 0 args) m) : MC Try.prog 12 args m R := MC_start Try.func12 log_Log_Top_ok mixed_ok hn h
/-! (*concord/log.Log).Trim -/
abbrev log_Log_Trim_r0 : NC := .reg
    (.x 0 (.box 25) [(.slot 1)] none []
    (.out [(0, (.slot 0)), (3, (.res 0))]))
    [0, 1]
abbrev log_Log_Trim_r1 : NC := .reg
    (.q 0 (.lda 7) [(.slot 3)] none
    (.out [(0, (.slot 0)), (7, (.res 0)), (8, (.const (.int .i64 0)))]))
    [0, 3]
abbrev log_Log_Trim_r2 : NC := .reg
    (.q 0 (.icm .lss) [(.slot 8), (.const (.int .i64 7))] none
    (.out [(0, (.slot 0)), (7, (.slot 7)), (8, (.slot 8)), (9, (.res 0))]))
    [0, 7, 8]
abbrev log_Log_Trim_r3 : NC := .reg
    (.q 1 (.idx 7 1) [(.slot 7), (.slot 8)] none
    (.out [(0, (.slot 0)), (4, (.slot 8)), (5, (.res 1)), (7, (.slot 7)), (8, (.slot 8))]))
    [0, 7, 8]
abbrev log_Log_Trim_r4 : NC := .reg
    (.q 4 .nilck [(.slot 0)] none
    (.q 5 (.fld 1) [(.res 4)] none
    (.q 6 (.ixa 7 1) [(.res 5), (.slot 4)] none
    (.q 7 .ld [(.res 6)] none
    (.q 9 .mx [(.slot 5), (.const (.int .i64 0))] none
    (.q 10 .mn [(.res 9), (.const (.int .i64 1073741824))] none
    (.q 11 .mx [(.res 7), (.res 10)] none
    (.q 12 .nilck [(.slot 0)] none
    (.q 13 (.fld 1) [(.res 12)] none
    (.q 14 (.ixa 7 1) [(.res 13), (.slot 4)] none
    (.x 15 (.st 1) [(.res 14), (.res 11)] none []
    (.out [(0, (.slot 0)), (7, (.slot 7)), (8, (.slot 8))]))))))))))))
    [0, 4, 5, 7, 8]
abbrev log_Log_Trim_r5 : NC := .reg
    (.q 0 (.iar .add) [(.slot 8), (.const (.int .i64 1))] none
    (.out [(0, (.slot 0)), (7, (.slot 7)), (8, (.res 0))]))
    [0, 7, 8]
abbrev log_Log_Trim_l0 : NC :=
  (.seq log_Log_Trim_r2
  (.seq (.cond (.slot 9)
    .skip
    (.exit 0))
  (.seq (.block 1 (.seq log_Log_Trim_r3
  log_Log_Trim_r4))
  log_Log_Trim_r5)))
abbrev log_Log_Trim_r6 : NC := .reg
    (.q 1 .nilck [(.slot 0)] none
    (.q 2 (.fld 0) [(.res 1)] none
    (.q 3 .ld [(.res 2)] none
    (.x 4 .rng [(.res 3)] none []
    (.out [(0, (.slot 0)), (32, (.res 4))])))))
    [0]
abbrev log_Log_Trim_r7 : NC := .reg
    (.x 0 .nxt [(.slot 32)] none []
    (.q 1 (.ext 0) [(.res 0)] none
    (.out [(0, (.slot 0)), (32, (.slot 32)), (34, (.res 1))])))
    [0, 32]
abbrev log_Log_Trim_r8 : NC := .reg
    (.q 0 .ent [(.slot 32)] none
    (.q 1 (.ext 0) [(.res 0)] none
    (.x 2 (.alc [(.int .i64 0), (.int .i64 0)] 28) [] none []
    (.x 3 (.st 2) [(.res 2), (.res 1)] none []
    (.out [(0, (.slot 0)), (6, (.res 2)), (32, (.slot 32))])))))
    [0, 32]
abbrev log_Log_Trim_r9 : NC := .reg
    (.q 1 (.lda 2) [(.slot 6)] none
    (.x 2 (.call 15) [(.slot 0), (.res 1)] none []
    (.out [(0, (.slot 0)), (6, (.slot 6)), (32, (.slot 32)), (39, (.res 2))])))
    [0, 6, 32]
abbrev log_Log_Trim_r10 : NC := .reg
    (.q 1 .nilck [(.slot 0)] none
    (.q 2 (.fld 0) [(.res 1)] none
    (.q 3 .ld [(.res 2)] none
    (.q 4 (.lda 2) [(.slot 6)] none
    (.x 5 (.dlt true [(.i .i64), (.i .i64)]) [(.res 3), (.res 4)] none []
    (.out [(0, (.slot 0)), (32, (.slot 32))]))))))
    [0, 6, 32]
abbrev log_Log_Trim_l1 : NC :=
  (.seq log_Log_Trim_r7
  (.seq (.cond (.slot 34)
    .skip
    (.exit 2))
  (.block 3 (.seq log_Log_Trim_r8
  (.seq log_Log_Trim_r9
  (.cond (.slot 39)
    log_Log_Trim_r10
    .skip))))))
abbrev log_Log_Trim_c : NC :=
  (.seq log_Log_Trim_r0
  (.seq (.seq log_Log_Trim_r1
  (.block 0 (.loop [0, 7, 8] log_Log_Trim_l0)))
  (.seq log_Log_Trim_r6
  (.block 2 (.loop [0, 32] log_Log_Trim_l1)))))
abbrev log_Log_Trim_F : FN := ⟨log_Log_Trim_c, []⟩
theorem log_Log_Trim_ok : compF Try.prog Try.f13 = some log_Log_Trim_F := by kernel_rfl
theorem log_Log_Trim_go {args : List Value} {m : Mem} {R : Value → Mem → Prop} (hn : args.length ≤ Try.f13.ntmps) (h : wpN Try.prog log_Log_Trim_c (retP log_Log_Trim_F.rvs R) (zipP 0 args) m) : MC Try.prog 13 args m R := MC_start Try.func13 log_Log_Trim_ok mixed_ok hn h
/-! (*concord/log.Log).List -/
abbrev log_Log_List_r0 : NC := .reg
    (.out [(0, (.slot 0))])
    [0]
abbrev log_Log_List_r1 : NC := .reg
    (.out [(0, (.slot 0)), (3, (.const (.slice none 0 0)))])
    [0]
abbrev log_Log_List_r2 : NC := .reg
    (.q 1 .nilck [(.slot 0)] none
    (.q 2 (.fld 0) [(.res 1)] none
    (.q 3 .ld [(.res 2)] none
    (.x 4 .rng [(.res 3)] none []
    (.out [(3, (.slot 3)), (9, (.res 4))])))))
    [0, 3]
abbrev log_Log_List_r3 : NC := .reg
    (.x 0 .nxt [(.slot 9)] none []
    (.q 1 (.ext 0) [(.res 0)] none
    (.out [(3, (.slot 3)), (9, (.slot 9)), (11, (.res 1))])))
    [3, 9]
abbrev log_Log_List_r4 : NC := .reg
    (.q 0 .ent [(.slot 9)] none
    (.q 1 (.ext 0) [(.res 0)] none
    (.x 2 (.alc [(.int .i64 0), (.int .i64 0)] 28) [] none []
    (.x 3 (.st 2) [(.res 2), (.res 1)] none []
    (.out [(3, (.slot 3)), (4, (.res 2)), (9, (.slot 9))])))))
    [3, 9]
abbrev log_Log_List_r5 : NC := .reg
    (.q 1 (.lda 2) [(.slot 4)] none
    (.x 2 (.bsl 28 1 [(.int .i64 0), (.int .i64 0)] [(0, 2)]) [(.res 1)] none []
    (.x 3 (.app 28 2 16 [(.int .i64 0), (.int .i64 0)]) [(.slot 3), (.res 2)] none []
    (.out [(3, (.res 3)), (9, (.slot 9))]))))
    [3, 4, 9]
abbrev log_Log_List_l0 : NC :=
  (.seq log_Log_List_r3
  (.seq (.cond (.slot 11)
    .skip
    (.exit 0))
  (.block 1 (.seq log_Log_List_r4
  log_Log_List_r5))))
abbrev log_Log_List_r6 : NC := .reg
    (.x 1 (.call 36) [(.slot 3), (.fn 37)] none []
    (.out [(3, (.slot 3))]))
    [3]
abbrev log_Log_List_r7 : NC := .reg
    (.out [(2, (.slot 3))])
    [3]
abbrev log_Log_List_c : NC :=
  (.seq log_Log_List_r0
  (.seq log_Log_List_r1
  (.seq (.seq log_Log_List_r2
  (.block 0 (.loop [3, 9] log_Log_List_l0)))
  (.seq log_Log_List_r6
  (.seq log_Log_List_r7
  .ret)))))
abbrev log_Log_List_F : FN := ⟨log_Log_List_c, [.slot 2]⟩
theorem log_Log_List_ok : compF Try.prog Try.f14 = some log_Log_List_F := by kernel_rfl
theorem log_Log_List_go {args : List Value} {m : Mem} {R : Value → Mem → Prop} (hn : args.length ≤ Try.f14.ntmps) (h : wpN Try.prog log_Log_List_c (retP log_Log_List_F.rvs R) (zipP 0 args) m) : MC Try.prog 14 args m R := MC_start Try.func14 log_Log_List_ok mixed_ok hn h
/-! (*concord/log.Log).Gone -/
abbrev log_Log_Gone_r0 : NC := .reg
    (.x 0 (.box 28) [(.slot 1)] none []
    (.out [(0, (.slot 0)), (3, (.res 0))]))
    [0, 1]
abbrev log_Log_Gone_r1 : NC := .reg
    (.q 0 (.lda 2) [(.slot 3)] none
    (.x 1 (.call 33) [(.res 0)] none []
    (.q 3 (.fld 1) [(.slot 3)] (some ((.res 1), true))
    (.q 4 .ld [(.res 3)] (some ((.res 1), true))
    (.q 5 .mv [(.slot 0)] (some ((.res 1), true))
    (.q 6 (.fld 0) [(.slot 3)] (some ((.res 1), true))
    (.q 7 .ld [(.res 6)] (some ((.res 1), true))
    (.q 8 .nilck [(.res 5)] (some ((.res 1), true))
    (.q 9 (.fld 1) [(.res 8)] (some ((.res 1), true))
    (.q 10 (.ixa 7 1) [(.res 9), (.res 7)] (some ((.res 1), true))
    (.q 11 .ld [(.res 10)] (some ((.res 1), true))
    (.q 12 (.icm .leq) [(.res 4), (.res 11)] (some ((.res 1), true))
    (.q 13 .pick [(.res 1), (.res 12), (.const (.bool false))] none
    (.out [(4, (.res 13))]))))))))))))))
    [0, 3]
abbrev log_Log_Gone_c : NC :=
  (.seq log_Log_Gone_r0
  (.seq log_Log_Gone_r1
  .ret))
abbrev log_Log_Gone_F : FN := ⟨log_Log_Gone_c, [.slot 4]⟩
theorem log_Log_Gone_ok : compF Try.prog Try.f15 = some log_Log_Gone_F := by kernel_rfl
theorem log_Log_Gone_go {args : List Value} {m : Mem} {R : Value → Mem → Prop} (hn : args.length ≤ Try.f15.ntmps) (h : wpN Try.prog log_Log_Gone_c (retP log_Log_Gone_F.rvs R) (zipP 0 args) m) : MC Try.prog 15 args m R := MC_start Try.func15 log_Log_Gone_ok mixed_ok hn h
/-! (*concord/log.Log).Cut -/
abbrev log_Log_Cut_r0 : NC := .reg
    (.x 0 (.alc [(.int .i64 0), (.int .i64 0), (.int .i64 0), (.int .i64 0), (.int .i64 0), (.int .i64 0), (.int .i64 0)] 25) [] none []
    (.out [(0, (.slot 0)), (2, (.res 0))]))
    [0]
abbrev log_Log_Cut_r1 : NC := .reg
    (.q 1 .nilck [(.slot 0)] none
    (.q 2 (.fld 1) [(.res 1)] none
    (.q 3 (.lda 7) [(.res 2)] none
    (.x 4 (.st 7) [(.slot 2), (.res 3)] none []
    (.out [(2, (.slot 2))])))))
    [0, 2]
abbrev log_Log_Cut_c : NC :=
  (.seq log_Log_Cut_r0
  (.seq log_Log_Cut_r1
  .ret))
abbrev log_Log_Cut_F : FN := ⟨log_Log_Cut_c, [.cells 2 7]⟩
theorem log_Log_Cut_ok : compF Try.prog Try.f17 = some log_Log_Cut_F := by kernel_rfl
theorem log_Log_Cut_go {args : List Value} {m : Mem} {R : Value → Mem → Prop} (hn : args.length ≤ Try.f17.ntmps) (h : wpN Try.prog log_Log_Cut_c (retP log_Log_Cut_F.rvs R) (zipP 0 args) m) : MC Try.prog 17 args m R := MC_start Try.func17 log_Log_Cut_ok mixed_ok hn h
/-! (*concord/log.Log).Cell -/
abbrev log_Log_Cell_r0 : NC := .reg
    (.x 0 (.box 28) [(.slot 1)] none []
    (.x 1 (.alc [(.int .i64 0), (.int .i64 0), (.int .i64 0), (.int .i64 0), (.int .i64 0), (.int .i64 0), (.int .i64 0), (.int .i64 0), (.string ⟨#[]⟩), (.string ⟨#[]⟩), (.string ⟨#[]⟩), (.string ⟨#[]⟩), (.int .i64 0), (.int .i64 0), (.int .i64 0), (.int .i64 0), (.int .i64 0), (.int .i64 0), (.int .i64 0), (.int .i64 0), (.bool false)] 37) [] none []
    (.out [(0, (.slot 0)), (3, (.res 0)), (4, (.res 1))])))
    [0, 1]
abbrev log_Log_Cell_r1 : NC := .reg
    (.q 1 .nilck [(.slot 0)] none
    (.q 2 (.fld 0) [(.res 1)] none
    (.q 3 .ld [(.res 2)] none
    (.q 4 (.lda 2) [(.slot 3)] none
    (.q 5 (.lkp true [(.i .i64), (.i .i64)] (.agg #[(.int .i64 0), (.int .i64 0), (.int .i64 0), (.int .i64 0), (.int .i64 0), (.int .i64 0), (.int .i64 0), (.int .i64 0), (.string ⟨#[]⟩), (.string ⟨#[]⟩), (.string ⟨#[]⟩), (.string ⟨#[]⟩), (.int .i64 0), (.int .i64 0), (.int .i64 0), (.int .i64 0), (.int .i64 0), (.int .i64 0), (.int .i64 0), (.int .i64 0), (.bool false)]) true) [(.res 3), (.res 4)] none
    (.q 7 (.ext 0) [(.res 5)] none
    (.q 8 (.ext 1) [(.res 5)] none
    (.x 9 (.alc [(.int .i64 0), (.int .i64 0), (.int .i64 0), (.int .i64 0), (.int .i64 0), (.int .i64 0), (.int .i64 0), (.int .i64 0), (.string ⟨#[]⟩), (.string ⟨#[]⟩), (.string ⟨#[]⟩), (.string ⟨#[]⟩), (.int .i64 0), (.int .i64 0), (.int .i64 0), (.int .i64 0), (.int .i64 0), (.int .i64 0), (.int .i64 0), (.int .i64 0), (.bool false)] 37) [] none [(3, .ld, [(.res 2)], none), (4, (.lda 2), [(.slot 3)], none), (5, (.lkp true [(.i .i64), (.i .i64)] (.agg #[(.int .i64 0), (.int .i64 0), (.int .i64 0), (.int .i64 0), (.int .i64 0), (.int .i64 0), (.int .i64 0), (.int .i64 0), (.string ⟨#[]⟩), (.string ⟨#[]⟩), (.string ⟨#[]⟩), (.string ⟨#[]⟩), (.int .i64 0), (.int .i64 0), (.int .i64 0), (.int .i64 0), (.int .i64 0), (.int .i64 0), (.int .i64 0), (.int .i64 0), (.bool false)]) true), [(.res 3), (.res 4)], none)]
    (.x 10 (.st 21) [(.res 9), (.res 7)] none []
    (.out [(4, (.slot 4)), (6, (.res 9)), (7, (.res 8))]))))))))))
    [0, 3, 4]
abbrev log_Log_Cell_r2 : NC := .reg
    (.q 1 .not [(.slot 7)] none
    (.out [(4, (.slot 4)), (6, (.slot 6)), (18, (.res 1))]))
    [4, 6, 7]
abbrev log_Log_Cell_r3 : NC := .reg
    (.q 0 (.bld [(.int .i64 0), (.int .i64 0), (.int .i64 0), (.int .i64 0), (.int .i64 0), (.int .i64 0), (.int .i64 0), (.int .i64 0), (.string ⟨#[]⟩), (.string ⟨#[]⟩), (.string ⟨#[]⟩), (.string ⟨#[]⟩), (.int .i64 0), (.int .i64 0), (.int .i64 0), (.int .i64 0), (.int .i64 0), (.int .i64 0), (.int .i64 0), (.int .i64 0), (.bool false)] []) [] none
    (.x 1 (.st 21) [(.slot 4), (.res 0)] none []
    (.out [(4, (.slot 4)), (5, (.const (.bool false)))])))
    [4]
abbrev log_Log_Cell_r4 : NC := .reg
    (.q 0 (.lda 21) [(.slot 6)] none
    (.x 1 (.st 21) [(.slot 4), (.res 0)] none []
    (.out [(4, (.slot 4)), (5, (.const (.bool true)))])))
    [4, 6]
abbrev log_Log_Cell_c : NC :=
  (.seq log_Log_Cell_r0
  (.seq log_Log_Cell_r1
  (.seq (.seq log_Log_Cell_r2
  (.cond (.slot 18)
    (.seq log_Log_Cell_r3
    .ret)
    .skip))
  (.seq log_Log_Cell_r4
  .ret))))
abbrev log_Log_Cell_F : FN := ⟨log_Log_Cell_c, [.cells 4 21, .slot 5]⟩
theorem log_Log_Cell_ok : compF Try.prog Try.f19 = some log_Log_Cell_F := by kernel_rfl
theorem log_Log_Cell_go {args : List Value} {m : Mem} {R : Value → Mem → Prop} (hn : args.length ≤ Try.f19.ntmps) (h : wpN Try.prog log_Log_Cell_c (retP log_Log_Cell_F.rvs R) (zipP 0 args) m) : MC Try.prog 19 args m R := MC_start Try.func19 log_Log_Cell_ok mixed_ok hn h
/-! concord/log.Replay -/
abbrev log_Replay_r0 : NC := .reg
    (.x 0 (.alc [(.int .i64 0), (.int .i64 0)] 28) [] none []
    (.x 1 (.alc [(.int .i64 0), (.int .i64 0), (.int .i64 0), (.int .i64 0), (.int .i64 0), (.int .i64 0), (.int .i64 0), (.int .i64 0), (.string ⟨#[]⟩), (.string ⟨#[]⟩), (.string ⟨#[]⟩), (.string ⟨#[]⟩), (.int .i64 0), (.int .i64 0), (.int .i64 0), (.int .i64 0), (.int .i64 0), (.int .i64 0), (.int .i64 0), (.int .i64 0), (.bool false)] 37) [] none []
    (.out [(0, (.slot 0)), (2, (.res 0)), (3, (.res 1))])))
    [0]
abbrev log_Replay_r1 : NC := .reg
    (.x 1 (.call 43) [(.slot 0)] none []
    (.out [(2, (.slot 2)), (3, (.slot 3)), (5, (.res 1))]))
    [0, 2, 3]
abbrev log_Replay_r2 : NC := .reg
    (.x 0 (.alc [(.int .i64 0), (.int .i64 0)] 28) [] none []
    (.out [(2, (.slot 2)), (3, (.slot 3)), (5, (.slot 5)), (6, (.res 0))]))
    [2, 3, 5]
abbrev log_Replay_r3 : NC := .reg
    (.x 1 (.call 44) [(.slot 5)] none []
    (.q 2 (.fld 0) [(.slot 6)] none
    (.x 3 (.st 1) [(.res 2), (.res 1)] none []
    (.out [(2, (.slot 2)), (3, (.slot 3)), (5, (.slot 5)), (6, (.slot 6))]))))
    [2, 3, 5, 6]
abbrev log_Replay_r4 : NC := .reg
    (.x 1 (.call 44) [(.slot 5)] none []
    (.q 2 (.fld 1) [(.slot 6)] none
    (.x 3 (.st 1) [(.res 2), (.res 1)] none []
    (.out [(2, (.slot 2)), (3, (.slot 3)), (5, (.slot 5)), (6, (.slot 6))]))))
    [2, 3, 5, 6]
abbrev log_Replay_r5 : NC := .reg
    (.x 1 (.call 45) [(.slot 5)] none []
    (.x 2 (.alc [(.int .i64 0), (.int .i64 0), (.int .i64 0), (.int .i64 0), (.int .i64 0), (.int .i64 0), (.int .i64 0), (.int .i64 0), (.string ⟨#[]⟩), (.string ⟨#[]⟩), (.string ⟨#[]⟩), (.string ⟨#[]⟩), (.int .i64 0), (.int .i64 0), (.int .i64 0), (.int .i64 0), (.int .i64 0), (.int .i64 0), (.int .i64 0), (.int .i64 0), (.bool false)] 37) [] none []
    (.x 3 (.st 21) [(.res 2), (.res 1)] none []
    (.out [(2, (.slot 2)), (3, (.slot 3)), (5, (.slot 5)), (6, (.slot 6)), (7, (.res 2))]))))
    [2, 3, 5, 6]
abbrev log_Replay_r6 : NC := .reg
    (.x 1 (.call 46) [(.slot 5)] none []
    (.out [(2, (.slot 2)), (3, (.slot 3)), (6, (.slot 6)), (7, (.slot 7)), (8, (.res 1))]))
    [2, 3, 5, 6, 7]
abbrev log_Replay_r7 : NC := .reg
    (.q 1 (.icm .neq) [(.slot 8), (.const (.int .i64 0))] none
    (.out [(2, (.slot 2)), (3, (.slot 3)), (6, (.slot 6)), (7, (.slot 7)), (8, (.slot 8)), (22, (.res 1))]))
    [2, 3, 6, 7, 8]
abbrev log_Replay_r8 : NC := .reg
    (.q 0 (.bld [(.int .i64 0), (.int .i64 0)] []) [] none
    (.q 1 (.bld [(.int .i64 0), (.int .i64 0), (.int .i64 0), (.int .i64 0), (.int .i64 0), (.int .i64 0), (.int .i64 0), (.int .i64 0), (.string ⟨#[]⟩), (.string ⟨#[]⟩), (.string ⟨#[]⟩), (.string ⟨#[]⟩), (.int .i64 0), (.int .i64 0), (.int .i64 0), (.int .i64 0), (.int .i64 0), (.int .i64 0), (.int .i64 0), (.int .i64 0), (.bool false)] []) [] none
    (.x 3 (.st 2) [(.slot 2), (.res 0)] none []
    (.x 4 (.st 21) [(.slot 3), (.res 1)] none []
    (.out [(2, (.slot 2)), (3, (.slot 3)), (4, (.slot 8))])))))
    [2, 3, 8]
abbrev log_Replay_r9 : NC := .reg
    (.q 0 (.lda 2) [(.slot 6)] none
    (.x 1 (.call 33) [(.res 0)] none []
    (.q 2 .not [(.res 1)] none
    (.out [(2, (.slot 2)), (3, (.slot 3)), (6, (.slot 6)), (7, (.slot 7)), (28, (.res 2))]))))
    [2, 3, 6, 7]
abbrev log_Replay_r10 : NC := .reg
    (.q 0 (.bld [(.int .i64 0), (.int .i64 0)] []) [] none
    (.q 1 (.bld [(.int .i64 0), (.int .i64 0), (.int .i64 0), (.int .i64 0), (.int .i64 0), (.int .i64 0), (.int .i64 0), (.int .i64 0), (.string ⟨#[]⟩), (.string ⟨#[]⟩), (.string ⟨#[]⟩), (.string ⟨#[]⟩), (.int .i64 0), (.int .i64 0), (.int .i64 0), (.int .i64 0), (.int .i64 0), (.int .i64 0), (.int .i64 0), (.int .i64 0), (.bool false)] []) [] none
    (.x 2 (.st 2) [(.slot 2), (.res 0)] none []
    (.x 3 (.st 21) [(.slot 3), (.res 1)] none []
    (.out [(2, (.slot 2)), (3, (.slot 3)), (4, (.const (.int .i64 4)))])))))
    [2, 3]
abbrev log_Replay_r11 : NC := .reg
    (.q 0 (.lda 2) [(.slot 6)] none
    (.q 1 (.lda 21) [(.slot 7)] none
    (.x 2 (.st 2) [(.slot 2), (.res 0)] none [(1, (.lda 21), [(.slot 7)], none)]
    (.x 3 (.st 21) [(.slot 3), (.res 1)] none []
    (.out [(2, (.slot 2)), (3, (.slot 3)), (4, (.const (.int .i64 0)))])))))
    [2, 3, 6, 7]
abbrev log_Replay_c : NC :=
  (.seq log_Replay_r0
  (.seq log_Replay_r1
  (.seq log_Replay_r2
  (.seq log_Replay_r3
  (.seq log_Replay_r4
  (.seq log_Replay_r5
  (.seq (.seq log_Replay_r6
  (.seq log_Replay_r7
  (.cond (.slot 22)
    (.seq log_Replay_r8
    .ret)
    .skip)))
  (.seq (.seq log_Replay_r9
  (.cond (.slot 28)
    (.seq log_Replay_r10
    .ret)
    .skip))
  (.seq log_Replay_r11
  .ret)))))))))
abbrev log_Replay_F : FN := ⟨log_Replay_c, [.cells 2 2, .cells 3 21, .slot 4]⟩
theorem log_Replay_ok : compF Try.prog Try.f26 = some log_Replay_F := by kernel_rfl
theorem log_Replay_go {args : List Value} {m : Mem} {R : Value → Mem → Prop} (hn : args.length ≤ Try.f26.ntmps) (h : wpN Try.prog log_Replay_c (retP log_Replay_F.rvs R) (zipP 0 args) m) : MC Try.prog 26 args m R := MC_start Try.func26 log_Replay_ok mixed_ok hn h
/-! concord/log.Record -/
abbrev log_Record_r0 : NC := .reg
    (.x 0 (.box 28) [(.slot 0)] none []
    (.x 1 (.box 37) [(.slot 1)] none []
    (.out [(2, (.res 0)), (3, (.res 1))])))
    [0, 1]
abbrev log_Record_r1 : NC := .reg
    (.q 0 (.fld 0) [(.slot 2)] none
    (.q 1 .ld [(.res 0)] none
    (.q 3 (.fld 1) [(.slot 2)] none
    (.q 4 .ld [(.res 3)] none
    (.q 6 (.lda 21) [(.slot 3)] none
    (.x 2 (.call 55) [(.const (.slice none 0 0)), (.res 1)] none [(4, .ld, [(.res 3)], none), (6, (.lda 21), [(.slot 3)], none)]
    (.x 5 (.call 55) [(.res 2), (.res 4)] none [(6, (.lda 21), [(.slot 3)], none)]
    (.x 7 (.call 54) [(.res 5), (.res 6)] none []
    (.out [(4, (.res 7))])))))))))
    [2, 3]
abbrev log_Record_c : NC :=
  (.seq log_Record_r0
  (.seq log_Record_r1
  .ret))
abbrev log_Record_F : FN := ⟨log_Record_c, [.slot 4]⟩
theorem log_Record_ok : compF Try.prog Try.f30 = some log_Record_F := by kernel_rfl
theorem log_Record_go {args : List Value} {m : Mem} {R : Value → Mem → Prop} (hn : args.length ≤ Try.f30.ntmps) (h : wpN Try.prog log_Record_c (retP log_Record_F.rvs R) (zipP 0 args) m) : MC Try.prog 30 args m R := MC_start Try.func30 log_Record_ok mixed_ok hn h
/-! concord/log.may -/
abbrev log_may_r0 : NC := .reg
    (.x 0 (.box 37) [(.slot 0)] none []
    (.x 1 (.box 37) [(.slot 1)] none []
    (.out [(2, (.res 0)), (3, (.res 1))])))
    [0, 1]
abbrev log_may_r1 : NC := .reg
    (.q 0 (.fld 0) [(.slot 2)] none
    (.q 1 .ld [(.res 0)] none
    (.q 2 (.icm .eql) [(.res 1), (.const (.int .i64 3))] none
    (.q 4 (.fld 0) [(.slot 3)] (some ((.res 2), true))
    (.q 5 .ld [(.res 4)] (some ((.res 2), true))
    (.q 6 (.icm .neq) [(.res 5), (.const (.int .i64 3))] (some ((.res 2), true))
    (.q 7 .mv [(.res 6)] (some ((.res 2), true))
    (.q 8 (.fld 5) [(.slot 3)] (some ((.res 7), false))
    (.q 9 (.lda 7) [(.res 8)] (some ((.res 7), false))
    (.q 10 (.fld 5) [(.slot 2)] (some ((.res 7), false))
    (.q 11 (.lda 7) [(.res 10)] (some ((.res 7), false))
    (.q 12 (.eqc true [(.i .i64), (.i .i64), (.i .i64), .s, .s, .s, .s]) [(.res 9), (.res 11)] (some ((.res 7), false))
    (.q 13 .pick [(.res 7), (.const (.bool true)), (.res 12)] (some ((.res 2), true))
    (.q 14 .mv [(.res 13)] (some ((.res 2), true))
    (.q 15 (.fld 12) [(.slot 3)] (some ((.res 14), false))
    (.q 16 (.lda 8) [(.res 15)] (some ((.res 14), false))
    (.q 17 (.fld 12) [(.slot 2)] (some ((.res 14), false))
    (.q 18 (.lda 8) [(.res 17)] (some ((.res 14), false))
    (.q 19 (.eqc true [(.i .i64), (.i .i64), (.i .i64), (.i .i64), (.i .i64), (.i .i64), (.i .i64), (.i .i64)]) [(.res 16), (.res 18)] (some ((.res 14), false))
    (.q 20 .pick [(.res 14), (.const (.bool true)), (.res 19)] (some ((.res 2), true))
    (.q 21 .pick [(.res 2), (.res 20), (.const (.bool false))] none
    (.out [(2, (.slot 2)), (3, (.slot 3)), (26, (.res 21))]))))))))))))))))))))))
    [2, 3]
abbrev log_may_r2 : NC := .reg
    (.out [(4, (.const (.bool false)))])
    []
abbrev log_may_r3 : NC := .reg
    (.q 0 (.fld 1) [(.slot 3)] none
    (.q 1 (.lda 2) [(.res 0)] none
    (.q 2 (.fld 1) [(.slot 2)] none
    (.q 3 (.lda 2) [(.res 2)] none
    (.x 4 (.call 20) [(.res 1), (.res 3)] none []
    (.q 6 (.fld 3) [(.slot 3)] (some ((.res 4), false))
    (.q 7 (.lda 2) [(.res 6)] (some ((.res 4), false))
    (.q 8 (.fld 3) [(.slot 2)] (some ((.res 4), false))
    (.q 9 (.lda 2) [(.res 8)] (some ((.res 4), false))
    (.x 10 (.call 20) [(.res 7), (.res 9)] (some ((.res 4), false)) []
    (.q 11 .pick [(.res 4), (.const (.bool true)), (.res 10)] none
    (.out [(2, (.slot 2)), (3, (.slot 3)), (38, (.res 11))]))))))))))))
    [2, 3]
abbrev log_may_r4 : NC := .reg
    (.out [(4, (.const (.bool false)))])
    []
abbrev log_may_r5 : NC := .reg
    (.q 0 (.fld 0) [(.slot 3)] none
    (.q 1 .ld [(.res 0)] none
    (.q 2 (.fld 0) [(.slot 2)] none
    (.q 3 .ld [(.res 2)] none
    (.q 4 (.icm .geq) [(.res 1), (.res 3)] none
    (.q 6 (.fld 3) [(.slot 3)] (some ((.res 4), false))
    (.q 7 (.lda 2) [(.res 6)] (some ((.res 4), false))
    (.q 8 (.fld 3) [(.slot 2)] (some ((.res 4), false))
    (.q 9 (.lda 2) [(.res 8)] (some ((.res 4), false))
    (.q 10 (.eqc true [(.i .i64), (.i .i64)]) [(.res 7), (.res 9)] (some ((.res 4), false))
    (.q 11 .pick [(.res 4), (.const (.bool true)), (.res 10)] none
    (.out [(4, (.res 11))]))))))))))))
    [2, 3]
abbrev log_may_c : NC :=
  (.seq log_may_r0
  (.seq (.seq log_may_r1
  (.cond (.slot 26)
    (.seq log_may_r2
    .ret)
    .skip))
  (.seq (.seq log_may_r3
  (.cond (.slot 38)
    (.seq log_may_r4
    .ret)
    .skip))
  (.seq log_may_r5
  .ret))))
abbrev log_may_F : FN := ⟨log_may_c, [.slot 4]⟩
theorem log_may_ok : compF Try.prog Try.f35 = some log_may_F := by kernel_rfl
theorem log_may_go {args : List Value} {m : Mem} {R : Value → Mem → Prop} (hn : args.length ≤ Try.f35.ntmps) (h : wpN Try.prog log_may_c (retP log_may_F.rvs R) (zipP 0 args) m) : MC Try.prog 35 args m R := MC_start Try.func35 log_may_ok mixed_ok hn h
/-! slices.SortFunc[[]concord/api.Inst,concord/api.Inst] -/
abbrev slices_SortFunc_api_Inst_api_Inst_r0 : NC := .reg
    (.q 1 .len [(.slot 0)] none
    (.out [(0, (.slot 0)), (1, (.slot 1)), (4, (.res 1))]))
    [0, 1]
abbrev slices_SortFunc_api_Inst_api_Inst_r1 : NC := .reg
    (.q 3 (.conv .u64) [(.slot 4)] none
    (.x 4 (.call 62) [(.res 3)] none []
    (.x 6 (.call 61) [(.slot 0), (.const (.int .i64 0)), (.slot 4), (.res 4), (.slot 1)] none []
    (.out []))))
    [0, 1, 4]
abbrev slices_SortFunc_api_Inst_api_Inst_c : NC :=
  (.seq slices_SortFunc_api_Inst_api_Inst_r0
  slices_SortFunc_api_Inst_api_Inst_r1)
abbrev slices_SortFunc_api_Inst_api_Inst_F : FN := ⟨slices_SortFunc_api_Inst_api_Inst_c, []⟩
theorem slices_SortFunc_api_Inst_api_Inst_ok : compF Try.prog Try.f36 = some slices_SortFunc_api_Inst_api_Inst_F := by kernel_rfl
theorem slices_SortFunc_api_Inst_api_Inst_go {args : List Value} {m : Mem} {R : Value → Mem → Prop} (hn : args.length ≤ Try.f36.ntmps) (h : wpN Try.prog slices_SortFunc_api_Inst_api_Inst_c (retP slices_SortFunc_api_Inst_api_Inst_F.rvs R) (zipP 0 args) m) : MC Try.prog 36 args m R := MC_start Try.func36 slices_SortFunc_api_Inst_api_Inst_ok mixed_ok hn h
/-! (*concord/log.Log).List$1 -/
abbrev log_Log_List_c1_r0 : NC := .reg
    (.x 0 (.box 28) [(.slot 0)] none []
    (.x 1 (.box 28) [(.slot 1)] none []
    (.out [(2, (.res 0)), (3, (.res 1))])))
    [0, 1]
abbrev log_Log_List_c1_r1 : NC := .reg
    (.q 0 (.lda 2) [(.slot 2)] none
    (.q 1 (.lda 2) [(.slot 3)] none
    (.x 2 (.call 38) [(.res 0), (.res 1)] none []
    (.out [(7, (.res 2))]))))
    [2, 3]
abbrev log_Log_List_c1_r2 : NC := .reg
    (.out [(4, (.const (.int .i64 (-1))))])
    []
abbrev log_Log_List_c1_r3 : NC := .reg
    (.out [(4, (.const (.int .i64 1)))])
    []
abbrev log_Log_List_c1_c : NC :=
  (.seq log_Log_List_c1_r0
  (.seq (.seq log_Log_List_c1_r1
  (.cond (.slot 7)
    (.seq log_Log_List_c1_r2
    .ret)
    .skip))
  (.seq log_Log_List_c1_r3
  .ret)))
abbrev log_Log_List_c1_F : FN := ⟨log_Log_List_c1_c, [.slot 4]⟩
theorem log_Log_List_c1_ok : compF Try.prog Try.f37 = some log_Log_List_c1_F := by kernel_rfl
theorem log_Log_List_c1_go {args : List Value} {m : Mem} {R : Value → Mem → Prop} (hn : args.length ≤ Try.f37.ntmps) (h : wpN Try.prog log_Log_List_c1_c (retP log_Log_List_c1_F.rvs R) (zipP 0 args) m) : MC Try.prog 37 args m R := MC_start Try.func37 log_Log_List_c1_ok mixed_ok hn h
/-! slices.pdqsortCmpFunc[concord/api.Inst] -/
abbrev slices_pdqsortCmpFunc_api_Inst_r0 : NC := .reg
    (.out [(0, (.slot 0)), (1, (.slot 1)), (2, (.slot 2)), (3, (.slot 3)), (4, (.slot 4)), (10, (.const (.bool true)))])
    [0, 1, 2, 3, 4]
abbrev slices_pdqsortCmpFunc_api_Inst_r1 : NC := .reg
    (.out [(0, (.slot 0)), (1, (.slot 1)), (2, (.slot 2)), (3, (.slot 3)), (4, (.slot 4)), (10, (.slot 10)), (11, (.const (.bool true)))])
    [0, 1, 2, 3, 4, 10]
abbrev slices_pdqsortCmpFunc_api_Inst_r2 : NC := .reg
    (.q 2 (.iar .sub) [(.slot 2), (.slot 1)] none
    (.out [(0, (.slot 0)), (1, (.slot 1)), (2, (.slot 2)), (3, (.slot 3)), (4, (.slot 4)), (10, (.slot 10)), (11, (.slot 11)), (12, (.res 2))]))
    [0, 1, 2, 3, 4, 10, 11]
abbrev slices_pdqsortCmpFunc_api_Inst_r3 : NC := .reg
    (.q 1 (.icm .leq) [(.slot 12), (.const (.int .i64 12))] none
    (.out [(0, (.slot 0)), (1, (.slot 1)), (2, (.slot 2)), (3, (.slot 3)), (4, (.slot 4)), (10, (.slot 10)), (11, (.slot 11)), (12, (.slot 12)), (25, (.res 1))]))
    [0, 1, 2, 3, 4, 10, 11, 12]
abbrev slices_pdqsortCmpFunc_api_Inst_r4 : NC := .reg
    (.x 4 (.call 92) [(.slot 0), (.slot 1), (.slot 2), (.slot 4)] none []
    (.out []))
    [0, 1, 2, 4]
abbrev slices_pdqsortCmpFunc_api_Inst_r5 : NC := .reg
    (.q 1 (.icm .eql) [(.slot 3), (.const (.int .i64 0))] none
    (.out [(0, (.slot 0)), (1, (.slot 1)), (2, (.slot 2)), (3, (.slot 3)), (4, (.slot 4)), (10, (.slot 10)), (11, (.slot 11)), (12, (.slot 12)), (32, (.res 1))]))
    [0, 1, 2, 3, 4, 10, 11, 12]
abbrev slices_pdqsortCmpFunc_api_Inst_r6 : NC := .reg
    (.x 4 (.call 93) [(.slot 0), (.slot 1), (.slot 2), (.slot 4)] none []
    (.out []))
    [0, 1, 2, 4]
abbrev slices_pdqsortCmpFunc_api_Inst_r7 : NC := .reg
    (.q 1 .not [(.slot 10)] none
    (.out [(0, (.slot 0)), (1, (.slot 1)), (2, (.slot 2)), (3, (.slot 3)), (4, (.slot 4)), (10, (.slot 10)), (11, (.slot 11)), (12, (.slot 12)), (39, (.res 1))]))
    [0, 1, 2, 3, 4, 10, 11, 12]
abbrev slices_pdqsortCmpFunc_api_Inst_r8 : NC := .reg
    (.x 4 (.call 94) [(.slot 0), (.slot 1), (.slot 2), (.slot 4)] none []
    (.out [(0, (.slot 0)), (1, (.slot 1)), (2, (.slot 2)), (3, (.slot 3)), (4, (.slot 4)), (10, (.slot 10)), (11, (.slot 11)), (12, (.slot 12))]))
    [0, 1, 2, 3, 4, 10, 11, 12]
abbrev slices_pdqsortCmpFunc_api_Inst_r9 : NC := .reg
    (.q 1 (.iar .sub) [(.slot 3), (.const (.int .i64 1))] none
    (.out [(0, (.slot 0)), (1, (.slot 1)), (2, (.slot 2)), (3, (.res 1)), (4, (.slot 4)), (10, (.slot 10)), (11, (.slot 11)), (12, (.slot 12))]))
    [0, 1, 2, 3, 4, 10, 11, 12]
abbrev slices_pdqsortCmpFunc_api_Inst_r10 : NC := .reg
    (.x 4 (.call 95) [(.slot 0), (.slot 1), (.slot 2), (.slot 4)] none []
    (.q 6 (.ext 0) [(.res 4)] none
    (.q 7 (.ext 1) [(.res 4)] none
    (.out [(0, (.slot 0)), (1, (.slot 1)), (2, (.slot 2)), (3, (.slot 3)), (4, (.slot 4)), (10, (.slot 10)), (11, (.slot 11)), (12, (.slot 12)), (13, (.res 6)), (14, (.res 7))]))))
    [0, 1, 2, 3, 4, 10, 11, 12]
abbrev slices_pdqsortCmpFunc_api_Inst_r11 : NC := .reg
    (.q 1 (.icm .eql) [(.slot 14), (.const (.int .i64 2))] none
    (.out [(0, (.slot 0)), (1, (.slot 1)), (2, (.slot 2)), (3, (.slot 3)), (4, (.slot 4)), (10, (.slot 10)), (11, (.slot 11)), (12, (.slot 12)), (13, (.slot 13)), (14, (.slot 14)), (56, (.res 1))]))
    [0, 1, 2, 3, 4, 10, 11, 12, 13, 14]
abbrev slices_pdqsortCmpFunc_api_Inst_r12 : NC := .reg
    (.x 4 (.call 96) [(.slot 0), (.slot 1), (.slot 2), (.slot 4)] none []
    (.out [(0, (.slot 0)), (1, (.slot 1)), (2, (.slot 2)), (3, (.slot 3)), (4, (.slot 4)), (10, (.slot 10)), (11, (.slot 11)), (12, (.slot 12)), (13, (.slot 13))]))
    [0, 1, 2, 3, 4, 10, 11, 12, 13]
abbrev slices_pdqsortCmpFunc_api_Inst_r13 : NC := .reg
    (.q 1 (.iar .sub) [(.slot 2), (.const (.int .i64 1))] none
    (.q 4 (.iar .sub) [(.slot 13), (.slot 1)] none
    (.q 5 (.iar .sub) [(.res 1), (.res 4)] none
    (.out [(0, (.slot 0)), (1, (.slot 1)), (2, (.slot 2)), (3, (.slot 3)), (4, (.slot 4)), (10, (.slot 10)), (11, (.slot 11)), (12, (.slot 12)), (13, (.res 5))]))))
    [0, 1, 2, 3, 4, 10, 11, 12, 13]
abbrev slices_pdqsortCmpFunc_api_Inst_r14 : NC := .reg
    (.out [(0, (.slot 0)), (1, (.slot 1)), (2, (.slot 2)), (3, (.slot 3)), (4, (.slot 4)), (10, (.slot 10)), (11, (.slot 11)), (12, (.slot 12)), (13, (.slot 13)), (14, (.const (.int .i64 1)))])
    [0, 1, 2, 3, 4, 10, 11, 12, 13]
abbrev slices_pdqsortCmpFunc_api_Inst_r15 : NC := .reg
    (.q 2 .mv [(.slot 11)] (some ((.slot 10), true))
    (.q 3 .pick [(.slot 10), (.res 2), (.const (.bool false))] none
    (.q 5 .mv [(.slot 14)] (some ((.res 3), true))
    (.q 6 (.icm .eql) [(.res 5), (.const (.int .i64 1))] (some ((.res 3), true))
    (.q 7 .pick [(.res 3), (.res 6), (.const (.bool false))] none
    (.out [(0, (.slot 0)), (1, (.slot 1)), (2, (.slot 2)), (3, (.slot 3)), (4, (.slot 4)), (10, (.slot 10)), (11, (.slot 11)), (12, (.slot 12)), (13, (.slot 13)), (75, (.res 7))]))))))
    [0, 1, 2, 3, 4, 10, 11, 12, 13, 14]
abbrev slices_pdqsortCmpFunc_api_Inst_r16 : NC := .reg
    (.x 4 (.call 97) [(.slot 0), (.slot 1), (.slot 2), (.slot 4)] none []
    (.out [(0, (.slot 0)), (1, (.slot 1)), (2, (.slot 2)), (3, (.slot 3)), (4, (.slot 4)), (10, (.slot 10)), (11, (.slot 11)), (12, (.slot 12)), (13, (.slot 13)), (80, (.res 4))]))
    [0, 1, 2, 3, 4, 10, 11, 12, 13]
abbrev slices_pdqsortCmpFunc_api_Inst_r17 : NC := .reg
    (.q 1 (.icm .gtr) [(.slot 1), (.const (.int .i64 0))] none
    (.q 3 .mv [(.slot 4)] (some ((.res 1), true))
    (.q 4 .mv [(.slot 0)] (some ((.res 1), true))
    (.q 5 .mv [(.slot 1)] (some ((.res 1), true))
    (.q 6 (.iar .sub) [(.res 5), (.const (.int .i64 1))] (some ((.res 1), true))
    (.q 7 (.ixs 2) [(.res 4), (.res 6)] (some ((.res 1), true))
    (.q 8 (.lda 2) [(.res 7)] (some ((.res 1), true))
    (.q 9 .mv [(.slot 0)] (some ((.res 1), true))
    (.q 10 .mv [(.slot 13)] (some ((.res 1), true))
    (.q 11 (.ixs 2) [(.res 9), (.res 10)] (some ((.res 1), true))
    (.q 12 (.lda 2) [(.res 11)] (some ((.res 1), true))
    (.x 13 .callv [(.res 3), (.res 8), (.res 12)] (some ((.res 1), true)) []
    (.q 14 (.icm .lss) [(.res 13), (.const (.int .i64 0))] (some ((.res 1), true))
    (.q 15 .not [(.res 14)] (some ((.res 1), true))
    (.q 16 .pick [(.res 1), (.res 15), (.const (.bool false))] none
    (.out [(0, (.slot 0)), (1, (.slot 1)), (2, (.slot 2)), (3, (.slot 3)), (4, (.slot 4)), (10, (.slot 10)), (11, (.slot 11)), (12, (.slot 12)), (13, (.slot 13)), (97, (.res 16))]))))))))))))))))
    [0, 1, 2, 3, 4, 10, 11, 12, 13]
abbrev slices_pdqsortCmpFunc_api_Inst_r18 : NC := .reg
    (.x 5 (.call 98) [(.slot 0), (.slot 1), (.slot 2), (.slot 13), (.slot 4)] none []
    (.out [(0, (.slot 0)), (2, (.slot 2)), (3, (.slot 3)), (4, (.slot 4)), (10, (.slot 10)), (11, (.slot 11)), (15, (.res 5))]))
    [0, 1, 2, 3, 4, 10, 11, 13]
abbrev slices_pdqsortCmpFunc_api_Inst_r19 : NC := .reg
    (.out [(0, (.slot 0)), (1, (.slot 15)), (2, (.slot 2)), (3, (.slot 3)), (4, (.slot 4)), (10, (.slot 10)), (11, (.slot 11))])
    [0, 2, 3, 4, 10, 11, 15]
abbrev slices_pdqsortCmpFunc_api_Inst_r20 : NC := .reg
    (.x 5 (.call 99) [(.slot 0), (.slot 1), (.slot 2), (.slot 13), (.slot 4)] none []
    (.q 7 (.ext 0) [(.res 5)] none
    (.q 8 (.ext 1) [(.res 5)] none
    (.out [(0, (.slot 0)), (1, (.slot 1)), (2, (.slot 2)), (3, (.slot 3)), (4, (.slot 4)), (12, (.slot 12)), (16, (.res 7)), (17, (.res 8))]))))
    [0, 1, 2, 3, 4, 12, 13]
abbrev slices_pdqsortCmpFunc_api_Inst_r21 : NC := .reg
    (.out [(0, (.slot 0)), (1, (.slot 1)), (2, (.slot 2)), (3, (.slot 3)), (4, (.slot 4)), (11, (.slot 17)), (12, (.slot 12)), (16, (.slot 16))])
    [0, 1, 2, 3, 4, 12, 16, 17]
abbrev slices_pdqsortCmpFunc_api_Inst_r22 : NC := .reg
    (.q 2 (.iar .sub) [(.slot 16), (.slot 1)] none
    (.q 5 (.iar .sub) [(.slot 2), (.slot 16)] none
    (.out [(0, (.slot 0)), (1, (.slot 1)), (2, (.slot 2)), (3, (.slot 3)), (4, (.slot 4)), (11, (.slot 11)), (12, (.slot 12)), (16, (.slot 16)), (18, (.res 2)), (19, (.res 5))])))
    [0, 1, 2, 3, 4, 11, 12, 16]
abbrev slices_pdqsortCmpFunc_api_Inst_r23 : NC := .reg
    (.q 1 (.idv .quo) [(.slot 12), (.const (.int .i64 8))] none
    (.out [(0, (.slot 0)), (1, (.slot 1)), (2, (.slot 2)), (3, (.slot 3)), (4, (.slot 4)), (11, (.slot 11)), (16, (.slot 16)), (18, (.slot 18)), (19, (.slot 19)), (20, (.res 1))]))
    [0, 1, 2, 3, 4, 11, 12, 16, 18, 19]
abbrev slices_pdqsortCmpFunc_api_Inst_r24 : NC := .reg
    (.q 2 (.icm .lss) [(.slot 18), (.slot 19)] none
    (.out [(0, (.slot 0)), (1, (.slot 1)), (2, (.slot 2)), (3, (.slot 3)), (4, (.slot 4)), (11, (.slot 11)), (16, (.slot 16)), (18, (.slot 18)), (19, (.slot 19)), (20, (.slot 20)), (125, (.res 2))]))
    [0, 1, 2, 3, 4, 11, 16, 18, 19, 20]
abbrev slices_pdqsortCmpFunc_api_Inst_r25 : NC := .reg
    (.q 2 (.icm .geq) [(.slot 18), (.slot 20)] none
    (.out [(0, (.slot 0)), (1, (.slot 1)), (2, (.slot 2)), (3, (.slot 3)), (4, (.slot 4)), (10, (.res 2)), (11, (.slot 11)), (16, (.slot 16))]))
    [0, 1, 2, 3, 4, 11, 16, 18, 20]
abbrev slices_pdqsortCmpFunc_api_Inst_r26 : NC := .reg
    (.x 5 (.call 61) [(.slot 0), (.slot 1), (.slot 16), (.slot 3), (.slot 4)] none []
    (.out [(0, (.slot 0)), (2, (.slot 2)), (3, (.slot 3)), (4, (.slot 4)), (10, (.slot 10)), (11, (.slot 11)), (16, (.slot 16))]))
    [0, 1, 2, 3, 4, 10, 11, 16]
abbrev slices_pdqsortCmpFunc_api_Inst_r27 : NC := .reg
    (.q 1 (.iar .add) [(.slot 16), (.const (.int .i64 1))] none
    (.out [(0, (.slot 0)), (1, (.res 1)), (2, (.slot 2)), (3, (.slot 3)), (4, (.slot 4)), (10, (.slot 10)), (11, (.slot 11))]))
    [0, 2, 3, 4, 10, 11, 16]
abbrev slices_pdqsortCmpFunc_api_Inst_r28 : NC := .reg
    (.q 2 (.icm .geq) [(.slot 19), (.slot 20)] none
    (.out [(0, (.slot 0)), (1, (.slot 1)), (2, (.slot 2)), (3, (.slot 3)), (4, (.slot 4)), (10, (.res 2)), (11, (.slot 11)), (16, (.slot 16))]))
    [0, 1, 2, 3, 4, 11, 16, 19, 20]
abbrev slices_pdqsortCmpFunc_api_Inst_r29 : NC := .reg
    (.q 2 (.iar .add) [(.slot 16), (.const (.int .i64 1))] none
    (.x 6 (.call 61) [(.slot 0), (.res 2), (.slot 2), (.slot 3), (.slot 4)] none []
    (.out [(0, (.slot 0)), (1, (.slot 1)), (3, (.slot 3)), (4, (.slot 4)), (10, (.slot 10)), (11, (.slot 11)), (16, (.slot 16))])))
    [0, 1, 2, 3, 4, 10, 11, 16]
abbrev slices_pdqsortCmpFunc_api_Inst_r30 : NC := .reg
    (.out [(0, (.slot 0)), (1, (.slot 1)), (2, (.slot 16)), (3, (.slot 3)), (4, (.slot 4)), (10, (.slot 10)), (11, (.slot 11))])
    [0, 1, 3, 4, 10, 11, 16]
abbrev slices_pdqsortCmpFunc_api_Inst_l0 : NC :=
  (.block 1 (.seq slices_pdqsortCmpFunc_api_Inst_r2
  (.seq (.seq slices_pdqsortCmpFunc_api_Inst_r3
  (.cond (.slot 25)
    (.seq slices_pdqsortCmpFunc_api_Inst_r4
    .ret)
    .skip))
  (.seq (.seq slices_pdqsortCmpFunc_api_Inst_r5
  (.cond (.slot 32)
    (.seq slices_pdqsortCmpFunc_api_Inst_r6
    .ret)
    .skip))
  (.seq (.seq slices_pdqsortCmpFunc_api_Inst_r7
  (.cond (.slot 39)
    (.seq slices_pdqsortCmpFunc_api_Inst_r8
    slices_pdqsortCmpFunc_api_Inst_r9)
    .skip))
  (.seq slices_pdqsortCmpFunc_api_Inst_r10
  (.seq (.seq slices_pdqsortCmpFunc_api_Inst_r11
  (.cond (.slot 56)
    (.seq slices_pdqsortCmpFunc_api_Inst_r12
    (.seq slices_pdqsortCmpFunc_api_Inst_r13
    slices_pdqsortCmpFunc_api_Inst_r14))
    .skip))
  (.seq (.seq slices_pdqsortCmpFunc_api_Inst_r15
  (.cond (.slot 75)
    (.seq slices_pdqsortCmpFunc_api_Inst_r16
    (.cond (.slot 80)
      .ret
      .skip))
    .skip))
  (.seq (.seq slices_pdqsortCmpFunc_api_Inst_r17
  (.cond (.slot 97)
    (.seq slices_pdqsortCmpFunc_api_Inst_r18
    (.seq slices_pdqsortCmpFunc_api_Inst_r19
    (.exit 1)))
    .skip))
  (.seq slices_pdqsortCmpFunc_api_Inst_r20
  (.seq slices_pdqsortCmpFunc_api_Inst_r21
  (.seq slices_pdqsortCmpFunc_api_Inst_r22
  (.seq slices_pdqsortCmpFunc_api_Inst_r23
  (.seq slices_pdqsortCmpFunc_api_Inst_r24
  (.cond (.slot 125)
    (.seq slices_pdqsortCmpFunc_api_Inst_r25
    (.seq slices_pdqsortCmpFunc_api_Inst_r26
    slices_pdqsortCmpFunc_api_Inst_r27))
    (.seq slices_pdqsortCmpFunc_api_Inst_r28
    (.seq slices_pdqsortCmpFunc_api_Inst_r29
    slices_pdqsortCmpFunc_api_Inst_r30)))))))))))))))))
abbrev slices_pdqsortCmpFunc_api_Inst_c : NC :=
  (.seq slices_pdqsortCmpFunc_api_Inst_r0
  (.seq slices_pdqsortCmpFunc_api_Inst_r1
  (.block 0 (.loop [0, 1, 2, 3, 4, 10, 11] slices_pdqsortCmpFunc_api_Inst_l0))))
abbrev slices_pdqsortCmpFunc_api_Inst_F : FN := ⟨slices_pdqsortCmpFunc_api_Inst_c, []⟩
theorem slices_pdqsortCmpFunc_api_Inst_ok : compF Try.prog Try.f61 = some slices_pdqsortCmpFunc_api_Inst_F := by kernel_rfl
theorem slices_pdqsortCmpFunc_api_Inst_go {args : List Value} {m : Mem} {R : Value → Mem → Prop} (hn : args.length ≤ Try.f61.ntmps) (h : wpN Try.prog slices_pdqsortCmpFunc_api_Inst_c (retP slices_pdqsortCmpFunc_api_Inst_F.rvs R) (zipP 0 args) m) : MC Try.prog 61 args m R := MC_start Try.func61 slices_pdqsortCmpFunc_api_Inst_ok mixed_ok hn h
/-! math/bits.Len -/
abbrev math_bits_Len_r0 : NC := .reg
    (.out [(0, (.slot 0))])
    [0]
abbrev math_bits_Len_r1 : NC := .reg
    (.q 1 (.conv .u32) [(.slot 0)] none
    (.x 2 (.call 100) [(.res 1)] none []
    (.out [(2, (.res 2))])))
    [0]
abbrev math_bits_Len_r2 : NC := .reg
    (.x 1 (.call 101) [(.slot 0)] none []
    (.out [(2, (.res 1))]))
    [0]
abbrev math_bits_Len_c : NC :=
  (.seq math_bits_Len_r0
  (.seq (.cond (.const (.bool false))
    (.seq math_bits_Len_r1
    .ret)
    .skip)
  (.seq math_bits_Len_r2
  .ret)))
abbrev math_bits_Len_F : FN := ⟨math_bits_Len_c, [.slot 2]⟩
theorem math_bits_Len_ok : compF Try.prog Try.f62 = some math_bits_Len_F := by kernel_rfl
theorem math_bits_Len_go {args : List Value} {m : Mem} {R : Value → Mem → Prop} (hn : args.length ≤ Try.f62.ntmps) (h : wpN Try.prog math_bits_Len_c (retP math_bits_Len_F.rvs R) (zipP 0 args) m) : MC Try.prog 62 args m R := MC_start Try.func62 math_bits_Len_ok mixed_ok hn h
/-! slices.insertionSortCmpFunc[concord/api.Inst] -/
abbrev slices_insertionSortCmpFunc_api_Inst_r0 : NC := .reg
    (.q 1 (.iar .add) [(.slot 1), (.const (.int .i64 1))] none
    (.out [(0, (.slot 0)), (1, (.slot 1)), (2, (.slot 2)), (3, (.slot 3)), (8, (.res 1))]))
    [0, 1, 2, 3]
abbrev slices_insertionSortCmpFunc_api_Inst_r1 : NC := .reg
    (.q 2 (.icm .lss) [(.slot 8), (.slot 2)] none
    (.out [(0, (.slot 0)), (1, (.slot 1)), (2, (.slot 2)), (3, (.slot 3)), (8, (.slot 8)), (14, (.res 2))]))
    [0, 1, 2, 3, 8]
abbrev slices_insertionSortCmpFunc_api_Inst_r2 : NC := .reg
    (.out [(0, (.slot 0)), (1, (.slot 1)), (2, (.slot 2)), (3, (.slot 3)), (8, (.slot 8)), (9, (.slot 8))])
    [0, 1, 2, 3, 8]
abbrev slices_insertionSortCmpFunc_api_Inst_r3 : NC := .reg
    (.q 2 (.icm .gtr) [(.slot 9), (.slot 1)] none
    (.q 4 .mv [(.slot 3)] (some ((.res 2), true))
    (.q 5 .mv [(.slot 0)] (some ((.res 2), true))
    (.q 6 .mv [(.slot 9)] (some ((.res 2), true))
    (.q 7 (.ixs 2) [(.res 5), (.res 6)] (some ((.res 2), true))
    (.q 8 (.lda 2) [(.res 7)] (some ((.res 2), true))
    (.q 9 .mv [(.slot 0)] (some ((.res 2), true))
    (.q 10 .mv [(.slot 9)] (some ((.res 2), true))
    (.q 11 (.iar .sub) [(.res 10), (.const (.int .i64 1))] (some ((.res 2), true))
    (.q 12 (.ixs 2) [(.res 9), (.res 11)] (some ((.res 2), true))
    (.q 13 (.lda 2) [(.res 12)] (some ((.res 2), true))
    (.x 14 .callv [(.res 4), (.res 8), (.res 13)] (some ((.res 2), true)) []
    (.q 15 (.icm .lss) [(.res 14), (.const (.int .i64 0))] (some ((.res 2), true))
    (.q 16 .pick [(.res 2), (.res 15), (.const (.bool false))] none
    (.out [(0, (.slot 0)), (1, (.slot 1)), (2, (.slot 2)), (3, (.slot 3)), (8, (.slot 8)), (9, (.slot 9)), (34, (.res 16))])))))))))))))))
    [0, 1, 2, 3, 8, 9]
abbrev slices_insertionSortCmpFunc_api_Inst_r4 : NC := .reg
    (.q 4 (.iar .sub) [(.slot 9), (.const (.int .i64 1))] none
    (.q 7 (.iar .sub) [(.slot 9), (.const (.int .i64 1))] none
    (.q 8 (.ixs 2) [(.slot 0), (.res 7)] none
    (.q 9 (.lda 2) [(.res 8)] none
    (.q 12 (.ixs 2) [(.slot 0), (.slot 9)] none
    (.q 13 (.lda 2) [(.res 12)] none
    (.q 14 (.ixs 2) [(.slot 0), (.slot 9)] none
    (.x 15 (.st 2) [(.res 14), (.res 9)] none []
    (.q 16 (.ixs 2) [(.slot 0), (.res 4)] none
    (.x 17 (.st 2) [(.res 16), (.res 13)] none []
    (.out [(0, (.slot 0)), (1, (.slot 1)), (2, (.slot 2)), (3, (.slot 3)), (8, (.slot 8)), (9, (.slot 9))])))))))))))
    [0, 1, 2, 3, 8, 9]
abbrev slices_insertionSortCmpFunc_api_Inst_r5 : NC := .reg
    (.q 1 (.iar .sub) [(.slot 9), (.const (.int .i64 1))] none
    (.out [(0, (.slot 0)), (1, (.slot 1)), (2, (.slot 2)), (3, (.slot 3)), (8, (.slot 8)), (9, (.res 1))]))
    [0, 1, 2, 3, 8, 9]
abbrev slices_insertionSortCmpFunc_api_Inst_l0 : NC :=
  (.seq (.seq slices_insertionSortCmpFunc_api_Inst_r3
  (.cond (.slot 34)
    .skip
    (.exit 2)))
  (.seq (.block 3 slices_insertionSortCmpFunc_api_Inst_r4)
  slices_insertionSortCmpFunc_api_Inst_r5))
abbrev slices_insertionSortCmpFunc_api_Inst_r6 : NC := .reg
    (.q 1 (.iar .add) [(.slot 8), (.const (.int .i64 1))] none
    (.out [(0, (.slot 0)), (1, (.slot 1)), (2, (.slot 2)), (3, (.slot 3)), (8, (.res 1))]))
    [0, 1, 2, 3, 8]
abbrev slices_insertionSortCmpFunc_api_Inst_l1 : NC :=
  (.seq (.seq slices_insertionSortCmpFunc_api_Inst_r1
  (.cond (.slot 14)
    .skip
    (.exit 0)))
  (.seq (.block 1 (.seq slices_insertionSortCmpFunc_api_Inst_r2
  (.block 2 (.loop [0, 1, 2, 3, 8, 9] slices_insertionSortCmpFunc_api_Inst_l0))))
  slices_insertionSortCmpFunc_api_Inst_r6))
abbrev slices_insertionSortCmpFunc_api_Inst_c : NC :=
  (.seq slices_insertionSortCmpFunc_api_Inst_r0
  (.block 0 (.loop [0, 1, 2, 3, 8] slices_insertionSortCmpFunc_api_Inst_l1)))
abbrev slices_insertionSortCmpFunc_api_Inst_F : FN := ⟨slices_insertionSortCmpFunc_api_Inst_c, []⟩
theorem slices_insertionSortCmpFunc_api_Inst_ok : compF Try.prog Try.f92 = some slices_insertionSortCmpFunc_api_Inst_F := by kernel_rfl
theorem slices_insertionSortCmpFunc_api_Inst_go {args : List Value} {m : Mem} {R : Value → Mem → Prop} (hn : args.length ≤ Try.f92.ntmps) (h : wpN Try.prog slices_insertionSortCmpFunc_api_Inst_c (retP slices_insertionSortCmpFunc_api_Inst_F.rvs R) (zipP 0 args) m) : MC Try.prog 92 args m R := MC_start Try.func92 slices_insertionSortCmpFunc_api_Inst_ok mixed_ok hn h
/-! math/bits.Len64 -/
abbrev math_bits_Len64_r0 : NC := .reg
    (.out [(0, (.slot 0)), (2, (.const (.int .i64 0)))])
    [0]
abbrev math_bits_Len64_r1 : NC := .reg
    (.q 1 (.icm .geq) [(.slot 0), (.const (.int .u64 4294967296))] none
    (.out [(0, (.slot 0)), (2, (.slot 2)), (4, (.res 1))]))
    [0, 2]
abbrev math_bits_Len64_r2 : NC := .reg
    (.q 1 (.ish .shr) [(.slot 0), (.const (.int .u64 32))] none
    (.out [(0, (.res 1))]))
    [0]
abbrev math_bits_Len64_r3 : NC := .reg
    (.out [(0, (.slot 0)), (2, (.const (.int .i64 32)))])
    [0]
abbrev math_bits_Len64_r4 : NC := .reg
    (.q 1 (.icm .geq) [(.slot 0), (.const (.int .u64 65536))] none
    (.out [(0, (.slot 0)), (2, (.slot 2)), (8, (.res 1))]))
    [0, 2]
abbrev math_bits_Len64_r5 : NC := .reg
    (.q 1 (.ish .shr) [(.slot 0), (.const (.int .u64 16))] none
    (.out [(0, (.res 1)), (2, (.slot 2))]))
    [0, 2]
abbrev math_bits_Len64_r6 : NC := .reg
    (.q 1 (.iar .add) [(.slot 2), (.const (.int .i64 16))] none
    (.out [(0, (.slot 0)), (2, (.res 1))]))
    [0, 2]
abbrev math_bits_Len64_r7 : NC := .reg
    (.q 1 (.icm .geq) [(.slot 0), (.const (.int .u64 256))] none
    (.out [(0, (.slot 0)), (2, (.slot 2)), (14, (.res 1))]))
    [0, 2]
abbrev math_bits_Len64_r8 : NC := .reg
    (.q 1 (.ish .shr) [(.slot 0), (.const (.int .u64 8))] none
    (.out [(0, (.res 1)), (2, (.slot 2))]))
    [0, 2]
abbrev math_bits_Len64_r9 : NC := .reg
    (.q 1 (.iar .add) [(.slot 2), (.const (.int .i64 8))] none
    (.out [(0, (.slot 0)), (2, (.res 1))]))
    [0, 2]
abbrev math_bits_Len64_r10 : NC := .reg
    (.q 2 (.conv .u8) [(.slot 0)] none
    (.q 3 .idxs [(.const (.string ⟨#[0, 1, 2, 2, 3, 3, 3, 3, 4, 4, 4, 4, 4, 4, 4, 4, 5, 5, 5, 5, 5, 5, 5, 5, 5, 5, 5, 5, 5, 5, 5, 5, 6, 6, 6, 6, 6, 6, 6, 6, 6, 6, 6, 6, 6, 6, 6, 6, 6, 6, 6, 6, 6, 6, 6, 6, 6, 6, 6, 6, 6, 6, 6, 6, 7, 7, 7, 7, 7, 7, 7, 7, 7, 7, 7, 7, 7, 7, 7, 7, 7, 7, 7, 7, 7, 7, 7, 7, 7, 7, 7, 7, 7, 7, 7, 7, 7, 7, 7, 7, 7, 7, 7, 7, 7, 7, 7, 7, 7, 7, 7, 7, 7, 7, 7, 7, 7, 7, 7, 7, 7, 7, 7, 7, 7, 7, 7, 7, 8, 8, 8, 8, 8, 8, 8, 8, 8, 8, 8, 8, 8, 8, 8, 8, 8, 8, 8, 8, 8, 8, 8, 8, 8, 8, 8, 8, 8, 8, 8, 8, 8, 8, 8, 8, 8, 8, 8, 8, 8, 8, 8, 8, 8, 8, 8, 8, 8, 8, 8, 8, 8, 8, 8, 8, 8, 8, 8, 8, 8, 8, 8, 8, 8, 8, 8, 8, 8, 8, 8, 8, 8, 8, 8, 8, 8, 8, 8, 8, 8, 8, 8, 8, 8, 8, 8, 8, 8, 8, 8, 8, 8, 8, 8, 8, 8, 8, 8, 8, 8, 8, 8, 8, 8, 8, 8, 8, 8, 8, 8, 8, 8, 8, 8, 8, 8, 8, 8, 8, 8, 8, 8, 8, 8, 8, 8, 8]⟩)), (.res 2)] none
    (.q 4 (.conv .i64) [(.res 3)] none
    (.q 5 (.iar .add) [(.slot 2), (.res 4)] none
    (.out [(2, (.res 5))])))))
    [0, 2]
abbrev math_bits_Len64_c : NC :=
  (.seq math_bits_Len64_r0
  (.seq (.seq math_bits_Len64_r1
  (.cond (.slot 4)
    (.seq math_bits_Len64_r2
    math_bits_Len64_r3)
    .skip))
  (.seq (.seq math_bits_Len64_r4
  (.cond (.slot 8)
    (.seq math_bits_Len64_r5
    math_bits_Len64_r6)
    .skip))
  (.seq (.seq math_bits_Len64_r7
  (.cond (.slot 14)
    (.seq math_bits_Len64_r8
    math_bits_Len64_r9)
    .skip))
  (.seq math_bits_Len64_r10
  .ret)))))
abbrev math_bits_Len64_F : FN := ⟨math_bits_Len64_c, [.slot 2]⟩
theorem math_bits_Len64_ok : compF Try.prog Try.f101 = some math_bits_Len64_F := by kernel_rfl
theorem math_bits_Len64_go {args : List Value} {m : Mem} {R : Value → Mem → Prop} (hn : args.length ≤ Try.f101.ntmps) (h : wpN Try.prog math_bits_Len64_c (retP math_bits_Len64_F.rvs R) (zipP 0 args) m) : MC Try.prog 101 args m R := MC_start Try.func101 math_bits_Len64_ok mixed_ok hn h
end Go.Fw
