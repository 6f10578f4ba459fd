import Derived.Test.YtadkdbnikmkgfaaCd
namespace Go.Fw
open Go.Proofs
/-! (*concord/concordref15.Log).Trim -/
abbrev ref15_Log_Trim_r0 : NC := .reg
    (.x 0 (.box 25) [(.slot 1)] none []
    (.out [(0, (.slot 0)), (3, (.res 0))]))
    [0, 1]
abbrev ref15_Log_Trim_r1 : NC := .reg
    (.out [(0, (.slot 0)), (3, (.slot 3)), (4, (.const (.int .i64 0)))])
    [0, 3]
abbrev ref15_Log_Trim_r2 : NC := .reg
    (.q 1 (.icm .lss) [(.slot 4), (.const (.int .i64 7))] none
    (.out [(0, (.slot 0)), (3, (.slot 3)), (4, (.slot 4)), (9, (.res 1))]))
    [0, 3, 4]
abbrev ref15_Log_Trim_r3 : NC := .reg
    (.q 4 .nilck [(.slot 0)] none
    (.q 5 (.fld 2) [(.res 4)] none
    (.q 6 (.ixa 7 1) [(.res 5), (.slot 4)] none
    (.q 7 .ld [(.res 6)] none
    (.q 9 (.ixa 7 1) [(.slot 3), (.slot 4)] none
    (.q 10 .ld [(.res 9)] none
    (.q 11 .mx [(.res 10), (.const (.int .i64 0))] none
    (.q 12 .mn [(.res 11), (.const (.int .i64 1073741824))] none
    (.q 13 .mx [(.res 7), (.res 12)] none
    (.q 14 .nilck [(.slot 0)] none
    (.q 15 (.fld 2) [(.res 14)] none
    (.q 16 (.ixa 7 1) [(.res 15), (.slot 4)] none
    (.x 17 (.st 1) [(.res 16), (.res 13)] none []
    (.out [(0, (.slot 0)), (3, (.slot 3)), (4, (.slot 4))]))))))))))))))
    [0, 3, 4]
abbrev ref15_Log_Trim_r4 : NC := .reg
    (.q 1 (.iar .add) [(.slot 4), (.const (.int .i64 1))] none
    (.out [(0, (.slot 0)), (3, (.slot 3)), (4, (.res 1))]))
    [0, 3, 4]
abbrev ref15_Log_Trim_l0 : NC :=
  (.seq (.seq ref15_Log_Trim_r2
  (.cond (.slot 9)
    .skip
    (.exit 0)))
  (.seq (.block 1 ref15_Log_Trim_r3)
  ref15_Log_Trim_r4))
abbrev ref15_Log_Trim_r5 : NC := .reg
    (.out [(0, (.slot 0)), (5, (.const (.slice none 0 0)))])
    [0]
abbrev ref15_Log_Trim_r6 : NC := .reg
    (.out [(0, (.slot 0)), (5, (.slot 5)), (6, (.const (.slice none 0 0)))])
    [0, 5]
abbrev ref15_Log_Trim_r7 : NC := .reg
    (.out [(0, (.slot 0)), (5, (.slot 5)), (6, (.slot 6)), (7, (.const (.int .i64 0)))])
    [0, 5, 6]
abbrev ref15_Log_Trim_r8 : NC := .reg
    (.q 2 .nilck [(.slot 0)] none
    (.q 3 (.fld 0) [(.res 2)] none
    (.q 4 .ld [(.res 3)] none
    (.q 5 .len [(.res 4)] none
    (.q 6 (.icm .lss) [(.slot 7), (.res 5)] none
    (.out [(0, (.slot 0)), (5, (.slot 5)), (6, (.slot 6)), (7, (.slot 7)), (35, (.res 6))]))))))
    [0, 5, 6, 7]
abbrev ref15_Log_Trim_r9 : NC := .reg
    (.q 2 .nilck [(.slot 0)] none
    (.q 3 (.fld 0) [(.res 2)] none
    (.q 4 .ld [(.res 3)] none
    (.q 6 (.ixs 2) [(.res 4), (.slot 7)] none
    (.q 7 (.lda 2) [(.res 6)] none
    (.x 8 (.call 25) [(.slot 0), (.res 7)] none []
    (.q 9 .not [(.res 8)] none
    (.out [(0, (.slot 0)), (5, (.slot 5)), (6, (.slot 6)), (7, (.slot 7)), (47, (.res 9))]))))))))
    [0, 5, 6, 7]
abbrev ref15_Log_Trim_r10 : NC := .reg
    (.q 2 .nilck [(.slot 0)] none
    (.q 3 (.fld 0) [(.res 2)] none
    (.q 4 .ld [(.res 3)] none
    (.q 6 (.ixs 2) [(.res 4), (.slot 7)] none
    (.q 7 (.lda 2) [(.res 6)] none
    (.q 12 .nilck [(.slot 0)] none
    (.q 13 (.fld 1) [(.res 12)] none
    (.q 14 .ld [(.res 13)] none
    (.q 16 (.ixs 21) [(.res 14), (.slot 7)] none
    (.q 17 (.lda 21) [(.res 16)] none
    (.both
    (.x 8 (.bsl 28 1 [(.int .i64 0), (.int .i64 0)] [(0, 2)]) [(.res 7)] none [(14, .ld, [(.res 13)], none), (17, (.lda 21), [(.res 16)], none)]
    (.both
    (.x 9 (.app 28 2 16 [(.int .i64 0), (.int .i64 0)]) [(.slot 5), (.res 8)] none [(14, .ld, [(.res 13)], none), (17, (.lda 21), [(.res 16)], none)]
    (.x 18 (.bsl 37 1 [(.int .i64 0), (.int .i64 0), (.int .i64 0), (.int .i64 0), (.int .i64 0), (.int .i64 0), (.int .i64 0), (.int .i64 0), (.string ⟨#[]⟩), (.string ⟨#[]⟩), (.string ⟨#[]⟩), (.string ⟨#[]⟩), (.int .i64 0), (.int .i64 0), (.int .i64 0), (.int .i64 0), (.int .i64 0), (.int .i64 0), (.int .i64 0), (.int .i64 0), (.bool false)] [(0, 21)]) [(.res 17)] none [(4, .ld, [(.res 3)], none), (7, (.lda 2), [(.res 6)], none)]
    (.x 19 (.app 37 21 200 [(.int .i64 0), (.int .i64 0), (.int .i64 0), (.int .i64 0), (.int .i64 0), (.int .i64 0), (.int .i64 0), (.int .i64 0), (.string ⟨#[]⟩), (.string ⟨#[]⟩), (.string ⟨#[]⟩), (.string ⟨#[]⟩), (.int .i64 0), (.int .i64 0), (.int .i64 0), (.int .i64 0), (.int .i64 0), (.int .i64 0), (.int .i64 0), (.int .i64 0), (.bool false)]) [(.slot 6), (.res 18)] none []
    (.out [(0, (.slot 0)), (5, (.res 9)), (6, (.res 19)), (7, (.slot 7))]))))
    (.x 18 (.bsl 37 1 [(.int .i64 0), (.int .i64 0), (.int .i64 0), (.int .i64 0), (.int .i64 0), (.int .i64 0), (.int .i64 0), (.int .i64 0), (.string ⟨#[]⟩), (.string ⟨#[]⟩), (.string ⟨#[]⟩), (.string ⟨#[]⟩), (.int .i64 0), (.int .i64 0), (.int .i64 0), (.int .i64 0), (.int .i64 0), (.int .i64 0), (.int .i64 0), (.int .i64 0), (.bool false)] [(0, 21)]) [(.res 17)] none [(4, .ld, [(.res 3)], none), (7, (.lda 2), [(.res 6)], none)]
    (.x 9 (.app 28 2 16 [(.int .i64 0), (.int .i64 0)]) [(.slot 5), (.res 8)] none [(14, .ld, [(.res 13)], none), (17, (.lda 21), [(.res 16)], none)]
    (.x 19 (.app 37 21 200 [(.int .i64 0), (.int .i64 0), (.int .i64 0), (.int .i64 0), (.int .i64 0), (.int .i64 0), (.int .i64 0), (.int .i64 0), (.string ⟨#[]⟩), (.string ⟨#[]⟩), (.string ⟨#[]⟩), (.string ⟨#[]⟩), (.int .i64 0), (.int .i64 0), (.int .i64 0), (.int .i64 0), (.int .i64 0), (.int .i64 0), (.int .i64 0), (.int .i64 0), (.bool false)]) [(.slot 6), (.res 18)] none []
    (.out [(0, (.slot 0)), (5, (.res 9)), (6, (.res 19)), (7, (.slot 7))]))))))
    (.x 18 (.bsl 37 1 [(.int .i64 0), (.int .i64 0), (.int .i64 0), (.int .i64 0), (.int .i64 0), (.int .i64 0), (.int .i64 0), (.int .i64 0), (.string ⟨#[]⟩), (.string ⟨#[]⟩), (.string ⟨#[]⟩), (.string ⟨#[]⟩), (.int .i64 0), (.int .i64 0), (.int .i64 0), (.int .i64 0), (.int .i64 0), (.int .i64 0), (.int .i64 0), (.int .i64 0), (.bool false)] [(0, 21)]) [(.res 17)] none [(4, .ld, [(.res 3)], none), (7, (.lda 2), [(.res 6)], none)]
    (.x 8 (.bsl 28 1 [(.int .i64 0), (.int .i64 0)] [(0, 2)]) [(.res 7)] none [(14, .ld, [(.res 13)], none), (17, (.lda 21), [(.res 16)], none)]
    (.x 9 (.app 28 2 16 [(.int .i64 0), (.int .i64 0)]) [(.slot 5), (.res 8)] none [(14, .ld, [(.res 13)], none), (17, (.lda 21), [(.res 16)], none)]
    (.x 19 (.app 37 21 200 [(.int .i64 0), (.int .i64 0), (.int .i64 0), (.int .i64 0), (.int .i64 0), (.int .i64 0), (.int .i64 0), (.int .i64 0), (.string ⟨#[]⟩), (.string ⟨#[]⟩), (.string ⟨#[]⟩), (.string ⟨#[]⟩), (.int .i64 0), (.int .i64 0), (.int .i64 0), (.int .i64 0), (.int .i64 0), (.int .i64 0), (.int .i64 0), (.int .i64 0), (.bool false)]) [(.slot 6), (.res 18)] none []
    (.out [(0, (.slot 0)), (5, (.res 9)), (6, (.res 19)), (7, (.slot 7))]))))))))))))))))
    [0, 5, 6, 7]
abbrev ref15_Log_Trim_r11 : NC := .reg
    (.q 1 (.iar .add) [(.slot 7), (.const (.int .i64 1))] none
    (.out [(0, (.slot 0)), (5, (.slot 5)), (6, (.slot 6)), (7, (.res 1))]))
    [0, 5, 6, 7]
abbrev ref15_Log_Trim_l1 : NC :=
  (.seq (.seq ref15_Log_Trim_r8
  (.cond (.slot 35)
    .skip
    (.exit 2)))
  (.seq (.block 3 (.seq ref15_Log_Trim_r9
  (.cond (.slot 47)
    ref15_Log_Trim_r10
    .skip)))
  ref15_Log_Trim_r11))
abbrev ref15_Log_Trim_r12 : NC := .reg
    (.q 4 .nilck [(.slot 0)] none
    (.q 5 (.fld 0) [(.res 4)] none
    (.x 6 (.st 1) [(.res 5), (.slot 5)] none []
    (.q 7 .nilck [(.slot 0)] none
    (.q 8 (.fld 1) [(.res 7)] none
    (.x 9 (.st 1) [(.res 8), (.slot 6)] none []
    (.out [])))))))
    [0, 5, 6]
abbrev ref15_Log_Trim_c : NC :=
  (.seq ref15_Log_Trim_r0
  (.seq (.seq ref15_Log_Trim_r1
  (.block 0 (.loop [0, 3, 4] ref15_Log_Trim_l0)))
  (.seq ref15_Log_Trim_r5
  (.seq ref15_Log_Trim_r6
  (.seq (.seq ref15_Log_Trim_r7
  (.block 2 (.loop [0, 5, 6, 7] ref15_Log_Trim_l1)))
  ref15_Log_Trim_r12)))))
abbrev ref15_Log_Trim_F : FN := ⟨ref15_Log_Trim_c, []⟩
theorem ref15_Log_Trim_ok : compF Try.prog Try.f21 = some ref15_Log_Trim_F := by kernel_rfl
theorem ref15_Log_Trim_go {args : List Value} {m : Mem} {R : Value → Mem → Prop} (hn : args.length ≤ Try.f21.ntmps) (h : wpN Try.prog ref15_Log_Trim_c (retP ref15_Log_Trim_F.rvs R) (zipP 0 args) m) : MC Try.prog 21 args m R := MC_start Try.func21 ref15_Log_Trim_ok mixed_ok hn h
/-! (*concord/concordref15.Log).Set -/
abbrev ref15_Log_Set_r0 : NC := .reg
    (.x 0 (.box 28) [(.slot 1)] none []
    (.x 1 (.box 37) [(.slot 2)] none []
    (.out [(0, (.slot 0)), (4, (.res 0)), (5, (.res 1))])))
    [0, 1, 2]
abbrev ref15_Log_Set_r1 : NC := .reg
    (.q 0 (.lda 2) [(.slot 4)] none
    (.x 1 (.call 40) [(.res 0)] none []
    (.q 2 .not [(.res 1)] none
    (.q 4 .mv [(.slot 0)] (some ((.res 2), false))
    (.q 5 (.lda 2) [(.slot 4)] (some ((.res 2), false))
    (.x 6 (.call 25) [(.res 4), (.res 5)] (some ((.res 2), false)) []
    (.q 7 .pick [(.res 2), (.const (.bool true)), (.res 6)] none
    (.q 9 (.lda 21) [(.slot 5)] (some ((.res 7), false))
    (.x 10 (.call 28) [(.res 9)] (some ((.res 7), false)) []
    (.q 11 .not [(.res 10)] (some ((.res 7), false))
    (.q 12 .pick [(.res 7), (.const (.bool true)), (.res 11)] none
    (.out [(0, (.slot 0)), (4, (.slot 4)), (5, (.slot 5)), (22, (.res 12))]))))))))))))
    [0, 4, 5]
abbrev ref15_Log_Set_r2 : NC := .reg
    (.out [(6, (.const (.bool false)))])
    []
abbrev ref15_Log_Set_r3 : NC := .reg
    (.q 1 (.lda 2) [(.slot 4)] none
    (.x 2 (.call 41) [(.slot 0), (.res 1)] none []
    (.q 4 (.ext 0) [(.res 2)] none
    (.q 5 (.ext 1) [(.res 2)] none
    (.out [(0, (.slot 0)), (4, (.slot 4)), (5, (.slot 5)), (7, (.res 4)), (8, (.res 5))])))))
    [0, 4, 5]
abbrev ref15_Log_Set_r4 : NC := .reg
    (.out [(0, (.slot 0)), (4, (.slot 4)), (5, (.slot 5)), (7, (.slot 7)), (29, (.slot 8))])
    [0, 4, 5, 7, 8]
abbrev ref15_Log_Set_r5 : NC := .reg
    (.q 1 .nilck [(.slot 0)] none
    (.q 2 (.fld 1) [(.res 1)] none
    (.q 3 .ld [(.res 2)] none
    (.q 5 (.ixs 21) [(.res 3), (.slot 7)] none
    (.q 6 (.lda 21) [(.res 5)] none
    (.x 7 (.alc [(.int .i64 0), (.int .i64 0), (.int .i64 0), (.int .i64 0), (.int .i64 0), (.int .i64 0), (.int .i64 0), (.int .i64 0), (.string ⟨#[]⟩), (.string ⟨#[]⟩), (.string ⟨#[]⟩), (.string ⟨#[]⟩), (.int .i64 0), (.int .i64 0), (.int .i64 0), (.int .i64 0), (.int .i64 0), (.int .i64 0), (.int .i64 0), (.int .i64 0), (.bool false)] 37) [] none []
    (.x 8 (.st 21) [(.res 7), (.res 6)] none []
    (.out [(0, (.slot 0)), (5, (.slot 5)), (7, (.slot 7)), (9, (.res 7))]))))))))
    [0, 5, 7]
abbrev ref15_Log_Set_r6 : NC := .reg
    (.q 0 (.fld 0) [(.slot 9)] none
    (.q 1 .ld [(.res 0)] none
    (.q 2 (.icm .eql) [(.res 1), (.const (.int .i64 3))] none
    (.q 4 (.fld 0) [(.slot 5)] (some ((.res 2), true))
    (.q 5 .ld [(.res 4)] (some ((.res 2), true))
    (.q 6 (.icm .neq) [(.res 5), (.const (.int .i64 3))] (some ((.res 2), true))
    (.q 7 .mv [(.res 6)] (some ((.res 2), true))
    (.q 8 (.fld 5) [(.slot 5)] (some ((.res 7), false))
    (.q 9 (.lda 7) [(.res 8)] (some ((.res 7), false))
    (.q 10 (.fld 5) [(.slot 9)] (some ((.res 7), false))
    (.q 11 (.lda 7) [(.res 10)] (some ((.res 7), false))
    (.q 12 (.eqc true [(.i .i64), (.i .i64), (.i .i64), .s, .s, .s, .s]) [(.res 9), (.res 11)] (some ((.res 7), false))
    (.q 13 .pick [(.res 7), (.const (.bool true)), (.res 12)] (some ((.res 2), true))
    (.q 14 .mv [(.res 13)] (some ((.res 2), true))
    (.q 15 (.fld 12) [(.slot 5)] (some ((.res 14), false))
    (.q 16 (.lda 8) [(.res 15)] (some ((.res 14), false))
    (.q 17 (.fld 12) [(.slot 9)] (some ((.res 14), false))
    (.q 18 (.lda 8) [(.res 17)] (some ((.res 14), false))
    (.q 19 (.eqc true [(.i .i64), (.i .i64), (.i .i64), (.i .i64), (.i .i64), (.i .i64), (.i .i64), (.i .i64)]) [(.res 16), (.res 18)] (some ((.res 14), false))
    (.q 20 .pick [(.res 14), (.const (.bool true)), (.res 19)] (some ((.res 2), true))
    (.q 21 .pick [(.res 2), (.res 20), (.const (.bool false))] none
    (.q 23 (.fld 1) [(.slot 5)] (some ((.res 21), false))
    (.q 24 (.lda 2) [(.res 23)] (some ((.res 21), false))
    (.q 25 (.fld 1) [(.slot 9)] (some ((.res 21), false))
    (.q 26 (.lda 2) [(.res 25)] (some ((.res 21), false))
    (.x 27 (.call 42) [(.res 24), (.res 26)] (some ((.res 21), false)) []
    (.q 28 .pick [(.res 21), (.const (.bool true)), (.res 27)] none
    (.q 30 (.fld 3) [(.slot 5)] (some ((.res 28), false))
    (.q 31 (.lda 2) [(.res 30)] (some ((.res 28), false))
    (.q 32 (.fld 3) [(.slot 9)] (some ((.res 28), false))
    (.q 33 (.lda 2) [(.res 32)] (some ((.res 28), false))
    (.x 34 (.call 42) [(.res 31), (.res 33)] (some ((.res 28), false)) []
    (.q 35 .pick [(.res 28), (.const (.bool true)), (.res 34)] none
    (.q 37 (.fld 0) [(.slot 5)] (some ((.res 35), false))
    (.q 38 .ld [(.res 37)] (some ((.res 35), false))
    (.q 39 (.fld 0) [(.slot 9)] (some ((.res 35), false))
    (.q 40 .ld [(.res 39)] (some ((.res 35), false))
    (.q 41 (.icm .lss) [(.res 38), (.res 40)] (some ((.res 35), false))
    (.q 42 .mv [(.res 41)] (some ((.res 35), false))
    (.q 43 (.fld 3) [(.slot 5)] (some ((.res 42), true))
    (.q 44 (.lda 2) [(.res 43)] (some ((.res 42), true))
    (.q 45 (.fld 3) [(.slot 9)] (some ((.res 42), true))
    (.q 46 (.lda 2) [(.res 45)] (some ((.res 42), true))
    (.q 47 (.eqc false [(.i .i64), (.i .i64)]) [(.res 44), (.res 46)] (some ((.res 42), true))
    (.q 48 .pick [(.res 42), (.res 47), (.const (.bool false))] (some ((.res 35), false))
    (.q 49 .pick [(.res 35), (.const (.bool true)), (.res 48)] none
    (.out [(0, (.slot 0)), (5, (.slot 5)), (7, (.slot 7)), (86, (.res 49))])))))))))))))))))))))))))))))))))))))))))))))))
    [0, 5, 7, 9]
abbrev ref15_Log_Set_r7 : NC := .reg
    (.out [(6, (.const (.bool false)))])
    []
abbrev ref15_Log_Set_r8 : NC := .reg
    (.q 1 .nilck [(.slot 0)] none
    (.q 2 (.fld 1) [(.res 1)] none
    (.q 3 .ld [(.res 2)] none
    (.q 5 (.lda 21) [(.slot 5)] none
    (.q 6 (.ixs 21) [(.res 3), (.slot 7)] none
    (.x 7 (.st 21) [(.res 6), (.res 5)] none []
    (.out [])))))))
    [0, 5, 7]
abbrev ref15_Log_Set_r9 : NC := .reg
    (.out [(6, (.const (.bool true)))])
    []
abbrev ref15_Log_Set_r10 : NC := .reg
    (.q 3 .nilck [(.slot 0)] none
    (.q 4 (.fld 0) [(.res 3)] none
    (.q 5 .ld [(.res 4)] none
    (.q 7 (.slc 2 false true) [(.res 5), (.slot 7)] none
    (.q 9 (.lda 2) [(.slot 4)] none
    (.q 13 .nilck [(.slot 0)] none
    (.q 14 (.fld 0) [(.res 13)] none
    (.q 15 .ld [(.res 14)] none
    (.q 17 (.slc 2 true false) [(.res 15), (.slot 7)] none
    (.both
    (.x 1 (.bsl 28 0 [] []) [] none [(5, .ld, [(.res 4)], none), (9, (.lda 2), [(.slot 4)], none), (15, .ld, [(.res 14)], none)]
    (.both
    (.x 8 (.app 28 2 16 [(.int .i64 0), (.int .i64 0)]) [(.res 1), (.res 7)] none [(9, (.lda 2), [(.slot 4)], none), (15, .ld, [(.res 14)], none)]
    (.x 10 (.bsl 28 1 [(.int .i64 0), (.int .i64 0)] [(0, 2)]) [(.res 9)] none [(5, .ld, [(.res 4)], none), (15, .ld, [(.res 14)], none)]
    (.x 11 (.app 28 2 16 [(.int .i64 0), (.int .i64 0)]) [(.res 8), (.res 10)] none [(15, .ld, [(.res 14)], none)]
    (.x 18 (.app 28 2 16 [(.int .i64 0), (.int .i64 0)]) [(.res 11), (.res 17)] none []
    (.q 19 .nilck [(.slot 0)] none
    (.q 20 (.fld 0) [(.res 19)] none
    (.x 21 (.st 1) [(.res 20), (.res 18)] none []
    (.out [(0, (.slot 0)), (5, (.slot 5)), (7, (.slot 7))]))))))))
    (.x 10 (.bsl 28 1 [(.int .i64 0), (.int .i64 0)] [(0, 2)]) [(.res 9)] none [(5, .ld, [(.res 4)], none), (15, .ld, [(.res 14)], none)]
    (.x 8 (.app 28 2 16 [(.int .i64 0), (.int .i64 0)]) [(.res 1), (.res 7)] none [(9, (.lda 2), [(.slot 4)], none), (15, .ld, [(.res 14)], none)]
    (.x 11 (.app 28 2 16 [(.int .i64 0), (.int .i64 0)]) [(.res 8), (.res 10)] none [(15, .ld, [(.res 14)], none)]
    (.x 18 (.app 28 2 16 [(.int .i64 0), (.int .i64 0)]) [(.res 11), (.res 17)] none []
    (.q 19 .nilck [(.slot 0)] none
    (.q 20 (.fld 0) [(.res 19)] none
    (.x 21 (.st 1) [(.res 20), (.res 18)] none []
    (.out [(0, (.slot 0)), (5, (.slot 5)), (7, (.slot 7))]))))))))))
    (.x 10 (.bsl 28 1 [(.int .i64 0), (.int .i64 0)] [(0, 2)]) [(.res 9)] none [(5, .ld, [(.res 4)], none), (15, .ld, [(.res 14)], none)]
    (.x 1 (.bsl 28 0 [] []) [] none [(5, .ld, [(.res 4)], none), (9, (.lda 2), [(.slot 4)], none), (15, .ld, [(.res 14)], none)]
    (.x 8 (.app 28 2 16 [(.int .i64 0), (.int .i64 0)]) [(.res 1), (.res 7)] none [(9, (.lda 2), [(.slot 4)], none), (15, .ld, [(.res 14)], none)]
    (.x 11 (.app 28 2 16 [(.int .i64 0), (.int .i64 0)]) [(.res 8), (.res 10)] none [(15, .ld, [(.res 14)], none)]
    (.x 18 (.app 28 2 16 [(.int .i64 0), (.int .i64 0)]) [(.res 11), (.res 17)] none []
    (.q 19 .nilck [(.slot 0)] none
    (.q 20 (.fld 0) [(.res 19)] none
    (.x 21 (.st 1) [(.res 20), (.res 18)] none []
    (.out [(0, (.slot 0)), (5, (.slot 5)), (7, (.slot 7))])))))))))))))))))))
    [0, 4, 5, 7]
abbrev ref15_Log_Set_r11 : NC := .reg
    (.q 3 .nilck [(.slot 0)] none
    (.q 4 (.fld 1) [(.res 3)] none
    (.q 5 .ld [(.res 4)] none
    (.q 7 (.slc 21 false true) [(.res 5), (.slot 7)] none
    (.q 9 (.lda 21) [(.slot 5)] none
    (.q 13 .nilck [(.slot 0)] none
    (.q 14 (.fld 1) [(.res 13)] none
    (.q 15 .ld [(.res 14)] none
    (.q 17 (.slc 21 true false) [(.res 15), (.slot 7)] none
    (.both
    (.x 1 (.bsl 37 0 [] []) [] none [(5, .ld, [(.res 4)], none), (9, (.lda 21), [(.slot 5)], none), (15, .ld, [(.res 14)], none)]
    (.both
    (.x 8 (.app 37 21 200 [(.int .i64 0), (.int .i64 0), (.int .i64 0), (.int .i64 0), (.int .i64 0), (.int .i64 0), (.int .i64 0), (.int .i64 0), (.string ⟨#[]⟩), (.string ⟨#[]⟩), (.string ⟨#[]⟩), (.string ⟨#[]⟩), (.int .i64 0), (.int .i64 0), (.int .i64 0), (.int .i64 0), (.int .i64 0), (.int .i64 0), (.int .i64 0), (.int .i64 0), (.bool false)]) [(.res 1), (.res 7)] none [(9, (.lda 21), [(.slot 5)], none), (15, .ld, [(.res 14)], none)]
    (.x 10 (.bsl 37 1 [(.int .i64 0), (.int .i64 0), (.int .i64 0), (.int .i64 0), (.int .i64 0), (.int .i64 0), (.int .i64 0), (.int .i64 0), (.string ⟨#[]⟩), (.string ⟨#[]⟩), (.string ⟨#[]⟩), (.string ⟨#[]⟩), (.int .i64 0), (.int .i64 0), (.int .i64 0), (.int .i64 0), (.int .i64 0), (.int .i64 0), (.int .i64 0), (.int .i64 0), (.bool false)] [(0, 21)]) [(.res 9)] none [(5, .ld, [(.res 4)], none), (15, .ld, [(.res 14)], none)]
    (.x 11 (.app 37 21 200 [(.int .i64 0), (.int .i64 0), (.int .i64 0), (.int .i64 0), (.int .i64 0), (.int .i64 0), (.int .i64 0), (.int .i64 0), (.string ⟨#[]⟩), (.string ⟨#[]⟩), (.string ⟨#[]⟩), (.string ⟨#[]⟩), (.int .i64 0), (.int .i64 0), (.int .i64 0), (.int .i64 0), (.int .i64 0), (.int .i64 0), (.int .i64 0), (.int .i64 0), (.bool false)]) [(.res 8), (.res 10)] none [(15, .ld, [(.res 14)], none)]
    (.x 18 (.app 37 21 200 [(.int .i64 0), (.int .i64 0), (.int .i64 0), (.int .i64 0), (.int .i64 0), (.int .i64 0), (.int .i64 0), (.int .i64 0), (.string ⟨#[]⟩), (.string ⟨#[]⟩), (.string ⟨#[]⟩), (.string ⟨#[]⟩), (.int .i64 0), (.int .i64 0), (.int .i64 0), (.int .i64 0), (.int .i64 0), (.int .i64 0), (.int .i64 0), (.int .i64 0), (.bool false)]) [(.res 11), (.res 17)] none []
    (.q 19 .nilck [(.slot 0)] none
    (.q 20 (.fld 1) [(.res 19)] none
    (.x 21 (.st 1) [(.res 20), (.res 18)] none []
    (.out []))))))))
    (.x 10 (.bsl 37 1 [(.int .i64 0), (.int .i64 0), (.int .i64 0), (.int .i64 0), (.int .i64 0), (.int .i64 0), (.int .i64 0), (.int .i64 0), (.string ⟨#[]⟩), (.string ⟨#[]⟩), (.string ⟨#[]⟩), (.string ⟨#[]⟩), (.int .i64 0), (.int .i64 0), (.int .i64 0), (.int .i64 0), (.int .i64 0), (.int .i64 0), (.int .i64 0), (.int .i64 0), (.bool false)] [(0, 21)]) [(.res 9)] none [(5, .ld, [(.res 4)], none), (15, .ld, [(.res 14)], none)]
    (.x 8 (.app 37 21 200 [(.int .i64 0), (.int .i64 0), (.int .i64 0), (.int .i64 0), (.int .i64 0), (.int .i64 0), (.int .i64 0), (.int .i64 0), (.string ⟨#[]⟩), (.string ⟨#[]⟩), (.string ⟨#[]⟩), (.string ⟨#[]⟩), (.int .i64 0), (.int .i64 0), (.int .i64 0), (.int .i64 0), (.int .i64 0), (.int .i64 0), (.int .i64 0), (.int .i64 0), (.bool false)]) [(.res 1), (.res 7)] none [(9, (.lda 21), [(.slot 5)], none), (15, .ld, [(.res 14)], none)]
    (.x 11 (.app 37 21 200 [(.int .i64 0), (.int .i64 0), (.int .i64 0), (.int .i64 0), (.int .i64 0), (.int .i64 0), (.int .i64 0), (.int .i64 0), (.string ⟨#[]⟩), (.string ⟨#[]⟩), (.string ⟨#[]⟩), (.string ⟨#[]⟩), (.int .i64 0), (.int .i64 0), (.int .i64 0), (.int .i64 0), (.int .i64 0), (.int .i64 0), (.int .i64 0), (.int .i64 0), (.bool false)]) [(.res 8), (.res 10)] none [(15, .ld, [(.res 14)], none)]
    (.x 18 (.app 37 21 200 [(.int .i64 0), (.int .i64 0), (.int .i64 0), (.int .i64 0), (.int .i64 0), (.int .i64 0), (.int .i64 0), (.int .i64 0), (.string ⟨#[]⟩), (.string ⟨#[]⟩), (.string ⟨#[]⟩), (.string ⟨#[]⟩), (.int .i64 0), (.int .i64 0), (.int .i64 0), (.int .i64 0), (.int .i64 0), (.int .i64 0), (.int .i64 0), (.int .i64 0), (.bool false)]) [(.res 11), (.res 17)] none []
    (.q 19 .nilck [(.slot 0)] none
    (.q 20 (.fld 1) [(.res 19)] none
    (.x 21 (.st 1) [(.res 20), (.res 18)] none []
    (.out []))))))))))
    (.x 10 (.bsl 37 1 [(.int .i64 0), (.int .i64 0), (.int .i64 0), (.int .i64 0), (.int .i64 0), (.int .i64 0), (.int .i64 0), (.int .i64 0), (.string ⟨#[]⟩), (.string ⟨#[]⟩), (.string ⟨#[]⟩), (.string ⟨#[]⟩), (.int .i64 0), (.int .i64 0), (.int .i64 0), (.int .i64 0), (.int .i64 0), (.int .i64 0), (.int .i64 0), (.int .i64 0), (.bool false)] [(0, 21)]) [(.res 9)] none [(5, .ld, [(.res 4)], none), (15, .ld, [(.res 14)], none)]
    (.x 1 (.bsl 37 0 [] []) [] none [(5, .ld, [(.res 4)], none), (9, (.lda 21), [(.slot 5)], none), (15, .ld, [(.res 14)], none)]
    (.x 8 (.app 37 21 200 [(.int .i64 0), (.int .i64 0), (.int .i64 0), (.int .i64 0), (.int .i64 0), (.int .i64 0), (.int .i64 0), (.int .i64 0), (.string ⟨#[]⟩), (.string ⟨#[]⟩), (.string ⟨#[]⟩), (.string ⟨#[]⟩), (.int .i64 0), (.int .i64 0), (.int .i64 0), (.int .i64 0), (.int .i64 0), (.int .i64 0), (.int .i64 0), (.int .i64 0), (.bool false)]) [(.res 1), (.res 7)] none [(9, (.lda 21), [(.slot 5)], none), (15, .ld, [(.res 14)], none)]
    (.x 11 (.app 37 21 200 [(.int .i64 0), (.int .i64 0), (.int .i64 0), (.int .i64 0), (.int .i64 0), (.int .i64 0), (.int .i64 0), (.int .i64 0), (.string ⟨#[]⟩), (.string ⟨#[]⟩), (.string ⟨#[]⟩), (.string ⟨#[]⟩), (.int .i64 0), (.int .i64 0), (.int .i64 0), (.int .i64 0), (.int .i64 0), (.int .i64 0), (.int .i64 0), (.int .i64 0), (.bool false)]) [(.res 8), (.res 10)] none [(15, .ld, [(.res 14)], none)]
    (.x 18 (.app 37 21 200 [(.int .i64 0), (.int .i64 0), (.int .i64 0), (.int .i64 0), (.int .i64 0), (.int .i64 0), (.int .i64 0), (.int .i64 0), (.string ⟨#[]⟩), (.string ⟨#[]⟩), (.string ⟨#[]⟩), (.string ⟨#[]⟩), (.int .i64 0), (.int .i64 0), (.int .i64 0), (.int .i64 0), (.int .i64 0), (.int .i64 0), (.int .i64 0), (.int .i64 0), (.bool false)]) [(.res 11), (.res 17)] none []
    (.q 19 .nilck [(.slot 0)] none
    (.q 20 (.fld 1) [(.res 19)] none
    (.x 21 (.st 1) [(.res 20), (.res 18)] none []
    (.out [])))))))))))))))))))
    [0, 5, 7]
abbrev ref15_Log_Set_r12 : NC := .reg
    (.out [(6, (.const (.bool true)))])
    []
abbrev ref15_Log_Set_c : NC :=
  (.seq ref15_Log_Set_r0
  (.seq (.seq ref15_Log_Set_r1
  (.cond (.slot 22)
    (.seq ref15_Log_Set_r2
    .ret)
    .skip))
  (.seq ref15_Log_Set_r3
  (.seq (.seq ref15_Log_Set_r4
  (.cond (.slot 29)
    (.seq ref15_Log_Set_r5
    (.seq (.seq ref15_Log_Set_r6
    (.cond (.slot 86)
      (.seq ref15_Log_Set_r7
      .ret)
      .skip))
    (.seq ref15_Log_Set_r8
    (.seq ref15_Log_Set_r9
    .ret))))
    .skip))
  (.seq ref15_Log_Set_r10
  (.seq ref15_Log_Set_r11
  (.seq ref15_Log_Set_r12
  .ret)))))))
abbrev ref15_Log_Set_F : FN := ⟨ref15_Log_Set_c, [.slot 6]⟩
theorem ref15_Log_Set_ok : compF Try.prog Try.f23 = some ref15_Log_Set_F := by kernel_rfl
theorem ref15_Log_Set_go {args : List Value} {m : Mem} {R : Value → Mem → Prop} (hn : args.length ≤ Try.f23.ntmps) (h : wpN Try.prog ref15_Log_Set_c (retP ref15_Log_Set_F.rvs R) (zipP 0 args) m) : MC Try.prog 23 args m R := MC_start Try.func23 ref15_Log_Set_ok mixed_ok hn h
/-! (*concord/concordref15.Log).Cell -/
abbrev ref15_Log_Cell_r0 : NC := .reg
    (.x 0 (.box 28) [(.slot 1)] none []
    (.x 1 (.alc [(.int .i64 0), (.int .i64 0), (.int .i64 0), (.int .i64 0), (.int .i64 0), (.int .i64 0), (.int .i64 0), (.int .i64 0), (.string ⟨#[]⟩), (.string ⟨#[]⟩), (.string ⟨#[]⟩), (.string ⟨#[]⟩), (.int .i64 0), (.int .i64 0), (.int .i64 0), (.int .i64 0), (.int .i64 0), (.int .i64 0), (.int .i64 0), (.int .i64 0), (.bool false)] 37) [] none []
    (.out [(0, (.slot 0)), (3, (.res 0)), (4, (.res 1))])))
    [0, 1]
abbrev ref15_Log_Cell_r1 : NC := .reg
    (.q 1 (.lda 2) [(.slot 3)] none
    (.x 2 (.call 41) [(.slot 0), (.res 1)] none []
    (.q 4 (.ext 0) [(.res 2)] none
    (.q 5 (.ext 1) [(.res 2)] none
    (.out [(0, (.slot 0)), (4, (.slot 4)), (6, (.res 4)), (7, (.res 5))])))))
    [0, 3, 4]
abbrev ref15_Log_Cell_r2 : NC := .reg
    (.out [(0, (.slot 0)), (4, (.slot 4)), (6, (.slot 6)), (14, (.slot 7))])
    [0, 4, 6, 7]
abbrev ref15_Log_Cell_r3 : NC := .reg
    (.q 1 .nilck [(.slot 0)] none
    (.q 2 (.fld 1) [(.res 1)] none
    (.q 3 .ld [(.res 2)] none
    (.q 5 (.ixs 21) [(.res 3), (.slot 6)] none
    (.q 6 (.lda 21) [(.res 5)] none
    (.x 7 (.st 21) [(.slot 4), (.res 6)] none []
    (.out [(4, (.slot 4)), (5, (.const (.bool true)))])))))))
    [0, 4, 6]
abbrev ref15_Log_Cell_r4 : NC := .reg
    (.q 0 (.bld [(.int .i64 0), (.int .i64 0), (.int .i64 0), (.int .i64 0), (.int .i64 0), (.int .i64 0), (.int .i64 0), (.int .i64 0), (.string ⟨#[]⟩), (.string ⟨#[]⟩), (.string ⟨#[]⟩), (.string ⟨#[]⟩), (.int .i64 0), (.int .i64 0), (.int .i64 0), (.int .i64 0), (.int .i64 0), (.int .i64 0), (.int .i64 0), (.int .i64 0), (.bool false)] []) [] none
    (.x 1 (.st 21) [(.slot 4), (.res 0)] none []
    (.out [(4, (.slot 4)), (5, (.const (.bool false)))])))
    [4]
abbrev ref15_Log_Cell_c : NC :=
  (.seq ref15_Log_Cell_r0
  (.seq (.seq ref15_Log_Cell_r1
  (.seq ref15_Log_Cell_r2
  (.cond (.slot 14)
    (.seq ref15_Log_Cell_r3
    .ret)
    .skip)))
  (.seq ref15_Log_Cell_r4
  .ret)))
abbrev ref15_Log_Cell_F : FN := ⟨ref15_Log_Cell_c, [.cells 4 21, .slot 5]⟩
theorem ref15_Log_Cell_ok : compF Try.prog Try.f24 = some ref15_Log_Cell_F := by kernel_rfl
theorem ref15_Log_Cell_go {args : List Value} {m : Mem} {R : Value → Mem → Prop} (hn : args.length ≤ Try.f24.ntmps) (h : wpN Try.prog ref15_Log_Cell_c (retP ref15_Log_Cell_F.rvs R) (zipP 0 args) m) : MC Try.prog 24 args m R := MC_start Try.func24 ref15_Log_Cell_ok mixed_ok hn h
/-! (*concord/concordref15.Log).Gone -/
abbrev ref15_Log_Gone_r0 : NC := .reg
    (.x 0 (.box 28) [(.slot 1)] none []
    (.out [(0, (.slot 0)), (3, (.res 0))]))
    [0, 1]
abbrev ref15_Log_Gone_r1 : NC := .reg
    (.q 0 (.lda 2) [(.slot 3)] none
    (.x 1 (.call 40) [(.res 0)] none []
    (.q 3 (.fld 1) [(.slot 3)] (some ((.res 1), true))
    (.q 4 .ld [(.res 3)] (some ((.res 1), true))
    (.q 5 .mv [(.slot 0)] (some ((.res 1), true))
    (.q 6 (.fld 0) [(.slot 3)] (some ((.res 1), true))
    (.q 7 .ld [(.res 6)] (some ((.res 1), true))
    (.q 8 .nilck [(.res 5)] (some ((.res 1), true))
    (.q 9 (.fld 2) [(.res 8)] (some ((.res 1), true))
    (.q 10 (.ixa 7 1) [(.res 9), (.res 7)] (some ((.res 1), true))
    (.q 11 .ld [(.res 10)] (some ((.res 1), true))
    (.q 12 (.icm .leq) [(.res 4), (.res 11)] (some ((.res 1), true))
    (.q 13 .pick [(.res 1), (.res 12), (.const (.bool false))] none
    (.out [(4, (.res 13))]))))))))))))))
    [0, 3]
abbrev ref15_Log_Gone_c : NC :=
  (.seq ref15_Log_Gone_r0
  (.seq ref15_Log_Gone_r1
  .ret))
abbrev ref15_Log_Gone_F : FN := ⟨ref15_Log_Gone_c, [.slot 4]⟩
theorem ref15_Log_Gone_ok : compF Try.prog Try.f25 = some ref15_Log_Gone_F := by kernel_rfl
theorem ref15_Log_Gone_go {args : List Value} {m : Mem} {R : Value → Mem → Prop} (hn : args.length ≤ Try.f25.ntmps) (h : wpN Try.prog ref15_Log_Gone_c (retP ref15_Log_Gone_F.rvs R) (zipP 0 args) m) : MC Try.prog 25 args m R := MC_start Try.func25 ref15_Log_Gone_ok mixed_ok hn h
/-! concord/concordref15.Replay -/
abbrev ref15_Replay_r0 : NC := .reg
    (.x 0 (.alc [(.int .i64 0), (.int .i64 0)] 28) [] none []
    (.x 1 (.alc [(.int .i64 0), (.int .i64 0), (.int .i64 0), (.int .i64 0), (.int .i64 0), (.int .i64 0), (.int .i64 0), (.int .i64 0), (.string ⟨#[]⟩), (.string ⟨#[]⟩), (.string ⟨#[]⟩), (.string ⟨#[]⟩), (.int .i64 0), (.int .i64 0), (.int .i64 0), (.int .i64 0), (.int .i64 0), (.int .i64 0), (.int .i64 0), (.int .i64 0), (.bool false)] 37) [] none []
    (.out [(0, (.slot 0)), (2, (.res 0)), (3, (.res 1))])))
    [0]
abbrev ref15_Replay_r1 : NC := .reg
    (.x 1 (.call 47) [(.slot 0)] none []
    (.out [(2, (.slot 2)), (3, (.slot 3)), (5, (.res 1))]))
    [0, 2, 3]
abbrev ref15_Replay_r2 : NC := .reg
    (.x 1 (.call 48) [(.slot 5)] none []
    (.x 2 (.alc [(.int .i64 0), (.int .i64 0)] 28) [] none []
    (.x 3 (.st 2) [(.res 2), (.res 1)] none []
    (.out [(2, (.slot 2)), (3, (.slot 3)), (5, (.slot 5)), (6, (.res 2))]))))
    [2, 3, 5]
abbrev ref15_Replay_r3 : NC := .reg
    (.x 1 (.call 49) [(.slot 5)] none []
    (.x 2 (.alc [(.int .i64 0), (.int .i64 0), (.int .i64 0), (.int .i64 0), (.int .i64 0), (.int .i64 0), (.int .i64 0), (.int .i64 0), (.string ⟨#[]⟩), (.string ⟨#[]⟩), (.string ⟨#[]⟩), (.string ⟨#[]⟩), (.int .i64 0), (.int .i64 0), (.int .i64 0), (.int .i64 0), (.int .i64 0), (.int .i64 0), (.int .i64 0), (.int .i64 0), (.bool false)] 37) [] none []
    (.x 3 (.st 21) [(.res 2), (.res 1)] none []
    (.out [(2, (.slot 2)), (3, (.slot 3)), (5, (.slot 5)), (6, (.slot 6)), (7, (.res 2))]))))
    [2, 3, 5, 6]
abbrev ref15_Replay_r4 : NC := .reg
    (.x 1 (.call 50) [(.slot 5)] none []
    (.out [(2, (.slot 2)), (3, (.slot 3)), (6, (.slot 6)), (7, (.slot 7)), (8, (.res 1))]))
    [2, 3, 5, 6, 7]
abbrev ref15_Replay_r5 : NC := .reg
    (.q 1 (.icm .neq) [(.slot 8), (.const (.int .i64 0))] none
    (.out [(2, (.slot 2)), (3, (.slot 3)), (6, (.slot 6)), (7, (.slot 7)), (8, (.slot 8)), (18, (.res 1))]))
    [2, 3, 6, 7, 8]
abbrev ref15_Replay_r6 : NC := .reg
    (.q 0 (.bld [(.int .i64 0), (.int .i64 0)] []) [] none
    (.q 1 (.bld [(.int .i64 0), (.int .i64 0), (.int .i64 0), (.int .i64 0), (.int .i64 0), (.int .i64 0), (.int .i64 0), (.int .i64 0), (.string ⟨#[]⟩), (.string ⟨#[]⟩), (.string ⟨#[]⟩), (.string ⟨#[]⟩), (.int .i64 0), (.int .i64 0), (.int .i64 0), (.int .i64 0), (.int .i64 0), (.int .i64 0), (.int .i64 0), (.int .i64 0), (.bool false)] []) [] none
    (.x 3 (.st 2) [(.slot 2), (.res 0)] none []
    (.x 4 (.st 21) [(.slot 3), (.res 1)] none []
    (.out [(2, (.slot 2)), (3, (.slot 3)), (4, (.slot 8))])))))
    [2, 3, 8]
abbrev ref15_Replay_r7 : NC := .reg
    (.q 0 (.lda 2) [(.slot 6)] none
    (.x 1 (.call 40) [(.res 0)] none []
    (.q 2 .not [(.res 1)] none
    (.out [(2, (.slot 2)), (3, (.slot 3)), (6, (.slot 6)), (7, (.slot 7)), (24, (.res 2))]))))
    [2, 3, 6, 7]
abbrev ref15_Replay_r8 : NC := .reg
    (.q 0 (.bld [(.int .i64 0), (.int .i64 0)] []) [] none
    (.q 1 (.bld [(.int .i64 0), (.int .i64 0), (.int .i64 0), (.int .i64 0), (.int .i64 0), (.int .i64 0), (.int .i64 0), (.int .i64 0), (.string ⟨#[]⟩), (.string ⟨#[]⟩), (.string ⟨#[]⟩), (.string ⟨#[]⟩), (.int .i64 0), (.int .i64 0), (.int .i64 0), (.int .i64 0), (.int .i64 0), (.int .i64 0), (.int .i64 0), (.int .i64 0), (.bool false)] []) [] none
    (.x 2 (.st 2) [(.slot 2), (.res 0)] none []
    (.x 3 (.st 21) [(.slot 3), (.res 1)] none []
    (.out [(2, (.slot 2)), (3, (.slot 3)), (4, (.const (.int .i64 4)))])))))
    [2, 3]
abbrev ref15_Replay_r9 : NC := .reg
    (.q 0 (.lda 2) [(.slot 6)] none
    (.q 1 (.lda 21) [(.slot 7)] none
    (.x 2 (.st 2) [(.slot 2), (.res 0)] none [(1, (.lda 21), [(.slot 7)], none)]
    (.x 3 (.st 21) [(.slot 3), (.res 1)] none []
    (.out [(2, (.slot 2)), (3, (.slot 3)), (4, (.const (.int .i64 0)))])))))
    [2, 3, 6, 7]
abbrev ref15_Replay_c : NC :=
  (.seq ref15_Replay_r0
  (.seq ref15_Replay_r1
  (.seq ref15_Replay_r2
  (.seq ref15_Replay_r3
  (.seq (.seq ref15_Replay_r4
  (.seq ref15_Replay_r5
  (.cond (.slot 18)
    (.seq ref15_Replay_r6
    .ret)
    .skip)))
  (.seq (.seq ref15_Replay_r7
  (.cond (.slot 24)
    (.seq ref15_Replay_r8
    .ret)
    .skip))
  (.seq ref15_Replay_r9
  .ret)))))))
abbrev ref15_Replay_F : FN := ⟨ref15_Replay_c, [.cells 2 2, .cells 3 21, .slot 4]⟩
theorem ref15_Replay_ok : compF Try.prog Try.f27 = some ref15_Replay_F := by kernel_rfl
theorem ref15_Replay_go {args : List Value} {m : Mem} {R : Value → Mem → Prop} (hn : args.length ≤ Try.f27.ntmps) (h : wpN Try.prog ref15_Replay_c (retP ref15_Replay_F.rvs R) (zipP 0 args) m) : MC Try.prog 27 args m R := MC_start Try.func27 ref15_Replay_ok mixed_ok hn h
/-! concord/concordref15.RightCell -/
abbrev ref15_RightCell_r0 : NC := .reg
    (.x 0 (.box 37) [(.slot 0)] none []
    (.out [(1, (.res 0))]))
    [0]
abbrev ref15_RightCell_r1 : NC := .reg
    (.q 0 (.fld 0) [(.slot 1)] none
    (.q 1 .ld [(.res 0)] none
    (.q 2 (.icm .lss) [(.res 1), (.const (.int .i64 0))] none
    (.q 4 (.fld 0) [(.slot 1)] (some ((.res 2), false))
    (.q 5 .ld [(.res 4)] (some ((.res 2), false))
    (.q 6 (.icm .gtr) [(.res 5), (.const (.int .i64 3))] (some ((.res 2), false))
    (.q 7 .pick [(.res 2), (.const (.bool true)), (.res 6)] none
    (.q 9 (.fld 1) [(.slot 1)] (some ((.res 7), false))
    (.q 10 (.lda 2) [(.res 9)] (some ((.res 7), false))
    (.x 11 (.call 51) [(.res 10)] (some ((.res 7), false)) []
    (.q 12 .not [(.res 11)] (some ((.res 7), false))
    (.q 13 .pick [(.res 7), (.const (.bool true)), (.res 12)] none
    (.q 15 (.fld 3) [(.slot 1)] (some ((.res 13), false))
    (.q 16 (.lda 2) [(.res 15)] (some ((.res 13), false))
    (.x 17 (.call 51) [(.res 16)] (some ((.res 13), false)) []
    (.q 18 .not [(.res 17)] (some ((.res 13), false))
    (.q 19 .pick [(.res 13), (.const (.bool true)), (.res 18)] none
    (.q 21 (.fld 5) [(.slot 1)] (some ((.res 19), false))
    (.q 22 (.lda 7) [(.res 21)] (some ((.res 19), false))
    (.x 23 (.call 52) [(.res 22)] (some ((.res 19), false)) []
    (.q 24 .not [(.res 23)] (some ((.res 19), false))
    (.q 25 .pick [(.res 19), (.const (.bool true)), (.res 24)] none
    (.q 27 (.fld 12) [(.slot 1)] (some ((.res 25), false))
    (.q 28 (.lda 8) [(.res 27)] (some ((.res 25), false))
    (.x 29 (.call 53) [(.res 28)] (some ((.res 25), false)) []
    (.q 30 .not [(.res 29)] (some ((.res 25), false))
    (.q 31 .pick [(.res 25), (.const (.bool true)), (.res 30)] none
    (.q 33 (.fld 1) [(.slot 1)] (some ((.res 31), false))
    (.q 34 (.lda 2) [(.res 33)] (some ((.res 31), false))
    (.q 35 (.fld 3) [(.slot 1)] (some ((.res 31), false))
    (.q 36 (.lda 2) [(.res 35)] (some ((.res 31), false))
    (.x 37 (.call 42) [(.res 34), (.res 36)] (some ((.res 31), false)) []
    (.q 38 .pick [(.res 31), (.const (.bool true)), (.res 37)] none
    (.q 40 (.fld 20) [(.slot 1)] (some ((.res 38), false))
    (.q 41 .ld [(.res 40)] (some ((.res 38), false))
    (.q 42 .mv [(.res 41)] (some ((.res 38), false))
    (.q 43 (.fld 0) [(.slot 1)] (some ((.res 42), true))
    (.q 44 .ld [(.res 43)] (some ((.res 42), true))
    (.q 45 (.icm .neq) [(.res 44), (.const (.int .i64 1))] (some ((.res 42), true))
    (.q 46 .mv [(.res 45)] (some ((.res 42), true))
    (.q 47 (.fld 3) [(.slot 1)] (some ((.res 46), false))
    (.q 48 (.lda 2) [(.res 47)] (some ((.res 46), false))
    (.q 49 (.bld [(.int .i64 0), (.int .i64 0)] []) [] (some ((.res 46), false))
    (.q 50 (.eqc true [(.i .i64), (.i .i64)]) [(.res 48), (.res 49)] (some ((.res 46), false))
    (.q 51 .pick [(.res 46), (.const (.bool true)), (.res 50)] (some ((.res 42), true))
    (.q 52 .pick [(.res 42), (.res 51), (.const (.bool false))] (some ((.res 38), false))
    (.q 53 .pick [(.res 38), (.const (.bool true)), (.res 52)] none
    (.out [(1, (.slot 1)), (56, (.res 53))]))))))))))))))))))))))))))))))))))))))))))))))))
    [1]
abbrev ref15_RightCell_r2 : NC := .reg
    (.out [(2, (.const (.bool false)))])
    []
abbrev ref15_RightCell_r3 : NC := .reg
    (.q 0 (.fld 0) [(.slot 1)] none
    (.q 1 .ld [(.res 0)] none
    (.q 2 (.icm .neq) [(.res 1), (.const (.int .i64 0))] none
    (.q 4 (.fld 5) [(.slot 1)] (some ((.res 2), false))
    (.q 5 (.lda 7) [(.res 4)] (some ((.res 2), false))
    (.q 6 (.bld [(.int .i64 0), (.int .i64 0), (.int .i64 0), (.string ⟨#[]⟩), (.string ⟨#[]⟩), (.string ⟨#[]⟩), (.string ⟨#[]⟩)] []) [] (some ((.res 2), false))
    (.q 7 (.eqc false [(.i .i64), (.i .i64), (.i .i64), .s, .s, .s, .s]) [(.res 5), (.res 6)] (some ((.res 2), false))
    (.q 8 .mv [(.res 7)] (some ((.res 2), false))
    (.q 9 (.fld 12) [(.slot 1)] (some ((.res 8), true))
    (.q 10 (.lda 8) [(.res 9)] (some ((.res 8), true))
    (.q 11 (.bld [(.int .i64 0), (.int .i64 0), (.int .i64 0), (.int .i64 0), (.int .i64 0), (.int .i64 0), (.int .i64 0), (.int .i64 0)] []) [] (some ((.res 8), true))
    (.q 12 (.eqc false [(.i .i64), (.i .i64), (.i .i64), (.i .i64), (.i .i64), (.i .i64), (.i .i64), (.i .i64)]) [(.res 10), (.res 11)] (some ((.res 8), true))
    (.q 13 .pick [(.res 8), (.res 12), (.const (.bool false))] (some ((.res 2), false))
    (.q 14 .mv [(.res 13)] (some ((.res 2), false))
    (.q 15 (.fld 3) [(.slot 1)] (some ((.res 14), true))
    (.q 16 (.lda 2) [(.res 15)] (some ((.res 14), true))
    (.q 17 (.bld [(.int .i64 0), (.int .i64 0)] []) [] (some ((.res 14), true))
    (.q 18 (.eqc false [(.i .i64), (.i .i64)]) [(.res 16), (.res 17)] (some ((.res 14), true))
    (.q 19 .pick [(.res 14), (.res 18), (.const (.bool false))] (some ((.res 2), false))
    (.q 20 .pick [(.res 2), (.const (.bool true)), (.res 19)] none
    (.out [(2, (.res 20))])))))))))))))))))))))
    [1]
abbrev ref15_RightCell_c : NC :=
  (.seq ref15_RightCell_r0
  (.seq (.seq ref15_RightCell_r1
  (.cond (.slot 56)
    (.seq ref15_RightCell_r2
    .ret)
    .skip))
  (.seq ref15_RightCell_r3
  .ret)))
abbrev ref15_RightCell_F : FN := ⟨ref15_RightCell_c, [.slot 2]⟩
theorem ref15_RightCell_ok : compF Try.prog Try.f28 = some ref15_RightCell_F := by kernel_rfl
theorem ref15_RightCell_go {args : List Value} {m : Mem} {R : Value → Mem → Prop} (hn : args.length ≤ Try.f28.ntmps) (h : wpN Try.prog ref15_RightCell_c (retP ref15_RightCell_F.rvs R) (zipP 0 args) m) : MC Try.prog 28 args m R := MC_start Try.func28 ref15_RightCell_ok mixed_ok hn h
/-! concord/concordref15.Record -/
abbrev ref15_Record_r0 : NC := .reg
    (.x 0 (.box 28) [(.slot 0)] none []
    (.x 1 (.box 37) [(.slot 1)] none []
    (.out [(2, (.res 0)), (3, (.res 1))])))
    [0, 1]
abbrev ref15_Record_r1 : NC := .reg
    (.q 0 (.lda 2) [(.slot 2)] none
    (.q 2 (.lda 21) [(.slot 3)] none
    (.x 1 (.call 57) [(.const (.slice none 0 0)), (.res 0)] none [(2, (.lda 21), [(.slot 3)], none)]
    (.x 3 (.call 56) [(.res 1), (.res 2)] none []
    (.out [(4, (.res 3))])))))
    [2, 3]
abbrev ref15_Record_c : NC :=
  (.seq ref15_Record_r0
  (.seq ref15_Record_r1
  .ret))
abbrev ref15_Record_F : FN := ⟨ref15_Record_c, [.slot 4]⟩
theorem ref15_Record_ok : compF Try.prog Try.f31 = some ref15_Record_F := by kernel_rfl
theorem ref15_Record_go {args : List Value} {m : Mem} {R : Value → Mem → Prop} (hn : args.length ≤ Try.f31.ntmps) (h : wpN Try.prog ref15_Record_c (retP ref15_Record_F.rvs R) (zipP 0 args) m) : MC Try.prog 31 args m R := MC_start Try.func31 ref15_Record_ok mixed_ok hn h
/-! (*concord/concordref15.Log).Top -/
abbrev ref15_Log_Top_r0 : NC := .reg
    (.x 0 (.alc [(.int .i64 0), (.int .i64 0), (.int .i64 0), (.int .i64 0), (.int .i64 0), (.int .i64 0), (.int .i64 0)] 25) [] none []
    (.out [(0, (.slot 0)), (2, (.res 0))]))
    [0]
abbrev ref15_Log_Top_r1 : NC := .reg
    (.q 1 .nilck [(.slot 0)] none
    (.q 2 (.fld 2) [(.res 1)] none
    (.q 3 (.lda 7) [(.res 2)] none
    (.x 4 (.alc [(.int .i64 0), (.int .i64 0), (.int .i64 0), (.int .i64 0), (.int .i64 0), (.int .i64 0), (.int .i64 0)] 25) [] none []
    (.x 5 (.st 7) [(.res 4), (.res 3)] none []
    (.out [(0, (.slot 0)), (2, (.slot 2)), (3, (.res 4))]))))))
    [0, 2]
abbrev ref15_Log_Top_r2 : NC := .reg
    (.out [(0, (.slot 0)), (2, (.slot 2)), (3, (.slot 3)), (4, (.const (.int .i64 0)))])
    [0, 2, 3]
abbrev ref15_Log_Top_r3 : NC := .reg
    (.q 2 .nilck [(.slot 0)] none
    (.q 3 (.fld 0) [(.res 2)] none
    (.q 4 .ld [(.res 3)] none
    (.q 5 .len [(.res 4)] none
    (.q 6 (.icm .lss) [(.slot 4), (.res 5)] none
    (.out [(0, (.slot 0)), (2, (.slot 2)), (3, (.slot 3)), (4, (.slot 4)), (15, (.res 6))]))))))
    [0, 2, 3, 4]
abbrev ref15_Log_Top_r4 : NC := .reg
    (.q 1 .nilck [(.slot 0)] none
    (.q 2 (.fld 0) [(.res 1)] none
    (.q 3 .ld [(.res 2)] none
    (.q 5 (.ixs 2) [(.res 3), (.slot 4)] none
    (.q 6 (.fld 0) [(.res 5)] none
    (.q 7 .ld [(.res 6)] none
    (.q 9 .nilck [(.slot 0)] none
    (.q 10 (.fld 0) [(.res 9)] none
    (.q 11 .ld [(.res 10)] none
    (.q 13 (.ixs 2) [(.res 11), (.slot 4)] none
    (.q 14 (.fld 0) [(.res 13)] none
    (.q 15 .ld [(.res 14)] none
    (.q 16 (.ixa 7 1) [(.slot 3), (.res 15)] none
    (.q 17 .ld [(.res 16)] none
    (.q 19 .nilck [(.slot 0)] none
    (.q 20 (.fld 0) [(.res 19)] none
    (.q 21 .ld [(.res 20)] none
    (.q 23 (.ixs 2) [(.res 21), (.slot 4)] none
    (.q 24 (.fld 1) [(.res 23)] none
    (.q 25 .ld [(.res 24)] none
    (.q 26 .mx [(.res 17), (.res 25)] none
    (.q 27 (.ixa 7 1) [(.slot 3), (.res 7)] none
    (.x 28 (.st 1) [(.res 27), (.res 26)] none []
    (.out [(0, (.slot 0)), (2, (.slot 2)), (3, (.slot 3)), (4, (.slot 4))]))))))))))))))))))))))))
    [0, 2, 3, 4]
abbrev ref15_Log_Top_r5 : NC := .reg
    (.q 1 (.iar .add) [(.slot 4), (.const (.int .i64 1))] none
    (.out [(0, (.slot 0)), (2, (.slot 2)), (3, (.slot 3)), (4, (.res 1))]))
    [0, 2, 3, 4]
abbrev ref15_Log_Top_l0 : NC :=
  (.seq (.seq ref15_Log_Top_r3
  (.cond (.slot 15)
    .skip
    (.exit 0)))
  (.seq (.block 1 ref15_Log_Top_r4)
  ref15_Log_Top_r5))
abbrev ref15_Log_Top_r6 : NC := .reg
    (.q 0 (.lda 7) [(.slot 3)] none
    (.x 1 (.st 7) [(.slot 2), (.res 0)] none []
    (.out [(2, (.slot 2))])))
    [2, 3]
abbrev ref15_Log_Top_c : NC :=
  (.seq ref15_Log_Top_r0
  (.seq ref15_Log_Top_r1
  (.seq (.seq ref15_Log_Top_r2
  (.block 0 (.loop [0, 2, 3, 4] ref15_Log_Top_l0)))
  (.seq ref15_Log_Top_r6
  .ret))))
abbrev ref15_Log_Top_F : FN := ⟨ref15_Log_Top_c, [.cells 2 7]⟩
theorem ref15_Log_Top_ok : compF Try.prog Try.f39 = some ref15_Log_Top_F := by kernel_rfl
theorem ref15_Log_Top_go {args : List Value} {m : Mem} {R : Value → Mem → Prop} (hn : args.length ≤ Try.f39.ntmps) (h : wpN Try.prog ref15_Log_Top_c (retP ref15_Log_Top_F.rvs R) (zipP 0 args) m) : MC Try.prog 39 args m R := MC_start Try.func39 ref15_Log_Top_ok mixed_ok hn h
/-! concord/concordref1.RightInst -/
abbrev ref1_RightInst_r0 : NC := .reg
    (.x 0 (.box 28) [(.slot 0)] none []
    (.out [(1, (.res 0))]))
    [0]
abbrev ref1_RightInst_r1 : NC := .reg
    (.q 0 (.fld 0) [(.slot 1)] none
    (.q 1 .ld [(.res 0)] none
    (.q 2 (.icm .geq) [(.res 1), (.const (.int .i64 0))] none
    (.q 4 (.fld 0) [(.slot 1)] (some ((.res 2), true))
    (.q 5 .ld [(.res 4)] (some ((.res 2), true))
    (.q 6 (.icm .lss) [(.res 5), (.const (.int .i64 7))] (some ((.res 2), true))
    (.q 7 .pick [(.res 2), (.res 6), (.const (.bool false))] none
    (.q 9 (.fld 1) [(.slot 1)] (some ((.res 7), true))
    (.q 10 .ld [(.res 9)] (some ((.res 7), true))
    (.q 11 (.icm .geq) [(.res 10), (.const (.int .i64 1))] (some ((.res 7), true))
    (.q 12 .pick [(.res 7), (.res 11), (.const (.bool false))] none
    (.q 14 (.fld 1) [(.slot 1)] (some ((.res 12), true))
    (.q 15 .ld [(.res 14)] (some ((.res 12), true))
    (.q 16 (.icm .leq) [(.res 15), (.const (.int .i64 1073741824))] (some ((.res 12), true))
    (.q 17 .pick [(.res 12), (.res 16), (.const (.bool false))] none
    (.out [(2, (.res 17))]))))))))))))))))
    [1]
abbrev ref1_RightInst_c : NC :=
  (.seq ref1_RightInst_r0
  (.seq ref1_RightInst_r1
  .ret))
abbrev ref1_RightInst_F : FN := ⟨ref1_RightInst_c, [.slot 2]⟩
theorem ref1_RightInst_ok : compF Try.prog Try.f40 = some ref1_RightInst_F := by kernel_rfl
theorem ref1_RightInst_go {args : List Value} {m : Mem} {R : Value → Mem → Prop} (hn : args.length ≤ Try.f40.ntmps) (h : wpN Try.prog ref1_RightInst_c (retP ref1_RightInst_F.rvs R) (zipP 0 args) m) : MC Try.prog 40 args m R := MC_start Try.func40 ref1_RightInst_ok mixed_ok hn h
/-! (*concord/concordref15.Log).at -/
abbrev ref15_Log_at_r0 : NC := .reg
    (.x 0 (.box 28) [(.slot 1)] none []
    (.out [(0, (.slot 0)), (3, (.res 0))]))
    [0, 1]
abbrev ref15_Log_at_r1 : NC := .reg
    (.out [(0, (.slot 0)), (3, (.slot 3)), (6, (.const (.int .i64 0)))])
    [0, 3]
abbrev ref15_Log_at_r2 : NC := .reg
    (.q 2 .nilck [(.slot 0)] none
    (.q 3 (.fld 0) [(.res 2)] none
    (.q 4 .ld [(.res 3)] none
    (.q 5 .len [(.res 4)] none
    (.q 6 (.icm .lss) [(.slot 6), (.res 5)] none
    (.q 8 .mv [(.slot 0)] (some ((.res 6), true))
    (.q 9 .nilck [(.res 8)] (some ((.res 6), true))
    (.q 10 (.fld 0) [(.res 9)] (some ((.res 6), true))
    (.q 11 .ld [(.res 10)] (some ((.res 6), true))
    (.q 12 .mv [(.slot 6)] (some ((.res 6), true))
    (.q 13 (.ixs 2) [(.res 11), (.res 12)] (some ((.res 6), true))
    (.q 14 (.lda 2) [(.res 13)] (some ((.res 6), true))
    (.q 15 (.lda 2) [(.slot 3)] (some ((.res 6), true))
    (.x 16 (.call 63) [(.res 14), (.res 15)] (some ((.res 6), true)) []
    (.q 17 .pick [(.res 6), (.res 16), (.const (.bool false))] none
    (.out [(0, (.slot 0)), (3, (.slot 3)), (6, (.slot 6)), (24, (.res 17))]))))))))))))))))
    [0, 3, 6]
abbrev ref15_Log_at_r3 : NC := .reg
    (.q 1 (.iar .add) [(.slot 6), (.const (.int .i64 1))] none
    (.out [(0, (.slot 0)), (3, (.slot 3)), (6, (.res 1))]))
    [0, 3, 6]
abbrev ref15_Log_at_l0 : NC :=
  (.seq (.seq ref15_Log_at_r2
  (.cond (.slot 24)
    .skip
    (.exit 0)))
  (.block 1 ref15_Log_at_r3))
abbrev ref15_Log_at_r4 : NC := .reg
    (.q 3 .nilck [(.slot 0)] none
    (.q 4 (.fld 0) [(.res 3)] none
    (.q 5 .ld [(.res 4)] none
    (.q 6 .len [(.res 5)] none
    (.q 7 (.icm .lss) [(.slot 6), (.res 6)] none
    (.q 9 .mv [(.slot 0)] (some ((.res 7), true))
    (.q 10 .nilck [(.res 9)] (some ((.res 7), true))
    (.q 11 (.fld 0) [(.res 10)] (some ((.res 7), true))
    (.q 12 .ld [(.res 11)] (some ((.res 7), true))
    (.q 13 .mv [(.slot 6)] (some ((.res 7), true))
    (.q 14 (.ixs 2) [(.res 12), (.res 13)] (some ((.res 7), true))
    (.q 15 (.lda 2) [(.res 14)] (some ((.res 7), true))
    (.q 16 (.lda 2) [(.slot 3)] (some ((.res 7), true))
    (.q 17 (.eqc false [(.i .i64), (.i .i64)]) [(.res 15), (.res 16)] (some ((.res 7), true))
    (.q 18 .pick [(.res 7), (.res 17), (.const (.bool false))] none
    (.out [(4, (.slot 6)), (5, (.res 18))]))))))))))))))))
    [0, 3, 6]
abbrev ref15_Log_at_c : NC :=
  (.seq ref15_Log_at_r0
  (.seq ref15_Log_at_r1
  (.seq (.block 0 (.loop [0, 3, 6] ref15_Log_at_l0))
  (.seq ref15_Log_at_r4
  .ret))))
abbrev ref15_Log_at_F : FN := ⟨ref15_Log_at_c, [.slot 4, .slot 5]⟩
theorem ref15_Log_at_ok : compF Try.prog Try.f41 = some ref15_Log_at_F := by kernel_rfl
theorem ref15_Log_at_go {args : List Value} {m : Mem} {R : Value → Mem → Prop} (hn : args.length ≤ Try.f41.ntmps) (h : wpN Try.prog ref15_Log_at_c (retP ref15_Log_at_F.rvs R) (zipP 0 args) m) : MC Try.prog 41 args m R := MC_start Try.func41 ref15_Log_at_ok mixed_ok hn h
/-! concord/concordref1.Below -/
abbrev ref1_Below_r0 : NC := .reg
    (.x 0 (.box 31) [(.slot 0)] none []
    (.x 1 (.box 31) [(.slot 1)] none []
    (.out [(2, (.res 0)), (3, (.res 1))])))
    [0, 1]
abbrev ref1_Below_r1 : NC := .reg
    (.q 0 (.fld 0) [(.slot 2)] none
    (.q 1 .ld [(.res 0)] none
    (.q 2 (.fld 0) [(.slot 3)] none
    (.q 3 .ld [(.res 2)] none
    (.q 4 (.icm .lss) [(.res 1), (.res 3)] none
    (.q 6 (.fld 0) [(.slot 2)] (some ((.res 4), false))
    (.q 7 .ld [(.res 6)] (some ((.res 4), false))
    (.q 8 (.fld 0) [(.slot 3)] (some ((.res 4), false))
    (.q 9 .ld [(.res 8)] (some ((.res 4), false))
    (.q 10 (.icm .eql) [(.res 7), (.res 9)] (some ((.res 4), false))
    (.q 11 .mv [(.res 10)] (some ((.res 4), false))
    (.q 12 (.fld 1) [(.slot 2)] (some ((.res 11), true))
    (.q 13 .ld [(.res 12)] (some ((.res 11), true))
    (.q 14 (.fld 1) [(.slot 3)] (some ((.res 11), true))
    (.q 15 .ld [(.res 14)] (some ((.res 11), true))
    (.q 16 (.icm .lss) [(.res 13), (.res 15)] (some ((.res 11), true))
    (.q 17 .pick [(.res 11), (.res 16), (.const (.bool false))] (some ((.res 4), false))
    (.q 18 .pick [(.res 4), (.const (.bool true)), (.res 17)] none
    (.out [(4, (.res 18))])))))))))))))))))))
    [2, 3]
abbrev ref1_Below_c : NC :=
  (.seq ref1_Below_r0
  (.seq ref1_Below_r1
  .ret))
abbrev ref1_Below_F : FN := ⟨ref1_Below_c, [.slot 4]⟩
theorem ref1_Below_ok : compF Try.prog Try.f42 = some ref1_Below_F := by kernel_rfl
theorem ref1_Below_go {args : List Value} {m : Mem} {R : Value → Mem → Prop} (hn : args.length ≤ Try.f42.ntmps) (h : wpN Try.prog ref1_Below_c (retP ref1_Below_F.rvs R) (zipP 0 args) m) : MC Try.prog 42 args m R := MC_start Try.func42 ref1_Below_ok mixed_ok hn h
/-! concord/concordref1.Read -/
abbrev ref1_Read_r0 : NC := .reg
    (.out [(0, (.slot 0))])
    [0]
abbrev ref1_Read_r1 : NC := .reg
    (.q 1 (.bld [(.slice none 0 0), (.int .i64 0), (.int .i64 0)] [(0, 1)]) [(.slot 0)] none
    (.x 2 (.box 108) [(.res 1)] none []
    (.out [(2, (.res 2))])))
    [0]
abbrev ref1_Read_c : NC :=
  (.seq ref1_Read_r0
  (.seq ref1_Read_r1
  .ret))
abbrev ref1_Read_F : FN := ⟨ref1_Read_c, [.slot 2]⟩
theorem ref1_Read_ok : compF Try.prog Try.f47 = some ref1_Read_F := by kernel_rfl
theorem ref1_Read_go {args : List Value} {m : Mem} {R : Value → Mem → Prop} (hn : args.length ≤ Try.f47.ntmps) (h : wpN Try.prog ref1_Read_c (retP ref1_Read_F.rvs R) (zipP 0 args) m) : MC Try.prog 47 args m R := MC_start Try.func47 ref1_Read_ok mixed_ok hn h
/-! concord/concordref15.getInst -/
abbrev ref15_getInst_r0 : NC := .reg
    (.x 0 (.alc [(.int .i64 0), (.int .i64 0)] 28) [] none []
    (.out [(0, (.slot 0)), (2, (.res 0))]))
    [0]
abbrev ref15_getInst_r1 : NC := .reg
    (.x 1 (.call 73) [(.slot 0)] none []
    (.q 2 (.bld [(.int .i64 0), (.int .i64 0)] [(0, 1)]) [(.res 1)] none
    (.x 3 (.alc [(.int .i64 0), (.int .i64 0)] 28) [] none []
    (.x 4 (.st 2) [(.res 3), (.res 2)] none []
    (.out [(0, (.slot 0)), (2, (.slot 2)), (3, (.res 3))])))))
    [0, 2]
abbrev ref15_getInst_r2 : NC := .reg
    (.x 1 (.call 73) [(.slot 0)] none []
    (.q 2 (.fld 1) [(.slot 3)] none
    (.x 3 (.st 1) [(.res 2), (.res 1)] none []
    (.out [(2, (.slot 2)), (3, (.slot 3))]))))
    [0, 2, 3]
abbrev ref15_getInst_r3 : NC := .reg
    (.q 0 (.lda 2) [(.slot 3)] none
    (.x 1 (.st 2) [(.slot 2), (.res 0)] none []
    (.out [(2, (.slot 2))])))
    [2, 3]
abbrev ref15_getInst_c : NC :=
  (.seq ref15_getInst_r0
  (.seq ref15_getInst_r1
  (.seq ref15_getInst_r2
  (.seq ref15_getInst_r3
  .ret))))
abbrev ref15_getInst_F : FN := ⟨ref15_getInst_c, [.cells 2 2]⟩
theorem ref15_getInst_ok : compF Try.prog Try.f48 = some ref15_getInst_F := by kernel_rfl
theorem ref15_getInst_go {args : List Value} {m : Mem} {R : Value → Mem → Prop} (hn : args.length ≤ Try.f48.ntmps) (h : wpN Try.prog ref15_getInst_c (retP ref15_getInst_F.rvs R) (zipP 0 args) m) : MC Try.prog 48 args m R := MC_start Try.func48 ref15_getInst_ok mixed_ok hn h
/-! concord/concordref15.GetCell -/
abbrev ref15_GetCell_r0 : NC := .reg
    (.x 0 (.alc [(.int .i64 0), (.int .i64 0), (.int .i64 0), (.int .i64 0), (.int .i64 0), (.int .i64 0), (.int .i64 0), (.int .i64 0), (.string ⟨#[]⟩), (.string ⟨#[]⟩), (.string ⟨#[]⟩), (.string ⟨#[]⟩), (.int .i64 0), (.int .i64 0), (.int .i64 0), (.int .i64 0), (.int .i64 0), (.int .i64 0), (.int .i64 0), (.int .i64 0), (.bool false)] 37) [] none []
    (.out [(0, (.slot 0)), (2, (.res 0))]))
    [0]
abbrev ref15_GetCell_r1 : NC := .reg
    (.x 1 (.call 73) [(.slot 0)] none []
    (.q 2 (.bld [(.int .i64 0), (.int .i64 0), (.int .i64 0), (.int .i64 0), (.int .i64 0), (.int .i64 0), (.int .i64 0), (.int .i64 0), (.string ⟨#[]⟩), (.string ⟨#[]⟩), (.string ⟨#[]⟩), (.string ⟨#[]⟩), (.int .i64 0), (.int .i64 0), (.int .i64 0), (.int .i64 0), (.int .i64 0), (.int .i64 0), (.int .i64 0), (.int .i64 0), (.bool false)] [(0, 1)]) [(.res 1)] none
    (.x 3 (.alc [(.int .i64 0), (.int .i64 0), (.int .i64 0), (.int .i64 0), (.int .i64 0), (.int .i64 0), (.int .i64 0), (.int .i64 0), (.string ⟨#[]⟩), (.string ⟨#[]⟩), (.string ⟨#[]⟩), (.string ⟨#[]⟩), (.int .i64 0), (.int .i64 0), (.int .i64 0), (.int .i64 0), (.int .i64 0), (.int .i64 0), (.int .i64 0), (.int .i64 0), (.bool false)] 37) [] none []
    (.x 4 (.st 21) [(.res 3), (.res 2)] none []
    (.out [(0, (.slot 0)), (2, (.slot 2)), (3, (.res 3))])))))
    [0, 2]
abbrev ref15_GetCell_r2 : NC := .reg
    (.x 1 (.call 74) [(.slot 0)] none []
    (.q 2 (.fld 1) [(.slot 3)] none
    (.x 3 (.st 2) [(.res 2), (.res 1)] none []
    (.out [(0, (.slot 0)), (2, (.slot 2)), (3, (.slot 3))]))))
    [0, 2, 3]
abbrev ref15_GetCell_r3 : NC := .reg
    (.q 0 (.fld 0) [(.slot 3)] none
    (.q 1 .ld [(.res 0)] none
    (.q 2 (.icm .neq) [(.res 1), (.const (.int .i64 0))] none
    (.q 4 .mv [(.slot 0)] (some ((.res 2), true))
    (.q 5 .nilck [(.res 4)] (some ((.res 2), true))
    (.q 6 (.fld 2) [(.res 5)] (some ((.res 2), true))
    (.q 7 .ld [(.res 6)] (some ((.res 2), true))
    (.q 8 (.icm .eql) [(.res 7), (.const (.int .i64 0))] (some ((.res 2), true))
    (.q 9 .pick [(.res 2), (.res 8), (.const (.bool false))] none
    (.out [(0, (.slot 0)), (2, (.slot 2)), (3, (.slot 3)), (19, (.res 9))]))))))))))
    [0, 2, 3]
abbrev ref15_GetCell_r4 : NC := .reg
    (.x 1 (.call 74) [(.slot 0)] none []
    (.q 2 (.fld 3) [(.slot 3)] none
    (.x 3 (.st 2) [(.res 2), (.res 1)] none []
    (.out [(0, (.slot 0)), (2, (.slot 2)), (3, (.slot 3))]))))
    [0, 2, 3]
abbrev ref15_GetCell_r5 : NC := .reg
    (.x 1 (.call 75) [(.slot 0)] none []
    (.q 2 (.fld 5) [(.slot 3)] none
    (.x 3 (.st 7) [(.res 2), (.res 1)] none []
    (.out [(0, (.slot 0)), (2, (.slot 2)), (3, (.slot 3))]))))
    [0, 2, 3]
abbrev ref15_GetCell_r6 : NC := .reg
    (.x 1 (.call 76) [(.slot 0)] none []
    (.q 2 (.fld 12) [(.slot 3)] none
    (.x 3 (.st 8) [(.res 2), (.res 1)] none []
    (.out [(0, (.slot 0)), (2, (.slot 2)), (3, (.slot 3))]))))
    [0, 2, 3]
abbrev ref15_GetCell_r7 : NC := .reg
    (.x 1 (.call 77) [(.slot 0)] none []
    (.q 2 (.fld 20) [(.slot 3)] none
    (.x 3 (.st 1) [(.res 2), (.res 1)] none []
    (.out [(0, (.slot 0)), (2, (.slot 2)), (3, (.slot 3))]))))
    [0, 2, 3]
abbrev ref15_GetCell_r8 : NC := .reg
    (.q 1 .nilck [(.slot 0)] none
    (.q 2 (.fld 2) [(.res 1)] none
    (.q 3 .ld [(.res 2)] none
    (.q 4 (.icm .eql) [(.res 3), (.const (.int .i64 0))] none
    (.q 6 (.lda 21) [(.slot 3)] (some ((.res 4), true))
    (.x 7 (.call 28) [(.res 6)] (some ((.res 4), true)) []
    (.q 8 .not [(.res 7)] (some ((.res 4), true))
    (.q 9 .pick [(.res 4), (.res 8), (.const (.bool false))] none
    (.out [(0, (.slot 0)), (2, (.slot 2)), (3, (.slot 3)), (41, (.res 9))])))))))))
    [0, 2, 3]
abbrev ref15_GetCell_r9 : NC := .reg
    (.q 1 .nilck [(.slot 0)] none
    (.q 2 (.fld 2) [(.res 1)] none
    (.x 3 (.st 1) [(.res 2), (.const (.int .i64 4))] none []
    (.out [(0, (.slot 0)), (2, (.slot 2)), (3, (.slot 3))]))))
    [0, 2, 3]
abbrev ref15_GetCell_r10 : NC := .reg
    (.q 1 .nilck [(.slot 0)] none
    (.q 2 (.fld 2) [(.res 1)] none
    (.q 3 .ld [(.res 2)] none
    (.q 4 (.icm .neq) [(.res 3), (.const (.int .i64 0))] none
    (.out [(2, (.slot 2)), (3, (.slot 3)), (49, (.res 4))])))))
    [0, 2, 3]
abbrev ref15_GetCell_r11 : NC := .reg
    (.q 0 (.bld [(.int .i64 0), (.int .i64 0), (.int .i64 0), (.int .i64 0), (.int .i64 0), (.int .i64 0), (.int .i64 0), (.int .i64 0), (.string ⟨#[]⟩), (.string ⟨#[]⟩), (.string ⟨#[]⟩), (.string ⟨#[]⟩), (.int .i64 0), (.int .i64 0), (.int .i64 0), (.int .i64 0), (.int .i64 0), (.int .i64 0), (.int .i64 0), (.int .i64 0), (.bool false)] []) [] none
    (.x 1 (.st 21) [(.slot 2), (.res 0)] none []
    (.out [(2, (.slot 2))])))
    [2]
abbrev ref15_GetCell_r12 : NC := .reg
    (.q 0 (.lda 21) [(.slot 3)] none
    (.x 1 (.st 21) [(.slot 2), (.res 0)] none []
    (.out [(2, (.slot 2))])))
    [2, 3]
abbrev ref15_GetCell_c : NC :=
  (.seq ref15_GetCell_r0
  (.seq ref15_GetCell_r1
  (.seq ref15_GetCell_r2
  (.seq (.seq ref15_GetCell_r3
  (.cond (.slot 19)
    (.seq ref15_GetCell_r4
    (.seq ref15_GetCell_r5
    (.seq ref15_GetCell_r6
    ref15_GetCell_r7)))
    .skip))
  (.seq (.seq ref15_GetCell_r8
  (.cond (.slot 41)
    ref15_GetCell_r9
    .skip))
  (.seq (.seq ref15_GetCell_r10
  (.cond (.slot 49)
    (.seq ref15_GetCell_r11
    .ret)
    .skip))
  (.seq ref15_GetCell_r12
  .ret)))))))
abbrev ref15_GetCell_F : FN := ⟨ref15_GetCell_c, [.cells 2 21]⟩
theorem ref15_GetCell_ok : compF Try.prog Try.f49 = some ref15_GetCell_F := by kernel_rfl
theorem ref15_GetCell_go {args : List Value} {m : Mem} {R : Value → Mem → Prop} (hn : args.length ≤ Try.f49.ntmps) (h : wpN Try.prog ref15_GetCell_c (retP ref15_GetCell_F.rvs R) (zipP 0 args) m) : MC Try.prog 49 args m R := MC_start Try.func49 ref15_GetCell_ok mixed_ok hn h
/-! (*concord/concordref1.Reader).End -/
abbrev ref1_Reader_End_r0 : NC := .reg
    (.out [(0, (.slot 0))])
    [0]
abbrev ref1_Reader_End_r1 : NC := .reg
    (.q 1 .nilck [(.slot 0)] none
    (.q 2 (.fld 2) [(.res 1)] none
    (.q 3 .ld [(.res 2)] none
    (.q 4 (.icm .eql) [(.res 3), (.const (.int .i64 0))] none
    (.q 6 .mv [(.slot 0)] (some ((.res 4), true))
    (.q 7 .nilck [(.res 6)] (some ((.res 4), true))
    (.q 8 (.fld 1) [(.res 7)] (some ((.res 4), true))
    (.q 9 .ld [(.res 8)] (some ((.res 4), true))
    (.q 10 .mv [(.slot 0)] (some ((.res 4), true))
    (.q 11 .nilck [(.res 10)] (some ((.res 4), true))
    (.q 12 (.fld 0) [(.res 11)] (some ((.res 4), true))
    (.q 13 .ld [(.res 12)] (some ((.res 4), true))
    (.q 14 .len [(.res 13)] (some ((.res 4), true))
    (.q 15 (.icm .lss) [(.res 9), (.res 14)] (some ((.res 4), true))
    (.q 16 .pick [(.res 4), (.res 15), (.const (.bool false))] none
    (.out [(0, (.slot 0)), (19, (.res 16))]))))))))))))))))
    [0]
abbrev ref1_Reader_End_r2 : NC := .reg
    (.x 1 (.call 78) [(.slot 0), (.const (.int .i64 5))] none []
    (.out [(0, (.slot 0))]))
    [0]
abbrev ref1_Reader_End_r3 : NC := .reg
    (.q 1 .nilck [(.slot 0)] none
    (.q 2 (.fld 2) [(.res 1)] none
    (.q 3 .ld [(.res 2)] none
    (.out [(2, (.res 3))]))))
    [0]
abbrev ref1_Reader_End_c : NC :=
  (.seq ref1_Reader_End_r0
  (.seq (.seq ref1_Reader_End_r1
  (.cond (.slot 19)
    ref1_Reader_End_r2
    .skip))
  (.seq ref1_Reader_End_r3
  .ret)))
abbrev ref1_Reader_End_F : FN := ⟨ref1_Reader_End_c, [.slot 2]⟩
theorem ref1_Reader_End_ok : compF Try.prog Try.f50 = some ref1_Reader_End_F := by kernel_rfl
theorem ref1_Reader_End_go {args : List Value} {m : Mem} {R : Value → Mem → Prop} (hn : args.length ≤ Try.f50.ntmps) (h : wpN Try.prog ref1_Reader_End_c (retP ref1_Reader_End_F.rvs R) (zipP 0 args) m) : MC Try.prog 50 args m R := MC_start Try.func50 ref1_Reader_End_ok mixed_ok hn h
/-! concord/concordref15.RightBallot -/
abbrev ref15_RightBallot_r0 : NC := .reg
    (.x 0 (.box 31) [(.slot 0)] none []
    (.out [(1, (.res 0))]))
    [0]
abbrev ref15_RightBallot_r1 : NC := .reg
    (.q 0 (.fld 0) [(.slot 1)] none
    (.q 1 .ld [(.res 0)] none
    (.q 2 (.icm .geq) [(.res 1), (.const (.int .i64 0))] none
    (.q 4 (.fld 0) [(.slot 1)] (some ((.res 2), true))
    (.q 5 .ld [(.res 4)] (some ((.res 2), true))
    (.q 6 (.icm .leq) [(.res 5), (.const (.int .i64 1073741824))] (some ((.res 2), true))
    (.q 7 .pick [(.res 2), (.res 6), (.const (.bool false))] none
    (.q 9 (.fld 1) [(.slot 1)] (some ((.res 7), true))
    (.q 10 .ld [(.res 9)] (some ((.res 7), true))
    (.q 11 (.icm .geq) [(.res 10), (.const (.int .i64 0))] (some ((.res 7), true))
    (.q 12 .pick [(.res 7), (.res 11), (.const (.bool false))] none
    (.q 14 (.fld 1) [(.slot 1)] (some ((.res 12), true))
    (.q 15 .ld [(.res 14)] (some ((.res 12), true))
    (.q 16 (.icm .lss) [(.res 15), (.const (.int .i64 7))] (some ((.res 12), true))
    (.q 17 .pick [(.res 12), (.res 16), (.const (.bool false))] none
    (.out [(2, (.res 17))]))))))))))))))))
    [1]
abbrev ref15_RightBallot_c : NC :=
  (.seq ref15_RightBallot_r0
  (.seq ref15_RightBallot_r1
  .ret))
abbrev ref15_RightBallot_F : FN := ⟨ref15_RightBallot_c, [.slot 2]⟩
theorem ref15_RightBallot_ok : compF Try.prog Try.f51 = some ref15_RightBallot_F := by kernel_rfl
theorem ref15_RightBallot_go {args : List Value} {m : Mem} {R : Value → Mem → Prop} (hn : args.length ≤ Try.f51.ntmps) (h : wpN Try.prog ref15_RightBallot_c (retP ref15_RightBallot_F.rvs R) (zipP 0 args) m) : MC Try.prog 51 args m R := MC_start Try.func51 ref15_RightBallot_ok mixed_ok hn h
/-! concord/concordref1.Right -/
abbrev ref1_Right_r0 : NC := .reg
    (.x 0 (.box 33) [(.slot 0)] none []
    (.out [(1, (.res 0))]))
    [0]
abbrev ref1_Right_r1 : NC := .reg
    (.q 0 (.lda 7) [(.slot 1)] none
    (.q 1 (.bld [(.int .i64 0), (.int .i64 0), (.int .i64 0), (.string ⟨#[]⟩), (.string ⟨#[]⟩), (.string ⟨#[]⟩), (.string ⟨#[]⟩)] []) [] none
    (.q 2 (.eqc false [(.i .i64), (.i .i64), (.i .i64), .s, .s, .s, .s]) [(.res 0), (.res 1)] none
    (.out [(1, (.slot 1)), (6, (.res 2))]))))
    [1]
abbrev ref1_Right_r2 : NC := .reg
    (.out [(2, (.const (.bool true)))])
    []
abbrev ref1_Right_r3 : NC := .reg
    (.q 0 (.fld 0) [(.slot 1)] none
    (.q 1 .ld [(.res 0)] none
    (.q 2 (.icm .lss) [(.res 1), (.const (.int .i64 1))] none
    (.q 4 (.fld 0) [(.slot 1)] (some ((.res 2), false))
    (.q 5 .ld [(.res 4)] (some ((.res 2), false))
    (.q 6 (.icm .gtr) [(.res 5), (.const (.int .i64 5))] (some ((.res 2), false))
    (.q 7 .pick [(.res 2), (.const (.bool true)), (.res 6)] none
    (.q 9 (.fld 1) [(.slot 1)] (some ((.res 7), false))
    (.q 10 .ld [(.res 9)] (some ((.res 7), false))
    (.q 11 (.icm .lss) [(.res 10), (.const (.int .i64 1))] (some ((.res 7), false))
    (.q 12 .pick [(.res 7), (.const (.bool true)), (.res 11)] none
    (.q 14 (.fld 1) [(.slot 1)] (some ((.res 12), false))
    (.q 15 .ld [(.res 14)] (some ((.res 12), false))
    (.q 16 (.icm .gtr) [(.res 15), (.const (.int .i64 8))] (some ((.res 12), false))
    (.q 17 .pick [(.res 12), (.const (.bool true)), (.res 16)] none
    (.q 19 (.fld 2) [(.slot 1)] (some ((.res 17), false))
    (.q 20 .ld [(.res 19)] (some ((.res 17), false))
    (.q 21 (.icm .lss) [(.res 20), (.const (.int .i64 1))] (some ((.res 17), false))
    (.q 22 .pick [(.res 17), (.const (.bool true)), (.res 21)] none
    (.q 24 (.fld 2) [(.slot 1)] (some ((.res 22), false))
    (.q 25 .ld [(.res 24)] (some ((.res 22), false))
    (.q 26 (.icm .gtr) [(.res 25), (.const (.int .i64 1099511627776))] (some ((.res 22), false))
    (.q 27 .pick [(.res 22), (.const (.bool true)), (.res 26)] none
    (.q 29 (.fld 3) [(.slot 1)] (some ((.res 27), false))
    (.q 30 .ld [(.res 29)] (some ((.res 27), false))
    (.q 31 .lenz [(.res 30)] (some ((.res 27), false))
    (.q 32 (.icm .gtr) [(.res 31), (.const (.int .i64 16))] (some ((.res 27), false))
    (.q 33 .pick [(.res 27), (.const (.bool true)), (.res 32)] none
    (.q 35 (.fld 4) [(.slot 1)] (some ((.res 33), false))
    (.q 36 .ld [(.res 35)] (some ((.res 33), false))
    (.q 37 .lenz [(.res 36)] (some ((.res 33), false))
    (.q 38 (.icm .gtr) [(.res 37), (.const (.int .i64 16))] (some ((.res 33), false))
    (.q 39 .pick [(.res 33), (.const (.bool true)), (.res 38)] none
    (.q 41 (.fld 5) [(.slot 1)] (some ((.res 39), false))
    (.q 42 .ld [(.res 41)] (some ((.res 39), false))
    (.q 43 .lenz [(.res 42)] (some ((.res 39), false))
    (.q 44 (.icm .gtr) [(.res 43), (.const (.int .i64 64))] (some ((.res 39), false))
    (.q 45 .pick [(.res 39), (.const (.bool true)), (.res 44)] none
    (.q 47 (.fld 6) [(.slot 1)] (some ((.res 45), false))
    (.q 48 .ld [(.res 47)] (some ((.res 45), false))
    (.q 49 .lenz [(.res 48)] (some ((.res 45), false))
    (.q 50 (.icm .gtr) [(.res 49), (.const (.int .i64 64))] (some ((.res 45), false))
    (.q 51 .pick [(.res 45), (.const (.bool true)), (.res 50)] none
    (.out [(1, (.slot 1)), (58, (.res 51))]))))))))))))))))))))))))))))))))))))))))))))
    [1]
abbrev ref1_Right_r4 : NC := .reg
    (.out [(2, (.const (.bool false)))])
    []
abbrev ref1_Right_r5 : NC := .reg
    (.q 0 (.fld 0) [(.slot 1)] none
    (.q 1 .ld [(.res 0)] none
    (.q 2 (.fld 1) [(.slot 1)] none
    (.q 3 .ld [(.res 2)] none
    (.q 4 (.fld 2) [(.slot 1)] none
    (.q 5 .ld [(.res 4)] none
    (.q 6 (.fld 3) [(.slot 1)] none
    (.q 7 .ld [(.res 6)] none
    (.q 8 (.bld [(.int .i64 0), (.int .i64 0), (.int .i64 0), (.string ⟨#[]⟩), (.string ⟨#[]⟩), (.string ⟨#[]⟩), (.string ⟨#[]⟩)] [(0, 1), (1, 1), (2, 1), (3, 1)]) [(.res 1), (.res 3), (.res 5), (.res 7)] none
    (.x 9 (.alc [(.int .i64 0), (.int .i64 0), (.int .i64 0), (.string ⟨#[]⟩), (.string ⟨#[]⟩), (.string ⟨#[]⟩), (.string ⟨#[]⟩)] 33) [] none []
    (.x 10 (.st 7) [(.res 9), (.res 8)] none []
    (.out [(1, (.slot 1)), (3, (.res 9))]))))))))))))
    [1]
abbrev ref1_Right_r6 : NC := .reg
    (.q 0 (.fld 0) [(.slot 1)] none
    (.q 1 .ld [(.res 0)] none
    (.out [(1, (.slot 1)), (3, (.slot 3)), (69, (.res 1))])))
    [1, 3]
abbrev ref1_Right_r7 : NC := .reg
    (.q 0 (.icm .eql) [(.slot 69), (.const (.int .i64 2))] none
    (.out [(1, (.slot 1)), (3, (.slot 3)), (69, (.slot 69)), (70, (.res 0))]))
    [1, 3, 69]
abbrev ref1_Right_r8 : NC := .reg
    (.q 0 (.fld 6) [(.slot 1)] none
    (.q 1 .ld [(.res 0)] none
    (.q 2 (.fld 6) [(.slot 3)] none
    (.x 3 (.st 1) [(.res 2), (.res 1)] none []
    (.out [(1, (.slot 1)), (3, (.slot 3))])))))
    [1, 3]
abbrev ref1_Right_r9 : NC := .reg
    (.q 0 (.icm .eql) [(.slot 69), (.const (.int .i64 4))] none
    (.out [(1, (.slot 1)), (3, (.slot 3)), (69, (.slot 69)), (75, (.res 0))]))
    [1, 3, 69]
abbrev ref1_Right_r10 : NC := .reg
    (.q 0 (.fld 5) [(.slot 1)] none
    (.q 1 .ld [(.res 0)] none
    (.q 2 (.fld 6) [(.slot 1)] none
    (.q 3 .ld [(.res 2)] none
    (.q 4 (.fld 5) [(.slot 3)] none
    (.x 5 (.st 1) [(.res 4), (.res 1)] none [(3, .ld, [(.res 2)], none)]
    (.q 6 (.fld 6) [(.slot 3)] none
    (.x 7 (.st 1) [(.res 6), (.res 3)] none []
    (.out [(1, (.slot 1)), (3, (.slot 3))])))))))))
    [1, 3]
abbrev ref1_Right_r11 : NC := .reg
    (.q 0 (.icm .eql) [(.slot 69), (.const (.int .i64 5))] none
    (.out [(1, (.slot 1)), (3, (.slot 3)), (83, (.res 0))]))
    [1, 3, 69]
abbrev ref1_Right_r12 : NC := .reg
    (.q 0 (.fld 4) [(.slot 1)] none
    (.q 1 .ld [(.res 0)] none
    (.q 2 (.fld 4) [(.slot 3)] none
    (.x 3 (.st 1) [(.res 2), (.res 1)] none []
    (.out [(1, (.slot 1)), (3, (.slot 3))])))))
    [1, 3]
abbrev ref1_Right_r13 : NC := .reg
    (.q 0 (.lda 7) [(.slot 1)] none
    (.q 1 (.lda 7) [(.slot 3)] none
    (.q 2 (.eqc false [(.i .i64), (.i .i64), (.i .i64), .s, .s, .s, .s]) [(.res 0), (.res 1)] none
    (.q 4 (.fld 0) [(.slot 1)] (some ((.res 2), true))
    (.q 5 .ld [(.res 4)] (some ((.res 2), true))
    (.q 6 (.icm .eql) [(.res 5), (.const (.int .i64 5))] (some ((.res 2), true))
    (.q 7 .mv [(.res 6)] (some ((.res 2), true))
    (.q 8 (.fld 3) [(.slot 1)] (some ((.res 7), false))
    (.q 9 .ld [(.res 8)] (some ((.res 7), false))
    (.q 10 (.str .neq) [(.res 9), (.const (.string ⟨#[]⟩))] (some ((.res 7), false))
    (.q 11 .pick [(.res 7), (.const (.bool true)), (.res 10)] (some ((.res 2), true))
    (.q 12 .pick [(.res 2), (.res 11), (.const (.bool false))] none
    (.out [(2, (.res 12))])))))))))))))
    [1, 3]
abbrev ref1_Right_c : NC :=
  (.seq ref1_Right_r0
  (.seq (.seq ref1_Right_r1
  (.cond (.slot 6)
    (.seq ref1_Right_r2
    .ret)
    .skip))
  (.seq (.seq ref1_Right_r3
  (.cond (.slot 58)
    (.seq ref1_Right_r4
    .ret)
    .skip))
  (.seq ref1_Right_r5
  (.seq (.seq ref1_Right_r6
  (.block 0 (.seq ref1_Right_r7
  (.cond (.slot 70)
    ref1_Right_r8
    (.seq ref1_Right_r9
    (.cond (.slot 75)
      ref1_Right_r10
      (.seq ref1_Right_r11
      (.cond (.slot 83)
        ref1_Right_r12
        .skip))))))))
  (.seq ref1_Right_r13
  .ret))))))
abbrev ref1_Right_F : FN := ⟨ref1_Right_c, [.slot 2]⟩
theorem ref1_Right_ok : compF Try.prog Try.f52 = some ref1_Right_F := by kernel_rfl
theorem ref1_Right_go {args : List Value} {m : Mem} {R : Value → Mem → Prop} (hn : args.length ≤ Try.f52.ntmps) (h : wpN Try.prog ref1_Right_c (retP ref1_Right_F.rvs R) (zipP 0 args) m) : MC Try.prog 52 args m R := MC_start Try.func52 ref1_Right_ok mixed_ok hn h
/-! concord/concordref1.RightAttr -/
abbrev ref1_RightAttr_r0 : NC := .reg
    (.x 0 (.box 35) [(.slot 0)] none []
    (.out [(1, (.res 0))]))
    [0]
abbrev ref1_RightAttr_r1 : NC := .reg
    (.q 0 (.fld 0) [(.slot 1)] none
    (.q 1 .ld [(.res 0)] none
    (.q 2 (.icm .geq) [(.res 1), (.const (.int .i64 0))] none
    (.q 4 (.fld 0) [(.slot 1)] (some ((.res 2), true))
    (.q 5 .ld [(.res 4)] (some ((.res 2), true))
    (.q 6 (.icm .leq) [(.res 5), (.const (.int .i64 1099511627776))] (some ((.res 2), true))
    (.q 7 .pick [(.res 2), (.res 6), (.const (.bool false))] none
    (.q 9 (.fld 1) [(.slot 1)] (some ((.res 7), true))
    (.q 10 (.lda 7) [(.res 9)] (some ((.res 7), true))
    (.x 11 (.call 79) [(.res 10)] (some ((.res 7), true)) []
    (.q 12 .pick [(.res 7), (.res 11), (.const (.bool false))] none
    (.out [(2, (.res 12))]))))))))))))
    [1]
abbrev ref1_RightAttr_c : NC :=
  (.seq ref1_RightAttr_r0
  (.seq ref1_RightAttr_r1
  .ret))
abbrev ref1_RightAttr_F : FN := ⟨ref1_RightAttr_c, [.slot 2]⟩
theorem ref1_RightAttr_ok : compF Try.prog Try.f53 = some ref1_RightAttr_F := by kernel_rfl
theorem ref1_RightAttr_go {args : List Value} {m : Mem} {R : Value → Mem → Prop} (hn : args.length ≤ Try.f53.ntmps) (h : wpN Try.prog ref1_RightAttr_c (retP ref1_RightAttr_F.rvs R) (zipP 0 args) m) : MC Try.prog 53 args m R := MC_start Try.func53 ref1_RightAttr_ok mixed_ok hn h
/-! concord/concordref15.PutCell -/
abbrev ref15_PutCell_r0 : NC := .reg
    (.x 0 (.box 37) [(.slot 1)] none []
    (.out [(0, (.slot 0)), (3, (.res 0))]))
    [0, 1]
abbrev ref15_PutCell_r1 : NC := .reg
    (.q 1 (.fld 0) [(.slot 3)] none
    (.q 2 .ld [(.res 1)] none
    (.q 4 (.fld 1) [(.slot 3)] none
    (.q 5 (.lda 2) [(.res 4)] none
    (.x 3 (.call 86) [(.slot 0), (.res 2)] none [(5, (.lda 2), [(.res 4)], none)]
    (.x 6 (.call 85) [(.res 3), (.res 5)] none []
    (.out [(0, (.res 6)), (3, (.slot 3))])))))))
    [0, 3]
abbrev ref15_PutCell_r2 : NC := .reg
    (.q 0 (.fld 0) [(.slot 3)] none
    (.q 1 .ld [(.res 0)] none
    (.q 2 (.icm .eql) [(.res 1), (.const (.int .i64 0))] none
    (.out [(0, (.slot 0)), (3, (.slot 3)), (14, (.res 2))]))))
    [0, 3]
abbrev ref15_PutCell_r3 : NC := .reg
    (.out [(4, (.slot 0))])
    [0]
abbrev ref15_PutCell_r4 : NC := .reg
    (.q 1 (.fld 3) [(.slot 3)] none
    (.q 2 (.lda 2) [(.res 1)] none
    (.q 4 (.fld 5) [(.slot 3)] none
    (.q 5 (.lda 7) [(.res 4)] none
    (.q 7 (.fld 12) [(.slot 3)] none
    (.q 8 (.lda 8) [(.res 7)] none
    (.q 10 (.fld 20) [(.slot 3)] none
    (.q 11 .ld [(.res 10)] none
    (.x 3 (.call 85) [(.slot 0), (.res 2)] none [(5, (.lda 7), [(.res 4)], none), (8, (.lda 8), [(.res 7)], none), (11, .ld, [(.res 10)], none)]
    (.x 6 (.call 89) [(.res 3), (.res 5)] none [(8, (.lda 8), [(.res 7)], none), (11, .ld, [(.res 10)], none)]
    (.x 9 (.call 88) [(.res 6), (.res 8)] none [(11, .ld, [(.res 10)], none)]
    (.x 12 (.call 87) [(.res 9), (.res 11)] none []
    (.out [(4, (.res 12))])))))))))))))
    [0, 3]
abbrev ref15_PutCell_c : NC :=
  (.seq ref15_PutCell_r0
  (.seq ref15_PutCell_r1
  (.seq (.seq ref15_PutCell_r2
  (.cond (.slot 14)
    (.seq ref15_PutCell_r3
    .ret)
    .skip))
  (.seq ref15_PutCell_r4
  .ret))))
abbrev ref15_PutCell_F : FN := ⟨ref15_PutCell_c, [.slot 4]⟩
theorem ref15_PutCell_ok : compF Try.prog Try.f56 = some ref15_PutCell_F := by kernel_rfl
theorem ref15_PutCell_go {args : List Value} {m : Mem} {R : Value → Mem → Prop} (hn : args.length ≤ Try.f56.ntmps) (h : wpN Try.prog ref15_PutCell_c (retP ref15_PutCell_F.rvs R) (zipP 0 args) m) : MC Try.prog 56 args m R := MC_start Try.func56 ref15_PutCell_ok mixed_ok hn h
/-! concord/concordref15.inst -/
abbrev ref15_inst_r0 : NC := .reg
    (.x 0 (.box 28) [(.slot 1)] none []
    (.out [(0, (.slot 0)), (3, (.res 0))]))
    [0, 1]
abbrev ref15_inst_r1 : NC := .reg
    (.q 1 (.fld 0) [(.slot 3)] none
    (.q 2 .ld [(.res 1)] none
    (.q 4 (.fld 1) [(.slot 3)] none
    (.q 5 .ld [(.res 4)] none
    (.x 3 (.call 86) [(.slot 0), (.res 2)] none [(5, .ld, [(.res 4)], none)]
    (.x 6 (.call 86) [(.res 3), (.res 5)] none []
    (.out [(4, (.res 6))])))))))
    [0, 3]
abbrev ref15_inst_c : NC :=
  (.seq ref15_inst_r0
  (.seq ref15_inst_r1
  .ret))
abbrev ref15_inst_F : FN := ⟨ref15_inst_c, [.slot 4]⟩
theorem ref15_inst_ok : compF Try.prog Try.f57 = some ref15_inst_F := by kernel_rfl
theorem ref15_inst_go {args : List Value} {m : Mem} {R : Value → Mem → Prop} (hn : args.length ≤ Try.f57.ntmps) (h : wpN Try.prog ref15_inst_c (retP ref15_inst_F.rvs R) (zipP 0 args) m) : MC Try.prog 57 args m R := MC_start Try.func57 ref15_inst_ok mixed_ok hn h
/-! concord/concordref1.Less -/
abbrev ref1_Less_r0 : NC := .reg
    (.x 0 (.box 28) [(.slot 0)] none []
    (.x 1 (.box 28) [(.slot 1)] none []
    (.out [(2, (.res 0)), (3, (.res 1))])))
    [0, 1]
abbrev ref1_Less_r1 : NC := .reg
    (.q 0 (.fld 0) [(.slot 2)] none
    (.q 1 .ld [(.res 0)] none
    (.q 2 (.fld 0) [(.slot 3)] none
    (.q 3 .ld [(.res 2)] none
    (.q 4 (.icm .lss) [(.res 1), (.res 3)] none
    (.q 6 (.fld 0) [(.slot 2)] (some ((.res 4), false))
    (.q 7 .ld [(.res 6)] (some ((.res 4), false))
    (.q 8 (.fld 0) [(.slot 3)] (some ((.res 4), false))
    (.q 9 .ld [(.res 8)] (some ((.res 4), false))
    (.q 10 (.icm .eql) [(.res 7), (.res 9)] (some ((.res 4), false))
    (.q 11 .mv [(.res 10)] (some ((.res 4), false))
    (.q 12 (.fld 1) [(.slot 2)] (some ((.res 11), true))
    (.q 13 .ld [(.res 12)] (some ((.res 11), true))
    (.q 14 (.fld 1) [(.slot 3)] (some ((.res 11), true))
    (.q 15 .ld [(.res 14)] (some ((.res 11), true))
    (.q 16 (.icm .lss) [(.res 13), (.res 15)] (some ((.res 11), true))
    (.q 17 .pick [(.res 11), (.res 16), (.const (.bool false))] (some ((.res 4), false))
    (.q 18 .pick [(.res 4), (.const (.bool true)), (.res 17)] none
    (.out [(4, (.res 18))])))))))))))))))))))
    [2, 3]
abbrev ref1_Less_c : NC :=
  (.seq ref1_Less_r0
  (.seq ref1_Less_r1
  .ret))
abbrev ref1_Less_F : FN := ⟨ref1_Less_c, [.slot 4]⟩
theorem ref1_Less_ok : compF Try.prog Try.f63 = some ref1_Less_F := by kernel_rfl
theorem ref1_Less_go {args : List Value} {m : Mem} {R : Value → Mem → Prop} (hn : args.length ≤ Try.f63.ntmps) (h : wpN Try.prog ref1_Less_c (retP ref1_Less_F.rvs R) (zipP 0 args) m) : MC Try.prog 63 args m R := MC_start Try.func63 ref1_Less_ok mixed_ok hn h
/-! (*concord/concordref1.Reader).Num -/
abbrev ref1_Reader_Num_r0 : NC := .reg
    (.out [(0, (.slot 0))])
    [0]
abbrev ref1_Reader_Num_r1 : NC := .reg
    (.q 1 .nilck [(.slot 0)] none
    (.q 2 (.fld 2) [(.res 1)] none
    (.q 3 .ld [(.res 2)] none
    (.q 4 (.icm .neq) [(.res 3), (.const (.int .i64 0))] none
    (.out [(0, (.slot 0)), (10, (.res 4))])))))
    [0]
abbrev ref1_Reader_Num_r2 : NC := .reg
    (.out [(2, (.const (.int .i64 0)))])
    []
abbrev ref1_Reader_Num_r3 : NC := .reg
    (.out [(0, (.slot 0)), (3, (.const (.int .u64 0)))])
    [0]
abbrev ref1_Reader_Num_r4 : NC := .reg
    (.out [(0, (.slot 0)), (3, (.slot 3)), (4, (.const (.int .i64 0)))])
    [0, 3]
abbrev ref1_Reader_Num_r5 : NC := .reg
    (.q 1 .nilck [(.slot 0)] none
    (.q 2 (.fld 1) [(.res 1)] none
    (.q 3 .ld [(.res 2)] none
    (.q 5 (.iar .add) [(.res 3), (.slot 4)] none
    (.q 7 .nilck [(.slot 0)] none
    (.q 8 (.fld 0) [(.res 7)] none
    (.q 9 .ld [(.res 8)] none
    (.q 10 .len [(.res 9)] none
    (.q 11 (.icm .geq) [(.res 5), (.res 10)] none
    (.out [(0, (.slot 0)), (3, (.slot 3)), (4, (.slot 4)), (24, (.res 11))]))))))))))
    [0, 3, 4]
abbrev ref1_Reader_Num_r6 : NC := .reg
    (.x 1 (.call 78) [(.slot 0), (.const (.int .i64 3))] none []
    (.out []))
    [0]
abbrev ref1_Reader_Num_r7 : NC := .reg
    (.out [(2, (.const (.int .i64 0)))])
    []
abbrev ref1_Reader_Num_r8 : NC := .reg
    (.q 1 .nilck [(.slot 0)] none
    (.q 2 (.fld 0) [(.res 1)] none
    (.q 3 .ld [(.res 2)] none
    (.q 5 .nilck [(.slot 0)] none
    (.q 6 (.fld 1) [(.res 5)] none
    (.q 7 .ld [(.res 6)] none
    (.q 9 (.iar .add) [(.res 7), (.slot 4)] none
    (.q 10 (.ixs 1) [(.res 3), (.res 9)] none
    (.q 11 .ld [(.res 10)] none
    (.out [(0, (.slot 0)), (3, (.slot 3)), (4, (.slot 4)), (5, (.res 11))]))))))))))
    [0, 3, 4]
abbrev ref1_Reader_Num_r9 : NC := .reg
    (.q 1 (.icm .eql) [(.slot 4), (.const (.int .i64 9))] none
    (.q 3 .mv [(.slot 5)] (some ((.res 1), true))
    (.q 4 (.icm .gtr) [(.res 3), (.const (.int .u8 1))] (some ((.res 1), true))
    (.q 5 .pick [(.res 1), (.res 4), (.const (.bool false))] none
    (.q 7 .mv [(.slot 4)] (some ((.res 5), false))
    (.q 8 (.icm .gtr) [(.res 7), (.const (.int .i64 0))] (some ((.res 5), false))
    (.q 9 .mv [(.res 8)] (some ((.res 5), false))
    (.q 10 .mv [(.slot 5)] (some ((.res 9), true))
    (.q 11 (.icm .eql) [(.res 10), (.const (.int .u8 0))] (some ((.res 9), true))
    (.q 12 .pick [(.res 9), (.res 11), (.const (.bool false))] (some ((.res 5), false))
    (.q 13 .pick [(.res 5), (.const (.bool true)), (.res 12)] none
    (.out [(0, (.slot 0)), (3, (.slot 3)), (4, (.slot 4)), (5, (.slot 5)), (52, (.res 13))]))))))))))))
    [0, 3, 4, 5]
abbrev ref1_Reader_Num_r10 : NC := .reg
    (.x 1 (.call 78) [(.slot 0), (.const (.int .i64 4))] none []
    (.out []))
    [0]
abbrev ref1_Reader_Num_r11 : NC := .reg
    (.out [(2, (.const (.int .i64 0)))])
    []
abbrev ref1_Reader_Num_r12 : NC := .reg
    (.q 2 (.ibt .and) [(.slot 5), (.const (.int .u8 127))] none
    (.q 3 (.conv .u64) [(.res 2)] none
    (.q 5 (.iar .mul) [(.const (.int .i64 7)), (.slot 4)] none
    (.q 6 (.ish .shl) [(.res 3), (.res 5)] none
    (.q 7 (.ibt .or) [(.slot 3), (.res 6)] none
    (.out [(0, (.slot 0)), (3, (.res 7)), (4, (.slot 4)), (5, (.slot 5))]))))))
    [0, 3, 4, 5]
abbrev ref1_Reader_Num_r13 : NC := .reg
    (.q 1 (.icm .lss) [(.slot 5), (.const (.int .u8 128))] none
    (.out [(0, (.slot 0)), (3, (.slot 3)), (4, (.slot 4)), (64, (.res 1))]))
    [0, 3, 4, 5]
abbrev ref1_Reader_Num_r14 : NC := .reg
    (.q 2 .nilck [(.slot 0)] none
    (.q 3 (.fld 1) [(.res 2)] none
    (.q 4 .ld [(.res 3)] none
    (.q 6 (.iar .add) [(.res 4), (.slot 4)] none
    (.q 7 (.iar .add) [(.res 6), (.const (.int .i64 1))] none
    (.q 8 .nilck [(.slot 0)] none
    (.q 9 (.fld 1) [(.res 8)] none
    (.x 10 (.st 1) [(.res 9), (.res 7)] none []
    (.out [(3, (.slot 3))])))))))))
    [0, 3, 4]
abbrev ref1_Reader_Num_r15 : NC := .reg
    (.x 1 (.call 103) [(.slot 3)] none []
    (.out [(2, (.res 1))]))
    [3]
abbrev ref1_Reader_Num_r16 : NC := .reg
    (.q 1 (.iar .add) [(.slot 4), (.const (.int .i64 1))] none
    (.out [(0, (.slot 0)), (3, (.slot 3)), (4, (.res 1))]))
    [0, 3, 4]
abbrev ref1_Reader_Num_l0 : NC :=
  (.seq (.block 1 (.seq (.seq ref1_Reader_Num_r5
  (.cond (.slot 24)
    (.seq ref1_Reader_Num_r6
    (.seq ref1_Reader_Num_r7
    .ret))
    .skip))
  (.seq ref1_Reader_Num_r8
  (.seq (.seq ref1_Reader_Num_r9
  (.cond (.slot 52)
    (.seq ref1_Reader_Num_r10
    (.seq ref1_Reader_Num_r11
    .ret))
    .skip))
  (.seq ref1_Reader_Num_r12
  (.seq ref1_Reader_Num_r13
  (.cond (.slot 64)
    (.seq ref1_Reader_Num_r14
    (.seq ref1_Reader_Num_r15
    .ret))
    .skip)))))))
  ref1_Reader_Num_r16)
abbrev ref1_Reader_Num_c : NC :=
  (.seq ref1_Reader_Num_r0
  (.seq (.seq ref1_Reader_Num_r1
  (.cond (.slot 10)
    (.seq ref1_Reader_Num_r2
    .ret)
    .skip))
  (.seq ref1_Reader_Num_r3
  (.seq ref1_Reader_Num_r4
  (.block 0 (.loop [0, 3, 4] ref1_Reader_Num_l0))))))
abbrev ref1_Reader_Num_F : FN := ⟨ref1_Reader_Num_c, [.slot 2]⟩
theorem ref1_Reader_Num_ok : compF Try.prog Try.f73 = some ref1_Reader_Num_F := by kernel_rfl
theorem ref1_Reader_Num_go {args : List Value} {m : Mem} {R : Value → Mem → Prop} (hn : args.length ≤ Try.f73.ntmps) (h : wpN Try.prog ref1_Reader_Num_c (retP ref1_Reader_Num_F.rvs R) (zipP 0 args) m) : MC Try.prog 73 args m R := MC_start Try.func73 ref1_Reader_Num_ok mixed_ok hn h
/-! concord/concordref15.getBallot -/
abbrev ref15_getBallot_r0 : NC := .reg
    (.x 0 (.alc [(.int .i64 0), (.int .i64 0)] 31) [] none []
    (.out [(0, (.slot 0)), (2, (.res 0))]))
    [0]
abbrev ref15_getBallot_r1 : NC := .reg
    (.x 1 (.call 73) [(.slot 0)] none []
    (.q 2 (.bld [(.int .i64 0), (.int .i64 0)] [(0, 1)]) [(.res 1)] none
    (.x 3 (.alc [(.int .i64 0), (.int .i64 0)] 31) [] none []
    (.x 4 (.st 2) [(.res 3), (.res 2)] none []
    (.out [(0, (.slot 0)), (2, (.slot 2)), (3, (.res 3))])))))
    [0, 2]
abbrev ref15_getBallot_r2 : NC := .reg
    (.x 1 (.call 73) [(.slot 0)] none []
    (.q 2 (.fld 1) [(.slot 3)] none
    (.x 3 (.st 1) [(.res 2), (.res 1)] none []
    (.out [(2, (.slot 2)), (3, (.slot 3))]))))
    [0, 2, 3]
abbrev ref15_getBallot_r3 : NC := .reg
    (.q 0 (.lda 2) [(.slot 3)] none
    (.x 1 (.st 2) [(.slot 2), (.res 0)] none []
    (.out [(2, (.slot 2))])))
    [2, 3]
abbrev ref15_getBallot_c : NC :=
  (.seq ref15_getBallot_r0
  (.seq ref15_getBallot_r1
  (.seq ref15_getBallot_r2
  (.seq ref15_getBallot_r3
  .ret))))
abbrev ref15_getBallot_F : FN := ⟨ref15_getBallot_c, [.cells 2 2]⟩
theorem ref15_getBallot_ok : compF Try.prog Try.f74 = some ref15_getBallot_F := by kernel_rfl
theorem ref15_getBallot_go {args : List Value} {m : Mem} {R : Value → Mem → Prop} (hn : args.length ≤ Try.f74.ntmps) (h : wpN Try.prog ref15_getBallot_c (retP ref15_getBallot_F.rvs R) (zipP 0 args) m) : MC Try.prog 74 args m R := MC_start Try.func74 ref15_getBallot_ok mixed_ok hn h
/-! concord/concordref15.getCommand -/
abbrev ref15_getCommand_r0 : NC := .reg
    (.x 0 (.alc [(.int .i64 0), (.int .i64 0), (.int .i64 0), (.string ⟨#[]⟩), (.string ⟨#[]⟩), (.string ⟨#[]⟩), (.string ⟨#[]⟩)] 33) [] none []
    (.out [(0, (.slot 0)), (2, (.res 0))]))
    [0]
abbrev ref15_getCommand_r1 : NC := .reg
    (.x 1 (.call 73) [(.slot 0)] none []
    (.q 2 (.bld [(.int .i64 0), (.int .i64 0), (.int .i64 0), (.string ⟨#[]⟩), (.string ⟨#[]⟩), (.string ⟨#[]⟩), (.string ⟨#[]⟩)] [(0, 1)]) [(.res 1)] none
    (.x 3 (.alc [(.int .i64 0), (.int .i64 0), (.int .i64 0), (.string ⟨#[]⟩), (.string ⟨#[]⟩), (.string ⟨#[]⟩), (.string ⟨#[]⟩)] 33) [] none []
    (.x 4 (.st 7) [(.res 3), (.res 2)] none []
    (.out [(0, (.slot 0)), (2, (.slot 2)), (3, (.res 3))])))))
    [0, 2]
abbrev ref15_getCommand_r2 : NC := .reg
    (.q 1 .nilck [(.slot 0)] none
    (.q 2 (.fld 2) [(.res 1)] none
    (.q 3 .ld [(.res 2)] none
    (.q 4 (.icm .eql) [(.res 3), (.const (.int .i64 0))] none
    (.q 6 (.fld 0) [(.slot 3)] (some ((.res 4), true))
    (.q 7 .ld [(.res 6)] (some ((.res 4), true))
    (.q 8 (.icm .neq) [(.res 7), (.const (.int .i64 0))] (some ((.res 4), true))
    (.q 9 .pick [(.res 4), (.res 8), (.const (.bool false))] none
    (.out [(0, (.slot 0)), (2, (.slot 2)), (3, (.slot 3)), (16, (.res 9))])))))))))
    [0, 2, 3]
abbrev ref15_getCommand_r3 : NC := .reg
    (.x 1 (.call 73) [(.slot 0)] none []
    (.q 2 (.fld 1) [(.slot 3)] none
    (.x 3 (.st 1) [(.res 2), (.res 1)] none []
    (.out [(0, (.slot 0)), (2, (.slot 2)), (3, (.slot 3))]))))
    [0, 2, 3]
abbrev ref15_getCommand_r4 : NC := .reg
    (.x 1 (.call 73) [(.slot 0)] none []
    (.q 2 (.fld 2) [(.slot 3)] none
    (.x 3 (.st 1) [(.res 2), (.res 1)] none []
    (.out [(0, (.slot 0)), (2, (.slot 2)), (3, (.slot 3))]))))
    [0, 2, 3]
abbrev ref15_getCommand_r5 : NC := .reg
    (.x 1 (.call 104) [(.slot 0), (.const (.int .i64 16))] none []
    (.q 2 (.fld 3) [(.slot 3)] none
    (.x 3 (.st 1) [(.res 2), (.res 1)] none []
    (.out [(0, (.slot 0)), (2, (.slot 2)), (3, (.slot 3))]))))
    [0, 2, 3]
abbrev ref15_getCommand_r6 : NC := .reg
    (.q 0 (.fld 0) [(.slot 3)] none
    (.q 1 .ld [(.res 0)] none
    (.out [(0, (.slot 0)), (2, (.slot 2)), (3, (.slot 3)), (27, (.res 1))])))
    [0, 2, 3]
abbrev ref15_getCommand_r7 : NC := .reg
    (.q 0 (.icm .eql) [(.slot 27), (.const (.int .i64 2))] none
    (.out [(0, (.slot 0)), (2, (.slot 2)), (3, (.slot 3)), (27, (.slot 27)), (28, (.res 0))]))
    [0, 2, 3, 27]
abbrev ref15_getCommand_r8 : NC := .reg
    (.x 1 (.call 104) [(.slot 0), (.const (.int .i64 64))] none []
    (.q 2 (.fld 6) [(.slot 3)] none
    (.x 3 (.st 1) [(.res 2), (.res 1)] none []
    (.out [(0, (.slot 0)), (2, (.slot 2)), (3, (.slot 3))]))))
    [0, 2, 3]
abbrev ref15_getCommand_r9 : NC := .reg
    (.q 0 (.icm .eql) [(.slot 27), (.const (.int .i64 4))] none
    (.out [(0, (.slot 0)), (2, (.slot 2)), (3, (.slot 3)), (27, (.slot 27)), (33, (.res 0))]))
    [0, 2, 3, 27]
abbrev ref15_getCommand_r10 : NC := .reg
    (.x 1 (.call 104) [(.slot 0), (.const (.int .i64 64))] none []
    (.q 2 (.fld 5) [(.slot 3)] none
    (.x 3 (.st 1) [(.res 2), (.res 1)] none []
    (.out [(0, (.slot 0)), (2, (.slot 2)), (3, (.slot 3))]))))
    [0, 2, 3]
abbrev ref15_getCommand_r11 : NC := .reg
    (.x 1 (.call 104) [(.slot 0), (.const (.int .i64 64))] none []
    (.q 2 (.fld 6) [(.slot 3)] none
    (.x 3 (.st 1) [(.res 2), (.res 1)] none []
    (.out [(0, (.slot 0)), (2, (.slot 2)), (3, (.slot 3))]))))
    [0, 2, 3]
abbrev ref15_getCommand_r12 : NC := .reg
    (.q 0 (.icm .eql) [(.slot 27), (.const (.int .i64 5))] none
    (.out [(0, (.slot 0)), (2, (.slot 2)), (3, (.slot 3)), (41, (.res 0))]))
    [0, 2, 3, 27]
abbrev ref15_getCommand_r13 : NC := .reg
    (.x 1 (.call 104) [(.slot 0), (.const (.int .i64 16))] none []
    (.q 2 (.fld 4) [(.slot 3)] none
    (.x 3 (.st 1) [(.res 2), (.res 1)] none []
    (.out [(0, (.slot 0)), (2, (.slot 2)), (3, (.slot 3))]))))
    [0, 2, 3]
abbrev ref15_getCommand_r14 : NC := .reg
    (.q 1 .nilck [(.slot 0)] none
    (.q 2 (.fld 2) [(.res 1)] none
    (.q 3 .ld [(.res 2)] none
    (.q 4 (.icm .eql) [(.res 3), (.const (.int .i64 0))] none
    (.q 6 (.lda 7) [(.slot 3)] (some ((.res 4), true))
    (.x 7 (.call 52) [(.res 6)] (some ((.res 4), true)) []
    (.q 8 .not [(.res 7)] (some ((.res 4), true))
    (.q 9 .pick [(.res 4), (.res 8), (.const (.bool false))] none
    (.out [(0, (.slot 0)), (2, (.slot 2)), (3, (.slot 3)), (55, (.res 9))])))))))))
    [0, 2, 3]
abbrev ref15_getCommand_r15 : NC := .reg
    (.q 1 .nilck [(.slot 0)] none
    (.q 2 (.fld 2) [(.res 1)] none
    (.x 3 (.st 1) [(.res 2), (.const (.int .i64 4))] none []
    (.out [(2, (.slot 2)), (3, (.slot 3))]))))
    [0, 2, 3]
abbrev ref15_getCommand_r16 : NC := .reg
    (.q 0 (.lda 7) [(.slot 3)] none
    (.x 1 (.st 7) [(.slot 2), (.res 0)] none []
    (.out [(2, (.slot 2))])))
    [2, 3]
abbrev ref15_getCommand_c : NC :=
  (.seq ref15_getCommand_r0
  (.seq ref15_getCommand_r1
  (.seq (.seq ref15_getCommand_r2
  (.cond (.slot 16)
    (.seq ref15_getCommand_r3
    (.seq ref15_getCommand_r4
    (.seq ref15_getCommand_r5
    (.seq ref15_getCommand_r6
    (.block 0 (.seq ref15_getCommand_r7
    (.cond (.slot 28)
      ref15_getCommand_r8
      (.seq ref15_getCommand_r9
      (.cond (.slot 33)
        (.seq ref15_getCommand_r10
        ref15_getCommand_r11)
        (.seq ref15_getCommand_r12
        (.cond (.slot 41)
          ref15_getCommand_r13
          .skip)))))))))))
    .skip))
  (.seq (.seq ref15_getCommand_r14
  (.cond (.slot 55)
    ref15_getCommand_r15
    .skip))
  (.seq ref15_getCommand_r16
  .ret)))))
abbrev ref15_getCommand_F : FN := ⟨ref15_getCommand_c, [.cells 2 7]⟩
theorem ref15_getCommand_ok : compF Try.prog Try.f75 = some ref15_getCommand_F := by kernel_rfl
theorem ref15_getCommand_go {args : List Value} {m : Mem} {R : Value → Mem → Prop} (hn : args.length ≤ Try.f75.ntmps) (h : wpN Try.prog ref15_getCommand_c (retP ref15_getCommand_F.rvs R) (zipP 0 args) m) : MC Try.prog 75 args m R := MC_start Try.func75 ref15_getCommand_ok mixed_ok hn h
/-! concord/concordref15.getAttr -/
abbrev ref15_getAttr_r0 : NC := .reg
    (.x 0 (.alc [(.int .i64 0), (.int .i64 0), (.int .i64 0), (.int .i64 0), (.int .i64 0), (.int .i64 0), (.int .i64 0), (.int .i64 0)] 35) [] none []
    (.out [(0, (.slot 0)), (2, (.res 0))]))
    [0]
abbrev ref15_getAttr_r1 : NC := .reg
    (.x 1 (.call 73) [(.slot 0)] none []
    (.q 2 (.bld [(.int .i64 0), (.int .i64 0), (.int .i64 0), (.int .i64 0), (.int .i64 0), (.int .i64 0), (.int .i64 0), (.int .i64 0)] [(0, 1)]) [(.res 1)] none
    (.x 3 (.alc [(.int .i64 0), (.int .i64 0), (.int .i64 0), (.int .i64 0), (.int .i64 0), (.int .i64 0), (.int .i64 0), (.int .i64 0)] 35) [] none []
    (.x 4 (.st 8) [(.res 3), (.res 2)] none []
    (.out [(0, (.slot 0)), (2, (.slot 2)), (3, (.res 3))])))))
    [0, 2]
abbrev ref15_getAttr_r2 : NC := .reg
    (.out [(0, (.slot 0)), (2, (.slot 2)), (3, (.slot 3)), (4, (.const (.int .i64 0)))])
    [0, 2, 3]
abbrev ref15_getAttr_r3 : NC := .reg
    (.q 1 (.icm .lss) [(.slot 4), (.const (.int .i64 7))] none
    (.out [(0, (.slot 0)), (2, (.slot 2)), (3, (.slot 3)), (4, (.slot 4)), (9, (.res 1))]))
    [0, 2, 3, 4]
abbrev ref15_getAttr_r4 : NC := .reg
    (.x 2 (.call 73) [(.slot 0)] none []
    (.q 3 (.fld 1) [(.slot 3)] none
    (.q 4 (.ixa 7 1) [(.res 3), (.slot 4)] none
    (.x 5 (.st 1) [(.res 4), (.res 2)] none []
    (.out [(0, (.slot 0)), (2, (.slot 2)), (3, (.slot 3)), (4, (.slot 4))])))))
    [0, 2, 3, 4]
abbrev ref15_getAttr_r5 : NC := .reg
    (.q 1 (.iar .add) [(.slot 4), (.const (.int .i64 1))] none
    (.out [(0, (.slot 0)), (2, (.slot 2)), (3, (.slot 3)), (4, (.res 1))]))
    [0, 2, 3, 4]
abbrev ref15_getAttr_l0 : NC :=
  (.seq (.seq ref15_getAttr_r3
  (.cond (.slot 9)
    .skip
    (.exit 0)))
  (.seq (.block 1 ref15_getAttr_r4)
  ref15_getAttr_r5))
abbrev ref15_getAttr_r6 : NC := .reg
    (.q 1 .nilck [(.slot 0)] none
    (.q 2 (.fld 2) [(.res 1)] none
    (.q 3 .ld [(.res 2)] none
    (.q 4 (.icm .eql) [(.res 3), (.const (.int .i64 0))] none
    (.q 6 (.lda 8) [(.slot 3)] (some ((.res 4), true))
    (.x 7 (.call 53) [(.res 6)] (some ((.res 4), true)) []
    (.q 8 .not [(.res 7)] (some ((.res 4), true))
    (.q 9 .pick [(.res 4), (.res 8), (.const (.bool false))] none
    (.out [(0, (.slot 0)), (2, (.slot 2)), (3, (.slot 3)), (26, (.res 9))])))))))))
    [0, 2, 3]
abbrev ref15_getAttr_r7 : NC := .reg
    (.q 1 .nilck [(.slot 0)] none
    (.q 2 (.fld 2) [(.res 1)] none
    (.x 3 (.st 1) [(.res 2), (.const (.int .i64 4))] none []
    (.out [(2, (.slot 2)), (3, (.slot 3))]))))
    [0, 2, 3]
abbrev ref15_getAttr_r8 : NC := .reg
    (.q 0 (.lda 8) [(.slot 3)] none
    (.x 1 (.st 8) [(.slot 2), (.res 0)] none []
    (.out [(2, (.slot 2))])))
    [2, 3]
abbrev ref15_getAttr_c : NC :=
  (.seq ref15_getAttr_r0
  (.seq ref15_getAttr_r1
  (.seq (.seq ref15_getAttr_r2
  (.block 0 (.loop [0, 2, 3, 4] ref15_getAttr_l0)))
  (.seq (.seq ref15_getAttr_r6
  (.cond (.slot 26)
    ref15_getAttr_r7
    .skip))
  (.seq ref15_getAttr_r8
  .ret)))))
abbrev ref15_getAttr_F : FN := ⟨ref15_getAttr_c, [.cells 2 8]⟩
theorem ref15_getAttr_ok : compF Try.prog Try.f76 = some ref15_getAttr_F := by kernel_rfl
theorem ref15_getAttr_go {args : List Value} {m : Mem} {R : Value → Mem → Prop} (hn : args.length ≤ Try.f76.ntmps) (h : wpN Try.prog ref15_getAttr_c (retP ref15_getAttr_F.rvs R) (zipP 0 args) m) : MC Try.prog 76 args m R := MC_start Try.func76 ref15_getAttr_ok mixed_ok hn h
/-! (*concord/concordref1.Reader).Flag -/
abbrev ref1_Reader_Flag_r0 : NC := .reg
    (.out [(0, (.slot 0))])
    [0]
abbrev ref1_Reader_Flag_r1 : NC := .reg
    (.q 1 .nilck [(.slot 0)] none
    (.q 2 (.fld 2) [(.res 1)] none
    (.q 3 .ld [(.res 2)] none
    (.q 4 (.icm .neq) [(.res 3), (.const (.int .i64 0))] none
    (.out [(0, (.slot 0)), (8, (.res 4))])))))
    [0]
abbrev ref1_Reader_Flag_r2 : NC := .reg
    (.out [(2, (.const (.bool false)))])
    []
abbrev ref1_Reader_Flag_r3 : NC := .reg
    (.q 1 .nilck [(.slot 0)] none
    (.q 2 (.fld 1) [(.res 1)] none
    (.q 3 .ld [(.res 2)] none
    (.q 5 .nilck [(.slot 0)] none
    (.q 6 (.fld 0) [(.res 5)] none
    (.q 7 .ld [(.res 6)] none
    (.q 8 .len [(.res 7)] none
    (.q 9 (.icm .geq) [(.res 3), (.res 8)] none
    (.out [(0, (.slot 0)), (18, (.res 9))])))))))))
    [0]
abbrev ref1_Reader_Flag_r4 : NC := .reg
    (.x 1 (.call 78) [(.slot 0), (.const (.int .i64 3))] none []
    (.out []))
    [0]
abbrev ref1_Reader_Flag_r5 : NC := .reg
    (.out [(2, (.const (.bool false)))])
    []
abbrev ref1_Reader_Flag_r6 : NC := .reg
    (.q 1 .nilck [(.slot 0)] none
    (.q 2 (.fld 0) [(.res 1)] none
    (.q 3 .ld [(.res 2)] none
    (.q 5 .nilck [(.slot 0)] none
    (.q 6 (.fld 1) [(.res 5)] none
    (.q 7 .ld [(.res 6)] none
    (.q 8 (.ixs 1) [(.res 3), (.res 7)] none
    (.q 9 .ld [(.res 8)] none
    (.out [(0, (.slot 0)), (3, (.res 9))])))))))))
    [0]
abbrev ref1_Reader_Flag_r7 : NC := .reg
    (.q 1 (.icm .gtr) [(.slot 3), (.const (.int .u8 1))] none
    (.out [(0, (.slot 0)), (3, (.slot 3)), (32, (.res 1))]))
    [0, 3]
abbrev ref1_Reader_Flag_r8 : NC := .reg
    (.x 1 (.call 78) [(.slot 0), (.const (.int .i64 4))] none []
    (.out []))
    [0]
abbrev ref1_Reader_Flag_r9 : NC := .reg
    (.out [(2, (.const (.bool false)))])
    []
abbrev ref1_Reader_Flag_r10 : NC := .reg
    (.q 1 .nilck [(.slot 0)] none
    (.q 2 (.fld 1) [(.res 1)] none
    (.q 3 .ld [(.res 2)] none
    (.q 4 (.iar .add) [(.res 3), (.const (.int .i64 1))] none
    (.q 5 .nilck [(.slot 0)] none
    (.q 6 (.fld 1) [(.res 5)] none
    (.x 7 (.st 1) [(.res 6), (.res 4)] none []
    (.out [(3, (.slot 3))]))))))))
    [0, 3]
abbrev ref1_Reader_Flag_r11 : NC := .reg
    (.q 1 (.icm .eql) [(.slot 3), (.const (.int .u8 1))] none
    (.out [(2, (.res 1))]))
    [3]
abbrev ref1_Reader_Flag_c : NC :=
  (.seq ref1_Reader_Flag_r0
  (.seq (.seq ref1_Reader_Flag_r1
  (.cond (.slot 8)
    (.seq ref1_Reader_Flag_r2
    .ret)
    .skip))
  (.seq (.seq ref1_Reader_Flag_r3
  (.cond (.slot 18)
    (.seq ref1_Reader_Flag_r4
    (.seq ref1_Reader_Flag_r5
    .ret))
    .skip))
  (.seq ref1_Reader_Flag_r6
  (.seq (.seq ref1_Reader_Flag_r7
  (.cond (.slot 32)
    (.seq ref1_Reader_Flag_r8
    (.seq ref1_Reader_Flag_r9
    .ret))
    .skip))
  (.seq ref1_Reader_Flag_r10
  (.seq ref1_Reader_Flag_r11
  .ret)))))))
abbrev ref1_Reader_Flag_F : FN := ⟨ref1_Reader_Flag_c, [.slot 2]⟩
theorem ref1_Reader_Flag_ok : compF Try.prog Try.f77 = some ref1_Reader_Flag_F := by kernel_rfl
theorem ref1_Reader_Flag_go {args : List Value} {m : Mem} {R : Value → Mem → Prop} (hn : args.length ≤ Try.f77.ntmps) (h : wpN Try.prog ref1_Reader_Flag_c (retP ref1_Reader_Flag_F.rvs R) (zipP 0 args) m) : MC Try.prog 77 args m R := MC_start Try.func77 ref1_Reader_Flag_ok mixed_ok hn h
/-! (*concord/concordref1.Reader).fail -/
abbrev ref1_Reader_fail_r0 : NC := .reg
    (.q 1 .nilck [(.slot 0)] none
    (.q 2 (.fld 2) [(.res 1)] none
    (.q 3 .ld [(.res 2)] none
    (.q 4 (.icm .eql) [(.res 3), (.const (.int .i64 0))] none
    (.out [(0, (.slot 0)), (1, (.slot 1)), (8, (.res 4))])))))
    [0, 1]
abbrev ref1_Reader_fail_r1 : NC := .reg
    (.q 2 .nilck [(.slot 0)] none
    (.q 3 (.fld 2) [(.res 2)] none
    (.x 4 (.st 1) [(.res 3), (.slot 1)] none []
    (.out []))))
    [0, 1]
abbrev ref1_Reader_fail_c : NC :=
  (.seq ref1_Reader_fail_r0
  (.cond (.slot 8)
    ref1_Reader_fail_r1
    .skip))
abbrev ref1_Reader_fail_F : FN := ⟨ref1_Reader_fail_c, []⟩
theorem ref1_Reader_fail_ok : compF Try.prog Try.f78 = some ref1_Reader_fail_F := by kernel_rfl
theorem ref1_Reader_fail_go {args : List Value} {m : Mem} {R : Value → Mem → Prop} (hn : args.length ≤ Try.f78.ntmps) (h : wpN Try.prog ref1_Reader_fail_c (retP ref1_Reader_fail_F.rvs R) (zipP 0 args) m) : MC Try.prog 78 args m R := MC_start Try.func78 ref1_Reader_fail_ok mixed_ok hn h
/-! concord/concordref1.RightDeps -/
abbrev ref1_RightDeps_r0 : NC := .reg
    (.x 0 (.box 25) [(.slot 0)] none []
    (.out [(1, (.res 0))]))
    [0]
abbrev ref1_RightDeps_r1 : NC := .reg
    (.out [(1, (.slot 1)), (3, (.const (.int .i64 0)))])
    [1]
abbrev ref1_RightDeps_r2 : NC := .reg
    (.q 1 (.icm .lss) [(.slot 3), (.const (.int .i64 7))] none
    (.out [(1, (.slot 1)), (3, (.slot 3)), (5, (.res 1))]))
    [1, 3]
abbrev ref1_RightDeps_r3 : NC := .reg
    (.q 1 (.ixa 7 1) [(.slot 1), (.slot 3)] none
    (.q 2 .ld [(.res 1)] none
    (.q 3 (.icm .lss) [(.res 2), (.const (.int .i64 0))] none
    (.q 5 .mv [(.slot 3)] (some ((.res 3), false))
    (.q 6 (.ixa 7 1) [(.slot 1), (.res 5)] (some ((.res 3), false))
    (.q 7 .ld [(.res 6)] (some ((.res 3), false))
    (.q 8 (.icm .gtr) [(.res 7), (.const (.int .i64 1073741824))] (some ((.res 3), false))
    (.q 9 .pick [(.res 3), (.const (.bool true)), (.res 8)] none
    (.out [(1, (.slot 1)), (3, (.slot 3)), (17, (.res 9))])))))))))
    [1, 3]
abbrev ref1_RightDeps_r4 : NC := .reg
    (.out [(2, (.const (.bool false)))])
    []
abbrev ref1_RightDeps_r5 : NC := .reg
    (.q 1 (.iar .add) [(.slot 3), (.const (.int .i64 1))] none
    (.out [(1, (.slot 1)), (3, (.res 1))]))
    [1, 3]
abbrev ref1_RightDeps_l0 : NC :=
  (.seq (.seq ref1_RightDeps_r2
  (.cond (.slot 5)
    .skip
    (.exit 0)))
  (.seq (.block 1 (.seq ref1_RightDeps_r3
  (.cond (.slot 17)
    (.seq ref1_RightDeps_r4
    .ret)
    .skip)))
  ref1_RightDeps_r5))
abbrev ref1_RightDeps_r6 : NC := .reg
    (.out [(2, (.const (.bool true)))])
    []
abbrev ref1_RightDeps_c : NC :=
  (.seq ref1_RightDeps_r0
  (.seq (.seq ref1_RightDeps_r1
  (.block 0 (.loop [1, 3] ref1_RightDeps_l0)))
  (.seq ref1_RightDeps_r6
  .ret)))
abbrev ref1_RightDeps_F : FN := ⟨ref1_RightDeps_c, [.slot 2]⟩
theorem ref1_RightDeps_ok : compF Try.prog Try.f79 = some ref1_RightDeps_F := by kernel_rfl
theorem ref1_RightDeps_go {args : List Value} {m : Mem} {R : Value → Mem → Prop} (hn : args.length ≤ Try.f79.ntmps) (h : wpN Try.prog ref1_RightDeps_c (retP ref1_RightDeps_F.rvs R) (zipP 0 args) m) : MC Try.prog 79 args m R := MC_start Try.func79 ref1_RightDeps_ok mixed_ok hn h
/-! concord/concordref15.ballot -/
abbrev ref15_ballot_r0 : NC := .reg
    (.x 0 (.box 31) [(.slot 1)] none []
    (.out [(0, (.slot 0)), (3, (.res 0))]))
    [0, 1]
abbrev ref15_ballot_r1 : NC := .reg
    (.q 1 (.fld 0) [(.slot 3)] none
    (.q 2 .ld [(.res 1)] none
    (.q 4 (.fld 1) [(.slot 3)] none
    (.q 5 .ld [(.res 4)] none
    (.x 3 (.call 86) [(.slot 0), (.res 2)] none [(5, .ld, [(.res 4)], none)]
    (.x 6 (.call 86) [(.res 3), (.res 5)] none []
    (.out [(4, (.res 6))])))))))
    [0, 3]
abbrev ref15_ballot_c : NC :=
  (.seq ref15_ballot_r0
  (.seq ref15_ballot_r1
  .ret))
abbrev ref15_ballot_F : FN := ⟨ref15_ballot_c, [.slot 4]⟩
theorem ref15_ballot_ok : compF Try.prog Try.f85 = some ref15_ballot_F := by kernel_rfl
theorem ref15_ballot_go {args : List Value} {m : Mem} {R : Value → Mem → Prop} (hn : args.length ≤ Try.f85.ntmps) (h : wpN Try.prog ref15_ballot_c (retP ref15_ballot_F.rvs R) (zipP 0 args) m) : MC Try.prog 85 args m R := MC_start Try.func85 ref15_ballot_ok mixed_ok hn h
/-! concord/concordref1.Num -/
abbrev ref1_Num_r0 : NC := .reg
    (.out [(0, (.slot 0)), (1, (.slot 1))])
    [0, 1]
abbrev ref1_Num_r1 : NC := .reg
    (.x 0 (.bsl 5 0 [] []) [] none []
    (.x 2 (.app 5 1 1 [(.int .u8 0)]) [(.res 0), (.slot 0)] none []
    (.out [(1, (.slot 1)), (5, (.res 2))])))
    [0, 1]
abbrev ref1_Num_r2 : NC := .reg
    (.x 1 (.call 107) [(.slot 1)] none []
    (.out [(5, (.slot 5)), (6, (.res 1))]))
    [1, 5]
abbrev ref1_Num_r3 : NC := .reg
    (.q 1 (.icm .geq) [(.slot 6), (.const (.int .u64 128))] none
    (.out [(5, (.slot 5)), (6, (.slot 6)), (13, (.res 1))]))
    [5, 6]
abbrev ref1_Num_r4 : NC := .reg
    (.q 2 (.ibt .and) [(.slot 6), (.const (.int .u64 127))] none
    (.q 3 (.conv .u8) [(.res 2)] none
    (.q 4 (.ibt .or) [(.res 3), (.const (.int .u8 128))] none
    (.x 5 (.bsl 5 1 [(.int .u8 0)] [(0, 1)]) [(.res 4)] none []
    (.x 6 (.app 5 1 1 [(.int .u8 0)]) [(.slot 5), (.res 5)] none []
    (.out [(5, (.res 6)), (6, (.slot 6))]))))))
    [5, 6]
abbrev ref1_Num_r5 : NC := .reg
    (.q 1 (.ish .shr) [(.slot 6), (.const (.int .u64 7))] none
    (.out [(5, (.slot 5)), (6, (.res 1))]))
    [5, 6]
abbrev ref1_Num_l0 : NC :=
  (.seq (.seq ref1_Num_r3
  (.cond (.slot 13)
    .skip
    (.exit 0)))
  (.block 1 (.seq ref1_Num_r4
  ref1_Num_r5)))
abbrev ref1_Num_r6 : NC := .reg
    (.q 2 (.conv .u8) [(.slot 6)] none
    (.x 3 (.bsl 5 1 [(.int .u8 0)] [(0, 1)]) [(.res 2)] none []
    (.x 4 (.app 5 1 1 [(.int .u8 0)]) [(.slot 5), (.res 3)] none []
    (.out [(4, (.res 4))]))))
    [5, 6]
abbrev ref1_Num_c : NC :=
  (.seq ref1_Num_r0
  (.seq ref1_Num_r1
  (.seq ref1_Num_r2
  (.seq (.block 0 (.loop [5, 6] ref1_Num_l0))
  (.seq ref1_Num_r6
  .ret)))))
abbrev ref1_Num_F : FN := ⟨ref1_Num_c, [.slot 4]⟩
theorem ref1_Num_ok : compF Try.prog Try.f86 = some ref1_Num_F := by kernel_rfl
theorem ref1_Num_go {args : List Value} {m : Mem} {R : Value → Mem → Prop} (hn : args.length ≤ Try.f86.ntmps) (h : wpN Try.prog ref1_Num_c (retP ref1_Num_F.rvs R) (zipP 0 args) m) : MC Try.prog 86 args m R := MC_start Try.func86 ref1_Num_ok mixed_ok hn h
/-! concord/concordref1.Flag -/
abbrev ref1_Flag_r0 : NC := .reg
    (.out [(0, (.slot 0)), (1, (.slot 1))])
    [0, 1]
abbrev ref1_Flag_r1 : NC := .reg
    (.out [(0, (.slot 0)), (1, (.slot 1)), (5, (.const (.int .u8 0)))])
    [0, 1]
abbrev ref1_Flag_r2 : NC := .reg
    (.out [(0, (.slot 0)), (5, (.slot 5)), (6, (.slot 1))])
    [0, 1, 5]
abbrev ref1_Flag_r3 : NC := .reg
    (.out [(0, (.slot 0)), (5, (.const (.int .u8 1)))])
    [0]
abbrev ref1_Flag_r4 : NC := .reg
    (.x 0 (.bsl 5 0 [] []) [] none []
    (.x 2 (.app 5 1 1 [(.int .u8 0)]) [(.res 0), (.slot 0)] none []
    (.x 4 (.bsl 5 1 [(.int .u8 0)] [(0, 1)]) [(.slot 5)] none []
    (.x 5 (.app 5 1 1 [(.int .u8 0)]) [(.res 2), (.res 4)] none []
    (.out [(4, (.res 5))])))))
    [0, 5]
abbrev ref1_Flag_c : NC :=
  (.seq ref1_Flag_r0
  (.seq ref1_Flag_r1
  (.seq (.seq ref1_Flag_r2
  (.cond (.slot 6)
    ref1_Flag_r3
    .skip))
  (.seq ref1_Flag_r4
  .ret))))
abbrev ref1_Flag_F : FN := ⟨ref1_Flag_c, [.slot 4]⟩
theorem ref1_Flag_ok : compF Try.prog Try.f87 = some ref1_Flag_F := by kernel_rfl
theorem ref1_Flag_go {args : List Value} {m : Mem} {R : Value → Mem → Prop} (hn : args.length ≤ Try.f87.ntmps) (h : wpN Try.prog ref1_Flag_c (retP ref1_Flag_F.rvs R) (zipP 0 args) m) : MC Try.prog 87 args m R := MC_start Try.func87 ref1_Flag_ok mixed_ok hn h
/-! concord/concordref15.attr -/
abbrev ref15_attr_r0 : NC := .reg
    (.x 0 (.box 35) [(.slot 1)] none []
    (.out [(0, (.slot 0)), (3, (.res 0))]))
    [0, 1]
abbrev ref15_attr_r1 : NC := .reg
    (.q 1 (.fld 0) [(.slot 3)] none
    (.q 2 .ld [(.res 1)] none
    (.x 3 (.call 86) [(.slot 0), (.res 2)] none []
    (.out [(0, (.res 3)), (3, (.slot 3))]))))
    [0, 3]
abbrev ref15_attr_r2 : NC := .reg
    (.out [(0, (.slot 0)), (3, (.slot 3)), (5, (.const (.int .i64 0)))])
    [0, 3]
abbrev ref15_attr_r3 : NC := .reg
    (.q 1 (.icm .lss) [(.slot 5), (.const (.int .i64 7))] none
    (.out [(0, (.slot 0)), (3, (.slot 3)), (5, (.slot 5)), (11, (.res 1))]))
    [0, 3, 5]
abbrev ref15_attr_r4 : NC := .reg
    (.q 2 (.fld 1) [(.slot 3)] none
    (.q 3 (.ixa 7 1) [(.res 2), (.slot 5)] none
    (.q 4 .ld [(.res 3)] none
    (.x 5 (.call 86) [(.slot 0), (.res 4)] none []
    (.out [(0, (.res 5)), (3, (.slot 3)), (5, (.slot 5))])))))
    [0, 3, 5]
abbrev ref15_attr_r5 : NC := .reg
    (.q 1 (.iar .add) [(.slot 5), (.const (.int .i64 1))] none
    (.out [(0, (.slot 0)), (3, (.slot 3)), (5, (.res 1))]))
    [0, 3, 5]
abbrev ref15_attr_l0 : NC :=
  (.seq (.seq ref15_attr_r3
  (.cond (.slot 11)
    .skip
    (.exit 0)))
  (.seq (.block 1 ref15_attr_r4)
  ref15_attr_r5))
abbrev ref15_attr_r6 : NC := .reg
    (.out [(4, (.slot 0))])
    [0]
abbrev ref15_attr_c : NC :=
  (.seq ref15_attr_r0
  (.seq ref15_attr_r1
  (.seq (.seq ref15_attr_r2
  (.block 0 (.loop [0, 3, 5] ref15_attr_l0)))
  (.seq ref15_attr_r6
  .ret))))
abbrev ref15_attr_F : FN := ⟨ref15_attr_c, [.slot 4]⟩
theorem ref15_attr_ok : compF Try.prog Try.f88 = some ref15_attr_F := by kernel_rfl
theorem ref15_attr_go {args : List Value} {m : Mem} {R : Value → Mem → Prop} (hn : args.length ≤ Try.f88.ntmps) (h : wpN Try.prog ref15_attr_c (retP ref15_attr_F.rvs R) (zipP 0 args) m) : MC Try.prog 88 args m R := MC_start Try.func88 ref15_attr_ok mixed_ok hn h
/-! concord/concordref15.command -/
abbrev ref15_command_r0 : NC := .reg
    (.x 0 (.box 33) [(.slot 1)] none []
    (.out [(0, (.slot 0)), (3, (.res 0))]))
    [0, 1]
abbrev ref15_command_r1 : NC := .reg
    (.q 1 (.fld 0) [(.slot 3)] none
    (.q 2 .ld [(.res 1)] none
    (.x 3 (.call 86) [(.slot 0), (.res 2)] none []
    (.out [(0, (.res 3)), (3, (.slot 3))]))))
    [0, 3]
abbrev ref15_command_r2 : NC := .reg
    (.q 0 (.fld 0) [(.slot 3)] none
    (.q 1 .ld [(.res 0)] none
    (.q 2 (.icm .eql) [(.res 1), (.const (.int .i64 0))] none
    (.out [(0, (.slot 0)), (3, (.slot 3)), (11, (.res 2))]))))
    [0, 3]
abbrev ref15_command_r3 : NC := .reg
    (.out [(4, (.slot 0))])
    [0]
abbrev ref15_command_r4 : NC := .reg
    (.q 1 (.fld 1) [(.slot 3)] none
    (.q 2 .ld [(.res 1)] none
    (.q 4 (.fld 2) [(.slot 3)] none
    (.q 5 .ld [(.res 4)] none
    (.q 7 (.fld 3) [(.slot 3)] none
    (.q 8 .ld [(.res 7)] none
    (.x 3 (.call 86) [(.slot 0), (.res 2)] none [(5, .ld, [(.res 4)], none), (8, .ld, [(.res 7)], none)]
    (.x 6 (.call 86) [(.res 3), (.res 5)] none [(8, .ld, [(.res 7)], none)]
    (.x 9 (.call 108) [(.res 6), (.res 8)] none []
    (.out [(0, (.res 9)), (3, (.slot 3))]))))))))))
    [0, 3]
abbrev ref15_command_r5 : NC := .reg
    (.q 0 (.fld 0) [(.slot 3)] none
    (.q 1 .ld [(.res 0)] none
    (.out [(0, (.slot 0)), (3, (.slot 3)), (24, (.res 1))])))
    [0, 3]
abbrev ref15_command_r6 : NC := .reg
    (.q 0 (.icm .eql) [(.slot 24), (.const (.int .i64 2))] none
    (.out [(0, (.slot 0)), (3, (.slot 3)), (24, (.slot 24)), (25, (.res 0))]))
    [0, 3, 24]
abbrev ref15_command_r7 : NC := .reg
    (.q 1 (.fld 6) [(.slot 3)] none
    (.q 2 .ld [(.res 1)] none
    (.x 3 (.call 108) [(.slot 0), (.res 2)] none []
    (.out [(0, (.res 3))]))))
    [0, 3]
abbrev ref15_command_r8 : NC := .reg
    (.q 0 (.icm .eql) [(.slot 24), (.const (.int .i64 4))] none
    (.out [(0, (.slot 0)), (3, (.slot 3)), (24, (.slot 24)), (31, (.res 0))]))
    [0, 3, 24]
abbrev ref15_command_r9 : NC := .reg
    (.q 1 (.fld 5) [(.slot 3)] none
    (.q 2 .ld [(.res 1)] none
    (.q 4 (.fld 6) [(.slot 3)] none
    (.q 5 .ld [(.res 4)] none
    (.x 3 (.call 108) [(.slot 0), (.res 2)] none [(5, .ld, [(.res 4)], none)]
    (.x 6 (.call 108) [(.res 3), (.res 5)] none []
    (.out [(0, (.res 6))])))))))
    [0, 3]
abbrev ref15_command_r10 : NC := .reg
    (.q 0 (.icm .eql) [(.slot 24), (.const (.int .i64 5))] none
    (.out [(0, (.slot 0)), (3, (.slot 3)), (40, (.res 0))]))
    [0, 3, 24]
abbrev ref15_command_r11 : NC := .reg
    (.q 1 (.fld 4) [(.slot 3)] none
    (.q 2 .ld [(.res 1)] none
    (.x 3 (.call 108) [(.slot 0), (.res 2)] none []
    (.out [(0, (.res 3))]))))
    [0, 3]
abbrev ref15_command_r12 : NC := .reg
    (.out [(4, (.slot 0))])
    [0]
abbrev ref15_command_c : NC :=
  (.seq ref15_command_r0
  (.seq ref15_command_r1
  (.seq (.seq ref15_command_r2
  (.cond (.slot 11)
    (.seq ref15_command_r3
    .ret)
    .skip))
  (.seq ref15_command_r4
  (.seq (.seq ref15_command_r5
  (.block 0 (.seq ref15_command_r6
  (.cond (.slot 25)
    ref15_command_r7
    (.seq ref15_command_r8
    (.cond (.slot 31)
      ref15_command_r9
      (.seq ref15_command_r10
      (.cond (.slot 40)
        ref15_command_r11
        .skip))))))))
  (.seq ref15_command_r12
  .ret))))))
abbrev ref15_command_F : FN := ⟨ref15_command_c, [.slot 4]⟩
theorem ref15_command_ok : compF Try.prog Try.f89 = some ref15_command_F := by kernel_rfl
theorem ref15_command_go {args : List Value} {m : Mem} {R : Value → Mem → Prop} (hn : args.length ≤ Try.f89.ntmps) (h : wpN Try.prog ref15_command_c (retP ref15_command_F.rvs R) (zipP 0 args) m) : MC Try.prog 89 args m R := MC_start Try.func89 ref15_command_ok mixed_ok hn h
/-! concord/concordref1.Zag -/
abbrev ref1_Zag_r0 : NC := .reg
    (.out [(0, (.slot 0))])
    [0]
abbrev ref1_Zag_r1 : NC := .reg
    (.q 1 (.ibt .and) [(.slot 0), (.const (.int .u64 1))] none
    (.q 2 (.icm .eql) [(.res 1), (.const (.int .u64 1))] none
    (.out [(0, (.slot 0)), (5, (.res 2))])))
    [0]
abbrev ref1_Zag_r2 : NC := .reg
    (.q 1 (.ish .shr) [(.slot 0), (.const (.int .u64 1))] none
    (.q 2 (.conv .i64) [(.res 1)] none
    (.q 3 .cpl [(.res 2)] none
    (.out [(2, (.res 3))]))))
    [0]
abbrev ref1_Zag_r3 : NC := .reg
    (.q 1 (.ish .shr) [(.slot 0), (.const (.int .u64 1))] none
    (.q 2 (.conv .i64) [(.res 1)] none
    (.out [(2, (.res 2))])))
    [0]
abbrev ref1_Zag_c : NC :=
  (.seq ref1_Zag_r0
  (.seq (.seq ref1_Zag_r1
  (.cond (.slot 5)
    (.seq ref1_Zag_r2
    .ret)
    .skip))
  (.seq ref1_Zag_r3
  .ret)))
abbrev ref1_Zag_F : FN := ⟨ref1_Zag_c, [.slot 2]⟩
theorem ref1_Zag_ok : compF Try.prog Try.f103 = some ref1_Zag_F := by kernel_rfl
theorem ref1_Zag_go {args : List Value} {m : Mem} {R : Value → Mem → Prop} (hn : args.length ≤ Try.f103.ntmps) (h : wpN Try.prog ref1_Zag_c (retP ref1_Zag_F.rvs R) (zipP 0 args) m) : MC Try.prog 103 args m R := MC_start Try.func103 ref1_Zag_ok mixed_ok hn h
/-! (*concord/concordref1.Reader).Text -/
abbrev ref1_Reader_Text_r0 : NC := .reg
    (.out [(0, (.slot 0)), (1, (.slot 1))])
    [0, 1]
abbrev ref1_Reader_Text_r1 : NC := .reg
    (.q 1 .nilck [(.slot 0)] none
    (.q 2 (.fld 1) [(.res 1)] none
    (.q 3 .ld [(.res 2)] none
    (.out [(0, (.slot 0)), (1, (.slot 1)), (5, (.res 3))]))))
    [0, 1]
abbrev ref1_Reader_Text_r2 : NC := .reg
    (.x 1 (.call 73) [(.slot 0)] none []
    (.out [(0, (.slot 0)), (1, (.slot 1)), (5, (.slot 5)), (6, (.res 1))]))
    [0, 1, 5]
abbrev ref1_Reader_Text_r3 : NC := .reg
    (.q 1 .nilck [(.slot 0)] none
    (.q 2 (.fld 2) [(.res 1)] none
    (.q 3 .ld [(.res 2)] none
    (.q 4 (.icm .neq) [(.res 3), (.const (.int .i64 0))] none
    (.out [(0, (.slot 0)), (1, (.slot 1)), (5, (.slot 5)), (6, (.slot 6)), (14, (.res 4))])))))
    [0, 1, 5, 6]
abbrev ref1_Reader_Text_r4 : NC := .reg
    (.out [(4, (.const (.string ⟨#[]⟩)))])
    []
abbrev ref1_Reader_Text_r5 : NC := .reg
    (.q 1 (.icm .lss) [(.slot 6), (.const (.int .i64 0))] none
    (.q 3 .mv [(.slot 6)] (some ((.res 1), false))
    (.q 4 .mv [(.slot 1)] (some ((.res 1), false))
    (.q 5 (.icm .gtr) [(.res 3), (.res 4)] (some ((.res 1), false))
    (.q 6 .pick [(.res 1), (.const (.bool true)), (.res 5)] none
    (.out [(0, (.slot 0)), (5, (.slot 5)), (6, (.slot 6)), (20, (.res 6))]))))))
    [0, 1, 5, 6]
abbrev ref1_Reader_Text_r6 : NC := .reg
    (.x 1 (.call 78) [(.slot 0), (.const (.int .i64 2))] none []
    (.out [(0, (.slot 0)), (5, (.slot 5)), (6, (.slot 6))]))
    [0, 5, 6]
abbrev ref1_Reader_Text_r7 : NC := .reg
    (.q 2 .nilck [(.slot 0)] none
    (.q 3 (.fld 0) [(.res 2)] none
    (.q 4 .ld [(.res 3)] none
    (.q 5 .len [(.res 4)] none
    (.q 7 .nilck [(.slot 0)] none
    (.q 8 (.fld 1) [(.res 7)] none
    (.q 9 .ld [(.res 8)] none
    (.q 10 (.iar .sub) [(.res 5), (.res 9)] none
    (.q 11 (.icm .gtr) [(.slot 6), (.res 10)] none
    (.out [(0, (.slot 0)), (5, (.slot 5)), (6, (.slot 6)), (30, (.res 11))]))))))))))
    [0, 5, 6]
abbrev ref1_Reader_Text_r8 : NC := .reg
    (.x 1 (.call 78) [(.slot 0), (.const (.int .i64 3))] none []
    (.out [(0, (.slot 0)), (5, (.slot 5)), (6, (.slot 6))]))
    [0, 5, 6]
abbrev ref1_Reader_Text_r9 : NC := .reg
    (.q 1 .nilck [(.slot 0)] none
    (.q 2 (.fld 2) [(.res 1)] none
    (.q 3 .ld [(.res 2)] none
    (.q 4 (.icm .neq) [(.res 3), (.const (.int .i64 0))] none
    (.out [(0, (.slot 0)), (5, (.slot 5)), (6, (.slot 6)), (49, (.res 4))])))))
    [0, 5, 6]
abbrev ref1_Reader_Text_r10 : NC := .reg
    (.q 2 .nilck [(.slot 0)] none
    (.q 3 (.fld 1) [(.res 2)] none
    (.x 4 (.st 1) [(.res 3), (.slot 5)] none []
    (.out []))))
    [0, 5]
abbrev ref1_Reader_Text_r11 : NC := .reg
    (.out [(4, (.const (.string ⟨#[]⟩)))])
    []
abbrev ref1_Reader_Text_r12 : NC := .reg
    (.q 1 .nilck [(.slot 0)] none
    (.q 2 (.fld 0) [(.res 1)] none
    (.q 3 .ld [(.res 2)] none
    (.q 5 .nilck [(.slot 0)] none
    (.q 6 (.fld 1) [(.res 5)] none
    (.q 7 .ld [(.res 6)] none
    (.q 9 .nilck [(.slot 0)] none
    (.q 10 (.fld 1) [(.res 9)] none
    (.q 11 .ld [(.res 10)] none
    (.q 13 (.iar .add) [(.res 11), (.slot 6)] none
    (.q 14 (.slc 1 true true) [(.res 3), (.res 7), (.res 13)] none
    (.q 15 .b2s [(.res 14)] none
    (.out [(0, (.slot 0)), (6, (.slot 6)), (7, (.res 15))])))))))))))))
    [0, 6]
abbrev ref1_Reader_Text_r13 : NC := .reg
    (.q 2 .nilck [(.slot 0)] none
    (.q 3 (.fld 1) [(.res 2)] none
    (.q 4 .ld [(.res 3)] none
    (.q 6 (.iar .add) [(.res 4), (.slot 6)] none
    (.q 7 .nilck [(.slot 0)] none
    (.q 8 (.fld 1) [(.res 7)] none
    (.x 9 (.st 1) [(.res 8), (.res 6)] none []
    (.out [(7, (.slot 7))]))))))))
    [0, 6, 7]
abbrev ref1_Reader_Text_r14 : NC := .reg
    (.out [(4, (.slot 7))])
    [7]
abbrev ref1_Reader_Text_c : NC :=
  (.seq ref1_Reader_Text_r0
  (.seq ref1_Reader_Text_r1
  (.seq ref1_Reader_Text_r2
  (.seq (.block 0 (.seq ref1_Reader_Text_r3
  (.cond (.slot 14)
    (.seq ref1_Reader_Text_r4
    .ret)
    (.seq ref1_Reader_Text_r5
    (.cond (.slot 20)
      ref1_Reader_Text_r6
      (.seq ref1_Reader_Text_r7
      (.cond (.slot 30)
        ref1_Reader_Text_r8
        .skip)))))))
  (.seq (.seq ref1_Reader_Text_r9
  (.cond (.slot 49)
    (.seq ref1_Reader_Text_r10
    (.seq ref1_Reader_Text_r11
    .ret))
    .skip))
  (.seq ref1_Reader_Text_r12
  (.seq ref1_Reader_Text_r13
  (.seq ref1_Reader_Text_r14
  .ret))))))))
abbrev ref1_Reader_Text_F : FN := ⟨ref1_Reader_Text_c, [.slot 4]⟩
theorem ref1_Reader_Text_ok : compF Try.prog Try.f104 = some ref1_Reader_Text_F := by kernel_rfl
theorem ref1_Reader_Text_go {args : List Value} {m : Mem} {R : Value → Mem → Prop} (hn : args.length ≤ Try.f104.ntmps) (h : wpN Try.prog ref1_Reader_Text_c (retP ref1_Reader_Text_F.rvs R) (zipP 0 args) m) : MC Try.prog 104 args m R := MC_start Try.func104 ref1_Reader_Text_ok mixed_ok hn h
/-! concord/concordref1.Zig -/
abbrev ref1_Zig_r0 : NC := .reg
    (.out [(0, (.slot 0))])
    [0]
abbrev ref1_Zig_r1 : NC := .reg
    (.q 1 (.icm .lss) [(.slot 0), (.const (.int .i64 0))] none
    (.out [(0, (.slot 0)), (4, (.res 1))]))
    [0]
abbrev ref1_Zig_r2 : NC := .reg
    (.q 1 .cpl [(.slot 0)] none
    (.q 2 (.conv .u64) [(.res 1)] none
    (.q 3 (.ish .shl) [(.res 2), (.const (.int .u64 1))] none
    (.q 4 (.ibt .or) [(.res 3), (.const (.int .u64 1))] none
    (.out [(2, (.res 4))])))))
    [0]
abbrev ref1_Zig_r3 : NC := .reg
    (.q 1 (.conv .u64) [(.slot 0)] none
    (.q 2 (.ish .shl) [(.res 1), (.const (.int .u64 1))] none
    (.out [(2, (.res 2))])))
    [0]
abbrev ref1_Zig_c : NC :=
  (.seq ref1_Zig_r0
  (.seq (.seq ref1_Zig_r1
  (.cond (.slot 4)
    (.seq ref1_Zig_r2
    .ret)
    .skip))
  (.seq ref1_Zig_r3
  .ret)))
abbrev ref1_Zig_F : FN := ⟨ref1_Zig_c, [.slot 2]⟩
theorem ref1_Zig_ok : compF Try.prog Try.f107 = some ref1_Zig_F := by kernel_rfl
theorem ref1_Zig_go {args : List Value} {m : Mem} {R : Value → Mem → Prop} (hn : args.length ≤ Try.f107.ntmps) (h : wpN Try.prog ref1_Zig_c (retP ref1_Zig_F.rvs R) (zipP 0 args) m) : MC Try.prog 107 args m R := MC_start Try.func107 ref1_Zig_ok mixed_ok hn h
/-! concord/concordref1.Text -/
abbrev ref1_Text_r0 : NC := .reg
    (.out [(0, (.slot 0)), (1, (.slot 1))])
    [0, 1]
abbrev ref1_Text_r1 : NC := .reg
    (.q 2 .lenz [(.slot 1)] none
    (.x 3 (.call 86) [(.slot 0), (.res 2)] none []
    (.x 5 (.apps 5) [(.res 3), (.slot 1)] none []
    (.out [(4, (.res 5))]))))
    [0, 1]
abbrev ref1_Text_c : NC :=
  (.seq ref1_Text_r0
  (.seq ref1_Text_r1
  .ret))
abbrev ref1_Text_F : FN := ⟨ref1_Text_c, [.slot 4]⟩
theorem ref1_Text_ok : compF Try.prog Try.f108 = some ref1_Text_F := by kernel_rfl
theorem ref1_Text_go {args : List Value} {m : Mem} {R : Value → Mem → Prop} (hn : args.length ≤ Try.f108.ntmps) (h : wpN Try.prog ref1_Text_c (retP ref1_Text_F.rvs R) (zipP 0 args) m) : MC Try.prog 108 args m R := MC_start Try.func108 ref1_Text_ok mixed_ok hn h
end Go.Fw
