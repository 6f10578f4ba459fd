import Derived.Test.YthmfahaebogibaaCd
set_option linter.unusedVariables false
set_option linter.unusedSimpArgs false
namespace Go.Fw
open Go.Proofs
/-! slices.SortFunc[[]concord/api.Inst,concord/api.Inst] -/
abbrev slices_SortFunc_api_Inst_api_Inst_r0 : NC := .reg
    (.q 1 .len [(.slot 0)] none
    (.out [(0, (.slot 0)), (1, (.slot 1)), (4, (.res 1))]))
    [0, 1]
abbrev slices_SortFunc_api_Inst_api_Inst_r1 : NC := .reg
    (.q 3 (.conv .u64) [(.slot 4)] none
    (.x 4 (.call 51) [(.res 3)] none []
    (.x 6 (.call 50) [(.slot 0), (.const (.int .i64 0)), (.slot 4), (.res 4), (.slot 1)] none []
    (.out []))))
    [0, 1, 4]
abbrev slices_SortFunc_api_Inst_api_Inst_c : NC :=
  (.seq slices_SortFunc_api_Inst_api_Inst_r0
  slices_SortFunc_api_Inst_api_Inst_r1)
abbrev slices_SortFunc_api_Inst_api_Inst_F : FN := ⟨slices_SortFunc_api_Inst_api_Inst_c, []⟩
theorem slices_SortFunc_api_Inst_api_Inst_ok : compF Try.prog Try.f37 = some slices_SortFunc_api_Inst_api_Inst_F := by kernel_rfl
theorem slices_SortFunc_api_Inst_api_Inst_go {args : List Value} {m : Mem} {R : Value → Mem → Prop} (hn : args.length ≤ Try.f37.ntmps) (h : wpN Try.prog slices_SortFunc_api_Inst_api_Inst_c (retP slices_SortFunc_api_Inst_api_Inst_F.rvs R) (zipP 0 args) m) : MC Try.prog 37 args m R := MC_start Try.func37 slices_SortFunc_api_Inst_api_Inst_ok mixed_ok hn h
/-! slices.SortStableFunc[[]int,int] -/
abbrev slices_SortStableFunc_int_int_r0 : NC := .reg
    (.q 2 .len [(.slot 0)] none
    (.x 4 (.call 55) [(.slot 0), (.res 2), (.slot 1)] none []
    (.out [])))
    [0, 1]
abbrev slices_SortStableFunc_int_int_c : NC :=
  slices_SortStableFunc_int_int_r0
abbrev slices_SortStableFunc_int_int_F : FN := ⟨slices_SortStableFunc_int_int_c, []⟩
theorem slices_SortStableFunc_int_int_ok : compF Try.prog Try.f47 = some slices_SortStableFunc_int_int_F := by kernel_rfl
theorem slices_SortStableFunc_int_int_go {args : List Value} {m : Mem} {R : Value → Mem → Prop} (hn : args.length ≤ Try.f47.ntmps) (h : wpN Try.prog slices_SortStableFunc_int_int_c (retP slices_SortStableFunc_int_int_F.rvs R) (zipP 0 args) m) : MC Try.prog 47 args m R := MC_start Try.func47 slices_SortStableFunc_int_int_ok mixed_ok hn h
/-! slices.pdqsortCmpFunc[concord/api.Inst] -/
abbrev slices_pdqsortCmpFunc_api_Inst_r0 : NC := .reg
    (.out [(0, (.slot 0)), (1, (.slot 1)), (2, (.slot 2)), (3, (.slot 3)), (4, (.slot 4)), (10, (.const (.bool true)))])
    [0, 1, 2, 3, 4]
abbrev slices_pdqsortCmpFunc_api_Inst_r1 : NC := .reg
    (.out [(0, (.slot 0)), (1, (.slot 1)), (2, (.slot 2)), (3, (.slot 3)), (4, (.slot 4)), (10, (.slot 10)), (11, (.const (.bool true)))])
    [0, 1, 2, 3, 4, 10]
abbrev slices_pdqsortCmpFunc_api_Inst_r2 : NC := .reg
    (.q 2 (.iar .sub) [(.slot 2), (.slot 1)] none
    (.out [(0, (.slot 0)), (1, (.slot 1)), (2, (.slot 2)), (3, (.slot 3)), (4, (.slot 4)), (10, (.slot 10)), (11, (.slot 11)), (12, (.res 2))]))
    [0, 1, 2, 3, 4, 10, 11]
abbrev slices_pdqsortCmpFunc_api_Inst_r3 : NC := .reg
    (.q 1 (.icm .leq) [(.slot 12), (.const (.int .i64 12))] none
    (.out [(0, (.slot 0)), (1, (.slot 1)), (2, (.slot 2)), (3, (.slot 3)), (4, (.slot 4)), (10, (.slot 10)), (11, (.slot 11)), (12, (.slot 12)), (25, (.res 1))]))
    [0, 1, 2, 3, 4, 10, 11, 12]
abbrev slices_pdqsortCmpFunc_api_Inst_r4 : NC := .reg
    (.x 4 (.call 57) [(.slot 0), (.slot 1), (.slot 2), (.slot 4)] none []
    (.out []))
    [0, 1, 2, 4]
abbrev slices_pdqsortCmpFunc_api_Inst_r5 : NC := .reg
    (.q 1 (.icm .eql) [(.slot 3), (.const (.int .i64 0))] none
    (.out [(0, (.slot 0)), (1, (.slot 1)), (2, (.slot 2)), (3, (.slot 3)), (4, (.slot 4)), (10, (.slot 10)), (11, (.slot 11)), (12, (.slot 12)), (32, (.res 1))]))
    [0, 1, 2, 3, 4, 10, 11, 12]
abbrev slices_pdqsortCmpFunc_api_Inst_r6 : NC := .reg
    (.x 4 (.call 58) [(.slot 0), (.slot 1), (.slot 2), (.slot 4)] none []
    (.out []))
    [0, 1, 2, 4]
abbrev slices_pdqsortCmpFunc_api_Inst_r7 : NC := .reg
    (.q 1 .not [(.slot 10)] none
    (.out [(0, (.slot 0)), (1, (.slot 1)), (2, (.slot 2)), (3, (.slot 3)), (4, (.slot 4)), (10, (.slot 10)), (11, (.slot 11)), (12, (.slot 12)), (39, (.res 1))]))
    [0, 1, 2, 3, 4, 10, 11, 12]
abbrev slices_pdqsortCmpFunc_api_Inst_r8 : NC := .reg
    (.x 4 (.call 59) [(.slot 0), (.slot 1), (.slot 2), (.slot 4)] none []
    (.out [(0, (.slot 0)), (1, (.slot 1)), (2, (.slot 2)), (3, (.slot 3)), (4, (.slot 4)), (10, (.slot 10)), (11, (.slot 11)), (12, (.slot 12))]))
    [0, 1, 2, 3, 4, 10, 11, 12]
abbrev slices_pdqsortCmpFunc_api_Inst_r9 : NC := .reg
    (.q 1 (.iar .sub) [(.slot 3), (.const (.int .i64 1))] none
    (.out [(0, (.slot 0)), (1, (.slot 1)), (2, (.slot 2)), (3, (.res 1)), (4, (.slot 4)), (10, (.slot 10)), (11, (.slot 11)), (12, (.slot 12))]))
    [0, 1, 2, 3, 4, 10, 11, 12]
abbrev slices_pdqsortCmpFunc_api_Inst_r10 : NC := .reg
    (.x 4 (.call 60) [(.slot 0), (.slot 1), (.slot 2), (.slot 4)] none []
    (.q 6 (.ext 0) [(.res 4)] none
    (.q 7 (.ext 1) [(.res 4)] none
    (.out [(0, (.slot 0)), (1, (.slot 1)), (2, (.slot 2)), (3, (.slot 3)), (4, (.slot 4)), (10, (.slot 10)), (11, (.slot 11)), (12, (.slot 12)), (13, (.res 6)), (14, (.res 7))]))))
    [0, 1, 2, 3, 4, 10, 11, 12]
abbrev slices_pdqsortCmpFunc_api_Inst_r11 : NC := .reg
    (.q 1 (.icm .eql) [(.slot 14), (.const (.int .i64 2))] none
    (.out [(0, (.slot 0)), (1, (.slot 1)), (2, (.slot 2)), (3, (.slot 3)), (4, (.slot 4)), (10, (.slot 10)), (11, (.slot 11)), (12, (.slot 12)), (13, (.slot 13)), (14, (.slot 14)), (56, (.res 1))]))
    [0, 1, 2, 3, 4, 10, 11, 12, 13, 14]
abbrev slices_pdqsortCmpFunc_api_Inst_r12 : NC := .reg
    (.x 4 (.call 61) [(.slot 0), (.slot 1), (.slot 2), (.slot 4)] none []
    (.out [(0, (.slot 0)), (1, (.slot 1)), (2, (.slot 2)), (3, (.slot 3)), (4, (.slot 4)), (10, (.slot 10)), (11, (.slot 11)), (12, (.slot 12)), (13, (.slot 13))]))
    [0, 1, 2, 3, 4, 10, 11, 12, 13]
abbrev slices_pdqsortCmpFunc_api_Inst_r13 : NC := .reg
    (.q 1 (.iar .sub) [(.slot 2), (.const (.int .i64 1))] none
    (.q 4 (.iar .sub) [(.slot 13), (.slot 1)] none
    (.q 5 (.iar .sub) [(.res 1), (.res 4)] none
    (.out [(0, (.slot 0)), (1, (.slot 1)), (2, (.slot 2)), (3, (.slot 3)), (4, (.slot 4)), (10, (.slot 10)), (11, (.slot 11)), (12, (.slot 12)), (13, (.res 5))]))))
    [0, 1, 2, 3, 4, 10, 11, 12, 13]
abbrev slices_pdqsortCmpFunc_api_Inst_r14 : NC := .reg
    (.out [(0, (.slot 0)), (1, (.slot 1)), (2, (.slot 2)), (3, (.slot 3)), (4, (.slot 4)), (10, (.slot 10)), (11, (.slot 11)), (12, (.slot 12)), (13, (.slot 13)), (14, (.const (.int .i64 1)))])
    [0, 1, 2, 3, 4, 10, 11, 12, 13]
abbrev slices_pdqsortCmpFunc_api_Inst_r15 : NC := .reg
    (.q 2 .mv [(.slot 11)] (some ((.slot 10), true))
    (.q 3 .pick [(.slot 10), (.res 2), (.const (.bool false))] none
    (.q 5 .mv [(.slot 14)] (some ((.res 3), true))
    (.q 6 (.icm .eql) [(.res 5), (.const (.int .i64 1))] (some ((.res 3), true))
    (.q 7 .pick [(.res 3), (.res 6), (.const (.bool false))] none
    (.out [(0, (.slot 0)), (1, (.slot 1)), (2, (.slot 2)), (3, (.slot 3)), (4, (.slot 4)), (10, (.slot 10)), (11, (.slot 11)), (12, (.slot 12)), (13, (.slot 13)), (75, (.res 7))]))))))
    [0, 1, 2, 3, 4, 10, 11, 12, 13, 14]
abbrev slices_pdqsortCmpFunc_api_Inst_r16 : NC := .reg
    (.x 4 (.call 62) [(.slot 0), (.slot 1), (.slot 2), (.slot 4)] none []
    (.out [(0, (.slot 0)), (1, (.slot 1)), (2, (.slot 2)), (3, (.slot 3)), (4, (.slot 4)), (10, (.slot 10)), (11, (.slot 11)), (12, (.slot 12)), (13, (.slot 13)), (80, (.res 4))]))
    [0, 1, 2, 3, 4, 10, 11, 12, 13]
abbrev slices_pdqsortCmpFunc_api_Inst_r17 : NC := .reg
    (.q 1 (.icm .gtr) [(.slot 1), (.const (.int .i64 0))] none
    (.q 3 .mv [(.slot 4)] (some ((.res 1), true))
    (.q 4 .mv [(.slot 0)] (some ((.res 1), true))
    (.q 5 .mv [(.slot 1)] (some ((.res 1), true))
    (.q 6 (.iar .sub) [(.res 5), (.const (.int .i64 1))] (some ((.res 1), true))
    (.q 7 (.ixs 2) [(.res 4), (.res 6)] (some ((.res 1), true))
    (.q 8 (.lda 2) [(.res 7)] (some ((.res 1), true))
    (.q 9 .mv [(.slot 0)] (some ((.res 1), true))
    (.q 10 .mv [(.slot 13)] (some ((.res 1), true))
    (.q 11 (.ixs 2) [(.res 9), (.res 10)] (some ((.res 1), true))
    (.q 12 (.lda 2) [(.res 11)] (some ((.res 1), true))
    (.x 13 .callv [(.res 3), (.res 8), (.res 12)] (some ((.res 1), true)) []
    (.q 14 (.icm .lss) [(.res 13), (.const (.int .i64 0))] (some ((.res 1), true))
    (.q 15 .not [(.res 14)] (some ((.res 1), true))
    (.q 16 .pick [(.res 1), (.res 15), (.const (.bool false))] none
    (.out [(0, (.slot 0)), (1, (.slot 1)), (2, (.slot 2)), (3, (.slot 3)), (4, (.slot 4)), (10, (.slot 10)), (11, (.slot 11)), (12, (.slot 12)), (13, (.slot 13)), (97, (.res 16))]))))))))))))))))
    [0, 1, 2, 3, 4, 10, 11, 12, 13]
abbrev slices_pdqsortCmpFunc_api_Inst_r18 : NC := .reg
    (.x 5 (.call 63) [(.slot 0), (.slot 1), (.slot 2), (.slot 13), (.slot 4)] none []
    (.out [(0, (.slot 0)), (2, (.slot 2)), (3, (.slot 3)), (4, (.slot 4)), (10, (.slot 10)), (11, (.slot 11)), (15, (.res 5))]))
    [0, 1, 2, 3, 4, 10, 11, 13]
abbrev slices_pdqsortCmpFunc_api_Inst_r19 : NC := .reg
    (.out [(0, (.slot 0)), (1, (.slot 15)), (2, (.slot 2)), (3, (.slot 3)), (4, (.slot 4)), (10, (.slot 10)), (11, (.slot 11))])
    [0, 2, 3, 4, 10, 11, 15]
abbrev slices_pdqsortCmpFunc_api_Inst_r20 : NC := .reg
    (.x 5 (.call 64) [(.slot 0), (.slot 1), (.slot 2), (.slot 13), (.slot 4)] none []
    (.q 7 (.ext 0) [(.res 5)] none
    (.q 8 (.ext 1) [(.res 5)] none
    (.out [(0, (.slot 0)), (1, (.slot 1)), (2, (.slot 2)), (3, (.slot 3)), (4, (.slot 4)), (12, (.slot 12)), (16, (.res 7)), (17, (.res 8))]))))
    [0, 1, 2, 3, 4, 12, 13]
abbrev slices_pdqsortCmpFunc_api_Inst_r21 : NC := .reg
    (.out [(0, (.slot 0)), (1, (.slot 1)), (2, (.slot 2)), (3, (.slot 3)), (4, (.slot 4)), (11, (.slot 17)), (12, (.slot 12)), (16, (.slot 16))])
    [0, 1, 2, 3, 4, 12, 16, 17]
abbrev slices_pdqsortCmpFunc_api_Inst_r22 : NC := .reg
    (.q 2 (.iar .sub) [(.slot 16), (.slot 1)] none
    (.q 5 (.iar .sub) [(.slot 2), (.slot 16)] none
    (.out [(0, (.slot 0)), (1, (.slot 1)), (2, (.slot 2)), (3, (.slot 3)), (4, (.slot 4)), (11, (.slot 11)), (12, (.slot 12)), (16, (.slot 16)), (18, (.res 2)), (19, (.res 5))])))
    [0, 1, 2, 3, 4, 11, 12, 16]
abbrev slices_pdqsortCmpFunc_api_Inst_r23 : NC := .reg
    (.q 1 (.idv .quo) [(.slot 12), (.const (.int .i64 8))] none
    (.out [(0, (.slot 0)), (1, (.slot 1)), (2, (.slot 2)), (3, (.slot 3)), (4, (.slot 4)), (11, (.slot 11)), (16, (.slot 16)), (18, (.slot 18)), (19, (.slot 19)), (20, (.res 1))]))
    [0, 1, 2, 3, 4, 11, 12, 16, 18, 19]
abbrev slices_pdqsortCmpFunc_api_Inst_r24 : NC := .reg
    (.q 2 (.icm .lss) [(.slot 18), (.slot 19)] none
    (.out [(0, (.slot 0)), (1, (.slot 1)), (2, (.slot 2)), (3, (.slot 3)), (4, (.slot 4)), (11, (.slot 11)), (16, (.slot 16)), (18, (.slot 18)), (19, (.slot 19)), (20, (.slot 20)), (125, (.res 2))]))
    [0, 1, 2, 3, 4, 11, 16, 18, 19, 20]
abbrev slices_pdqsortCmpFunc_api_Inst_r25 : NC := .reg
    (.q 2 (.icm .geq) [(.slot 18), (.slot 20)] none
    (.out [(0, (.slot 0)), (1, (.slot 1)), (2, (.slot 2)), (3, (.slot 3)), (4, (.slot 4)), (10, (.res 2)), (11, (.slot 11)), (16, (.slot 16))]))
    [0, 1, 2, 3, 4, 11, 16, 18, 20]
abbrev slices_pdqsortCmpFunc_api_Inst_r26 : NC := .reg
    (.x 5 (.call 50) [(.slot 0), (.slot 1), (.slot 16), (.slot 3), (.slot 4)] none []
    (.out [(0, (.slot 0)), (2, (.slot 2)), (3, (.slot 3)), (4, (.slot 4)), (10, (.slot 10)), (11, (.slot 11)), (16, (.slot 16))]))
    [0, 1, 2, 3, 4, 10, 11, 16]
abbrev slices_pdqsortCmpFunc_api_Inst_r27 : NC := .reg
    (.q 1 (.iar .add) [(.slot 16), (.const (.int .i64 1))] none
    (.out [(0, (.slot 0)), (1, (.res 1)), (2, (.slot 2)), (3, (.slot 3)), (4, (.slot 4)), (10, (.slot 10)), (11, (.slot 11))]))
    [0, 2, 3, 4, 10, 11, 16]
abbrev slices_pdqsortCmpFunc_api_Inst_r28 : NC := .reg
    (.q 2 (.icm .geq) [(.slot 19), (.slot 20)] none
    (.out [(0, (.slot 0)), (1, (.slot 1)), (2, (.slot 2)), (3, (.slot 3)), (4, (.slot 4)), (10, (.res 2)), (11, (.slot 11)), (16, (.slot 16))]))
    [0, 1, 2, 3, 4, 11, 16, 19, 20]
abbrev slices_pdqsortCmpFunc_api_Inst_r29 : NC := .reg
    (.q 2 (.iar .add) [(.slot 16), (.const (.int .i64 1))] none
    (.x 6 (.call 50) [(.slot 0), (.res 2), (.slot 2), (.slot 3), (.slot 4)] none []
    (.out [(0, (.slot 0)), (1, (.slot 1)), (3, (.slot 3)), (4, (.slot 4)), (10, (.slot 10)), (11, (.slot 11)), (16, (.slot 16))])))
    [0, 1, 2, 3, 4, 10, 11, 16]
abbrev slices_pdqsortCmpFunc_api_Inst_r30 : NC := .reg
    (.out [(0, (.slot 0)), (1, (.slot 1)), (2, (.slot 16)), (3, (.slot 3)), (4, (.slot 4)), (10, (.slot 10)), (11, (.slot 11))])
    [0, 1, 3, 4, 10, 11, 16]
abbrev slices_pdqsortCmpFunc_api_Inst_l0 : NC :=
  (.block 1 (.seq slices_pdqsortCmpFunc_api_Inst_r2
  (.seq (.seq slices_pdqsortCmpFunc_api_Inst_r3
  (.cond (.slot 25)
    (.seq slices_pdqsortCmpFunc_api_Inst_r4
    .ret)
    .skip))
  (.seq (.seq slices_pdqsortCmpFunc_api_Inst_r5
  (.cond (.slot 32)
    (.seq slices_pdqsortCmpFunc_api_Inst_r6
    .ret)
    .skip))
  (.seq (.seq slices_pdqsortCmpFunc_api_Inst_r7
  (.cond (.slot 39)
    (.seq slices_pdqsortCmpFunc_api_Inst_r8
    slices_pdqsortCmpFunc_api_Inst_r9)
    .skip))
  (.seq slices_pdqsortCmpFunc_api_Inst_r10
  (.seq (.seq slices_pdqsortCmpFunc_api_Inst_r11
  (.cond (.slot 56)
    (.seq slices_pdqsortCmpFunc_api_Inst_r12
    (.seq slices_pdqsortCmpFunc_api_Inst_r13
    slices_pdqsortCmpFunc_api_Inst_r14))
    .skip))
  (.seq (.seq slices_pdqsortCmpFunc_api_Inst_r15
  (.cond (.slot 75)
    (.seq slices_pdqsortCmpFunc_api_Inst_r16
    (.cond (.slot 80)
      .ret
      .skip))
    .skip))
  (.seq (.seq slices_pdqsortCmpFunc_api_Inst_r17
  (.cond (.slot 97)
    (.seq slices_pdqsortCmpFunc_api_Inst_r18
    (.seq slices_pdqsortCmpFunc_api_Inst_r19
    (.exit 1)))
    .skip))
  (.seq slices_pdqsortCmpFunc_api_Inst_r20
  (.seq slices_pdqsortCmpFunc_api_Inst_r21
  (.seq slices_pdqsortCmpFunc_api_Inst_r22
  (.seq slices_pdqsortCmpFunc_api_Inst_r23
  (.seq slices_pdqsortCmpFunc_api_Inst_r24
  (.cond (.slot 125)
    (.seq slices_pdqsortCmpFunc_api_Inst_r25
    (.seq slices_pdqsortCmpFunc_api_Inst_r26
    slices_pdqsortCmpFunc_api_Inst_r27))
    (.seq slices_pdqsortCmpFunc_api_Inst_r28
    (.seq slices_pdqsortCmpFunc_api_Inst_r29
    slices_pdqsortCmpFunc_api_Inst_r30)))))))))))))))))
abbrev slices_pdqsortCmpFunc_api_Inst_c : NC :=
  (.seq slices_pdqsortCmpFunc_api_Inst_r0
  (.seq slices_pdqsortCmpFunc_api_Inst_r1
  (.block 0 (.loop [0, 1, 2, 3, 4, 10, 11] slices_pdqsortCmpFunc_api_Inst_l0))))
abbrev slices_pdqsortCmpFunc_api_Inst_F : FN := ⟨slices_pdqsortCmpFunc_api_Inst_c, []⟩
theorem slices_pdqsortCmpFunc_api_Inst_ok : compF Try.prog Try.f50 = some slices_pdqsortCmpFunc_api_Inst_F := by kernel_rfl
theorem slices_pdqsortCmpFunc_api_Inst_go {args : List Value} {m : Mem} {R : Value → Mem → Prop} (hn : args.length ≤ Try.f50.ntmps) (h : wpN Try.prog slices_pdqsortCmpFunc_api_Inst_c (retP slices_pdqsortCmpFunc_api_Inst_F.rvs R) (zipP 0 args) m) : MC Try.prog 50 args m R := MC_start Try.func50 slices_pdqsortCmpFunc_api_Inst_ok mixed_ok hn h
/-! math/bits.Len -/
abbrev math_bits_Len_r0 : NC := .reg
    (.out [(0, (.slot 0))])
    [0]
abbrev math_bits_Len_r1 : NC := .reg
    (.q 1 (.conv .u32) [(.slot 0)] none
    (.x 2 (.call 65) [(.res 1)] none []
    (.out [(2, (.res 2))])))
    [0]
abbrev math_bits_Len_r2 : NC := .reg
    (.x 1 (.call 66) [(.slot 0)] none []
    (.out [(2, (.res 1))]))
    [0]
abbrev math_bits_Len_c : NC :=
  (.seq math_bits_Len_r0
  (.seq (.cond (.const (.bool false))
    (.seq math_bits_Len_r1
    .ret)
    .skip)
  (.seq math_bits_Len_r2
  .ret)))
abbrev math_bits_Len_F : FN := ⟨math_bits_Len_c, [.slot 2]⟩
theorem math_bits_Len_ok : compF Try.prog Try.f51 = some math_bits_Len_F := by kernel_rfl
theorem math_bits_Len_go {args : List Value} {m : Mem} {R : Value → Mem → Prop} (hn : args.length ≤ Try.f51.ntmps) (h : wpN Try.prog math_bits_Len_c (retP math_bits_Len_F.rvs R) (zipP 0 args) m) : MC Try.prog 51 args m R := MC_start Try.func51 math_bits_Len_ok mixed_ok hn h
/-! slices.stableCmpFunc[int] -/
abbrev slices_stableCmpFunc_int_r0 : NC := .reg
    (.out [(0, (.slot 0)), (1, (.slot 1)), (2, (.slot 2)), (6, (.const (.int .i64 20)))])
    [0, 1, 2]
abbrev slices_stableCmpFunc_int_r1 : NC := .reg
    (.out [(0, (.slot 0)), (1, (.slot 1)), (2, (.slot 2)), (6, (.slot 6)), (7, (.const (.int .i64 0))), (8, (.slot 6))])
    [0, 1, 2, 6]
abbrev slices_stableCmpFunc_int_r2 : NC := .reg
    (.q 2 (.icm .leq) [(.slot 8), (.slot 1)] none
    (.out [(0, (.slot 0)), (1, (.slot 1)), (2, (.slot 2)), (6, (.slot 6)), (7, (.slot 7)), (8, (.slot 8)), (13, (.res 2))]))
    [0, 1, 2, 6, 7, 8]
abbrev slices_stableCmpFunc_int_r3 : NC := .reg
    (.x 4 (.call 69) [(.slot 0), (.slot 7), (.slot 8), (.slot 2)] none []
    (.out [(0, (.slot 0)), (1, (.slot 1)), (2, (.slot 2)), (6, (.slot 6)), (8, (.slot 8))]))
    [0, 1, 2, 6, 7, 8]
abbrev slices_stableCmpFunc_int_r4 : NC := .reg
    (.out [(0, (.slot 0)), (1, (.slot 1)), (2, (.slot 2)), (6, (.slot 6)), (7, (.slot 8)), (8, (.slot 8))])
    [0, 1, 2, 6, 8]
abbrev slices_stableCmpFunc_int_r5 : NC := .reg
    (.q 2 (.iar .add) [(.slot 8), (.slot 6)] none
    (.out [(0, (.slot 0)), (1, (.slot 1)), (2, (.slot 2)), (6, (.slot 6)), (7, (.slot 7)), (8, (.res 2))]))
    [0, 1, 2, 6, 7, 8]
abbrev slices_stableCmpFunc_int_l0 : NC :=
  (.seq (.seq slices_stableCmpFunc_int_r2
  (.cond (.slot 13)
    .skip
    (.exit 0)))
  (.block 1 (.seq slices_stableCmpFunc_int_r3
  (.seq slices_stableCmpFunc_int_r4
  slices_stableCmpFunc_int_r5))))
abbrev slices_stableCmpFunc_int_r6 : NC := .reg
    (.x 4 (.call 69) [(.slot 0), (.slot 7), (.slot 1), (.slot 2)] none []
    (.out [(0, (.slot 0)), (1, (.slot 1)), (2, (.slot 2)), (6, (.slot 6))]))
    [0, 1, 2, 6, 7]
abbrev slices_stableCmpFunc_int_r7 : NC := .reg
    (.q 2 (.icm .lss) [(.slot 6), (.slot 1)] none
    (.out [(0, (.slot 0)), (1, (.slot 1)), (2, (.slot 2)), (6, (.slot 6)), (30, (.res 2))]))
    [0, 1, 2, 6]
abbrev slices_stableCmpFunc_int_r8 : NC := .reg
    (.q 1 (.iar .mul) [(.const (.int .i64 2)), (.slot 6)] none
    (.out [(0, (.slot 0)), (1, (.slot 1)), (2, (.slot 2)), (6, (.slot 6)), (7, (.const (.int .i64 0))), (8, (.res 1))]))
    [0, 1, 2, 6]
abbrev slices_stableCmpFunc_int_r9 : NC := .reg
    (.q 2 (.icm .leq) [(.slot 8), (.slot 1)] none
    (.out [(0, (.slot 0)), (1, (.slot 1)), (2, (.slot 2)), (6, (.slot 6)), (7, (.slot 7)), (8, (.slot 8)), (35, (.res 2))]))
    [0, 1, 2, 6, 7, 8]
abbrev slices_stableCmpFunc_int_r10 : NC := .reg
    (.q 4 (.iar .add) [(.slot 7), (.slot 6)] none
    (.x 7 (.call 70) [(.slot 0), (.slot 7), (.res 4), (.slot 8), (.slot 2)] none []
    (.out [(0, (.slot 0)), (1, (.slot 1)), (2, (.slot 2)), (6, (.slot 6)), (8, (.slot 8))])))
    [0, 1, 2, 6, 7, 8]
abbrev slices_stableCmpFunc_int_r11 : NC := .reg
    (.out [(0, (.slot 0)), (1, (.slot 1)), (2, (.slot 2)), (6, (.slot 6)), (7, (.slot 8)), (8, (.slot 8))])
    [0, 1, 2, 6, 8]
abbrev slices_stableCmpFunc_int_r12 : NC := .reg
    (.q 2 (.iar .mul) [(.const (.int .i64 2)), (.slot 6)] none
    (.q 3 (.iar .add) [(.slot 8), (.res 2)] none
    (.out [(0, (.slot 0)), (1, (.slot 1)), (2, (.slot 2)), (6, (.slot 6)), (7, (.slot 7)), (8, (.res 3))])))
    [0, 1, 2, 6, 7, 8]
abbrev slices_stableCmpFunc_int_l1 : NC :=
  (.seq (.seq slices_stableCmpFunc_int_r9
  (.cond (.slot 35)
    .skip
    (.exit 4)))
  (.block 5 (.seq slices_stableCmpFunc_int_r10
  (.seq slices_stableCmpFunc_int_r11
  slices_stableCmpFunc_int_r12))))
abbrev slices_stableCmpFunc_int_r13 : NC := .reg
    (.q 2 (.iar .add) [(.slot 7), (.slot 6)] none
    (.out [(0, (.slot 0)), (1, (.slot 1)), (2, (.slot 2)), (6, (.slot 6)), (7, (.slot 7)), (9, (.res 2))]))
    [0, 1, 2, 6, 7]
abbrev slices_stableCmpFunc_int_r14 : NC := .reg
    (.q 2 (.icm .lss) [(.slot 9), (.slot 1)] none
    (.out [(0, (.slot 0)), (1, (.slot 1)), (2, (.slot 2)), (6, (.slot 6)), (7, (.slot 7)), (9, (.slot 9)), (54, (.res 2))]))
    [0, 1, 2, 6, 7, 9]
abbrev slices_stableCmpFunc_int_r15 : NC := .reg
    (.x 5 (.call 70) [(.slot 0), (.slot 7), (.slot 9), (.slot 1), (.slot 2)] none []
    (.out [(0, (.slot 0)), (1, (.slot 1)), (2, (.slot 2)), (6, (.slot 6))]))
    [0, 1, 2, 6, 7, 9]
abbrev slices_stableCmpFunc_int_r16 : NC := .reg
    (.q 1 (.iar .mul) [(.slot 6), (.const (.int .i64 2))] none
    (.out [(0, (.slot 0)), (1, (.slot 1)), (2, (.slot 2)), (6, (.res 1))]))
    [0, 1, 2, 6]
abbrev slices_stableCmpFunc_int_l2 : NC :=
  (.seq (.seq slices_stableCmpFunc_int_r7
  (.cond (.slot 30)
    .skip
    (.exit 2)))
  (.block 3 (.seq slices_stableCmpFunc_int_r8
  (.seq (.block 4 (.loop [0, 1, 2, 6, 7, 8] slices_stableCmpFunc_int_l1))
  (.seq (.seq slices_stableCmpFunc_int_r13
  (.seq slices_stableCmpFunc_int_r14
  (.cond (.slot 54)
    slices_stableCmpFunc_int_r15
    .skip)))
  slices_stableCmpFunc_int_r16)))))
abbrev slices_stableCmpFunc_int_c : NC :=
  (.seq slices_stableCmpFunc_int_r0
  (.seq slices_stableCmpFunc_int_r1
  (.seq (.block 0 (.loop [0, 1, 2, 6, 7, 8] slices_stableCmpFunc_int_l0))
  (.seq slices_stableCmpFunc_int_r6
  (.block 2 (.loop [0, 1, 2, 6] slices_stableCmpFunc_int_l2))))))
abbrev slices_stableCmpFunc_int_F : FN := ⟨slices_stableCmpFunc_int_c, []⟩
theorem slices_stableCmpFunc_int_ok : compF Try.prog Try.f55 = some slices_stableCmpFunc_int_F := by kernel_rfl
theorem slices_stableCmpFunc_int_go {args : List Value} {m : Mem} {R : Value → Mem → Prop} (hn : args.length ≤ Try.f55.ntmps) (h : wpN Try.prog slices_stableCmpFunc_int_c (retP slices_stableCmpFunc_int_F.rvs R) (zipP 0 args) m) : MC Try.prog 55 args m R := MC_start Try.func55 slices_stableCmpFunc_int_ok mixed_ok hn h
/-! slices.insertionSortCmpFunc[concord/api.Inst] -/
abbrev slices_insertionSortCmpFunc_api_Inst_r0 : NC := .reg
    (.q 1 (.iar .add) [(.slot 1), (.const (.int .i64 1))] none
    (.out [(0, (.slot 0)), (1, (.slot 1)), (2, (.slot 2)), (3, (.slot 3)), (8, (.res 1))]))
    [0, 1, 2, 3]
abbrev slices_insertionSortCmpFunc_api_Inst_r1 : NC := .reg
    (.q 2 (.icm .lss) [(.slot 8), (.slot 2)] none
    (.out [(0, (.slot 0)), (1, (.slot 1)), (2, (.slot 2)), (3, (.slot 3)), (8, (.slot 8)), (14, (.res 2))]))
    [0, 1, 2, 3, 8]
abbrev slices_insertionSortCmpFunc_api_Inst_r2 : NC := .reg
    (.out [(0, (.slot 0)), (1, (.slot 1)), (2, (.slot 2)), (3, (.slot 3)), (8, (.slot 8)), (9, (.slot 8))])
    [0, 1, 2, 3, 8]
abbrev slices_insertionSortCmpFunc_api_Inst_r3 : NC := .reg
    (.q 2 (.icm .gtr) [(.slot 9), (.slot 1)] none
    (.q 4 .mv [(.slot 3)] (some ((.res 2), true))
    (.q 5 .mv [(.slot 0)] (some ((.res 2), true))
    (.q 6 .mv [(.slot 9)] (some ((.res 2), true))
    (.q 7 (.ixs 2) [(.res 5), (.res 6)] (some ((.res 2), true))
    (.q 8 (.lda 2) [(.res 7)] (some ((.res 2), true))
    (.q 9 .mv [(.slot 0)] (some ((.res 2), true))
    (.q 10 .mv [(.slot 9)] (some ((.res 2), true))
    (.q 11 (.iar .sub) [(.res 10), (.const (.int .i64 1))] (some ((.res 2), true))
    (.q 12 (.ixs 2) [(.res 9), (.res 11)] (some ((.res 2), true))
    (.q 13 (.lda 2) [(.res 12)] (some ((.res 2), true))
    (.x 14 .callv [(.res 4), (.res 8), (.res 13)] (some ((.res 2), true)) []
    (.q 15 (.icm .lss) [(.res 14), (.const (.int .i64 0))] (some ((.res 2), true))
    (.q 16 .pick [(.res 2), (.res 15), (.const (.bool false))] none
    (.out [(0, (.slot 0)), (1, (.slot 1)), (2, (.slot 2)), (3, (.slot 3)), (8, (.slot 8)), (9, (.slot 9)), (34, (.res 16))])))))))))))))))
    [0, 1, 2, 3, 8, 9]
abbrev slices_insertionSortCmpFunc_api_Inst_r4 : NC := .reg
    (.q 4 (.iar .sub) [(.slot 9), (.const (.int .i64 1))] none
    (.q 7 (.iar .sub) [(.slot 9), (.const (.int .i64 1))] none
    (.q 8 (.ixs 2) [(.slot 0), (.res 7)] none
    (.q 9 (.lda 2) [(.res 8)] none
    (.q 12 (.ixs 2) [(.slot 0), (.slot 9)] none
    (.q 13 (.lda 2) [(.res 12)] none
    (.q 14 (.ixs 2) [(.slot 0), (.slot 9)] none
    (.x 15 (.st 2) [(.res 14), (.res 9)] none []
    (.q 16 (.ixs 2) [(.slot 0), (.res 4)] none
    (.x 17 (.st 2) [(.res 16), (.res 13)] none []
    (.out [(0, (.slot 0)), (1, (.slot 1)), (2, (.slot 2)), (3, (.slot 3)), (8, (.slot 8)), (9, (.slot 9))])))))))))))
    [0, 1, 2, 3, 8, 9]
abbrev slices_insertionSortCmpFunc_api_Inst_r5 : NC := .reg
    (.q 1 (.iar .sub) [(.slot 9), (.const (.int .i64 1))] none
    (.out [(0, (.slot 0)), (1, (.slot 1)), (2, (.slot 2)), (3, (.slot 3)), (8, (.slot 8)), (9, (.res 1))]))
    [0, 1, 2, 3, 8, 9]
abbrev slices_insertionSortCmpFunc_api_Inst_l0 : NC :=
  (.seq (.seq slices_insertionSortCmpFunc_api_Inst_r3
  (.cond (.slot 34)
    .skip
    (.exit 2)))
  (.seq (.block 3 slices_insertionSortCmpFunc_api_Inst_r4)
  slices_insertionSortCmpFunc_api_Inst_r5))
abbrev slices_insertionSortCmpFunc_api_Inst_r6 : NC := .reg
    (.q 1 (.iar .add) [(.slot 8), (.const (.int .i64 1))] none
    (.out [(0, (.slot 0)), (1, (.slot 1)), (2, (.slot 2)), (3, (.slot 3)), (8, (.res 1))]))
    [0, 1, 2, 3, 8]
abbrev slices_insertionSortCmpFunc_api_Inst_l1 : NC :=
  (.seq (.seq slices_insertionSortCmpFunc_api_Inst_r1
  (.cond (.slot 14)
    .skip
    (.exit 0)))
  (.seq (.block 1 (.seq slices_insertionSortCmpFunc_api_Inst_r2
  (.block 2 (.loop [0, 1, 2, 3, 8, 9] slices_insertionSortCmpFunc_api_Inst_l0))))
  slices_insertionSortCmpFunc_api_Inst_r6))
abbrev slices_insertionSortCmpFunc_api_Inst_c : NC :=
  (.seq slices_insertionSortCmpFunc_api_Inst_r0
  (.block 0 (.loop [0, 1, 2, 3, 8] slices_insertionSortCmpFunc_api_Inst_l1)))
abbrev slices_insertionSortCmpFunc_api_Inst_F : FN := ⟨slices_insertionSortCmpFunc_api_Inst_c, []⟩
theorem slices_insertionSortCmpFunc_api_Inst_ok : compF Try.prog Try.f57 = some slices_insertionSortCmpFunc_api_Inst_F := by kernel_rfl
theorem slices_insertionSortCmpFunc_api_Inst_go {args : List Value} {m : Mem} {R : Value → Mem → Prop} (hn : args.length ≤ Try.f57.ntmps) (h : wpN Try.prog slices_insertionSortCmpFunc_api_Inst_c (retP slices_insertionSortCmpFunc_api_Inst_F.rvs R) (zipP 0 args) m) : MC Try.prog 57 args m R := MC_start Try.func57 slices_insertionSortCmpFunc_api_Inst_ok mixed_ok hn h
/-! math/bits.Len64 -/
abbrev math_bits_Len64_r0 : NC := .reg
    (.out [(0, (.slot 0)), (2, (.const (.int .i64 0)))])
    [0]
abbrev math_bits_Len64_r1 : NC := .reg
    (.q 1 (.icm .geq) [(.slot 0), (.const (.int .u64 4294967296))] none
    (.out [(0, (.slot 0)), (2, (.slot 2)), (4, (.res 1))]))
    [0, 2]
abbrev math_bits_Len64_r2 : NC := .reg
    (.q 1 (.ish .shr) [(.slot 0), (.const (.int .u64 32))] none
    (.out [(0, (.res 1))]))
    [0]
abbrev math_bits_Len64_r3 : NC := .reg
    (.out [(0, (.slot 0)), (2, (.const (.int .i64 32)))])
    [0]
abbrev math_bits_Len64_r4 : NC := .reg
    (.q 1 (.icm .geq) [(.slot 0), (.const (.int .u64 65536))] none
    (.out [(0, (.slot 0)), (2, (.slot 2)), (8, (.res 1))]))
    [0, 2]
abbrev math_bits_Len64_r5 : NC := .reg
    (.q 1 (.ish .shr) [(.slot 0), (.const (.int .u64 16))] none
    (.out [(0, (.res 1)), (2, (.slot 2))]))
    [0, 2]
abbrev math_bits_Len64_r6 : NC := .reg
    (.q 1 (.iar .add) [(.slot 2), (.const (.int .i64 16))] none
    (.out [(0, (.slot 0)), (2, (.res 1))]))
    [0, 2]
abbrev math_bits_Len64_r7 : NC := .reg
    (.q 1 (.icm .geq) [(.slot 0), (.const (.int .u64 256))] none
    (.out [(0, (.slot 0)), (2, (.slot 2)), (14, (.res 1))]))
    [0, 2]
abbrev math_bits_Len64_r8 : NC := .reg
    (.q 1 (.ish .shr) [(.slot 0), (.const (.int .u64 8))] none
    (.out [(0, (.res 1)), (2, (.slot 2))]))
    [0, 2]
abbrev math_bits_Len64_r9 : NC := .reg
    (.q 1 (.iar .add) [(.slot 2), (.const (.int .i64 8))] none
    (.out [(0, (.slot 0)), (2, (.res 1))]))
    [0, 2]
abbrev math_bits_Len64_r10 : NC := .reg
    (.q 2 (.conv .u8) [(.slot 0)] none
    (.q 3 .idxs [(.const (.string ⟨#[0, 1, 2, 2, 3, 3, 3, 3, 4, 4, 4, 4, 4, 4, 4, 4, 5, 5, 5, 5, 5, 5, 5, 5, 5, 5, 5, 5, 5, 5, 5, 5, 6, 6, 6, 6, 6, 6, 6, 6, 6, 6, 6, 6, 6, 6, 6, 6, 6, 6, 6, 6, 6, 6, 6, 6, 6, 6, 6, 6, 6, 6, 6, 6, 7, 7, 7, 7, 7, 7, 7, 7, 7, 7, 7, 7, 7, 7, 7, 7, 7, 7, 7, 7, 7, 7, 7, 7, 7, 7, 7, 7, 7, 7, 7, 7, 7, 7, 7, 7, 7, 7, 7, 7, 7, 7, 7, 7, 7, 7, 7, 7, 7, 7, 7, 7, 7, 7, 7, 7, 7, 7, 7, 7, 7, 7, 7, 7, 8, 8, 8, 8, 8, 8, 8, 8, 8, 8, 8, 8, 8, 8, 8, 8, 8, 8, 8, 8, 8, 8, 8, 8, 8, 8, 8, 8, 8, 8, 8, 8, 8, 8, 8, 8, 8, 8, 8, 8, 8, 8, 8, 8, 8, 8, 8, 8, 8, 8, 8, 8, 8, 8, 8, 8, 8, 8, 8, 8, 8, 8, 8, 8, 8, 8, 8, 8, 8, 8, 8, 8, 8, 8, 8, 8, 8, 8, 8, 8, 8, 8, 8, 8, 8, 8, 8, 8, 8, 8, 8, 8, 8, 8, 8, 8, 8, 8, 8, 8, 8, 8, 8, 8, 8, 8, 8, 8, 8, 8, 8, 8, 8, 8, 8, 8, 8, 8, 8, 8, 8, 8, 8, 8, 8, 8, 8, 8]⟩)), (.res 2)] none
    (.q 4 (.conv .i64) [(.res 3)] none
    (.q 5 (.iar .add) [(.slot 2), (.res 4)] none
    (.out [(2, (.res 5))])))))
    [0, 2]
abbrev math_bits_Len64_c : NC :=
  (.seq math_bits_Len64_r0
  (.seq (.seq math_bits_Len64_r1
  (.cond (.slot 4)
    (.seq math_bits_Len64_r2
    math_bits_Len64_r3)
    .skip))
  (.seq (.seq math_bits_Len64_r4
  (.cond (.slot 8)
    (.seq math_bits_Len64_r5
    math_bits_Len64_r6)
    .skip))
  (.seq (.seq math_bits_Len64_r7
  (.cond (.slot 14)
    (.seq math_bits_Len64_r8
    math_bits_Len64_r9)
    .skip))
  (.seq math_bits_Len64_r10
  .ret)))))
abbrev math_bits_Len64_F : FN := ⟨math_bits_Len64_c, [.slot 2]⟩
theorem math_bits_Len64_ok : compF Try.prog Try.f66 = some math_bits_Len64_F := by kernel_rfl
theorem math_bits_Len64_go {args : List Value} {m : Mem} {R : Value → Mem → Prop} (hn : args.length ≤ Try.f66.ntmps) (h : wpN Try.prog math_bits_Len64_c (retP math_bits_Len64_F.rvs R) (zipP 0 args) m) : MC Try.prog 66 args m R := MC_start Try.func66 math_bits_Len64_ok mixed_ok hn h
/-! slices.insertionSortCmpFunc[int] -/
abbrev slices_insertionSortCmpFunc_int_r0 : NC := .reg
    (.q 1 (.iar .add) [(.slot 1), (.const (.int .i64 1))] none
    (.out [(0, (.slot 0)), (1, (.slot 1)), (2, (.slot 2)), (3, (.slot 3)), (8, (.res 1))]))
    [0, 1, 2, 3]
abbrev slices_insertionSortCmpFunc_int_r1 : NC := .reg
    (.q 2 (.icm .lss) [(.slot 8), (.slot 2)] none
    (.out [(0, (.slot 0)), (1, (.slot 1)), (2, (.slot 2)), (3, (.slot 3)), (8, (.slot 8)), (14, (.res 2))]))
    [0, 1, 2, 3, 8]
abbrev slices_insertionSortCmpFunc_int_r2 : NC := .reg
    (.out [(0, (.slot 0)), (1, (.slot 1)), (2, (.slot 2)), (3, (.slot 3)), (8, (.slot 8)), (9, (.slot 8))])
    [0, 1, 2, 3, 8]
abbrev slices_insertionSortCmpFunc_int_r3 : NC := .reg
    (.q 2 (.icm .gtr) [(.slot 9), (.slot 1)] none
    (.q 4 .mv [(.slot 3)] (some ((.res 2), true))
    (.q 5 .mv [(.slot 0)] (some ((.res 2), true))
    (.q 6 .mv [(.slot 9)] (some ((.res 2), true))
    (.q 7 (.ixs 1) [(.res 5), (.res 6)] (some ((.res 2), true))
    (.q 8 .ld [(.res 7)] (some ((.res 2), true))
    (.q 9 .mv [(.slot 0)] (some ((.res 2), true))
    (.q 10 .mv [(.slot 9)] (some ((.res 2), true))
    (.q 11 (.iar .sub) [(.res 10), (.const (.int .i64 1))] (some ((.res 2), true))
    (.q 12 (.ixs 1) [(.res 9), (.res 11)] (some ((.res 2), true))
    (.q 13 .ld [(.res 12)] (some ((.res 2), true))
    (.x 14 .callv [(.res 4), (.res 8), (.res 13)] (some ((.res 2), true)) []
    (.q 15 (.icm .lss) [(.res 14), (.const (.int .i64 0))] (some ((.res 2), true))
    (.q 16 .pick [(.res 2), (.res 15), (.const (.bool false))] none
    (.out [(0, (.slot 0)), (1, (.slot 1)), (2, (.slot 2)), (3, (.slot 3)), (8, (.slot 8)), (9, (.slot 9)), (34, (.res 16))])))))))))))))))
    [0, 1, 2, 3, 8, 9]
abbrev slices_insertionSortCmpFunc_int_r4 : NC := .reg
    (.q 4 (.iar .sub) [(.slot 9), (.const (.int .i64 1))] none
    (.q 7 (.iar .sub) [(.slot 9), (.const (.int .i64 1))] none
    (.q 8 (.ixs 1) [(.slot 0), (.res 7)] none
    (.q 9 .ld [(.res 8)] none
    (.q 12 (.ixs 1) [(.slot 0), (.slot 9)] none
    (.q 13 .ld [(.res 12)] none
    (.q 14 (.ixs 1) [(.slot 0), (.slot 9)] none
    (.x 15 (.st 1) [(.res 14), (.res 9)] none []
    (.q 16 (.ixs 1) [(.slot 0), (.res 4)] none
    (.x 17 (.st 1) [(.res 16), (.res 13)] none []
    (.out [(0, (.slot 0)), (1, (.slot 1)), (2, (.slot 2)), (3, (.slot 3)), (8, (.slot 8)), (9, (.slot 9))])))))))))))
    [0, 1, 2, 3, 8, 9]
abbrev slices_insertionSortCmpFunc_int_r5 : NC := .reg
    (.q 1 (.iar .sub) [(.slot 9), (.const (.int .i64 1))] none
    (.out [(0, (.slot 0)), (1, (.slot 1)), (2, (.slot 2)), (3, (.slot 3)), (8, (.slot 8)), (9, (.res 1))]))
    [0, 1, 2, 3, 8, 9]
abbrev slices_insertionSortCmpFunc_int_l0 : NC :=
  (.seq (.seq slices_insertionSortCmpFunc_int_r3
  (.cond (.slot 34)
    .skip
    (.exit 2)))
  (.seq (.block 3 slices_insertionSortCmpFunc_int_r4)
  slices_insertionSortCmpFunc_int_r5))
abbrev slices_insertionSortCmpFunc_int_r6 : NC := .reg
    (.q 1 (.iar .add) [(.slot 8), (.const (.int .i64 1))] none
    (.out [(0, (.slot 0)), (1, (.slot 1)), (2, (.slot 2)), (3, (.slot 3)), (8, (.res 1))]))
    [0, 1, 2, 3, 8]
abbrev slices_insertionSortCmpFunc_int_l1 : NC :=
  (.seq (.seq slices_insertionSortCmpFunc_int_r1
  (.cond (.slot 14)
    .skip
    (.exit 0)))
  (.seq (.block 1 (.seq slices_insertionSortCmpFunc_int_r2
  (.block 2 (.loop [0, 1, 2, 3, 8, 9] slices_insertionSortCmpFunc_int_l0))))
  slices_insertionSortCmpFunc_int_r6))
abbrev slices_insertionSortCmpFunc_int_c : NC :=
  (.seq slices_insertionSortCmpFunc_int_r0
  (.block 0 (.loop [0, 1, 2, 3, 8] slices_insertionSortCmpFunc_int_l1)))
abbrev slices_insertionSortCmpFunc_int_F : FN := ⟨slices_insertionSortCmpFunc_int_c, []⟩
theorem slices_insertionSortCmpFunc_int_ok : compF Try.prog Try.f69 = some slices_insertionSortCmpFunc_int_F := by kernel_rfl
theorem slices_insertionSortCmpFunc_int_go {args : List Value} {m : Mem} {R : Value → Mem → Prop} (hn : args.length ≤ Try.f69.ntmps) (h : wpN Try.prog slices_insertionSortCmpFunc_int_c (retP slices_insertionSortCmpFunc_int_F.rvs R) (zipP 0 args) m) : MC Try.prog 69 args m R := MC_start Try.func69 slices_insertionSortCmpFunc_int_ok mixed_ok hn h
/-! slices.symMergeCmpFunc[int] -/
abbrev slices_symMergeCmpFunc_int_r0 : NC := .reg
    (.q 2 (.iar .sub) [(.slot 2), (.slot 1)] none
    (.q 3 (.icm .eql) [(.res 2), (.const (.int .i64 1))] none
    (.out [(0, (.slot 0)), (1, (.slot 1)), (2, (.slot 2)), (3, (.slot 3)), (4, (.slot 4)), (28, (.res 3))])))
    [0, 1, 2, 3, 4]
abbrev slices_symMergeCmpFunc_int_r1 : NC := .reg
    (.out [(0, (.slot 0)), (1, (.slot 1)), (3, (.slot 3)), (4, (.slot 4)), (10, (.slot 2))])
    [0, 1, 2, 3, 4]
abbrev slices_symMergeCmpFunc_int_r2 : NC := .reg
    (.out [(0, (.slot 0)), (1, (.slot 1)), (4, (.slot 4)), (10, (.slot 10)), (11, (.slot 3))])
    [0, 1, 3, 4, 10]
abbrev slices_symMergeCmpFunc_int_r3 : NC := .reg
    (.q 2 (.icm .lss) [(.slot 10), (.slot 11)] none
    (.out [(0, (.slot 0)), (1, (.slot 1)), (4, (.slot 4)), (10, (.slot 10)), (11, (.slot 11)), (33, (.res 2))]))
    [0, 1, 4, 10, 11]
abbrev slices_symMergeCmpFunc_int_r4 : NC := .reg
    (.q 2 (.iar .add) [(.slot 10), (.slot 11)] none
    (.q 3 (.conv .u64) [(.res 2)] none
    (.q 4 (.ish .shr) [(.res 3), (.const (.int .u64 1))] none
    (.q 5 (.conv .i64) [(.res 4)] none
    (.out [(0, (.slot 0)), (1, (.slot 1)), (4, (.slot 4)), (10, (.slot 10)), (11, (.slot 11)), (12, (.res 5))])))))
    [0, 1, 4, 10, 11]
abbrev slices_symMergeCmpFunc_int_r5 : NC := .reg
    (.q 3 (.ixs 1) [(.slot 0), (.slot 12)] none
    (.q 4 .ld [(.res 3)] none
    (.q 7 (.ixs 1) [(.slot 0), (.slot 1)] none
    (.q 8 .ld [(.res 7)] none
    (.x 9 .callv [(.slot 4), (.res 4), (.res 8)] none []
    (.q 10 (.icm .lss) [(.res 9), (.const (.int .i64 0))] none
    (.out [(0, (.slot 0)), (1, (.slot 1)), (4, (.slot 4)), (10, (.slot 10)), (11, (.slot 11)), (12, (.slot 12)), (50, (.res 10))])))))))
    [0, 1, 4, 10, 11, 12]
abbrev slices_symMergeCmpFunc_int_r6 : NC := .reg
    (.q 1 (.iar .add) [(.slot 12), (.const (.int .i64 1))] none
    (.out [(0, (.slot 0)), (1, (.slot 1)), (4, (.slot 4)), (10, (.res 1)), (11, (.slot 11))]))
    [0, 1, 4, 11, 12]
abbrev slices_symMergeCmpFunc_int_r7 : NC := .reg
    (.out [(0, (.slot 0)), (1, (.slot 1)), (4, (.slot 4)), (10, (.slot 10)), (11, (.slot 12))])
    [0, 1, 4, 10, 12]
abbrev slices_symMergeCmpFunc_int_l0 : NC :=
  (.seq (.seq slices_symMergeCmpFunc_int_r3
  (.cond (.slot 33)
    .skip
    (.exit 0)))
  (.block 1 (.seq slices_symMergeCmpFunc_int_r4
  (.seq slices_symMergeCmpFunc_int_r5
  (.cond (.slot 50)
    slices_symMergeCmpFunc_int_r6
    slices_symMergeCmpFunc_int_r7)))))
abbrev slices_symMergeCmpFunc_int_r8 : NC := .reg
    (.out [(0, (.slot 0)), (10, (.slot 10)), (13, (.slot 1))])
    [0, 1, 10]
abbrev slices_symMergeCmpFunc_int_r9 : NC := .reg
    (.q 2 (.iar .sub) [(.slot 10), (.const (.int .i64 1))] none
    (.q 3 (.icm .lss) [(.slot 13), (.res 2)] none
    (.out [(0, (.slot 0)), (10, (.slot 10)), (13, (.slot 13)), (58, (.res 3))])))
    [0, 10, 13]
abbrev slices_symMergeCmpFunc_int_r10 : NC := .reg
    (.q 4 (.iar .add) [(.slot 13), (.const (.int .i64 1))] none
    (.q 7 (.iar .add) [(.slot 13), (.const (.int .i64 1))] none
    (.q 8 (.ixs 1) [(.slot 0), (.res 7)] none
    (.q 9 .ld [(.res 8)] none
    (.q 12 (.ixs 1) [(.slot 0), (.slot 13)] none
    (.q 13 .ld [(.res 12)] none
    (.q 14 (.ixs 1) [(.slot 0), (.slot 13)] none
    (.x 15 (.st 1) [(.res 14), (.res 9)] none []
    (.q 16 (.ixs 1) [(.slot 0), (.res 4)] none
    (.x 17 (.st 1) [(.res 16), (.res 13)] none []
    (.out [(0, (.slot 0)), (10, (.slot 10)), (13, (.slot 13))])))))))))))
    [0, 10, 13]
abbrev slices_symMergeCmpFunc_int_r11 : NC := .reg
    (.q 1 (.iar .add) [(.slot 13), (.const (.int .i64 1))] none
    (.out [(0, (.slot 0)), (10, (.slot 10)), (13, (.res 1))]))
    [0, 10, 13]
abbrev slices_symMergeCmpFunc_int_l1 : NC :=
  (.seq (.seq slices_symMergeCmpFunc_int_r9
  (.cond (.slot 58)
    .skip
    (.exit 2)))
  (.seq (.block 3 slices_symMergeCmpFunc_int_r10)
  slices_symMergeCmpFunc_int_r11))
abbrev slices_symMergeCmpFunc_int_r12 : NC := .reg
    (.q 2 (.iar .sub) [(.slot 3), (.slot 2)] none
    (.q 3 (.icm .eql) [(.res 2), (.const (.int .i64 1))] none
    (.out [(0, (.slot 0)), (1, (.slot 1)), (2, (.slot 2)), (3, (.slot 3)), (4, (.slot 4)), (80, (.res 3))])))
    [0, 1, 2, 3, 4]
abbrev slices_symMergeCmpFunc_int_r13 : NC := .reg
    (.out [(0, (.slot 0)), (2, (.slot 2)), (4, (.slot 4)), (14, (.slot 1))])
    [0, 1, 2, 4]
abbrev slices_symMergeCmpFunc_int_r14 : NC := .reg
    (.out [(0, (.slot 0)), (2, (.slot 2)), (4, (.slot 4)), (14, (.slot 14)), (15, (.slot 2))])
    [0, 2, 4, 14]
abbrev slices_symMergeCmpFunc_int_r15 : NC := .reg
    (.q 2 (.icm .lss) [(.slot 14), (.slot 15)] none
    (.out [(0, (.slot 0)), (2, (.slot 2)), (4, (.slot 4)), (14, (.slot 14)), (15, (.slot 15)), (85, (.res 2))]))
    [0, 2, 4, 14, 15]
abbrev slices_symMergeCmpFunc_int_r16 : NC := .reg
    (.q 2 (.iar .add) [(.slot 14), (.slot 15)] none
    (.q 3 (.conv .u64) [(.res 2)] none
    (.q 4 (.ish .shr) [(.res 3), (.const (.int .u64 1))] none
    (.q 5 (.conv .i64) [(.res 4)] none
    (.out [(0, (.slot 0)), (2, (.slot 2)), (4, (.slot 4)), (14, (.slot 14)), (15, (.slot 15)), (16, (.res 5))])))))
    [0, 2, 4, 14, 15]
abbrev slices_symMergeCmpFunc_int_r17 : NC := .reg
    (.q 3 (.ixs 1) [(.slot 0), (.slot 2)] none
    (.q 4 .ld [(.res 3)] none
    (.q 7 (.ixs 1) [(.slot 0), (.slot 16)] none
    (.q 8 .ld [(.res 7)] none
    (.x 9 .callv [(.slot 4), (.res 4), (.res 8)] none []
    (.q 10 (.icm .lss) [(.res 9), (.const (.int .i64 0))] none
    (.q 11 .not [(.res 10)] none
    (.out [(0, (.slot 0)), (2, (.slot 2)), (4, (.slot 4)), (14, (.slot 14)), (15, (.slot 15)), (16, (.slot 16)), (103, (.res 11))]))))))))
    [0, 2, 4, 14, 15, 16]
abbrev slices_symMergeCmpFunc_int_r18 : NC := .reg
    (.q 1 (.iar .add) [(.slot 16), (.const (.int .i64 1))] none
    (.out [(0, (.slot 0)), (2, (.slot 2)), (4, (.slot 4)), (14, (.res 1)), (15, (.slot 15))]))
    [0, 2, 4, 15, 16]
abbrev slices_symMergeCmpFunc_int_r19 : NC := .reg
    (.out [(0, (.slot 0)), (2, (.slot 2)), (4, (.slot 4)), (14, (.slot 14)), (15, (.slot 16))])
    [0, 2, 4, 14, 16]
abbrev slices_symMergeCmpFunc_int_l2 : NC :=
  (.seq (.seq slices_symMergeCmpFunc_int_r15
  (.cond (.slot 85)
    .skip
    (.exit 4)))
  (.block 5 (.seq slices_symMergeCmpFunc_int_r16
  (.seq slices_symMergeCmpFunc_int_r17
  (.cond (.slot 103)
    slices_symMergeCmpFunc_int_r18
    slices_symMergeCmpFunc_int_r19)))))
abbrev slices_symMergeCmpFunc_int_r20 : NC := .reg
    (.out [(0, (.slot 0)), (14, (.slot 14)), (17, (.slot 2))])
    [0, 2, 14]
abbrev slices_symMergeCmpFunc_int_r21 : NC := .reg
    (.q 2 (.icm .gtr) [(.slot 17), (.slot 14)] none
    (.out [(0, (.slot 0)), (14, (.slot 14)), (17, (.slot 17)), (110, (.res 2))]))
    [0, 14, 17]
abbrev slices_symMergeCmpFunc_int_r22 : NC := .reg
    (.q 4 (.iar .sub) [(.slot 17), (.const (.int .i64 1))] none
    (.q 7 (.iar .sub) [(.slot 17), (.const (.int .i64 1))] none
    (.q 8 (.ixs 1) [(.slot 0), (.res 7)] none
    (.q 9 .ld [(.res 8)] none
    (.q 12 (.ixs 1) [(.slot 0), (.slot 17)] none
    (.q 13 .ld [(.res 12)] none
    (.q 14 (.ixs 1) [(.slot 0), (.slot 17)] none
    (.x 15 (.st 1) [(.res 14), (.res 9)] none []
    (.q 16 (.ixs 1) [(.slot 0), (.res 4)] none
    (.x 17 (.st 1) [(.res 16), (.res 13)] none []
    (.out [(0, (.slot 0)), (14, (.slot 14)), (17, (.slot 17))])))))))))))
    [0, 14, 17]
abbrev slices_symMergeCmpFunc_int_r23 : NC := .reg
    (.q 1 (.iar .sub) [(.slot 17), (.const (.int .i64 1))] none
    (.out [(0, (.slot 0)), (14, (.slot 14)), (17, (.res 1))]))
    [0, 14, 17]
abbrev slices_symMergeCmpFunc_int_l3 : NC :=
  (.seq (.seq slices_symMergeCmpFunc_int_r21
  (.cond (.slot 110)
    .skip
    (.exit 6)))
  (.seq (.block 7 slices_symMergeCmpFunc_int_r22)
  slices_symMergeCmpFunc_int_r23))
abbrev slices_symMergeCmpFunc_int_r24 : NC := .reg
    (.q 2 (.iar .add) [(.slot 1), (.slot 3)] none
    (.q 3 (.conv .u64) [(.res 2)] none
    (.q 4 (.ish .shr) [(.res 3), (.const (.int .u64 1))] none
    (.q 5 (.conv .i64) [(.res 4)] none
    (.out [(0, (.slot 0)), (1, (.slot 1)), (2, (.slot 2)), (3, (.slot 3)), (4, (.slot 4)), (18, (.res 5))])))))
    [0, 1, 2, 3, 4]
abbrev slices_symMergeCmpFunc_int_r25 : NC := .reg
    (.q 2 (.iar .add) [(.slot 18), (.slot 2)] none
    (.out [(0, (.slot 0)), (1, (.slot 1)), (2, (.slot 2)), (3, (.slot 3)), (4, (.slot 4)), (18, (.slot 18)), (19, (.res 2))]))
    [0, 1, 2, 3, 4, 18]
abbrev slices_symMergeCmpFunc_int_r26 : NC := .reg
    (.out [(0, (.slot 0)), (1, (.slot 1)), (2, (.slot 2)), (3, (.slot 3)), (4, (.slot 4)), (18, (.slot 18)), (19, (.slot 19))])
    [0, 1, 2, 3, 4, 18, 19]
abbrev slices_symMergeCmpFunc_int_r27 : NC := .reg
    (.q 2 (.icm .gtr) [(.slot 2), (.slot 18)] none
    (.out [(0, (.slot 0)), (1, (.slot 1)), (2, (.slot 2)), (3, (.slot 3)), (4, (.slot 4)), (18, (.slot 18)), (19, (.slot 19)), (140, (.res 2))]))
    [0, 1, 2, 3, 4, 18, 19]
abbrev slices_symMergeCmpFunc_int_r28 : NC := .reg
    (.q 2 (.iar .sub) [(.slot 19), (.slot 3)] none
    (.out [(0, (.slot 0)), (1, (.slot 1)), (2, (.slot 2)), (3, (.slot 3)), (4, (.slot 4)), (18, (.slot 18)), (19, (.slot 19)), (20, (.res 2))]))
    [0, 1, 2, 3, 4, 18, 19]
abbrev slices_symMergeCmpFunc_int_r29 : NC := .reg
    (.out [(0, (.slot 0)), (1, (.slot 1)), (2, (.slot 2)), (3, (.slot 3)), (4, (.slot 4)), (18, (.slot 18)), (19, (.slot 19)), (20, (.slot 20)), (21, (.slot 18))])
    [0, 1, 2, 3, 4, 18, 19, 20]
abbrev slices_symMergeCmpFunc_int_r30 : NC := .reg
    (.out [(0, (.slot 0)), (1, (.slot 1)), (2, (.slot 2)), (3, (.slot 3)), (4, (.slot 4)), (18, (.slot 18)), (19, (.slot 19)), (20, (.slot 1))])
    [0, 1, 2, 3, 4, 18, 19]
abbrev slices_symMergeCmpFunc_int_r31 : NC := .reg
    (.out [(0, (.slot 0)), (1, (.slot 1)), (2, (.slot 2)), (3, (.slot 3)), (4, (.slot 4)), (18, (.slot 18)), (19, (.slot 19)), (20, (.slot 20)), (21, (.slot 2))])
    [0, 1, 2, 3, 4, 18, 19, 20]
abbrev slices_symMergeCmpFunc_int_r32 : NC := .reg
    (.q 1 (.iar .sub) [(.slot 19), (.const (.int .i64 1))] none
    (.out [(0, (.slot 0)), (1, (.slot 1)), (2, (.slot 2)), (3, (.slot 3)), (4, (.slot 4)), (18, (.slot 18)), (19, (.slot 19)), (20, (.slot 20)), (21, (.slot 21)), (22, (.res 1))]))
    [0, 1, 2, 3, 4, 18, 19, 20, 21]
abbrev slices_symMergeCmpFunc_int_r33 : NC := .reg
    (.q 2 (.icm .lss) [(.slot 20), (.slot 21)] none
    (.out [(0, (.slot 0)), (1, (.slot 1)), (2, (.slot 2)), (3, (.slot 3)), (4, (.slot 4)), (18, (.slot 18)), (19, (.slot 19)), (20, (.slot 20)), (21, (.slot 21)), (22, (.slot 22)), (151, (.res 2))]))
    [0, 1, 2, 3, 4, 18, 19, 20, 21, 22]
abbrev slices_symMergeCmpFunc_int_r34 : NC := .reg
    (.q 2 (.iar .add) [(.slot 20), (.slot 21)] none
    (.q 3 (.conv .u64) [(.res 2)] none
    (.q 4 (.ish .shr) [(.res 3), (.const (.int .u64 1))] none
    (.q 5 (.conv .i64) [(.res 4)] none
    (.out [(0, (.slot 0)), (1, (.slot 1)), (2, (.slot 2)), (3, (.slot 3)), (4, (.slot 4)), (18, (.slot 18)), (19, (.slot 19)), (20, (.slot 20)), (21, (.slot 21)), (22, (.slot 22)), (23, (.res 5))])))))
    [0, 1, 2, 3, 4, 18, 19, 20, 21, 22]
abbrev slices_symMergeCmpFunc_int_r35 : NC := .reg
    (.q 4 (.iar .sub) [(.slot 22), (.slot 23)] none
    (.q 5 (.ixs 1) [(.slot 0), (.res 4)] none
    (.q 6 .ld [(.res 5)] none
    (.q 9 (.ixs 1) [(.slot 0), (.slot 23)] none
    (.q 10 .ld [(.res 9)] none
    (.x 11 .callv [(.slot 4), (.res 6), (.res 10)] none []
    (.q 12 (.icm .lss) [(.res 11), (.const (.int .i64 0))] none
    (.q 13 .not [(.res 12)] none
    (.out [(0, (.slot 0)), (1, (.slot 1)), (2, (.slot 2)), (3, (.slot 3)), (4, (.slot 4)), (18, (.slot 18)), (19, (.slot 19)), (20, (.slot 20)), (21, (.slot 21)), (22, (.slot 22)), (23, (.slot 23)), (171, (.res 13))])))))))))
    [0, 1, 2, 3, 4, 18, 19, 20, 21, 22, 23]
abbrev slices_symMergeCmpFunc_int_r36 : NC := .reg
    (.q 1 (.iar .add) [(.slot 23), (.const (.int .i64 1))] none
    (.out [(0, (.slot 0)), (1, (.slot 1)), (2, (.slot 2)), (3, (.slot 3)), (4, (.slot 4)), (18, (.slot 18)), (19, (.slot 19)), (20, (.res 1)), (21, (.slot 21)), (22, (.slot 22))]))
    [0, 1, 2, 3, 4, 18, 19, 21, 22, 23]
abbrev slices_symMergeCmpFunc_int_r37 : NC := .reg
    (.out [(0, (.slot 0)), (1, (.slot 1)), (2, (.slot 2)), (3, (.slot 3)), (4, (.slot 4)), (18, (.slot 18)), (19, (.slot 19)), (20, (.slot 20)), (21, (.slot 23)), (22, (.slot 22))])
    [0, 1, 2, 3, 4, 18, 19, 20, 22, 23]
abbrev slices_symMergeCmpFunc_int_l4 : NC :=
  (.seq (.seq slices_symMergeCmpFunc_int_r33
  (.cond (.slot 151)
    .skip
    (.exit 8)))
  (.block 9 (.seq slices_symMergeCmpFunc_int_r34
  (.seq slices_symMergeCmpFunc_int_r35
  (.cond (.slot 171)
    slices_symMergeCmpFunc_int_r36
    slices_symMergeCmpFunc_int_r37)))))
abbrev slices_symMergeCmpFunc_int_r38 : NC := .reg
    (.q 2 (.iar .sub) [(.slot 19), (.slot 20)] none
    (.out [(0, (.slot 0)), (1, (.slot 1)), (2, (.slot 2)), (3, (.slot 3)), (4, (.slot 4)), (18, (.slot 18)), (20, (.slot 20)), (24, (.res 2))]))
    [0, 1, 2, 3, 4, 18, 19, 20]
abbrev slices_symMergeCmpFunc_int_r39 : NC := .reg
    (.q 2 (.icm .lss) [(.slot 20), (.slot 2)] none
    (.q 4 .mv [(.slot 2)] (some ((.res 2), true))
    (.q 5 .mv [(.slot 24)] (some ((.res 2), true))
    (.q 6 (.icm .lss) [(.res 4), (.res 5)] (some ((.res 2), true))
    (.q 7 .pick [(.res 2), (.res 6), (.const (.bool false))] none
    (.out [(0, (.slot 0)), (1, (.slot 1)), (2, (.slot 2)), (3, (.slot 3)), (4, (.slot 4)), (18, (.slot 18)), (20, (.slot 20)), (24, (.slot 24)), (185, (.res 7))]))))))
    [0, 1, 2, 3, 4, 18, 20, 24]
abbrev slices_symMergeCmpFunc_int_r40 : NC := .reg
    (.x 5 (.call 76) [(.slot 0), (.slot 20), (.slot 2), (.slot 24), (.slot 4)] none []
    (.out [(0, (.slot 0)), (1, (.slot 1)), (3, (.slot 3)), (4, (.slot 4)), (18, (.slot 18)), (20, (.slot 20)), (24, (.slot 24))]))
    [0, 1, 2, 3, 4, 18, 20, 24]
abbrev slices_symMergeCmpFunc_int_r41 : NC := .reg
    (.q 2 (.icm .lss) [(.slot 1), (.slot 20)] none
    (.q 4 .mv [(.slot 20)] (some ((.res 2), true))
    (.q 5 .mv [(.slot 18)] (some ((.res 2), true))
    (.q 6 (.icm .lss) [(.res 4), (.res 5)] (some ((.res 2), true))
    (.q 7 .pick [(.res 2), (.res 6), (.const (.bool false))] none
    (.out [(0, (.slot 0)), (1, (.slot 1)), (3, (.slot 3)), (4, (.slot 4)), (18, (.slot 18)), (20, (.slot 20)), (24, (.slot 24)), (199, (.res 7))]))))))
    [0, 1, 3, 4, 18, 20, 24]
abbrev slices_symMergeCmpFunc_int_r42 : NC := .reg
    (.x 5 (.call 70) [(.slot 0), (.slot 1), (.slot 20), (.slot 18), (.slot 4)] none []
    (.out [(0, (.slot 0)), (3, (.slot 3)), (4, (.slot 4)), (18, (.slot 18)), (24, (.slot 24))]))
    [0, 1, 3, 4, 18, 20, 24]
abbrev slices_symMergeCmpFunc_int_r43 : NC := .reg
    (.q 2 (.icm .lss) [(.slot 18), (.slot 24)] none
    (.q 4 .mv [(.slot 24)] (some ((.res 2), true))
    (.q 5 .mv [(.slot 3)] (some ((.res 2), true))
    (.q 6 (.icm .lss) [(.res 4), (.res 5)] (some ((.res 2), true))
    (.q 7 .pick [(.res 2), (.res 6), (.const (.bool false))] none
    (.out [(0, (.slot 0)), (3, (.slot 3)), (4, (.slot 4)), (18, (.slot 18)), (24, (.slot 24)), (213, (.res 7))]))))))
    [0, 3, 4, 18, 24]
abbrev slices_symMergeCmpFunc_int_r44 : NC := .reg
    (.x 5 (.call 70) [(.slot 0), (.slot 18), (.slot 24), (.slot 3), (.slot 4)] none []
    (.out []))
    [0, 3, 4, 18, 24]
abbrev slices_symMergeCmpFunc_int_c : NC :=
  (.seq (.seq slices_symMergeCmpFunc_int_r0
  (.cond (.slot 28)
    (.seq slices_symMergeCmpFunc_int_r1
    (.seq slices_symMergeCmpFunc_int_r2
    (.seq (.block 0 (.loop [0, 1, 4, 10, 11] slices_symMergeCmpFunc_int_l0))
    (.seq (.seq slices_symMergeCmpFunc_int_r8
    (.block 2 (.loop [0, 10, 13] slices_symMergeCmpFunc_int_l1)))
    .ret))))
    .skip))
  (.seq (.seq slices_symMergeCmpFunc_int_r12
  (.cond (.slot 80)
    (.seq slices_symMergeCmpFunc_int_r13
    (.seq slices_symMergeCmpFunc_int_r14
    (.seq (.block 4 (.loop [0, 2, 4, 14, 15] slices_symMergeCmpFunc_int_l2))
    (.seq (.seq slices_symMergeCmpFunc_int_r20
    (.block 6 (.loop [0, 14, 17] slices_symMergeCmpFunc_int_l3)))
    .ret))))
    .skip))
  (.seq slices_symMergeCmpFunc_int_r24
  (.seq slices_symMergeCmpFunc_int_r25
  (.seq slices_symMergeCmpFunc_int_r26
  (.seq (.seq slices_symMergeCmpFunc_int_r27
  (.cond (.slot 140)
    (.seq slices_symMergeCmpFunc_int_r28
    slices_symMergeCmpFunc_int_r29)
    (.seq slices_symMergeCmpFunc_int_r30
    slices_symMergeCmpFunc_int_r31)))
  (.seq slices_symMergeCmpFunc_int_r32
  (.seq (.block 8 (.loop [0, 1, 2, 3, 4, 18, 19, 20, 21, 22] slices_symMergeCmpFunc_int_l4))
  (.seq slices_symMergeCmpFunc_int_r38
  (.seq (.seq slices_symMergeCmpFunc_int_r39
  (.cond (.slot 185)
    slices_symMergeCmpFunc_int_r40
    .skip))
  (.seq (.seq slices_symMergeCmpFunc_int_r41
  (.cond (.slot 199)
    slices_symMergeCmpFunc_int_r42
    .skip))
  (.seq slices_symMergeCmpFunc_int_r43
  (.cond (.slot 213)
    slices_symMergeCmpFunc_int_r44
    .skip)))))))))))))
abbrev slices_symMergeCmpFunc_int_F : FN := ⟨slices_symMergeCmpFunc_int_c, []⟩
theorem slices_symMergeCmpFunc_int_ok : compF Try.prog Try.f70 = some slices_symMergeCmpFunc_int_F := by kernel_rfl
theorem slices_symMergeCmpFunc_int_go {args : List Value} {m : Mem} {R : Value → Mem → Prop} (hn : args.length ≤ Try.f70.ntmps) (h : wpN Try.prog slices_symMergeCmpFunc_int_c (retP slices_symMergeCmpFunc_int_F.rvs R) (zipP 0 args) m) : MC Try.prog 70 args m R := MC_start Try.func70 slices_symMergeCmpFunc_int_ok mixed_ok hn h
/-! slices.rotateCmpFunc[int] -/
abbrev slices_rotateCmpFunc_int_r0 : NC := .reg
    (.q 2 (.iar .sub) [(.slot 2), (.slot 1)] none
    (.out [(0, (.slot 0)), (2, (.slot 2)), (3, (.slot 3)), (4, (.slot 4)), (10, (.res 2))]))
    [0, 1, 2, 3, 4]
abbrev slices_rotateCmpFunc_int_r1 : NC := .reg
    (.q 2 (.iar .sub) [(.slot 3), (.slot 2)] none
    (.out [(0, (.slot 0)), (2, (.slot 2)), (4, (.slot 4)), (10, (.slot 10)), (11, (.res 2))]))
    [0, 2, 3, 4, 10]
abbrev slices_rotateCmpFunc_int_r2 : NC := .reg
    (.q 2 (.icm .neq) [(.slot 10), (.slot 11)] none
    (.out [(0, (.slot 0)), (2, (.slot 2)), (4, (.slot 4)), (10, (.slot 10)), (11, (.slot 11)), (20, (.res 2))]))
    [0, 2, 4, 10, 11]
abbrev slices_rotateCmpFunc_int_r3 : NC := .reg
    (.q 2 (.icm .gtr) [(.slot 10), (.slot 11)] none
    (.out [(0, (.slot 0)), (2, (.slot 2)), (4, (.slot 4)), (10, (.slot 10)), (11, (.slot 11)), (23, (.res 2))]))
    [0, 2, 4, 10, 11]
abbrev slices_rotateCmpFunc_int_r4 : NC := .reg
    (.q 3 (.iar .sub) [(.slot 2), (.slot 10)] none
    (.x 7 (.call 78) [(.slot 0), (.res 3), (.slot 2), (.slot 11), (.slot 4)] none []
    (.out [(0, (.slot 0)), (2, (.slot 2)), (4, (.slot 4)), (10, (.slot 10)), (11, (.slot 11))])))
    [0, 2, 4, 10, 11]
abbrev slices_rotateCmpFunc_int_r5 : NC := .reg
    (.q 2 (.iar .sub) [(.slot 10), (.slot 11)] none
    (.out [(0, (.slot 0)), (2, (.slot 2)), (4, (.slot 4)), (10, (.res 2)), (11, (.slot 11))]))
    [0, 2, 4, 10, 11]
abbrev slices_rotateCmpFunc_int_r6 : NC := .reg
    (.q 3 (.iar .sub) [(.slot 2), (.slot 10)] none
    (.q 6 (.iar .add) [(.slot 2), (.slot 11)] none
    (.q 8 (.iar .sub) [(.res 6), (.slot 10)] none
    (.x 11 (.call 78) [(.slot 0), (.res 3), (.res 8), (.slot 10), (.slot 4)] none []
    (.out [(0, (.slot 0)), (2, (.slot 2)), (4, (.slot 4)), (10, (.slot 10)), (11, (.slot 11))])))))
    [0, 2, 4, 10, 11]
abbrev slices_rotateCmpFunc_int_r7 : NC := .reg
    (.q 2 (.iar .sub) [(.slot 11), (.slot 10)] none
    (.out [(0, (.slot 0)), (2, (.slot 2)), (4, (.slot 4)), (10, (.slot 10)), (11, (.res 2))]))
    [0, 2, 4, 10, 11]
abbrev slices_rotateCmpFunc_int_l0 : NC :=
  (.seq (.seq slices_rotateCmpFunc_int_r2
  (.cond (.slot 20)
    .skip
    (.exit 0)))
  (.block 1 (.seq slices_rotateCmpFunc_int_r3
  (.cond (.slot 23)
    (.seq slices_rotateCmpFunc_int_r4
    slices_rotateCmpFunc_int_r5)
    (.seq slices_rotateCmpFunc_int_r6
    slices_rotateCmpFunc_int_r7)))))
abbrev slices_rotateCmpFunc_int_r8 : NC := .reg
    (.q 3 (.iar .sub) [(.slot 2), (.slot 10)] none
    (.x 7 (.call 78) [(.slot 0), (.res 3), (.slot 2), (.slot 10), (.slot 4)] none []
    (.out [])))
    [0, 2, 4, 10]
abbrev slices_rotateCmpFunc_int_c : NC :=
  (.seq slices_rotateCmpFunc_int_r0
  (.seq slices_rotateCmpFunc_int_r1
  (.seq (.block 0 (.loop [0, 2, 4, 10, 11] slices_rotateCmpFunc_int_l0))
  slices_rotateCmpFunc_int_r8)))
abbrev slices_rotateCmpFunc_int_F : FN := ⟨slices_rotateCmpFunc_int_c, []⟩
theorem slices_rotateCmpFunc_int_ok : compF Try.prog Try.f76 = some slices_rotateCmpFunc_int_F := by kernel_rfl
theorem slices_rotateCmpFunc_int_go {args : List Value} {m : Mem} {R : Value → Mem → Prop} (hn : args.length ≤ Try.f76.ntmps) (h : wpN Try.prog slices_rotateCmpFunc_int_c (retP slices_rotateCmpFunc_int_F.rvs R) (zipP 0 args) m) : MC Try.prog 76 args m R := MC_start Try.func76 slices_rotateCmpFunc_int_ok mixed_ok hn h
/-! slices.swapRangeCmpFunc[int] -/
abbrev slices_swapRangeCmpFunc_int_r0 : NC := .reg
    (.out [(0, (.slot 0)), (1, (.slot 1)), (2, (.slot 2)), (3, (.slot 3)), (10, (.const (.int .i64 0)))])
    [0, 1, 2, 3]
abbrev slices_swapRangeCmpFunc_int_r1 : NC := .reg
    (.q 2 (.icm .lss) [(.slot 10), (.slot 3)] none
    (.out [(0, (.slot 0)), (1, (.slot 1)), (2, (.slot 2)), (3, (.slot 3)), (10, (.slot 10)), (13, (.res 2))]))
    [0, 1, 2, 3, 10]
abbrev slices_swapRangeCmpFunc_int_r2 : NC := .reg
    (.q 3 (.iar .add) [(.slot 1), (.slot 10)] none
    (.q 7 (.iar .add) [(.slot 2), (.slot 10)] none
    (.q 11 (.iar .add) [(.slot 2), (.slot 10)] none
    (.q 12 (.ixs 1) [(.slot 0), (.res 11)] none
    (.q 13 .ld [(.res 12)] none
    (.q 17 (.iar .add) [(.slot 1), (.slot 10)] none
    (.q 18 (.ixs 1) [(.slot 0), (.res 17)] none
    (.q 19 .ld [(.res 18)] none
    (.q 20 (.ixs 1) [(.slot 0), (.res 3)] none
    (.x 21 (.st 1) [(.res 20), (.res 13)] none []
    (.q 22 (.ixs 1) [(.slot 0), (.res 7)] none
    (.x 23 (.st 1) [(.res 22), (.res 19)] none []
    (.out [(0, (.slot 0)), (1, (.slot 1)), (2, (.slot 2)), (3, (.slot 3)), (10, (.slot 10))])))))))))))))
    [0, 1, 2, 3, 10]
abbrev slices_swapRangeCmpFunc_int_r3 : NC := .reg
    (.q 1 (.iar .add) [(.slot 10), (.const (.int .i64 1))] none
    (.out [(0, (.slot 0)), (1, (.slot 1)), (2, (.slot 2)), (3, (.slot 3)), (10, (.res 1))]))
    [0, 1, 2, 3, 10]
abbrev slices_swapRangeCmpFunc_int_l0 : NC :=
  (.seq (.seq slices_swapRangeCmpFunc_int_r1
  (.cond (.slot 13)
    .skip
    (.exit 0)))
  (.seq (.block 1 slices_swapRangeCmpFunc_int_r2)
  slices_swapRangeCmpFunc_int_r3))
abbrev slices_swapRangeCmpFunc_int_c : NC :=
  (.seq slices_swapRangeCmpFunc_int_r0
  (.block 0 (.loop [0, 1, 2, 3, 10] slices_swapRangeCmpFunc_int_l0)))
abbrev slices_swapRangeCmpFunc_int_F : FN := ⟨slices_swapRangeCmpFunc_int_c, []⟩
theorem slices_swapRangeCmpFunc_int_ok : compF Try.prog Try.f78 = some slices_swapRangeCmpFunc_int_F := by kernel_rfl
theorem slices_swapRangeCmpFunc_int_go {args : List Value} {m : Mem} {R : Value → Mem → Prop} (hn : args.length ≤ Try.f78.ntmps) (h : wpN Try.prog slices_swapRangeCmpFunc_int_c (retP slices_swapRangeCmpFunc_int_F.rvs R) (zipP 0 args) m) : MC Try.prog 78 args m R := MC_start Try.func78 slices_swapRangeCmpFunc_int_ok mixed_ok hn h
end Go.Fw
