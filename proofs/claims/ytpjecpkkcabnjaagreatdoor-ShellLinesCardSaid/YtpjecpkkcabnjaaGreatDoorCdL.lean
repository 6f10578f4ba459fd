import Derived.Test.YtpjecpkkcabnjaaGreatDoorCd
set_option linter.unusedVariables false
set_option linter.unusedSimpArgs false
namespace Go.Fw
open Go.Proofs
/-! slices.IndexFunc[[]concord/shell.kind,concord/shell.kind] -/
abbrev slices_IndexFunc_shell_kind_shell_kind_r0 : NC := .reg
    (.out [(0, (.slot 0)), (1, (.slot 1))])
    [0, 1]
abbrev slices_IndexFunc_shell_kind_shell_kind_r1 : NC := .reg
    (.q 1 .len [(.slot 0)] none
    (.out [(0, (.slot 0)), (1, (.slot 1)), (7, (.res 1)), (8, (.const (.int .i64 0)))]))
    [0, 1]
abbrev slices_IndexFunc_shell_kind_shell_kind_r2 : NC := .reg
    (.q 0 (.icm .lss) [(.slot 8), (.slot 7)] none
    (.out [(0, (.slot 0)), (1, (.slot 1)), (7, (.slot 7)), (8, (.slot 8)), (9, (.res 0))]))
    [0, 1, 7, 8]
abbrev slices_IndexFunc_shell_kind_shell_kind_r3 : NC := .reg
    (.out [(0, (.slot 0)), (1, (.slot 1)), (5, (.slot 8)), (7, (.slot 7)), (8, (.slot 8))])
    [0, 1, 7, 8]
abbrev slices_IndexFunc_shell_kind_shell_kind_r4 : NC := .reg
    (.q 3 (.ixs 4) [(.slot 0), (.slot 5)] none
    (.q 4 (.lda 4) [(.res 3)] none
    (.x 5 .callv [(.slot 1), (.res 4)] none []
    (.out [(0, (.slot 0)), (1, (.slot 1)), (5, (.slot 5)), (7, (.slot 7)), (8, (.slot 8)), (16, (.res 5))]))))
    [0, 1, 5, 7, 8]
abbrev slices_IndexFunc_shell_kind_shell_kind_r5 : NC := .reg
    (.out [(4, (.slot 5))])
    [5]
abbrev slices_IndexFunc_shell_kind_shell_kind_r6 : NC := .reg
    (.q 0 (.iar .add) [(.slot 8), (.const (.int .i64 1))] none
    (.out [(0, (.slot 0)), (1, (.slot 1)), (7, (.slot 7)), (8, (.res 0))]))
    [0, 1, 7, 8]
abbrev slices_IndexFunc_shell_kind_shell_kind_l0 : NC :=
  (.seq slices_IndexFunc_shell_kind_shell_kind_r2
  (.seq (.cond (.slot 9)
    .skip
    (.exit 0))
  (.seq (.block 1 (.seq slices_IndexFunc_shell_kind_shell_kind_r3
  (.seq slices_IndexFunc_shell_kind_shell_kind_r4
  (.cond (.slot 16)
    (.seq slices_IndexFunc_shell_kind_shell_kind_r5
    .ret)
    .skip))))
  slices_IndexFunc_shell_kind_shell_kind_r6)))
abbrev slices_IndexFunc_shell_kind_shell_kind_r7 : NC := .reg
    (.out [(4, (.const (.int .i64 (-1))))])
    []
abbrev slices_IndexFunc_shell_kind_shell_kind_c : NC :=
  (.seq slices_IndexFunc_shell_kind_shell_kind_r0
  (.seq (.seq slices_IndexFunc_shell_kind_shell_kind_r1
  (.block 0 (.loop [0, 1, 7, 8] slices_IndexFunc_shell_kind_shell_kind_l0)))
  (.seq slices_IndexFunc_shell_kind_shell_kind_r7
  .ret)))
abbrev slices_IndexFunc_shell_kind_shell_kind_F : FN := ⟨slices_IndexFunc_shell_kind_shell_kind_c, [.slot 4]⟩
theorem slices_IndexFunc_shell_kind_shell_kind_ok : compF Tryz.prog Tryz.f13 = some slices_IndexFunc_shell_kind_shell_kind_F := by kernel_rfl
theorem slices_IndexFunc_shell_kind_shell_kind_go {args : List Value} {m : Mem} {R : Value → Mem → Prop} (hn : args.length ≤ Tryz.f13.ntmps) (h : wpN Tryz.prog slices_IndexFunc_shell_kind_shell_kind_c (retP slices_IndexFunc_shell_kind_shell_kind_F.rvs R) (zipP 0 args) m) : MC Tryz.prog 13 args m R := MC_start Tryz.func13 slices_IndexFunc_shell_kind_shell_kind_ok mixed_ok hn h
/-! strings.Split -/
abbrev strings_Split_r0 : NC := .reg
    (.out [(0, (.slot 0)), (1, (.slot 1))])
    [0, 1]
abbrev strings_Split_r1 : NC := .reg
    (.x 2 (.call 33) [(.slot 0), (.slot 1), (.const (.int .i64 0)), (.const (.int .i64 (-1)))] none []
    (.out [(4, (.res 2))]))
    [0, 1]
abbrev strings_Split_c : NC :=
  (.seq strings_Split_r0
  (.seq strings_Split_r1
  .ret))
abbrev strings_Split_F : FN := ⟨strings_Split_c, [.slot 4]⟩
theorem strings_Split_ok : compF Tryz.prog Tryz.f23 = some strings_Split_F := by kernel_rfl
theorem strings_Split_go {args : List Value} {m : Mem} {R : Value → Mem → Prop} (hn : args.length ≤ Tryz.f23.ntmps) (h : wpN Tryz.prog strings_Split_c (retP strings_Split_F.rvs R) (zipP 0 args) m) : MC Tryz.prog 23 args m R := MC_start Tryz.func23 strings_Split_ok mixed_ok hn h
/-! strings.genSplit -/
abbrev strings_genSplit_r0 : NC := .reg
    (.out [(0, (.slot 0)), (1, (.slot 1)), (2, (.slot 2)), (3, (.slot 3))])
    [0, 1, 2, 3]
abbrev strings_genSplit_r1 : NC := .reg
    (.q 1 (.icm .eql) [(.slot 3), (.const (.int .i64 0))] none
    (.out [(0, (.slot 0)), (1, (.slot 1)), (2, (.slot 2)), (3, (.slot 3)), (13, (.res 1))]))
    [0, 1, 2, 3]
abbrev strings_genSplit_r2 : NC := .reg
    (.out [(8, (.const (.slice none 0 0)))])
    []
abbrev strings_genSplit_r3 : NC := .reg
    (.q 1 (.str .eql) [(.slot 1), (.const (.string ⟨#[]⟩))] none
    (.out [(0, (.slot 0)), (1, (.slot 1)), (2, (.slot 2)), (3, (.slot 3)), (15, (.res 1))]))
    [0, 1, 2, 3]
abbrev strings_genSplit_r4 : NC := .reg
    (.x 2 (.call 46) [(.slot 0), (.slot 3)] none []
    (.out [(8, (.res 2))]))
    [0, 3]
abbrev strings_genSplit_r5 : NC := .reg
    (.q 1 (.icm .lss) [(.slot 3), (.const (.int .i64 0))] none
    (.out [(0, (.slot 0)), (1, (.slot 1)), (2, (.slot 2)), (3, (.slot 3)), (20, (.res 1))]))
    [0, 1, 2, 3]
abbrev strings_genSplit_r6 : NC := .reg
    (.x 2 (.call 47) [(.slot 0), (.slot 1)] none []
    (.q 3 (.iar .add) [(.res 2), (.const (.int .i64 1))] none
    (.out [(0, (.slot 0)), (1, (.slot 1)), (2, (.slot 2)), (3, (.res 3))])))
    [0, 1, 2]
abbrev strings_genSplit_r7 : NC := .reg
    (.q 2 .lenz [(.slot 0)] none
    (.q 3 (.iar .add) [(.res 2), (.const (.int .i64 1))] none
    (.q 4 .mn [(.slot 3), (.res 3)] none
    (.out [(0, (.slot 0)), (1, (.slot 1)), (2, (.slot 2)), (3, (.res 4))]))))
    [0, 1, 2, 3]
abbrev strings_genSplit_r8 : NC := .reg
    (.x 1 (.mks 9 16 [(.string ⟨#[]⟩)]) [(.slot 3), (.slot 3)] none []
    (.out [(0, (.slot 0)), (1, (.slot 1)), (2, (.slot 2)), (3, (.slot 3)), (9, (.res 1))]))
    [0, 1, 2, 3]
abbrev strings_genSplit_r9 : NC := .reg
    (.q 1 (.iar .sub) [(.slot 3), (.const (.int .i64 1))] none
    (.out [(0, (.slot 0)), (1, (.slot 1)), (2, (.slot 2)), (3, (.res 1)), (9, (.slot 9))]))
    [0, 1, 2, 3, 9]
abbrev strings_genSplit_r10 : NC := .reg
    (.out [(0, (.slot 0)), (1, (.slot 1)), (2, (.slot 2)), (3, (.slot 3)), (9, (.slot 9)), (10, (.const (.int .i64 0)))])
    [0, 1, 2, 3, 9]
abbrev strings_genSplit_r11 : NC := .reg
    (.q 2 (.icm .lss) [(.slot 10), (.slot 3)] none
    (.out [(0, (.slot 0)), (1, (.slot 1)), (2, (.slot 2)), (3, (.slot 3)), (9, (.slot 9)), (10, (.slot 10)), (36, (.res 2))]))
    [0, 1, 2, 3, 9, 10]
abbrev strings_genSplit_r12 : NC := .reg
    (.x 2 (.call 48) [(.slot 0), (.slot 1)] none []
    (.out [(0, (.slot 0)), (1, (.slot 1)), (2, (.slot 2)), (3, (.slot 3)), (9, (.slot 9)), (10, (.slot 10)), (11, (.res 2))]))
    [0, 1, 2, 3, 9, 10]
abbrev strings_genSplit_r13 : NC := .reg
    (.q 1 (.icm .lss) [(.slot 11), (.const (.int .i64 0))] none
    (.out [(0, (.slot 0)), (1, (.slot 1)), (2, (.slot 2)), (3, (.slot 3)), (9, (.slot 9)), (10, (.slot 10)), (11, (.slot 11)), (41, (.res 1))]))
    [0, 1, 2, 3, 9, 10, 11]
abbrev strings_genSplit_r14 : NC := .reg
    (.q 5 (.iar .add) [(.slot 11), (.slot 2)] none
    (.q 6 (.slcs false true) [(.slot 0), (.res 5)] none
    (.q 7 (.ixs 1) [(.slot 9), (.slot 10)] none
    (.x 8 (.st 1) [(.res 7), (.res 6)] none []
    (.out [(0, (.slot 0)), (1, (.slot 1)), (2, (.slot 2)), (3, (.slot 3)), (9, (.slot 9)), (10, (.slot 10)), (11, (.slot 11))])))))
    [0, 1, 2, 3, 9, 10, 11]
abbrev strings_genSplit_r15 : NC := .reg
    (.q 3 .lenz [(.slot 1)] none
    (.q 4 (.iar .add) [(.slot 11), (.res 3)] none
    (.q 5 (.slcs true false) [(.slot 0), (.res 4)] none
    (.out [(0, (.res 5)), (1, (.slot 1)), (2, (.slot 2)), (3, (.slot 3)), (9, (.slot 9)), (10, (.slot 10))]))))
    [0, 1, 2, 3, 9, 10, 11]
abbrev strings_genSplit_r16 : NC := .reg
    (.q 1 (.iar .add) [(.slot 10), (.const (.int .i64 1))] none
    (.out [(0, (.slot 0)), (1, (.slot 1)), (2, (.slot 2)), (3, (.slot 3)), (9, (.slot 9)), (10, (.res 1))]))
    [0, 1, 2, 3, 9, 10]
abbrev strings_genSplit_l0 : NC :=
  (.seq (.seq strings_genSplit_r11
  (.cond (.slot 36)
    .skip
    (.exit 0)))
  (.block 1 (.seq strings_genSplit_r12
  (.seq (.seq strings_genSplit_r13
  (.cond (.slot 41)
    (.exit 0)
    .skip))
  (.seq strings_genSplit_r14
  (.seq strings_genSplit_r15
  strings_genSplit_r16))))))
abbrev strings_genSplit_r17 : NC := .reg
    (.q 3 (.ixs 1) [(.slot 9), (.slot 10)] none
    (.x 4 (.st 1) [(.res 3), (.slot 0)] none []
    (.out [(9, (.slot 9)), (10, (.slot 10))])))
    [0, 9, 10]
abbrev strings_genSplit_r18 : NC := .reg
    (.q 2 (.iar .add) [(.slot 10), (.const (.int .i64 1))] none
    (.q 3 (.slc 1 false true) [(.slot 9), (.res 2)] none
    (.out [(8, (.res 3))])))
    [9, 10]
abbrev strings_genSplit_c : NC :=
  (.seq strings_genSplit_r0
  (.seq (.seq strings_genSplit_r1
  (.cond (.slot 13)
    (.seq strings_genSplit_r2
    .ret)
    .skip))
  (.seq (.seq strings_genSplit_r3
  (.cond (.slot 15)
    (.seq strings_genSplit_r4
    .ret)
    .skip))
  (.seq (.seq strings_genSplit_r5
  (.cond (.slot 20)
    strings_genSplit_r6
    .skip))
  (.seq strings_genSplit_r7
  (.seq strings_genSplit_r8
  (.seq strings_genSplit_r9
  (.seq strings_genSplit_r10
  (.seq (.block 0 (.loop [0, 1, 2, 3, 9, 10] strings_genSplit_l0))
  (.seq strings_genSplit_r17
  (.seq strings_genSplit_r18
  .ret)))))))))))
abbrev strings_genSplit_F : FN := ⟨strings_genSplit_c, [.slot 8]⟩
theorem strings_genSplit_ok : compF Tryz.prog Tryz.f33 = some strings_genSplit_F := by kernel_rfl
theorem strings_genSplit_go {args : List Value} {m : Mem} {R : Value → Mem → Prop} (hn : args.length ≤ Tryz.f33.ntmps) (h : wpN Tryz.prog strings_genSplit_c (retP strings_genSplit_F.rvs R) (zipP 0 args) m) : MC Tryz.prog 33 args m R := MC_start Tryz.func33 strings_genSplit_ok mixed_ok hn h
/-! strings.IndexByte -/
abbrev strings_IndexByte_r0 : NC := .reg
    (.out [(0, (.slot 0)), (1, (.slot 1))])
    [0, 1]
abbrev strings_IndexByte_r1 : NC := .reg
    (.x 2 (.call 80) [(.slot 0), (.slot 1)] none []
    (.out [(4, (.res 2))]))
    [0, 1]
abbrev strings_IndexByte_c : NC :=
  (.seq strings_IndexByte_r0
  (.seq strings_IndexByte_r1
  .ret))
abbrev strings_IndexByte_F : FN := ⟨strings_IndexByte_c, [.slot 4]⟩
theorem strings_IndexByte_ok : compF Tryz.prog Tryz.f45 = some strings_IndexByte_F := by kernel_rfl
theorem strings_IndexByte_go {args : List Value} {m : Mem} {R : Value → Mem → Prop} (hn : args.length ≤ Tryz.f45.ntmps) (h : wpN Tryz.prog strings_IndexByte_c (retP strings_IndexByte_F.rvs R) (zipP 0 args) m) : MC Tryz.prog 45 args m R := MC_start Tryz.func45 strings_IndexByte_ok mixed_ok hn h
/-! strings.Count -/
abbrev strings_Count_r0 : NC := .reg
    (.out [(0, (.slot 0)), (1, (.slot 1))])
    [0, 1]
abbrev strings_Count_r1 : NC := .reg
    (.q 1 .lenz [(.slot 1)] none
    (.q 2 (.icm .eql) [(.res 1), (.const (.int .i64 0))] none
    (.out [(0, (.slot 0)), (1, (.slot 1)), (9, (.res 2))])))
    [0, 1]
abbrev strings_Count_r2 : NC := .reg
    (.x 1 (.call 81) [(.slot 0)] none []
    (.q 2 (.iar .add) [(.res 1), (.const (.int .i64 1))] none
    (.out [(4, (.res 2))])))
    [0]
abbrev strings_Count_r3 : NC := .reg
    (.q 1 .lenz [(.slot 1)] none
    (.q 2 (.icm .eql) [(.res 1), (.const (.int .i64 1))] none
    (.out [(0, (.slot 0)), (1, (.slot 1)), (15, (.res 2))])))
    [0, 1]
abbrev strings_Count_r4 : NC := .reg
    (.q 2 .idxs [(.slot 1), (.const (.int .i64 0))] none
    (.q 3 .cnt [(.slot 0), (.res 2)] none
    (.out [(4, (.res 3))])))
    [0, 1]
abbrev strings_Count_r5 : NC := .reg
    (.out [(0, (.slot 0)), (1, (.slot 1)), (5, (.const (.int .i64 0)))])
    [0, 1]
abbrev strings_Count_r6 : NC := .reg
    (.x 2 (.call 48) [(.slot 0), (.slot 1)] none []
    (.out [(0, (.slot 0)), (1, (.slot 1)), (5, (.slot 5)), (6, (.res 2))]))
    [0, 1, 5]
abbrev strings_Count_r7 : NC := .reg
    (.q 1 (.icm .eql) [(.slot 6), (.const (.int .i64 (-1)))] none
    (.out [(0, (.slot 0)), (1, (.slot 1)), (5, (.slot 5)), (6, (.slot 6)), (24, (.res 1))]))
    [0, 1, 5, 6]
abbrev strings_Count_r8 : NC := .reg
    (.out [(4, (.slot 5))])
    [5]
abbrev strings_Count_r9 : NC := .reg
    (.q 1 (.iar .add) [(.slot 5), (.const (.int .i64 1))] none
    (.out [(0, (.slot 0)), (1, (.slot 1)), (5, (.res 1)), (6, (.slot 6))]))
    [0, 1, 5, 6]
abbrev strings_Count_r10 : NC := .reg
    (.q 3 .lenz [(.slot 1)] none
    (.q 4 (.iar .add) [(.slot 6), (.res 3)] none
    (.q 5 (.slcs true false) [(.slot 0), (.res 4)] none
    (.out [(0, (.res 5)), (1, (.slot 1)), (5, (.slot 5))]))))
    [0, 1, 5, 6]
abbrev strings_Count_l0 : NC :=
  (.block 1 (.seq strings_Count_r6
  (.seq (.seq strings_Count_r7
  (.cond (.slot 24)
    (.seq strings_Count_r8
    .ret)
    .skip))
  (.seq strings_Count_r9
  strings_Count_r10))))
abbrev strings_Count_c : NC :=
  (.seq strings_Count_r0
  (.seq (.seq strings_Count_r1
  (.cond (.slot 9)
    (.seq strings_Count_r2
    .ret)
    .skip))
  (.seq (.seq strings_Count_r3
  (.cond (.slot 15)
    (.seq strings_Count_r4
    .ret)
    .skip))
  (.seq strings_Count_r5
  (.block 0 (.loop [0, 1, 5] strings_Count_l0))))))
abbrev strings_Count_F : FN := ⟨strings_Count_c, [.slot 4]⟩
theorem strings_Count_ok : compF Tryz.prog Tryz.f47 = some strings_Count_F := by kernel_rfl
theorem strings_Count_go {args : List Value} {m : Mem} {R : Value → Mem → Prop} (hn : args.length ≤ Tryz.f47.ntmps) (h : wpN Tryz.prog strings_Count_c (retP strings_Count_F.rvs R) (zipP 0 args) m) : MC Tryz.prog 47 args m R := MC_start Tryz.func47 strings_Count_ok mixed_ok hn h
/-! strings.Index -/
abbrev strings_Index_r0 : NC := .reg
    (.out [(0, (.slot 0)), (1, (.slot 1))])
    [0, 1]
abbrev strings_Index_r1 : NC := .reg
    (.x 2 (.call 84) [(.slot 0), (.slot 1)] none []
    (.out [(4, (.res 2))]))
    [0, 1]
abbrev strings_Index_c : NC :=
  (.seq strings_Index_r0
  (.seq strings_Index_r1
  .ret))
abbrev strings_Index_F : FN := ⟨strings_Index_c, [.slot 4]⟩
theorem strings_Index_ok : compF Tryz.prog Tryz.f48 = some strings_Index_F := by kernel_rfl
theorem strings_Index_go {args : List Value} {m : Mem} {R : Value → Mem → Prop} (hn : args.length ≤ Tryz.f48.ntmps) (h : wpN Tryz.prog strings_Index_c (retP strings_Index_F.rvs R) (zipP 0 args) m) : MC Tryz.prog 48 args m R := MC_start Tryz.func48 strings_Index_ok mixed_ok hn h
/-! internal/stringslite.IndexByte -/
abbrev internal_stringslite_IndexByte_r0 : NC := .reg
    (.out [(0, (.slot 0)), (1, (.slot 1))])
    [0, 1]
abbrev internal_stringslite_IndexByte_r1 : NC := .reg
    (.q 2 .ixb [(.slot 0), (.slot 1)] none
    (.out [(4, (.res 2))]))
    [0, 1]
abbrev internal_stringslite_IndexByte_c : NC :=
  (.seq internal_stringslite_IndexByte_r0
  (.seq internal_stringslite_IndexByte_r1
  .ret))
abbrev internal_stringslite_IndexByte_F : FN := ⟨internal_stringslite_IndexByte_c, [.slot 4]⟩
theorem internal_stringslite_IndexByte_ok : compF Tryz.prog Tryz.f80 = some internal_stringslite_IndexByte_F := by kernel_rfl
theorem internal_stringslite_IndexByte_go {args : List Value} {m : Mem} {R : Value → Mem → Prop} (hn : args.length ≤ Tryz.f80.ntmps) (h : wpN Tryz.prog internal_stringslite_IndexByte_c (retP internal_stringslite_IndexByte_F.rvs R) (zipP 0 args) m) : MC Tryz.prog 80 args m R := MC_start Tryz.func80 internal_stringslite_IndexByte_ok mixed_ok hn h
-- NOT internal/bytealg.CountString: no body
/-! internal/stringslite.Index -/
abbrev internal_stringslite_Index_r0 : NC := .reg
    (.out [(0, (.slot 0)), (1, (.slot 1))])
    [0, 1]
abbrev internal_stringslite_Index_r1 : NC := .reg
    (.q 1 .lenz [(.slot 1)] none
    (.out [(0, (.slot 0)), (1, (.slot 1)), (5, (.res 1))]))
    [0, 1]
abbrev internal_stringslite_Index_r2 : NC := .reg
    (.q 1 (.icm .eql) [(.slot 5), (.const (.int .i64 0))] none
    (.q 3 .mv [(.slot 1)] (some ((.res 1), false))
    (.q 4 .mv [(.slot 0)] (some ((.res 1), false))
    (.q 5 (.str .eql) [(.res 3), (.res 4)] (some ((.res 1), false))
    (.q 6 .pick [(.res 1), (.const (.bool true)), (.res 5)] none
    (.out [(0, (.slot 0)), (1, (.slot 1)), (5, (.slot 5)), (16, (.res 6))]))))))
    [0, 1, 5]
abbrev internal_stringslite_Index_r3 : NC := .reg
    (.out [(4, (.const (.int .i64 0)))])
    []
abbrev internal_stringslite_Index_r4 : NC := .reg
    (.q 1 (.icm .eql) [(.slot 5), (.const (.int .i64 1))] none
    (.out [(0, (.slot 0)), (1, (.slot 1)), (5, (.slot 5)), (24, (.res 1))]))
    [0, 1, 5]
abbrev internal_stringslite_Index_r5 : NC := .reg
    (.q 2 .idxs [(.slot 1), (.const (.int .i64 0))] none
    (.x 3 (.call 80) [(.slot 0), (.res 2)] none []
    (.out [(4, (.res 3))])))
    [0, 1]
abbrev internal_stringslite_Index_r6 : NC := .reg
    (.q 2 .lenz [(.slot 0)] none
    (.q 3 (.icm .geq) [(.slot 5), (.res 2)] none
    (.out [(0, (.slot 0)), (1, (.slot 1)), (5, (.slot 5)), (31, (.res 3))])))
    [0, 1, 5]
abbrev internal_stringslite_Index_r7 : NC := .reg
    (.out [(4, (.const (.int .i64 (-1))))])
    []
abbrev internal_stringslite_Index_r8 : NC := .reg
    (.q 1 .ld [(.glob 1)] none
    (.q 2 (.icm .leq) [(.slot 5), (.res 1)] none
    (.q 4 .mv [(.slot 0)] (some ((.res 2), true))
    (.q 5 .lenz [(.res 4)] (some ((.res 2), true))
    (.q 6 (.icm .leq) [(.res 5), (.const (.int .i64 64))] (some ((.res 2), true))
    (.q 7 .pick [(.res 2), (.res 6), (.const (.bool false))] none
    (.out [(0, (.slot 0)), (1, (.slot 1)), (5, (.slot 5)), (36, (.res 7))])))))))
    [0, 1, 5]
abbrev internal_stringslite_Index_r9 : NC := .reg
    (.x 2 .bad [] none []
    (.out [(4, (.res 2))]))
    []
abbrev internal_stringslite_Index_r10 : NC := .reg
    (.q 1 .idxs [(.slot 1), (.const (.int .i64 0))] none
    (.out [(0, (.slot 0)), (1, (.slot 1)), (5, (.slot 5)), (6, (.res 1))]))
    [0, 1, 5]
abbrev internal_stringslite_Index_r11 : NC := .reg
    (.q 1 .idxs [(.slot 1), (.const (.int .i64 1))] none
    (.out [(0, (.slot 0)), (1, (.slot 1)), (5, (.slot 5)), (6, (.slot 6)), (7, (.res 1))]))
    [0, 1, 5, 6]
abbrev internal_stringslite_Index_r12 : NC := .reg
    (.out [(0, (.slot 0)), (1, (.slot 1)), (5, (.slot 5)), (6, (.slot 6)), (7, (.slot 7)), (8, (.const (.int .i64 0)))])
    [0, 1, 5, 6, 7]
abbrev internal_stringslite_Index_r13 : NC := .reg
    (.q 1 .lenz [(.slot 0)] none
    (.q 3 (.iar .sub) [(.res 1), (.slot 5)] none
    (.q 4 (.iar .add) [(.res 3), (.const (.int .i64 1))] none
    (.out [(0, (.slot 0)), (1, (.slot 1)), (5, (.slot 5)), (6, (.slot 6)), (7, (.slot 7)), (8, (.slot 8)), (9, (.res 4))]))))
    [0, 1, 5, 6, 7, 8]
abbrev internal_stringslite_Index_r14 : NC := .reg
    (.out [(0, (.slot 0)), (1, (.slot 1)), (5, (.slot 5)), (6, (.slot 6)), (7, (.slot 7)), (8, (.slot 8)), (9, (.slot 9)), (10, (.const (.int .i64 0)))])
    [0, 1, 5, 6, 7, 8, 9]
abbrev internal_stringslite_Index_r15 : NC := .reg
    (.q 2 (.icm .lss) [(.slot 8), (.slot 9)] none
    (.out [(0, (.slot 0)), (1, (.slot 1)), (5, (.slot 5)), (6, (.slot 6)), (7, (.slot 7)), (8, (.slot 8)), (9, (.slot 9)), (10, (.slot 10)), (59, (.res 2))]))
    [0, 1, 5, 6, 7, 8, 9, 10]
abbrev internal_stringslite_Index_r16 : NC := .reg
    (.q 2 .idxs [(.slot 0), (.slot 8)] none
    (.q 4 (.icm .neq) [(.res 2), (.slot 6)] none
    (.out [(0, (.slot 0)), (1, (.slot 1)), (5, (.slot 5)), (6, (.slot 6)), (7, (.slot 7)), (8, (.slot 8)), (9, (.slot 9)), (10, (.slot 10)), (64, (.res 4))])))
    [0, 1, 5, 6, 7, 8, 9, 10]
abbrev internal_stringslite_Index_r17 : NC := .reg
    (.q 2 (.iar .add) [(.slot 8), (.const (.int .i64 1))] none
    (.q 4 (.slcs true true) [(.slot 0), (.res 2), (.slot 9)] none
    (.x 6 (.call 80) [(.res 4), (.slot 6)] none []
    (.out [(0, (.slot 0)), (1, (.slot 1)), (5, (.slot 5)), (6, (.slot 6)), (7, (.slot 7)), (8, (.slot 8)), (9, (.slot 9)), (10, (.slot 10)), (11, (.res 6))]))))
    [0, 1, 5, 6, 7, 8, 9, 10]
abbrev internal_stringslite_Index_r18 : NC := .reg
    (.q 1 (.icm .lss) [(.slot 11), (.const (.int .i64 0))] none
    (.out [(0, (.slot 0)), (1, (.slot 1)), (5, (.slot 5)), (6, (.slot 6)), (7, (.slot 7)), (8, (.slot 8)), (9, (.slot 9)), (10, (.slot 10)), (11, (.slot 11)), (73, (.res 1))]))
    [0, 1, 5, 6, 7, 8, 9, 10, 11]
abbrev internal_stringslite_Index_r19 : NC := .reg
    (.out [(4, (.const (.int .i64 (-1))))])
    []
abbrev internal_stringslite_Index_r20 : NC := .reg
    (.q 2 (.iar .add) [(.slot 11), (.const (.int .i64 1))] none
    (.q 3 (.iar .add) [(.slot 8), (.res 2)] none
    (.out [(0, (.slot 0)), (1, (.slot 1)), (5, (.slot 5)), (6, (.slot 6)), (7, (.slot 7)), (8, (.res 3)), (9, (.slot 9)), (10, (.slot 10))])))
    [0, 1, 5, 6, 7, 8, 9, 10, 11]
abbrev internal_stringslite_Index_r21 : NC := .reg
    (.q 2 (.iar .add) [(.slot 8), (.const (.int .i64 1))] none
    (.q 3 .idxs [(.slot 0), (.res 2)] none
    (.q 5 (.icm .eql) [(.res 3), (.slot 7)] none
    (.q 7 .mv [(.slot 0)] (some ((.res 5), true))
    (.q 8 .mv [(.slot 8)] (some ((.res 5), true))
    (.q 9 .mv [(.slot 8)] (some ((.res 5), true))
    (.q 10 .mv [(.slot 5)] (some ((.res 5), true))
    (.q 11 (.iar .add) [(.res 9), (.res 10)] (some ((.res 5), true))
    (.q 12 (.slcs true true) [(.res 7), (.res 8), (.res 11)] (some ((.res 5), true))
    (.q 13 .mv [(.slot 1)] (some ((.res 5), true))
    (.q 14 (.str .eql) [(.res 12), (.res 13)] (some ((.res 5), true))
    (.q 15 .pick [(.res 5), (.res 14), (.const (.bool false))] none
    (.out [(0, (.slot 0)), (1, (.slot 1)), (5, (.slot 5)), (6, (.slot 6)), (7, (.slot 7)), (8, (.slot 8)), (9, (.slot 9)), (10, (.slot 10)), (93, (.res 15))])))))))))))))
    [0, 1, 5, 6, 7, 8, 9, 10]
abbrev internal_stringslite_Index_r22 : NC := .reg
    (.out [(4, (.slot 8))])
    [8]
abbrev internal_stringslite_Index_r23 : NC := .reg
    (.q 1 (.iar .add) [(.slot 8), (.const (.int .i64 1))] none
    (.out [(0, (.slot 0)), (1, (.slot 1)), (5, (.slot 5)), (6, (.slot 6)), (7, (.slot 7)), (8, (.res 1)), (9, (.slot 9)), (10, (.slot 10))]))
    [0, 1, 5, 6, 7, 8, 9, 10]
abbrev internal_stringslite_Index_r24 : NC := .reg
    (.q 1 (.iar .add) [(.slot 10), (.const (.int .i64 1))] none
    (.out [(0, (.slot 0)), (1, (.slot 1)), (5, (.slot 5)), (6, (.slot 6)), (7, (.slot 7)), (8, (.slot 8)), (9, (.slot 9)), (10, (.res 1))]))
    [0, 1, 5, 6, 7, 8, 9, 10]
abbrev internal_stringslite_Index_r25 : NC := .reg
    (.q 1 .ld [(.glob 1)] none
    (.q 2 (.icm .leq) [(.slot 5), (.res 1)] none
    (.q 4 .mv [(.slot 10)] (some ((.res 2), true))
    (.q 5 .mv [(.slot 8)] (some ((.res 2), true))
    (.x 6 (.call 130) [(.res 5)] (some ((.res 2), true)) []
    (.q 7 (.icm .gtr) [(.res 4), (.res 6)] (some ((.res 2), true))
    (.q 8 .pick [(.res 2), (.res 7), (.const (.bool false))] none
    (.out [(0, (.slot 0)), (1, (.slot 1)), (5, (.slot 5)), (6, (.slot 6)), (7, (.slot 7)), (8, (.slot 8)), (9, (.slot 9)), (10, (.slot 10)), (107, (.res 8))]))))))))
    [0, 1, 5, 6, 7, 8, 9, 10]
abbrev internal_stringslite_Index_r26 : NC := .reg
    (.q 2 (.slcs true false) [(.slot 0), (.slot 8)] none
    (.x 4 .bad [] none []
    (.out [(8, (.slot 8)), (12, (.res 4))])))
    [0, 8]
abbrev internal_stringslite_Index_r27 : NC := .reg
    (.q 1 (.icm .geq) [(.slot 12), (.const (.int .i64 0))] none
    (.out [(8, (.slot 8)), (12, (.slot 12)), (114, (.res 1))]))
    [8, 12]
abbrev internal_stringslite_Index_r28 : NC := .reg
    (.q 2 (.iar .add) [(.slot 12), (.slot 8)] none
    (.out [(4, (.res 2))]))
    [8, 12]
abbrev internal_stringslite_Index_r29 : NC := .reg
    (.out [(4, (.const (.int .i64 (-1))))])
    []
abbrev internal_stringslite_Index_r30 : NC := .reg
    (.q 1 .ld [(.glob 1)] none
    (.q 2 (.icm .gtr) [(.slot 5), (.res 1)] none
    (.q 4 .mv [(.slot 10)] (some ((.res 2), true))
    (.q 5 .mv [(.slot 8)] (some ((.res 2), true))
    (.q 6 (.ish .shr) [(.res 5), (.const (.int .u64 4))] (some ((.res 2), true))
    (.q 7 (.iar .add) [(.const (.int .i64 4)), (.res 6)] (some ((.res 2), true))
    (.q 8 (.icm .geq) [(.res 4), (.res 7)] (some ((.res 2), true))
    (.q 9 .pick [(.res 2), (.res 8), (.const (.bool false))] none
    (.q 11 .mv [(.slot 8)] (some ((.res 9), true))
    (.q 12 .mv [(.slot 9)] (some ((.res 9), true))
    (.q 13 (.icm .lss) [(.res 11), (.res 12)] (some ((.res 9), true))
    (.q 14 .pick [(.res 9), (.res 13), (.const (.bool false))] none
    (.out [(0, (.slot 0)), (1, (.slot 1)), (5, (.slot 5)), (6, (.slot 6)), (7, (.slot 7)), (8, (.slot 8)), (9, (.slot 9)), (10, (.slot 10)), (132, (.res 14))])))))))))))))
    [0, 1, 5, 6, 7, 8, 9, 10]
abbrev internal_stringslite_Index_r31 : NC := .reg
    (.q 2 (.slcs true false) [(.slot 0), (.slot 8)] none
    (.x 4 (.call 131) [(.res 2), (.slot 1)] none []
    (.out [(8, (.slot 8)), (13, (.res 4))])))
    [0, 1, 8]
abbrev internal_stringslite_Index_r32 : NC := .reg
    (.q 1 (.icm .lss) [(.slot 13), (.const (.int .i64 0))] none
    (.out [(8, (.slot 8)), (13, (.slot 13)), (139, (.res 1))]))
    [8, 13]
abbrev internal_stringslite_Index_r33 : NC := .reg
    (.out [(4, (.const (.int .i64 (-1))))])
    []
abbrev internal_stringslite_Index_r34 : NC := .reg
    (.q 2 (.iar .add) [(.slot 8), (.slot 13)] none
    (.out [(4, (.res 2))]))
    [8, 13]
abbrev internal_stringslite_Index_l0 : NC :=
  (.seq (.seq internal_stringslite_Index_r15
  (.cond (.slot 59)
    .skip
    (.exit 1)))
  (.block 2 (.seq (.seq internal_stringslite_Index_r16
  (.cond (.slot 64)
    (.seq internal_stringslite_Index_r17
    (.seq (.seq internal_stringslite_Index_r18
    (.cond (.slot 73)
      (.seq internal_stringslite_Index_r19
      .ret)
      .skip))
    internal_stringslite_Index_r20))
    .skip))
  (.seq (.seq internal_stringslite_Index_r21
  (.cond (.slot 93)
    (.seq internal_stringslite_Index_r22
    .ret)
    .skip))
  (.seq internal_stringslite_Index_r23
  (.seq internal_stringslite_Index_r24
  (.seq internal_stringslite_Index_r25
  (.cond (.slot 107)
    (.seq internal_stringslite_Index_r26
    (.seq (.seq internal_stringslite_Index_r27
    (.cond (.slot 114)
      (.seq internal_stringslite_Index_r28
      .ret)
      .skip))
    (.seq internal_stringslite_Index_r29
    .ret)))
    (.seq internal_stringslite_Index_r30
    (.cond (.slot 132)
      (.seq internal_stringslite_Index_r31
      (.seq (.seq internal_stringslite_Index_r32
      (.cond (.slot 139)
        (.seq internal_stringslite_Index_r33
        .ret)
        .skip))
      (.seq internal_stringslite_Index_r34
      .ret)))
      .skip))))))))))
abbrev internal_stringslite_Index_r35 : NC := .reg
    (.out [(4, (.const (.int .i64 (-1))))])
    []
abbrev internal_stringslite_Index_c : NC :=
  (.seq internal_stringslite_Index_r0
  (.seq internal_stringslite_Index_r1
  (.seq (.block 0 (.seq internal_stringslite_Index_r2
  (.cond (.slot 16)
    (.seq internal_stringslite_Index_r3
    .ret)
    (.seq internal_stringslite_Index_r4
    (.cond (.slot 24)
      (.seq internal_stringslite_Index_r5
      .ret)
      (.seq internal_stringslite_Index_r6
      (.cond (.slot 31)
        (.seq internal_stringslite_Index_r7
        .ret)
        (.seq internal_stringslite_Index_r8
        (.cond (.slot 36)
          (.seq internal_stringslite_Index_r9
          .ret)
          .skip)))))))))
  (.seq internal_stringslite_Index_r10
  (.seq internal_stringslite_Index_r11
  (.seq internal_stringslite_Index_r12
  (.seq internal_stringslite_Index_r13
  (.seq internal_stringslite_Index_r14
  (.seq (.block 1 (.loop [0, 1, 5, 6, 7, 8, 9, 10] internal_stringslite_Index_l0))
  (.seq internal_stringslite_Index_r35
  .ret))))))))))
abbrev internal_stringslite_Index_F : FN := ⟨internal_stringslite_Index_c, [.slot 4]⟩
theorem internal_stringslite_Index_ok : compF Tryz.prog Tryz.f84 = some internal_stringslite_Index_F := by kernel_rfl
theorem internal_stringslite_Index_go {args : List Value} {m : Mem} {R : Value → Mem → Prop} (hn : args.length ≤ Tryz.f84.ntmps) (h : wpN Tryz.prog internal_stringslite_Index_c (retP internal_stringslite_Index_F.rvs R) (zipP 0 args) m) : MC Tryz.prog 84 args m R := MC_start Tryz.func84 internal_stringslite_Index_ok mixed_ok hn h
end Go.Fw
