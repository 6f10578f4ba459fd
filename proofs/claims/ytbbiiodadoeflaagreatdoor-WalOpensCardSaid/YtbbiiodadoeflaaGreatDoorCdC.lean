import Derived.Test.YtbbiiodadoeflaaGreatDoorCd
set_option linter.unusedVariables false
set_option linter.unusedSimpArgs false
namespace Go.Fw
open Go.Proofs
/-! concord/pack.Num -/
abbrev pack_Num_r0 : NC := .reg
    (.out [(0, (.slot 0)), (1, (.slot 1))])
    [0, 1]
abbrev pack_Num_r1 : NC := .reg
    (.x 1 (.call 90) [(.slot 0), (.const (.int .i64 10))] none []
    (.x 3 (.call 89) [(.res 1), (.slot 1)] none []
    (.out [(4, (.res 3))])))
    [0, 1]
abbrev pack_Num_c : NC :=
  (.seq pack_Num_r0
  (.seq pack_Num_r1
  .ret))
abbrev pack_Num_F : FN := ⟨pack_Num_c, [.slot 4]⟩
theorem pack_Num_ok : compF Tryz.prog Tryz.f62 = some pack_Num_F := by kernel_rfl
theorem pack_Num_go {args : List Value} {m : Mem} {R : Value → Mem → Prop} (hn : args.length ≤ Tryz.f62.ntmps) (h : wpN Tryz.prog pack_Num_c (retP pack_Num_F.rvs R) (zipP 0 args) m) : MC Tryz.prog 62 args m R := MC_start Tryz.func62 pack_Num_ok mixed_ok hn h
/-! concord/pack.Read -/
abbrev pack_Read_r0 : NC := .reg
    (.out [(0, (.slot 0))])
    [0]
abbrev pack_Read_r1 : NC := .reg
    (.x 1 (.call 90) [(.slot 0), (.const (.int .i64 0))] none []
    (.q 2 (.bld [(.slice none 0 0), (.int .i64 0), (.int .i64 0)] [(0, 1)]) [(.res 1)] none
    (.x 3 (.box 141) [(.res 2)] none []
    (.out [(2, (.res 3))]))))
    [0]
abbrev pack_Read_c : NC :=
  (.seq pack_Read_r0
  (.seq pack_Read_r1
  .ret))
abbrev pack_Read_F : FN := ⟨pack_Read_c, [.slot 2]⟩
theorem pack_Read_ok : compF Tryz.prog Tryz.f75 = some pack_Read_F := by kernel_rfl
theorem pack_Read_go {args : List Value} {m : Mem} {R : Value → Mem → Prop} (hn : args.length ≤ Tryz.f75.ntmps) (h : wpN Tryz.prog pack_Read_c (retP pack_Read_F.rvs R) (zipP 0 args) m) : MC Tryz.prog 75 args m R := MC_start Tryz.func75 pack_Read_ok mixed_ok hn h
/-! (*concord/pack.Reader).Num -/
abbrev pack_Reader_Num_r0 : NC := .reg
    (.out [(0, (.slot 0))])
    [0]
abbrev pack_Reader_Num_r1 : NC := .reg
    (.q 1 .nilck [(.slot 0)] none
    (.q 2 (.fld 2) [(.res 1)] none
    (.q 3 .ld [(.res 2)] none
    (.q 4 (.icm .neq) [(.res 3), (.const (.int .i64 0))] none
    (.out [(0, (.slot 0)), (11, (.res 4))])))))
    [0]
abbrev pack_Reader_Num_r2 : NC := .reg
    (.out [(2, (.const (.int .i64 0)))])
    []
abbrev pack_Reader_Num_r3 : NC := .reg
    (.q 1 .nilck [(.slot 0)] none
    (.q 2 (.fld 1) [(.res 1)] none
    (.q 3 .ld [(.res 2)] none
    (.out [(0, (.slot 0)), (3, (.res 3)), (4, (.const (.int .u64 0)))]))))
    [0]
abbrev pack_Reader_Num_r4 : NC := .reg
    (.out [(0, (.slot 0)), (3, (.slot 3)), (4, (.slot 4)), (5, (.const (.int .i64 0)))])
    [0, 3, 4]
abbrev pack_Reader_Num_r5 : NC := .reg
    (.q 1 .nilck [(.slot 0)] none
    (.q 2 (.fld 1) [(.res 1)] none
    (.q 3 .ld [(.res 2)] none
    (.q 5 .nilck [(.slot 0)] none
    (.q 6 (.fld 0) [(.res 5)] none
    (.q 7 .ld [(.res 6)] none
    (.q 8 .len [(.res 7)] none
    (.q 9 (.icm .eql) [(.res 3), (.res 8)] none
    (.out [(0, (.slot 0)), (3, (.slot 3)), (4, (.slot 4)), (5, (.slot 5)), (27, (.res 9))])))))))))
    [0, 3, 4, 5]
abbrev pack_Reader_Num_r6 : NC := .reg
    (.x 2 (.call 97) [(.slot 0), (.slot 3), (.const (.int .i64 3))] none []
    (.out []))
    [0, 3]
abbrev pack_Reader_Num_r7 : NC := .reg
    (.out [(2, (.const (.int .i64 0)))])
    []
abbrev pack_Reader_Num_r8 : NC := .reg
    (.q 1 .nilck [(.slot 0)] none
    (.q 2 (.fld 0) [(.res 1)] none
    (.q 3 .ld [(.res 2)] none
    (.q 5 .nilck [(.slot 0)] none
    (.q 6 (.fld 1) [(.res 5)] none
    (.q 7 .ld [(.res 6)] none
    (.q 8 (.ixs 1) [(.res 3), (.res 7)] none
    (.q 9 .ld [(.res 8)] none
    (.out [(0, (.slot 0)), (3, (.slot 3)), (4, (.slot 4)), (5, (.slot 5)), (6, (.res 9))])))))))))
    [0, 3, 4, 5]
abbrev pack_Reader_Num_r9 : NC := .reg
    (.q 1 (.icm .gtr) [(.slot 5), (.const (.int .i64 0))] none
    (.q 3 .mv [(.slot 6)] (some ((.res 1), true))
    (.q 4 (.icm .eql) [(.res 3), (.const (.int .u8 0))] (some ((.res 1), true))
    (.q 5 .pick [(.res 1), (.res 4), (.const (.bool false))] none
    (.q 7 .mv [(.slot 5)] (some ((.res 5), false))
    (.q 8 (.icm .eql) [(.res 7), (.const (.int .i64 9))] (some ((.res 5), false))
    (.q 9 .mv [(.res 8)] (some ((.res 5), false))
    (.q 10 .mv [(.slot 6)] (some ((.res 9), true))
    (.q 11 (.icm .gtr) [(.res 10), (.const (.int .u8 1))] (some ((.res 9), true))
    (.q 12 .pick [(.res 9), (.res 11), (.const (.bool false))] (some ((.res 5), false))
    (.q 13 .pick [(.res 5), (.const (.bool true)), (.res 12)] none
    (.out [(0, (.slot 0)), (3, (.slot 3)), (4, (.slot 4)), (5, (.slot 5)), (6, (.slot 6)), (54, (.res 13))]))))))))))))
    [0, 3, 4, 5, 6]
abbrev pack_Reader_Num_r10 : NC := .reg
    (.x 2 (.call 97) [(.slot 0), (.slot 3), (.const (.int .i64 4))] none []
    (.out []))
    [0, 3]
abbrev pack_Reader_Num_r11 : NC := .reg
    (.out [(2, (.const (.int .i64 0)))])
    []
abbrev pack_Reader_Num_r12 : NC := .reg
    (.q 1 .nilck [(.slot 0)] none
    (.q 2 (.fld 1) [(.res 1)] none
    (.q 3 .ld [(.res 2)] none
    (.q 4 (.iar .add) [(.res 3), (.const (.int .i64 1))] none
    (.q 5 .nilck [(.slot 0)] none
    (.q 6 (.fld 1) [(.res 5)] none
    (.x 7 (.st 1) [(.res 6), (.res 4)] none []
    (.out [(0, (.slot 0)), (3, (.slot 3)), (4, (.slot 4)), (5, (.slot 5)), (6, (.slot 6))]))))))))
    [0, 3, 4, 5, 6]
abbrev pack_Reader_Num_r13 : NC := .reg
    (.q 2 (.ibt .and) [(.slot 6), (.const (.int .u8 127))] none
    (.q 3 (.conv .u64) [(.res 2)] none
    (.q 5 (.iar .mul) [(.const (.int .i64 7)), (.slot 5)] none
    (.q 6 (.conv .u64) [(.res 5)] none
    (.q 7 (.ish .shl) [(.res 3), (.res 6)] none
    (.q 8 (.ibt .or) [(.slot 4), (.res 7)] none
    (.out [(0, (.slot 0)), (3, (.slot 3)), (4, (.res 8)), (5, (.slot 5)), (6, (.slot 6))])))))))
    [0, 3, 4, 5, 6]
abbrev pack_Reader_Num_r14 : NC := .reg
    (.q 1 (.icm .lss) [(.slot 6), (.const (.int .u8 128))] none
    (.out [(0, (.slot 0)), (3, (.slot 3)), (4, (.slot 4)), (5, (.slot 5)), (75, (.res 1))]))
    [0, 3, 4, 5, 6]
abbrev pack_Reader_Num_r15 : NC := .reg
    (.x 1 (.call 98) [(.slot 4)] none []
    (.out [(2, (.res 1))]))
    [4]
abbrev pack_Reader_Num_r16 : NC := .reg
    (.q 1 (.iar .add) [(.slot 5), (.const (.int .i64 1))] none
    (.out [(0, (.slot 0)), (3, (.slot 3)), (4, (.slot 4)), (5, (.res 1))]))
    [0, 3, 4, 5]
abbrev pack_Reader_Num_l0 : NC :=
  (.seq (.block 1 (.seq (.seq pack_Reader_Num_r5
  (.cond (.slot 27)
    (.seq pack_Reader_Num_r6
    (.seq pack_Reader_Num_r7
    .ret))
    .skip))
  (.seq pack_Reader_Num_r8
  (.seq (.seq pack_Reader_Num_r9
  (.cond (.slot 54)
    (.seq pack_Reader_Num_r10
    (.seq pack_Reader_Num_r11
    .ret))
    .skip))
  (.seq pack_Reader_Num_r12
  (.seq pack_Reader_Num_r13
  (.seq pack_Reader_Num_r14
  (.cond (.slot 75)
    (.seq pack_Reader_Num_r15
    .ret)
    .skip))))))))
  pack_Reader_Num_r16)
abbrev pack_Reader_Num_c : NC :=
  (.seq pack_Reader_Num_r0
  (.seq (.seq pack_Reader_Num_r1
  (.cond (.slot 11)
    (.seq pack_Reader_Num_r2
    .ret)
    .skip))
  (.seq pack_Reader_Num_r3
  (.seq pack_Reader_Num_r4
  (.block 0 (.loop [0, 3, 4, 5] pack_Reader_Num_l0))))))
abbrev pack_Reader_Num_F : FN := ⟨pack_Reader_Num_c, [.slot 2]⟩
theorem pack_Reader_Num_ok : compF Tryz.prog Tryz.f76 = some pack_Reader_Num_F := by kernel_rfl
theorem pack_Reader_Num_go {args : List Value} {m : Mem} {R : Value → Mem → Prop} (hn : args.length ≤ Tryz.f76.ntmps) (h : wpN Tryz.prog pack_Reader_Num_c (retP pack_Reader_Num_F.rvs R) (zipP 0 args) m) : MC Tryz.prog 76 args m R := MC_start Tryz.func76 pack_Reader_Num_ok mixed_ok hn h
/-! (*concord/pack.Reader).End -/
abbrev pack_Reader_End_r0 : NC := .reg
    (.out [(0, (.slot 0))])
    [0]
abbrev pack_Reader_End_r1 : NC := .reg
    (.q 1 .nilck [(.slot 0)] none
    (.q 2 (.fld 2) [(.res 1)] none
    (.q 3 .ld [(.res 2)] none
    (.q 4 (.icm .eql) [(.res 3), (.const (.int .i64 0))] none
    (.q 6 .mv [(.slot 0)] (some ((.res 4), true))
    (.q 7 .nilck [(.res 6)] (some ((.res 4), true))
    (.q 8 (.fld 1) [(.res 7)] (some ((.res 4), true))
    (.q 9 .ld [(.res 8)] (some ((.res 4), true))
    (.q 10 .mv [(.slot 0)] (some ((.res 4), true))
    (.q 11 .nilck [(.res 10)] (some ((.res 4), true))
    (.q 12 (.fld 0) [(.res 11)] (some ((.res 4), true))
    (.q 13 .ld [(.res 12)] (some ((.res 4), true))
    (.q 14 .len [(.res 13)] (some ((.res 4), true))
    (.q 15 (.icm .lss) [(.res 9), (.res 14)] (some ((.res 4), true))
    (.q 16 .pick [(.res 4), (.res 15), (.const (.bool false))] none
    (.out [(0, (.slot 0)), (19, (.res 16))]))))))))))))))))
    [0]
abbrev pack_Reader_End_r2 : NC := .reg
    (.q 1 .nilck [(.slot 0)] none
    (.q 2 (.fld 2) [(.res 1)] none
    (.x 3 (.st 1) [(.res 2), (.const (.int .i64 5))] none []
    (.out [(0, (.slot 0))]))))
    [0]
abbrev pack_Reader_End_r3 : NC := .reg
    (.q 1 .nilck [(.slot 0)] none
    (.q 2 (.fld 2) [(.res 1)] none
    (.q 3 .ld [(.res 2)] none
    (.out [(2, (.res 3))]))))
    [0]
abbrev pack_Reader_End_c : NC :=
  (.seq pack_Reader_End_r0
  (.seq (.seq pack_Reader_End_r1
  (.cond (.slot 19)
    pack_Reader_End_r2
    .skip))
  (.seq pack_Reader_End_r3
  .ret)))
abbrev pack_Reader_End_F : FN := ⟨pack_Reader_End_c, [.slot 2]⟩
theorem pack_Reader_End_ok : compF Tryz.prog Tryz.f77 = some pack_Reader_End_F := by kernel_rfl
theorem pack_Reader_End_go {args : List Value} {m : Mem} {R : Value → Mem → Prop} (hn : args.length ≤ Tryz.f77.ntmps) (h : wpN Tryz.prog pack_Reader_End_c (retP pack_Reader_End_F.rvs R) (zipP 0 args) m) : MC Tryz.prog 77 args m R := MC_start Tryz.func77 pack_Reader_End_ok mixed_ok hn h
/-! concord/word.Put -/
abbrev word_Put_r0 : NC := .reg
    (.out [(0, (.slot 0)), (1, (.slot 1)), (2, (.slot 2))])
    [0, 1, 2]
abbrev word_Put_r1 : NC := .reg
    (.q 1 .len [(.slot 0)] none
    (.q 2 (.iar .add) [(.res 1), (.const (.int .i64 8))] none
    (.x 3 (.mks 5 1 [(.int .u8 0)]) [(.const (.int .i64 0)), (.res 2)] none []
    (.x 5 (.app 5 1 1 [(.int .u8 0)]) [(.res 3), (.slot 0)] none []
    (.out [(1, (.slot 1)), (2, (.slot 2)), (7, (.res 5))])))))
    [0, 1, 2]
abbrev word_Put_r2 : NC := .reg
    (.q 1 .mx [(.slot 1), (.const (.int .i64 0))] none
    (.q 2 .mn [(.res 1), (.const (.int .i64 8))] none
    (.out [(2, (.slot 2)), (7, (.slot 7)), (16, (.res 2)), (17, (.const (.int .i64 0)))])))
    [1, 2, 7]
abbrev word_Put_r3 : NC := .reg
    (.q 0 (.icm .lss) [(.slot 17), (.slot 16)] none
    (.out [(2, (.slot 2)), (7, (.slot 7)), (16, (.slot 16)), (17, (.slot 17)), (18, (.res 0))]))
    [2, 7, 16, 17]
abbrev word_Put_r4 : NC := .reg
    (.q 2 (.conv .u8) [(.slot 2)] none
    (.x 3 (.bsl 5 1 [(.int .u8 0)] [(0, 1)]) [(.res 2)] none []
    (.x 4 (.app 5 1 1 [(.int .u8 0)]) [(.slot 7), (.res 3)] none []
    (.out [(2, (.slot 2)), (7, (.res 4)), (16, (.slot 16)), (17, (.slot 17))]))))
    [2, 7, 16, 17]
abbrev word_Put_r5 : NC := .reg
    (.q 1 (.ish .shr) [(.slot 2), (.const (.int .u64 8))] none
    (.out [(2, (.res 1)), (7, (.slot 7)), (16, (.slot 16)), (17, (.slot 17))]))
    [2, 7, 16, 17]
abbrev word_Put_r6 : NC := .reg
    (.q 0 (.iar .add) [(.slot 17), (.const (.int .i64 1))] none
    (.out [(2, (.slot 2)), (7, (.slot 7)), (16, (.slot 16)), (17, (.res 0))]))
    [2, 7, 16, 17]
abbrev word_Put_l0 : NC :=
  (.seq word_Put_r3
  (.seq (.cond (.slot 18)
    .skip
    (.exit 0))
  (.seq (.block 1 (.seq word_Put_r4
  word_Put_r5))
  word_Put_r6)))
abbrev word_Put_r7 : NC := .reg
    (.out [(6, (.slot 7))])
    [7]
abbrev word_Put_c : NC :=
  (.seq word_Put_r0
  (.seq word_Put_r1
  (.seq (.seq word_Put_r2
  (.block 0 (.loop [2, 7, 16, 17] word_Put_l0)))
  (.seq word_Put_r7
  .ret))))
abbrev word_Put_F : FN := ⟨word_Put_c, [.slot 6]⟩
theorem word_Put_ok : compF Tryz.prog Tryz.f87 = some word_Put_F := by kernel_rfl
theorem word_Put_go {args : List Value} {m : Mem} {R : Value → Mem → Prop} (hn : args.length ≤ Tryz.f87.ntmps) (h : wpN Tryz.prog word_Put_c (retP word_Put_F.rvs R) (zipP 0 args) m) : MC Tryz.prog 87 args m R := MC_start Tryz.func87 word_Put_ok mixed_ok hn h
/-! concord/sum.Of -/
abbrev sum_Of_r0 : NC := .reg
    (.out [(0, (.slot 0))])
    [0]
abbrev sum_Of_r1 : NC := .reg
    (.x 1 (.call 103) [(.const (.int .u32 0)), (.slot 0)] none []
    (.out [(2, (.res 1))]))
    [0]
abbrev sum_Of_c : NC :=
  (.seq sum_Of_r0
  (.seq sum_Of_r1
  .ret))
abbrev sum_Of_F : FN := ⟨sum_Of_c, [.slot 2]⟩
theorem sum_Of_ok : compF Tryz.prog Tryz.f88 = some sum_Of_F := by kernel_rfl
theorem sum_Of_go {args : List Value} {m : Mem} {R : Value → Mem → Prop} (hn : args.length ≤ Tryz.f88.ntmps) (h : wpN Tryz.prog sum_Of_c (retP sum_Of_F.rvs R) (zipP 0 args) m) : MC Tryz.prog 88 args m R := MC_start Tryz.func88 sum_Of_ok mixed_ok hn h
/-! concord/pack.num -/
abbrev pack_num_r0 : NC := .reg
    (.out [(0, (.slot 0)), (1, (.slot 1))])
    [0, 1]
abbrev pack_num_r1 : NC := .reg
    (.x 1 (.call 104) [(.slot 1)] none []
    (.out [(0, (.slot 0)), (5, (.res 1))]))
    [0, 1]
abbrev pack_num_r2 : NC := .reg
    (.q 1 (.icm .geq) [(.slot 5), (.const (.int .u64 128))] none
    (.out [(0, (.slot 0)), (5, (.slot 5)), (9, (.res 1))]))
    [0, 5]
abbrev pack_num_r3 : NC := .reg
    (.q 2 (.conv .u8) [(.slot 5)] none
    (.q 3 (.ibt .or) [(.res 2), (.const (.int .u8 128))] none
    (.x 4 (.bsl 5 1 [(.int .u8 0)] [(0, 1)]) [(.res 3)] none []
    (.x 5 (.app 5 1 1 [(.int .u8 0)]) [(.slot 0), (.res 4)] none []
    (.out [(0, (.res 5)), (5, (.slot 5))])))))
    [0, 5]
abbrev pack_num_r4 : NC := .reg
    (.q 1 (.ish .shr) [(.slot 5), (.const (.int .u64 7))] none
    (.out [(0, (.slot 0)), (5, (.res 1))]))
    [0, 5]
abbrev pack_num_l0 : NC :=
  (.seq (.seq pack_num_r2
  (.cond (.slot 9)
    .skip
    (.exit 0)))
  (.block 1 (.seq pack_num_r3
  pack_num_r4)))
abbrev pack_num_r5 : NC := .reg
    (.q 2 (.conv .u8) [(.slot 5)] none
    (.x 3 (.bsl 5 1 [(.int .u8 0)] [(0, 1)]) [(.res 2)] none []
    (.x 4 (.app 5 1 1 [(.int .u8 0)]) [(.slot 0), (.res 3)] none []
    (.out [(4, (.res 4))]))))
    [0, 5]
abbrev pack_num_c : NC :=
  (.seq pack_num_r0
  (.seq pack_num_r1
  (.seq (.block 0 (.loop [0, 5] pack_num_l0))
  (.seq pack_num_r5
  .ret))))
abbrev pack_num_F : FN := ⟨pack_num_c, [.slot 4]⟩
theorem pack_num_ok : compF Tryz.prog Tryz.f89 = some pack_num_F := by kernel_rfl
theorem pack_num_go {args : List Value} {m : Mem} {R : Value → Mem → Prop} (hn : args.length ≤ Tryz.f89.ntmps) (h : wpN Tryz.prog pack_num_c (retP pack_num_F.rvs R) (zipP 0 args) m) : MC Tryz.prog 89 args m R := MC_start Tryz.func89 pack_num_ok mixed_ok hn h
/-! concord/pack.grown -/
abbrev pack_grown_r0 : NC := .reg
    (.out [(0, (.slot 0)), (1, (.slot 1))])
    [0, 1]
abbrev pack_grown_r1 : NC := .reg
    (.q 1 .len [(.slot 0)] none
    (.q 3 (.iar .add) [(.res 1), (.slot 1)] none
    (.x 4 (.mks 5 1 [(.int .u8 0)]) [(.const (.int .i64 0)), (.res 3)] none []
    (.x 6 (.app 5 1 1 [(.int .u8 0)]) [(.res 4), (.slot 0)] none []
    (.out [(4, (.res 6))])))))
    [0, 1]
abbrev pack_grown_c : NC :=
  (.seq pack_grown_r0
  (.seq pack_grown_r1
  .ret))
abbrev pack_grown_F : FN := ⟨pack_grown_c, [.slot 4]⟩
theorem pack_grown_ok : compF Tryz.prog Tryz.f90 = some pack_grown_F := by kernel_rfl
theorem pack_grown_go {args : List Value} {m : Mem} {R : Value → Mem → Prop} (hn : args.length ≤ Tryz.f90.ntmps) (h : wpN Tryz.prog pack_grown_c (retP pack_grown_F.rvs R) (zipP 0 args) m) : MC Tryz.prog 90 args m R := MC_start Tryz.func90 pack_grown_ok mixed_ok hn h
/-! (*concord/pack.Reader).fail -/
abbrev pack_Reader_fail_r0 : NC := .reg
    (.q 4 .nilck [(.slot 0)] none
    (.q 5 (.fld 1) [(.res 4)] none
    (.x 6 (.st 1) [(.res 5), (.slot 1)] none []
    (.q 7 .nilck [(.slot 0)] none
    (.q 8 (.fld 2) [(.res 7)] none
    (.x 9 (.st 1) [(.res 8), (.slot 2)] none []
    (.out [])))))))
    [0, 1, 2]
abbrev pack_Reader_fail_c : NC :=
  pack_Reader_fail_r0
abbrev pack_Reader_fail_F : FN := ⟨pack_Reader_fail_c, []⟩
theorem pack_Reader_fail_ok : compF Tryz.prog Tryz.f97 = some pack_Reader_fail_F := by kernel_rfl
theorem pack_Reader_fail_go {args : List Value} {m : Mem} {R : Value → Mem → Prop} (hn : args.length ≤ Tryz.f97.ntmps) (h : wpN Tryz.prog pack_Reader_fail_c (retP pack_Reader_fail_F.rvs R) (zipP 0 args) m) : MC Tryz.prog 97 args m R := MC_start Tryz.func97 pack_Reader_fail_ok mixed_ok hn h
/-! concord/word.Zag -/
abbrev word_Zag_r0 : NC := .reg
    (.out [(0, (.slot 0))])
    [0]
abbrev word_Zag_r1 : NC := .reg
    (.q 1 (.ish .shr) [(.slot 0), (.const (.int .u64 1))] none
    (.q 2 (.conv .i64) [(.res 1)] none
    (.q 4 (.ibt .and) [(.slot 0), (.const (.int .u64 1))] none
    (.q 5 (.conv .i64) [(.res 4)] none
    (.q 6 .neg [(.res 5)] none
    (.q 7 (.ibt .xor) [(.res 2), (.res 6)] none
    (.out [(2, (.res 7))])))))))
    [0]
abbrev word_Zag_c : NC :=
  (.seq word_Zag_r0
  (.seq word_Zag_r1
  .ret))
abbrev word_Zag_F : FN := ⟨word_Zag_c, [.slot 2]⟩
theorem word_Zag_ok : compF Tryz.prog Tryz.f98 = some word_Zag_F := by kernel_rfl
theorem word_Zag_go {args : List Value} {m : Mem} {R : Value → Mem → Prop} (hn : args.length ≤ Tryz.f98.ntmps) (h : wpN Tryz.prog word_Zag_c (retP word_Zag_F.rvs R) (zipP 0 args) m) : MC Tryz.prog 98 args m R := MC_start Tryz.func98 word_Zag_ok mixed_ok hn h
/-! concord/sum.On -/
abbrev sum_On_r0 : NC := .reg
    (.out [(0, (.slot 0)), (1, (.slot 1))])
    [0, 1]
abbrev sum_On_r1 : NC := .reg
    (.q 1 .cpl [(.slot 0)] none
    (.out [(0, (.res 1)), (1, (.slot 1))]))
    [0, 1]
abbrev sum_On_r2 : NC := .reg
    (.q 1 .len [(.slot 1)] none
    (.out [(0, (.slot 0)), (10, (.slot 1)), (11, (.res 1)), (12, (.const (.int .i64 0)))]))
    [0, 1]
abbrev sum_On_r3 : NC := .reg
    (.q 0 (.icm .lss) [(.slot 12), (.slot 11)] none
    (.out [(0, (.slot 0)), (10, (.slot 10)), (11, (.slot 11)), (12, (.slot 12)), (13, (.res 0))]))
    [0, 10, 11, 12]
abbrev sum_On_r4 : NC := .reg
    (.q 0 (.ixs 1) [(.slot 10), (.slot 12)] none
    (.q 1 .ld [(.res 0)] none
    (.out [(0, (.slot 0)), (6, (.res 1)), (10, (.slot 10)), (11, (.slot 11)), (12, (.slot 12))])))
    [0, 10, 11, 12]
abbrev sum_On_r5 : NC := .reg
    (.q 2 (.conv .u32) [(.slot 6)] none
    (.q 3 (.ibt .xor) [(.slot 0), (.res 2)] none
    (.out [(0, (.res 3)), (10, (.slot 10)), (11, (.slot 11)), (12, (.slot 12))])))
    [0, 6, 10, 11, 12]
abbrev sum_On_r6 : NC := .reg
    (.out [(0, (.slot 0)), (10, (.slot 10)), (11, (.slot 11)), (12, (.slot 12)), (20, (.const (.int .i64 0)))])
    [0, 10, 11, 12]
abbrev sum_On_r7 : NC := .reg
    (.q 0 (.icm .lss) [(.slot 20), (.const (.int .i64 8))] none
    (.out [(0, (.slot 0)), (10, (.slot 10)), (11, (.slot 11)), (12, (.slot 12)), (20, (.slot 20)), (21, (.res 0))]))
    [0, 10, 11, 12, 20]
abbrev sum_On_r8 : NC := .reg
    (.q 1 (.ibt .and) [(.slot 0), (.const (.int .u32 1))] none
    (.out [(0, (.slot 0)), (7, (.res 1)), (10, (.slot 10)), (11, (.slot 11)), (12, (.slot 12)), (20, (.slot 20))]))
    [0, 10, 11, 12, 20]
abbrev sum_On_r9 : NC := .reg
    (.q 1 (.ish .shr) [(.slot 0), (.const (.int .u64 1))] none
    (.out [(0, (.res 1)), (7, (.slot 7)), (10, (.slot 10)), (11, (.slot 11)), (12, (.slot 12)), (20, (.slot 20))]))
    [0, 7, 10, 11, 12, 20]
abbrev sum_On_r10 : NC := .reg
    (.q 1 (.icm .eql) [(.slot 7), (.const (.int .u32 1))] none
    (.out [(0, (.slot 0)), (10, (.slot 10)), (11, (.slot 11)), (12, (.slot 12)), (20, (.slot 20)), (27, (.res 1))]))
    [0, 7, 10, 11, 12, 20]
abbrev sum_On_r11 : NC := .reg
    (.q 1 (.ibt .xor) [(.slot 0), (.const (.int .u32 3988292384))] none
    (.out [(0, (.res 1)), (10, (.slot 10)), (11, (.slot 11)), (12, (.slot 12)), (20, (.slot 20))]))
    [0, 10, 11, 12, 20]
abbrev sum_On_r12 : NC := .reg
    (.q 0 (.iar .add) [(.slot 20), (.const (.int .i64 1))] none
    (.out [(0, (.slot 0)), (10, (.slot 10)), (11, (.slot 11)), (12, (.slot 12)), (20, (.res 0))]))
    [0, 10, 11, 12, 20]
abbrev sum_On_l0 : NC :=
  (.seq sum_On_r7
  (.seq (.cond (.slot 21)
    .skip
    (.exit 2))
  (.seq (.block 3 (.seq sum_On_r8
  (.seq sum_On_r9
  (.seq sum_On_r10
  (.cond (.slot 27)
    sum_On_r11
    .skip)))))
  sum_On_r12)))
abbrev sum_On_r13 : NC := .reg
    (.q 0 (.iar .add) [(.slot 12), (.const (.int .i64 1))] none
    (.out [(0, (.slot 0)), (10, (.slot 10)), (11, (.slot 11)), (12, (.res 0))]))
    [0, 10, 11, 12]
abbrev sum_On_l1 : NC :=
  (.seq sum_On_r3
  (.seq (.cond (.slot 13)
    .skip
    (.exit 0))
  (.seq (.block 1 (.seq sum_On_r4
  (.seq sum_On_r5
  (.seq sum_On_r6
  (.block 2 (.loop [0, 10, 11, 12, 20] sum_On_l0))))))
  sum_On_r13)))
abbrev sum_On_r14 : NC := .reg
    (.q 1 .cpl [(.slot 0)] none
    (.out [(4, (.res 1))]))
    [0]
abbrev sum_On_c : NC :=
  (.seq sum_On_r0
  (.seq sum_On_r1
  (.seq (.seq sum_On_r2
  (.block 0 (.loop [0, 10, 11, 12] sum_On_l1)))
  (.seq sum_On_r14
  .ret))))
abbrev sum_On_F : FN := ⟨sum_On_c, [.slot 4]⟩
theorem sum_On_ok : compF Tryz.prog Tryz.f103 = some sum_On_F := by kernel_rfl
theorem sum_On_go {args : List Value} {m : Mem} {R : Value → Mem → Prop} (hn : args.length ≤ Tryz.f103.ntmps) (h : wpN Tryz.prog sum_On_c (retP sum_On_F.rvs R) (zipP 0 args) m) : MC Tryz.prog 103 args m R := MC_start Tryz.func103 sum_On_ok mixed_ok hn h
/-! concord/word.Zig -/
abbrev word_Zig_r0 : NC := .reg
    (.out [(0, (.slot 0))])
    [0]
abbrev word_Zig_r1 : NC := .reg
    (.q 1 (.conv .u64) [(.slot 0)] none
    (.q 2 (.ish .shl) [(.res 1), (.const (.int .u64 1))] none
    (.q 4 (.ish .shr) [(.slot 0), (.const (.int .u64 63))] none
    (.q 5 (.conv .u64) [(.res 4)] none
    (.q 6 (.ibt .xor) [(.res 2), (.res 5)] none
    (.out [(2, (.res 6))]))))))
    [0]
abbrev word_Zig_c : NC :=
  (.seq word_Zig_r0
  (.seq word_Zig_r1
  .ret))
abbrev word_Zig_F : FN := ⟨word_Zig_c, [.slot 2]⟩
theorem word_Zig_ok : compF Tryz.prog Tryz.f104 = some word_Zig_F := by kernel_rfl
theorem word_Zig_go {args : List Value} {m : Mem} {R : Value → Mem → Prop} (hn : args.length ≤ Tryz.f104.ntmps) (h : wpN Tryz.prog word_Zig_c (retP word_Zig_F.rvs R) (zipP 0 args) m) : MC Tryz.prog 104 args m R := MC_start Tryz.func104 word_Zig_ok mixed_ok hn h
/-! concord/word.Get -/
abbrev word_Get_r0 : NC := .reg
    (.out [(0, (.slot 0)), (1, (.slot 1)), (2, (.slot 2))])
    [0, 1, 2]
abbrev word_Get_r1 : NC := .reg
    (.q 1 (.icm .lss) [(.slot 2), (.const (.int .i64 1))] none
    (.q 3 .mv [(.slot 2)] (some ((.res 1), false))
    (.q 4 (.icm .gtr) [(.res 3), (.const (.int .i64 8))] (some ((.res 1), false))
    (.q 5 .pick [(.res 1), (.const (.bool true)), (.res 4)] none
    (.q 7 .mv [(.slot 1)] (some ((.res 5), false))
    (.q 8 (.icm .lss) [(.res 7), (.const (.int .i64 0))] (some ((.res 5), false))
    (.q 9 .pick [(.res 5), (.const (.bool true)), (.res 8)] none
    (.q 11 .mv [(.slot 1)] (some ((.res 9), false))
    (.q 12 .mv [(.slot 0)] (some ((.res 9), false))
    (.q 13 .len [(.res 12)] (some ((.res 9), false))
    (.q 14 (.icm .gtr) [(.res 11), (.res 13)] (some ((.res 9), false))
    (.q 15 .pick [(.res 9), (.const (.bool true)), (.res 14)] none
    (.out [(0, (.slot 0)), (1, (.slot 1)), (2, (.slot 2)), (26, (.res 15))])))))))))))))
    [0, 1, 2]
abbrev word_Get_r2 : NC := .reg
    (.out [(6, (.const (.int .u64 0))), (7, (.const (.int .i64 1)))])
    []
abbrev word_Get_r3 : NC := .reg
    (.q 1 .len [(.slot 0)] none
    (.q 3 (.iar .sub) [(.res 1), (.slot 1)] none
    (.q 5 (.icm .lss) [(.res 3), (.slot 2)] none
    (.out [(0, (.slot 0)), (1, (.slot 1)), (2, (.slot 2)), (32, (.res 5))]))))
    [0, 1, 2]
abbrev word_Get_r4 : NC := .reg
    (.out [(6, (.const (.int .u64 0))), (7, (.const (.int .i64 3)))])
    []
abbrev word_Get_r5 : NC := .reg
    (.out [(0, (.slot 0)), (1, (.slot 1)), (2, (.slot 2)), (8, (.const (.int .u64 0)))])
    [0, 1, 2]
abbrev word_Get_r6 : NC := .reg
    (.q 4 (.iar .add) [(.slot 1), (.slot 2)] none
    (.q 5 (.slc 1 true true) [(.slot 0), (.slot 1), (.res 4)] none
    (.q 6 .len [(.res 5)] none
    (.out [(8, (.slot 8)), (38, (.res 5)), (39, (.res 6)), (40, (.const (.int .i64 0)))]))))
    [0, 1, 2, 8]
abbrev word_Get_r7 : NC := .reg
    (.q 0 (.icm .lss) [(.slot 40), (.slot 39)] none
    (.out [(8, (.slot 8)), (38, (.slot 38)), (39, (.slot 39)), (40, (.slot 40)), (41, (.res 0))]))
    [8, 38, 39, 40]
abbrev word_Get_r8 : NC := .reg
    (.q 1 (.ixs 1) [(.slot 38), (.slot 40)] none
    (.q 2 .ld [(.res 1)] none
    (.out [(8, (.slot 8)), (9, (.slot 40)), (10, (.res 2)), (38, (.slot 38)), (39, (.slot 39)), (40, (.slot 40))])))
    [8, 38, 39, 40]
abbrev word_Get_r9 : NC := .reg
    (.q 2 (.conv .u64) [(.slot 10)] none
    (.q 4 (.iar .mul) [(.const (.int .i64 8)), (.slot 9)] none
    (.q 5 (.conv .u64) [(.res 4)] none
    (.q 6 (.ish .shl) [(.res 2), (.res 5)] none
    (.q 7 (.ibt .or) [(.slot 8), (.res 6)] none
    (.out [(8, (.res 7)), (38, (.slot 38)), (39, (.slot 39)), (40, (.slot 40))]))))))
    [8, 9, 10, 38, 39, 40]
abbrev word_Get_r10 : NC := .reg
    (.q 0 (.iar .add) [(.slot 40), (.const (.int .i64 1))] none
    (.out [(8, (.slot 8)), (38, (.slot 38)), (39, (.slot 39)), (40, (.res 0))]))
    [8, 38, 39, 40]
abbrev word_Get_l0 : NC :=
  (.seq word_Get_r7
  (.seq (.cond (.slot 41)
    .skip
    (.exit 0))
  (.seq (.block 1 (.seq word_Get_r8
  word_Get_r9))
  word_Get_r10)))
abbrev word_Get_r11 : NC := .reg
    (.out [(6, (.slot 8)), (7, (.const (.int .i64 0)))])
    [8]
abbrev word_Get_c : NC :=
  (.seq word_Get_r0
  (.seq (.seq word_Get_r1
  (.cond (.slot 26)
    (.seq word_Get_r2
    .ret)
    .skip))
  (.seq (.seq word_Get_r3
  (.cond (.slot 32)
    (.seq word_Get_r4
    .ret)
    .skip))
  (.seq word_Get_r5
  (.seq (.seq word_Get_r6
  (.block 0 (.loop [8, 38, 39, 40] word_Get_l0)))
  (.seq word_Get_r11
  .ret))))))
abbrev word_Get_F : FN := ⟨word_Get_c, [.slot 6, .slot 7]⟩
theorem word_Get_ok : compF Tryz.prog Tryz.f110 = some word_Get_F := by kernel_rfl
theorem word_Get_go {args : List Value} {m : Mem} {R : Value → Mem → Prop} (hn : args.length ≤ Tryz.f110.ntmps) (h : wpN Tryz.prog word_Get_c (retP word_Get_F.rvs R) (zipP 0 args) m) : MC Tryz.prog 110 args m R := MC_start Tryz.func110 word_Get_ok mixed_ok hn h
-- NOT (*concord/pack.Reader).Fail: no body
end Go.Fw
