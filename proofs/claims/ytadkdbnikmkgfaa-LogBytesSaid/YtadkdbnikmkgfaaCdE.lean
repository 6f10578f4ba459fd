import Derived.Test.YtadkdbnikmkgfaaCdNames
namespace Go.Fw
open Go.Proofs
/-! concord/pack.Read -/
abbrev pack_Read_r0 : NC := .reg
    (.out [(0, (.slot 0))])
    [0]
abbrev pack_Read_r1 : NC := .reg
    (.x 1 (.call 64) [(.slot 0), (.const (.int .i64 0))] none []
    (.q 2 (.bld [(.slice none 0 0), (.int .i64 0), (.int .i64 0)] [(0, 1)]) [(.res 1)] none
    (.x 3 (.box 100) [(.res 2)] none []
    (.out [(2, (.res 3))]))))
    [0]
abbrev pack_Read_c : NC :=
  (.seq pack_Read_r0
  (.seq pack_Read_r1
  .ret))
abbrev pack_Read_F : FN := ⟨pack_Read_c, [.slot 2]⟩
theorem pack_Read_ok : compF Try.prog Try.f43 = some pack_Read_F := by kernel_rfl
theorem pack_Read_go {args : List Value} {m : Mem} {R : Value → Mem → Prop} (hn : args.length ≤ Try.f43.ntmps) (h : wpN Try.prog pack_Read_c (retP pack_Read_F.rvs R) (zipP 0 args) m) : MC Try.prog 43 args m R := MC_start Try.func43 pack_Read_ok mixed_ok hn h
/-! (*concord/pack.Reader).Num -/
abbrev pack_Reader_Num_r0 : NC := .reg
    (.out [(0, (.slot 0))])
    [0]
abbrev pack_Reader_Num_r1 : NC := .reg
    (.q 1 .nilck [(.slot 0)] none
    (.q 2 (.fld 2) [(.res 1)] none
    (.q 3 .ld [(.res 2)] none
    (.q 4 (.icm .neq) [(.res 3), (.const (.int .i64 0))] none
    (.out [(0, (.slot 0)), (11, (.res 4))])))))
    [0]
abbrev pack_Reader_Num_r2 : NC := .reg
    (.out [(2, (.const (.int .i64 0)))])
    []
abbrev pack_Reader_Num_r3 : NC := .reg
    (.q 1 .nilck [(.slot 0)] none
    (.q 2 (.fld 1) [(.res 1)] none
    (.q 3 .ld [(.res 2)] none
    (.out [(0, (.slot 0)), (3, (.res 3)), (4, (.const (.int .u64 0)))]))))
    [0]
abbrev pack_Reader_Num_r4 : NC := .reg
    (.out [(0, (.slot 0)), (3, (.slot 3)), (4, (.slot 4)), (5, (.const (.int .i64 0)))])
    [0, 3, 4]
abbrev pack_Reader_Num_r5 : NC := .reg
    (.q 1 .nilck [(.slot 0)] none
    (.q 2 (.fld 1) [(.res 1)] none
    (.q 3 .ld [(.res 2)] none
    (.q 5 .nilck [(.slot 0)] none
    (.q 6 (.fld 0) [(.res 5)] none
    (.q 7 .ld [(.res 6)] none
    (.q 8 .len [(.res 7)] none
    (.q 9 (.icm .eql) [(.res 3), (.res 8)] none
    (.out [(0, (.slot 0)), (3, (.slot 3)), (4, (.slot 4)), (5, (.slot 5)), (27, (.res 9))])))))))))
    [0, 3, 4, 5]
abbrev pack_Reader_Num_r6 : NC := .reg
    (.x 2 (.call 65) [(.slot 0), (.slot 3), (.const (.int .i64 3))] none []
    (.out []))
    [0, 3]
abbrev pack_Reader_Num_r7 : NC := .reg
    (.out [(2, (.const (.int .i64 0)))])
    []
abbrev pack_Reader_Num_r8 : NC := .reg
    (.q 1 .nilck [(.slot 0)] none
    (.q 2 (.fld 0) [(.res 1)] none
    (.q 3 .ld [(.res 2)] none
    (.q 5 .nilck [(.slot 0)] none
    (.q 6 (.fld 1) [(.res 5)] none
    (.q 7 .ld [(.res 6)] none
    (.q 8 (.ixs 1) [(.res 3), (.res 7)] none
    (.q 9 .ld [(.res 8)] none
    (.out [(0, (.slot 0)), (3, (.slot 3)), (4, (.slot 4)), (5, (.slot 5)), (6, (.res 9))])))))))))
    [0, 3, 4, 5]
abbrev pack_Reader_Num_r9 : NC := .reg
    (.q 1 (.icm .gtr) [(.slot 5), (.const (.int .i64 0))] none
    (.q 3 .mv [(.slot 6)] (some ((.res 1), true))
    (.q 4 (.icm .eql) [(.res 3), (.const (.int .u8 0))] (some ((.res 1), true))
    (.q 5 .pick [(.res 1), (.res 4), (.const (.bool false))] none
    (.q 7 .mv [(.slot 5)] (some ((.res 5), false))
    (.q 8 (.icm .eql) [(.res 7), (.const (.int .i64 9))] (some ((.res 5), false))
    (.q 9 .mv [(.res 8)] (some ((.res 5), false))
    (.q 10 .mv [(.slot 6)] (some ((.res 9), true))
    (.q 11 (.icm .gtr) [(.res 10), (.const (.int .u8 1))] (some ((.res 9), true))
    (.q 12 .pick [(.res 9), (.res 11), (.const (.bool false))] (some ((.res 5), false))
    (.q 13 .pick [(.res 5), (.const (.bool true)), (.res 12)] none
    (.out [(0, (.slot 0)), (3, (.slot 3)), (4, (.slot 4)), (5, (.slot 5)), (6, (.slot 6)), (54, (.res 13))]))))))))))))
    [0, 3, 4, 5, 6]
abbrev pack_Reader_Num_r10 : NC := .reg
    (.x 2 (.call 65) [(.slot 0), (.slot 3), (.const (.int .i64 4))] none []
    (.out []))
    [0, 3]
abbrev pack_Reader_Num_r11 : NC := .reg
    (.out [(2, (.const (.int .i64 0)))])
    []
abbrev pack_Reader_Num_r12 : NC := .reg
    (.q 1 .nilck [(.slot 0)] none
    (.q 2 (.fld 1) [(.res 1)] none
    (.q 3 .ld [(.res 2)] none
    (.q 4 (.iar .add) [(.res 3), (.const (.int .i64 1))] none
    (.q 5 .nilck [(.slot 0)] none
    (.q 6 (.fld 1) [(.res 5)] none
    (.x 7 (.st 1) [(.res 6), (.res 4)] none []
    (.out [(0, (.slot 0)), (3, (.slot 3)), (4, (.slot 4)), (5, (.slot 5)), (6, (.slot 6))]))))))))
    [0, 3, 4, 5, 6]
abbrev pack_Reader_Num_r13 : NC := .reg
    (.q 2 (.ibt .and) [(.slot 6), (.const (.int .u8 127))] none
    (.q 3 (.conv .u64) [(.res 2)] none
    (.q 5 (.iar .mul) [(.const (.int .i64 7)), (.slot 5)] none
    (.q 6 (.conv .u64) [(.res 5)] none
    (.q 7 (.ish .shl) [(.res 3), (.res 6)] none
    (.q 8 (.ibt .or) [(.slot 4), (.res 7)] none
    (.out [(0, (.slot 0)), (3, (.slot 3)), (4, (.res 8)), (5, (.slot 5)), (6, (.slot 6))])))))))
    [0, 3, 4, 5, 6]
abbrev pack_Reader_Num_r14 : NC := .reg
    (.q 1 (.icm .lss) [(.slot 6), (.const (.int .u8 128))] none
    (.out [(0, (.slot 0)), (3, (.slot 3)), (4, (.slot 4)), (5, (.slot 5)), (75, (.res 1))]))
    [0, 3, 4, 5, 6]
abbrev pack_Reader_Num_r15 : NC := .reg
    (.x 1 (.call 66) [(.slot 4)] none []
    (.out [(2, (.res 1))]))
    [4]
abbrev pack_Reader_Num_r16 : NC := .reg
    (.q 1 (.iar .add) [(.slot 5), (.const (.int .i64 1))] none
    (.out [(0, (.slot 0)), (3, (.slot 3)), (4, (.slot 4)), (5, (.res 1))]))
    [0, 3, 4, 5]
abbrev pack_Reader_Num_l0 : NC :=
  (.seq (.block 1 (.seq (.seq pack_Reader_Num_r5
  (.cond (.slot 27)
    (.seq pack_Reader_Num_r6
    (.seq pack_Reader_Num_r7
    .ret))
    .skip))
  (.seq pack_Reader_Num_r8
  (.seq (.seq pack_Reader_Num_r9
  (.cond (.slot 54)
    (.seq pack_Reader_Num_r10
    (.seq pack_Reader_Num_r11
    .ret))
    .skip))
  (.seq pack_Reader_Num_r12
  (.seq pack_Reader_Num_r13
  (.seq pack_Reader_Num_r14
  (.cond (.slot 75)
    (.seq pack_Reader_Num_r15
    .ret)
    .skip))))))))
  pack_Reader_Num_r16)
abbrev pack_Reader_Num_c : NC :=
  (.seq pack_Reader_Num_r0
  (.seq (.seq pack_Reader_Num_r1
  (.cond (.slot 11)
    (.seq pack_Reader_Num_r2
    .ret)
    .skip))
  (.seq pack_Reader_Num_r3
  (.seq pack_Reader_Num_r4
  (.block 0 (.loop [0, 3, 4, 5] pack_Reader_Num_l0))))))
abbrev pack_Reader_Num_F : FN := ⟨pack_Reader_Num_c, [.slot 2]⟩
theorem pack_Reader_Num_ok : compF Try.prog Try.f44 = some pack_Reader_Num_F := by kernel_rfl
theorem pack_Reader_Num_go {args : List Value} {m : Mem} {R : Value → Mem → Prop} (hn : args.length ≤ Try.f44.ntmps) (h : wpN Try.prog pack_Reader_Num_c (retP pack_Reader_Num_F.rvs R) (zipP 0 args) m) : MC Try.prog 44 args m R := MC_start Try.func44 pack_Reader_Num_ok mixed_ok hn h
/-! (*concord/pack.Reader).End -/
abbrev pack_Reader_End_r0 : NC := .reg
    (.out [(0, (.slot 0))])
    [0]
abbrev pack_Reader_End_r1 : NC := .reg
    (.q 1 .nilck [(.slot 0)] none
    (.q 2 (.fld 2) [(.res 1)] none
    (.q 3 .ld [(.res 2)] none
    (.q 4 (.icm .eql) [(.res 3), (.const (.int .i64 0))] none
    (.q 6 .mv [(.slot 0)] (some ((.res 4), true))
    (.q 7 .nilck [(.res 6)] (some ((.res 4), true))
    (.q 8 (.fld 1) [(.res 7)] (some ((.res 4), true))
    (.q 9 .ld [(.res 8)] (some ((.res 4), true))
    (.q 10 .mv [(.slot 0)] (some ((.res 4), true))
    (.q 11 .nilck [(.res 10)] (some ((.res 4), true))
    (.q 12 (.fld 0) [(.res 11)] (some ((.res 4), true))
    (.q 13 .ld [(.res 12)] (some ((.res 4), true))
    (.q 14 .len [(.res 13)] (some ((.res 4), true))
    (.q 15 (.icm .lss) [(.res 9), (.res 14)] (some ((.res 4), true))
    (.q 16 .pick [(.res 4), (.res 15), (.const (.bool false))] none
    (.out [(0, (.slot 0)), (19, (.res 16))]))))))))))))))))
    [0]
abbrev pack_Reader_End_r2 : NC := .reg
    (.q 1 .nilck [(.slot 0)] none
    (.q 2 (.fld 2) [(.res 1)] none
    (.x 3 (.st 1) [(.res 2), (.const (.int .i64 5))] none []
    (.out [(0, (.slot 0))]))))
    [0]
abbrev pack_Reader_End_r3 : NC := .reg
    (.q 1 .nilck [(.slot 0)] none
    (.q 2 (.fld 2) [(.res 1)] none
    (.q 3 .ld [(.res 2)] none
    (.out [(2, (.res 3))]))))
    [0]
abbrev pack_Reader_End_c : NC :=
  (.seq pack_Reader_End_r0
  (.seq (.seq pack_Reader_End_r1
  (.cond (.slot 19)
    pack_Reader_End_r2
    .skip))
  (.seq pack_Reader_End_r3
  .ret)))
abbrev pack_Reader_End_F : FN := ⟨pack_Reader_End_c, [.slot 2]⟩
theorem pack_Reader_End_ok : compF Try.prog Try.f46 = some pack_Reader_End_F := by kernel_rfl
theorem pack_Reader_End_go {args : List Value} {m : Mem} {R : Value → Mem → Prop} (hn : args.length ≤ Try.f46.ntmps) (h : wpN Try.prog pack_Reader_End_c (retP pack_Reader_End_F.rvs R) (zipP 0 args) m) : MC Try.prog 46 args m R := MC_start Try.func46 pack_Reader_End_ok mixed_ok hn h
/-! concord/pack.Num -/
abbrev pack_Num_r0 : NC := .reg
    (.out [(0, (.slot 0)), (1, (.slot 1))])
    [0, 1]
abbrev pack_Num_r1 : NC := .reg
    (.x 1 (.call 64) [(.slot 0), (.const (.int .i64 10))] none []
    (.x 3 (.call 84) [(.res 1), (.slot 1)] none []
    (.out [(4, (.res 3))])))
    [0, 1]
abbrev pack_Num_c : NC :=
  (.seq pack_Num_r0
  (.seq pack_Num_r1
  .ret))
abbrev pack_Num_F : FN := ⟨pack_Num_c, [.slot 4]⟩
theorem pack_Num_ok : compF Try.prog Try.f55 = some pack_Num_F := by kernel_rfl
theorem pack_Num_go {args : List Value} {m : Mem} {R : Value → Mem → Prop} (hn : args.length ≤ Try.f55.ntmps) (h : wpN Try.prog pack_Num_c (retP pack_Num_F.rvs R) (zipP 0 args) m) : MC Try.prog 55 args m R := MC_start Try.func55 pack_Num_ok mixed_ok hn h
/-! concord/pack.grown -/
abbrev pack_grown_r0 : NC := .reg
    (.out [(0, (.slot 0)), (1, (.slot 1))])
    [0, 1]
abbrev pack_grown_r1 : NC := .reg
    (.q 1 .len [(.slot 0)] none
    (.q 3 (.iar .add) [(.res 1), (.slot 1)] none
    (.x 4 (.mks 5 1 [(.int .u8 0)]) [(.const (.int .i64 0)), (.res 3)] none []
    (.x 6 (.app 5 1 1 [(.int .u8 0)]) [(.res 4), (.slot 0)] none []
    (.out [(4, (.res 6))])))))
    [0, 1]
abbrev pack_grown_c : NC :=
  (.seq pack_grown_r0
  (.seq pack_grown_r1
  .ret))
abbrev pack_grown_F : FN := ⟨pack_grown_c, [.slot 4]⟩
theorem pack_grown_ok : compF Try.prog Try.f64 = some pack_grown_F := by kernel_rfl
theorem pack_grown_go {args : List Value} {m : Mem} {R : Value → Mem → Prop} (hn : args.length ≤ Try.f64.ntmps) (h : wpN Try.prog pack_grown_c (retP pack_grown_F.rvs R) (zipP 0 args) m) : MC Try.prog 64 args m R := MC_start Try.func64 pack_grown_ok mixed_ok hn h
/-! (*concord/pack.Reader).fail -/
abbrev pack_Reader_fail_r0 : NC := .reg
    (.q 4 .nilck [(.slot 0)] none
    (.q 5 (.fld 1) [(.res 4)] none
    (.x 6 (.st 1) [(.res 5), (.slot 1)] none []
    (.q 7 .nilck [(.slot 0)] none
    (.q 8 (.fld 2) [(.res 7)] none
    (.x 9 (.st 1) [(.res 8), (.slot 2)] none []
    (.out [])))))))
    [0, 1, 2]
abbrev pack_Reader_fail_c : NC :=
  pack_Reader_fail_r0
abbrev pack_Reader_fail_F : FN := ⟨pack_Reader_fail_c, []⟩
theorem pack_Reader_fail_ok : compF Try.prog Try.f65 = some pack_Reader_fail_F := by kernel_rfl
theorem pack_Reader_fail_go {args : List Value} {m : Mem} {R : Value → Mem → Prop} (hn : args.length ≤ Try.f65.ntmps) (h : wpN Try.prog pack_Reader_fail_c (retP pack_Reader_fail_F.rvs R) (zipP 0 args) m) : MC Try.prog 65 args m R := MC_start Try.func65 pack_Reader_fail_ok mixed_ok hn h
/-! concord/word.Zag -/
abbrev word_Zag_r0 : NC := .reg
    (.out [(0, (.slot 0))])
    [0]
abbrev word_Zag_r1 : NC := .reg
    (.q 1 (.ish .shr) [(.slot 0), (.const (.int .u64 1))] none
    (.q 2 (.conv .i64) [(.res 1)] none
    (.q 4 (.ibt .and) [(.slot 0), (.const (.int .u64 1))] none
    (.q 5 (.conv .i64) [(.res 4)] none
    (.q 6 .neg [(.res 5)] none
    (.q 7 (.ibt .xor) [(.res 2), (.res 6)] none
    (.out [(2, (.res 7))])))))))
    [0]
abbrev word_Zag_c : NC :=
  (.seq word_Zag_r0
  (.seq word_Zag_r1
  .ret))
abbrev word_Zag_F : FN := ⟨word_Zag_c, [.slot 2]⟩
theorem word_Zag_ok : compF Try.prog Try.f66 = some word_Zag_F := by kernel_rfl
theorem word_Zag_go {args : List Value} {m : Mem} {R : Value → Mem → Prop} (hn : args.length ≤ Try.f66.ntmps) (h : wpN Try.prog word_Zag_c (retP word_Zag_F.rvs R) (zipP 0 args) m) : MC Try.prog 66 args m R := MC_start Try.func66 word_Zag_ok mixed_ok hn h
/-! (*concord/pack.Reader).Flag -/
abbrev pack_Reader_Flag_r0 : NC := .reg
    (.out [(0, (.slot 0))])
    [0]
abbrev pack_Reader_Flag_r1 : NC := .reg
    (.q 1 .nilck [(.slot 0)] none
    (.q 2 (.fld 2) [(.res 1)] none
    (.q 3 .ld [(.res 2)] none
    (.q 4 (.icm .neq) [(.res 3), (.const (.int .i64 0))] none
    (.out [(0, (.slot 0)), (8, (.res 4))])))))
    [0]
abbrev pack_Reader_Flag_r2 : NC := .reg
    (.out [(2, (.const (.bool false)))])
    []
abbrev pack_Reader_Flag_r3 : NC := .reg
    (.q 1 .nilck [(.slot 0)] none
    (.q 2 (.fld 1) [(.res 1)] none
    (.q 3 .ld [(.res 2)] none
    (.q 5 .nilck [(.slot 0)] none
    (.q 6 (.fld 0) [(.res 5)] none
    (.q 7 .ld [(.res 6)] none
    (.q 8 .len [(.res 7)] none
    (.q 9 (.icm .eql) [(.res 3), (.res 8)] none
    (.out [(0, (.slot 0)), (18, (.res 9))])))))))))
    [0]
abbrev pack_Reader_Flag_r4 : NC := .reg
    (.q 2 .nilck [(.slot 0)] none
    (.q 3 (.fld 1) [(.res 2)] none
    (.q 4 .ld [(.res 3)] none
    (.x 5 (.call 65) [(.slot 0), (.res 4), (.const (.int .i64 3))] none []
    (.out [])))))
    [0]
abbrev pack_Reader_Flag_r5 : NC := .reg
    (.out [(2, (.const (.bool false)))])
    []
abbrev pack_Reader_Flag_r6 : NC := .reg
    (.q 1 .nilck [(.slot 0)] none
    (.q 2 (.fld 0) [(.res 1)] none
    (.q 3 .ld [(.res 2)] none
    (.q 5 .nilck [(.slot 0)] none
    (.q 6 (.fld 1) [(.res 5)] none
    (.q 7 .ld [(.res 6)] none
    (.q 8 (.ixs 1) [(.res 3), (.res 7)] none
    (.q 9 .ld [(.res 8)] none
    (.out [(0, (.slot 0)), (3, (.res 9))])))))))))
    [0]
abbrev pack_Reader_Flag_r7 : NC := .reg
    (.q 1 (.icm .gtr) [(.slot 3), (.const (.int .u8 1))] none
    (.out [(0, (.slot 0)), (3, (.slot 3)), (36, (.res 1))]))
    [0, 3]
abbrev pack_Reader_Flag_r8 : NC := .reg
    (.q 2 .nilck [(.slot 0)] none
    (.q 3 (.fld 1) [(.res 2)] none
    (.q 4 .ld [(.res 3)] none
    (.x 5 (.call 65) [(.slot 0), (.res 4), (.const (.int .i64 4))] none []
    (.out [])))))
    [0]
abbrev pack_Reader_Flag_r9 : NC := .reg
    (.out [(2, (.const (.bool false)))])
    []
abbrev pack_Reader_Flag_r10 : NC := .reg
    (.q 1 .nilck [(.slot 0)] none
    (.q 2 (.fld 1) [(.res 1)] none
    (.q 3 .ld [(.res 2)] none
    (.q 4 (.iar .add) [(.res 3), (.const (.int .i64 1))] none
    (.q 5 .nilck [(.slot 0)] none
    (.q 6 (.fld 1) [(.res 5)] none
    (.x 7 (.st 1) [(.res 6), (.res 4)] none []
    (.out [(3, (.slot 3))]))))))))
    [0, 3]
abbrev pack_Reader_Flag_r11 : NC := .reg
    (.q 1 (.icm .eql) [(.slot 3), (.const (.int .u8 1))] none
    (.out [(2, (.res 1))]))
    [3]
abbrev pack_Reader_Flag_c : NC :=
  (.seq pack_Reader_Flag_r0
  (.seq (.seq pack_Reader_Flag_r1
  (.cond (.slot 8)
    (.seq pack_Reader_Flag_r2
    .ret)
    .skip))
  (.seq (.seq pack_Reader_Flag_r3
  (.cond (.slot 18)
    (.seq pack_Reader_Flag_r4
    (.seq pack_Reader_Flag_r5
    .ret))
    .skip))
  (.seq pack_Reader_Flag_r6
  (.seq (.seq pack_Reader_Flag_r7
  (.cond (.slot 36)
    (.seq pack_Reader_Flag_r8
    (.seq pack_Reader_Flag_r9
    .ret))
    .skip))
  (.seq pack_Reader_Flag_r10
  (.seq pack_Reader_Flag_r11
  .ret)))))))
abbrev pack_Reader_Flag_F : FN := ⟨pack_Reader_Flag_c, [.slot 2]⟩
theorem pack_Reader_Flag_ok : compF Try.prog Try.f70 = some pack_Reader_Flag_F := by kernel_rfl
theorem pack_Reader_Flag_go {args : List Value} {m : Mem} {R : Value → Mem → Prop} (hn : args.length ≤ Try.f70.ntmps) (h : wpN Try.prog pack_Reader_Flag_c (retP pack_Reader_Flag_F.rvs R) (zipP 0 args) m) : MC Try.prog 70 args m R := MC_start Try.func70 pack_Reader_Flag_ok mixed_ok hn h
/-! (*concord/pack.Reader).Wrong -/
abbrev pack_Reader_Wrong_r0 : NC := .reg
    (.out [(0, (.slot 0))])
    [0]
abbrev pack_Reader_Wrong_r1 : NC := .reg
    (.q 1 .nilck [(.slot 0)] none
    (.q 2 (.fld 2) [(.res 1)] none
    (.q 3 .ld [(.res 2)] none
    (.out [(2, (.res 3))]))))
    [0]
abbrev pack_Reader_Wrong_c : NC :=
  (.seq pack_Reader_Wrong_r0
  (.seq pack_Reader_Wrong_r1
  .ret))
abbrev pack_Reader_Wrong_F : FN := ⟨pack_Reader_Wrong_c, [.slot 2]⟩
theorem pack_Reader_Wrong_ok : compF Try.prog Try.f71 = some pack_Reader_Wrong_F := by kernel_rfl
theorem pack_Reader_Wrong_go {args : List Value} {m : Mem} {R : Value → Mem → Prop} (hn : args.length ≤ Try.f71.ntmps) (h : wpN Try.prog pack_Reader_Wrong_c (retP pack_Reader_Wrong_F.rvs R) (zipP 0 args) m) : MC Try.prog 71 args m R := MC_start Try.func71 pack_Reader_Wrong_ok mixed_ok hn h
/-! (*concord/pack.Reader).Fail -/
abbrev pack_Reader_Fail_r0 : NC := .reg
    (.q 1 .nilck [(.slot 0)] none
    (.q 2 (.fld 2) [(.res 1)] none
    (.q 3 .ld [(.res 2)] none
    (.q 4 (.icm .eql) [(.res 3), (.const (.int .i64 0))] none
    (.out [(0, (.slot 0)), (6, (.res 4))])))))
    [0]
abbrev pack_Reader_Fail_r1 : NC := .reg
    (.q 1 .nilck [(.slot 0)] none
    (.q 2 (.fld 2) [(.res 1)] none
    (.x 3 (.st 1) [(.res 2), (.const (.int .i64 4))] none []
    (.out []))))
    [0]
abbrev pack_Reader_Fail_c : NC :=
  (.seq pack_Reader_Fail_r0
  (.cond (.slot 6)
    pack_Reader_Fail_r1
    .skip))
abbrev pack_Reader_Fail_F : FN := ⟨pack_Reader_Fail_c, []⟩
theorem pack_Reader_Fail_ok : compF Try.prog Try.f72 = some pack_Reader_Fail_F := by kernel_rfl
theorem pack_Reader_Fail_go {args : List Value} {m : Mem} {R : Value → Mem → Prop} (hn : args.length ≤ Try.f72.ntmps) (h : wpN Try.prog pack_Reader_Fail_c (retP pack_Reader_Fail_F.rvs R) (zipP 0 args) m) : MC Try.prog 72 args m R := MC_start Try.func72 pack_Reader_Fail_ok mixed_ok hn h
/-! concord/pack.Flag -/
abbrev pack_Flag_r0 : NC := .reg
    (.out [(0, (.slot 0)), (1, (.slot 1))])
    [0, 1]
abbrev pack_Flag_r1 : NC := .reg
    (.out [(0, (.slot 0)), (5, (.slot 1))])
    [0, 1]
abbrev pack_Flag_r2 : NC := .reg
    (.x 1 (.call 64) [(.slot 0), (.const (.int .i64 1))] none []
    (.x 2 (.bsl 5 1 [(.int .u8 0)] [(0, 1)]) [(.const (.int .u8 1))] none []
    (.x 3 (.app 5 1 1 [(.int .u8 0)]) [(.res 1), (.res 2)] none []
    (.out [(4, (.res 3))]))))
    [0]
abbrev pack_Flag_r3 : NC := .reg
    (.x 1 (.call 64) [(.slot 0), (.const (.int .i64 1))] none []
    (.x 2 (.bsl 5 1 [(.int .u8 0)] [(0, 1)]) [(.const (.int .u8 0))] none []
    (.x 3 (.app 5 1 1 [(.int .u8 0)]) [(.res 1), (.res 2)] none []
    (.out [(4, (.res 3))]))))
    [0]
abbrev pack_Flag_c : NC :=
  (.seq pack_Flag_r0
  (.seq (.seq pack_Flag_r1
  (.cond (.slot 5)
    (.seq pack_Flag_r2
    .ret)
    .skip))
  (.seq pack_Flag_r3
  .ret)))
abbrev pack_Flag_F : FN := ⟨pack_Flag_c, [.slot 4]⟩
theorem pack_Flag_ok : compF Try.prog Try.f82 = some pack_Flag_F := by kernel_rfl
theorem pack_Flag_go {args : List Value} {m : Mem} {R : Value → Mem → Prop} (hn : args.length ≤ Try.f82.ntmps) (h : wpN Try.prog pack_Flag_c (retP pack_Flag_F.rvs R) (zipP 0 args) m) : MC Try.prog 82 args m R := MC_start Try.func82 pack_Flag_ok mixed_ok hn h
/-! concord/pack.num -/
abbrev pack_num_r0 : NC := .reg
    (.out [(0, (.slot 0)), (1, (.slot 1))])
    [0, 1]
abbrev pack_num_r1 : NC := .reg
    (.x 1 (.call 106) [(.slot 1)] none []
    (.out [(0, (.slot 0)), (5, (.res 1))]))
    [0, 1]
abbrev pack_num_r2 : NC := .reg
    (.q 1 (.icm .geq) [(.slot 5), (.const (.int .u64 128))] none
    (.out [(0, (.slot 0)), (5, (.slot 5)), (9, (.res 1))]))
    [0, 5]
abbrev pack_num_r3 : NC := .reg
    (.q 2 (.conv .u8) [(.slot 5)] none
    (.q 3 (.ibt .or) [(.res 2), (.const (.int .u8 128))] none
    (.x 4 (.bsl 5 1 [(.int .u8 0)] [(0, 1)]) [(.res 3)] none []
    (.x 5 (.app 5 1 1 [(.int .u8 0)]) [(.slot 0), (.res 4)] none []
    (.out [(0, (.res 5)), (5, (.slot 5))])))))
    [0, 5]
abbrev pack_num_r4 : NC := .reg
    (.q 1 (.ish .shr) [(.slot 5), (.const (.int .u64 7))] none
    (.out [(0, (.slot 0)), (5, (.res 1))]))
    [0, 5]
abbrev pack_num_l0 : NC :=
  (.seq (.seq pack_num_r2
  (.cond (.slot 9)
    .skip
    (.exit 0)))
  (.block 1 (.seq pack_num_r3
  pack_num_r4)))
abbrev pack_num_r5 : NC := .reg
    (.q 2 (.conv .u8) [(.slot 5)] none
    (.x 3 (.bsl 5 1 [(.int .u8 0)] [(0, 1)]) [(.res 2)] none []
    (.x 4 (.app 5 1 1 [(.int .u8 0)]) [(.slot 0), (.res 3)] none []
    (.out [(4, (.res 4))]))))
    [0, 5]
abbrev pack_num_c : NC :=
  (.seq pack_num_r0
  (.seq pack_num_r1
  (.seq (.block 0 (.loop [0, 5] pack_num_l0))
  (.seq pack_num_r5
  .ret))))
abbrev pack_num_F : FN := ⟨pack_num_c, [.slot 4]⟩
theorem pack_num_ok : compF Try.prog Try.f84 = some pack_num_F := by kernel_rfl
theorem pack_num_go {args : List Value} {m : Mem} {R : Value → Mem → Prop} (hn : args.length ≤ Try.f84.ntmps) (h : wpN Try.prog pack_num_c (retP pack_num_F.rvs R) (zipP 0 args) m) : MC Try.prog 84 args m R := MC_start Try.func84 pack_num_ok mixed_ok hn h
/-! (*concord/pack.Reader).Text -/
abbrev pack_Reader_Text_r0 : NC := .reg
    (.out [(0, (.slot 0)), (1, (.slot 1))])
    [0, 1]
abbrev pack_Reader_Text_r1 : NC := .reg
    (.q 1 .nilck [(.slot 0)] none
    (.q 2 (.fld 1) [(.res 1)] none
    (.q 3 .ld [(.res 2)] none
    (.out [(0, (.slot 0)), (1, (.slot 1)), (5, (.res 3))]))))
    [0, 1]
abbrev pack_Reader_Text_r2 : NC := .reg
    (.x 2 (.call 114) [(.slot 0), (.slot 1)] none []
    (.out [(0, (.slot 0)), (5, (.slot 5)), (6, (.res 2))]))
    [0, 1, 5]
abbrev pack_Reader_Text_r3 : NC := .reg
    (.q 1 .nilck [(.slot 0)] none
    (.q 2 (.fld 2) [(.res 1)] none
    (.q 3 .ld [(.res 2)] none
    (.q 4 (.icm .neq) [(.res 3), (.const (.int .i64 0))] none
    (.out [(0, (.slot 0)), (5, (.slot 5)), (6, (.slot 6)), (19, (.res 4))])))))
    [0, 5, 6]
abbrev pack_Reader_Text_r4 : NC := .reg
    (.out [(4, (.const (.string ⟨#[]⟩)))])
    []
abbrev pack_Reader_Text_r5 : NC := .reg
    (.q 2 .nilck [(.slot 0)] none
    (.q 3 (.fld 0) [(.res 2)] none
    (.q 4 .ld [(.res 3)] none
    (.q 5 .len [(.res 4)] none
    (.q 7 .nilck [(.slot 0)] none
    (.q 8 (.fld 1) [(.res 7)] none
    (.q 9 .ld [(.res 8)] none
    (.q 10 (.iar .sub) [(.res 5), (.res 9)] none
    (.q 11 (.icm .gtr) [(.slot 6), (.res 10)] none
    (.out [(0, (.slot 0)), (5, (.slot 5)), (6, (.slot 6)), (31, (.res 11))]))))))))))
    [0, 5, 6]
abbrev pack_Reader_Text_r6 : NC := .reg
    (.x 2 (.call 65) [(.slot 0), (.slot 5), (.const (.int .i64 3))] none []
    (.out []))
    [0, 5]
abbrev pack_Reader_Text_r7 : NC := .reg
    (.out [(4, (.const (.string ⟨#[]⟩)))])
    []
abbrev pack_Reader_Text_r8 : NC := .reg
    (.q 1 .nilck [(.slot 0)] none
    (.q 2 (.fld 0) [(.res 1)] none
    (.q 3 .ld [(.res 2)] none
    (.q 5 .nilck [(.slot 0)] none
    (.q 6 (.fld 1) [(.res 5)] none
    (.q 7 .ld [(.res 6)] none
    (.q 9 .nilck [(.slot 0)] none
    (.q 10 (.fld 1) [(.res 9)] none
    (.q 11 .ld [(.res 10)] none
    (.q 13 (.iar .add) [(.res 11), (.slot 6)] none
    (.q 14 (.slc 1 true true) [(.res 3), (.res 7), (.res 13)] none
    (.q 15 .b2s [(.res 14)] none
    (.out [(0, (.slot 0)), (6, (.slot 6)), (7, (.res 15))])))))))))))))
    [0, 6]
abbrev pack_Reader_Text_r9 : NC := .reg
    (.q 1 .nilck [(.slot 0)] none
    (.q 2 (.fld 1) [(.res 1)] none
    (.q 3 .ld [(.res 2)] none
    (.q 5 (.iar .add) [(.res 3), (.slot 6)] none
    (.q 6 .nilck [(.slot 0)] none
    (.q 7 (.fld 1) [(.res 6)] none
    (.x 8 (.st 1) [(.res 7), (.res 5)] none []
    (.out [(7, (.slot 7))]))))))))
    [0, 6, 7]
abbrev pack_Reader_Text_r10 : NC := .reg
    (.out [(4, (.slot 7))])
    [7]
abbrev pack_Reader_Text_c : NC :=
  (.seq pack_Reader_Text_r0
  (.seq pack_Reader_Text_r1
  (.seq pack_Reader_Text_r2
  (.seq (.seq pack_Reader_Text_r3
  (.cond (.slot 19)
    (.seq pack_Reader_Text_r4
    .ret)
    .skip))
  (.seq (.seq pack_Reader_Text_r5
  (.cond (.slot 31)
    (.seq pack_Reader_Text_r6
    (.seq pack_Reader_Text_r7
    .ret))
    .skip))
  (.seq pack_Reader_Text_r8
  (.seq pack_Reader_Text_r9
  (.seq pack_Reader_Text_r10
  .ret))))))))
abbrev pack_Reader_Text_F : FN := ⟨pack_Reader_Text_c, [.slot 4]⟩
theorem pack_Reader_Text_ok : compF Try.prog Try.f102 = some pack_Reader_Text_F := by kernel_rfl
theorem pack_Reader_Text_go {args : List Value} {m : Mem} {R : Value → Mem → Prop} (hn : args.length ≤ Try.f102.ntmps) (h : wpN Try.prog pack_Reader_Text_c (retP pack_Reader_Text_F.rvs R) (zipP 0 args) m) : MC Try.prog 102 args m R := MC_start Try.func102 pack_Reader_Text_ok mixed_ok hn h
/-! concord/pack.Text -/
abbrev pack_Text_r0 : NC := .reg
    (.out [(0, (.slot 0)), (1, (.slot 1))])
    [0, 1]
abbrev pack_Text_r1 : NC := .reg
    (.q 2 .lenz [(.slot 1)] none
    (.q 3 (.iar .add) [(.const (.int .i64 10)), (.res 2)] none
    (.x 4 (.call 64) [(.slot 0), (.res 3)] none []
    (.q 6 .lenz [(.slot 1)] none
    (.x 7 (.call 84) [(.res 4), (.res 6)] none []
    (.x 9 (.apps 5) [(.res 7), (.slot 1)] none []
    (.out [(4, (.res 9))])))))))
    [0, 1]
abbrev pack_Text_c : NC :=
  (.seq pack_Text_r0
  (.seq pack_Text_r1
  .ret))
abbrev pack_Text_F : FN := ⟨pack_Text_c, [.slot 4]⟩
theorem pack_Text_ok : compF Try.prog Try.f105 = some pack_Text_F := by kernel_rfl
theorem pack_Text_go {args : List Value} {m : Mem} {R : Value → Mem → Prop} (hn : args.length ≤ Try.f105.ntmps) (h : wpN Try.prog pack_Text_c (retP pack_Text_F.rvs R) (zipP 0 args) m) : MC Try.prog 105 args m R := MC_start Try.func105 pack_Text_ok mixed_ok hn h
/-! concord/word.Zig -/
abbrev word_Zig_r0 : NC := .reg
    (.out [(0, (.slot 0))])
    [0]
abbrev word_Zig_r1 : NC := .reg
    (.q 1 (.conv .u64) [(.slot 0)] none
    (.q 2 (.ish .shl) [(.res 1), (.const (.int .u64 1))] none
    (.q 4 (.ish .shr) [(.slot 0), (.const (.int .u64 63))] none
    (.q 5 (.conv .u64) [(.res 4)] none
    (.q 6 (.ibt .xor) [(.res 2), (.res 5)] none
    (.out [(2, (.res 6))]))))))
    [0]
abbrev word_Zig_c : NC :=
  (.seq word_Zig_r0
  (.seq word_Zig_r1
  .ret))
abbrev word_Zig_F : FN := ⟨word_Zig_c, [.slot 2]⟩
theorem word_Zig_ok : compF Try.prog Try.f106 = some word_Zig_F := by kernel_rfl
theorem word_Zig_go {args : List Value} {m : Mem} {R : Value → Mem → Prop} (hn : args.length ≤ Try.f106.ntmps) (h : wpN Try.prog word_Zig_c (retP word_Zig_F.rvs R) (zipP 0 args) m) : MC Try.prog 106 args m R := MC_start Try.func106 word_Zig_ok mixed_ok hn h
/-! (*concord/pack.Reader).Count -/
abbrev pack_Reader_Count_r0 : NC := .reg
    (.out [(0, (.slot 0)), (1, (.slot 1))])
    [0, 1]
abbrev pack_Reader_Count_r1 : NC := .reg
    (.q 1 .nilck [(.slot 0)] none
    (.q 2 (.fld 1) [(.res 1)] none
    (.q 3 .ld [(.res 2)] none
    (.out [(0, (.slot 0)), (1, (.slot 1)), (5, (.res 3))]))))
    [0, 1]
abbrev pack_Reader_Count_r2 : NC := .reg
    (.x 1 (.call 44) [(.slot 0)] none []
    (.out [(0, (.slot 0)), (1, (.slot 1)), (5, (.slot 5)), (6, (.res 1))]))
    [0, 1, 5]
abbrev pack_Reader_Count_r3 : NC := .reg
    (.q 1 .nilck [(.slot 0)] none
    (.q 2 (.fld 2) [(.res 1)] none
    (.q 3 .ld [(.res 2)] none
    (.q 4 (.icm .eql) [(.res 3), (.const (.int .i64 0))] none
    (.q 6 .mv [(.slot 6)] (some ((.res 4), true))
    (.q 7 (.icm .lss) [(.res 6), (.const (.int .i64 0))] (some ((.res 4), true))
    (.q 8 .mv [(.res 7)] (some ((.res 4), true))
    (.q 9 .mv [(.slot 6)] (some ((.res 8), false))
    (.q 10 .mv [(.slot 1)] (some ((.res 8), false))
    (.q 11 (.icm .gtr) [(.res 9), (.res 10)] (some ((.res 8), false))
    (.q 12 .pick [(.res 8), (.const (.bool true)), (.res 11)] (some ((.res 4), true))
    (.q 13 .pick [(.res 4), (.res 12), (.const (.bool false))] none
    (.out [(0, (.slot 0)), (5, (.slot 5)), (6, (.slot 6)), (26, (.res 13))])))))))))))))
    [0, 1, 5, 6]
abbrev pack_Reader_Count_r4 : NC := .reg
    (.x 2 (.call 65) [(.slot 0), (.slot 5), (.const (.int .i64 2))] none []
    (.out []))
    [0, 5]
abbrev pack_Reader_Count_r5 : NC := .reg
    (.out [(4, (.const (.int .i64 0)))])
    []
abbrev pack_Reader_Count_r6 : NC := .reg
    (.out [(4, (.slot 6))])
    [6]
abbrev pack_Reader_Count_c : NC :=
  (.seq pack_Reader_Count_r0
  (.seq pack_Reader_Count_r1
  (.seq pack_Reader_Count_r2
  (.seq (.seq pack_Reader_Count_r3
  (.cond (.slot 26)
    (.seq pack_Reader_Count_r4
    (.seq pack_Reader_Count_r5
    .ret))
    .skip))
  (.seq pack_Reader_Count_r6
  .ret)))))
abbrev pack_Reader_Count_F : FN := ⟨pack_Reader_Count_c, [.slot 4]⟩
theorem pack_Reader_Count_ok : compF Try.prog Try.f114 = some pack_Reader_Count_F := by kernel_rfl
theorem pack_Reader_Count_go {args : List Value} {m : Mem} {R : Value → Mem → Prop} (hn : args.length ≤ Try.f114.ntmps) (h : wpN Try.prog pack_Reader_Count_c (retP pack_Reader_Count_F.rvs R) (zipP 0 args) m) : MC Try.prog 114 args m R := MC_start Try.func114 pack_Reader_Count_ok mixed_ok hn h
end Go.Fw
