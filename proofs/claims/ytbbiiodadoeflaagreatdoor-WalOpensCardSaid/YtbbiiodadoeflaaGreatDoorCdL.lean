import Derived.Test.YtbbiiodadoeflaaGreatDoorCd
set_option linter.unusedVariables false
set_option linter.unusedSimpArgs false
namespace Go.Fw
open Go.Proofs
/-! slices.Insert[[]concord/disk.file,concord/disk.file] -/
abbrev slices_Insert_disk_file_disk_file_r0 : NC := .reg
    (.out [(0, (.slot 0)), (1, (.slot 1)), (2, (.slot 2))])
    [0, 1, 2]
abbrev slices_Insert_disk_file_disk_file_r1 : NC := .reg
    (.q 2 (.slc 3 true false) [(.slot 0), (.slot 1)] none
    (.out [(0, (.slot 0)), (1, (.slot 1)), (2, (.slot 2))]))
    [0, 1, 2]
abbrev slices_Insert_disk_file_disk_file_r2 : NC := .reg
    (.q 1 .len [(.slot 2)] none
    (.out [(0, (.slot 0)), (1, (.slot 1)), (2, (.slot 2)), (7, (.res 1))]))
    [0, 1, 2]
abbrev slices_Insert_disk_file_disk_file_r3 : NC := .reg
    (.q 1 (.icm .eql) [(.slot 7), (.const (.int .i64 0))] none
    (.out [(0, (.slot 0)), (1, (.slot 1)), (2, (.slot 2)), (7, (.slot 7)), (16, (.res 1))]))
    [0, 1, 2, 7]
abbrev slices_Insert_disk_file_disk_file_r4 : NC := .reg
    (.out [(6, (.slot 0))])
    [0]
abbrev slices_Insert_disk_file_disk_file_r5 : NC := .reg
    (.q 1 .len [(.slot 0)] none
    (.out [(0, (.slot 0)), (1, (.slot 1)), (2, (.slot 2)), (7, (.slot 7)), (8, (.res 1))]))
    [0, 1, 2, 7]
abbrev slices_Insert_disk_file_disk_file_r6 : NC := .reg
    (.q 2 (.icm .eql) [(.slot 1), (.slot 8)] none
    (.out [(0, (.slot 0)), (1, (.slot 1)), (2, (.slot 2)), (7, (.slot 7)), (8, (.slot 8)), (22, (.res 2))]))
    [0, 1, 2, 7, 8]
abbrev slices_Insert_disk_file_disk_file_r7 : NC := .reg
    (.x 2 (.app 87 3 48 [(.string ⟨#[]⟩), (.slice none 0 0), (.int .i64 0)]) [(.slot 0), (.slot 2)] none []
    (.out [(6, (.res 2))]))
    [0, 2]
abbrev slices_Insert_disk_file_disk_file_r8 : NC := .reg
    (.q 2 (.iar .add) [(.slot 8), (.slot 7)] none
    (.q 4 .cap [(.slot 0)] none
    (.q 5 (.icm .gtr) [(.res 2), (.res 4)] none
    (.out [(0, (.slot 0)), (1, (.slot 1)), (2, (.slot 2)), (7, (.slot 7)), (8, (.slot 8)), (31, (.res 5))]))))
    [0, 1, 2, 7, 8]
abbrev slices_Insert_disk_file_disk_file_r9 : NC := .reg
    (.q 2 (.slc 3 false true) [(.slot 0), (.slot 1)] none
    (.q 5 (.iar .add) [(.slot 8), (.slot 7)] none
    (.q 7 (.iar .sub) [(.res 5), (.slot 1)] none
    (.x 8 (.appn 87 3 48 [(.string ⟨#[]⟩), (.slice none 0 0), (.int .i64 0)]) [(.res 2), (.res 7)] none []
    (.out [(0, (.slot 0)), (1, (.slot 1)), (2, (.slot 2)), (7, (.slot 7)), (9, (.res 8))])))))
    [0, 1, 2, 7, 8]
abbrev slices_Insert_disk_file_disk_file_r10 : NC := .reg
    (.q 2 (.slc 3 true false) [(.slot 9), (.slot 1)] none
    (.x 4 (.cpy 3) [(.res 2), (.slot 2)] none []
    (.out [(0, (.slot 0)), (1, (.slot 1)), (7, (.slot 7)), (9, (.slot 9))])))
    [0, 1, 2, 7, 9]
abbrev slices_Insert_disk_file_disk_file_r11 : NC := .reg
    (.q 3 (.iar .add) [(.slot 1), (.slot 7)] none
    (.q 4 (.slc 3 true false) [(.slot 9), (.res 3)] none
    (.q 7 (.slc 3 true false) [(.slot 0), (.slot 1)] none
    (.x 8 (.cpy 3) [(.res 4), (.res 7)] none []
    (.out [(9, (.slot 9))])))))
    [0, 1, 7, 9]
abbrev slices_Insert_disk_file_disk_file_r12 : NC := .reg
    (.out [(6, (.slot 9))])
    [9]
abbrev slices_Insert_disk_file_disk_file_r13 : NC := .reg
    (.q 3 (.iar .add) [(.slot 8), (.slot 7)] none
    (.q 4 (.slc 3 false true) [(.slot 0), (.res 3)] none
    (.out [(0, (.res 4)), (1, (.slot 1)), (2, (.slot 2)), (7, (.slot 7)), (8, (.slot 8))])))
    [0, 1, 2, 7, 8]
abbrev slices_Insert_disk_file_disk_file_r14 : NC := .reg
    (.q 4 (.iar .add) [(.slot 1), (.slot 7)] none
    (.q 5 (.slc 3 true false) [(.slot 0), (.res 4)] none
    (.q 6 (.ovl 3) [(.slot 2), (.res 5)] none
    (.q 7 .not [(.res 6)] none
    (.out [(0, (.slot 0)), (1, (.slot 1)), (2, (.slot 2)), (7, (.slot 7)), (8, (.slot 8)), (68, (.res 7))])))))
    [0, 1, 2, 7, 8]
abbrev slices_Insert_disk_file_disk_file_r15 : NC := .reg
    (.q 3 (.iar .add) [(.slot 1), (.slot 7)] none
    (.q 4 (.slc 3 true false) [(.slot 0), (.res 3)] none
    (.q 7 (.slc 3 true false) [(.slot 0), (.slot 1)] none
    (.x 8 (.cpy 3) [(.res 4), (.res 7)] none []
    (.out [(0, (.slot 0)), (1, (.slot 1)), (2, (.slot 2))])))))
    [0, 1, 2, 7]
abbrev slices_Insert_disk_file_disk_file_r16 : NC := .reg
    (.q 2 (.slc 3 true false) [(.slot 0), (.slot 1)] none
    (.x 4 (.cpy 3) [(.res 2), (.slot 2)] none []
    (.out [(0, (.slot 0))])))
    [0, 1, 2]
abbrev slices_Insert_disk_file_disk_file_r17 : NC := .reg
    (.out [(6, (.slot 0))])
    [0]
abbrev slices_Insert_disk_file_disk_file_r18 : NC := .reg
    (.q 2 (.slc 3 true false) [(.slot 0), (.slot 8)] none
    (.x 4 (.cpy 3) [(.res 2), (.slot 2)] none []
    (.out [(0, (.slot 0)), (1, (.slot 1)), (7, (.slot 7))])))
    [0, 1, 2, 7, 8]
abbrev slices_Insert_disk_file_disk_file_r19 : NC := .reg
    (.q 2 (.slc 3 true false) [(.slot 0), (.slot 1)] none
    (.x 4 (.call 71) [(.res 2), (.slot 7)] none []
    (.out [(0, (.slot 0))])))
    [0, 1, 7]
abbrev slices_Insert_disk_file_disk_file_r20 : NC := .reg
    (.out [(6, (.slot 0))])
    [0]
abbrev slices_Insert_disk_file_disk_file_c : NC :=
  (.seq slices_Insert_disk_file_disk_file_r0
  (.seq slices_Insert_disk_file_disk_file_r1
  (.seq slices_Insert_disk_file_disk_file_r2
  (.seq (.seq slices_Insert_disk_file_disk_file_r3
  (.cond (.slot 16)
    (.seq slices_Insert_disk_file_disk_file_r4
    .ret)
    .skip))
  (.seq slices_Insert_disk_file_disk_file_r5
  (.seq (.seq slices_Insert_disk_file_disk_file_r6
  (.cond (.slot 22)
    (.seq slices_Insert_disk_file_disk_file_r7
    .ret)
    .skip))
  (.seq (.seq slices_Insert_disk_file_disk_file_r8
  (.cond (.slot 31)
    (.seq slices_Insert_disk_file_disk_file_r9
    (.seq slices_Insert_disk_file_disk_file_r10
    (.seq slices_Insert_disk_file_disk_file_r11
    (.seq slices_Insert_disk_file_disk_file_r12
    .ret))))
    .skip))
  (.seq slices_Insert_disk_file_disk_file_r13
  (.seq (.seq slices_Insert_disk_file_disk_file_r14
  (.cond (.slot 68)
    (.seq slices_Insert_disk_file_disk_file_r15
    (.seq slices_Insert_disk_file_disk_file_r16
    (.seq slices_Insert_disk_file_disk_file_r17
    .ret)))
    .skip))
  (.seq slices_Insert_disk_file_disk_file_r18
  (.seq slices_Insert_disk_file_disk_file_r19
  (.seq slices_Insert_disk_file_disk_file_r20
  .ret))))))))))))
abbrev slices_Insert_disk_file_disk_file_F : FN := ⟨slices_Insert_disk_file_disk_file_c, [.slot 6]⟩
theorem slices_Insert_disk_file_disk_file_ok : compF Tryz.prog Tryz.f39 = some slices_Insert_disk_file_disk_file_F := by kernel_rfl
theorem slices_Insert_disk_file_disk_file_go {args : List Value} {m : Mem} {R : Value → Mem → Prop} (hn : args.length ≤ Tryz.f39.ntmps) (h : wpN Tryz.prog slices_Insert_disk_file_disk_file_c (retP slices_Insert_disk_file_disk_file_F.rvs R) (zipP 0 args) m) : MC Tryz.prog 39 args m R := MC_start Tryz.func39 slices_Insert_disk_file_disk_file_ok mixed_ok hn h
/-! slices.Concat[[]byte,byte] -/
abbrev slices_Concat_byte_byte_r0 : NC := .reg
    (.out [(0, (.slot 0))])
    [0]
abbrev slices_Concat_byte_byte_r1 : NC := .reg
    (.out [(0, (.slot 0)), (3, (.const (.int .i64 0)))])
    [0]
abbrev slices_Concat_byte_byte_r2 : NC := .reg
    (.q 1 .len [(.slot 0)] none
    (.out [(0, (.slot 0)), (3, (.slot 3)), (9, (.slot 0)), (10, (.res 1)), (11, (.const (.int .i64 0)))]))
    [0, 3]
abbrev slices_Concat_byte_byte_r3 : NC := .reg
    (.q 0 (.icm .lss) [(.slot 11), (.slot 10)] none
    (.out [(0, (.slot 0)), (3, (.slot 3)), (9, (.slot 9)), (10, (.slot 10)), (11, (.slot 11)), (12, (.res 0))]))
    [0, 3, 9, 10, 11]
abbrev slices_Concat_byte_byte_r4 : NC := .reg
    (.q 0 (.ixs 1) [(.slot 9), (.slot 11)] none
    (.q 1 .ld [(.res 0)] none
    (.out [(0, (.slot 0)), (3, (.slot 3)), (5, (.res 1)), (9, (.slot 9)), (10, (.slot 10)), (11, (.slot 11))])))
    [0, 3, 9, 10, 11]
abbrev slices_Concat_byte_byte_r5 : NC := .reg
    (.q 2 .len [(.slot 5)] none
    (.q 3 (.iar .add) [(.slot 3), (.res 2)] none
    (.out [(0, (.slot 0)), (3, (.res 3)), (9, (.slot 9)), (10, (.slot 10)), (11, (.slot 11))])))
    [0, 3, 5, 9, 10, 11]
abbrev slices_Concat_byte_byte_r6 : NC := .reg
    (.q 1 (.icm .lss) [(.slot 3), (.const (.int .i64 0))] none
    (.out [(0, (.slot 0)), (3, (.slot 3)), (9, (.slot 9)), (10, (.slot 10)), (11, (.slot 11)), (20, (.res 1))]))
    [0, 3, 9, 10, 11]
abbrev slices_Concat_byte_byte_r7 : NC := .reg
    (.q 0 (.mki 9) [(.const (.string ⟨#[108, 101, 110, 32, 111, 117, 116, 32, 111, 102, 32, 114, 97, 110, 103, 101]⟩))] none
    (.x 1 .bad [] none []
    (.out [(0, (.slot 0)), (3, (.slot 3)), (9, (.slot 9)), (10, (.slot 10)), (11, (.slot 11))])))
    [0, 3, 9, 10, 11]
abbrev slices_Concat_byte_byte_r8 : NC := .reg
    (.q 0 (.iar .add) [(.slot 11), (.const (.int .i64 1))] none
    (.out [(0, (.slot 0)), (3, (.slot 3)), (9, (.slot 9)), (10, (.slot 10)), (11, (.res 0))]))
    [0, 3, 9, 10, 11]
abbrev slices_Concat_byte_byte_l0 : NC :=
  (.seq slices_Concat_byte_byte_r3
  (.seq (.cond (.slot 12)
    .skip
    (.exit 0))
  (.seq (.block 1 (.seq slices_Concat_byte_byte_r4
  (.seq slices_Concat_byte_byte_r5
  (.seq slices_Concat_byte_byte_r6
  (.cond (.slot 20)
    slices_Concat_byte_byte_r7
    .skip)))))
  slices_Concat_byte_byte_r8)))
abbrev slices_Concat_byte_byte_r9 : NC := .reg
    (.x 1 (.call 72) [(.const (.slice none 0 0)), (.slot 3)] none []
    (.out [(0, (.slot 0)), (6, (.res 1))]))
    [0, 3]
abbrev slices_Concat_byte_byte_r10 : NC := .reg
    (.q 1 .len [(.slot 0)] none
    (.out [(6, (.slot 6)), (25, (.slot 0)), (26, (.res 1)), (27, (.const (.int .i64 0)))]))
    [0, 6]
abbrev slices_Concat_byte_byte_r11 : NC := .reg
    (.q 0 (.icm .lss) [(.slot 27), (.slot 26)] none
    (.out [(6, (.slot 6)), (25, (.slot 25)), (26, (.slot 26)), (27, (.slot 27)), (28, (.res 0))]))
    [6, 25, 26, 27]
abbrev slices_Concat_byte_byte_r12 : NC := .reg
    (.q 0 (.ixs 1) [(.slot 25), (.slot 27)] none
    (.q 1 .ld [(.res 0)] none
    (.out [(6, (.slot 6)), (8, (.res 1)), (25, (.slot 25)), (26, (.slot 26)), (27, (.slot 27))])))
    [6, 25, 26, 27]
abbrev slices_Concat_byte_byte_r13 : NC := .reg
    (.x 2 (.app 5 1 1 [(.int .u8 0)]) [(.slot 6), (.slot 8)] none []
    (.out [(6, (.res 2)), (25, (.slot 25)), (26, (.slot 26)), (27, (.slot 27))]))
    [6, 8, 25, 26, 27]
abbrev slices_Concat_byte_byte_r14 : NC := .reg
    (.q 0 (.iar .add) [(.slot 27), (.const (.int .i64 1))] none
    (.out [(6, (.slot 6)), (25, (.slot 25)), (26, (.slot 26)), (27, (.res 0))]))
    [6, 25, 26, 27]
abbrev slices_Concat_byte_byte_l1 : NC :=
  (.seq slices_Concat_byte_byte_r11
  (.seq (.cond (.slot 28)
    .skip
    (.exit 2))
  (.seq (.block 3 (.seq slices_Concat_byte_byte_r12
  slices_Concat_byte_byte_r13))
  slices_Concat_byte_byte_r14)))
abbrev slices_Concat_byte_byte_r15 : NC := .reg
    (.out [(2, (.slot 6))])
    [6]
abbrev slices_Concat_byte_byte_c : NC :=
  (.seq slices_Concat_byte_byte_r0
  (.seq slices_Concat_byte_byte_r1
  (.seq (.seq slices_Concat_byte_byte_r2
  (.block 0 (.loop [0, 3, 9, 10, 11] slices_Concat_byte_byte_l0)))
  (.seq slices_Concat_byte_byte_r9
  (.seq (.seq slices_Concat_byte_byte_r10
  (.block 2 (.loop [6, 25, 26, 27] slices_Concat_byte_byte_l1)))
  (.seq slices_Concat_byte_byte_r15
  .ret))))))
abbrev slices_Concat_byte_byte_F : FN := ⟨slices_Concat_byte_byte_c, [.slot 2]⟩
theorem slices_Concat_byte_byte_ok : compF Tryz.prog Tryz.f40 = some slices_Concat_byte_byte_F := by kernel_rfl
theorem slices_Concat_byte_byte_go {args : List Value} {m : Mem} {R : Value → Mem → Prop} (hn : args.length ≤ Tryz.f40.ntmps) (h : wpN Tryz.prog slices_Concat_byte_byte_c (retP slices_Concat_byte_byte_F.rvs R) (zipP 0 args) m) : MC Tryz.prog 40 args m R := MC_start Tryz.func40 slices_Concat_byte_byte_ok mixed_ok hn h
/-! slices.Clone[[]byte,byte] -/
abbrev slices_Clone_byte_byte_r0 : NC := .reg
    (.out [(0, (.slot 0))])
    [0]
abbrev slices_Clone_byte_byte_r1 : NC := .reg
    (.q 1 (.eqs false) [(.slot 0), (.const (.slice none 0 0))] none
    (.out [(0, (.slot 0)), (4, (.res 1))]))
    [0]
abbrev slices_Clone_byte_byte_r2 : NC := .reg
    (.out [(2, (.const (.slice none 0 0)))])
    []
abbrev slices_Clone_byte_byte_r3 : NC := .reg
    (.x 0 (.bsl 5 0 [] []) [] none []
    (.x 2 (.app 5 1 1 [(.int .u8 0)]) [(.res 0), (.slot 0)] none []
    (.out [(2, (.res 2))])))
    [0]
abbrev slices_Clone_byte_byte_c : NC :=
  (.seq slices_Clone_byte_byte_r0
  (.seq (.seq slices_Clone_byte_byte_r1
  (.cond (.slot 4)
    (.seq slices_Clone_byte_byte_r2
    .ret)
    .skip))
  (.seq slices_Clone_byte_byte_r3
  .ret)))
abbrev slices_Clone_byte_byte_F : FN := ⟨slices_Clone_byte_byte_c, [.slot 2]⟩
theorem slices_Clone_byte_byte_ok : compF Tryz.prog Tryz.f65 = some slices_Clone_byte_byte_F := by kernel_rfl
theorem slices_Clone_byte_byte_go {args : List Value} {m : Mem} {R : Value → Mem → Prop} (hn : args.length ≤ Tryz.f65.ntmps) (h : wpN Tryz.prog slices_Clone_byte_byte_c (retP slices_Clone_byte_byte_F.rvs R) (zipP 0 args) m) : MC Tryz.prog 65 args m R := MC_start Tryz.func65 slices_Clone_byte_byte_ok mixed_ok hn h
-- NOT slices.overlaps[concord/disk.file]: no body
/-! slices.Grow[[]byte,byte] -/
abbrev slices_Grow_byte_byte_r0 : NC := .reg
    (.out [(0, (.slot 0)), (1, (.slot 1))])
    [0, 1]
abbrev slices_Grow_byte_byte_r1 : NC := .reg
    (.q 1 (.icm .lss) [(.slot 1), (.const (.int .i64 0))] none
    (.out [(0, (.slot 0)), (1, (.slot 1)), (6, (.res 1))]))
    [0, 1]
abbrev slices_Grow_byte_byte_r2 : NC := .reg
    (.q 0 (.mki 9) [(.const (.string ⟨#[99, 97, 110, 110, 111, 116, 32, 98, 101, 32, 110, 101, 103, 97, 116, 105, 118, 101]⟩))] none
    (.x 1 .bad [] none []
    (.out [(0, (.slot 0)), (1, (.slot 1))])))
    [0, 1]
abbrev slices_Grow_byte_byte_r3 : NC := .reg
    (.q 2 .cap [(.slot 0)] none
    (.q 4 .len [(.slot 0)] none
    (.q 5 (.iar .sub) [(.res 2), (.res 4)] none
    (.q 6 (.iar .sub) [(.slot 1), (.res 5)] none
    (.out [(0, (.slot 0)), (1, (.res 6))])))))
    [0, 1]
abbrev slices_Grow_byte_byte_r4 : NC := .reg
    (.q 1 (.icm .gtr) [(.slot 1), (.const (.int .i64 0))] none
    (.out [(0, (.slot 0)), (1, (.slot 1)), (16, (.res 1))]))
    [0, 1]
abbrev slices_Grow_byte_byte_r5 : NC := .reg
    (.q 2 .cap [(.slot 0)] none
    (.q 3 (.slc 1 false true) [(.slot 0), (.res 2)] none
    (.x 5 (.appn 5 1 1 [(.int .u8 0)]) [(.res 3), (.slot 1)] none []
    (.q 7 .len [(.slot 0)] none
    (.q 8 (.slc 1 false true) [(.res 5), (.res 7)] none
    (.out [(0, (.res 8))]))))))
    [0, 1]
abbrev slices_Grow_byte_byte_r6 : NC := .reg
    (.out [(4, (.slot 0))])
    [0]
abbrev slices_Grow_byte_byte_c : NC :=
  (.seq slices_Grow_byte_byte_r0
  (.seq (.seq slices_Grow_byte_byte_r1
  (.cond (.slot 6)
    slices_Grow_byte_byte_r2
    .skip))
  (.seq (.seq slices_Grow_byte_byte_r3
  (.seq slices_Grow_byte_byte_r4
  (.cond (.slot 16)
    slices_Grow_byte_byte_r5
    .skip)))
  (.seq slices_Grow_byte_byte_r6
  .ret))))
abbrev slices_Grow_byte_byte_F : FN := ⟨slices_Grow_byte_byte_c, [.slot 4]⟩
theorem slices_Grow_byte_byte_ok : compF Tryz.prog Tryz.f72 = some slices_Grow_byte_byte_F := by kernel_rfl
theorem slices_Grow_byte_byte_go {args : List Value} {m : Mem} {R : Value → Mem → Prop} (hn : args.length ≤ Tryz.f72.ntmps) (h : wpN Tryz.prog slices_Grow_byte_byte_c (retP slices_Grow_byte_byte_F.rvs R) (zipP 0 args) m) : MC Tryz.prog 72 args m R := MC_start Tryz.func72 slices_Grow_byte_byte_ok mixed_ok hn h
/-! strconv.Itoa -/
abbrev strconv_Itoa_r0 : NC := .reg
    (.out [(0, (.slot 0))])
    [0]
abbrev strconv_Itoa_r1 : NC := .reg
    (.x 1 (.call 99) [(.slot 0)] none []
    (.out [(2, (.res 1))]))
    [0]
abbrev strconv_Itoa_c : NC :=
  (.seq strconv_Itoa_r0
  (.seq strconv_Itoa_r1
  .ret))
abbrev strconv_Itoa_F : FN := ⟨strconv_Itoa_c, [.slot 2]⟩
theorem strconv_Itoa_ok : compF Tryz.prog Tryz.f78 = some strconv_Itoa_F := by kernel_rfl
theorem strconv_Itoa_go {args : List Value} {m : Mem} {R : Value → Mem → Prop} (hn : args.length ≤ Tryz.f78.ntmps) (h : wpN Tryz.prog strconv_Itoa_c (retP strconv_Itoa_F.rvs R) (zipP 0 args) m) : MC Tryz.prog 78 args m R := MC_start Tryz.func78 strconv_Itoa_ok mixed_ok hn h
/-! slices.Delete[[]concord/disk.file,concord/disk.file] -/
abbrev slices_Delete_disk_file_disk_file_r0 : NC := .reg
    (.out [(0, (.slot 0)), (1, (.slot 1)), (2, (.slot 2))])
    [0, 1, 2]
abbrev slices_Delete_disk_file_disk_file_r1 : NC := .reg
    (.q 4 .len [(.slot 0)] none
    (.q 5 (.slc3 3 true) [(.slot 0), (.slot 1), (.slot 2), (.res 4)] none
    (.out [(0, (.slot 0)), (1, (.slot 1)), (2, (.slot 2))])))
    [0, 1, 2]
abbrev slices_Delete_disk_file_disk_file_r2 : NC := .reg
    (.q 2 (.icm .eql) [(.slot 1), (.slot 2)] none
    (.out [(0, (.slot 0)), (1, (.slot 1)), (2, (.slot 2)), (16, (.res 2))]))
    [0, 1, 2]
abbrev slices_Delete_disk_file_disk_file_r3 : NC := .reg
    (.out [(6, (.slot 0))])
    [0]
abbrev slices_Delete_disk_file_disk_file_r4 : NC := .reg
    (.q 1 .len [(.slot 0)] none
    (.out [(0, (.slot 0)), (1, (.slot 1)), (2, (.slot 2)), (7, (.res 1))]))
    [0, 1, 2]
abbrev slices_Delete_disk_file_disk_file_r5 : NC := .reg
    (.q 2 (.slc 3 false true) [(.slot 0), (.slot 1)] none
    (.q 5 (.slc 3 true false) [(.slot 0), (.slot 2)] none
    (.x 6 (.app 87 3 48 [(.string ⟨#[]⟩), (.slice none 0 0), (.int .i64 0)]) [(.res 2), (.res 5)] none []
    (.out [(0, (.res 6)), (7, (.slot 7))]))))
    [0, 1, 2, 7]
abbrev slices_Delete_disk_file_disk_file_r6 : NC := .reg
    (.q 2 .len [(.slot 0)] none
    (.q 4 (.slc 3 true true) [(.slot 0), (.res 2), (.slot 7)] none
    (.x 5 (.clr [(.string ⟨#[]⟩), (.slice none 0 0), (.int .i64 0)]) [(.res 4)] none []
    (.out [(0, (.slot 0))]))))
    [0, 7]
abbrev slices_Delete_disk_file_disk_file_r7 : NC := .reg
    (.out [(6, (.slot 0))])
    [0]
abbrev slices_Delete_disk_file_disk_file_c : NC :=
  (.seq slices_Delete_disk_file_disk_file_r0
  (.seq slices_Delete_disk_file_disk_file_r1
  (.seq (.seq slices_Delete_disk_file_disk_file_r2
  (.cond (.slot 16)
    (.seq slices_Delete_disk_file_disk_file_r3
    .ret)
    .skip))
  (.seq slices_Delete_disk_file_disk_file_r4
  (.seq slices_Delete_disk_file_disk_file_r5
  (.seq slices_Delete_disk_file_disk_file_r6
  (.seq slices_Delete_disk_file_disk_file_r7
  .ret)))))))
abbrev slices_Delete_disk_file_disk_file_F : FN := ⟨slices_Delete_disk_file_disk_file_c, [.slot 6]⟩
theorem slices_Delete_disk_file_disk_file_ok : compF Tryz.prog Tryz.f91 = some slices_Delete_disk_file_disk_file_F := by kernel_rfl
theorem slices_Delete_disk_file_disk_file_go {args : List Value} {m : Mem} {R : Value → Mem → Prop} (hn : args.length ≤ Tryz.f91.ntmps) (h : wpN Tryz.prog slices_Delete_disk_file_disk_file_c (retP slices_Delete_disk_file_disk_file_F.rvs R) (zipP 0 args) m) : MC Tryz.prog 91 args m R := MC_start Tryz.func91 slices_Delete_disk_file_disk_file_ok mixed_ok hn h
/-! strings.Cut -/
abbrev strings_Cut_r0 : NC := .reg
    (.out [(0, (.slot 0)), (1, (.slot 1))])
    [0, 1]
abbrev strings_Cut_r1 : NC := .reg
    (.x 2 (.call 106) [(.slot 0), (.slot 1)] none []
    (.q 3 (.ext 0) [(.res 2)] none
    (.q 4 (.ext 1) [(.res 2)] none
    (.q 5 (.ext 2) [(.res 2)] none
    (.out [(4, (.res 3)), (5, (.res 4)), (6, (.res 5))])))))
    [0, 1]
abbrev strings_Cut_c : NC :=
  (.seq strings_Cut_r0
  (.seq strings_Cut_r1
  .ret))
abbrev strings_Cut_F : FN := ⟨strings_Cut_c, [.slot 4, .slot 5, .slot 6]⟩
theorem strings_Cut_ok : compF Tryz.prog Tryz.f93 = some strings_Cut_F := by kernel_rfl
theorem strings_Cut_go {args : List Value} {m : Mem} {R : Value → Mem → Prop} (hn : args.length ≤ Tryz.f93.ntmps) (h : wpN Tryz.prog strings_Cut_c (retP strings_Cut_F.rvs R) (zipP 0 args) m) : MC Tryz.prog 93 args m R := MC_start Tryz.func93 strings_Cut_ok mixed_ok hn h
/-! strings.TrimPrefix -/
abbrev strings_TrimPrefix_r0 : NC := .reg
    (.out [(0, (.slot 0)), (1, (.slot 1))])
    [0, 1]
abbrev strings_TrimPrefix_r1 : NC := .reg
    (.x 2 (.call 107) [(.slot 0), (.slot 1)] none []
    (.out [(4, (.res 2))]))
    [0, 1]
abbrev strings_TrimPrefix_c : NC :=
  (.seq strings_TrimPrefix_r0
  (.seq strings_TrimPrefix_r1
  .ret))
abbrev strings_TrimPrefix_F : FN := ⟨strings_TrimPrefix_c, [.slot 4]⟩
theorem strings_TrimPrefix_ok : compF Tryz.prog Tryz.f94 = some strings_TrimPrefix_F := by kernel_rfl
theorem strings_TrimPrefix_go {args : List Value} {m : Mem} {R : Value → Mem → Prop} (hn : args.length ≤ Tryz.f94.ntmps) (h : wpN Tryz.prog strings_TrimPrefix_c (retP strings_TrimPrefix_F.rvs R) (zipP 0 args) m) : MC Tryz.prog 94 args m R := MC_start Tryz.func94 strings_TrimPrefix_ok mixed_ok hn h
/-! strconv.Atoi -/
abbrev strconv_Atoi_r0 : NC := .reg
    (.out [(0, (.slot 0))])
    [0]
abbrev strconv_Atoi_r1 : NC := .reg
    (.x 1 (.call 108) [(.slot 0)] none []
    (.q 3 (.ext 0) [(.res 1)] none
    (.q 4 (.ext 1) [(.res 1)] none
    (.out [(0, (.slot 0)), (4, (.res 3)), (5, (.res 4))]))))
    [0]
abbrev strconv_Atoi_r2 : NC := .reg
    (.q 1 (.eqi true) [(.slot 5), (.const .nilIface)] none
    (.out [(0, (.slot 0)), (4, (.slot 4)), (5, (.slot 5)), (12, (.res 1))]))
    [0, 4, 5]
abbrev strconv_Atoi_r3 : NC := .reg
    (.x 3 (.call 109) [(.const (.string ⟨#[65, 116, 111, 105]⟩)), (.slot 0), (.const (.int .i64 0)), (.const (.int .i64 0)), (.slot 5)] none []
    (.out [(2, (.slot 4)), (3, (.res 3))]))
    [0, 4, 5]
abbrev strconv_Atoi_r4 : NC := .reg
    (.out [(2, (.slot 4)), (3, (.const .nilIface))])
    [4]
abbrev strconv_Atoi_c : NC :=
  (.seq strconv_Atoi_r0
  (.seq strconv_Atoi_r1
  (.seq (.seq strconv_Atoi_r2
  (.cond (.slot 12)
    (.seq strconv_Atoi_r3
    .ret)
    .skip))
  (.seq strconv_Atoi_r4
  .ret))))
abbrev strconv_Atoi_F : FN := ⟨strconv_Atoi_c, [.slot 2, .slot 3]⟩
theorem strconv_Atoi_ok : compF Tryz.prog Tryz.f95 = some strconv_Atoi_F := by kernel_rfl
theorem strconv_Atoi_go {args : List Value} {m : Mem} {R : Value → Mem → Prop} (hn : args.length ≤ Tryz.f95.ntmps) (h : wpN Tryz.prog strconv_Atoi_c (retP strconv_Atoi_F.rvs R) (zipP 0 args) m) : MC Tryz.prog 95 args m R := MC_start Tryz.func95 strconv_Atoi_ok mixed_ok hn h
/-! internal/strconv.Itoa -/
abbrev internal_strconv_Itoa_r0 : NC := .reg
    (.out [(0, (.slot 0))])
    [0]
abbrev internal_strconv_Itoa_r1 : NC := .reg
    (.x 1 (.call 111) [(.slot 0), (.const (.int .i64 10))] none []
    (.out [(2, (.res 1))]))
    [0]
abbrev internal_strconv_Itoa_c : NC :=
  (.seq internal_strconv_Itoa_r0
  (.seq internal_strconv_Itoa_r1
  .ret))
abbrev internal_strconv_Itoa_F : FN := ⟨internal_strconv_Itoa_c, [.slot 2]⟩
theorem internal_strconv_Itoa_ok : compF Tryz.prog Tryz.f99 = some internal_strconv_Itoa_F := by kernel_rfl
theorem internal_strconv_Itoa_go {args : List Value} {m : Mem} {R : Value → Mem → Prop} (hn : args.length ≤ Tryz.f99.ntmps) (h : wpN Tryz.prog internal_strconv_Itoa_c (retP internal_strconv_Itoa_F.rvs R) (zipP 0 args) m) : MC Tryz.prog 99 args m R := MC_start Tryz.func99 internal_strconv_Itoa_ok mixed_ok hn h
/-! internal/stringslite.Cut -/
abbrev internal_stringslite_Cut_r0 : NC := .reg
    (.out [(0, (.slot 0)), (1, (.slot 1))])
    [0, 1]
abbrev internal_stringslite_Cut_r1 : NC := .reg
    (.x 2 (.call 113) [(.slot 0), (.slot 1)] none []
    (.out [(0, (.slot 0)), (1, (.slot 1)), (7, (.res 2))]))
    [0, 1]
abbrev internal_stringslite_Cut_r2 : NC := .reg
    (.q 1 (.icm .geq) [(.slot 7), (.const (.int .i64 0))] none
    (.out [(0, (.slot 0)), (1, (.slot 1)), (7, (.slot 7)), (12, (.res 1))]))
    [0, 1, 7]
abbrev internal_stringslite_Cut_r3 : NC := .reg
    (.q 2 (.slcs false true) [(.slot 0), (.slot 7)] none
    (.q 6 .lenz [(.slot 1)] none
    (.q 7 (.iar .add) [(.slot 7), (.res 6)] none
    (.q 8 (.slcs true false) [(.slot 0), (.res 7)] none
    (.out [(4, (.res 2)), (5, (.res 8)), (6, (.const (.bool true)))])))))
    [0, 1, 7]
abbrev internal_stringslite_Cut_r4 : NC := .reg
    (.out [(4, (.slot 0)), (5, (.const (.string ⟨#[]⟩))), (6, (.const (.bool false)))])
    [0]
abbrev internal_stringslite_Cut_c : NC :=
  (.seq internal_stringslite_Cut_r0
  (.seq (.seq internal_stringslite_Cut_r1
  (.seq internal_stringslite_Cut_r2
  (.cond (.slot 12)
    (.seq internal_stringslite_Cut_r3
    .ret)
    .skip)))
  (.seq internal_stringslite_Cut_r4
  .ret)))
abbrev internal_stringslite_Cut_F : FN := ⟨internal_stringslite_Cut_c, [.slot 4, .slot 5, .slot 6]⟩
theorem internal_stringslite_Cut_ok : compF Tryz.prog Tryz.f106 = some internal_stringslite_Cut_F := by kernel_rfl
theorem internal_stringslite_Cut_go {args : List Value} {m : Mem} {R : Value → Mem → Prop} (hn : args.length ≤ Tryz.f106.ntmps) (h : wpN Tryz.prog internal_stringslite_Cut_c (retP internal_stringslite_Cut_F.rvs R) (zipP 0 args) m) : MC Tryz.prog 106 args m R := MC_start Tryz.func106 internal_stringslite_Cut_ok mixed_ok hn h
/-! internal/stringslite.TrimPrefix -/
abbrev internal_stringslite_TrimPrefix_r0 : NC := .reg
    (.out [(0, (.slot 0)), (1, (.slot 1))])
    [0, 1]
abbrev internal_stringslite_TrimPrefix_r1 : NC := .reg
    (.x 2 (.call 114) [(.slot 0), (.slot 1)] none []
    (.out [(0, (.slot 0)), (1, (.slot 1)), (7, (.res 2))]))
    [0, 1]
abbrev internal_stringslite_TrimPrefix_r2 : NC := .reg
    (.q 2 .lenz [(.slot 1)] none
    (.q 3 (.slcs true false) [(.slot 0), (.res 2)] none
    (.out [(4, (.res 3))])))
    [0, 1]
abbrev internal_stringslite_TrimPrefix_r3 : NC := .reg
    (.out [(4, (.slot 0))])
    [0]
abbrev internal_stringslite_TrimPrefix_c : NC :=
  (.seq internal_stringslite_TrimPrefix_r0
  (.seq (.seq internal_stringslite_TrimPrefix_r1
  (.cond (.slot 7)
    (.seq internal_stringslite_TrimPrefix_r2
    .ret)
    .skip))
  (.seq internal_stringslite_TrimPrefix_r3
  .ret)))
abbrev internal_stringslite_TrimPrefix_F : FN := ⟨internal_stringslite_TrimPrefix_c, [.slot 4]⟩
theorem internal_stringslite_TrimPrefix_ok : compF Tryz.prog Tryz.f107 = some internal_stringslite_TrimPrefix_F := by kernel_rfl
theorem internal_stringslite_TrimPrefix_go {args : List Value} {m : Mem} {R : Value → Mem → Prop} (hn : args.length ≤ Tryz.f107.ntmps) (h : wpN Tryz.prog internal_stringslite_TrimPrefix_c (retP internal_stringslite_TrimPrefix_F.rvs R) (zipP 0 args) m) : MC Tryz.prog 107 args m R := MC_start Tryz.func107 internal_stringslite_TrimPrefix_ok mixed_ok hn h
/-! internal/strconv.Atoi -/
abbrev internal_strconv_Atoi_r0 : NC := .reg
    (.out [(0, (.slot 0))])
    [0]
abbrev internal_strconv_Atoi_r1 : NC := .reg
    (.q 1 .lenz [(.slot 0)] none
    (.out [(0, (.slot 0)), (4, (.res 1))]))
    [0]
abbrev internal_strconv_Atoi_r2 : NC := .reg
    (.q 1 .mv [(.slot 4)] (some ((.const (.bool false)), true))
    (.q 2 (.icm .lss) [(.const (.int .i64 0)), (.res 1)] (some ((.const (.bool false)), true))
    (.q 3 .mv [(.res 2)] (some ((.const (.bool false)), true))
    (.q 4 .mv [(.slot 4)] (some ((.res 3), true))
    (.q 5 (.icm .lss) [(.res 4), (.const (.int .i64 10))] (some ((.res 3), true))
    (.q 6 .pick [(.res 3), (.res 5), (.const (.bool false))] (some ((.const (.bool false)), true))
    (.q 7 .pick [(.const (.bool false)), (.res 6), (.const (.bool false))] none
    (.q 9 .mv [(.const (.bool true))] (some ((.res 7), false))
    (.q 10 .mv [(.slot 4)] (some ((.res 9), true))
    (.q 11 (.icm .lss) [(.const (.int .i64 0)), (.res 10)] (some ((.res 9), true))
    (.q 12 .mv [(.res 11)] (some ((.res 9), true))
    (.q 13 .mv [(.slot 4)] (some ((.res 12), true))
    (.q 14 (.icm .lss) [(.res 13), (.const (.int .i64 19))] (some ((.res 12), true))
    (.q 15 .pick [(.res 12), (.res 14), (.const (.bool false))] (some ((.res 9), true))
    (.q 16 .pick [(.res 9), (.res 15), (.const (.bool false))] (some ((.res 7), false))
    (.q 17 .pick [(.res 7), (.const (.bool true)), (.res 16)] none
    (.out [(0, (.slot 0)), (30, (.res 17))])))))))))))))))))
    [0, 4]
abbrev internal_strconv_Atoi_r3 : NC := .reg
    (.out [(0, (.slot 0)), (5, (.slot 0))])
    [0]
abbrev internal_strconv_Atoi_r4 : NC := .reg
    (.q 1 .idxs [(.slot 0), (.const (.int .i64 0))] none
    (.q 2 (.icm .eql) [(.res 1), (.const (.int .u8 45))] none
    (.q 4 .mv [(.slot 0)] (some ((.res 2), false))
    (.q 5 .idxs [(.res 4), (.const (.int .i64 0))] (some ((.res 2), false))
    (.q 6 (.icm .eql) [(.res 5), (.const (.int .u8 43))] (some ((.res 2), false))
    (.q 7 .pick [(.res 2), (.const (.bool true)), (.res 6)] none
    (.out [(0, (.slot 0)), (5, (.slot 5)), (39, (.res 7))])))))))
    [0, 5]
abbrev internal_strconv_Atoi_r5 : NC := .reg
    (.q 1 (.slcs true false) [(.slot 0), (.const (.int .i64 1))] none
    (.out [(0, (.res 1)), (5, (.slot 5))]))
    [0, 5]
abbrev internal_strconv_Atoi_r6 : NC := .reg
    (.q 1 .lenz [(.slot 0)] none
    (.q 2 (.icm .lss) [(.res 1), (.const (.int .i64 1))] none
    (.out [(0, (.slot 0)), (5, (.slot 5)), (44, (.res 2))])))
    [0, 5]
abbrev internal_strconv_Atoi_r7 : NC := .reg
    (.q 0 (.mki 157) [(.const (.int .i64 2))] none
    (.out [(2, (.const (.int .i64 0))), (3, (.res 0))]))
    []
abbrev internal_strconv_Atoi_r8 : NC := .reg
    (.out [(0, (.slot 0)), (5, (.slot 5)), (6, (.const (.int .i64 0)))])
    [0, 5]
abbrev internal_strconv_Atoi_r9 : NC := .reg
    (.x 1 (.s2b 5) [(.slot 0)] none []
    (.q 2 .len [(.res 1)] none
    (.out [(5, (.slot 5)), (6, (.slot 6)), (47, (.res 1)), (48, (.res 2)), (49, (.const (.int .i64 0)))])))
    [0, 5, 6]
abbrev internal_strconv_Atoi_r10 : NC := .reg
    (.q 0 (.icm .lss) [(.slot 49), (.slot 48)] none
    (.out [(5, (.slot 5)), (6, (.slot 6)), (47, (.slot 47)), (48, (.slot 48)), (49, (.slot 49)), (50, (.res 0))]))
    [5, 6, 47, 48, 49]
abbrev internal_strconv_Atoi_r11 : NC := .reg
    (.q 0 (.ixs 1) [(.slot 47), (.slot 49)] none
    (.q 1 .ld [(.res 0)] none
    (.out [(5, (.slot 5)), (6, (.slot 6)), (8, (.res 1)), (47, (.slot 47)), (48, (.slot 48)), (49, (.slot 49))])))
    [5, 6, 47, 48, 49]
abbrev internal_strconv_Atoi_r12 : NC := .reg
    (.q 1 (.iar .sub) [(.slot 8), (.const (.int .u8 48))] none
    (.out [(5, (.slot 5)), (6, (.slot 6)), (8, (.res 1)), (47, (.slot 47)), (48, (.slot 48)), (49, (.slot 49))]))
    [5, 6, 8, 47, 48, 49]
abbrev internal_strconv_Atoi_r13 : NC := .reg
    (.q 1 (.icm .gtr) [(.slot 8), (.const (.int .u8 9))] none
    (.out [(5, (.slot 5)), (6, (.slot 6)), (8, (.slot 8)), (47, (.slot 47)), (48, (.slot 48)), (49, (.slot 49)), (56, (.res 1))]))
    [5, 6, 8, 47, 48, 49]
abbrev internal_strconv_Atoi_r14 : NC := .reg
    (.q 0 (.mki 157) [(.const (.int .i64 2))] none
    (.out [(2, (.const (.int .i64 0))), (3, (.res 0))]))
    []
abbrev internal_strconv_Atoi_r15 : NC := .reg
    (.q 1 (.iar .mul) [(.slot 6), (.const (.int .i64 10))] none
    (.q 3 (.conv .i64) [(.slot 8)] none
    (.q 4 (.iar .add) [(.res 1), (.res 3)] none
    (.out [(5, (.slot 5)), (6, (.res 4)), (47, (.slot 47)), (48, (.slot 48)), (49, (.slot 49))]))))
    [5, 6, 8, 47, 48, 49]
abbrev internal_strconv_Atoi_r16 : NC := .reg
    (.q 0 (.iar .add) [(.slot 49), (.const (.int .i64 1))] none
    (.out [(5, (.slot 5)), (6, (.slot 6)), (47, (.slot 47)), (48, (.slot 48)), (49, (.res 0))]))
    [5, 6, 47, 48, 49]
abbrev internal_strconv_Atoi_l0 : NC :=
  (.seq internal_strconv_Atoi_r10
  (.seq (.cond (.slot 50)
    .skip
    (.exit 0))
  (.seq (.block 1 (.seq internal_strconv_Atoi_r11
  (.seq internal_strconv_Atoi_r12
  (.seq (.seq internal_strconv_Atoi_r13
  (.cond (.slot 56)
    (.seq internal_strconv_Atoi_r14
    .ret)
    .skip))
  internal_strconv_Atoi_r15))))
  internal_strconv_Atoi_r16)))
abbrev internal_strconv_Atoi_r17 : NC := .reg
    (.q 1 .idxs [(.slot 5), (.const (.int .i64 0))] none
    (.q 2 (.icm .eql) [(.res 1), (.const (.int .u8 45))] none
    (.out [(6, (.slot 6)), (66, (.res 2))])))
    [5, 6]
abbrev internal_strconv_Atoi_r18 : NC := .reg
    (.q 1 .neg [(.slot 6)] none
    (.out [(6, (.res 1))]))
    [6]
abbrev internal_strconv_Atoi_r19 : NC := .reg
    (.out [(2, (.slot 6)), (3, (.const .nilIface))])
    [6]
abbrev internal_strconv_Atoi_r20 : NC := .reg
    (.x 1 (.call 115) [(.slot 0), (.const (.int .i64 10)), (.const (.int .i64 0))] none []
    (.q 3 (.ext 0) [(.res 1)] none
    (.q 4 (.ext 1) [(.res 1)] none
    (.out [(9, (.res 3)), (10, (.res 4))]))))
    [0]
abbrev internal_strconv_Atoi_r21 : NC := .reg
    (.out [(2, (.slot 9)), (3, (.slot 10))])
    [9, 10]
abbrev internal_strconv_Atoi_c : NC :=
  (.seq internal_strconv_Atoi_r0
  (.seq internal_strconv_Atoi_r1
  (.seq (.seq internal_strconv_Atoi_r2
  (.cond (.slot 30)
    (.seq internal_strconv_Atoi_r3
    (.seq (.seq internal_strconv_Atoi_r4
    (.cond (.slot 39)
      (.seq internal_strconv_Atoi_r5
      (.seq internal_strconv_Atoi_r6
      (.cond (.slot 44)
        (.seq internal_strconv_Atoi_r7
        .ret)
        .skip)))
      .skip))
    (.seq internal_strconv_Atoi_r8
    (.seq (.seq internal_strconv_Atoi_r9
    (.block 0 (.loop [5, 6, 47, 48, 49] internal_strconv_Atoi_l0)))
    (.seq (.seq internal_strconv_Atoi_r17
    (.cond (.slot 66)
      internal_strconv_Atoi_r18
      .skip))
    (.seq internal_strconv_Atoi_r19
    .ret))))))
    .skip))
  (.seq internal_strconv_Atoi_r20
  (.seq internal_strconv_Atoi_r21
  .ret)))))
abbrev internal_strconv_Atoi_F : FN := ⟨internal_strconv_Atoi_c, [.slot 2, .slot 3]⟩
theorem internal_strconv_Atoi_ok : compF Tryz.prog Tryz.f108 = some internal_strconv_Atoi_F := by kernel_rfl
theorem internal_strconv_Atoi_go {args : List Value} {m : Mem} {R : Value → Mem → Prop} (hn : args.length ≤ Tryz.f108.ntmps) (h : wpN Tryz.prog internal_strconv_Atoi_c (retP internal_strconv_Atoi_F.rvs R) (zipP 0 args) m) : MC Tryz.prog 108 args m R := MC_start Tryz.func108 internal_strconv_Atoi_ok mixed_ok hn h
/-! internal/strconv.FormatInt -/
abbrev internal_strconv_FormatInt_r0 : NC := .reg
    (.out [(0, (.slot 0)), (1, (.slot 1))])
    [0, 1]
abbrev internal_strconv_FormatInt_r1 : NC := .reg
    (.q 1 (.icm .eql) [(.slot 1), (.const (.int .i64 10))] none
    (.out [(0, (.slot 0)), (1, (.slot 1)), (11, (.res 1))]))
    [0, 1]
abbrev internal_strconv_FormatInt_r2 : NC := .reg
    (.q 1 (.icm .leq) [(.const (.int .i64 0)), (.slot 0)] none
    (.q 3 .mv [(.slot 0)] (some ((.res 1), true))
    (.q 4 (.icm .lss) [(.res 3), (.const (.int .i64 100))] (some ((.res 1), true))
    (.q 5 .pick [(.res 1), (.res 4), (.const (.bool false))] none
    (.out [(0, (.slot 0)), (17, (.res 5))])))))
    [0]
abbrev internal_strconv_FormatInt_r3 : NC := .reg
    (.x 1 (.call 120) [(.slot 0)] none []
    (.out [(4, (.res 1))]))
    [0]
abbrev internal_strconv_FormatInt_r4 : NC := .reg
    (.x 0 (.alc [(.int .u8 0), (.int .u8 0), (.int .u8 0), (.int .u8 0), (.int .u8 0), (.int .u8 0), (.int .u8 0), (.int .u8 0), (.int .u8 0), (.int .u8 0), (.int .u8 0), (.int .u8 0), (.int .u8 0), (.int .u8 0), (.int .u8 0), (.int .u8 0), (.int .u8 0), (.int .u8 0), (.int .u8 0), (.int .u8 0), (.int .u8 0), (.int .u8 0), (.int .u8 0), (.int .u8 0)] 163) [] none []
    (.out [(0, (.slot 0)), (5, (.res 0))]))
    [0]
abbrev internal_strconv_FormatInt_r5 : NC := .reg
    (.q 1 (.conv .u64) [(.slot 0)] none
    (.out [(0, (.slot 0)), (5, (.slot 5)), (6, (.res 1))]))
    [0, 5]
abbrev internal_strconv_FormatInt_r6 : NC := .reg
    (.q 1 (.icm .lss) [(.slot 0), (.const (.int .i64 0))] none
    (.out [(0, (.slot 0)), (5, (.slot 5)), (6, (.slot 6)), (23, (.res 1))]))
    [0, 5, 6]
abbrev internal_strconv_FormatInt_r7 : NC := .reg
    (.q 1 .neg [(.slot 6)] none
    (.out [(0, (.slot 0)), (5, (.slot 5)), (6, (.res 1))]))
    [0, 5, 6]
abbrev internal_strconv_FormatInt_r8 : NC := .reg
    (.x 1 (.call 121) [(.slot 6)] none []
    (.out [(0, (.slot 0)), (5, (.slot 5)), (6, (.slot 6)), (7, (.res 1))]))
    [0, 5, 6]
abbrev internal_strconv_FormatInt_r9 : NC := .reg
    (.q 1 (.iar .add) [(.const (.int .i64 1)), (.slot 7)] none
    (.x 2 .bad [] none []
    (.x 4 (.call 122) [(.res 2), (.slot 6)] none []
    (.out [(0, (.slot 0)), (5, (.slot 5)), (7, (.slot 7))]))))
    [0, 5, 6, 7]
abbrev internal_strconv_FormatInt_r10 : NC := .reg
    (.q 1 (.icm .lss) [(.slot 0), (.const (.int .i64 0))] none
    (.out [(5, (.slot 5)), (7, (.slot 7)), (34, (.res 1))]))
    [0, 5, 7]
abbrev internal_strconv_FormatInt_r11 : NC := .reg
    (.q 0 (.ixa 24 1) [(.slot 5), (.const (.int .i64 0))] none
    (.x 1 (.st 1) [(.res 0), (.const (.int .u8 45))] none []
    (.out [(7, (.slot 7))])))
    [5, 7]
abbrev internal_strconv_FormatInt_r12 : NC := .reg
    (.q 1 (.iar .add) [(.const (.int .i64 1)), (.slot 7)] none
    (.x 2 .bad [] none []
    (.q 3 .b2s [(.res 2)] none
    (.out [(4, (.res 3))]))))
    [7]
abbrev internal_strconv_FormatInt_r13 : NC := .reg
    (.q 1 (.iar .add) [(.const (.int .i64 1)), (.slot 7)] none
    (.x 2 .bad [] none []
    (.q 3 .b2s [(.res 2)] none
    (.out [(4, (.res 3))]))))
    [7]
abbrev internal_strconv_FormatInt_r14 : NC := .reg
    (.q 1 (.conv .u64) [(.slot 0)] none
    (.q 4 (.icm .lss) [(.slot 0), (.const (.int .i64 0))] none
    (.x 5 (.call 123) [(.const (.slice none 0 0)), (.res 1), (.slot 1), (.res 4), (.const (.bool false))] none []
    (.q 7 (.ext 0) [(.res 5)] none
    (.q 8 (.ext 1) [(.res 5)] none
    (.out [(9, (.res 8))]))))))
    [0, 1]
abbrev internal_strconv_FormatInt_r15 : NC := .reg
    (.out [(4, (.slot 9))])
    [9]
abbrev internal_strconv_FormatInt_c : NC :=
  (.seq internal_strconv_FormatInt_r0
  (.seq (.seq internal_strconv_FormatInt_r1
  (.cond (.slot 11)
    (.seq (.seq internal_strconv_FormatInt_r2
    (.cond (.slot 17)
      (.seq internal_strconv_FormatInt_r3
      .ret)
      .skip))
    (.seq internal_strconv_FormatInt_r4
    (.seq internal_strconv_FormatInt_r5
    (.seq (.seq internal_strconv_FormatInt_r6
    (.cond (.slot 23)
      internal_strconv_FormatInt_r7
      .skip))
    (.seq internal_strconv_FormatInt_r8
    (.seq internal_strconv_FormatInt_r9
    (.seq (.seq internal_strconv_FormatInt_r10
    (.cond (.slot 34)
      (.seq internal_strconv_FormatInt_r11
      (.seq internal_strconv_FormatInt_r12
      .ret))
      .skip))
    (.seq internal_strconv_FormatInt_r13
    .ret))))))))
    .skip))
  (.seq internal_strconv_FormatInt_r14
  (.seq internal_strconv_FormatInt_r15
  .ret))))
abbrev internal_strconv_FormatInt_F : FN := ⟨internal_strconv_FormatInt_c, [.slot 4]⟩
theorem internal_strconv_FormatInt_ok : compF Tryz.prog Tryz.f111 = some internal_strconv_FormatInt_F := by kernel_rfl
theorem internal_strconv_FormatInt_go {args : List Value} {m : Mem} {R : Value → Mem → Prop} (hn : args.length ≤ Tryz.f111.ntmps) (h : wpN Tryz.prog internal_strconv_FormatInt_c (retP internal_strconv_FormatInt_F.rvs R) (zipP 0 args) m) : MC Tryz.prog 111 args m R := MC_start Tryz.func111 internal_strconv_FormatInt_ok mixed_ok hn h
/-! internal/stringslite.Index -/
abbrev internal_stringslite_Index_r0 : NC := .reg
    (.out [(0, (.slot 0)), (1, (.slot 1))])
    [0, 1]
abbrev internal_stringslite_Index_r1 : NC := .reg
    (.q 1 .lenz [(.slot 1)] none
    (.out [(0, (.slot 0)), (1, (.slot 1)), (5, (.res 1))]))
    [0, 1]
abbrev internal_stringslite_Index_r2 : NC := .reg
    (.q 1 (.icm .eql) [(.slot 5), (.const (.int .i64 0))] none
    (.q 3 .mv [(.slot 1)] (some ((.res 1), false))
    (.q 4 .mv [(.slot 0)] (some ((.res 1), false))
    (.q 5 (.str .eql) [(.res 3), (.res 4)] (some ((.res 1), false))
    (.q 6 .pick [(.res 1), (.const (.bool true)), (.res 5)] none
    (.out [(0, (.slot 0)), (1, (.slot 1)), (5, (.slot 5)), (16, (.res 6))]))))))
    [0, 1, 5]
abbrev internal_stringslite_Index_r3 : NC := .reg
    (.out [(4, (.const (.int .i64 0)))])
    []
abbrev internal_stringslite_Index_r4 : NC := .reg
    (.q 1 (.icm .eql) [(.slot 5), (.const (.int .i64 1))] none
    (.out [(0, (.slot 0)), (1, (.slot 1)), (5, (.slot 5)), (24, (.res 1))]))
    [0, 1, 5]
abbrev internal_stringslite_Index_r5 : NC := .reg
    (.q 2 .idxs [(.slot 1), (.const (.int .i64 0))] none
    (.x 3 (.call 124) [(.slot 0), (.res 2)] none []
    (.out [(4, (.res 3))])))
    [0, 1]
abbrev internal_stringslite_Index_r6 : NC := .reg
    (.q 2 .lenz [(.slot 0)] none
    (.q 3 (.icm .geq) [(.slot 5), (.res 2)] none
    (.out [(0, (.slot 0)), (1, (.slot 1)), (5, (.slot 5)), (31, (.res 3))])))
    [0, 1, 5]
abbrev internal_stringslite_Index_r7 : NC := .reg
    (.out [(4, (.const (.int .i64 (-1))))])
    []
abbrev internal_stringslite_Index_r8 : NC := .reg
    (.q 1 .ld [(.glob 0)] none
    (.q 2 (.icm .leq) [(.slot 5), (.res 1)] none
    (.q 4 .mv [(.slot 0)] (some ((.res 2), true))
    (.q 5 .lenz [(.res 4)] (some ((.res 2), true))
    (.q 6 (.icm .leq) [(.res 5), (.const (.int .i64 64))] (some ((.res 2), true))
    (.q 7 .pick [(.res 2), (.res 6), (.const (.bool false))] none
    (.out [(0, (.slot 0)), (1, (.slot 1)), (5, (.slot 5)), (36, (.res 7))])))))))
    [0, 1, 5]
abbrev internal_stringslite_Index_r9 : NC := .reg
    (.x 2 .bad [] none []
    (.out [(4, (.res 2))]))
    []
abbrev internal_stringslite_Index_r10 : NC := .reg
    (.q 1 .idxs [(.slot 1), (.const (.int .i64 0))] none
    (.out [(0, (.slot 0)), (1, (.slot 1)), (5, (.slot 5)), (6, (.res 1))]))
    [0, 1, 5]
abbrev internal_stringslite_Index_r11 : NC := .reg
    (.q 1 .idxs [(.slot 1), (.const (.int .i64 1))] none
    (.out [(0, (.slot 0)), (1, (.slot 1)), (5, (.slot 5)), (6, (.slot 6)), (7, (.res 1))]))
    [0, 1, 5, 6]
abbrev internal_stringslite_Index_r12 : NC := .reg
    (.out [(0, (.slot 0)), (1, (.slot 1)), (5, (.slot 5)), (6, (.slot 6)), (7, (.slot 7)), (8, (.const (.int .i64 0)))])
    [0, 1, 5, 6, 7]
abbrev internal_stringslite_Index_r13 : NC := .reg
    (.q 1 .lenz [(.slot 0)] none
    (.q 3 (.iar .sub) [(.res 1), (.slot 5)] none
    (.q 4 (.iar .add) [(.res 3), (.const (.int .i64 1))] none
    (.out [(0, (.slot 0)), (1, (.slot 1)), (5, (.slot 5)), (6, (.slot 6)), (7, (.slot 7)), (8, (.slot 8)), (9, (.res 4))]))))
    [0, 1, 5, 6, 7, 8]
abbrev internal_stringslite_Index_r14 : NC := .reg
    (.out [(0, (.slot 0)), (1, (.slot 1)), (5, (.slot 5)), (6, (.slot 6)), (7, (.slot 7)), (8, (.slot 8)), (9, (.slot 9)), (10, (.const (.int .i64 0)))])
    [0, 1, 5, 6, 7, 8, 9]
abbrev internal_stringslite_Index_r15 : NC := .reg
    (.q 2 (.icm .lss) [(.slot 8), (.slot 9)] none
    (.out [(0, (.slot 0)), (1, (.slot 1)), (5, (.slot 5)), (6, (.slot 6)), (7, (.slot 7)), (8, (.slot 8)), (9, (.slot 9)), (10, (.slot 10)), (59, (.res 2))]))
    [0, 1, 5, 6, 7, 8, 9, 10]
abbrev internal_stringslite_Index_r16 : NC := .reg
    (.q 2 .idxs [(.slot 0), (.slot 8)] none
    (.q 4 (.icm .neq) [(.res 2), (.slot 6)] none
    (.out [(0, (.slot 0)), (1, (.slot 1)), (5, (.slot 5)), (6, (.slot 6)), (7, (.slot 7)), (8, (.slot 8)), (9, (.slot 9)), (10, (.slot 10)), (64, (.res 4))])))
    [0, 1, 5, 6, 7, 8, 9, 10]
abbrev internal_stringslite_Index_r17 : NC := .reg
    (.q 2 (.iar .add) [(.slot 8), (.const (.int .i64 1))] none
    (.q 4 (.slcs true true) [(.slot 0), (.res 2), (.slot 9)] none
    (.x 6 (.call 124) [(.res 4), (.slot 6)] none []
    (.out [(0, (.slot 0)), (1, (.slot 1)), (5, (.slot 5)), (6, (.slot 6)), (7, (.slot 7)), (8, (.slot 8)), (9, (.slot 9)), (10, (.slot 10)), (11, (.res 6))]))))
    [0, 1, 5, 6, 7, 8, 9, 10]
abbrev internal_stringslite_Index_r18 : NC := .reg
    (.q 1 (.icm .lss) [(.slot 11), (.const (.int .i64 0))] none
    (.out [(0, (.slot 0)), (1, (.slot 1)), (5, (.slot 5)), (6, (.slot 6)), (7, (.slot 7)), (8, (.slot 8)), (9, (.slot 9)), (10, (.slot 10)), (11, (.slot 11)), (73, (.res 1))]))
    [0, 1, 5, 6, 7, 8, 9, 10, 11]
abbrev internal_stringslite_Index_r19 : NC := .reg
    (.out [(4, (.const (.int .i64 (-1))))])
    []
abbrev internal_stringslite_Index_r20 : NC := .reg
    (.q 2 (.iar .add) [(.slot 11), (.const (.int .i64 1))] none
    (.q 3 (.iar .add) [(.slot 8), (.res 2)] none
    (.out [(0, (.slot 0)), (1, (.slot 1)), (5, (.slot 5)), (6, (.slot 6)), (7, (.slot 7)), (8, (.res 3)), (9, (.slot 9)), (10, (.slot 10))])))
    [0, 1, 5, 6, 7, 8, 9, 10, 11]
abbrev internal_stringslite_Index_r21 : NC := .reg
    (.q 2 (.iar .add) [(.slot 8), (.const (.int .i64 1))] none
    (.q 3 .idxs [(.slot 0), (.res 2)] none
    (.q 5 (.icm .eql) [(.res 3), (.slot 7)] none
    (.q 7 .mv [(.slot 0)] (some ((.res 5), true))
    (.q 8 .mv [(.slot 8)] (some ((.res 5), true))
    (.q 9 .mv [(.slot 8)] (some ((.res 5), true))
    (.q 10 .mv [(.slot 5)] (some ((.res 5), true))
    (.q 11 (.iar .add) [(.res 9), (.res 10)] (some ((.res 5), true))
    (.q 12 (.slcs true true) [(.res 7), (.res 8), (.res 11)] (some ((.res 5), true))
    (.q 13 .mv [(.slot 1)] (some ((.res 5), true))
    (.q 14 (.str .eql) [(.res 12), (.res 13)] (some ((.res 5), true))
    (.q 15 .pick [(.res 5), (.res 14), (.const (.bool false))] none
    (.out [(0, (.slot 0)), (1, (.slot 1)), (5, (.slot 5)), (6, (.slot 6)), (7, (.slot 7)), (8, (.slot 8)), (9, (.slot 9)), (10, (.slot 10)), (93, (.res 15))])))))))))))))
    [0, 1, 5, 6, 7, 8, 9, 10]
abbrev internal_stringslite_Index_r22 : NC := .reg
    (.out [(4, (.slot 8))])
    [8]
abbrev internal_stringslite_Index_r23 : NC := .reg
    (.q 1 (.iar .add) [(.slot 8), (.const (.int .i64 1))] none
    (.out [(0, (.slot 0)), (1, (.slot 1)), (5, (.slot 5)), (6, (.slot 6)), (7, (.slot 7)), (8, (.res 1)), (9, (.slot 9)), (10, (.slot 10))]))
    [0, 1, 5, 6, 7, 8, 9, 10]
abbrev internal_stringslite_Index_r24 : NC := .reg
    (.q 1 (.iar .add) [(.slot 10), (.const (.int .i64 1))] none
    (.out [(0, (.slot 0)), (1, (.slot 1)), (5, (.slot 5)), (6, (.slot 6)), (7, (.slot 7)), (8, (.slot 8)), (9, (.slot 9)), (10, (.res 1))]))
    [0, 1, 5, 6, 7, 8, 9, 10]
abbrev internal_stringslite_Index_r25 : NC := .reg
    (.q 1 .ld [(.glob 0)] none
    (.q 2 (.icm .leq) [(.slot 5), (.res 1)] none
    (.q 4 .mv [(.slot 10)] (some ((.res 2), true))
    (.q 5 .mv [(.slot 8)] (some ((.res 2), true))
    (.x 6 (.call 126) [(.res 5)] (some ((.res 2), true)) []
    (.q 7 (.icm .gtr) [(.res 4), (.res 6)] (some ((.res 2), true))
    (.q 8 .pick [(.res 2), (.res 7), (.const (.bool false))] none
    (.out [(0, (.slot 0)), (1, (.slot 1)), (5, (.slot 5)), (6, (.slot 6)), (7, (.slot 7)), (8, (.slot 8)), (9, (.slot 9)), (10, (.slot 10)), (107, (.res 8))]))))))))
    [0, 1, 5, 6, 7, 8, 9, 10]
abbrev internal_stringslite_Index_r26 : NC := .reg
    (.q 2 (.slcs true false) [(.slot 0), (.slot 8)] none
    (.x 4 .bad [] none []
    (.out [(8, (.slot 8)), (12, (.res 4))])))
    [0, 8]
abbrev internal_stringslite_Index_r27 : NC := .reg
    (.q 1 (.icm .geq) [(.slot 12), (.const (.int .i64 0))] none
    (.out [(8, (.slot 8)), (12, (.slot 12)), (114, (.res 1))]))
    [8, 12]
abbrev internal_stringslite_Index_r28 : NC := .reg
    (.q 2 (.iar .add) [(.slot 12), (.slot 8)] none
    (.out [(4, (.res 2))]))
    [8, 12]
abbrev internal_stringslite_Index_r29 : NC := .reg
    (.out [(4, (.const (.int .i64 (-1))))])
    []
abbrev internal_stringslite_Index_r30 : NC := .reg
    (.q 1 .ld [(.glob 0)] none
    (.q 2 (.icm .gtr) [(.slot 5), (.res 1)] none
    (.q 4 .mv [(.slot 10)] (some ((.res 2), true))
    (.q 5 .mv [(.slot 8)] (some ((.res 2), true))
    (.q 6 (.ish .shr) [(.res 5), (.const (.int .u64 4))] (some ((.res 2), true))
    (.q 7 (.iar .add) [(.const (.int .i64 4)), (.res 6)] (some ((.res 2), true))
    (.q 8 (.icm .geq) [(.res 4), (.res 7)] (some ((.res 2), true))
    (.q 9 .pick [(.res 2), (.res 8), (.const (.bool false))] none
    (.q 11 .mv [(.slot 8)] (some ((.res 9), true))
    (.q 12 .mv [(.slot 9)] (some ((.res 9), true))
    (.q 13 (.icm .lss) [(.res 11), (.res 12)] (some ((.res 9), true))
    (.q 14 .pick [(.res 9), (.res 13), (.const (.bool false))] none
    (.out [(0, (.slot 0)), (1, (.slot 1)), (5, (.slot 5)), (6, (.slot 6)), (7, (.slot 7)), (8, (.slot 8)), (9, (.slot 9)), (10, (.slot 10)), (132, (.res 14))])))))))))))))
    [0, 1, 5, 6, 7, 8, 9, 10]
abbrev internal_stringslite_Index_r31 : NC := .reg
    (.q 2 (.slcs true false) [(.slot 0), (.slot 8)] none
    (.x 4 (.call 127) [(.res 2), (.slot 1)] none []
    (.out [(8, (.slot 8)), (13, (.res 4))])))
    [0, 1, 8]
abbrev internal_stringslite_Index_r32 : NC := .reg
    (.q 1 (.icm .lss) [(.slot 13), (.const (.int .i64 0))] none
    (.out [(8, (.slot 8)), (13, (.slot 13)), (139, (.res 1))]))
    [8, 13]
abbrev internal_stringslite_Index_r33 : NC := .reg
    (.out [(4, (.const (.int .i64 (-1))))])
    []
abbrev internal_stringslite_Index_r34 : NC := .reg
    (.q 2 (.iar .add) [(.slot 8), (.slot 13)] none
    (.out [(4, (.res 2))]))
    [8, 13]
abbrev internal_stringslite_Index_l0 : NC :=
  (.seq (.seq internal_stringslite_Index_r15
  (.cond (.slot 59)
    .skip
    (.exit 1)))
  (.block 2 (.seq (.seq internal_stringslite_Index_r16
  (.cond (.slot 64)
    (.seq internal_stringslite_Index_r17
    (.seq (.seq internal_stringslite_Index_r18
    (.cond (.slot 73)
      (.seq internal_stringslite_Index_r19
      .ret)
      .skip))
    internal_stringslite_Index_r20))
    .skip))
  (.seq (.seq internal_stringslite_Index_r21
  (.cond (.slot 93)
    (.seq internal_stringslite_Index_r22
    .ret)
    .skip))
  (.seq internal_stringslite_Index_r23
  (.seq internal_stringslite_Index_r24
  (.seq internal_stringslite_Index_r25
  (.cond (.slot 107)
    (.seq internal_stringslite_Index_r26
    (.seq (.seq internal_stringslite_Index_r27
    (.cond (.slot 114)
      (.seq internal_stringslite_Index_r28
      .ret)
      .skip))
    (.seq internal_stringslite_Index_r29
    .ret)))
    (.seq internal_stringslite_Index_r30
    (.cond (.slot 132)
      (.seq internal_stringslite_Index_r31
      (.seq (.seq internal_stringslite_Index_r32
      (.cond (.slot 139)
        (.seq internal_stringslite_Index_r33
        .ret)
        .skip))
      (.seq internal_stringslite_Index_r34
      .ret)))
      .skip))))))))))
abbrev internal_stringslite_Index_r35 : NC := .reg
    (.out [(4, (.const (.int .i64 (-1))))])
    []
abbrev internal_stringslite_Index_c : NC :=
  (.seq internal_stringslite_Index_r0
  (.seq internal_stringslite_Index_r1
  (.seq (.block 0 (.seq internal_stringslite_Index_r2
  (.cond (.slot 16)
    (.seq internal_stringslite_Index_r3
    .ret)
    (.seq internal_stringslite_Index_r4
    (.cond (.slot 24)
      (.seq internal_stringslite_Index_r5
      .ret)
      (.seq internal_stringslite_Index_r6
      (.cond (.slot 31)
        (.seq internal_stringslite_Index_r7
        .ret)
        (.seq internal_stringslite_Index_r8
        (.cond (.slot 36)
          (.seq internal_stringslite_Index_r9
          .ret)
          .skip)))))))))
  (.seq internal_stringslite_Index_r10
  (.seq internal_stringslite_Index_r11
  (.seq internal_stringslite_Index_r12
  (.seq internal_stringslite_Index_r13
  (.seq internal_stringslite_Index_r14
  (.seq (.block 1 (.loop [0, 1, 5, 6, 7, 8, 9, 10] internal_stringslite_Index_l0))
  (.seq internal_stringslite_Index_r35
  .ret))))))))))
abbrev internal_stringslite_Index_F : FN := ⟨internal_stringslite_Index_c, [.slot 4]⟩
theorem internal_stringslite_Index_ok : compF Tryz.prog Tryz.f113 = some internal_stringslite_Index_F := by kernel_rfl
theorem internal_stringslite_Index_go {args : List Value} {m : Mem} {R : Value → Mem → Prop} (hn : args.length ≤ Tryz.f113.ntmps) (h : wpN Tryz.prog internal_stringslite_Index_c (retP internal_stringslite_Index_F.rvs R) (zipP 0 args) m) : MC Tryz.prog 113 args m R := MC_start Tryz.func113 internal_stringslite_Index_ok mixed_ok hn h
/-! internal/stringslite.HasPrefix -/
abbrev internal_stringslite_HasPrefix_r0 : NC := .reg
    (.out [(0, (.slot 0)), (1, (.slot 1))])
    [0, 1]
abbrev internal_stringslite_HasPrefix_r1 : NC := .reg
    (.q 1 .lenz [(.slot 0)] none
    (.q 3 .lenz [(.slot 1)] none
    (.q 4 (.icm .geq) [(.res 1), (.res 3)] none
    (.q 6 .mv [(.slot 0)] (some ((.res 4), true))
    (.q 7 .mv [(.slot 1)] (some ((.res 4), true))
    (.q 8 .lenz [(.res 7)] (some ((.res 4), true))
    (.q 9 (.slcs false true) [(.res 6), (.res 8)] (some ((.res 4), true))
    (.q 10 .mv [(.slot 1)] (some ((.res 4), true))
    (.q 11 (.str .eql) [(.res 9), (.res 10)] (some ((.res 4), true))
    (.q 12 .pick [(.res 4), (.res 11), (.const (.bool false))] none
    (.out [(4, (.res 12))])))))))))))
    [0, 1]
abbrev internal_stringslite_HasPrefix_c : NC :=
  (.seq internal_stringslite_HasPrefix_r0
  (.seq internal_stringslite_HasPrefix_r1
  .ret))
abbrev internal_stringslite_HasPrefix_F : FN := ⟨internal_stringslite_HasPrefix_c, [.slot 4]⟩
theorem internal_stringslite_HasPrefix_ok : compF Tryz.prog Tryz.f114 = some internal_stringslite_HasPrefix_F := by kernel_rfl
theorem internal_stringslite_HasPrefix_go {args : List Value} {m : Mem} {R : Value → Mem → Prop} (hn : args.length ≤ Tryz.f114.ntmps) (h : wpN Tryz.prog internal_stringslite_HasPrefix_c (retP internal_stringslite_HasPrefix_F.rvs R) (zipP 0 args) m) : MC Tryz.prog 114 args m R := MC_start Tryz.func114 internal_stringslite_HasPrefix_ok mixed_ok hn h
/-! internal/strconv.small -/
abbrev internal_strconv_small_r0 : NC := .reg
    (.out [(0, (.slot 0))])
    [0]
abbrev internal_strconv_small_r1 : NC := .reg
    (.q 1 (.icm .lss) [(.slot 0), (.const (.int .i64 10))] none
    (.out [(0, (.slot 0)), (4, (.res 1))]))
    [0]
abbrev internal_strconv_small_r2 : NC := .reg
    (.q 2 (.iar .add) [(.slot 0), (.const (.int .i64 1))] none
    (.q 3 (.slcs true true) [(.const (.string ⟨#[48, 49, 50, 51, 52, 53, 54, 55, 56, 57, 97, 98, 99, 100, 101, 102, 103, 104, 105, 106, 107, 108, 109, 110, 111, 112, 113, 114, 115, 116, 117, 118, 119, 120, 121, 122]⟩)), (.slot 0), (.res 2)] none
    (.out [(2, (.res 3))])))
    [0]
abbrev internal_strconv_small_r3 : NC := .reg
    (.q 1 (.iar .mul) [(.slot 0), (.const (.int .i64 2))] none
    (.q 3 (.iar .mul) [(.slot 0), (.const (.int .i64 2))] none
    (.q 4 (.iar .add) [(.res 3), (.const (.int .i64 2))] none
    (.q 5 (.slcs true true) [(.const (.string ⟨#[48, 48, 48, 49, 48, 50, 48, 51, 48, 52, 48, 53, 48, 54, 48, 55, 48, 56, 48, 57, 49, 48, 49, 49, 49, 50, 49, 51, 49, 52, 49, 53, 49, 54, 49, 55, 49, 56, 49, 57, 50, 48, 50, 49, 50, 50, 50, 51, 50, 52, 50, 53, 50, 54, 50, 55, 50, 56, 50, 57, 51, 48, 51, 49, 51, 50, 51, 51, 51, 52, 51, 53, 51, 54, 51, 55, 51, 56, 51, 57, 52, 48, 52, 49, 52, 50, 52, 51, 52, 52, 52, 53, 52, 54, 52, 55, 52, 56, 52, 57, 53, 48, 53, 49, 53, 50, 53, 51, 53, 52, 53, 53, 53, 54, 53, 55, 53, 56, 53, 57, 54, 48, 54, 49, 54, 50, 54, 51, 54, 52, 54, 53, 54, 54, 54, 55, 54, 56, 54, 57, 55, 48, 55, 49, 55, 50, 55, 51, 55, 52, 55, 53, 55, 54, 55, 55, 55, 56, 55, 57, 56, 48, 56, 49, 56, 50, 56, 51, 56, 52, 56, 53, 56, 54, 56, 55, 56, 56, 56, 57, 57, 48, 57, 49, 57, 50, 57, 51, 57, 52, 57, 53, 57, 54, 57, 55, 57, 56, 57, 57]⟩)), (.res 1), (.res 4)] none
    (.out [(2, (.res 5))])))))
    [0]
abbrev internal_strconv_small_c : NC :=
  (.seq internal_strconv_small_r0
  (.seq (.seq internal_strconv_small_r1
  (.cond (.slot 4)
    (.seq internal_strconv_small_r2
    .ret)
    .skip))
  (.seq internal_strconv_small_r3
  .ret)))
abbrev internal_strconv_small_F : FN := ⟨internal_strconv_small_c, [.slot 2]⟩
theorem internal_strconv_small_ok : compF Tryz.prog Tryz.f120 = some internal_strconv_small_F := by kernel_rfl
theorem internal_strconv_small_go {args : List Value} {m : Mem} {R : Value → Mem → Prop} (hn : args.length ≤ Tryz.f120.ntmps) (h : wpN Tryz.prog internal_strconv_small_c (retP internal_strconv_small_F.rvs R) (zipP 0 args) m) : MC Tryz.prog 120 args m R := MC_start Tryz.func120 internal_strconv_small_ok mixed_ok hn h
/-! internal/stringslite.IndexByte -/
abbrev internal_stringslite_IndexByte_r0 : NC := .reg
    (.out [(0, (.slot 0)), (1, (.slot 1))])
    [0, 1]
abbrev internal_stringslite_IndexByte_r1 : NC := .reg
    (.q 2 .ixb [(.slot 0), (.slot 1)] none
    (.out [(4, (.res 2))]))
    [0, 1]
abbrev internal_stringslite_IndexByte_c : NC :=
  (.seq internal_stringslite_IndexByte_r0
  (.seq internal_stringslite_IndexByte_r1
  .ret))
abbrev internal_stringslite_IndexByte_F : FN := ⟨internal_stringslite_IndexByte_c, [.slot 4]⟩
theorem internal_stringslite_IndexByte_ok : compF Tryz.prog Tryz.f124 = some internal_stringslite_IndexByte_F := by kernel_rfl
theorem internal_stringslite_IndexByte_go {args : List Value} {m : Mem} {R : Value → Mem → Prop} (hn : args.length ≤ Tryz.f124.ntmps) (h : wpN Tryz.prog internal_stringslite_IndexByte_c (retP internal_stringslite_IndexByte_F.rvs R) (zipP 0 args) m) : MC Tryz.prog 124 args m R := MC_start Tryz.func124 internal_stringslite_IndexByte_ok mixed_ok hn h
-- NOT internal/bytealg.IndexString: no body
end Go.Fw
