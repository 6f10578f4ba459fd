import Derived.Test.YtpjecpkkcabnjaaGreatDoorFxA
import Derived.Test.YtpjecpkkcabnjaaGreatDoorProg
set_option linter.unusedVariables false
set_option linter.unusedSimpArgs false
namespace Go.Fw
open Go.Proofs
abbrev T_int : Nat := 3
abbrev T_uint8 : Nat := 5
abbrev T_string : Nat := 9
abbrev T_api_Step : Nat := 26
abbrev T_shell_kind : Nat := 40
abbrev T_P_int : Nat := 47
abbrev T_P_string : Nat := 52
abbrev n_law29_ShellLines : Nat := 3
abbrev n_keep_Light : Nat := 4
abbrev n_law29_edge : Nat := 5
abbrev n_shell_Line : Nat := 6
abbrev n_law29_line : Nat := 7
abbrev n_shell_Parse : Nat := 8
abbrev n_law29_same : Nat := 9
abbrev n_law29_told : Nat := 10
abbrev n_law29_names : Nat := 11
abbrev n_law29_ShellRuns : Nat := 12
abbrev n_slices_IndexFunc_shell_kind_shell_kind : Nat := 13
abbrev n_shell_kinds : Nat := 14
abbrev n_shell_Line_c1 : Nat := 15
abbrev n_shell_numbers : Nat := 16
abbrev n_strconv_Itoa : Nat := 17
abbrev n_shell_texts : Nat := 18
abbrev n_shell_word : Nat := 19
abbrev n_strings_Join : Nat := 20
abbrev n_law29_word : Nat := 21
abbrev n_shell_read : Nat := 22
abbrev n_strings_Split : Nat := 23
abbrev n_book_Same_int : Nat := 24
abbrev n_shell_plain : Nat := 27
abbrev n_shell_number : Nat := 31
abbrev n_shell_text : Nat := 32
abbrev n_strings_genSplit : Nat := 33
abbrev n_strconv_Atoi : Nat := 44
abbrev n_strings_IndexByte : Nat := 45
abbrev n_strings_Count : Nat := 47
abbrev n_strings_Index : Nat := 48
abbrev n_internal_stringslite_IndexByte : Nat := 80
abbrev n_internal_stringslite_Index : Nat := 84
theorem mixed_ok : Tryz.prog.follows .mixedOrders = true := by kernel_rfl
end Go.Fw
namespace Go.Fw
open Go.Proofs
/-! concord/shell.Line -/
abbrev shell_Line_r0 : NC := .reg
    (.x 0 (.box 26) [(.slot 0)] none []
    (.out [(1, (.res 0))]))
    [0]
abbrev shell_Line_r1 : NC := .reg
    (.x 0 (.call 14) [] none []
    (.q 1 (.mkf (.func 15) 0) [(.slot 1)] none
    (.x 2 (.call 13) [(.res 0), (.res 1)] none []
    (.out [(1, (.slot 1)), (3, (.res 2))]))))
    [1]
abbrev shell_Line_r2 : NC := .reg
    (.q 1 (.icm .lss) [(.slot 3), (.const (.int .i64 0))] none
    (.out [(1, (.slot 1)), (3, (.slot 3)), (15, (.res 1))]))
    [1, 3]
abbrev shell_Line_r3 : NC := .reg
    (.out [(2, (.const (.string ⟨#[]⟩)))])
    []
abbrev shell_Line_r4 : NC := .reg
    (.x 0 (.call 14) [] none []
    (.q 2 (.ixs 4) [(.res 0), (.slot 3)] none
    (.q 3 (.fld 0) [(.res 2)] none
    (.q 4 .ld [(.res 3)] none
    (.x 5 (.bsl 9 1 [(.string ⟨#[]⟩)] [(0, 1)]) [(.res 4)] none []
    (.out [(1, (.slot 1)), (4, (.res 5))]))))))
    [1, 3]
abbrev shell_Line_r5 : NC := .reg
    (.x 0 (.call 16) [(.slot 1)] none []
    (.q 1 .len [(.res 0)] none
    (.out [(1, (.slot 1)), (4, (.slot 4)), (22, (.res 0)), (23, (.res 1)), (24, (.const (.int .i64 0)))])))
    [1, 4]
abbrev shell_Line_r6 : NC := .reg
    (.q 0 (.icm .lss) [(.slot 24), (.slot 23)] none
    (.out [(1, (.slot 1)), (4, (.slot 4)), (22, (.slot 22)), (23, (.slot 23)), (24, (.slot 24)), (25, (.res 0))]))
    [1, 4, 22, 23, 24]
abbrev shell_Line_r7 : NC := .reg
    (.q 0 (.ixs 1) [(.slot 22), (.slot 24)] none
    (.q 1 .ld [(.res 0)] none
    (.out [(1, (.slot 1)), (4, (.slot 4)), (6, (.res 1)), (22, (.slot 22)), (23, (.slot 23)), (24, (.slot 24))])))
    [1, 4, 22, 23, 24]
abbrev shell_Line_r8 : NC := .reg
    (.q 2 .nilck [(.slot 6)] none
    (.q 3 .ld [(.res 2)] none
    (.x 4 (.call 17) [(.res 3)] none []
    (.x 5 (.bsl 9 1 [(.string ⟨#[]⟩)] [(0, 1)]) [(.res 4)] none []
    (.x 6 (.app 9 1 16 [(.string ⟨#[]⟩)]) [(.slot 4), (.res 5)] none []
    (.out [(1, (.slot 1)), (4, (.res 6)), (22, (.slot 22)), (23, (.slot 23)), (24, (.slot 24))]))))))
    [1, 4, 6, 22, 23, 24]
abbrev shell_Line_r9 : NC := .reg
    (.q 0 (.iar .add) [(.slot 24), (.const (.int .i64 1))] none
    (.out [(1, (.slot 1)), (4, (.slot 4)), (22, (.slot 22)), (23, (.slot 23)), (24, (.res 0))]))
    [1, 4, 22, 23, 24]
abbrev shell_Line_l0 : NC :=
  (.seq shell_Line_r6
  (.seq (.cond (.slot 25)
    .skip
    (.exit 0))
  (.seq (.block 1 (.seq shell_Line_r7
  shell_Line_r8))
  shell_Line_r9)))
abbrev shell_Line_r10 : NC := .reg
    (.q 0 (.fld 0) [(.slot 1)] none
    (.q 1 .ld [(.res 0)] none
    (.q 2 (.icm .eql) [(.res 1), (.const (.int .i64 1))] none
    (.out [(1, (.slot 1)), (4, (.slot 4)), (38, (.res 2))]))))
    [1, 4]
abbrev shell_Line_r11 : NC := .reg
    (.q 0 (.fld 4) [(.slot 1)] none
    (.x 1 (.call 18) [(.res 0)] none []
    (.q 2 .len [(.res 1)] none
    (.out [(1, (.slot 1)), (4, (.slot 4)), (40, (.res 1)), (41, (.res 2)), (42, (.const (.int .i64 0)))]))))
    [1, 4]
abbrev shell_Line_r12 : NC := .reg
    (.q 0 (.icm .lss) [(.slot 42), (.slot 41)] none
    (.out [(1, (.slot 1)), (4, (.slot 4)), (40, (.slot 40)), (41, (.slot 41)), (42, (.slot 42)), (43, (.res 0))]))
    [1, 4, 40, 41, 42]
abbrev shell_Line_r13 : NC := .reg
    (.q 0 (.ixs 1) [(.slot 40), (.slot 42)] none
    (.q 1 .ld [(.res 0)] none
    (.out [(1, (.slot 1)), (4, (.slot 4)), (8, (.res 1)), (40, (.slot 40)), (41, (.slot 41)), (42, (.slot 42))])))
    [1, 4, 40, 41, 42]
abbrev shell_Line_r14 : NC := .reg
    (.q 2 .nilck [(.slot 8)] none
    (.q 3 .ld [(.res 2)] none
    (.x 4 (.call 19) [(.res 3)] none []
    (.x 5 (.bsl 9 1 [(.string ⟨#[]⟩)] [(0, 1)]) [(.res 4)] none []
    (.x 6 (.app 9 1 16 [(.string ⟨#[]⟩)]) [(.slot 4), (.res 5)] none []
    (.out [(1, (.slot 1)), (4, (.res 6)), (40, (.slot 40)), (41, (.slot 41)), (42, (.slot 42))]))))))
    [1, 4, 8, 40, 41, 42]
abbrev shell_Line_r15 : NC := .reg
    (.q 0 (.iar .add) [(.slot 42), (.const (.int .i64 1))] none
    (.out [(1, (.slot 1)), (4, (.slot 4)), (40, (.slot 40)), (41, (.slot 41)), (42, (.res 0))]))
    [1, 4, 40, 41, 42]
abbrev shell_Line_l1 : NC :=
  (.seq shell_Line_r12
  (.seq (.cond (.slot 43)
    .skip
    (.exit 2))
  (.seq (.block 3 (.seq shell_Line_r13
  shell_Line_r14))
  shell_Line_r15)))
abbrev shell_Line_r16 : NC := .reg
    (.q 0 (.fld 0) [(.slot 1)] none
    (.q 1 .ld [(.res 0)] none
    (.q 2 (.icm .eql) [(.res 1), (.const (.int .i64 8))] none
    (.out [(1, (.slot 1)), (4, (.slot 4)), (56, (.res 2))]))))
    [1, 4]
abbrev shell_Line_r17 : NC := .reg
    (.q 0 (.fld 11) [(.slot 1)] none
    (.q 1 .ld [(.res 0)] none
    (.q 2 .len [(.res 1)] none
    (.out [(4, (.slot 4)), (58, (.res 1)), (59, (.res 2)), (60, (.const (.int .i64 0)))]))))
    [1, 4]
abbrev shell_Line_r18 : NC := .reg
    (.q 0 (.icm .lss) [(.slot 60), (.slot 59)] none
    (.out [(4, (.slot 4)), (58, (.slot 58)), (59, (.slot 59)), (60, (.slot 60)), (61, (.res 0))]))
    [4, 58, 59, 60]
abbrev shell_Line_r19 : NC := .reg
    (.q 0 (.ixs 1) [(.slot 58), (.slot 60)] none
    (.q 1 .ld [(.res 0)] none
    (.out [(4, (.slot 4)), (10, (.res 1)), (58, (.slot 58)), (59, (.slot 59)), (60, (.slot 60))])))
    [4, 58, 59, 60]
abbrev shell_Line_r20 : NC := .reg
    (.x 2 (.call 17) [(.slot 10)] none []
    (.x 3 (.bsl 9 1 [(.string ⟨#[]⟩)] [(0, 1)]) [(.res 2)] none []
    (.x 4 (.app 9 1 16 [(.string ⟨#[]⟩)]) [(.slot 4), (.res 3)] none []
    (.out [(4, (.res 4)), (58, (.slot 58)), (59, (.slot 59)), (60, (.slot 60))]))))
    [4, 10, 58, 59, 60]
abbrev shell_Line_r21 : NC := .reg
    (.q 0 (.iar .add) [(.slot 60), (.const (.int .i64 1))] none
    (.out [(4, (.slot 4)), (58, (.slot 58)), (59, (.slot 59)), (60, (.res 0))]))
    [4, 58, 59, 60]
abbrev shell_Line_l2 : NC :=
  (.seq shell_Line_r18
  (.seq (.cond (.slot 61)
    .skip
    (.exit 4))
  (.seq (.block 5 (.seq shell_Line_r19
  shell_Line_r20))
  shell_Line_r21)))
abbrev shell_Line_r22 : NC := .reg
    (.x 1 (.call 20) [(.slot 4), (.const (.string ⟨#[32]⟩))] none []
    (.out [(2, (.res 1))]))
    [4]
abbrev shell_Line_c : NC :=
  (.seq shell_Line_r0
  (.seq shell_Line_r1
  (.seq (.seq shell_Line_r2
  (.cond (.slot 15)
    (.seq shell_Line_r3
    .ret)
    .skip))
  (.seq shell_Line_r4
  (.seq (.seq shell_Line_r5
  (.block 0 (.loop [1, 4, 22, 23, 24] shell_Line_l0)))
  (.seq (.seq shell_Line_r10
  (.cond (.slot 38)
    (.seq shell_Line_r11
    (.block 2 (.loop [1, 4, 40, 41, 42] shell_Line_l1)))
    .skip))
  (.seq (.seq shell_Line_r16
  (.cond (.slot 56)
    (.seq shell_Line_r17
    (.block 4 (.loop [4, 58, 59, 60] shell_Line_l2)))
    .skip))
  (.seq shell_Line_r22
  .ret))))))))
abbrev shell_Line_F : FN := ⟨shell_Line_c, [.slot 2]⟩
theorem shell_Line_ok : compF Tryz.prog Tryz.f6 = some shell_Line_F := by kernel_rfl
theorem shell_Line_go {args : List Value} {m : Mem} {R : Value → Mem → Prop} (hn : args.length ≤ Tryz.f6.ntmps) (h : wpN Tryz.prog shell_Line_c (retP shell_Line_F.rvs R) (zipP 0 args) m) : MC Tryz.prog 6 args m R := MC_start Tryz.func6 shell_Line_ok mixed_ok hn h
/-! concord/shell.Parse -/
abbrev shell_Parse_r0 : NC := .reg
    (.x 0 (.alc [(.int .i64 0), (.int .i64 0), (.int .i64 0), (.int .i64 0), (.int .i64 0), (.int .i64 0), (.int .i64 0), (.string ⟨#[]⟩), (.string ⟨#[]⟩), (.string ⟨#[]⟩), (.string ⟨#[]⟩), (.slice none 0 0)] 26) [] none []
    (.out [(0, (.slot 0)), (2, (.res 0))]))
    [0]
abbrev shell_Parse_r1 : NC := .reg
    (.q 1 .lenz [(.slot 0)] none
    (.q 2 (.icm .gtr) [(.res 1), (.const (.int .i64 5000))] none
    (.out [(0, (.slot 0)), (2, (.slot 2)), (7, (.res 2))])))
    [0, 2]
abbrev shell_Parse_r2 : NC := .reg
    (.q 0 (.bld [(.int .i64 0), (.int .i64 0), (.int .i64 0), (.int .i64 0), (.int .i64 0), (.int .i64 0), (.int .i64 0), (.string ⟨#[]⟩), (.string ⟨#[]⟩), (.string ⟨#[]⟩), (.string ⟨#[]⟩), (.slice none 0 0)] []) [] none
    (.x 1 (.st 12) [(.slot 2), (.res 0)] none []
    (.out [(2, (.slot 2)), (3, (.const (.int .i64 2)))])))
    [2]
abbrev shell_Parse_r3 : NC := .reg
    (.x 1 (.call 23) [(.slot 0), (.const (.string ⟨#[32]⟩))] none []
    (.x 2 (.call 22) [(.res 1)] none []
    (.x 3 (.alc [(.int .i64 0), (.int .i64 0), (.int .i64 0), (.int .i64 0), (.int .i64 0), (.int .i64 0), (.int .i64 0), (.string ⟨#[]⟩), (.string ⟨#[]⟩), (.string ⟨#[]⟩), (.string ⟨#[]⟩), (.slice none 0 0)] 26) [] none []
    (.x 4 (.st 12) [(.res 3), (.res 2)] none []
    (.out [(0, (.slot 0)), (2, (.slot 2)), (4, (.res 3))])))))
    [0, 2]
abbrev shell_Parse_r4 : NC := .reg
    (.q 1 (.str .eql) [(.slot 0), (.const (.string ⟨#[]⟩))] none
    (.q 3 (.lda 12) [(.slot 4)] (some ((.res 1), false))
    (.x 4 (.call 6) [(.res 3)] (some ((.res 1), false)) []
    (.q 5 .mv [(.slot 0)] (some ((.res 1), false))
    (.q 6 (.str .neq) [(.res 4), (.res 5)] (some ((.res 1), false))
    (.q 7 .pick [(.res 1), (.const (.bool true)), (.res 6)] none
    (.out [(2, (.slot 2)), (4, (.slot 4)), (19, (.res 7))])))))))
    [0, 2, 4]
abbrev shell_Parse_r5 : NC := .reg
    (.q 0 (.bld [(.int .i64 0), (.int .i64 0), (.int .i64 0), (.int .i64 0), (.int .i64 0), (.int .i64 0), (.int .i64 0), (.string ⟨#[]⟩), (.string ⟨#[]⟩), (.string ⟨#[]⟩), (.string ⟨#[]⟩), (.slice none 0 0)] []) [] none
    (.x 1 (.st 12) [(.slot 2), (.res 0)] none []
    (.out [(2, (.slot 2)), (3, (.const (.int .i64 4)))])))
    [2]
abbrev shell_Parse_r6 : NC := .reg
    (.q 0 (.lda 12) [(.slot 4)] none
    (.x 1 (.st 12) [(.slot 2), (.res 0)] none []
    (.out [(2, (.slot 2)), (3, (.const (.int .i64 0)))])))
    [2, 4]
abbrev shell_Parse_c : NC :=
  (.seq shell_Parse_r0
  (.seq (.seq shell_Parse_r1
  (.cond (.slot 7)
    (.seq shell_Parse_r2
    .ret)
    .skip))
  (.seq shell_Parse_r3
  (.seq (.seq shell_Parse_r4
  (.cond (.slot 19)
    (.seq shell_Parse_r5
    .ret)
    .skip))
  (.seq shell_Parse_r6
  .ret)))))
abbrev shell_Parse_F : FN := ⟨shell_Parse_c, [.cells 2 12, .slot 3]⟩
theorem shell_Parse_ok : compF Tryz.prog Tryz.f8 = some shell_Parse_F := by kernel_rfl
theorem shell_Parse_go {args : List Value} {m : Mem} {R : Value → Mem → Prop} (hn : args.length ≤ Tryz.f8.ntmps) (h : wpN Tryz.prog shell_Parse_c (retP shell_Parse_F.rvs R) (zipP 0 args) m) : MC Tryz.prog 8 args m R := MC_start Tryz.func8 shell_Parse_ok mixed_ok hn h
/-! concord/shell.kinds -/
abbrev shell_kinds_r0 : NC := .reg
    (.out [])
    []
abbrev shell_kinds_r1 : NC := .reg
    (.q 0 (.bld [(.string ⟨#[]⟩), (.int .i64 0), (.int .i64 0), (.int .i64 0)] [(0, 1), (1, 1), (2, 1), (3, 1)]) [(.const (.string ⟨#[103, 101, 116]⟩)), (.const (.int .i64 1)), (.const (.int .i64 1)), (.const (.int .i64 2))] none
    (.q 1 (.bld [(.string ⟨#[]⟩), (.int .i64 0), (.int .i64 0), (.int .i64 0)] [(0, 1), (1, 1), (2, 1), (3, 1)]) [(.const (.string ⟨#[112, 117, 116]⟩)), (.const (.int .i64 1)), (.const (.int .i64 2)), (.const (.int .i64 2))] none
    (.q 2 (.bld [(.string ⟨#[]⟩), (.int .i64 0), (.int .i64 0), (.int .i64 0)] [(0, 1), (1, 1), (2, 1), (3, 1)]) [(.const (.string ⟨#[100, 101, 108]⟩)), (.const (.int .i64 1)), (.const (.int .i64 3)), (.const (.int .i64 2))] none
    (.q 3 (.bld [(.string ⟨#[]⟩), (.int .i64 0), (.int .i64 0), (.int .i64 0)] [(0, 1), (1, 1), (2, 1), (3, 1)]) [(.const (.string ⟨#[115, 119, 97, 112]⟩)), (.const (.int .i64 1)), (.const (.int .i64 4)), (.const (.int .i64 2))] none
    (.q 4 (.bld [(.string ⟨#[]⟩), (.int .i64 0), (.int .i64 0), (.int .i64 0)] [(0, 1), (1, 1), (2, 1), (3, 1)]) [(.const (.string ⟨#[114, 97, 110, 103, 101]⟩)), (.const (.int .i64 1)), (.const (.int .i64 5)), (.const (.int .i64 2))] none
    (.q 5 (.bld [(.string ⟨#[]⟩), (.int .i64 0), (.int .i64 0), (.int .i64 0)] [(0, 1), (1, 1), (2, 1), (3, 1)]) [(.const (.string ⟨#[103, 105, 118, 101]⟩)), (.const (.int .i64 2)), (.const (.int .i64 0)), (.const (.int .i64 1))] none
    (.q 6 (.bld [(.string ⟨#[]⟩), (.int .i64 0), (.int .i64 0), (.int .i64 0)] [(0, 1), (1, 1), (2, 1), (3, 1)]) [(.const (.string ⟨#[99, 111, 112, 121]⟩)), (.const (.int .i64 3)), (.const (.int .i64 0)), (.const (.int .i64 1))] none
    (.q 7 (.bld [(.string ⟨#[]⟩), (.int .i64 0), (.int .i64 0), (.int .i64 0)] [(0, 1), (1, 1), (2, 1), (3, 1)]) [(.const (.string ⟨#[108, 111, 115, 101]⟩)), (.const (.int .i64 4)), (.const (.int .i64 0)), (.const (.int .i64 1))] none
    (.q 8 (.bld [(.string ⟨#[]⟩), (.int .i64 0), (.int .i64 0), (.int .i64 0)] [(0, 1), (1, 1), (2, 1), (3, 1)]) [(.const (.string ⟨#[116, 105, 99, 107]⟩)), (.const (.int .i64 5)), (.const (.int .i64 0)), (.const (.int .i64 1))] none
    (.q 9 (.bld [(.string ⟨#[]⟩), (.int .i64 0), (.int .i64 0), (.int .i64 0)] [(0, 1), (1, 1), (2, 1), (3, 1)]) [(.const (.string ⟨#[116, 105, 109, 101]⟩)), (.const (.int .i64 6)), (.const (.int .i64 0)), (.const (.int .i64 1))] none
    (.q 10 (.bld [(.string ⟨#[]⟩), (.int .i64 0), (.int .i64 0), (.int .i64 0)] [(0, 1), (1, 1), (2, 1), (3, 1)]) [(.const (.string ⟨#[115, 116, 97, 114, 116]⟩)), (.const (.int .i64 9)), (.const (.int .i64 0)), (.const (.int .i64 1))] none
    (.q 11 (.bld [(.string ⟨#[]⟩), (.int .i64 0), (.int .i64 0), (.int .i64 0)] [(0, 1), (1, 1), (2, 1), (3, 1)]) [(.const (.string ⟨#[97, 114, 109]⟩)), (.const (.int .i64 7)), (.const (.int .i64 0)), (.const (.int .i64 2))] none
    (.q 12 (.bld [(.string ⟨#[]⟩), (.int .i64 0), (.int .i64 0), (.int .i64 0)] [(0, 1), (1, 1), (2, 1), (3, 1)]) [(.const (.string ⟨#[99, 114, 97, 115, 104]⟩)), (.const (.int .i64 8)), (.const (.int .i64 0)), (.const (.int .i64 1))] none
    (.x 13 (.bsl 40 13 [(.string ⟨#[]⟩), (.int .i64 0), (.int .i64 0), (.int .i64 0), (.string ⟨#[]⟩), (.int .i64 0), (.int .i64 0), (.int .i64 0), (.string ⟨#[]⟩), (.int .i64 0), (.int .i64 0), (.int .i64 0), (.string ⟨#[]⟩), (.int .i64 0), (.int .i64 0), (.int .i64 0), (.string ⟨#[]⟩), (.int .i64 0), (.int .i64 0), (.int .i64 0), (.string ⟨#[]⟩), (.int .i64 0), (.int .i64 0), (.int .i64 0), (.string ⟨#[]⟩), (.int .i64 0), (.int .i64 0), (.int .i64 0), (.string ⟨#[]⟩), (.int .i64 0), (.int .i64 0), (.int .i64 0), (.string ⟨#[]⟩), (.int .i64 0), (.int .i64 0), (.int .i64 0), (.string ⟨#[]⟩), (.int .i64 0), (.int .i64 0), (.int .i64 0), (.string ⟨#[]⟩), (.int .i64 0), (.int .i64 0), (.int .i64 0), (.string ⟨#[]⟩), (.int .i64 0), (.int .i64 0), (.int .i64 0), (.string ⟨#[]⟩), (.int .i64 0), (.int .i64 0), (.int .i64 0)] [(0, 4), (4, 4), (8, 4), (12, 4), (16, 4), (20, 4), (24, 4), (28, 4), (32, 4), (36, 4), (40, 4), (44, 4), (48, 4)]) [(.res 0), (.res 1), (.res 2), (.res 3), (.res 4), (.res 5), (.res 6), (.res 7), (.res 8), (.res 9), (.res 10), (.res 11), (.res 12)] none []
    (.out [(0, (.res 13))])))))))))))))))
    []
abbrev shell_kinds_c : NC :=
  (.seq shell_kinds_r0
  (.seq shell_kinds_r1
  .ret))
abbrev shell_kinds_F : FN := ⟨shell_kinds_c, [.slot 0]⟩
theorem shell_kinds_ok : compF Tryz.prog Tryz.f14 = some shell_kinds_F := by kernel_rfl
theorem shell_kinds_go {args : List Value} {m : Mem} {R : Value → Mem → Prop} (hn : args.length ≤ Tryz.f14.ntmps) (h : wpN Tryz.prog shell_kinds_c (retP shell_kinds_F.rvs R) (zipP 0 args) m) : MC Tryz.prog 14 args m R := MC_start Tryz.func14 shell_kinds_ok mixed_ok hn h
/-! concord/shell.Line$1 -/
abbrev shell_Line_c1_r0 : NC := .reg
    (.x 0 (.box 40) [(.slot 0)] none []
    (.out [(1, (.slot 1)), (2, (.res 0))]))
    [0, 1]
abbrev shell_Line_c1_r1 : NC := .reg
    (.q 0 (.fld 1) [(.slot 2)] none
    (.q 1 .ld [(.res 0)] none
    (.q 2 (.fld 0) [(.slot 1)] none
    (.q 3 .ld [(.res 2)] none
    (.q 4 (.icm .eql) [(.res 1), (.res 3)] none
    (.q 6 (.fld 1) [(.slot 2)] (some ((.res 4), true))
    (.q 7 .ld [(.res 6)] (some ((.res 4), true))
    (.q 8 (.icm .neq) [(.res 7), (.const (.int .i64 1))] (some ((.res 4), true))
    (.q 9 .mv [(.res 8)] (some ((.res 4), true))
    (.q 10 (.fld 2) [(.slot 2)] (some ((.res 9), false))
    (.q 11 .ld [(.res 10)] (some ((.res 9), false))
    (.q 12 (.fld 4) [(.slot 1)] (some ((.res 9), false))
    (.q 13 (.fld 0) [(.res 12)] (some ((.res 9), false))
    (.q 14 .ld [(.res 13)] (some ((.res 9), false))
    (.q 15 (.icm .eql) [(.res 11), (.res 14)] (some ((.res 9), false))
    (.q 16 .pick [(.res 9), (.const (.bool true)), (.res 15)] (some ((.res 4), true))
    (.q 17 .pick [(.res 4), (.res 16), (.const (.bool false))] none
    (.out [(3, (.res 17))]))))))))))))))))))
    [1, 2]
abbrev shell_Line_c1_c : NC :=
  (.seq shell_Line_c1_r0
  (.seq shell_Line_c1_r1
  .ret))
abbrev shell_Line_c1_F : FN := ⟨shell_Line_c1_c, [.slot 3]⟩
theorem shell_Line_c1_ok : compF Tryz.prog Tryz.f15 = some shell_Line_c1_F := by kernel_rfl
theorem shell_Line_c1_go {args : List Value} {m : Mem} {R : Value → Mem → Prop} (hn : args.length ≤ Tryz.f15.ntmps) (h : wpN Tryz.prog shell_Line_c1_c (retP shell_Line_c1_F.rvs R) (zipP 0 args) m) : MC Tryz.prog 15 args m R := MC_start Tryz.func15 shell_Line_c1_ok mixed_ok hn h
/-! concord/shell.numbers -/
abbrev shell_numbers_r0 : NC := .reg
    (.out [(0, (.slot 0))])
    [0]
abbrev shell_numbers_r1 : NC := .reg
    (.q 1 .nilck [(.slot 0)] none
    (.q 2 (.fld 0) [(.res 1)] none
    (.q 3 .ld [(.res 2)] none
    (.out [(0, (.slot 0)), (6, (.res 3))]))))
    [0]
abbrev shell_numbers_r2 : NC := .reg
    (.q 0 (.icm .eql) [(.slot 6), (.const (.int .i64 1))] none
    (.out [(0, (.slot 0)), (6, (.slot 6)), (7, (.res 0))]))
    [0, 6]
abbrev shell_numbers_r3 : NC := .reg
    (.q 1 .nilck [(.slot 0)] none
    (.q 2 (.fld 3) [(.res 1)] none
    (.q 4 .nilck [(.slot 0)] none
    (.q 5 (.fld 1) [(.res 4)] none
    (.x 6 (.bsl 47 2 [(.pointer none), (.pointer none)] [(0, 1), (1, 1)]) [(.res 2), (.res 5)] none []
    (.out [(2, (.res 6))]))))))
    [0]
abbrev shell_numbers_r4 : NC := .reg
    (.q 0 (.icm .eql) [(.slot 6), (.const (.int .i64 7))] none
    (.out [(0, (.slot 0)), (16, (.res 0))]))
    [0, 6]
abbrev shell_numbers_r5 : NC := .reg
    (.q 1 .nilck [(.slot 0)] none
    (.q 2 (.fld 1) [(.res 1)] none
    (.q 4 .nilck [(.slot 0)] none
    (.q 5 (.fld 2) [(.res 4)] none
    (.x 6 (.bsl 47 2 [(.pointer none), (.pointer none)] [(0, 1), (1, 1)]) [(.res 2), (.res 5)] none []
    (.out [(2, (.res 6))]))))))
    [0]
abbrev shell_numbers_r6 : NC := .reg
    (.q 1 .nilck [(.slot 0)] none
    (.q 2 (.fld 1) [(.res 1)] none
    (.x 3 (.bsl 47 1 [(.pointer none)] [(0, 1)]) [(.res 2)] none []
    (.out [(2, (.res 3))]))))
    [0]
abbrev shell_numbers_c : NC :=
  (.seq shell_numbers_r0
  (.seq (.seq shell_numbers_r1
  (.block 0 (.seq shell_numbers_r2
  (.cond (.slot 7)
    (.seq shell_numbers_r3
    .ret)
    (.seq shell_numbers_r4
    (.cond (.slot 16)
      (.seq shell_numbers_r5
      .ret)
      .skip))))))
  (.seq shell_numbers_r6
  .ret)))
abbrev shell_numbers_F : FN := ⟨shell_numbers_c, [.slot 2]⟩
theorem shell_numbers_ok : compF Tryz.prog Tryz.f16 = some shell_numbers_F := by kernel_rfl
theorem shell_numbers_go {args : List Value} {m : Mem} {R : Value → Mem → Prop} (hn : args.length ≤ Tryz.f16.ntmps) (h : wpN Tryz.prog shell_numbers_c (retP shell_numbers_F.rvs R) (zipP 0 args) m) : MC Tryz.prog 16 args m R := MC_start Tryz.func16 shell_numbers_ok mixed_ok hn h
/-! concord/shell.texts -/
abbrev shell_texts_r0 : NC := .reg
    (.out [(0, (.slot 0))])
    [0]
abbrev shell_texts_r1 : NC := .reg
    (.q 1 .nilck [(.slot 0)] none
    (.q 2 (.fld 0) [(.res 1)] none
    (.q 3 .ld [(.res 2)] none
    (.out [(0, (.slot 0)), (6, (.res 3))]))))
    [0]
abbrev shell_texts_r2 : NC := .reg
    (.q 0 (.icm .eql) [(.slot 6), (.const (.int .i64 2))] none
    (.out [(0, (.slot 0)), (6, (.slot 6)), (7, (.res 0))]))
    [0, 6]
abbrev shell_texts_r3 : NC := .reg
    (.q 1 .nilck [(.slot 0)] none
    (.q 2 (.fld 3) [(.res 1)] none
    (.q 4 .nilck [(.slot 0)] none
    (.q 5 (.fld 6) [(.res 4)] none
    (.x 6 (.bsl 52 2 [(.pointer none), (.pointer none)] [(0, 1), (1, 1)]) [(.res 2), (.res 5)] none []
    (.out [(2, (.res 6))]))))))
    [0]
abbrev shell_texts_r4 : NC := .reg
    (.q 0 (.icm .eql) [(.slot 6), (.const (.int .i64 4))] none
    (.out [(0, (.slot 0)), (6, (.slot 6)), (16, (.res 0))]))
    [0, 6]
abbrev shell_texts_r5 : NC := .reg
    (.q 1 .nilck [(.slot 0)] none
    (.q 2 (.fld 3) [(.res 1)] none
    (.q 4 .nilck [(.slot 0)] none
    (.q 5 (.fld 5) [(.res 4)] none
    (.q 7 .nilck [(.slot 0)] none
    (.q 8 (.fld 6) [(.res 7)] none
    (.x 9 (.bsl 52 3 [(.pointer none), (.pointer none), (.pointer none)] [(0, 1), (1, 1), (2, 1)]) [(.res 2), (.res 5), (.res 8)] none []
    (.out [(2, (.res 9))]))))))))
    [0]
abbrev shell_texts_r6 : NC := .reg
    (.q 0 (.icm .eql) [(.slot 6), (.const (.int .i64 5))] none
    (.out [(0, (.slot 0)), (28, (.res 0))]))
    [0, 6]
abbrev shell_texts_r7 : NC := .reg
    (.q 1 .nilck [(.slot 0)] none
    (.q 2 (.fld 3) [(.res 1)] none
    (.q 4 .nilck [(.slot 0)] none
    (.q 5 (.fld 4) [(.res 4)] none
    (.x 6 (.bsl 52 2 [(.pointer none), (.pointer none)] [(0, 1), (1, 1)]) [(.res 2), (.res 5)] none []
    (.out [(2, (.res 6))]))))))
    [0]
abbrev shell_texts_r8 : NC := .reg
    (.q 1 .nilck [(.slot 0)] none
    (.q 2 (.fld 3) [(.res 1)] none
    (.x 3 (.bsl 52 1 [(.pointer none)] [(0, 1)]) [(.res 2)] none []
    (.out [(2, (.res 3))]))))
    [0]
abbrev shell_texts_c : NC :=
  (.seq shell_texts_r0
  (.seq (.seq shell_texts_r1
  (.block 0 (.seq shell_texts_r2
  (.cond (.slot 7)
    (.seq shell_texts_r3
    .ret)
    (.seq shell_texts_r4
    (.cond (.slot 16)
      (.seq shell_texts_r5
      .ret)
      (.seq shell_texts_r6
      (.cond (.slot 28)
        (.seq shell_texts_r7
        .ret)
        .skip))))))))
  (.seq shell_texts_r8
  .ret)))
abbrev shell_texts_F : FN := ⟨shell_texts_c, [.slot 2]⟩
theorem shell_texts_ok : compF Tryz.prog Tryz.f18 = some shell_texts_F := by kernel_rfl
theorem shell_texts_go {args : List Value} {m : Mem} {R : Value → Mem → Prop} (hn : args.length ≤ Tryz.f18.ntmps) (h : wpN Tryz.prog shell_texts_c (retP shell_texts_F.rvs R) (zipP 0 args) m) : MC Tryz.prog 18 args m R := MC_start Tryz.func18 shell_texts_ok mixed_ok hn h
/-! concord/shell.word -/
abbrev shell_word_r0 : NC := .reg
    (.out [(0, (.slot 0))])
    [0]
abbrev shell_word_r1 : NC := .reg
    (.x 0 (.bsl 5 1 [(.int .u8 0)] [(0, 1)]) [(.const (.int .u8 61))] none []
    (.out [(0, (.slot 0)), (3, (.res 0))]))
    [0]
abbrev shell_word_r2 : NC := .reg
    (.q 1 .lenz [(.slot 0)] none
    (.out [(0, (.slot 0)), (3, (.slot 3)), (8, (.res 1)), (9, (.const (.int .i64 0)))]))
    [0, 3]
abbrev shell_word_r3 : NC := .reg
    (.q 0 (.icm .lss) [(.slot 9), (.slot 8)] none
    (.out [(0, (.slot 0)), (3, (.slot 3)), (8, (.slot 8)), (9, (.slot 9)), (10, (.res 0))]))
    [0, 3, 8, 9]
abbrev shell_word_r4 : NC := .reg
    (.out [(0, (.slot 0)), (3, (.slot 3)), (4, (.slot 9)), (8, (.slot 8)), (9, (.slot 9))])
    [0, 3, 8, 9]
abbrev shell_word_r5 : NC := .reg
    (.q 2 .idxs [(.slot 0), (.slot 4)] none
    (.out [(0, (.slot 0)), (3, (.slot 3)), (5, (.res 2)), (8, (.slot 8)), (9, (.slot 9))]))
    [0, 3, 4, 8, 9]
abbrev shell_word_r6 : NC := .reg
    (.x 1 (.call 27) [(.slot 5)] none []
    (.out [(0, (.slot 0)), (3, (.slot 3)), (5, (.slot 5)), (8, (.slot 8)), (9, (.slot 9)), (16, (.res 1))]))
    [0, 3, 5, 8, 9]
abbrev shell_word_r7 : NC := .reg
    (.x 2 (.bsl 5 1 [(.int .u8 0)] [(0, 1)]) [(.slot 5)] none []
    (.x 3 (.app 5 1 1 [(.int .u8 0)]) [(.slot 3), (.res 2)] none []
    (.out [(0, (.slot 0)), (3, (.res 3)), (8, (.slot 8)), (9, (.slot 9))])))
    [0, 3, 5, 8, 9]
abbrev shell_word_r8 : NC := .reg
    (.q 2 (.ish .shr) [(.slot 5), (.const (.int .u64 4))] none
    (.q 3 .idxs [(.const (.string ⟨#[48, 49, 50, 51, 52, 53, 54, 55, 56, 57, 97, 98, 99, 100, 101, 102]⟩)), (.res 2)] none
    (.q 5 (.ibt .and) [(.slot 5), (.const (.int .u8 15))] none
    (.q 6 .idxs [(.const (.string ⟨#[48, 49, 50, 51, 52, 53, 54, 55, 56, 57, 97, 98, 99, 100, 101, 102]⟩)), (.res 5)] none
    (.x 7 (.bsl 5 3 [(.int .u8 0), (.int .u8 0), (.int .u8 0)] [(0, 1), (1, 1), (2, 1)]) [(.const (.int .u8 37)), (.res 3), (.res 6)] none []
    (.x 8 (.app 5 1 1 [(.int .u8 0)]) [(.slot 3), (.res 7)] none []
    (.out [(0, (.slot 0)), (3, (.res 8)), (8, (.slot 8)), (9, (.slot 9))])))))))
    [0, 3, 5, 8, 9]
abbrev shell_word_r9 : NC := .reg
    (.q 0 (.iar .add) [(.slot 9), (.const (.int .i64 1))] none
    (.out [(0, (.slot 0)), (3, (.slot 3)), (8, (.slot 8)), (9, (.res 0))]))
    [0, 3, 8, 9]
abbrev shell_word_l0 : NC :=
  (.seq shell_word_r3
  (.seq (.cond (.slot 10)
    .skip
    (.exit 0))
  (.seq (.block 1 (.seq shell_word_r4
  (.seq shell_word_r5
  (.seq shell_word_r6
  (.cond (.slot 16)
    shell_word_r7
    shell_word_r8)))))
  shell_word_r9)))
abbrev shell_word_r10 : NC := .reg
    (.q 1 .b2s [(.slot 3)] none
    (.out [(2, (.res 1))]))
    [3]
abbrev shell_word_c : NC :=
  (.seq shell_word_r0
  (.seq shell_word_r1
  (.seq (.seq shell_word_r2
  (.block 0 (.loop [0, 3, 8, 9] shell_word_l0)))
  (.seq shell_word_r10
  .ret))))
abbrev shell_word_F : FN := ⟨shell_word_c, [.slot 2]⟩
theorem shell_word_ok : compF Tryz.prog Tryz.f19 = some shell_word_F := by kernel_rfl
theorem shell_word_go {args : List Value} {m : Mem} {R : Value → Mem → Prop} (hn : args.length ≤ Tryz.f19.ntmps) (h : wpN Tryz.prog shell_word_c (retP shell_word_F.rvs R) (zipP 0 args) m) : MC Tryz.prog 19 args m R := MC_start Tryz.func19 shell_word_ok mixed_ok hn h
/-! concord/shell.read -/
abbrev shell_read_r0 : NC := .reg
    (.x 0 (.alc [(.int .i64 0), (.int .i64 0), (.int .i64 0), (.int .i64 0), (.int .i64 0), (.int .i64 0), (.int .i64 0), (.string ⟨#[]⟩), (.string ⟨#[]⟩), (.string ⟨#[]⟩), (.string ⟨#[]⟩), (.slice none 0 0)] 26) [] none []
    (.out [(0, (.slot 0)), (2, (.res 0))]))
    [0]
abbrev shell_read_r1 : NC := .reg
    (.x 0 (.alc [(.int .i64 0), (.int .i64 0), (.int .i64 0), (.int .i64 0), (.int .i64 0), (.int .i64 0), (.int .i64 0), (.string ⟨#[]⟩), (.string ⟨#[]⟩), (.string ⟨#[]⟩), (.string ⟨#[]⟩), (.slice none 0 0)] 26) [] none []
    (.out [(0, (.slot 0)), (2, (.slot 2)), (3, (.res 0))]))
    [0, 2]
abbrev shell_read_r2 : NC := .reg
    (.x 0 (.call 14) [] none []
    (.q 1 .len [(.res 0)] none
    (.out [(0, (.slot 0)), (2, (.slot 2)), (3, (.slot 3)), (12, (.res 0)), (13, (.res 1)), (14, (.const (.int .i64 0)))])))
    [0, 2, 3]
abbrev shell_read_r3 : NC := .reg
    (.q 0 (.icm .lss) [(.slot 14), (.slot 13)] none
    (.out [(0, (.slot 0)), (2, (.slot 2)), (3, (.slot 3)), (12, (.slot 12)), (13, (.slot 13)), (14, (.slot 14)), (15, (.res 0))]))
    [0, 2, 3, 12, 13, 14]
abbrev shell_read_r4 : NC := .reg
    (.q 0 (.ixs 4) [(.slot 12), (.slot 14)] none
    (.q 1 (.lda 4) [(.res 0)] none
    (.x 2 (.alc [(.string ⟨#[]⟩), (.int .i64 0), (.int .i64 0), (.int .i64 0)] 40) [] none []
    (.x 3 (.st 4) [(.res 2), (.res 1)] none []
    (.out [(0, (.slot 0)), (2, (.slot 2)), (3, (.slot 3)), (5, (.res 2)), (12, (.slot 12)), (13, (.slot 13)), (14, (.slot 14))])))))
    [0, 2, 3, 12, 13, 14]
abbrev shell_read_r5 : NC := .reg
    (.q 0 (.fld 0) [(.slot 5)] none
    (.q 1 .ld [(.res 0)] none
    (.q 3 (.ixs 1) [(.slot 0), (.const (.int .i64 0))] none
    (.q 4 .ld [(.res 3)] none
    (.q 5 (.str .eql) [(.res 1), (.res 4)] none
    (.out [(0, (.slot 0)), (2, (.slot 2)), (3, (.slot 3)), (5, (.slot 5)), (12, (.slot 12)), (13, (.slot 13)), (14, (.slot 14)), (23, (.res 5))]))))))
    [0, 2, 3, 5, 12, 13, 14]
abbrev shell_read_r6 : NC := .reg
    (.q 0 (.fld 1) [(.slot 5)] none
    (.q 1 .ld [(.res 0)] none
    (.q 2 (.fld 2) [(.slot 5)] none
    (.q 3 .ld [(.res 2)] none
    (.q 4 (.fld 0) [(.slot 3)] none
    (.x 5 (.st 1) [(.res 4), (.res 1)] none [(3, .ld, [(.res 2)], none)]
    (.q 6 (.fld 4) [(.slot 3)] none
    (.q 7 (.fld 0) [(.res 6)] none
    (.x 8 (.st 1) [(.res 7), (.res 3)] none []
    (.out [(0, (.slot 0)), (2, (.slot 2)), (3, (.slot 3)), (12, (.slot 12)), (13, (.slot 13)), (14, (.slot 14))]))))))))))
    [0, 2, 3, 5, 12, 13, 14]
abbrev shell_read_r7 : NC := .reg
    (.q 0 (.iar .add) [(.slot 14), (.const (.int .i64 1))] none
    (.out [(0, (.slot 0)), (2, (.slot 2)), (3, (.slot 3)), (12, (.slot 12)), (13, (.slot 13)), (14, (.res 0))]))
    [0, 2, 3, 12, 13, 14]
abbrev shell_read_l0 : NC :=
  (.seq shell_read_r3
  (.seq (.cond (.slot 15)
    .skip
    (.exit 0))
  (.seq (.block 1 (.seq shell_read_r4
  (.seq shell_read_r5
  (.cond (.slot 23)
    shell_read_r6
    .skip))))
  shell_read_r7)))
abbrev shell_read_r8 : NC := .reg
    (.q 1 (.slc 1 true false) [(.slot 0), (.const (.int .i64 1))] none
    (.out [(0, (.res 1)), (2, (.slot 2)), (3, (.slot 3))]))
    [0, 2, 3]
abbrev shell_read_r9 : NC := .reg
    (.x 0 (.call 16) [(.slot 3)] none []
    (.q 1 .len [(.res 0)] none
    (.out [(0, (.slot 0)), (2, (.slot 2)), (3, (.slot 3)), (34, (.res 0)), (35, (.res 1)), (36, (.const (.int .i64 0)))])))
    [0, 2, 3]
abbrev shell_read_r10 : NC := .reg
    (.q 0 (.icm .lss) [(.slot 36), (.slot 35)] none
    (.out [(0, (.slot 0)), (2, (.slot 2)), (3, (.slot 3)), (34, (.slot 34)), (35, (.slot 35)), (36, (.slot 36)), (37, (.res 0))]))
    [0, 2, 3, 34, 35, 36]
abbrev shell_read_r11 : NC := .reg
    (.q 0 (.ixs 1) [(.slot 34), (.slot 36)] none
    (.q 1 .ld [(.res 0)] none
    (.out [(0, (.slot 0)), (2, (.slot 2)), (3, (.slot 3)), (7, (.res 1)), (34, (.slot 34)), (35, (.slot 35)), (36, (.slot 36))])))
    [0, 2, 3, 34, 35, 36]
abbrev shell_read_r12 : NC := .reg
    (.q 1 .len [(.slot 0)] none
    (.q 2 (.icm .gtr) [(.res 1), (.const (.int .i64 0))] none
    (.out [(0, (.slot 0)), (2, (.slot 2)), (3, (.slot 3)), (7, (.slot 7)), (34, (.slot 34)), (35, (.slot 35)), (36, (.slot 36)), (42, (.res 2))])))
    [0, 2, 3, 7, 34, 35, 36]
abbrev shell_read_r13 : NC := .reg
    (.q 2 (.ixs 1) [(.slot 0), (.const (.int .i64 0))] none
    (.q 3 .ld [(.res 2)] none
    (.q 6 (.slc 1 true false) [(.slot 0), (.const (.int .i64 1))] none
    (.x 4 (.call 31) [(.res 3)] none []
    (.q 7 .nilck [(.slot 7)] none
    (.x 8 (.st 1) [(.res 7), (.res 4)] none []
    (.out [(0, (.res 6)), (2, (.slot 2)), (3, (.slot 3)), (34, (.slot 34)), (35, (.slot 35)), (36, (.slot 36))])))))))
    [0, 2, 3, 7, 34, 35, 36]
abbrev shell_read_r14 : NC := .reg
    (.q 0 (.iar .add) [(.slot 36), (.const (.int .i64 1))] none
    (.out [(0, (.slot 0)), (2, (.slot 2)), (3, (.slot 3)), (34, (.slot 34)), (35, (.slot 35)), (36, (.res 0))]))
    [0, 2, 3, 34, 35, 36]
abbrev shell_read_l1 : NC :=
  (.seq shell_read_r10
  (.seq (.cond (.slot 37)
    .skip
    (.exit 2))
  (.seq (.block 3 (.seq shell_read_r11
  (.seq shell_read_r12
  (.cond (.slot 42)
    shell_read_r13
    .skip))))
  shell_read_r14)))
abbrev shell_read_r15 : NC := .reg
    (.q 0 (.fld 0) [(.slot 3)] none
    (.q 1 .ld [(.res 0)] none
    (.q 2 (.icm .eql) [(.res 1), (.const (.int .i64 1))] none
    (.out [(0, (.slot 0)), (2, (.slot 2)), (3, (.slot 3)), (54, (.res 2))]))))
    [0, 2, 3]
abbrev shell_read_r16 : NC := .reg
    (.q 0 (.fld 4) [(.slot 3)] none
    (.x 1 (.call 18) [(.res 0)] none []
    (.q 2 .len [(.res 1)] none
    (.out [(0, (.slot 0)), (2, (.slot 2)), (3, (.slot 3)), (56, (.res 1)), (57, (.res 2)), (58, (.const (.int .i64 0)))]))))
    [0, 2, 3]
abbrev shell_read_r17 : NC := .reg
    (.q 0 (.icm .lss) [(.slot 58), (.slot 57)] none
    (.out [(0, (.slot 0)), (2, (.slot 2)), (3, (.slot 3)), (56, (.slot 56)), (57, (.slot 57)), (58, (.slot 58)), (59, (.res 0))]))
    [0, 2, 3, 56, 57, 58]
abbrev shell_read_r18 : NC := .reg
    (.q 0 (.ixs 1) [(.slot 56), (.slot 58)] none
    (.q 1 .ld [(.res 0)] none
    (.out [(0, (.slot 0)), (2, (.slot 2)), (3, (.slot 3)), (9, (.res 1)), (56, (.slot 56)), (57, (.slot 57)), (58, (.slot 58))])))
    [0, 2, 3, 56, 57, 58]
abbrev shell_read_r19 : NC := .reg
    (.q 1 .len [(.slot 0)] none
    (.q 2 (.icm .gtr) [(.res 1), (.const (.int .i64 0))] none
    (.out [(0, (.slot 0)), (2, (.slot 2)), (3, (.slot 3)), (9, (.slot 9)), (56, (.slot 56)), (57, (.slot 57)), (58, (.slot 58)), (64, (.res 2))])))
    [0, 2, 3, 9, 56, 57, 58]
abbrev shell_read_r20 : NC := .reg
    (.q 2 (.ixs 1) [(.slot 0), (.const (.int .i64 0))] none
    (.q 3 .ld [(.res 2)] none
    (.q 6 (.slc 1 true false) [(.slot 0), (.const (.int .i64 1))] none
    (.x 4 (.call 32) [(.res 3)] none []
    (.q 7 .nilck [(.slot 9)] none
    (.x 8 (.st 1) [(.res 7), (.res 4)] none []
    (.out [(0, (.res 6)), (2, (.slot 2)), (3, (.slot 3)), (56, (.slot 56)), (57, (.slot 57)), (58, (.slot 58))])))))))
    [0, 2, 3, 9, 56, 57, 58]
abbrev shell_read_r21 : NC := .reg
    (.q 0 (.iar .add) [(.slot 58), (.const (.int .i64 1))] none
    (.out [(0, (.slot 0)), (2, (.slot 2)), (3, (.slot 3)), (56, (.slot 56)), (57, (.slot 57)), (58, (.res 0))]))
    [0, 2, 3, 56, 57, 58]
abbrev shell_read_l2 : NC :=
  (.seq shell_read_r17
  (.seq (.cond (.slot 59)
    .skip
    (.exit 4))
  (.seq (.block 5 (.seq shell_read_r18
  (.seq shell_read_r19
  (.cond (.slot 64)
    shell_read_r20
    .skip))))
  shell_read_r21)))
abbrev shell_read_r22 : NC := .reg
    (.q 0 (.fld 0) [(.slot 3)] none
    (.q 1 .ld [(.res 0)] none
    (.q 2 (.icm .eql) [(.res 1), (.const (.int .i64 8))] none
    (.out [(0, (.slot 0)), (2, (.slot 2)), (3, (.slot 3)), (76, (.res 2))]))))
    [0, 2, 3]
abbrev shell_read_r23 : NC := .reg
    (.q 1 .len [(.slot 0)] none
    (.out [(2, (.slot 2)), (3, (.slot 3)), (77, (.slot 0)), (78, (.res 1)), (79, (.const (.int .i64 0)))]))
    [0, 2, 3]
abbrev shell_read_r24 : NC := .reg
    (.q 0 (.icm .lss) [(.slot 79), (.slot 78)] none
    (.out [(2, (.slot 2)), (3, (.slot 3)), (77, (.slot 77)), (78, (.slot 78)), (79, (.slot 79)), (80, (.res 0))]))
    [2, 3, 77, 78, 79]
abbrev shell_read_r25 : NC := .reg
    (.q 0 (.ixs 1) [(.slot 77), (.slot 79)] none
    (.q 1 .ld [(.res 0)] none
    (.out [(2, (.slot 2)), (3, (.slot 3)), (11, (.res 1)), (77, (.slot 77)), (78, (.slot 78)), (79, (.slot 79))])))
    [2, 3, 77, 78, 79]
abbrev shell_read_r26 : NC := .reg
    (.q 0 (.fld 11) [(.slot 3)] none
    (.q 1 .ld [(.res 0)] none
    (.x 3 (.call 31) [(.slot 11)] none [(1, .ld, [(.res 0)], none)]
    (.x 4 (.bsl 3 1 [(.int .i64 0)] [(0, 1)]) [(.res 3)] none [(1, .ld, [(.res 0)], none)]
    (.x 5 (.app 3 1 8 [(.int .i64 0)]) [(.res 1), (.res 4)] none []
    (.q 6 (.fld 11) [(.slot 3)] none
    (.x 7 (.st 1) [(.res 6), (.res 5)] none []
    (.out [(2, (.slot 2)), (3, (.slot 3)), (77, (.slot 77)), (78, (.slot 78)), (79, (.slot 79))]))))))))
    [2, 3, 11, 77, 78, 79]
abbrev shell_read_r27 : NC := .reg
    (.q 0 (.iar .add) [(.slot 79), (.const (.int .i64 1))] none
    (.out [(2, (.slot 2)), (3, (.slot 3)), (77, (.slot 77)), (78, (.slot 78)), (79, (.res 0))]))
    [2, 3, 77, 78, 79]
abbrev shell_read_l3 : NC :=
  (.seq shell_read_r24
  (.seq (.cond (.slot 80)
    .skip
    (.exit 6))
  (.seq (.block 7 (.seq shell_read_r25
  shell_read_r26))
  shell_read_r27)))
abbrev shell_read_r28 : NC := .reg
    (.q 0 (.lda 12) [(.slot 3)] none
    (.x 1 (.st 12) [(.slot 2), (.res 0)] none []
    (.out [(2, (.slot 2))])))
    [2, 3]
abbrev shell_read_c : NC :=
  (.seq shell_read_r0
  (.seq shell_read_r1
  (.seq (.seq shell_read_r2
  (.block 0 (.loop [0, 2, 3, 12, 13, 14] shell_read_l0)))
  (.seq shell_read_r8
  (.seq (.seq shell_read_r9
  (.block 2 (.loop [0, 2, 3, 34, 35, 36] shell_read_l1)))
  (.seq (.seq shell_read_r15
  (.cond (.slot 54)
    (.seq shell_read_r16
    (.block 4 (.loop [0, 2, 3, 56, 57, 58] shell_read_l2)))
    .skip))
  (.seq (.seq shell_read_r22
  (.cond (.slot 76)
    (.seq shell_read_r23
    (.block 6 (.loop [2, 3, 77, 78, 79] shell_read_l3)))
    .skip))
  (.seq shell_read_r28
  .ret))))))))
abbrev shell_read_F : FN := ⟨shell_read_c, [.cells 2 12]⟩
theorem shell_read_ok : compF Tryz.prog Tryz.f22 = some shell_read_F := by kernel_rfl
theorem shell_read_go {args : List Value} {m : Mem} {R : Value → Mem → Prop} (hn : args.length ≤ Tryz.f22.ntmps) (h : wpN Tryz.prog shell_read_c (retP shell_read_F.rvs R) (zipP 0 args) m) : MC Tryz.prog 22 args m R := MC_start Tryz.func22 shell_read_ok mixed_ok hn h
/-! concord/shell.plain -/
abbrev shell_plain_r0 : NC := .reg
    (.out [(0, (.slot 0))])
    [0]
abbrev shell_plain_r1 : NC := .reg
    (.q 1 (.icm .gtr) [(.slot 0), (.const (.int .u8 32))] none
    (.q 3 .mv [(.slot 0)] (some ((.res 1), true))
    (.q 4 (.icm .lss) [(.res 3), (.const (.int .u8 127))] (some ((.res 1), true))
    (.q 5 .pick [(.res 1), (.res 4), (.const (.bool false))] none
    (.q 7 .mv [(.slot 0)] (some ((.res 5), true))
    (.q 8 (.icm .neq) [(.res 7), (.const (.int .u8 37))] (some ((.res 5), true))
    (.q 9 .pick [(.res 5), (.res 8), (.const (.bool false))] none
    (.out [(2, (.res 9))]))))))))
    [0]
abbrev shell_plain_c : NC :=
  (.seq shell_plain_r0
  (.seq shell_plain_r1
  .ret))
abbrev shell_plain_F : FN := ⟨shell_plain_c, [.slot 2]⟩
theorem shell_plain_ok : compF Tryz.prog Tryz.f27 = some shell_plain_F := by kernel_rfl
theorem shell_plain_go {args : List Value} {m : Mem} {R : Value → Mem → Prop} (hn : args.length ≤ Tryz.f27.ntmps) (h : wpN Tryz.prog shell_plain_c (retP shell_plain_F.rvs R) (zipP 0 args) m) : MC Tryz.prog 27 args m R := MC_start Tryz.func27 shell_plain_ok mixed_ok hn h
/-! concord/shell.number -/
abbrev shell_number_r0 : NC := .reg
    (.out [(0, (.slot 0))])
    [0]
abbrev shell_number_r1 : NC := .reg
    (.x 1 (.call 44) [(.slot 0)] none []
    (.q 3 (.ext 0) [(.res 1)] none
    (.q 4 (.ext 1) [(.res 1)] none
    (.out [(3, (.res 3))]))))
    [0]
abbrev shell_number_r2 : NC := .reg
    (.out [(2, (.slot 3))])
    [3]
abbrev shell_number_c : NC :=
  (.seq shell_number_r0
  (.seq shell_number_r1
  (.seq shell_number_r2
  .ret)))
abbrev shell_number_F : FN := ⟨shell_number_c, [.slot 2]⟩
theorem shell_number_ok : compF Tryz.prog Tryz.f31 = some shell_number_F := by kernel_rfl
theorem shell_number_go {args : List Value} {m : Mem} {R : Value → Mem → Prop} (hn : args.length ≤ Tryz.f31.ntmps) (h : wpN Tryz.prog shell_number_c (retP shell_number_F.rvs R) (zipP 0 args) m) : MC Tryz.prog 31 args m R := MC_start Tryz.func31 shell_number_ok mixed_ok hn h
/-! concord/shell.text -/
abbrev shell_text_r0 : NC := .reg
    (.out [(0, (.slot 0))])
    [0]
abbrev shell_text_r1 : NC := .reg
    (.out [(0, (.slot 0)), (3, (.const (.slice none 0 0)))])
    [0]
abbrev shell_text_r2 : NC := .reg
    (.out [(0, (.slot 0)), (3, (.slot 3)), (4, (.const (.int .i64 1)))])
    [0, 3]
abbrev shell_text_r3 : NC := .reg
    (.q 2 .lenz [(.slot 0)] none
    (.q 3 (.icm .lss) [(.slot 4), (.res 2)] none
    (.out [(0, (.slot 0)), (3, (.slot 3)), (4, (.slot 4)), (11, (.res 3))])))
    [0, 3, 4]
abbrev shell_text_r4 : NC := .reg
    (.q 2 .idxs [(.slot 0), (.slot 4)] none
    (.out [(0, (.slot 0)), (3, (.slot 3)), (4, (.slot 4)), (5, (.res 2))]))
    [0, 3, 4]
abbrev shell_text_r5 : NC := .reg
    (.q 1 (.icm .eql) [(.slot 5), (.const (.int .u8 37))] none
    (.q 3 .mv [(.slot 4)] (some ((.res 1), true))
    (.q 4 (.iar .add) [(.res 3), (.const (.int .i64 2))] (some ((.res 1), true))
    (.q 5 .mv [(.slot 0)] (some ((.res 1), true))
    (.q 6 .lenz [(.res 5)] (some ((.res 1), true))
    (.q 7 (.icm .lss) [(.res 4), (.res 6)] (some ((.res 1), true))
    (.q 8 .pick [(.res 1), (.res 7), (.const (.bool false))] none
    (.out [(0, (.slot 0)), (3, (.slot 3)), (4, (.slot 4)), (5, (.slot 5)), (25, (.res 8))]))))))))
    [0, 3, 4, 5]
abbrev shell_text_r6 : NC := .reg
    (.q 2 (.iar .add) [(.slot 4), (.const (.int .i64 1))] none
    (.q 3 .idxs [(.slot 0), (.res 2)] none
    (.q 7 (.iar .add) [(.slot 4), (.const (.int .i64 2))] none
    (.q 8 .idxs [(.slot 0), (.res 7)] none
    (.x 4 (.call 45) [(.const (.string ⟨#[48, 49, 50, 51, 52, 53, 54, 55, 56, 57, 97, 98, 99, 100, 101, 102]⟩)), (.res 3)] none []
    (.x 9 (.call 45) [(.const (.string ⟨#[48, 49, 50, 51, 52, 53, 54, 55, 56, 57, 97, 98, 99, 100, 101, 102]⟩)), (.res 8)] none []
    (.out [(0, (.slot 0)), (3, (.slot 3)), (4, (.slot 4)), (6, (.res 4)), (7, (.res 9))])))))))
    [0, 3, 4]
abbrev shell_text_r7 : NC := .reg
    (.q 1 .mx [(.slot 6), (.const (.int .i64 0))] none
    (.q 2 (.ish .shl) [(.res 1), (.const (.int .u64 4))] none
    (.q 4 .mx [(.slot 7), (.const (.int .i64 0))] none
    (.q 5 (.ibt .or) [(.res 2), (.res 4)] none
    (.q 6 (.conv .u8) [(.res 5)] none
    (.out [(0, (.slot 0)), (3, (.slot 3)), (4, (.slot 4)), (5, (.res 6))]))))))
    [0, 3, 4, 6, 7]
abbrev shell_text_r8 : NC := .reg
    (.q 1 (.iar .add) [(.slot 4), (.const (.int .i64 2))] none
    (.out [(0, (.slot 0)), (3, (.slot 3)), (4, (.res 1)), (5, (.slot 5))]))
    [0, 3, 4, 5]
abbrev shell_text_r9 : NC := .reg
    (.x 2 (.bsl 5 1 [(.int .u8 0)] [(0, 1)]) [(.slot 5)] none []
    (.x 3 (.app 5 1 1 [(.int .u8 0)]) [(.slot 3), (.res 2)] none []
    (.out [(0, (.slot 0)), (3, (.res 3)), (4, (.slot 4))])))
    [0, 3, 4, 5]
abbrev shell_text_r10 : NC := .reg
    (.q 1 (.iar .add) [(.slot 4), (.const (.int .i64 1))] none
    (.out [(0, (.slot 0)), (3, (.slot 3)), (4, (.res 1))]))
    [0, 3, 4]
abbrev shell_text_l0 : NC :=
  (.seq (.seq shell_text_r3
  (.cond (.slot 11)
    .skip
    (.exit 0)))
  (.seq (.block 1 (.seq shell_text_r4
  (.seq (.seq shell_text_r5
  (.cond (.slot 25)
    (.seq shell_text_r6
    (.seq shell_text_r7
    shell_text_r8))
    .skip))
  shell_text_r9)))
  shell_text_r10))
abbrev shell_text_r11 : NC := .reg
    (.q 1 .b2s [(.slot 3)] none
    (.out [(2, (.res 1))]))
    [3]
abbrev shell_text_c : NC :=
  (.seq shell_text_r0
  (.seq shell_text_r1
  (.seq (.seq shell_text_r2
  (.block 0 (.loop [0, 3, 4] shell_text_l0)))
  (.seq shell_text_r11
  .ret))))
abbrev shell_text_F : FN := ⟨shell_text_c, [.slot 2]⟩
theorem shell_text_ok : compF Tryz.prog Tryz.f32 = some shell_text_F := by kernel_rfl
theorem shell_text_go {args : List Value} {m : Mem} {R : Value → Mem → Prop} (hn : args.length ≤ Tryz.f32.ntmps) (h : wpN Tryz.prog shell_text_c (retP shell_text_F.rvs R) (zipP 0 args) m) : MC Tryz.prog 32 args m R := MC_start Tryz.func32 shell_text_ok mixed_ok hn h
end Go.Fw
namespace Go.Fw
open Go.Proofs
/-! concord/concordlaw29.ShellLines -/
abbrev law29_ShellLines_r0 : NC := .reg
    (.x 0 (.box 26) [(.slot 0)] none []
    (.out [(1, (.slot 1)), (2, (.res 0))]))
    [0, 1]
abbrev law29_ShellLines_r1 : NC := .reg
    (.q 1 .lenz [(.slot 1)] none
    (.q 2 (.icm .gtr) [(.res 1), (.const (.int .i64 2000))] none
    (.out [(1, (.slot 1)), (2, (.slot 2)), (12, (.res 2))])))
    [1, 2]
abbrev law29_ShellLines_r2 : NC := .reg
    (.q 1 (.slcs false true) [(.slot 1), (.const (.int .i64 2000))] none
    (.out [(1, (.res 1)), (2, (.slot 2))]))
    [1, 2]
abbrev law29_ShellLines_r3 : NC := .reg
    (.q 0 (.lda 12) [(.slot 2)] none
    (.x 1 (.call 4) [(.res 0)] none []
    (.q 3 (.fld 11) [(.slot 2)] (some ((.res 1), true))
    (.q 4 .ld [(.res 3)] (some ((.res 1), true))
    (.q 5 .len [(.res 4)] (some ((.res 1), true))
    (.q 6 (.icm .leq) [(.res 5), (.const (.int .i64 50))] (some ((.res 1), true))
    (.q 7 .pick [(.res 1), (.res 6), (.const (.bool false))] none
    (.q 9 (.lda 12) [(.slot 2)] (some ((.res 7), true))
    (.x 10 (.call 5) [(.res 9)] (some ((.res 7), true)) []
    (.q 11 .not [(.res 10)] (some ((.res 7), true))
    (.q 12 .pick [(.res 7), (.res 11), (.const (.bool false))] none
    (.out [(1, (.slot 1)), (2, (.slot 2)), (27, (.res 12))]))))))))))))
    [1, 2]
abbrev law29_ShellLines_r4 : NC := .reg
    (.q 0 (.lda 12) [(.slot 2)] none
    (.x 1 (.call 6) [(.res 0)] none []
    (.out [(1, (.slot 1)), (2, (.slot 2)), (5, (.res 1))])))
    [1, 2]
abbrev law29_ShellLines_r5 : NC := .reg
    (.q 1 (.lda 12) [(.slot 2)] none
    (.x 2 (.call 7) [(.res 1)] none []
    (.q 3 (.str .neq) [(.slot 5), (.res 2)] none
    (.out [(1, (.slot 1)), (2, (.slot 2)), (5, (.slot 5)), (33, (.res 3))]))))
    [1, 2, 5]
abbrev law29_ShellLines_r6 : NC := .reg
    (.out [(4, (.const (.bool false)))])
    []
abbrev law29_ShellLines_r7 : NC := .reg
    (.x 1 (.call 8) [(.slot 5)] none []
    (.q 3 (.ext 0) [(.res 1)] none
    (.q 4 (.ext 1) [(.res 1)] none
    (.x 5 (.alc [(.int .i64 0), (.int .i64 0), (.int .i64 0), (.int .i64 0), (.int .i64 0), (.int .i64 0), (.int .i64 0), (.string ⟨#[]⟩), (.string ⟨#[]⟩), (.string ⟨#[]⟩), (.string ⟨#[]⟩), (.slice none 0 0)] 26) [] none []
    (.x 6 (.st 12) [(.res 5), (.res 3)] none []
    (.out [(1, (.slot 1)), (2, (.slot 2)), (5, (.slot 5)), (6, (.res 5)), (7, (.res 4))]))))))
    [1, 2, 5]
abbrev law29_ShellLines_r8 : NC := .reg
    (.q 1 (.str .neq) [(.slot 5), (.const (.string ⟨#[]⟩))] none
    (.q 3 .mv [(.slot 7)] (some ((.res 1), true))
    (.q 4 (.icm .neq) [(.res 3), (.const (.int .i64 0))] (some ((.res 1), true))
    (.q 5 .mv [(.res 4)] (some ((.res 1), true))
    (.q 6 (.lda 12) [(.slot 6)] (some ((.res 5), false))
    (.q 7 (.lda 12) [(.slot 2)] (some ((.res 5), false))
    (.x 8 (.call 10) [(.res 7)] (some ((.res 5), false)) [(6, (.lda 12), [(.slot 6)], (some ((.res 5), false)))]
    (.x 9 (.call 9) [(.res 6), (.res 8)] (some ((.res 5), false)) []
    (.q 10 .not [(.res 9)] (some ((.res 5), false))
    (.q 11 .pick [(.res 5), (.const (.bool true)), (.res 10)] (some ((.res 1), true))
    (.q 12 .pick [(.res 1), (.res 11), (.const (.bool false))] none
    (.out [(1, (.slot 1)), (51, (.res 12))]))))))))))))
    [1, 2, 5, 6, 7]
abbrev law29_ShellLines_r9 : NC := .reg
    (.out [(4, (.const (.bool false)))])
    []
abbrev law29_ShellLines_r10 : NC := .reg
    (.x 1 (.call 11) [(.slot 1)] none []
    (.out [(1, (.slot 1)), (53, (.res 1))]))
    [1]
abbrev law29_ShellLines_r11 : NC := .reg
    (.x 0 (.call 12) [] none []
    (.out [(4, (.res 0))]))
    []
abbrev law29_ShellLines_r12 : NC := .reg
    (.x 1 (.call 8) [(.slot 1)] none []
    (.q 3 (.ext 0) [(.res 1)] none
    (.q 4 (.ext 1) [(.res 1)] none
    (.x 5 (.alc [(.int .i64 0), (.int .i64 0), (.int .i64 0), (.int .i64 0), (.int .i64 0), (.int .i64 0), (.int .i64 0), (.string ⟨#[]⟩), (.string ⟨#[]⟩), (.string ⟨#[]⟩), (.string ⟨#[]⟩), (.slice none 0 0)] 26) [] none []
    (.x 6 (.st 12) [(.res 5), (.res 3)] none []
    (.out [(1, (.slot 1)), (8, (.res 5)), (9, (.res 4))]))))))
    [1]
abbrev law29_ShellLines_r13 : NC := .reg
    (.q 1 (.icm .neq) [(.slot 9), (.const (.int .i64 0))] none
    (.out [(1, (.slot 1)), (8, (.slot 8)), (61, (.res 1))]))
    [1, 8, 9]
abbrev law29_ShellLines_r14 : NC := .reg
    (.q 0 (.lda 12) [(.slot 8)] none
    (.q 1 (.bld [(.int .i64 0), (.int .i64 0), (.int .i64 0), (.int .i64 0), (.int .i64 0), (.int .i64 0), (.int .i64 0), (.string ⟨#[]⟩), (.string ⟨#[]⟩), (.string ⟨#[]⟩), (.string ⟨#[]⟩), (.slice none 0 0)] []) [] none
    (.x 2 (.call 9) [(.res 0), (.res 1)] none []
    (.x 4 (.call 12) [] (some ((.res 2), true)) []
    (.q 5 .pick [(.res 2), (.res 4), (.const (.bool false))] none
    (.out [(4, (.res 5))]))))))
    [8]
abbrev law29_ShellLines_r15 : NC := .reg
    (.q 0 (.lda 12) [(.slot 8)] none
    (.x 1 (.call 6) [(.res 0)] none []
    (.q 3 (.str .eql) [(.res 1), (.slot 1)] none
    (.x 5 (.call 12) [] (some ((.res 3), true)) []
    (.q 6 .pick [(.res 3), (.res 5), (.const (.bool false))] none
    (.out [(4, (.res 6))]))))))
    [1, 8]
abbrev law29_ShellLines_c : NC :=
  (.seq law29_ShellLines_r0
  (.seq (.seq law29_ShellLines_r1
  (.cond (.slot 12)
    law29_ShellLines_r2
    .skip))
  (.seq (.seq law29_ShellLines_r3
  (.cond (.slot 27)
    (.seq law29_ShellLines_r4
    (.seq (.seq law29_ShellLines_r5
    (.cond (.slot 33)
      (.seq law29_ShellLines_r6
      .ret)
      .skip))
    (.seq law29_ShellLines_r7
    (.seq law29_ShellLines_r8
    (.cond (.slot 51)
      (.seq law29_ShellLines_r9
      .ret)
      .skip)))))
    .skip))
  (.seq (.seq law29_ShellLines_r10
  (.cond (.slot 53)
    (.seq law29_ShellLines_r11
    .ret)
    .skip))
  (.seq law29_ShellLines_r12
  (.seq (.seq law29_ShellLines_r13
  (.cond (.slot 61)
    (.seq law29_ShellLines_r14
    .ret)
    .skip))
  (.seq law29_ShellLines_r15
  .ret)))))))
abbrev law29_ShellLines_F : FN := ⟨law29_ShellLines_c, [.slot 4]⟩
theorem law29_ShellLines_ok : compF Tryz.prog Tryz.f3 = some law29_ShellLines_F := by kernel_rfl
theorem law29_ShellLines_go {args : List Value} {m : Mem} {R : Value → Mem → Prop} (hn : args.length ≤ Tryz.f3.ntmps) (h : wpN Tryz.prog law29_ShellLines_c (retP law29_ShellLines_F.rvs R) (zipP 0 args) m) : MC Tryz.prog 3 args m R := MC_start Tryz.func3 law29_ShellLines_ok mixed_ok hn h
/-! concord/concordkeep.Light -/
abbrev keep_Light_r0 : NC := .reg
    (.x 0 (.box 26) [(.slot 0)] none []
    (.out [(1, (.res 0))]))
    [0]
abbrev keep_Light_r1 : NC := .reg
    (.q 0 (.fld 4) [(.slot 1)] none
    (.q 1 (.fld 3) [(.res 0)] none
    (.q 2 .ld [(.res 1)] none
    (.q 3 .lenz [(.res 2)] none
    (.q 4 (.fld 4) [(.slot 1)] none
    (.q 5 (.fld 4) [(.res 4)] none
    (.q 6 .ld [(.res 5)] none
    (.q 7 .lenz [(.res 6)] none
    (.q 8 (.iar .add) [(.res 3), (.res 7)] none
    (.q 9 (.fld 4) [(.slot 1)] none
    (.q 10 (.fld 5) [(.res 9)] none
    (.q 11 .ld [(.res 10)] none
    (.q 12 .lenz [(.res 11)] none
    (.q 13 (.iar .add) [(.res 8), (.res 12)] none
    (.q 14 (.fld 4) [(.slot 1)] none
    (.q 15 (.fld 6) [(.res 14)] none
    (.q 16 .ld [(.res 15)] none
    (.q 17 .lenz [(.res 16)] none
    (.q 18 (.iar .add) [(.res 13), (.res 17)] none
    (.q 19 (.fld 11) [(.slot 1)] none
    (.q 20 .ld [(.res 19)] none
    (.q 21 .len [(.res 20)] none
    (.q 22 (.iar .add) [(.res 18), (.res 21)] none
    (.q 23 (.icm .lss) [(.res 22), (.const (.int .i64 1000))] none
    (.out [(2, (.res 23))])))))))))))))))))))))))))
    [1]
abbrev keep_Light_c : NC :=
  (.seq keep_Light_r0
  (.seq keep_Light_r1
  .ret))
abbrev keep_Light_F : FN := ⟨keep_Light_c, [.slot 2]⟩
theorem keep_Light_ok : compF Tryz.prog Tryz.f4 = some keep_Light_F := by kernel_rfl
theorem keep_Light_go {args : List Value} {m : Mem} {R : Value → Mem → Prop} (hn : args.length ≤ Tryz.f4.ntmps) (h : wpN Tryz.prog keep_Light_c (retP keep_Light_F.rvs R) (zipP 0 args) m) : MC Tryz.prog 4 args m R := MC_start Tryz.func4 keep_Light_ok mixed_ok hn h
/-! concord/concordlaw29.edge -/
abbrev law29_edge_r0 : NC := .reg
    (.x 0 (.box 26) [(.slot 0)] none []
    (.out [(1, (.res 0))]))
    [0]
abbrev law29_edge_r1 : NC := .reg
    (.q 0 (.fld 1) [(.slot 1)] none
    (.q 1 .ld [(.res 0)] none
    (.q 2 (.icm .eql) [(.res 1), (.const (.int .i64 (-9223372036854775808)))] none
    (.q 4 (.fld 2) [(.slot 1)] (some ((.res 2), false))
    (.q 5 .ld [(.res 4)] (some ((.res 2), false))
    (.q 6 (.icm .eql) [(.res 5), (.const (.int .i64 (-9223372036854775808)))] (some ((.res 2), false))
    (.q 7 .pick [(.res 2), (.const (.bool true)), (.res 6)] none
    (.q 9 (.fld 3) [(.slot 1)] (some ((.res 7), false))
    (.q 10 .ld [(.res 9)] (some ((.res 7), false))
    (.q 11 (.icm .eql) [(.res 10), (.const (.int .i64 (-9223372036854775808)))] (some ((.res 7), false))
    (.q 12 .pick [(.res 7), (.const (.bool true)), (.res 11)] none
    (.out [(1, (.slot 1)), (3, (.res 12))]))))))))))))
    [1]
abbrev law29_edge_r2 : NC := .reg
    (.out [(1, (.slot 1)), (3, (.slot 3)), (4, (.const (.int .i64 0)))])
    [1, 3]
abbrev law29_edge_r3 : NC := .reg
    (.q 1 (.fld 11) [(.slot 1)] none
    (.q 2 .ld [(.res 1)] none
    (.q 3 .len [(.res 2)] none
    (.q 4 (.icm .lss) [(.slot 4), (.res 3)] none
    (.out [(1, (.slot 1)), (3, (.slot 3)), (4, (.slot 4)), (22, (.res 4))])))))
    [1, 3, 4]
abbrev law29_edge_r4 : NC := .reg
    (.q 2 (.fld 11) [(.slot 1)] (some ((.slot 3), false))
    (.q 3 .ld [(.res 2)] (some ((.slot 3), false))
    (.q 4 .mv [(.slot 4)] (some ((.slot 3), false))
    (.q 5 (.ixs 1) [(.res 3), (.res 4)] (some ((.slot 3), false))
    (.q 6 .ld [(.res 5)] (some ((.slot 3), false))
    (.q 7 (.icm .eql) [(.res 6), (.const (.int .i64 (-9223372036854775808)))] (some ((.slot 3), false))
    (.q 8 .pick [(.slot 3), (.const (.bool true)), (.res 7)] none
    (.out [(1, (.slot 1)), (3, (.res 8)), (4, (.slot 4))]))))))))
    [1, 3, 4]
abbrev law29_edge_r5 : NC := .reg
    (.q 1 (.iar .add) [(.slot 4), (.const (.int .i64 1))] none
    (.out [(1, (.slot 1)), (3, (.slot 3)), (4, (.res 1))]))
    [1, 3, 4]
abbrev law29_edge_l0 : NC :=
  (.seq (.seq law29_edge_r3
  (.cond (.slot 22)
    .skip
    (.exit 0)))
  (.seq (.block 1 law29_edge_r4)
  law29_edge_r5))
abbrev law29_edge_r6 : NC := .reg
    (.out [(2, (.slot 3))])
    [3]
abbrev law29_edge_c : NC :=
  (.seq law29_edge_r0
  (.seq law29_edge_r1
  (.seq (.seq law29_edge_r2
  (.block 0 (.loop [1, 3, 4] law29_edge_l0)))
  (.seq law29_edge_r6
  .ret))))
abbrev law29_edge_F : FN := ⟨law29_edge_c, [.slot 2]⟩
theorem law29_edge_ok : compF Tryz.prog Tryz.f5 = some law29_edge_F := by kernel_rfl
theorem law29_edge_go {args : List Value} {m : Mem} {R : Value → Mem → Prop} (hn : args.length ≤ Tryz.f5.ntmps) (h : wpN Tryz.prog law29_edge_c (retP law29_edge_F.rvs R) (zipP 0 args) m) : MC Tryz.prog 5 args m R := MC_start Tryz.func5 law29_edge_ok mixed_ok hn h
/-! concord/concordlaw29.line -/
abbrev law29_line_r0 : NC := .reg
    (.x 0 (.box 26) [(.slot 0)] none []
    (.out [(1, (.res 0))]))
    [0]
abbrev law29_line_r1 : NC := .reg
    (.q 0 (.fld 1) [(.slot 1)] none
    (.q 1 .ld [(.res 0)] none
    (.x 2 (.call 17) [(.res 1)] none []
    (.q 3 (.str .add) [(.const (.string ⟨#[32]⟩)), (.res 2)] none
    (.out [(1, (.slot 1)), (3, (.res 3))])))))
    [1]
abbrev law29_line_r2 : NC := .reg
    (.q 0 (.fld 0) [(.slot 1)] none
    (.q 1 .ld [(.res 0)] none
    (.out [(1, (.slot 1)), (3, (.slot 3)), (12, (.res 1))])))
    [1, 3]
abbrev law29_line_r3 : NC := .reg
    (.q 0 (.icm .eql) [(.slot 12), (.const (.int .i64 2))] none
    (.out [(1, (.slot 1)), (3, (.slot 3)), (12, (.slot 12)), (13, (.res 0))]))
    [1, 3, 12]
abbrev law29_line_r4 : NC := .reg
    (.q 1 (.str .add) [(.const (.string ⟨#[103, 105, 118, 101]⟩)), (.slot 3)] none
    (.out [(2, (.res 1))]))
    [3]
abbrev law29_line_r5 : NC := .reg
    (.q 0 (.icm .eql) [(.slot 12), (.const (.int .i64 3))] none
    (.out [(1, (.slot 1)), (3, (.slot 3)), (12, (.slot 12)), (17, (.res 0))]))
    [1, 3, 12]
abbrev law29_line_r6 : NC := .reg
    (.q 1 (.str .add) [(.const (.string ⟨#[99, 111, 112, 121]⟩)), (.slot 3)] none
    (.out [(2, (.res 1))]))
    [3]
abbrev law29_line_r7 : NC := .reg
    (.q 0 (.icm .eql) [(.slot 12), (.const (.int .i64 4))] none
    (.out [(1, (.slot 1)), (3, (.slot 3)), (12, (.slot 12)), (21, (.res 0))]))
    [1, 3, 12]
abbrev law29_line_r8 : NC := .reg
    (.q 1 (.str .add) [(.const (.string ⟨#[108, 111, 115, 101]⟩)), (.slot 3)] none
    (.out [(2, (.res 1))]))
    [3]
abbrev law29_line_r9 : NC := .reg
    (.q 0 (.icm .eql) [(.slot 12), (.const (.int .i64 5))] none
    (.out [(1, (.slot 1)), (3, (.slot 3)), (12, (.slot 12)), (25, (.res 0))]))
    [1, 3, 12]
abbrev law29_line_r10 : NC := .reg
    (.q 1 (.str .add) [(.const (.string ⟨#[116, 105, 99, 107]⟩)), (.slot 3)] none
    (.out [(2, (.res 1))]))
    [3]
abbrev law29_line_r11 : NC := .reg
    (.q 0 (.icm .eql) [(.slot 12), (.const (.int .i64 6))] none
    (.out [(1, (.slot 1)), (3, (.slot 3)), (12, (.slot 12)), (29, (.res 0))]))
    [1, 3, 12]
abbrev law29_line_r12 : NC := .reg
    (.q 1 (.str .add) [(.const (.string ⟨#[116, 105, 109, 101]⟩)), (.slot 3)] none
    (.out [(2, (.res 1))]))
    [3]
abbrev law29_line_r13 : NC := .reg
    (.q 0 (.icm .eql) [(.slot 12), (.const (.int .i64 9))] none
    (.out [(1, (.slot 1)), (3, (.slot 3)), (12, (.slot 12)), (33, (.res 0))]))
    [1, 3, 12]
abbrev law29_line_r14 : NC := .reg
    (.q 1 (.str .add) [(.const (.string ⟨#[115, 116, 97, 114, 116]⟩)), (.slot 3)] none
    (.out [(2, (.res 1))]))
    [3]
abbrev law29_line_r15 : NC := .reg
    (.q 0 (.icm .eql) [(.slot 12), (.const (.int .i64 7))] none
    (.out [(1, (.slot 1)), (3, (.slot 3)), (12, (.slot 12)), (37, (.res 0))]))
    [1, 3, 12]
abbrev law29_line_r16 : NC := .reg
    (.q 1 (.str .add) [(.const (.string ⟨#[97, 114, 109]⟩)), (.slot 3)] none
    (.q 2 (.str .add) [(.res 1), (.const (.string ⟨#[32]⟩))] none
    (.q 3 (.fld 2) [(.slot 1)] none
    (.q 4 .ld [(.res 3)] none
    (.x 5 (.call 17) [(.res 4)] none []
    (.q 6 (.str .add) [(.res 2), (.res 5)] none
    (.out [(2, (.res 6))])))))))
    [1, 3]
abbrev law29_line_r17 : NC := .reg
    (.q 0 (.icm .eql) [(.slot 12), (.const (.int .i64 8))] none
    (.out [(1, (.slot 1)), (3, (.slot 3)), (12, (.slot 12)), (46, (.res 0))]))
    [1, 3, 12]
abbrev law29_line_r18 : NC := .reg
    (.q 1 (.str .add) [(.const (.string ⟨#[99, 114, 97, 115, 104]⟩)), (.slot 3)] none
    (.out [(1, (.slot 1)), (4, (.res 1))]))
    [1, 3]
abbrev law29_line_r19 : NC := .reg
    (.out [(1, (.slot 1)), (4, (.slot 4)), (5, (.const (.int .i64 0)))])
    [1, 4]
abbrev law29_line_r20 : NC := .reg
    (.q 1 (.fld 11) [(.slot 1)] none
    (.q 2 .ld [(.res 1)] none
    (.q 3 .len [(.res 2)] none
    (.q 4 (.icm .lss) [(.slot 5), (.res 3)] none
    (.out [(1, (.slot 1)), (4, (.slot 4)), (5, (.slot 5)), (54, (.res 4))])))))
    [1, 4, 5]
abbrev law29_line_r21 : NC := .reg
    (.q 1 (.str .add) [(.slot 4), (.const (.string ⟨#[32]⟩))] none
    (.q 2 (.fld 11) [(.slot 1)] none
    (.q 3 .ld [(.res 2)] none
    (.q 5 (.ixs 1) [(.res 3), (.slot 5)] none
    (.q 6 .ld [(.res 5)] none
    (.x 7 (.call 17) [(.res 6)] none []
    (.q 8 (.str .add) [(.res 1), (.res 7)] none
    (.out [(1, (.slot 1)), (4, (.res 8)), (5, (.slot 5))]))))))))
    [1, 4, 5]
abbrev law29_line_r22 : NC := .reg
    (.q 1 (.iar .add) [(.slot 5), (.const (.int .i64 1))] none
    (.out [(1, (.slot 1)), (4, (.slot 4)), (5, (.res 1))]))
    [1, 4, 5]
abbrev law29_line_l0 : NC :=
  (.seq (.seq law29_line_r20
  (.cond (.slot 54)
    .skip
    (.exit 1)))
  (.seq (.block 2 law29_line_r21)
  law29_line_r22))
abbrev law29_line_r23 : NC := .reg
    (.out [(2, (.slot 4))])
    [4]
abbrev law29_line_r24 : NC := .reg
    (.q 0 (.icm .eql) [(.slot 12), (.const (.int .i64 1))] none
    (.out [(1, (.slot 1)), (3, (.slot 3)), (67, (.res 0))]))
    [1, 3, 12]
abbrev law29_line_r25 : NC := .reg
    (.q 0 (.fld 3) [(.slot 1)] none
    (.q 1 .ld [(.res 0)] none
    (.q 7 (.fld 4) [(.slot 1)] none
    (.q 8 (.fld 3) [(.res 7)] none
    (.q 9 .ld [(.res 8)] none
    (.x 2 (.call 17) [(.res 1)] none [(9, .ld, [(.res 8)], none)]
    (.q 3 (.str .add) [(.const (.string ⟨#[32]⟩)), (.res 2)] none
    (.q 5 (.str .add) [(.res 3), (.slot 3)] none
    (.q 6 (.str .add) [(.res 5), (.const (.string ⟨#[32]⟩))] none
    (.x 10 (.call 21) [(.res 9)] none []
    (.q 11 (.str .add) [(.res 6), (.res 10)] none
    (.out [(1, (.slot 1)), (6, (.res 11))]))))))))))))
    [1, 3]
abbrev law29_line_r26 : NC := .reg
    (.q 0 (.fld 4) [(.slot 1)] none
    (.q 1 (.fld 0) [(.res 0)] none
    (.q 2 .ld [(.res 1)] none
    (.out [(1, (.slot 1)), (6, (.slot 6)), (83, (.res 2))]))))
    [1, 6]
abbrev law29_line_r27 : NC := .reg
    (.q 0 (.icm .eql) [(.slot 83), (.const (.int .i64 1))] none
    (.out [(1, (.slot 1)), (6, (.slot 6)), (83, (.slot 83)), (84, (.res 0))]))
    [1, 6, 83]
abbrev law29_line_r28 : NC := .reg
    (.q 1 (.str .add) [(.const (.string ⟨#[103, 101, 116]⟩)), (.slot 6)] none
    (.out [(2, (.res 1))]))
    [6]
abbrev law29_line_r29 : NC := .reg
    (.q 0 (.icm .eql) [(.slot 83), (.const (.int .i64 2))] none
    (.out [(1, (.slot 1)), (6, (.slot 6)), (83, (.slot 83)), (88, (.res 0))]))
    [1, 6, 83]
abbrev law29_line_r30 : NC := .reg
    (.q 1 (.str .add) [(.const (.string ⟨#[112, 117, 116]⟩)), (.slot 6)] none
    (.q 2 (.str .add) [(.res 1), (.const (.string ⟨#[32]⟩))] none
    (.q 3 (.fld 4) [(.slot 1)] none
    (.q 4 (.fld 6) [(.res 3)] none
    (.q 5 .ld [(.res 4)] none
    (.x 6 (.call 21) [(.res 5)] none []
    (.q 7 (.str .add) [(.res 2), (.res 6)] none
    (.out [(2, (.res 7))]))))))))
    [1, 6]
abbrev law29_line_r31 : NC := .reg
    (.q 0 (.icm .eql) [(.slot 83), (.const (.int .i64 3))] none
    (.out [(1, (.slot 1)), (6, (.slot 6)), (83, (.slot 83)), (98, (.res 0))]))
    [1, 6, 83]
abbrev law29_line_r32 : NC := .reg
    (.q 1 (.str .add) [(.const (.string ⟨#[100, 101, 108]⟩)), (.slot 6)] none
    (.out [(2, (.res 1))]))
    [6]
abbrev law29_line_r33 : NC := .reg
    (.q 0 (.icm .eql) [(.slot 83), (.const (.int .i64 4))] none
    (.out [(1, (.slot 1)), (6, (.slot 6)), (83, (.slot 83)), (102, (.res 0))]))
    [1, 6, 83]
abbrev law29_line_r34 : NC := .reg
    (.q 1 (.str .add) [(.const (.string ⟨#[115, 119, 97, 112]⟩)), (.slot 6)] none
    (.q 2 (.str .add) [(.res 1), (.const (.string ⟨#[32]⟩))] none
    (.q 3 (.fld 4) [(.slot 1)] none
    (.q 4 (.fld 5) [(.res 3)] none
    (.q 5 .ld [(.res 4)] none
    (.q 9 (.fld 4) [(.slot 1)] none
    (.q 10 (.fld 6) [(.res 9)] none
    (.q 11 .ld [(.res 10)] none
    (.x 6 (.call 21) [(.res 5)] none [(11, .ld, [(.res 10)], none)]
    (.q 7 (.str .add) [(.res 2), (.res 6)] none
    (.q 8 (.str .add) [(.res 7), (.const (.string ⟨#[32]⟩))] none
    (.x 12 (.call 21) [(.res 11)] none []
    (.q 13 (.str .add) [(.res 8), (.res 12)] none
    (.out [(2, (.res 13))]))))))))))))))
    [1, 6]
abbrev law29_line_r35 : NC := .reg
    (.q 0 (.icm .eql) [(.slot 83), (.const (.int .i64 5))] none
    (.out [(1, (.slot 1)), (6, (.slot 6)), (118, (.res 0))]))
    [1, 6, 83]
abbrev law29_line_r36 : NC := .reg
    (.q 1 (.str .add) [(.const (.string ⟨#[114, 97, 110, 103, 101]⟩)), (.slot 6)] none
    (.q 2 (.str .add) [(.res 1), (.const (.string ⟨#[32]⟩))] none
    (.q 3 (.fld 4) [(.slot 1)] none
    (.q 4 (.fld 4) [(.res 3)] none
    (.q 5 .ld [(.res 4)] none
    (.x 6 (.call 21) [(.res 5)] none []
    (.q 7 (.str .add) [(.res 2), (.res 6)] none
    (.out [(2, (.res 7))]))))))))
    [1, 6]
abbrev law29_line_r37 : NC := .reg
    (.out [(2, (.const (.string ⟨#[]⟩)))])
    []
abbrev law29_line_c : NC :=
  (.seq law29_line_r0
  (.seq law29_line_r1
  (.seq (.seq law29_line_r2
  (.block 0 (.seq law29_line_r3
  (.cond (.slot 13)
    (.seq law29_line_r4
    .ret)
    (.seq law29_line_r5
    (.cond (.slot 17)
      (.seq law29_line_r6
      .ret)
      (.seq law29_line_r7
      (.cond (.slot 21)
        (.seq law29_line_r8
        .ret)
        (.seq law29_line_r9
        (.cond (.slot 25)
          (.seq law29_line_r10
          .ret)
          (.seq law29_line_r11
          (.cond (.slot 29)
            (.seq law29_line_r12
            .ret)
            (.seq law29_line_r13
            (.cond (.slot 33)
              (.seq law29_line_r14
              .ret)
              (.seq law29_line_r15
              (.cond (.slot 37)
                (.seq law29_line_r16
                .ret)
                (.seq law29_line_r17
                (.cond (.slot 46)
                  (.seq law29_line_r18
                  (.seq (.seq law29_line_r19
                  (.block 1 (.loop [1, 4, 5] law29_line_l0)))
                  (.seq law29_line_r23
                  .ret)))
                  (.seq law29_line_r24
                  (.cond (.slot 67)
                    (.seq law29_line_r25
                    (.seq law29_line_r26
                    (.block 3 (.seq law29_line_r27
                    (.cond (.slot 84)
                      (.seq law29_line_r28
                      .ret)
                      (.seq law29_line_r29
                      (.cond (.slot 88)
                        (.seq law29_line_r30
                        .ret)
                        (.seq law29_line_r31
                        (.cond (.slot 98)
                          (.seq law29_line_r32
                          .ret)
                          (.seq law29_line_r33
                          (.cond (.slot 102)
                            (.seq law29_line_r34
                            .ret)
                            (.seq law29_line_r35
                            (.cond (.slot 118)
                              (.seq law29_line_r36
                              .ret)
                              .skip)))))))))))))
                    .skip))))))))))))))))))))
  (.seq law29_line_r37
  .ret))))
abbrev law29_line_F : FN := ⟨law29_line_c, [.slot 2]⟩
theorem law29_line_ok : compF Tryz.prog Tryz.f7 = some law29_line_F := by kernel_rfl
theorem law29_line_go {args : List Value} {m : Mem} {R : Value → Mem → Prop} (hn : args.length ≤ Tryz.f7.ntmps) (h : wpN Tryz.prog law29_line_c (retP law29_line_F.rvs R) (zipP 0 args) m) : MC Tryz.prog 7 args m R := MC_start Tryz.func7 law29_line_ok mixed_ok hn h
/-! concord/concordlaw29.same -/
abbrev law29_same_r0 : NC := .reg
    (.x 0 (.box 26) [(.slot 0)] none []
    (.x 1 (.box 26) [(.slot 1)] none []
    (.out [(2, (.res 0)), (3, (.res 1))])))
    [0, 1]
abbrev law29_same_r1 : NC := .reg
    (.q 0 (.fld 0) [(.slot 2)] none
    (.q 1 .ld [(.res 0)] none
    (.q 2 (.fld 0) [(.slot 3)] none
    (.q 3 .ld [(.res 2)] none
    (.q 4 (.icm .eql) [(.res 1), (.res 3)] none
    (.q 6 (.fld 1) [(.slot 2)] (some ((.res 4), true))
    (.q 7 .ld [(.res 6)] (some ((.res 4), true))
    (.q 8 (.fld 1) [(.slot 3)] (some ((.res 4), true))
    (.q 9 .ld [(.res 8)] (some ((.res 4), true))
    (.q 10 (.icm .eql) [(.res 7), (.res 9)] (some ((.res 4), true))
    (.q 11 .pick [(.res 4), (.res 10), (.const (.bool false))] none
    (.q 13 (.fld 2) [(.slot 2)] (some ((.res 11), true))
    (.q 14 .ld [(.res 13)] (some ((.res 11), true))
    (.q 15 (.fld 2) [(.slot 3)] (some ((.res 11), true))
    (.q 16 .ld [(.res 15)] (some ((.res 11), true))
    (.q 17 (.icm .eql) [(.res 14), (.res 16)] (some ((.res 11), true))
    (.q 18 .pick [(.res 11), (.res 17), (.const (.bool false))] none
    (.q 20 (.fld 3) [(.slot 2)] (some ((.res 18), true))
    (.q 21 .ld [(.res 20)] (some ((.res 18), true))
    (.q 22 (.fld 3) [(.slot 3)] (some ((.res 18), true))
    (.q 23 .ld [(.res 22)] (some ((.res 18), true))
    (.q 24 (.icm .eql) [(.res 21), (.res 23)] (some ((.res 18), true))
    (.q 25 .pick [(.res 18), (.res 24), (.const (.bool false))] none
    (.q 27 (.fld 4) [(.slot 2)] (some ((.res 25), true))
    (.q 28 (.lda 7) [(.res 27)] (some ((.res 25), true))
    (.q 29 (.fld 4) [(.slot 3)] (some ((.res 25), true))
    (.q 30 (.lda 7) [(.res 29)] (some ((.res 25), true))
    (.q 31 (.eqc false [(.i .i64), (.i .i64), (.i .i64), .s, .s, .s, .s]) [(.res 28), (.res 30)] (some ((.res 25), true))
    (.q 32 .pick [(.res 25), (.res 31), (.const (.bool false))] none
    (.q 34 (.fld 11) [(.slot 2)] (some ((.res 32), true))
    (.q 35 .ld [(.res 34)] (some ((.res 32), true))
    (.q 36 (.fld 11) [(.slot 3)] (some ((.res 32), true))
    (.q 37 .ld [(.res 36)] (some ((.res 32), true))
    (.x 38 (.call 24) [(.res 35), (.res 37)] (some ((.res 32), true)) []
    (.q 39 .pick [(.res 32), (.res 38), (.const (.bool false))] none
    (.out [(4, (.res 39))]))))))))))))))))))))))))))))))))))))
    [2, 3]
abbrev law29_same_c : NC :=
  (.seq law29_same_r0
  (.seq law29_same_r1
  .ret))
abbrev law29_same_F : FN := ⟨law29_same_c, [.slot 4]⟩
theorem law29_same_ok : compF Tryz.prog Tryz.f9 = some law29_same_F := by kernel_rfl
theorem law29_same_go {args : List Value} {m : Mem} {R : Value → Mem → Prop} (hn : args.length ≤ Tryz.f9.ntmps) (h : wpN Tryz.prog law29_same_c (retP law29_same_F.rvs R) (zipP 0 args) m) : MC Tryz.prog 9 args m R := MC_start Tryz.func9 law29_same_ok mixed_ok hn h
/-! concord/concordlaw29.told -/
abbrev law29_told_r0 : NC := .reg
    (.x 0 (.box 26) [(.slot 0)] none []
    (.x 1 (.alc [(.int .i64 0), (.int .i64 0), (.int .i64 0), (.int .i64 0), (.int .i64 0), (.int .i64 0), (.int .i64 0), (.string ⟨#[]⟩), (.string ⟨#[]⟩), (.string ⟨#[]⟩), (.string ⟨#[]⟩), (.slice none 0 0)] 26) [] none []
    (.out [(1, (.res 0)), (2, (.res 1))])))
    [0]
abbrev law29_told_r1 : NC := .reg
    (.q 0 (.fld 0) [(.slot 1)] none
    (.q 1 .ld [(.res 0)] none
    (.q 2 (.fld 1) [(.slot 1)] none
    (.q 3 .ld [(.res 2)] none
    (.q 4 (.bld [(.int .i64 0), (.int .i64 0), (.int .i64 0), (.int .i64 0), (.int .i64 0), (.int .i64 0), (.int .i64 0), (.string ⟨#[]⟩), (.string ⟨#[]⟩), (.string ⟨#[]⟩), (.string ⟨#[]⟩), (.slice none 0 0)] [(0, 1), (1, 1)]) [(.res 1), (.res 3)] none
    (.x 5 (.alc [(.int .i64 0), (.int .i64 0), (.int .i64 0), (.int .i64 0), (.int .i64 0), (.int .i64 0), (.int .i64 0), (.string ⟨#[]⟩), (.string ⟨#[]⟩), (.string ⟨#[]⟩), (.string ⟨#[]⟩), (.slice none 0 0)] 26) [] none []
    (.x 6 (.st 12) [(.res 5), (.res 4)] none []
    (.out [(1, (.slot 1)), (2, (.slot 2)), (3, (.res 5))]))))))))
    [1, 2]
abbrev law29_told_r2 : NC := .reg
    (.q 0 (.fld 0) [(.slot 1)] none
    (.q 1 .ld [(.res 0)] none
    (.out [(1, (.slot 1)), (2, (.slot 2)), (3, (.slot 3)), (10, (.res 1))])))
    [1, 2, 3]
abbrev law29_told_r3 : NC := .reg
    (.q 0 (.icm .eql) [(.slot 10), (.const (.int .i64 7))] none
    (.out [(1, (.slot 1)), (2, (.slot 2)), (3, (.slot 3)), (10, (.slot 10)), (11, (.res 0))]))
    [1, 2, 3, 10]
abbrev law29_told_r4 : NC := .reg
    (.q 0 (.fld 2) [(.slot 1)] none
    (.q 1 .ld [(.res 0)] none
    (.q 2 (.fld 2) [(.slot 3)] none
    (.x 3 (.st 1) [(.res 2), (.res 1)] none []
    (.out [(2, (.slot 2)), (3, (.slot 3))])))))
    [1, 2, 3]
abbrev law29_told_r5 : NC := .reg
    (.q 0 (.icm .eql) [(.slot 10), (.const (.int .i64 8))] none
    (.out [(1, (.slot 1)), (2, (.slot 2)), (3, (.slot 3)), (10, (.slot 10)), (16, (.res 0))]))
    [1, 2, 3, 10]
abbrev law29_told_r6 : NC := .reg
    (.q 0 (.fld 11) [(.slot 1)] none
    (.q 1 .ld [(.res 0)] none
    (.q 2 (.fld 11) [(.slot 3)] none
    (.x 3 (.st 1) [(.res 2), (.res 1)] none []
    (.out [(2, (.slot 2)), (3, (.slot 3))])))))
    [1, 2, 3]
abbrev law29_told_r7 : NC := .reg
    (.q 0 (.icm .eql) [(.slot 10), (.const (.int .i64 1))] none
    (.out [(1, (.slot 1)), (2, (.slot 2)), (3, (.slot 3)), (21, (.res 0))]))
    [1, 2, 3, 10]
abbrev law29_told_r8 : NC := .reg
    (.q 0 (.fld 3) [(.slot 1)] none
    (.q 1 .ld [(.res 0)] none
    (.q 2 (.fld 3) [(.slot 3)] none
    (.x 3 (.st 1) [(.res 2), (.res 1)] none []
    (.out [(1, (.slot 1)), (2, (.slot 2)), (3, (.slot 3))])))))
    [1, 2, 3]
abbrev law29_told_r9 : NC := .reg
    (.q 0 (.fld 4) [(.slot 1)] none
    (.q 1 (.fld 0) [(.res 0)] none
    (.q 2 .ld [(.res 1)] none
    (.q 3 (.fld 4) [(.slot 1)] none
    (.q 4 (.fld 3) [(.res 3)] none
    (.q 5 .ld [(.res 4)] none
    (.q 6 (.bld [(.int .i64 0), (.int .i64 0), (.int .i64 0), (.string ⟨#[]⟩), (.string ⟨#[]⟩), (.string ⟨#[]⟩), (.string ⟨#[]⟩)] [(0, 1), (3, 1)]) [(.res 2), (.res 5)] none
    (.q 7 (.fld 4) [(.slot 3)] none
    (.x 8 (.st 7) [(.res 7), (.res 6)] none []
    (.out [(1, (.slot 1)), (2, (.slot 2)), (3, (.slot 3))]))))))))))
    [1, 2, 3]
abbrev law29_told_r10 : NC := .reg
    (.q 0 (.fld 4) [(.slot 1)] none
    (.q 1 (.fld 0) [(.res 0)] none
    (.q 2 .ld [(.res 1)] none
    (.out [(1, (.slot 1)), (2, (.slot 2)), (3, (.slot 3)), (36, (.res 2))]))))
    [1, 2, 3]
abbrev law29_told_r11 : NC := .reg
    (.q 0 (.icm .eql) [(.slot 36), (.const (.int .i64 2))] none
    (.out [(1, (.slot 1)), (2, (.slot 2)), (3, (.slot 3)), (36, (.slot 36)), (37, (.res 0))]))
    [1, 2, 3, 36]
abbrev law29_told_r12 : NC := .reg
    (.q 0 (.fld 4) [(.slot 1)] none
    (.q 1 (.fld 6) [(.res 0)] none
    (.q 2 .ld [(.res 1)] none
    (.q 3 (.fld 4) [(.slot 3)] none
    (.q 4 (.fld 6) [(.res 3)] none
    (.x 5 (.st 1) [(.res 4), (.res 2)] none []
    (.out [(2, (.slot 2)), (3, (.slot 3))])))))))
    [1, 2, 3]
abbrev law29_told_r13 : NC := .reg
    (.q 0 (.icm .eql) [(.slot 36), (.const (.int .i64 4))] none
    (.out [(1, (.slot 1)), (2, (.slot 2)), (3, (.slot 3)), (36, (.slot 36)), (44, (.res 0))]))
    [1, 2, 3, 36]
abbrev law29_told_r14 : NC := .reg
    (.q 0 (.fld 4) [(.slot 1)] none
    (.q 1 (.fld 5) [(.res 0)] none
    (.q 2 .ld [(.res 1)] none
    (.q 3 (.fld 4) [(.slot 1)] none
    (.q 4 (.fld 6) [(.res 3)] none
    (.q 5 .ld [(.res 4)] none
    (.q 6 (.fld 4) [(.slot 3)] none
    (.q 7 (.fld 5) [(.res 6)] none
    (.x 8 (.st 1) [(.res 7), (.res 2)] none [(5, .ld, [(.res 4)], none)]
    (.q 9 (.fld 4) [(.slot 3)] none
    (.q 10 (.fld 6) [(.res 9)] none
    (.x 11 (.st 1) [(.res 10), (.res 5)] none []
    (.out [(2, (.slot 2)), (3, (.slot 3))])))))))))))))
    [1, 2, 3]
abbrev law29_told_r15 : NC := .reg
    (.q 0 (.icm .eql) [(.slot 36), (.const (.int .i64 5))] none
    (.out [(1, (.slot 1)), (2, (.slot 2)), (3, (.slot 3)), (56, (.res 0))]))
    [1, 2, 3, 36]
abbrev law29_told_r16 : NC := .reg
    (.q 0 (.fld 4) [(.slot 1)] none
    (.q 1 (.fld 4) [(.res 0)] none
    (.q 2 .ld [(.res 1)] none
    (.q 3 (.fld 4) [(.slot 3)] none
    (.q 4 (.fld 4) [(.res 3)] none
    (.x 5 (.st 1) [(.res 4), (.res 2)] none []
    (.out [(2, (.slot 2)), (3, (.slot 3))])))))))
    [1, 2, 3]
abbrev law29_told_r17 : NC := .reg
    (.q 0 (.lda 12) [(.slot 3)] none
    (.x 1 (.st 12) [(.slot 2), (.res 0)] none []
    (.out [(2, (.slot 2))])))
    [2, 3]
abbrev law29_told_c : NC :=
  (.seq law29_told_r0
  (.seq law29_told_r1
  (.seq (.seq law29_told_r2
  (.block 0 (.seq law29_told_r3
  (.cond (.slot 11)
    law29_told_r4
    (.seq law29_told_r5
    (.cond (.slot 16)
      law29_told_r6
      (.seq law29_told_r7
      (.cond (.slot 21)
        (.seq law29_told_r8
        (.seq law29_told_r9
        (.seq law29_told_r10
        (.block 1 (.seq law29_told_r11
        (.cond (.slot 37)
          law29_told_r12
          (.seq law29_told_r13
          (.cond (.slot 44)
            law29_told_r14
            (.seq law29_told_r15
            (.cond (.slot 56)
              law29_told_r16
              .skip))))))))))
        .skip))))))))
  (.seq law29_told_r17
  .ret))))
abbrev law29_told_F : FN := ⟨law29_told_c, [.cells 2 12]⟩
theorem law29_told_ok : compF Tryz.prog Tryz.f10 = some law29_told_F := by kernel_rfl
theorem law29_told_go {args : List Value} {m : Mem} {R : Value → Mem → Prop} (hn : args.length ≤ Tryz.f10.ntmps) (h : wpN Tryz.prog law29_told_c (retP law29_told_F.rvs R) (zipP 0 args) m) : MC Tryz.prog 10 args m R := MC_start Tryz.func10 law29_told_ok mixed_ok hn h
/-! concord/concordlaw29.names -/
abbrev law29_names_r0 : NC := .reg
    (.out [(0, (.slot 0))])
    [0]
abbrev law29_names_r1 : NC := .reg
    (.out [(0, (.slot 0)), (3, (.const (.string ⟨#[57, 50, 50, 51, 51, 55, 50, 48, 51, 54, 56, 53, 52, 55, 55, 53, 56, 48, 56]⟩)))])
    [0]
abbrev law29_names_r2 : NC := .reg
    (.out [(0, (.slot 0)), (3, (.slot 3)), (4, (.const (.int .i64 0)))])
    [0, 3]
abbrev law29_names_r3 : NC := .reg
    (.q 2 .lenz [(.slot 3)] none
    (.q 3 (.iar .add) [(.slot 4), (.res 2)] none
    (.q 5 .lenz [(.slot 0)] none
    (.q 6 (.icm .leq) [(.res 3), (.res 5)] none
    (.out [(0, (.slot 0)), (3, (.slot 3)), (4, (.slot 4)), (11, (.res 6))])))))
    [0, 3, 4]
abbrev law29_names_r4 : NC := .reg
    (.q 4 .lenz [(.slot 3)] none
    (.q 5 (.iar .add) [(.slot 4), (.res 4)] none
    (.q 6 (.slcs true true) [(.slot 0), (.slot 4), (.res 5)] none
    (.q 8 (.str .eql) [(.res 6), (.slot 3)] none
    (.out [(0, (.slot 0)), (3, (.slot 3)), (4, (.slot 4)), (22, (.res 8))])))))
    [0, 3, 4]
abbrev law29_names_r5 : NC := .reg
    (.out [(2, (.const (.bool true)))])
    []
abbrev law29_names_r6 : NC := .reg
    (.q 1 (.iar .add) [(.slot 4), (.const (.int .i64 1))] none
    (.out [(0, (.slot 0)), (3, (.slot 3)), (4, (.res 1))]))
    [0, 3, 4]
abbrev law29_names_l0 : NC :=
  (.seq (.seq law29_names_r3
  (.cond (.slot 11)
    .skip
    (.exit 0)))
  (.seq (.block 1 (.seq law29_names_r4
  (.cond (.slot 22)
    (.seq law29_names_r5
    .ret)
    .skip)))
  law29_names_r6))
abbrev law29_names_r7 : NC := .reg
    (.out [(2, (.const (.bool false)))])
    []
abbrev law29_names_c : NC :=
  (.seq law29_names_r0
  (.seq law29_names_r1
  (.seq (.seq law29_names_r2
  (.block 0 (.loop [0, 3, 4] law29_names_l0)))
  (.seq law29_names_r7
  .ret))))
abbrev law29_names_F : FN := ⟨law29_names_c, [.slot 2]⟩
theorem law29_names_ok : compF Tryz.prog Tryz.f11 = some law29_names_F := by kernel_rfl
theorem law29_names_go {args : List Value} {m : Mem} {R : Value → Mem → Prop} (hn : args.length ≤ Tryz.f11.ntmps) (h : wpN Tryz.prog law29_names_c (retP law29_names_F.rvs R) (zipP 0 args) m) : MC Tryz.prog 11 args m R := MC_start Tryz.func11 law29_names_ok mixed_ok hn h
/-! concord/concordlaw29.word -/
abbrev law29_word_r0 : NC := .reg
    (.out [(0, (.slot 0))])
    [0]
abbrev law29_word_r1 : NC := .reg
    (.out [(0, (.slot 0)), (3, (.const (.string ⟨#[61]⟩)))])
    [0]
abbrev law29_word_r2 : NC := .reg
    (.out [(0, (.slot 0)), (3, (.slot 3)), (4, (.const (.int .i64 0)))])
    [0, 3]
abbrev law29_word_r3 : NC := .reg
    (.q 2 .lenz [(.slot 0)] none
    (.q 3 (.icm .lss) [(.slot 4), (.res 2)] none
    (.out [(0, (.slot 0)), (3, (.slot 3)), (4, (.slot 4)), (8, (.res 3))])))
    [0, 3, 4]
abbrev law29_word_r4 : NC := .reg
    (.q 2 .idxs [(.slot 0), (.slot 4)] none
    (.q 3 (.icm .gtr) [(.res 2), (.const (.int .u8 32))] none
    (.q 5 .mv [(.slot 0)] (some ((.res 3), true))
    (.q 6 .mv [(.slot 4)] (some ((.res 3), true))
    (.q 7 .idxs [(.res 5), (.res 6)] (some ((.res 3), true))
    (.q 8 (.icm .lss) [(.res 7), (.const (.int .u8 127))] (some ((.res 3), true))
    (.q 9 .pick [(.res 3), (.res 8), (.const (.bool false))] none
    (.q 11 .mv [(.slot 0)] (some ((.res 9), true))
    (.q 12 .mv [(.slot 4)] (some ((.res 9), true))
    (.q 13 .idxs [(.res 11), (.res 12)] (some ((.res 9), true))
    (.q 14 (.icm .neq) [(.res 13), (.const (.int .u8 37))] (some ((.res 9), true))
    (.q 15 .pick [(.res 9), (.res 14), (.const (.bool false))] none
    (.out [(0, (.slot 0)), (3, (.slot 3)), (4, (.slot 4)), (26, (.res 15))])))))))))))))
    [0, 3, 4]
abbrev law29_word_r5 : NC := .reg
    (.q 3 .idxs [(.slot 0), (.slot 4)] none
    (.x 4 (.bsl 5 1 [(.int .u8 0)] [(0, 1)]) [(.res 3)] none []
    (.q 5 .b2s [(.res 4)] none
    (.q 6 (.str .add) [(.slot 3), (.res 5)] none
    (.out [(0, (.slot 0)), (3, (.res 6)), (4, (.slot 4))])))))
    [0, 3, 4]
abbrev law29_word_r6 : NC := .reg
    (.q 3 .idxs [(.slot 0), (.slot 4)] none
    (.q 4 (.ish .shr) [(.res 3), (.const (.int .u64 4))] none
    (.q 5 .idxs [(.const (.string ⟨#[48, 49, 50, 51, 52, 53, 54, 55, 56, 57, 97, 98, 99, 100, 101, 102]⟩)), (.res 4)] none
    (.q 8 .idxs [(.slot 0), (.slot 4)] none
    (.q 9 (.ibt .and) [(.res 8), (.const (.int .u8 15))] none
    (.q 10 .idxs [(.const (.string ⟨#[48, 49, 50, 51, 52, 53, 54, 55, 56, 57, 97, 98, 99, 100, 101, 102]⟩)), (.res 9)] none
    (.x 11 (.bsl 5 3 [(.int .u8 0), (.int .u8 0), (.int .u8 0)] [(0, 1), (1, 1), (2, 1)]) [(.const (.int .u8 37)), (.res 5), (.res 10)] none []
    (.q 12 .b2s [(.res 11)] none
    (.q 13 (.str .add) [(.slot 3), (.res 12)] none
    (.out [(0, (.slot 0)), (3, (.res 13)), (4, (.slot 4))]))))))))))
    [0, 3, 4]
abbrev law29_word_r7 : NC := .reg
    (.q 1 (.iar .add) [(.slot 4), (.const (.int .i64 1))] none
    (.out [(0, (.slot 0)), (3, (.slot 3)), (4, (.res 1))]))
    [0, 3, 4]
abbrev law29_word_l0 : NC :=
  (.seq (.seq law29_word_r3
  (.cond (.slot 8)
    .skip
    (.exit 0)))
  (.seq (.block 1 (.seq law29_word_r4
  (.cond (.slot 26)
    law29_word_r5
    law29_word_r6)))
  law29_word_r7))
abbrev law29_word_r8 : NC := .reg
    (.out [(2, (.slot 3))])
    [3]
abbrev law29_word_c : NC :=
  (.seq law29_word_r0
  (.seq law29_word_r1
  (.seq (.seq law29_word_r2
  (.block 0 (.loop [0, 3, 4] law29_word_l0)))
  (.seq law29_word_r8
  .ret))))
abbrev law29_word_F : FN := ⟨law29_word_c, [.slot 2]⟩
theorem law29_word_ok : compF Tryz.prog Tryz.f21 = some law29_word_F := by kernel_rfl
theorem law29_word_go {args : List Value} {m : Mem} {R : Value → Mem → Prop} (hn : args.length ≤ Tryz.f21.ntmps) (h : wpN Tryz.prog law29_word_c (retP law29_word_F.rvs R) (zipP 0 args) m) : MC Tryz.prog 21 args m R := MC_start Tryz.func21 law29_word_ok mixed_ok hn h
/-! concord/concordbook.Same[int] -/
abbrev book_Same_int_r0 : NC := .reg
    (.out [(0, (.slot 0)), (1, (.slot 1))])
    [0, 1]
abbrev book_Same_int_r1 : NC := .reg
    (.q 1 .len [(.slot 0)] none
    (.q 3 .len [(.slot 1)] none
    (.q 4 (.icm .neq) [(.res 1), (.res 3)] none
    (.out [(0, (.slot 0)), (1, (.slot 1)), (10, (.res 4))]))))
    [0, 1]
abbrev book_Same_int_r2 : NC := .reg
    (.out [(4, (.const (.bool false)))])
    []
abbrev book_Same_int_r3 : NC := .reg
    (.out [(0, (.slot 0)), (1, (.slot 1)), (5, (.const (.int .i64 0)))])
    [0, 1]
abbrev book_Same_int_r4 : NC := .reg
    (.q 2 .len [(.slot 0)] none
    (.q 3 (.icm .lss) [(.slot 5), (.res 2)] none
    (.out [(0, (.slot 0)), (1, (.slot 1)), (5, (.slot 5)), (14, (.res 3))])))
    [0, 1, 5]
abbrev book_Same_int_r5 : NC := .reg
    (.q 2 (.ixs 1) [(.slot 0), (.slot 5)] none
    (.q 3 .ld [(.res 2)] none
    (.q 6 (.ixs 1) [(.slot 1), (.slot 5)] none
    (.q 7 .ld [(.res 6)] none
    (.q 8 (.icm .neq) [(.res 3), (.res 7)] none
    (.out [(0, (.slot 0)), (1, (.slot 1)), (5, (.slot 5)), (25, (.res 8))]))))))
    [0, 1, 5]
abbrev book_Same_int_r6 : NC := .reg
    (.out [(4, (.const (.bool false)))])
    []
abbrev book_Same_int_r7 : NC := .reg
    (.q 1 (.iar .add) [(.slot 5), (.const (.int .i64 1))] none
    (.out [(0, (.slot 0)), (1, (.slot 1)), (5, (.res 1))]))
    [0, 1, 5]
abbrev book_Same_int_l0 : NC :=
  (.seq (.seq book_Same_int_r4
  (.cond (.slot 14)
    .skip
    (.exit 0)))
  (.seq (.block 1 (.seq book_Same_int_r5
  (.cond (.slot 25)
    (.seq book_Same_int_r6
    .ret)
    .skip)))
  book_Same_int_r7))
abbrev book_Same_int_r8 : NC := .reg
    (.out [(4, (.const (.bool true)))])
    []
abbrev book_Same_int_c : NC :=
  (.seq book_Same_int_r0
  (.seq (.seq book_Same_int_r1
  (.cond (.slot 10)
    (.seq book_Same_int_r2
    .ret)
    .skip))
  (.seq (.seq book_Same_int_r3
  (.block 0 (.loop [0, 1, 5] book_Same_int_l0)))
  (.seq book_Same_int_r8
  .ret))))
abbrev book_Same_int_F : FN := ⟨book_Same_int_c, [.slot 4]⟩
theorem book_Same_int_ok : compF Tryz.prog Tryz.f24 = some book_Same_int_F := by kernel_rfl
theorem book_Same_int_go {args : List Value} {m : Mem} {R : Value → Mem → Prop} (hn : args.length ≤ Tryz.f24.ntmps) (h : wpN Tryz.prog book_Same_int_c (retP book_Same_int_F.rvs R) (zipP 0 args) m) : MC Tryz.prog 24 args m R := MC_start Tryz.func24 book_Same_int_ok mixed_ok hn h
end Go.Fw
