import Derived.Test.YthmfahaebogibaaFxA
import Derived.Test.YthmfahaebogibaaProg
set_option linter.unusedVariables false
set_option linter.unusedSimpArgs false
namespace Go.Fw
open Go.Proofs
abbrev T_int64 : Nat := 2
abbrev T_int : Nat := 3
abbrev T_bool : Nat := 4
abbrev T_uint8 : Nat := 5
abbrev T_abi_BoundsErrorCode : Nat := 6
abbrev T_runtime_boundsError : Nat := 8
abbrev T_string : Nat := 9
abbrev T_runtime_errorString : Nat := 10
abbrev T_runtime_plainError : Nat := 11
abbrev T_uintptr : Nat := 12
abbrev T_runtime_errorAddressString : Nat := 14
abbrev T_P_runtime_TypeAssertionError : Nat := 15
abbrev T_P_runtime_PanicNilError : Nat := 16
abbrev T_P_abi_Type : Nat := 17
abbrev T_maps_unhashableTypeError : Nat := 19
abbrev T_int32 : Nat := 21
abbrev T_api_Inst : Nat := 23
abbrev T_S_exec_Known : Nat := 25
abbrev T_S_api_Inst : Nat := 26
abbrev T_A7_int : Nat := 29
abbrev T_api_Deps : Nat := 30
abbrev T_api_Ballot : Nat := 32
abbrev T_api_Command : Nat := 34
abbrev T_api_Attr : Nat := 36
abbrev T_api_Cell : Nat := 38
abbrev T_exec_Known : Nat := 40
abbrev T_S_ref19_Known : Nat := 48
abbrev T_ref19_Known : Nat := 52
abbrev T_S_int : Nat := 55
abbrev T_P_exec_plan : Nat := 62
abbrev T_M_api_Inst_api_Cell : Nat := 63
abbrev T_exec_plan : Nat := 65
abbrev T_P_inst_Set : Nat := 67
abbrev T_M_api_Inst_struct : Nat := 82
abbrev T_inst_Set : Nat := 84
abbrev T_S_S_int : Nat := 88
abbrev T_api_Errno : Nat := 93
abbrev T_uint : Nat := 101
abbrev T_S_S_bool : Nat := 102
abbrev T_S_bool : Nat := 104
abbrev T_P_graph_walk : Nat := 105
abbrev T_graph_walk : Nat := 107
abbrev T_slices_sortedHint : Nat := 113
abbrev T_uint32 : Nat := 121
abbrev T_uint64 : Nat := 123
abbrev T_graph_step : Nat := 125
abbrev T_S_graph_step : Nat := 127
abbrev T_P_graph_step : Nat := 128
abbrev T_slices_xorshift : Nat := 131
abbrev T_P_int : Nat := 135
abbrev T_P_slices_xorshift : Nat := 137
abbrev T_runtime_TypeAssertionError : Nat := 142
abbrev T_A0_P_runtime_PanicNilError : Nat := 143
abbrev T_runtime_PanicNilError : Nat := 145
abbrev T_abi_TFlag : Nat := 147
abbrev T_abi_Kind : Nat := 148
abbrev T_P_uint8 : Nat := 150
abbrev T_abi_NameOff : Nat := 151
abbrev T_abi_TypeOff : Nat := 152
abbrev T_abi_Type : Nat := 154
abbrev n_main_main : Nat := 0
abbrev n_gosem_cut : Nat := 1
abbrev n_gosem_cut_init : Nat := 2
abbrev n_law20_ExecRuns : Nat := 3
abbrev n_law20_ExecPlans : Nat := 4
abbrev n_law20_ExecSame : Nat := 5
abbrev n_law20_ExecChain : Nat := 6
abbrev n_law20_ExecTwice : Nat := 7
abbrev n_law20_ExecWhole : Nat := 8
abbrev n_law20_ExecRuns_c1 : Nat := 9
abbrev n_exec_Plan : Nat := 10
abbrev n_law20_known : Nat := 11
abbrev n_book_Same_api_Inst : Nat := 12
abbrev n_law20_ids : Nat := 13
abbrev n_law20_few : Nat := 14
abbrev n_book_Within : Nat := 15
abbrev n_book_Roomy_exec_Known : Nat := 16
abbrev n_ref19_Plan : Nat := 17
abbrev n_law20_row : Nat := 18
abbrev n_book_Intact_exec_Known : Nat := 19
abbrev n_law20_place : Nat := 20
abbrev n_deps_Reach : Nat := 21
abbrev n_deps_Covers : Nat := 22
abbrev n_exec_plan_round : Nat := 23
abbrev n_inst_Set_List : Nat := 24
abbrev n_ref19_get : Nat := 25
abbrev n_ref19_beyond : Nat := 26
abbrev n_ref19_closure : Nat := 27
abbrev n_ref19_order : Nat := 28
abbrev n_ref19_unique : Nat := 29
abbrev n_book_Same_exec_Known : Nat := 30
abbrev n_inst_Right : Nat := 31
abbrev n_inst_New : Nat := 32
abbrev n_exec_plan_beyond : Nat := 33
abbrev n_inst_Set_Add : Nat := 34
abbrev n_exec_plan_hangs : Nat := 35
abbrev n_exec_plan_do : Nat := 36
abbrev n_slices_SortFunc_api_Inst_api_Inst : Nat := 37
abbrev n_inst_Set_List_c1 : Nat := 38
abbrev n_inst_Less : Nat := 39
abbrev n_ref1_Less : Nat := 40
abbrev n_ref19_Parts : Nat := 41
abbrev n_ref19_below : Nat := 42
abbrev n_exec_upto : Nat := 43
abbrev n_exec_plan_do_c1 : Nat := 44
abbrev n_graph_Parts : Nat := 45
abbrev n_exec_plan_edges : Nat := 46
abbrev n_slices_SortStableFunc_int_int : Nat := 47
abbrev n_exec_plan_do_c2 : Nat := 48
abbrev n_cmp_Compare_int : Nat := 49
abbrev n_slices_pdqsortCmpFunc_api_Inst : Nat := 50
abbrev n_math_bits_Len : Nat := 51
abbrev n_ref19_reach : Nat := 52
abbrev n_graph_walk_from : Nat := 53
abbrev n_graph_order : Nat := 54
abbrev n_slices_stableCmpFunc_int : Nat := 55
abbrev n_cmp_isNaN_int : Nat := 56
abbrev n_slices_insertionSortCmpFunc_api_Inst : Nat := 57
abbrev n_slices_heapSortCmpFunc_api_Inst : Nat := 58
abbrev n_slices_breakPatternsCmpFunc_api_Inst : Nat := 59
abbrev n_slices_choosePivotCmpFunc_api_Inst : Nat := 60
abbrev n_slices_reverseRangeCmpFunc_api_Inst : Nat := 61
abbrev n_slices_partialInsertionSortCmpFunc_api_Inst : Nat := 62
abbrev n_slices_partitionEqualCmpFunc_api_Inst : Nat := 63
abbrev n_slices_partitionCmpFunc_api_Inst : Nat := 64
abbrev n_math_bits_Len32 : Nat := 65
abbrev n_math_bits_Len64 : Nat := 66
abbrev n_graph_walk_come : Nat := 67
abbrev n_graph_walk_leave : Nat := 68
abbrev n_slices_insertionSortCmpFunc_int : Nat := 69
abbrev n_slices_symMergeCmpFunc_int : Nat := 70
abbrev n_slices_siftDownCmpFunc_api_Inst : Nat := 71
abbrev n_slices_nextPowerOfTwo : Nat := 72
abbrev n_slices_xorshift_Next : Nat := 73
abbrev n_slices_medianAdjacentCmpFunc_api_Inst : Nat := 74
abbrev n_slices_medianCmpFunc_api_Inst : Nat := 75
abbrev n_slices_rotateCmpFunc_int : Nat := 76
abbrev n_slices_order2CmpFunc_api_Inst : Nat := 77
abbrev n_slices_swapRangeCmpFunc_int : Nat := 78
abbrev n_runtime_boundsError_Error : Nat := 79
abbrev n_runtime_boundsError_RuntimeError : Nat := 80
abbrev n_runtime_errorString_Error : Nat := 81
abbrev n_runtime_errorString_RuntimeError : Nat := 82
abbrev n_runtime_plainError_Error : Nat := 83
abbrev n_runtime_plainError_RuntimeError : Nat := 84
abbrev n_runtime_errorAddressString_Error : Nat := 85
abbrev n_runtime_errorAddressString_RuntimeError : Nat := 86
abbrev n_runtime_TypeAssertionError_Error : Nat := 87
abbrev n_runtime_TypeAssertionError_RuntimeError : Nat := 88
abbrev n_runtime_PanicNilError_Error : Nat := 89
abbrev n_runtime_PanicNilError_RuntimeError : Nat := 90
abbrev n_internal_abi_Type_Align : Nat := 91
abbrev n_internal_runtime_maps_unhashableTypeError_Error : Nat := 92
abbrev n_internal_runtime_maps_unhashableTypeError_RuntimeError : Nat := 93
abbrev n_inst_Set_Len : Nat := 94
abbrev n_internal_abi_Kind_String : Nat := 95
theorem mixed_ok : Try.prog.follows .mixedOrders = true := by kernel_rfl
end Go.Fw

namespace Go.Fw
open Go.Proofs
/-! concord/deps.Reach -/
abbrev deps_Reach_r0 : NC := .reg
    (.x 0 (.box 30) [(.slot 0)] none []
    (.x 1 (.box 23) [(.slot 1)] none []
    (.out [(2, (.res 0)), (3, (.res 1))])))
    [0, 1]
abbrev deps_Reach_r1 : NC := .reg
    (.q 0 (.lda 2) [(.slot 3)] none
    (.x 1 (.call 31) [(.res 0)] none []
    (.q 3 (.fld 0) [(.slot 3)] (some ((.res 1), true))
    (.q 4 .ld [(.res 3)] (some ((.res 1), true))
    (.q 5 (.ixa 7 1) [(.slot 2), (.res 4)] (some ((.res 1), true))
    (.q 6 .ld [(.res 5)] (some ((.res 1), true))
    (.q 7 (.fld 1) [(.slot 3)] (some ((.res 1), true))
    (.q 8 .ld [(.res 7)] (some ((.res 1), true))
    (.q 9 (.icm .geq) [(.res 6), (.res 8)] (some ((.res 1), true))
    (.q 10 .pick [(.res 1), (.res 9), (.const (.bool false))] none
    (.out [(4, (.res 10))])))))))))))
    [2, 3]
abbrev deps_Reach_c : NC :=
  (.seq deps_Reach_r0
  (.seq deps_Reach_r1
  .ret))
abbrev deps_Reach_F : FN := ⟨deps_Reach_c, [.slot 4]⟩
theorem deps_Reach_ok : compF Try.prog Try.f21 = some deps_Reach_F := by kernel_rfl
theorem deps_Reach_go {args : List Value} {m : Mem} {R : Value → Mem → Prop} (hn : args.length ≤ Try.f21.ntmps) (h : wpN Try.prog deps_Reach_c (retP deps_Reach_F.rvs R) (zipP 0 args) m) : MC Try.prog 21 args m R := MC_start Try.func21 deps_Reach_ok mixed_ok hn h
/-! (*concord/inst.Set).List -/
abbrev inst_Set_List_r0 : NC := .reg
    (.out [(0, (.slot 0))])
    [0]
abbrev inst_Set_List_r1 : NC := .reg
    (.out [(0, (.slot 0)), (3, (.const (.slice none 0 0)))])
    [0]
abbrev inst_Set_List_r2 : NC := .reg
    (.q 1 .nilck [(.slot 0)] none
    (.q 2 (.fld 0) [(.res 1)] none
    (.q 3 .ld [(.res 2)] none
    (.x 4 .rng [(.res 3)] none []
    (.out [(3, (.slot 3)), (9, (.res 4))])))))
    [0, 3]
abbrev inst_Set_List_r3 : NC := .reg
    (.x 0 .nxt [(.slot 9)] none []
    (.q 1 (.ext 0) [(.res 0)] none
    (.out [(3, (.slot 3)), (9, (.slot 9)), (11, (.res 1))])))
    [3, 9]
abbrev inst_Set_List_r4 : NC := .reg
    (.q 0 .ent [(.slot 9)] none
    (.q 1 (.ext 0) [(.res 0)] none
    (.x 2 (.alc [(.int .i64 0), (.int .i64 0)] 23) [] none []
    (.x 3 (.st 2) [(.res 2), (.res 1)] none []
    (.out [(3, (.slot 3)), (4, (.res 2)), (9, (.slot 9))])))))
    [3, 9]
abbrev inst_Set_List_r5 : NC := .reg
    (.q 1 (.lda 2) [(.slot 4)] none
    (.x 2 (.bsl 23 1 [(.int .i64 0), (.int .i64 0)] [(0, 2)]) [(.res 1)] none []
    (.x 3 (.app 23 2 16 [(.int .i64 0), (.int .i64 0)]) [(.slot 3), (.res 2)] none []
    (.out [(3, (.res 3)), (9, (.slot 9))]))))
    [3, 4, 9]
abbrev inst_Set_List_l0 : NC :=
  (.seq inst_Set_List_r3
  (.seq (.cond (.slot 11)
    .skip
    (.exit 0))
  (.block 1 (.seq inst_Set_List_r4
  inst_Set_List_r5))))
abbrev inst_Set_List_r6 : NC := .reg
    (.x 1 (.call 37) [(.slot 3), (.fn 38)] none []
    (.out [(3, (.slot 3))]))
    [3]
abbrev inst_Set_List_r7 : NC := .reg
    (.out [(2, (.slot 3))])
    [3]
abbrev inst_Set_List_c : NC :=
  (.seq inst_Set_List_r0
  (.seq inst_Set_List_r1
  (.seq (.seq inst_Set_List_r2
  (.block 0 (.loop [3, 9] inst_Set_List_l0)))
  (.seq inst_Set_List_r6
  (.seq inst_Set_List_r7
  .ret)))))
abbrev inst_Set_List_F : FN := ⟨inst_Set_List_c, [.slot 2]⟩
theorem inst_Set_List_ok : compF Try.prog Try.f24 = some inst_Set_List_F := by kernel_rfl
theorem inst_Set_List_go {args : List Value} {m : Mem} {R : Value → Mem → Prop} (hn : args.length ≤ Try.f24.ntmps) (h : wpN Try.prog inst_Set_List_c (retP inst_Set_List_F.rvs R) (zipP 0 args) m) : MC Try.prog 24 args m R := MC_start Try.func24 inst_Set_List_ok mixed_ok hn h
/-! concord/inst.Right -/
abbrev inst_Right_r0 : NC := .reg
    (.x 0 (.box 23) [(.slot 0)] none []
    (.out [(1, (.res 0))]))
    [0]
abbrev inst_Right_r1 : NC := .reg
    (.q 0 (.fld 0) [(.slot 1)] none
    (.q 1 .ld [(.res 0)] none
    (.q 2 (.icm .geq) [(.res 1), (.const (.int .i64 0))] none
    (.q 4 (.fld 0) [(.slot 1)] (some ((.res 2), true))
    (.q 5 .ld [(.res 4)] (some ((.res 2), true))
    (.q 6 (.icm .lss) [(.res 5), (.const (.int .i64 7))] (some ((.res 2), true))
    (.q 7 .pick [(.res 2), (.res 6), (.const (.bool false))] none
    (.q 9 (.fld 1) [(.slot 1)] (some ((.res 7), true))
    (.q 10 .ld [(.res 9)] (some ((.res 7), true))
    (.q 11 (.icm .geq) [(.res 10), (.const (.int .i64 1))] (some ((.res 7), true))
    (.q 12 .pick [(.res 7), (.res 11), (.const (.bool false))] none
    (.q 14 (.fld 1) [(.slot 1)] (some ((.res 12), true))
    (.q 15 .ld [(.res 14)] (some ((.res 12), true))
    (.q 16 (.icm .leq) [(.res 15), (.const (.int .i64 1073741824))] (some ((.res 12), true))
    (.q 17 .pick [(.res 12), (.res 16), (.const (.bool false))] none
    (.out [(2, (.res 17))]))))))))))))))))
    [1]
abbrev inst_Right_c : NC :=
  (.seq inst_Right_r0
  (.seq inst_Right_r1
  .ret))
abbrev inst_Right_F : FN := ⟨inst_Right_c, [.slot 2]⟩
theorem inst_Right_ok : compF Try.prog Try.f31 = some inst_Right_F := by kernel_rfl
theorem inst_Right_go {args : List Value} {m : Mem} {R : Value → Mem → Prop} (hn : args.length ≤ Try.f31.ntmps) (h : wpN Try.prog inst_Right_c (retP inst_Right_F.rvs R) (zipP 0 args) m) : MC Try.prog 31 args m R := MC_start Try.func31 inst_Right_ok mixed_ok hn h
/-! concord/inst.New -/
abbrev inst_New_r0 : NC := .reg
    (.out [(0, (.slot 0))])
    [0]
abbrev inst_New_r1 : NC := .reg
    (.x 0 .mkm [] none []
    (.q 1 (.bld [(.map none)] [(0, 1)]) [(.res 0)] none
    (.x 2 (.box 84) [(.res 1)] none []
    (.out [(0, (.slot 0)), (3, (.res 2))]))))
    [0]
abbrev inst_New_r2 : NC := .reg
    (.q 1 .len [(.slot 0)] none
    (.out [(3, (.slot 3)), (9, (.slot 0)), (10, (.res 1)), (11, (.const (.int .i64 0)))]))
    [0, 3]
abbrev inst_New_r3 : NC := .reg
    (.q 0 (.icm .lss) [(.slot 11), (.slot 10)] none
    (.out [(3, (.slot 3)), (9, (.slot 9)), (10, (.slot 10)), (11, (.slot 11)), (12, (.res 0))]))
    [3, 9, 10, 11]
abbrev inst_New_r4 : NC := .reg
    (.q 0 (.ixs 2) [(.slot 9), (.slot 11)] none
    (.q 1 (.lda 2) [(.res 0)] none
    (.x 2 (.alc [(.int .i64 0), (.int .i64 0)] 23) [] none []
    (.x 3 (.st 2) [(.res 2), (.res 1)] none []
    (.out [(3, (.slot 3)), (5, (.res 2)), (9, (.slot 9)), (10, (.slot 10)), (11, (.slot 11))])))))
    [3, 9, 10, 11]
abbrev inst_New_r5 : NC := .reg
    (.q 1 .nilck [(.slot 3)] none
    (.q 2 (.fld 0) [(.res 1)] none
    (.q 3 .ld [(.res 2)] none
    (.q 4 (.lda 2) [(.slot 5)] none
    (.q 5 (.bld [] []) [] none
    (.x 6 (.mup true [(.i .i64), (.i .i64)]) [(.res 3), (.res 4), (.res 5)] none []
    (.out [(3, (.slot 3)), (9, (.slot 9)), (10, (.slot 10)), (11, (.slot 11))])))))))
    [3, 5, 9, 10, 11]
abbrev inst_New_r6 : NC := .reg
    (.q 0 (.iar .add) [(.slot 11), (.const (.int .i64 1))] none
    (.out [(3, (.slot 3)), (9, (.slot 9)), (10, (.slot 10)), (11, (.res 0))]))
    [3, 9, 10, 11]
abbrev inst_New_l0 : NC :=
  (.seq inst_New_r3
  (.seq (.cond (.slot 12)
    .skip
    (.exit 0))
  (.seq (.block 1 (.seq inst_New_r4
  inst_New_r5))
  inst_New_r6)))
abbrev inst_New_r7 : NC := .reg
    (.out [(2, (.slot 3))])
    [3]
abbrev inst_New_c : NC :=
  (.seq inst_New_r0
  (.seq inst_New_r1
  (.seq (.seq inst_New_r2
  (.block 0 (.loop [3, 9, 10, 11] inst_New_l0)))
  (.seq inst_New_r7
  .ret))))
abbrev inst_New_F : FN := ⟨inst_New_c, [.slot 2]⟩
theorem inst_New_ok : compF Try.prog Try.f32 = some inst_New_F := by kernel_rfl
theorem inst_New_go {args : List Value} {m : Mem} {R : Value → Mem → Prop} (hn : args.length ≤ Try.f32.ntmps) (h : wpN Try.prog inst_New_c (retP inst_New_F.rvs R) (zipP 0 args) m) : MC Try.prog 32 args m R := MC_start Try.func32 inst_New_ok mixed_ok hn h
/-! (*concord/inst.Set).Add -/
abbrev inst_Set_Add_r0 : NC := .reg
    (.x 0 (.box 23) [(.slot 1)] none []
    (.out [(0, (.slot 0)), (3, (.res 0))]))
    [0, 1]
abbrev inst_Set_Add_r1 : NC := .reg
    (.q 1 .nilck [(.slot 0)] none
    (.q 2 (.fld 0) [(.res 1)] none
    (.q 3 .ld [(.res 2)] none
    (.q 4 .lenm [(.res 3)] none
    (.out [(0, (.slot 0)), (3, (.slot 3)), (5, (.res 4))])))))
    [0, 3]
abbrev inst_Set_Add_r2 : NC := .reg
    (.q 1 .nilck [(.slot 0)] none
    (.q 2 (.fld 0) [(.res 1)] none
    (.q 3 .ld [(.res 2)] none
    (.q 4 (.lda 2) [(.slot 3)] none
    (.q 5 (.bld [] []) [] none
    (.x 6 (.mup true [(.i .i64), (.i .i64)]) [(.res 3), (.res 4), (.res 5)] none []
    (.out [(0, (.slot 0)), (5, (.slot 5))])))))))
    [0, 3, 5]
abbrev inst_Set_Add_r3 : NC := .reg
    (.q 1 .nilck [(.slot 0)] none
    (.q 2 (.fld 0) [(.res 1)] none
    (.q 3 .ld [(.res 2)] none
    (.q 4 .lenm [(.res 3)] none
    (.q 6 (.icm .gtr) [(.res 4), (.slot 5)] none
    (.out [(4, (.res 6))]))))))
    [0, 5]
abbrev inst_Set_Add_c : NC :=
  (.seq inst_Set_Add_r0
  (.seq inst_Set_Add_r1
  (.seq inst_Set_Add_r2
  (.seq inst_Set_Add_r3
  .ret))))
abbrev inst_Set_Add_F : FN := ⟨inst_Set_Add_c, [.slot 4]⟩
theorem inst_Set_Add_ok : compF Try.prog Try.f34 = some inst_Set_Add_F := by kernel_rfl
theorem inst_Set_Add_go {args : List Value} {m : Mem} {R : Value → Mem → Prop} (hn : args.length ≤ Try.f34.ntmps) (h : wpN Try.prog inst_Set_Add_c (retP inst_Set_Add_F.rvs R) (zipP 0 args) m) : MC Try.prog 34 args m R := MC_start Try.func34 inst_Set_Add_ok mixed_ok hn h
/-! (*concord/inst.Set).List$1 -/
abbrev inst_Set_List_c1_r0 : NC := .reg
    (.x 0 (.box 23) [(.slot 0)] none []
    (.x 1 (.box 23) [(.slot 1)] none []
    (.out [(2, (.res 0)), (3, (.res 1))])))
    [0, 1]
abbrev inst_Set_List_c1_r1 : NC := .reg
    (.q 0 (.lda 2) [(.slot 2)] none
    (.q 1 (.lda 2) [(.slot 3)] none
    (.x 2 (.call 39) [(.res 0), (.res 1)] none []
    (.out [(7, (.res 2))]))))
    [2, 3]
abbrev inst_Set_List_c1_r2 : NC := .reg
    (.out [(4, (.const (.int .i64 (-1))))])
    []
abbrev inst_Set_List_c1_r3 : NC := .reg
    (.out [(4, (.const (.int .i64 1)))])
    []
abbrev inst_Set_List_c1_c : NC :=
  (.seq inst_Set_List_c1_r0
  (.seq (.seq inst_Set_List_c1_r1
  (.cond (.slot 7)
    (.seq inst_Set_List_c1_r2
    .ret)
    .skip))
  (.seq inst_Set_List_c1_r3
  .ret)))
abbrev inst_Set_List_c1_F : FN := ⟨inst_Set_List_c1_c, [.slot 4]⟩
theorem inst_Set_List_c1_ok : compF Try.prog Try.f38 = some inst_Set_List_c1_F := by kernel_rfl
theorem inst_Set_List_c1_go {args : List Value} {m : Mem} {R : Value → Mem → Prop} (hn : args.length ≤ Try.f38.ntmps) (h : wpN Try.prog inst_Set_List_c1_c (retP inst_Set_List_c1_F.rvs R) (zipP 0 args) m) : MC Try.prog 38 args m R := MC_start Try.func38 inst_Set_List_c1_ok mixed_ok hn h
/-! concord/inst.Less -/
abbrev inst_Less_r0 : NC := .reg
    (.x 0 (.box 23) [(.slot 0)] none []
    (.x 1 (.box 23) [(.slot 1)] none []
    (.out [(2, (.res 0)), (3, (.res 1))])))
    [0, 1]
abbrev inst_Less_r1 : NC := .reg
    (.q 0 (.fld 0) [(.slot 2)] none
    (.q 1 .ld [(.res 0)] none
    (.q 2 (.fld 0) [(.slot 3)] none
    (.q 3 .ld [(.res 2)] none
    (.q 4 (.icm .lss) [(.res 1), (.res 3)] none
    (.q 6 (.fld 0) [(.slot 2)] (some ((.res 4), false))
    (.q 7 .ld [(.res 6)] (some ((.res 4), false))
    (.q 8 (.fld 0) [(.slot 3)] (some ((.res 4), false))
    (.q 9 .ld [(.res 8)] (some ((.res 4), false))
    (.q 10 (.icm .eql) [(.res 7), (.res 9)] (some ((.res 4), false))
    (.q 11 .mv [(.res 10)] (some ((.res 4), false))
    (.q 12 (.fld 1) [(.slot 2)] (some ((.res 11), true))
    (.q 13 .ld [(.res 12)] (some ((.res 11), true))
    (.q 14 (.fld 1) [(.slot 3)] (some ((.res 11), true))
    (.q 15 .ld [(.res 14)] (some ((.res 11), true))
    (.q 16 (.icm .lss) [(.res 13), (.res 15)] (some ((.res 11), true))
    (.q 17 .pick [(.res 11), (.res 16), (.const (.bool false))] (some ((.res 4), false))
    (.q 18 .pick [(.res 4), (.const (.bool true)), (.res 17)] none
    (.out [(4, (.res 18))])))))))))))))))))))
    [2, 3]
abbrev inst_Less_c : NC :=
  (.seq inst_Less_r0
  (.seq inst_Less_r1
  .ret))
abbrev inst_Less_F : FN := ⟨inst_Less_c, [.slot 4]⟩
theorem inst_Less_ok : compF Try.prog Try.f39 = some inst_Less_F := by kernel_rfl
theorem inst_Less_go {args : List Value} {m : Mem} {R : Value → Mem → Prop} (hn : args.length ≤ Try.f39.ntmps) (h : wpN Try.prog inst_Less_c (retP inst_Less_F.rvs R) (zipP 0 args) m) : MC Try.prog 39 args m R := MC_start Try.func39 inst_Less_ok mixed_ok hn h
/-! cmp.Compare[int] -/
abbrev cmp_Compare_int_r0 : NC := .reg
    (.out [(0, (.slot 0)), (1, (.slot 1))])
    [0, 1]
abbrev cmp_Compare_int_r1 : NC := .reg
    (.x 1 (.call 56) [(.slot 0)] none []
    (.out [(0, (.slot 0)), (1, (.slot 1)), (5, (.res 1))]))
    [0, 1]
abbrev cmp_Compare_int_r2 : NC := .reg
    (.x 1 (.call 56) [(.slot 1)] none []
    (.out [(0, (.slot 0)), (1, (.slot 1)), (5, (.slot 5)), (6, (.res 1))]))
    [0, 1, 5]
abbrev cmp_Compare_int_r3 : NC := .reg
    (.out [(0, (.slot 0)), (1, (.slot 1)), (6, (.slot 6)), (11, (.slot 5))])
    [0, 1, 5, 6]
abbrev cmp_Compare_int_r4 : NC := .reg
    (.out [(12, (.slot 6))])
    [6]
abbrev cmp_Compare_int_r5 : NC := .reg
    (.out [(4, (.const (.int .i64 0)))])
    []
abbrev cmp_Compare_int_r6 : NC := .reg
    (.out [(4, (.const (.int .i64 (-1))))])
    []
abbrev cmp_Compare_int_r7 : NC := .reg
    (.out [(0, (.slot 0)), (1, (.slot 1)), (13, (.slot 6))])
    [0, 1, 6]
abbrev cmp_Compare_int_r8 : NC := .reg
    (.out [(4, (.const (.int .i64 1)))])
    []
abbrev cmp_Compare_int_r9 : NC := .reg
    (.q 2 (.icm .lss) [(.slot 0), (.slot 1)] none
    (.out [(0, (.slot 0)), (1, (.slot 1)), (16, (.res 2))]))
    [0, 1]
abbrev cmp_Compare_int_r10 : NC := .reg
    (.out [(4, (.const (.int .i64 (-1))))])
    []
abbrev cmp_Compare_int_r11 : NC := .reg
    (.q 2 (.icm .gtr) [(.slot 0), (.slot 1)] none
    (.out [(19, (.res 2))]))
    [0, 1]
abbrev cmp_Compare_int_r12 : NC := .reg
    (.out [(4, (.const (.int .i64 1)))])
    []
abbrev cmp_Compare_int_r13 : NC := .reg
    (.out [(4, (.const (.int .i64 0)))])
    []
abbrev cmp_Compare_int_c : NC :=
  (.seq cmp_Compare_int_r0
  (.seq cmp_Compare_int_r1
  (.seq cmp_Compare_int_r2
  (.seq (.seq cmp_Compare_int_r3
  (.cond (.slot 11)
    (.seq (.seq cmp_Compare_int_r4
    (.cond (.slot 12)
      (.seq cmp_Compare_int_r5
      .ret)
      .skip))
    (.seq cmp_Compare_int_r6
    .ret))
    .skip))
  (.seq (.seq cmp_Compare_int_r7
  (.cond (.slot 13)
    (.seq cmp_Compare_int_r8
    .ret)
    .skip))
  (.seq (.seq cmp_Compare_int_r9
  (.cond (.slot 16)
    (.seq cmp_Compare_int_r10
    .ret)
    .skip))
  (.seq (.seq cmp_Compare_int_r11
  (.cond (.slot 19)
    (.seq cmp_Compare_int_r12
    .ret)
    .skip))
  (.seq cmp_Compare_int_r13
  .ret))))))))
abbrev cmp_Compare_int_F : FN := ⟨cmp_Compare_int_c, [.slot 4]⟩
theorem cmp_Compare_int_ok : compF Try.prog Try.f49 = some cmp_Compare_int_F := by kernel_rfl
theorem cmp_Compare_int_go {args : List Value} {m : Mem} {R : Value → Mem → Prop} (hn : args.length ≤ Try.f49.ntmps) (h : wpN Try.prog cmp_Compare_int_c (retP cmp_Compare_int_F.rvs R) (zipP 0 args) m) : MC Try.prog 49 args m R := MC_start Try.func49 cmp_Compare_int_ok mixed_ok hn h
/-! cmp.isNaN[int] -/
abbrev cmp_isNaN_int_r0 : NC := .reg
    (.out [(0, (.slot 0))])
    [0]
abbrev cmp_isNaN_int_r1 : NC := .reg
    (.q 2 (.icm .neq) [(.slot 0), (.slot 0)] none
    (.out [(2, (.res 2))]))
    [0]
abbrev cmp_isNaN_int_c : NC :=
  (.seq cmp_isNaN_int_r0
  (.seq cmp_isNaN_int_r1
  .ret))
abbrev cmp_isNaN_int_F : FN := ⟨cmp_isNaN_int_c, [.slot 2]⟩
theorem cmp_isNaN_int_ok : compF Try.prog Try.f56 = some cmp_isNaN_int_F := by kernel_rfl
theorem cmp_isNaN_int_go {args : List Value} {m : Mem} {R : Value → Mem → Prop} (hn : args.length ≤ Try.f56.ntmps) (h : wpN Try.prog cmp_isNaN_int_c (retP cmp_isNaN_int_F.rvs R) (zipP 0 args) m) : MC Try.prog 56 args m R := MC_start Try.func56 cmp_isNaN_int_ok mixed_ok hn h
-- NOT (*concord/inst.Set).Len: no body
end Go.Fw

namespace Go.Fw
open Go.Proofs
/-! concord/exec.Plan -/
abbrev exec_Plan_r0 : NC := .reg
    (.x 0 (.box 30) [(.slot 0)] none []
    (.out [(1, (.slot 1)), (2, (.res 0))]))
    [0, 1]
abbrev exec_Plan_r1 : NC := .reg
    (.q 0 (.lda 7) [(.slot 2)] none
    (.x 1 .mkm [] none []
    (.q 2 (.bld [(.int .i64 0), (.int .i64 0), (.int .i64 0), (.int .i64 0), (.int .i64 0), (.int .i64 0), (.int .i64 0), (.map none), (.slice none 0 0)] [(0, 7), (7, 1)]) [(.res 0), (.res 1)] none
    (.x 3 (.box 65) [(.res 2)] none []
    (.out [(1, (.slot 1)), (6, (.res 3))])))))
    [1, 2]
abbrev exec_Plan_r2 : NC := .reg
    (.q 1 .len [(.slot 1)] none
    (.out [(6, (.slot 6)), (17, (.slot 1)), (18, (.res 1)), (19, (.const (.int .i64 0)))]))
    [1, 6]
abbrev exec_Plan_r3 : NC := .reg
    (.q 0 (.icm .lss) [(.slot 19), (.slot 18)] none
    (.out [(6, (.slot 6)), (17, (.slot 17)), (18, (.slot 18)), (19, (.slot 19)), (20, (.res 0))]))
    [6, 17, 18, 19]
abbrev exec_Plan_r4 : NC := .reg
    (.q 0 (.ixs 23) [(.slot 17), (.slot 19)] none
    (.q 1 (.lda 23) [(.res 0)] none
    (.x 2 (.alc [(.int .i64 0), (.int .i64 0), (.int .i64 0), (.int .i64 0), (.int .i64 0), (.int .i64 0), (.int .i64 0), (.int .i64 0), (.int .i64 0), (.int .i64 0), (.string ⟨#[]⟩), (.string ⟨#[]⟩), (.string ⟨#[]⟩), (.string ⟨#[]⟩), (.int .i64 0), (.int .i64 0), (.int .i64 0), (.int .i64 0), (.int .i64 0), (.int .i64 0), (.int .i64 0), (.int .i64 0), (.bool false)] 40) [] none []
    (.x 3 (.st 23) [(.res 2), (.res 1)] none []
    (.out [(6, (.slot 6)), (8, (.res 2)), (17, (.slot 17)), (18, (.slot 18)), (19, (.slot 19))])))))
    [6, 17, 18, 19]
abbrev exec_Plan_r5 : NC := .reg
    (.q 1 .nilck [(.slot 6)] none
    (.q 2 (.fld 7) [(.res 1)] none
    (.q 3 .ld [(.res 2)] none
    (.q 4 (.fld 0) [(.slot 8)] none
    (.q 5 (.lda 2) [(.res 4)] none
    (.q 6 (.lkp true [(.i .i64), (.i .i64)] (.agg #[(.int .i64 0), (.int .i64 0), (.int .i64 0), (.int .i64 0), (.int .i64 0), (.int .i64 0), (.int .i64 0), (.int .i64 0), (.string ⟨#[]⟩), (.string ⟨#[]⟩), (.string ⟨#[]⟩), (.string ⟨#[]⟩), (.int .i64 0), (.int .i64 0), (.int .i64 0), (.int .i64 0), (.int .i64 0), (.int .i64 0), (.int .i64 0), (.int .i64 0), (.bool false)]) true) [(.res 3), (.res 5)] none
    (.q 8 (.ext 0) [(.res 6)] none
    (.q 9 (.ext 1) [(.res 6)] none
    (.x 10 (.alc [(.int .i64 0), (.int .i64 0), (.int .i64 0), (.int .i64 0), (.int .i64 0), (.int .i64 0), (.int .i64 0), (.int .i64 0), (.string ⟨#[]⟩), (.string ⟨#[]⟩), (.string ⟨#[]⟩), (.string ⟨#[]⟩), (.int .i64 0), (.int .i64 0), (.int .i64 0), (.int .i64 0), (.int .i64 0), (.int .i64 0), (.int .i64 0), (.int .i64 0), (.bool false)] 38) [] none [(3, .ld, [(.res 2)], none), (5, (.lda 2), [(.res 4)], none), (6, (.lkp true [(.i .i64), (.i .i64)] (.agg #[(.int .i64 0), (.int .i64 0), (.int .i64 0), (.int .i64 0), (.int .i64 0), (.int .i64 0), (.int .i64 0), (.int .i64 0), (.string ⟨#[]⟩), (.string ⟨#[]⟩), (.string ⟨#[]⟩), (.string ⟨#[]⟩), (.int .i64 0), (.int .i64 0), (.int .i64 0), (.int .i64 0), (.int .i64 0), (.int .i64 0), (.int .i64 0), (.int .i64 0), (.bool false)]) true), [(.res 3), (.res 5)], none)]
    (.x 11 (.st 21) [(.res 10), (.res 8)] none []
    (.out [(6, (.slot 6)), (8, (.slot 8)), (10, (.res 9)), (17, (.slot 17)), (18, (.slot 18)), (19, (.slot 19))])))))))))))
    [6, 8, 17, 18, 19]
abbrev exec_Plan_r6 : NC := .reg
    (.q 2 (.fld 2) [(.slot 8)] (some ((.slot 10), false))
    (.q 3 (.fld 0) [(.res 2)] (some ((.slot 10), false))
    (.q 4 .ld [(.res 3)] (some ((.slot 10), false))
    (.q 5 (.icm .neq) [(.res 4), (.const (.int .i64 3))] (some ((.slot 10), false))
    (.q 6 .pick [(.slot 10), (.const (.bool true)), (.res 5)] none
    (.out [(6, (.slot 6)), (8, (.slot 8)), (17, (.slot 17)), (18, (.slot 18)), (19, (.slot 19)), (39, (.res 6))]))))))
    [6, 8, 10, 17, 18, 19]
abbrev exec_Plan_r7 : NC := .reg
    (.q 1 .nilck [(.slot 6)] none
    (.q 2 (.fld 7) [(.res 1)] none
    (.q 3 .ld [(.res 2)] none
    (.q 4 (.fld 0) [(.slot 8)] none
    (.q 5 (.lda 2) [(.res 4)] none
    (.q 6 (.fld 2) [(.slot 8)] none
    (.q 7 (.lda 21) [(.res 6)] none
    (.x 8 (.mup true [(.i .i64), (.i .i64)]) [(.res 3), (.res 5), (.res 7)] none []
    (.out [(6, (.slot 6)), (17, (.slot 17)), (18, (.slot 18)), (19, (.slot 19))])))))))))
    [6, 8, 17, 18, 19]
abbrev exec_Plan_r8 : NC := .reg
    (.q 0 (.iar .add) [(.slot 19), (.const (.int .i64 1))] none
    (.out [(6, (.slot 6)), (17, (.slot 17)), (18, (.slot 18)), (19, (.res 0))]))
    [6, 17, 18, 19]
abbrev exec_Plan_l0 : NC :=
  (.seq exec_Plan_r3
  (.seq (.cond (.slot 20)
    .skip
    (.exit 0))
  (.seq (.block 1 (.seq exec_Plan_r4
  (.seq (.seq exec_Plan_r5
  (.seq exec_Plan_r6
  (.cond (.slot 39)
    (.exit 1)
    .skip)))
  exec_Plan_r7)))
  exec_Plan_r8)))
abbrev exec_Plan_r9 : NC := .reg
    (.x 1 (.call 23) [(.slot 6)] none []
    (.q 3 (.ext 0) [(.res 1)] none
    (.q 4 (.ext 1) [(.res 1)] none
    (.out [(6, (.slot 6)), (11, (.res 3)), (12, (.res 4))]))))
    [6]
abbrev exec_Plan_r10 : NC := .reg
    (.q 1 .not [(.slot 11)] none
    (.out [(6, (.slot 6)), (12, (.slot 12)), (55, (.res 1))]))
    [6, 11, 12]
abbrev exec_Plan_r11 : NC := .reg
    (.q 1 .nilck [(.slot 6)] none
    (.q 2 (.fld 8) [(.res 1)] none
    (.q 3 .ld [(.res 2)] none
    (.x 5 (.call 24) [(.slot 12)] none [(3, .ld, [(.res 2)], none)]
    (.out [(4, (.res 3)), (5, (.res 5))])))))
    [6, 12]
abbrev exec_Plan_l1 : NC :=
  (.block 3 (.seq exec_Plan_r9
  (.seq exec_Plan_r10
  (.cond (.slot 55)
    (.seq exec_Plan_r11
    .ret)
    .skip))))
abbrev exec_Plan_c : NC :=
  (.seq exec_Plan_r0
  (.seq exec_Plan_r1
  (.seq (.seq exec_Plan_r2
  (.block 0 (.loop [6, 17, 18, 19] exec_Plan_l0)))
  (.block 2 (.loop [6] exec_Plan_l1)))))
abbrev exec_Plan_F : FN := ⟨exec_Plan_c, [.slot 4, .slot 5]⟩
theorem exec_Plan_ok : compF Try.prog Try.f10 = some exec_Plan_F := by kernel_rfl
theorem exec_Plan_go {args : List Value} {m : Mem} {R : Value → Mem → Prop} (hn : args.length ≤ Try.f10.ntmps) (h : wpN Try.prog exec_Plan_c (retP exec_Plan_F.rvs R) (zipP 0 args) m) : MC Try.prog 10 args m R := MC_start Try.func10 exec_Plan_ok mixed_ok hn h
/-! (*concord/exec.plan).round -/
abbrev exec_plan_round_r0 : NC := .reg
    (.out [(0, (.slot 0))])
    [0]
abbrev exec_plan_round_r1 : NC := .reg
    (.x 0 (.call 32) [(.const (.slice none 0 0))] none []
    (.out [(0, (.slot 0)), (4, (.const (.bool false))), (5, (.res 0))]))
    [0]
abbrev exec_plan_round_r2 : NC := .reg
    (.out [(0, (.slot 0)), (4, (.slot 4)), (5, (.slot 5)), (13, (.const (.int .i64 0)))])
    [0, 4, 5]
abbrev exec_plan_round_r3 : NC := .reg
    (.q 0 (.icm .lss) [(.slot 13), (.const (.int .i64 7))] none
    (.out [(0, (.slot 0)), (4, (.slot 4)), (5, (.slot 5)), (13, (.slot 13)), (14, (.res 0))]))
    [0, 4, 5, 13]
abbrev exec_plan_round_r4 : NC := .reg
    (.out [(0, (.slot 0)), (4, (.slot 4)), (5, (.slot 5)), (6, (.slot 13)), (13, (.slot 13))])
    [0, 4, 5, 13]
abbrev exec_plan_round_r5 : NC := .reg
    (.q 3 .nilck [(.slot 0)] none
    (.q 4 (.fld 0) [(.res 3)] none
    (.q 5 (.ixa 7 1) [(.res 4), (.slot 6)] none
    (.q 6 .ld [(.res 5)] none
    (.q 7 (.iar .add) [(.res 6), (.const (.int .i64 1))] none
    (.q 8 (.bld [(.int .i64 0), (.int .i64 0)] [(0, 1), (1, 1)]) [(.slot 6), (.res 7)] none
    (.x 9 (.alc [(.int .i64 0), (.int .i64 0)] 23) [] none []
    (.x 10 (.st 2) [(.res 9), (.res 8)] none []
    (.out [(0, (.slot 0)), (4, (.slot 4)), (5, (.slot 5)), (7, (.res 9)), (13, (.slot 13))])))))))))
    [0, 4, 5, 6, 13]
abbrev exec_plan_round_r6 : NC := .reg
    (.q 1 .nilck [(.slot 0)] none
    (.q 2 (.fld 7) [(.res 1)] none
    (.q 3 .ld [(.res 2)] none
    (.q 4 (.lda 2) [(.slot 7)] none
    (.q 5 (.lkp true [(.i .i64), (.i .i64)] (.agg #[(.int .i64 0), (.int .i64 0), (.int .i64 0), (.int .i64 0), (.int .i64 0), (.int .i64 0), (.int .i64 0), (.int .i64 0), (.string ⟨#[]⟩), (.string ⟨#[]⟩), (.string ⟨#[]⟩), (.string ⟨#[]⟩), (.int .i64 0), (.int .i64 0), (.int .i64 0), (.int .i64 0), (.int .i64 0), (.int .i64 0), (.int .i64 0), (.int .i64 0), (.bool false)]) true) [(.res 3), (.res 4)] none
    (.q 7 (.ext 0) [(.res 5)] none
    (.q 8 (.ext 1) [(.res 5)] none
    (.x 9 (.alc [(.int .i64 0), (.int .i64 0), (.int .i64 0), (.int .i64 0), (.int .i64 0), (.int .i64 0), (.int .i64 0), (.int .i64 0), (.string ⟨#[]⟩), (.string ⟨#[]⟩), (.string ⟨#[]⟩), (.string ⟨#[]⟩), (.int .i64 0), (.int .i64 0), (.int .i64 0), (.int .i64 0), (.int .i64 0), (.int .i64 0), (.int .i64 0), (.int .i64 0), (.bool false)] 38) [] none [(3, .ld, [(.res 2)], none), (4, (.lda 2), [(.slot 7)], none), (5, (.lkp true [(.i .i64), (.i .i64)] (.agg #[(.int .i64 0), (.int .i64 0), (.int .i64 0), (.int .i64 0), (.int .i64 0), (.int .i64 0), (.int .i64 0), (.int .i64 0), (.string ⟨#[]⟩), (.string ⟨#[]⟩), (.string ⟨#[]⟩), (.string ⟨#[]⟩), (.int .i64 0), (.int .i64 0), (.int .i64 0), (.int .i64 0), (.int .i64 0), (.int .i64 0), (.int .i64 0), (.int .i64 0), (.bool false)]) true), [(.res 3), (.res 4)], none)]
    (.x 10 (.st 21) [(.res 9), (.res 7)] none []
    (.out [(0, (.slot 0)), (4, (.slot 4)), (5, (.slot 5)), (7, (.slot 7)), (9, (.res 8)), (13, (.slot 13))]))))))))))
    [0, 4, 5, 7, 13]
abbrev exec_plan_round_r7 : NC := .reg
    (.q 1 .not [(.slot 9)] none
    (.out [(0, (.slot 0)), (4, (.slot 4)), (5, (.slot 5)), (7, (.slot 7)), (13, (.slot 13)), (35, (.res 1))]))
    [0, 4, 5, 7, 9, 13]
abbrev exec_plan_round_r8 : NC := .reg
    (.q 1 (.lda 2) [(.slot 7)] none
    (.x 2 (.call 33) [(.slot 0), (.res 1)] none []
    (.out [(0, (.slot 0)), (4, (.slot 4)), (5, (.slot 5)), (7, (.slot 7)), (13, (.slot 13)), (38, (.res 2))])))
    [0, 4, 5, 7, 13]
abbrev exec_plan_round_r9 : NC := .reg
    (.q 1 (.lda 2) [(.slot 7)] none
    (.x 2 (.call 34) [(.slot 5), (.res 1)] none []
    (.out [(0, (.slot 0)), (4, (.slot 4)), (5, (.slot 5)), (13, (.slot 13))])))
    [0, 4, 5, 7, 13]
abbrev exec_plan_round_r10 : NC := .reg
    (.q 1 (.lda 2) [(.slot 7)] none
    (.x 2 (.call 35) [(.slot 0), (.res 1)] none []
    (.q 4 (.ext 0) [(.res 2)] none
    (.q 5 (.ext 1) [(.res 2)] none
    (.x 6 (.alc [(.int .i64 0), (.int .i64 0)] 23) [] none []
    (.x 8 (.st 2) [(.res 6), (.res 5)] none []
    (.out [(0, (.slot 0)), (4, (.slot 4)), (5, (.slot 5)), (10, (.res 4)), (11, (.res 6)), (13, (.slot 13))])))))))
    [0, 4, 5, 7, 13]
abbrev exec_plan_round_r11 : NC := .reg
    (.q 1 .len [(.slot 10)] none
    (.q 2 (.icm .gtr) [(.res 1), (.const (.int .i64 0))] none
    (.out [(0, (.slot 0)), (4, (.slot 4)), (5, (.slot 5)), (10, (.slot 10)), (11, (.slot 11)), (13, (.slot 13)), (48, (.res 2))])))
    [0, 4, 5, 10, 11, 13]
abbrev exec_plan_round_r12 : NC := .reg
    (.x 2 (.call 36) [(.slot 0), (.slot 10)] none []
    (.out [(0, (.slot 0)), (5, (.slot 5)), (13, (.slot 13))]))
    [0, 5, 10, 13]
abbrev exec_plan_round_r13 : NC := .reg
    (.out [(0, (.slot 0)), (4, (.const (.bool true))), (5, (.slot 5)), (13, (.slot 13))])
    [0, 5, 13]
abbrev exec_plan_round_r14 : NC := .reg
    (.q 0 (.lda 2) [(.slot 11)] none
    (.q 1 (.bld [(.int .i64 0), (.int .i64 0)] []) [] none
    (.q 2 (.eqc true [(.i .i64), (.i .i64)]) [(.res 0), (.res 1)] none
    (.out [(0, (.slot 0)), (4, (.slot 4)), (5, (.slot 5)), (11, (.slot 11)), (13, (.slot 13)), (55, (.res 2))]))))
    [0, 4, 5, 11, 13]
abbrev exec_plan_round_r15 : NC := .reg
    (.q 1 (.lda 2) [(.slot 11)] none
    (.x 2 (.call 34) [(.slot 5), (.res 1)] none []
    (.out [(0, (.slot 0)), (4, (.slot 4)), (5, (.slot 5)), (13, (.slot 13))])))
    [0, 4, 5, 11, 13]
abbrev exec_plan_round_r16 : NC := .reg
    (.q 0 (.iar .add) [(.slot 13), (.const (.int .i64 1))] none
    (.out [(0, (.slot 0)), (4, (.slot 4)), (5, (.slot 5)), (13, (.res 0))]))
    [0, 4, 5, 13]
abbrev exec_plan_round_l0 : NC :=
  (.seq exec_plan_round_r3
  (.seq (.cond (.slot 14)
    .skip
    (.exit 0))
  (.seq (.block 1 (.seq exec_plan_round_r4
  (.seq exec_plan_round_r5
  (.seq (.seq exec_plan_round_r6
  (.seq exec_plan_round_r7
  (.cond (.slot 35)
    (.seq (.seq exec_plan_round_r8
    (.cond (.slot 38)
      exec_plan_round_r9
      .skip))
    (.exit 1))
    .skip)))
  (.seq exec_plan_round_r10
  (.block 2 (.seq exec_plan_round_r11
  (.cond (.slot 48)
    (.seq exec_plan_round_r12
    exec_plan_round_r13)
    (.seq exec_plan_round_r14
    (.cond (.slot 55)
      exec_plan_round_r15
      .skip))))))))))
  exec_plan_round_r16)))
abbrev exec_plan_round_r17 : NC := .reg
    (.out [(2, (.slot 4)), (3, (.slot 5))])
    [4, 5]
abbrev exec_plan_round_c : NC :=
  (.seq exec_plan_round_r0
  (.seq exec_plan_round_r1
  (.seq (.seq exec_plan_round_r2
  (.block 0 (.loop [0, 4, 5, 13] exec_plan_round_l0)))
  (.seq exec_plan_round_r17
  .ret))))
abbrev exec_plan_round_F : FN := ⟨exec_plan_round_c, [.slot 2, .slot 3]⟩
theorem exec_plan_round_ok : compF Try.prog Try.f23 = some exec_plan_round_F := by kernel_rfl
theorem exec_plan_round_go {args : List Value} {m : Mem} {R : Value → Mem → Prop} (hn : args.length ≤ Try.f23.ntmps) (h : wpN Try.prog exec_plan_round_c (retP exec_plan_round_F.rvs R) (zipP 0 args) m) : MC Try.prog 23 args m R := MC_start Try.func23 exec_plan_round_ok mixed_ok hn h
/-! (*concord/exec.plan).beyond -/
abbrev exec_plan_beyond_r0 : NC := .reg
    (.x 0 (.box 23) [(.slot 1)] none []
    (.out [(0, (.slot 0)), (3, (.res 0))]))
    [0, 1]
abbrev exec_plan_beyond_r1 : NC := .reg
    (.q 1 .nilck [(.slot 0)] none
    (.q 2 (.fld 7) [(.res 1)] none
    (.q 3 .ld [(.res 2)] none
    (.x 4 .rng [(.res 3)] none []
    (.out [(3, (.slot 3)), (10, (.res 4))])))))
    [0, 3]
abbrev exec_plan_beyond_r2 : NC := .reg
    (.x 0 .nxt [(.slot 10)] none []
    (.q 1 (.ext 0) [(.res 0)] none
    (.out [(3, (.slot 3)), (10, (.slot 10)), (12, (.res 1))])))
    [3, 10]
abbrev exec_plan_beyond_r3 : NC := .reg
    (.q 0 .ent [(.slot 10)] none
    (.q 1 (.ext 0) [(.res 0)] none
    (.x 2 (.alc [(.int .i64 0), (.int .i64 0)] 23) [] none []
    (.x 3 (.st 2) [(.res 2), (.res 1)] none []
    (.out [(3, (.slot 3)), (5, (.res 2)), (10, (.slot 10))])))))
    [3, 10]
abbrev exec_plan_beyond_r4 : NC := .reg
    (.q 0 (.fld 0) [(.slot 5)] none
    (.q 1 .ld [(.res 0)] none
    (.q 2 (.fld 0) [(.slot 3)] none
    (.q 3 .ld [(.res 2)] none
    (.q 4 (.icm .eql) [(.res 1), (.res 3)] none
    (.q 6 (.fld 1) [(.slot 5)] (some ((.res 4), true))
    (.q 7 .ld [(.res 6)] (some ((.res 4), true))
    (.q 8 (.fld 1) [(.slot 3)] (some ((.res 4), true))
    (.q 9 .ld [(.res 8)] (some ((.res 4), true))
    (.q 10 (.icm .gtr) [(.res 7), (.res 9)] (some ((.res 4), true))
    (.q 11 .pick [(.res 4), (.res 10), (.const (.bool false))] none
    (.out [(3, (.slot 3)), (10, (.slot 10)), (26, (.res 11))]))))))))))))
    [3, 5, 10]
abbrev exec_plan_beyond_r5 : NC := .reg
    (.out [(4, (.const (.bool true)))])
    []
abbrev exec_plan_beyond_l0 : NC :=
  (.seq exec_plan_beyond_r2
  (.seq (.cond (.slot 12)
    .skip
    (.exit 0))
  (.block 1 (.seq exec_plan_beyond_r3
  (.seq exec_plan_beyond_r4
  (.cond (.slot 26)
    (.seq exec_plan_beyond_r5
    .ret)
    .skip))))))
abbrev exec_plan_beyond_r6 : NC := .reg
    (.out [(4, (.const (.bool false)))])
    []
abbrev exec_plan_beyond_c : NC :=
  (.seq exec_plan_beyond_r0
  (.seq (.seq exec_plan_beyond_r1
  (.block 0 (.loop [3, 10] exec_plan_beyond_l0)))
  (.seq exec_plan_beyond_r6
  .ret)))
abbrev exec_plan_beyond_F : FN := ⟨exec_plan_beyond_c, [.slot 4]⟩
theorem exec_plan_beyond_ok : compF Try.prog Try.f33 = some exec_plan_beyond_F := by kernel_rfl
theorem exec_plan_beyond_go {args : List Value} {m : Mem} {R : Value → Mem → Prop} (hn : args.length ≤ Try.f33.ntmps) (h : wpN Try.prog exec_plan_beyond_c (retP exec_plan_beyond_F.rvs R) (zipP 0 args) m) : MC Try.prog 33 args m R := MC_start Try.func33 exec_plan_beyond_ok mixed_ok hn h
/-! (*concord/exec.plan).hangs -/
abbrev exec_plan_hangs_r0 : NC := .reg
    (.x 0 (.box 23) [(.slot 1)] none []
    (.x 2 (.alc [(.int .i64 0), (.int .i64 0)] 23) [] none []
    (.out [(0, (.slot 0)), (3, (.res 0)), (5, (.res 2))])))
    [0, 1]
abbrev exec_plan_hangs_r1 : NC := .reg
    (.q 0 (.lda 2) [(.slot 3)] none
    (.x 1 (.bsl 23 1 [(.int .i64 0), (.int .i64 0)] [(0, 2)]) [(.res 0)] none []
    (.x 2 (.call 32) [(.res 1)] none []
    (.out [(0, (.slot 0)), (3, (.slot 3)), (5, (.slot 5)), (6, (.res 2))]))))
    [0, 3, 5]
abbrev exec_plan_hangs_r2 : NC := .reg
    (.q 0 (.lda 2) [(.slot 3)] none
    (.x 1 (.bsl 23 1 [(.int .i64 0), (.int .i64 0)] [(0, 2)]) [(.res 0)] none []
    (.out [(0, (.slot 0)), (5, (.slot 5)), (6, (.slot 6)), (7, (.res 1))])))
    [0, 3, 5, 6]
abbrev exec_plan_hangs_r3 : NC := .reg
    (.out [(0, (.slot 0)), (5, (.slot 5)), (6, (.slot 6)), (7, (.slot 7)), (8, (.const (.int .i64 0)))])
    [0, 5, 6, 7]
abbrev exec_plan_hangs_r4 : NC := .reg
    (.q 2 .len [(.slot 7)] none
    (.q 3 (.icm .lss) [(.slot 8), (.res 2)] none
    (.out [(0, (.slot 0)), (5, (.slot 5)), (6, (.slot 6)), (7, (.slot 7)), (8, (.slot 8)), (25, (.res 3))])))
    [0, 5, 6, 7, 8]
abbrev exec_plan_hangs_r5 : NC := .reg
    (.q 1 (.icm .eql) [(.slot 8), (.const (.int .i64 512))] none
    (.out [(0, (.slot 0)), (5, (.slot 5)), (6, (.slot 6)), (7, (.slot 7)), (8, (.slot 8)), (29, (.res 1))]))
    [0, 5, 6, 7, 8]
abbrev exec_plan_hangs_r6 : NC := .reg
    (.q 0 (.bld [(.int .i64 0), (.int .i64 0)] []) [] none
    (.x 2 (.st 2) [(.slot 5), (.res 0)] none []
    (.out [(4, (.const (.slice none 0 0))), (5, (.slot 5))])))
    [5]
abbrev exec_plan_hangs_r7 : NC := .reg
    (.q 2 (.ixs 2) [(.slot 7), (.slot 8)] none
    (.q 3 (.lda 2) [(.res 2)] none
    (.x 4 (.alc [(.int .i64 0), (.int .i64 0)] 23) [] none []
    (.x 5 (.st 2) [(.res 4), (.res 3)] none []
    (.out [(0, (.slot 0)), (5, (.slot 5)), (6, (.slot 6)), (7, (.slot 7)), (8, (.slot 8)), (9, (.res 4))])))))
    [0, 5, 6, 7, 8]
abbrev exec_plan_hangs_r8 : NC := .reg
    (.q 1 .nilck [(.slot 0)] none
    (.q 2 (.fld 7) [(.res 1)] none
    (.q 3 .ld [(.res 2)] none
    (.q 4 (.lda 2) [(.slot 9)] none
    (.q 5 (.lkp true [(.i .i64), (.i .i64)] (.agg #[(.int .i64 0), (.int .i64 0), (.int .i64 0), (.int .i64 0), (.int .i64 0), (.int .i64 0), (.int .i64 0), (.int .i64 0), (.string ⟨#[]⟩), (.string ⟨#[]⟩), (.string ⟨#[]⟩), (.string ⟨#[]⟩), (.int .i64 0), (.int .i64 0), (.int .i64 0), (.int .i64 0), (.int .i64 0), (.int .i64 0), (.int .i64 0), (.int .i64 0), (.bool false)]) false) [(.res 3), (.res 4)] none
    (.x 6 (.alc [(.int .i64 0), (.int .i64 0), (.int .i64 0), (.int .i64 0), (.int .i64 0), (.int .i64 0), (.int .i64 0), (.int .i64 0), (.string ⟨#[]⟩), (.string ⟨#[]⟩), (.string ⟨#[]⟩), (.string ⟨#[]⟩), (.int .i64 0), (.int .i64 0), (.int .i64 0), (.int .i64 0), (.int .i64 0), (.int .i64 0), (.int .i64 0), (.int .i64 0), (.bool false)] 38) [] none [(3, .ld, [(.res 2)], none), (4, (.lda 2), [(.slot 9)], none), (5, (.lkp true [(.i .i64), (.i .i64)] (.agg #[(.int .i64 0), (.int .i64 0), (.int .i64 0), (.int .i64 0), (.int .i64 0), (.int .i64 0), (.int .i64 0), (.int .i64 0), (.string ⟨#[]⟩), (.string ⟨#[]⟩), (.string ⟨#[]⟩), (.string ⟨#[]⟩), (.int .i64 0), (.int .i64 0), (.int .i64 0), (.int .i64 0), (.int .i64 0), (.int .i64 0), (.int .i64 0), (.int .i64 0), (.bool false)]) false), [(.res 3), (.res 4)], none)]
    (.x 7 (.st 21) [(.res 6), (.res 5)] none []
    (.out [(0, (.slot 0)), (5, (.slot 5)), (6, (.slot 6)), (7, (.slot 7)), (8, (.slot 8)), (9, (.slot 9)), (10, (.res 6))]))))))))
    [0, 5, 6, 7, 8, 9]
abbrev exec_plan_hangs_r9 : NC := .reg
    (.out [(0, (.slot 0)), (5, (.slot 5)), (6, (.slot 6)), (7, (.slot 7)), (8, (.slot 8)), (9, (.slot 9)), (10, (.slot 10)), (41, (.const (.int .i64 0)))])
    [0, 5, 6, 7, 8, 9, 10]
abbrev exec_plan_hangs_r10 : NC := .reg
    (.q 0 (.icm .lss) [(.slot 41), (.const (.int .i64 7))] none
    (.out [(0, (.slot 0)), (5, (.slot 5)), (6, (.slot 6)), (7, (.slot 7)), (8, (.slot 8)), (9, (.slot 9)), (10, (.slot 10)), (41, (.slot 41)), (42, (.res 0))]))
    [0, 5, 6, 7, 8, 9, 10, 41]
abbrev exec_plan_hangs_r11 : NC := .reg
    (.out [(0, (.slot 0)), (5, (.slot 5)), (6, (.slot 6)), (7, (.slot 7)), (8, (.slot 8)), (9, (.slot 9)), (10, (.slot 10)), (11, (.slot 41)), (41, (.slot 41))])
    [0, 5, 6, 7, 8, 9, 10, 41]
abbrev exec_plan_hangs_r12 : NC := .reg
    (.q 0 (.lda 2) [(.slot 9)] none
    (.q 1 (.lda 21) [(.slot 10)] none
    (.x 3 (.call 43) [(.res 0), (.res 1), (.slot 11)] none []
    (.out [(0, (.slot 0)), (5, (.slot 5)), (6, (.slot 6)), (7, (.slot 7)), (8, (.slot 8)), (9, (.slot 9)), (10, (.slot 10)), (11, (.slot 11)), (12, (.res 3)), (41, (.slot 41))]))))
    [0, 5, 6, 7, 8, 9, 10, 11, 41]
abbrev exec_plan_hangs_r13 : NC := .reg
    (.q 2 .nilck [(.slot 0)] none
    (.q 3 (.fld 0) [(.res 2)] none
    (.q 4 (.ixa 7 1) [(.res 3), (.slot 11)] none
    (.q 5 .ld [(.res 4)] none
    (.q 6 (.iar .add) [(.res 5), (.const (.int .i64 1))] none
    (.out [(0, (.slot 0)), (5, (.slot 5)), (6, (.slot 6)), (7, (.slot 7)), (8, (.slot 8)), (9, (.slot 9)), (10, (.slot 10)), (11, (.slot 11)), (12, (.slot 12)), (13, (.res 6)), (41, (.slot 41))]))))))
    [0, 5, 6, 7, 8, 9, 10, 11, 12, 41]
abbrev exec_plan_hangs_r14 : NC := .reg
    (.q 2 (.icm .leq) [(.slot 13), (.slot 12)] none
    (.out [(0, (.slot 0)), (5, (.slot 5)), (6, (.slot 6)), (7, (.slot 7)), (8, (.slot 8)), (9, (.slot 9)), (10, (.slot 10)), (11, (.slot 11)), (12, (.slot 12)), (13, (.slot 13)), (41, (.slot 41)), (57, (.res 2))]))
    [0, 5, 6, 7, 8, 9, 10, 11, 12, 13, 41]
abbrev exec_plan_hangs_r15 : NC := .reg
    (.q 2 (.bld [(.int .i64 0), (.int .i64 0)] [(0, 1), (1, 1)]) [(.slot 11), (.slot 13)] none
    (.x 3 (.alc [(.int .i64 0), (.int .i64 0)] 23) [] none []
    (.x 4 (.st 2) [(.res 3), (.res 2)] none []
    (.out [(0, (.slot 0)), (5, (.slot 5)), (6, (.slot 6)), (7, (.slot 7)), (8, (.slot 8)), (9, (.slot 9)), (10, (.slot 10)), (11, (.slot 11)), (12, (.slot 12)), (13, (.slot 13)), (14, (.res 3)), (41, (.slot 41))]))))
    [0, 5, 6, 7, 8, 9, 10, 11, 12, 13, 41]
abbrev exec_plan_hangs_r16 : NC := .reg
    (.q 1 .nilck [(.slot 0)] none
    (.q 2 (.fld 7) [(.res 1)] none
    (.q 3 .ld [(.res 2)] none
    (.q 4 (.lda 2) [(.slot 14)] none
    (.q 5 (.lkp true [(.i .i64), (.i .i64)] (.agg #[(.int .i64 0), (.int .i64 0), (.int .i64 0), (.int .i64 0), (.int .i64 0), (.int .i64 0), (.int .i64 0), (.int .i64 0), (.string ⟨#[]⟩), (.string ⟨#[]⟩), (.string ⟨#[]⟩), (.string ⟨#[]⟩), (.int .i64 0), (.int .i64 0), (.int .i64 0), (.int .i64 0), (.int .i64 0), (.int .i64 0), (.int .i64 0), (.int .i64 0), (.bool false)]) true) [(.res 3), (.res 4)] none
    (.q 7 (.ext 0) [(.res 5)] none
    (.q 8 (.ext 1) [(.res 5)] none
    (.x 9 (.alc [(.int .i64 0), (.int .i64 0), (.int .i64 0), (.int .i64 0), (.int .i64 0), (.int .i64 0), (.int .i64 0), (.int .i64 0), (.string ⟨#[]⟩), (.string ⟨#[]⟩), (.string ⟨#[]⟩), (.string ⟨#[]⟩), (.int .i64 0), (.int .i64 0), (.int .i64 0), (.int .i64 0), (.int .i64 0), (.int .i64 0), (.int .i64 0), (.int .i64 0), (.bool false)] 38) [] none [(3, .ld, [(.res 2)], none), (4, (.lda 2), [(.slot 14)], none), (5, (.lkp true [(.i .i64), (.i .i64)] (.agg #[(.int .i64 0), (.int .i64 0), (.int .i64 0), (.int .i64 0), (.int .i64 0), (.int .i64 0), (.int .i64 0), (.int .i64 0), (.string ⟨#[]⟩), (.string ⟨#[]⟩), (.string ⟨#[]⟩), (.string ⟨#[]⟩), (.int .i64 0), (.int .i64 0), (.int .i64 0), (.int .i64 0), (.int .i64 0), (.int .i64 0), (.int .i64 0), (.int .i64 0), (.bool false)]) true), [(.res 3), (.res 4)], none)]
    (.x 10 (.st 21) [(.res 9), (.res 7)] none []
    (.out [(0, (.slot 0)), (5, (.slot 5)), (6, (.slot 6)), (7, (.slot 7)), (8, (.slot 8)), (9, (.slot 9)), (10, (.slot 10)), (11, (.slot 11)), (12, (.slot 12)), (13, (.slot 13)), (14, (.slot 14)), (16, (.res 8)), (41, (.slot 41))]))))))))))
    [0, 5, 6, 7, 8, 9, 10, 11, 12, 13, 14, 41]
abbrev exec_plan_hangs_r17 : NC := .reg
    (.q 1 .not [(.slot 16)] none
    (.out [(0, (.slot 0)), (5, (.slot 5)), (6, (.slot 6)), (7, (.slot 7)), (8, (.slot 8)), (9, (.slot 9)), (10, (.slot 10)), (11, (.slot 11)), (12, (.slot 12)), (13, (.slot 13)), (14, (.slot 14)), (41, (.slot 41)), (73, (.res 1))]))
    [0, 5, 6, 7, 8, 9, 10, 11, 12, 13, 14, 16, 41]
abbrev exec_plan_hangs_r18 : NC := .reg
    (.q 0 (.lda 2) [(.slot 14)] none
    (.x 2 (.st 2) [(.slot 5), (.res 0)] none []
    (.out [(4, (.const (.slice none 0 0))), (5, (.slot 5))])))
    [5, 14]
abbrev exec_plan_hangs_r19 : NC := .reg
    (.q 1 (.lda 2) [(.slot 14)] none
    (.x 2 (.call 34) [(.slot 6), (.res 1)] none []
    (.out [(0, (.slot 0)), (5, (.slot 5)), (6, (.slot 6)), (7, (.slot 7)), (8, (.slot 8)), (9, (.slot 9)), (10, (.slot 10)), (11, (.slot 11)), (12, (.slot 12)), (13, (.slot 13)), (14, (.slot 14)), (41, (.slot 41)), (77, (.res 2))])))
    [0, 5, 6, 7, 8, 9, 10, 11, 12, 13, 14, 41]
abbrev exec_plan_hangs_r20 : NC := .reg
    (.q 1 (.lda 2) [(.slot 14)] none
    (.x 2 (.bsl 23 1 [(.int .i64 0), (.int .i64 0)] [(0, 2)]) [(.res 1)] none []
    (.x 3 (.app 23 2 16 [(.int .i64 0), (.int .i64 0)]) [(.slot 7), (.res 2)] none []
    (.out [(0, (.slot 0)), (5, (.slot 5)), (6, (.slot 6)), (7, (.res 3)), (8, (.slot 8)), (9, (.slot 9)), (10, (.slot 10)), (11, (.slot 11)), (12, (.slot 12)), (13, (.slot 13)), (41, (.slot 41))]))))
    [0, 5, 6, 7, 8, 9, 10, 11, 12, 13, 14, 41]
abbrev exec_plan_hangs_r21 : NC := .reg
    (.q 1 (.iar .add) [(.slot 13), (.const (.int .i64 1))] none
    (.out [(0, (.slot 0)), (5, (.slot 5)), (6, (.slot 6)), (7, (.slot 7)), (8, (.slot 8)), (9, (.slot 9)), (10, (.slot 10)), (11, (.slot 11)), (12, (.slot 12)), (13, (.res 1)), (41, (.slot 41))]))
    [0, 5, 6, 7, 8, 9, 10, 11, 12, 13, 41]
abbrev exec_plan_hangs_l0 : NC :=
  (.seq (.seq exec_plan_hangs_r14
  (.cond (.slot 57)
    .skip
    (.exit 4)))
  (.seq (.block 5 (.seq exec_plan_hangs_r15
  (.seq (.seq exec_plan_hangs_r16
  (.seq exec_plan_hangs_r17
  (.cond (.slot 73)
    (.seq exec_plan_hangs_r18
    .ret)
    .skip)))
  (.seq exec_plan_hangs_r19
  (.cond (.slot 77)
    exec_plan_hangs_r20
    .skip)))))
  exec_plan_hangs_r21))
abbrev exec_plan_hangs_r22 : NC := .reg
    (.q 0 (.iar .add) [(.slot 41), (.const (.int .i64 1))] none
    (.out [(0, (.slot 0)), (5, (.slot 5)), (6, (.slot 6)), (7, (.slot 7)), (8, (.slot 8)), (9, (.slot 9)), (10, (.slot 10)), (41, (.res 0))]))
    [0, 5, 6, 7, 8, 9, 10, 41]
abbrev exec_plan_hangs_l1 : NC :=
  (.seq exec_plan_hangs_r10
  (.seq (.cond (.slot 42)
    .skip
    (.exit 2))
  (.seq (.block 3 (.seq exec_plan_hangs_r11
  (.seq exec_plan_hangs_r12
  (.seq exec_plan_hangs_r13
  (.block 4 (.loop [0, 5, 6, 7, 8, 9, 10, 11, 12, 13, 41] exec_plan_hangs_l0))))))
  exec_plan_hangs_r22)))
abbrev exec_plan_hangs_r23 : NC := .reg
    (.q 1 (.iar .add) [(.slot 8), (.const (.int .i64 1))] none
    (.out [(0, (.slot 0)), (5, (.slot 5)), (6, (.slot 6)), (7, (.slot 7)), (8, (.res 1))]))
    [0, 5, 6, 7, 8]
abbrev exec_plan_hangs_l2 : NC :=
  (.seq (.seq exec_plan_hangs_r4
  (.cond (.slot 25)
    .skip
    (.exit 0)))
  (.seq (.block 1 (.seq (.seq exec_plan_hangs_r5
  (.cond (.slot 29)
    (.seq exec_plan_hangs_r6
    .ret)
    .skip))
  (.seq exec_plan_hangs_r7
  (.seq exec_plan_hangs_r8
  (.seq exec_plan_hangs_r9
  (.block 2 (.loop [0, 5, 6, 7, 8, 9, 10, 41] exec_plan_hangs_l1)))))))
  exec_plan_hangs_r23))
abbrev exec_plan_hangs_r24 : NC := .reg
    (.q 1 (.bld [(.int .i64 0), (.int .i64 0)] []) [] none
    (.x 3 (.st 2) [(.slot 5), (.res 1)] none []
    (.out [(4, (.slot 7)), (5, (.slot 5))])))
    [5, 7]
abbrev exec_plan_hangs_c : NC :=
  (.seq exec_plan_hangs_r0
  (.seq exec_plan_hangs_r1
  (.seq exec_plan_hangs_r2
  (.seq (.seq exec_plan_hangs_r3
  (.block 0 (.loop [0, 5, 6, 7, 8] exec_plan_hangs_l2)))
  (.seq exec_plan_hangs_r24
  .ret)))))
abbrev exec_plan_hangs_F : FN := ⟨exec_plan_hangs_c, [.slot 4, .cells 5 2]⟩
theorem exec_plan_hangs_ok : compF Try.prog Try.f35 = some exec_plan_hangs_F := by kernel_rfl
theorem exec_plan_hangs_go {args : List Value} {m : Mem} {R : Value → Mem → Prop} (hn : args.length ≤ Try.f35.ntmps) (h : wpN Try.prog exec_plan_hangs_c (retP exec_plan_hangs_F.rvs R) (zipP 0 args) m) : MC Try.prog 35 args m R := MC_start Try.func35 exec_plan_hangs_ok mixed_ok hn h
/-! (*concord/exec.plan).do -/
abbrev exec_plan_do_r0 : NC := .reg
    (.x 0 (.box 62) [(.slot 0)] none []
    (.x 1 (.box 26) [(.slot 1)] none []
    (.out [(2, (.res 0)), (3, (.res 1))])))
    [0, 1]
abbrev exec_plan_do_r1 : NC := .reg
    (.q 0 .ld [(.slot 3)] none
    (.x 1 (.call 37) [(.res 0), (.fn 44)] none []
    (.out [(2, (.slot 2)), (3, (.slot 3))])))
    [2, 3]
abbrev exec_plan_do_r2 : NC := .reg
    (.q 0 .ld [(.slot 2)] none
    (.q 1 .ld [(.slot 3)] none
    (.x 2 (.call 46) [(.res 0), (.res 1)] none []
    (.x 3 (.call 45) [(.res 2)] none []
    (.q 5 (.ext 0) [(.res 3)] none
    (.q 6 (.ext 1) [(.res 3)] none
    (.out [(2, (.slot 2)), (3, (.slot 3)), (4, (.res 5))])))))))
    [2, 3]
abbrev exec_plan_do_r3 : NC := .reg
    (.q 1 .len [(.slot 4)] none
    (.out [(2, (.slot 2)), (3, (.slot 3)), (20, (.slot 4)), (21, (.res 1)), (22, (.const (.int .i64 0)))]))
    [2, 3, 4]
abbrev exec_plan_do_r4 : NC := .reg
    (.q 0 (.icm .lss) [(.slot 22), (.slot 21)] none
    (.out [(2, (.slot 2)), (3, (.slot 3)), (20, (.slot 20)), (21, (.slot 21)), (22, (.slot 22)), (23, (.res 0))]))
    [2, 3, 20, 21, 22]
abbrev exec_plan_do_r5 : NC := .reg
    (.q 0 (.ixs 1) [(.slot 20), (.slot 22)] none
    (.q 1 .ld [(.res 0)] none
    (.out [(2, (.slot 2)), (3, (.slot 3)), (7, (.res 1)), (20, (.slot 20)), (21, (.slot 21)), (22, (.slot 22))])))
    [2, 3, 20, 21, 22]
abbrev exec_plan_do_r6 : NC := .reg
    (.q 1 (.mkf (.func 48) 0) [(.slot 2), (.slot 3)] none
    (.x 2 (.call 47) [(.slot 7), (.res 1)] none []
    (.out [(2, (.slot 2)), (3, (.slot 3)), (7, (.slot 7)), (20, (.slot 20)), (21, (.slot 21)), (22, (.slot 22))])))
    [2, 3, 7, 20, 21, 22]
abbrev exec_plan_do_r7 : NC := .reg
    (.q 1 .len [(.slot 7)] none
    (.out [(2, (.slot 2)), (3, (.slot 3)), (20, (.slot 20)), (21, (.slot 21)), (22, (.slot 22)), (29, (.slot 7)), (30, (.res 1)), (31, (.const (.int .i64 0)))]))
    [2, 3, 7, 20, 21, 22]
abbrev exec_plan_do_r8 : NC := .reg
    (.q 0 (.icm .lss) [(.slot 31), (.slot 30)] none
    (.out [(2, (.slot 2)), (3, (.slot 3)), (20, (.slot 20)), (21, (.slot 21)), (22, (.slot 22)), (29, (.slot 29)), (30, (.slot 30)), (31, (.slot 31)), (32, (.res 0))]))
    [2, 3, 20, 21, 22, 29, 30, 31]
abbrev exec_plan_do_r9 : NC := .reg
    (.q 0 (.ixs 1) [(.slot 29), (.slot 31)] none
    (.q 1 .ld [(.res 0)] none
    (.out [(2, (.slot 2)), (3, (.slot 3)), (9, (.res 1)), (20, (.slot 20)), (21, (.slot 21)), (22, (.slot 22)), (29, (.slot 29)), (30, (.slot 30)), (31, (.slot 31))])))
    [2, 3, 20, 21, 22, 29, 30, 31]
abbrev exec_plan_do_r10 : NC := .reg
    (.q 0 .ld [(.slot 3)] none
    (.q 2 (.ixs 2) [(.res 0), (.slot 9)] none
    (.q 3 (.lda 2) [(.res 2)] none
    (.x 4 (.alc [(.int .i64 0), (.int .i64 0)] 23) [] none []
    (.x 5 (.st 2) [(.res 4), (.res 3)] none []
    (.out [(2, (.slot 2)), (3, (.slot 3)), (10, (.res 4)), (20, (.slot 20)), (21, (.slot 21)), (22, (.slot 22)), (29, (.slot 29)), (30, (.slot 30)), (31, (.slot 31))]))))))
    [2, 3, 9, 20, 21, 22, 29, 30, 31]
abbrev exec_plan_do_r11 : NC := .reg
    (.q 0 .ld [(.slot 2)] none
    (.q 1 .ld [(.slot 2)] none
    (.q 2 .nilck [(.res 1)] none
    (.q 3 (.fld 8) [(.res 2)] none
    (.q 4 .ld [(.res 3)] none
    (.q 5 (.lda 2) [(.slot 10)] none
    (.q 6 .ld [(.slot 2)] none
    (.q 7 .nilck [(.res 6)] none
    (.q 8 (.fld 7) [(.res 7)] none
    (.q 9 .ld [(.res 8)] none
    (.q 10 (.lda 2) [(.slot 10)] none
    (.q 11 (.lkp true [(.i .i64), (.i .i64)] (.agg #[(.int .i64 0), (.int .i64 0), (.int .i64 0), (.int .i64 0), (.int .i64 0), (.int .i64 0), (.int .i64 0), (.int .i64 0), (.string ⟨#[]⟩), (.string ⟨#[]⟩), (.string ⟨#[]⟩), (.string ⟨#[]⟩), (.int .i64 0), (.int .i64 0), (.int .i64 0), (.int .i64 0), (.int .i64 0), (.int .i64 0), (.int .i64 0), (.int .i64 0), (.bool false)]) false) [(.res 9), (.res 10)] none
    (.q 12 (.bld [(.int .i64 0), (.int .i64 0), (.int .i64 0), (.int .i64 0), (.int .i64 0), (.int .i64 0), (.int .i64 0), (.int .i64 0), (.int .i64 0), (.int .i64 0), (.string ⟨#[]⟩), (.string ⟨#[]⟩), (.string ⟨#[]⟩), (.string ⟨#[]⟩), (.int .i64 0), (.int .i64 0), (.int .i64 0), (.int .i64 0), (.int .i64 0), (.int .i64 0), (.int .i64 0), (.int .i64 0), (.bool false)] [(0, 2), (2, 21)]) [(.res 5), (.res 11)] none
    (.x 13 (.bsl 40 1 [(.int .i64 0), (.int .i64 0), (.int .i64 0), (.int .i64 0), (.int .i64 0), (.int .i64 0), (.int .i64 0), (.int .i64 0), (.int .i64 0), (.int .i64 0), (.string ⟨#[]⟩), (.string ⟨#[]⟩), (.string ⟨#[]⟩), (.string ⟨#[]⟩), (.int .i64 0), (.int .i64 0), (.int .i64 0), (.int .i64 0), (.int .i64 0), (.int .i64 0), (.int .i64 0), (.int .i64 0), (.bool false)] [(0, 23)]) [(.res 12)] none [(0, .ld, [(.slot 2)], none), (1, .ld, [(.slot 2)], none), (4, .ld, [(.res 3)], none)]
    (.x 14 (.app 40 23 216 [(.int .i64 0), (.int .i64 0), (.int .i64 0), (.int .i64 0), (.int .i64 0), (.int .i64 0), (.int .i64 0), (.int .i64 0), (.int .i64 0), (.int .i64 0), (.string ⟨#[]⟩), (.string ⟨#[]⟩), (.string ⟨#[]⟩), (.string ⟨#[]⟩), (.int .i64 0), (.int .i64 0), (.int .i64 0), (.int .i64 0), (.int .i64 0), (.int .i64 0), (.int .i64 0), (.int .i64 0), (.bool false)]) [(.res 4), (.res 13)] none [(0, .ld, [(.slot 2)], none)]
    (.q 15 .nilck [(.res 0)] none
    (.q 16 (.fld 8) [(.res 15)] none
    (.x 17 (.st 1) [(.res 16), (.res 14)] none []
    (.out [(2, (.slot 2)), (3, (.slot 3)), (10, (.slot 10)), (20, (.slot 20)), (21, (.slot 21)), (22, (.slot 22)), (29, (.slot 29)), (30, (.slot 30)), (31, (.slot 31))])))))))))))))))))))
    [2, 3, 10, 20, 21, 22, 29, 30, 31]
abbrev exec_plan_do_r12 : NC := .reg
    (.q 0 .ld [(.slot 2)] none
    (.q 1 (.fld 0) [(.slot 10)] none
    (.q 2 .ld [(.res 1)] none
    (.q 3 .ld [(.slot 2)] none
    (.q 4 (.fld 0) [(.slot 10)] none
    (.q 5 .ld [(.res 4)] none
    (.q 6 .nilck [(.res 3)] none
    (.q 7 (.fld 0) [(.res 6)] none
    (.q 8 (.ixa 7 1) [(.res 7), (.res 5)] none
    (.q 9 .ld [(.res 8)] none
    (.q 10 (.fld 1) [(.slot 10)] none
    (.q 11 .ld [(.res 10)] none
    (.q 12 .mx [(.res 9), (.res 11)] none
    (.q 13 .nilck [(.res 0)] none
    (.q 14 (.fld 0) [(.res 13)] none
    (.q 15 (.ixa 7 1) [(.res 14), (.res 2)] none
    (.x 16 (.st 1) [(.res 15), (.res 12)] none []
    (.out [(2, (.slot 2)), (3, (.slot 3)), (20, (.slot 20)), (21, (.slot 21)), (22, (.slot 22)), (29, (.slot 29)), (30, (.slot 30)), (31, (.slot 31))]))))))))))))))))))
    [2, 3, 10, 20, 21, 22, 29, 30, 31]
abbrev exec_plan_do_r13 : NC := .reg
    (.q 0 (.iar .add) [(.slot 31), (.const (.int .i64 1))] none
    (.out [(2, (.slot 2)), (3, (.slot 3)), (20, (.slot 20)), (21, (.slot 21)), (22, (.slot 22)), (29, (.slot 29)), (30, (.slot 30)), (31, (.res 0))]))
    [2, 3, 20, 21, 22, 29, 30, 31]
abbrev exec_plan_do_l0 : NC :=
  (.seq exec_plan_do_r8
  (.seq (.cond (.slot 32)
    .skip
    (.exit 2))
  (.seq (.block 3 (.seq exec_plan_do_r9
  (.seq exec_plan_do_r10
  (.seq exec_plan_do_r11
  exec_plan_do_r12))))
  exec_plan_do_r13)))
abbrev exec_plan_do_r14 : NC := .reg
    (.q 0 (.iar .add) [(.slot 22), (.const (.int .i64 1))] none
    (.out [(2, (.slot 2)), (3, (.slot 3)), (20, (.slot 20)), (21, (.slot 21)), (22, (.res 0))]))
    [2, 3, 20, 21, 22]
abbrev exec_plan_do_l1 : NC :=
  (.seq exec_plan_do_r4
  (.seq (.cond (.slot 23)
    .skip
    (.exit 0))
  (.seq (.block 1 (.seq exec_plan_do_r5
  (.seq exec_plan_do_r6
  (.seq exec_plan_do_r7
  (.block 2 (.loop [2, 3, 20, 21, 22, 29, 30, 31] exec_plan_do_l0))))))
  exec_plan_do_r14)))
abbrev exec_plan_do_c : NC :=
  (.seq exec_plan_do_r0
  (.seq exec_plan_do_r1
  (.seq exec_plan_do_r2
  (.seq exec_plan_do_r3
  (.block 0 (.loop [2, 3, 20, 21, 22] exec_plan_do_l1))))))
abbrev exec_plan_do_F : FN := ⟨exec_plan_do_c, []⟩
theorem exec_plan_do_ok : compF Try.prog Try.f36 = some exec_plan_do_F := by kernel_rfl
theorem exec_plan_do_go {args : List Value} {m : Mem} {R : Value → Mem → Prop} (hn : args.length ≤ Try.f36.ntmps) (h : wpN Try.prog exec_plan_do_c (retP exec_plan_do_F.rvs R) (zipP 0 args) m) : MC Try.prog 36 args m R := MC_start Try.func36 exec_plan_do_ok mixed_ok hn h
/-! concord/exec.upto -/
abbrev exec_upto_r0 : NC := .reg
    (.x 0 (.box 23) [(.slot 0)] none []
    (.x 1 (.box 38) [(.slot 1)] none []
    (.out [(2, (.slot 2)), (3, (.res 0)), (4, (.res 1))])))
    [0, 1, 2]
abbrev exec_upto_r1 : NC := .reg
    (.q 1 (.fld 0) [(.slot 3)] none
    (.q 2 .ld [(.res 1)] none
    (.q 3 (.icm .eql) [(.slot 2), (.res 2)] none
    (.out [(2, (.slot 2)), (3, (.slot 3)), (4, (.slot 4)), (10, (.res 3))]))))
    [2, 3, 4]
abbrev exec_upto_r2 : NC := .reg
    (.q 1 (.fld 12) [(.slot 4)] none
    (.q 2 (.fld 1) [(.res 1)] none
    (.q 3 (.ixa 7 1) [(.res 2), (.slot 2)] none
    (.q 4 .ld [(.res 3)] none
    (.q 5 (.fld 1) [(.slot 3)] none
    (.q 6 .ld [(.res 5)] none
    (.q 7 (.iar .sub) [(.res 6), (.const (.int .i64 1))] none
    (.q 8 .mx [(.res 4), (.res 7)] none
    (.out [(6, (.res 8))])))))))))
    [2, 3, 4]
abbrev exec_upto_r3 : NC := .reg
    (.q 1 (.fld 12) [(.slot 4)] none
    (.q 2 (.fld 1) [(.res 1)] none
    (.q 3 (.ixa 7 1) [(.res 2), (.slot 2)] none
    (.q 4 .ld [(.res 3)] none
    (.out [(6, (.res 4))])))))
    [2, 4]
abbrev exec_upto_c : NC :=
  (.seq exec_upto_r0
  (.seq (.seq exec_upto_r1
  (.cond (.slot 10)
    (.seq exec_upto_r2
    .ret)
    .skip))
  (.seq exec_upto_r3
  .ret)))
abbrev exec_upto_F : FN := ⟨exec_upto_c, [.slot 6]⟩
theorem exec_upto_ok : compF Try.prog Try.f43 = some exec_upto_F := by kernel_rfl
theorem exec_upto_go {args : List Value} {m : Mem} {R : Value → Mem → Prop} (hn : args.length ≤ Try.f43.ntmps) (h : wpN Try.prog exec_upto_c (retP exec_upto_F.rvs R) (zipP 0 args) m) : MC Try.prog 43 args m R := MC_start Try.func43 exec_upto_ok mixed_ok hn h
/-! (*concord/exec.plan).do$1 -/
abbrev exec_plan_do_c1_r0 : NC := .reg
    (.x 0 (.box 23) [(.slot 0)] none []
    (.x 1 (.box 23) [(.slot 1)] none []
    (.out [(2, (.res 0)), (3, (.res 1))])))
    [0, 1]
abbrev exec_plan_do_c1_r1 : NC := .reg
    (.q 0 (.lda 2) [(.slot 2)] none
    (.q 1 (.lda 2) [(.slot 3)] none
    (.x 2 (.call 39) [(.res 0), (.res 1)] none []
    (.out [(7, (.res 2))]))))
    [2, 3]
abbrev exec_plan_do_c1_r2 : NC := .reg
    (.out [(4, (.const (.int .i64 (-1))))])
    []
abbrev exec_plan_do_c1_r3 : NC := .reg
    (.out [(4, (.const (.int .i64 1)))])
    []
abbrev exec_plan_do_c1_c : NC :=
  (.seq exec_plan_do_c1_r0
  (.seq (.seq exec_plan_do_c1_r1
  (.cond (.slot 7)
    (.seq exec_plan_do_c1_r2
    .ret)
    .skip))
  (.seq exec_plan_do_c1_r3
  .ret)))
abbrev exec_plan_do_c1_F : FN := ⟨exec_plan_do_c1_c, [.slot 4]⟩
theorem exec_plan_do_c1_ok : compF Try.prog Try.f44 = some exec_plan_do_c1_F := by kernel_rfl
theorem exec_plan_do_c1_go {args : List Value} {m : Mem} {R : Value → Mem → Prop} (hn : args.length ≤ Try.f44.ntmps) (h : wpN Try.prog exec_plan_do_c1_c (retP exec_plan_do_c1_F.rvs R) (zipP 0 args) m) : MC Try.prog 44 args m R := MC_start Try.func44 exec_plan_do_c1_ok mixed_ok hn h
/-! (*concord/exec.plan).edges -/
abbrev exec_plan_edges_r0 : NC := .reg
    (.out [(0, (.slot 0)), (1, (.slot 1))])
    [0, 1]
abbrev exec_plan_edges_r1 : NC := .reg
    (.q 1 .len [(.slot 1)] none
    (.x 2 (.mks 55 24 [(.slice none 0 0)]) [(.res 1), (.res 1)] none []
    (.out [(0, (.slot 0)), (1, (.slot 1)), (5, (.res 2))])))
    [0, 1]
abbrev exec_plan_edges_r2 : NC := .reg
    (.q 1 .len [(.slot 1)] none
    (.out [(0, (.slot 0)), (1, (.slot 1)), (5, (.slot 5)), (14, (.slot 1)), (15, (.res 1)), (16, (.const (.int .i64 0)))]))
    [0, 1, 5]
abbrev exec_plan_edges_r3 : NC := .reg
    (.q 0 (.icm .lss) [(.slot 16), (.slot 15)] none
    (.out [(0, (.slot 0)), (1, (.slot 1)), (5, (.slot 5)), (14, (.slot 14)), (15, (.slot 15)), (16, (.slot 16)), (17, (.res 0))]))
    [0, 1, 5, 14, 15, 16]
abbrev exec_plan_edges_r4 : NC := .reg
    (.q 1 (.ixs 2) [(.slot 14), (.slot 16)] none
    (.q 2 (.lda 2) [(.res 1)] none
    (.x 3 (.alc [(.int .i64 0), (.int .i64 0)] 23) [] none []
    (.x 5 (.st 2) [(.res 3), (.res 2)] none []
    (.out [(0, (.slot 0)), (1, (.slot 1)), (5, (.slot 5)), (6, (.slot 16)), (7, (.res 3)), (14, (.slot 14)), (15, (.slot 15)), (16, (.slot 16))])))))
    [0, 1, 5, 14, 15, 16]
abbrev exec_plan_edges_r5 : NC := .reg
    (.q 1 .nilck [(.slot 0)] none
    (.q 2 (.fld 7) [(.res 1)] none
    (.q 3 .ld [(.res 2)] none
    (.q 4 (.lda 2) [(.slot 7)] none
    (.q 5 (.lkp true [(.i .i64), (.i .i64)] (.agg #[(.int .i64 0), (.int .i64 0), (.int .i64 0), (.int .i64 0), (.int .i64 0), (.int .i64 0), (.int .i64 0), (.int .i64 0), (.string ⟨#[]⟩), (.string ⟨#[]⟩), (.string ⟨#[]⟩), (.string ⟨#[]⟩), (.int .i64 0), (.int .i64 0), (.int .i64 0), (.int .i64 0), (.int .i64 0), (.int .i64 0), (.int .i64 0), (.int .i64 0), (.bool false)]) false) [(.res 3), (.res 4)] none
    (.q 6 (.prta 12 8) [(.res 5)] none
    (.q 7 (.prta 1 7) [(.res 6)] none
    (.x 8 (.alc [(.int .i64 0), (.int .i64 0), (.int .i64 0), (.int .i64 0), (.int .i64 0), (.int .i64 0), (.int .i64 0)] 30) [] none [(3, .ld, [(.res 2)], none), (4, (.lda 2), [(.slot 7)], none), (5, (.lkp true [(.i .i64), (.i .i64)] (.agg #[(.int .i64 0), (.int .i64 0), (.int .i64 0), (.int .i64 0), (.int .i64 0), (.int .i64 0), (.int .i64 0), (.int .i64 0), (.string ⟨#[]⟩), (.string ⟨#[]⟩), (.string ⟨#[]⟩), (.string ⟨#[]⟩), (.int .i64 0), (.int .i64 0), (.int .i64 0), (.int .i64 0), (.int .i64 0), (.int .i64 0), (.int .i64 0), (.int .i64 0), (.bool false)]) false), [(.res 3), (.res 4)], none)]
    (.x 9 (.st 7) [(.res 8), (.res 7)] none []
    (.out [(0, (.slot 0)), (1, (.slot 1)), (5, (.slot 5)), (6, (.slot 6)), (7, (.slot 7)), (8, (.res 8)), (14, (.slot 14)), (15, (.slot 15)), (16, (.slot 16))]))))))))))
    [0, 1, 5, 6, 7, 14, 15, 16]
abbrev exec_plan_edges_r6 : NC := .reg
    (.q 1 .len [(.slot 1)] none
    (.out [(0, (.slot 0)), (1, (.slot 1)), (5, (.slot 5)), (6, (.slot 6)), (7, (.slot 7)), (8, (.slot 8)), (14, (.slot 14)), (15, (.slot 15)), (16, (.slot 16)), (29, (.slot 1)), (30, (.res 1)), (31, (.const (.int .i64 0)))]))
    [0, 1, 5, 6, 7, 8, 14, 15, 16]
abbrev exec_plan_edges_r7 : NC := .reg
    (.q 0 (.icm .lss) [(.slot 31), (.slot 30)] none
    (.out [(0, (.slot 0)), (1, (.slot 1)), (5, (.slot 5)), (6, (.slot 6)), (7, (.slot 7)), (8, (.slot 8)), (14, (.slot 14)), (15, (.slot 15)), (16, (.slot 16)), (29, (.slot 29)), (30, (.slot 30)), (31, (.slot 31)), (32, (.res 0))]))
    [0, 1, 5, 6, 7, 8, 14, 15, 16, 29, 30, 31]
abbrev exec_plan_edges_r8 : NC := .reg
    (.q 1 (.ixs 2) [(.slot 29), (.slot 31)] none
    (.q 2 (.lda 2) [(.res 1)] none
    (.x 3 (.alc [(.int .i64 0), (.int .i64 0)] 23) [] none []
    (.x 5 (.st 2) [(.res 3), (.res 2)] none []
    (.out [(0, (.slot 0)), (1, (.slot 1)), (5, (.slot 5)), (6, (.slot 6)), (7, (.slot 7)), (8, (.slot 8)), (9, (.slot 31)), (10, (.res 3)), (14, (.slot 14)), (15, (.slot 15)), (16, (.slot 16)), (29, (.slot 29)), (30, (.slot 30)), (31, (.slot 31))])))))
    [0, 1, 5, 6, 7, 8, 14, 15, 16, 29, 30, 31]
abbrev exec_plan_edges_r9 : NC := .reg
    (.q 2 (.icm .neq) [(.slot 6), (.slot 9)] none
    (.q 4 (.lda 7) [(.slot 8)] (some ((.res 2), true))
    (.q 5 (.lda 2) [(.slot 10)] (some ((.res 2), true))
    (.x 6 (.call 21) [(.res 4), (.res 5)] (some ((.res 2), true)) []
    (.q 7 .mv [(.res 6)] (some ((.res 2), true))
    (.q 8 (.fld 0) [(.slot 10)] (some ((.res 7), false))
    (.q 9 .ld [(.res 8)] (some ((.res 7), false))
    (.q 10 (.fld 0) [(.slot 7)] (some ((.res 7), false))
    (.q 11 .ld [(.res 10)] (some ((.res 7), false))
    (.q 12 (.icm .eql) [(.res 9), (.res 11)] (some ((.res 7), false))
    (.q 13 .mv [(.res 12)] (some ((.res 7), false))
    (.q 14 (.fld 1) [(.slot 10)] (some ((.res 13), true))
    (.q 15 .ld [(.res 14)] (some ((.res 13), true))
    (.q 16 (.fld 1) [(.slot 7)] (some ((.res 13), true))
    (.q 17 .ld [(.res 16)] (some ((.res 13), true))
    (.q 18 (.icm .lss) [(.res 15), (.res 17)] (some ((.res 13), true))
    (.q 19 .pick [(.res 13), (.res 18), (.const (.bool false))] (some ((.res 7), false))
    (.q 20 .pick [(.res 7), (.const (.bool true)), (.res 19)] (some ((.res 2), true))
    (.q 21 .pick [(.res 2), (.res 20), (.const (.bool false))] none
    (.out [(0, (.slot 0)), (1, (.slot 1)), (5, (.slot 5)), (6, (.slot 6)), (7, (.slot 7)), (8, (.slot 8)), (9, (.slot 9)), (14, (.slot 14)), (15, (.slot 15)), (16, (.slot 16)), (29, (.slot 29)), (30, (.slot 30)), (31, (.slot 31)), (57, (.res 21))]))))))))))))))))))))
    [0, 1, 5, 6, 7, 8, 9, 10, 14, 15, 16, 29, 30, 31]
abbrev exec_plan_edges_r10 : NC := .reg
    (.q 4 (.ixs 1) [(.slot 5), (.slot 6)] none
    (.q 5 .ld [(.res 4)] none
    (.x 7 (.bsl 3 1 [(.int .i64 0)] [(0, 1)]) [(.slot 9)] none []
    (.x 8 (.app 3 1 8 [(.int .i64 0)]) [(.res 5), (.res 7)] none []
    (.q 9 (.ixs 1) [(.slot 5), (.slot 6)] none
    (.x 10 (.st 1) [(.res 9), (.res 8)] none []
    (.out [(0, (.slot 0)), (1, (.slot 1)), (5, (.slot 5)), (6, (.slot 6)), (7, (.slot 7)), (8, (.slot 8)), (14, (.slot 14)), (15, (.slot 15)), (16, (.slot 16)), (29, (.slot 29)), (30, (.slot 30)), (31, (.slot 31))])))))))
    [0, 1, 5, 6, 7, 8, 9, 14, 15, 16, 29, 30, 31]
abbrev exec_plan_edges_r11 : NC := .reg
    (.q 0 (.iar .add) [(.slot 31), (.const (.int .i64 1))] none
    (.out [(0, (.slot 0)), (1, (.slot 1)), (5, (.slot 5)), (6, (.slot 6)), (7, (.slot 7)), (8, (.slot 8)), (14, (.slot 14)), (15, (.slot 15)), (16, (.slot 16)), (29, (.slot 29)), (30, (.slot 30)), (31, (.res 0))]))
    [0, 1, 5, 6, 7, 8, 14, 15, 16, 29, 30, 31]
abbrev exec_plan_edges_l0 : NC :=
  (.seq exec_plan_edges_r7
  (.seq (.cond (.slot 32)
    .skip
    (.exit 2))
  (.seq (.block 3 (.seq exec_plan_edges_r8
  (.seq exec_plan_edges_r9
  (.cond (.slot 57)
    exec_plan_edges_r10
    .skip))))
  exec_plan_edges_r11)))
abbrev exec_plan_edges_r12 : NC := .reg
    (.q 0 (.iar .add) [(.slot 16), (.const (.int .i64 1))] none
    (.out [(0, (.slot 0)), (1, (.slot 1)), (5, (.slot 5)), (14, (.slot 14)), (15, (.slot 15)), (16, (.res 0))]))
    [0, 1, 5, 14, 15, 16]
abbrev exec_plan_edges_l1 : NC :=
  (.seq exec_plan_edges_r3
  (.seq (.cond (.slot 17)
    .skip
    (.exit 0))
  (.seq (.block 1 (.seq exec_plan_edges_r4
  (.seq exec_plan_edges_r5
  (.seq exec_plan_edges_r6
  (.block 2 (.loop [0, 1, 5, 6, 7, 8, 14, 15, 16, 29, 30, 31] exec_plan_edges_l0))))))
  exec_plan_edges_r12)))
abbrev exec_plan_edges_r13 : NC := .reg
    (.out [(4, (.slot 5))])
    [5]
abbrev exec_plan_edges_c : NC :=
  (.seq exec_plan_edges_r0
  (.seq exec_plan_edges_r1
  (.seq (.seq exec_plan_edges_r2
  (.block 0 (.loop [0, 1, 5, 14, 15, 16] exec_plan_edges_l1)))
  (.seq exec_plan_edges_r13
  .ret))))
abbrev exec_plan_edges_F : FN := ⟨exec_plan_edges_c, [.slot 4]⟩
theorem exec_plan_edges_ok : compF Try.prog Try.f46 = some exec_plan_edges_F := by kernel_rfl
theorem exec_plan_edges_go {args : List Value} {m : Mem} {R : Value → Mem → Prop} (hn : args.length ≤ Try.f46.ntmps) (h : wpN Try.prog exec_plan_edges_c (retP exec_plan_edges_F.rvs R) (zipP 0 args) m) : MC Try.prog 46 args m R := MC_start Try.func46 exec_plan_edges_ok mixed_ok hn h
/-! (*concord/exec.plan).do$2 -/
abbrev exec_plan_do_c2_r0 : NC := .reg
    (.out [(0, (.slot 0)), (1, (.slot 1)), (2, (.slot 2)), (3, (.slot 3))])
    [0, 1, 2, 3]
abbrev exec_plan_do_c2_r1 : NC := .reg
    (.q 0 .ld [(.slot 2)] none
    (.q 1 .nilck [(.res 0)] none
    (.q 2 (.fld 7) [(.res 1)] none
    (.q 3 .ld [(.res 2)] none
    (.q 4 .ld [(.slot 3)] none
    (.q 6 (.ixs 2) [(.res 4), (.slot 0)] none
    (.q 7 (.lda 2) [(.res 6)] none
    (.q 8 (.lkp true [(.i .i64), (.i .i64)] (.agg #[(.int .i64 0), (.int .i64 0), (.int .i64 0), (.int .i64 0), (.int .i64 0), (.int .i64 0), (.int .i64 0), (.int .i64 0), (.string ⟨#[]⟩), (.string ⟨#[]⟩), (.string ⟨#[]⟩), (.string ⟨#[]⟩), (.int .i64 0), (.int .i64 0), (.int .i64 0), (.int .i64 0), (.int .i64 0), (.int .i64 0), (.int .i64 0), (.int .i64 0), (.bool false)]) false) [(.res 3), (.res 7)] none
    (.q 9 (.prta 12 8) [(.res 8)] none
    (.q 10 (.prt 0) [(.res 9)] none
    (.q 11 .ld [(.slot 2)] none
    (.q 12 .nilck [(.res 11)] none
    (.q 13 (.fld 7) [(.res 12)] none
    (.q 14 .ld [(.res 13)] none
    (.q 15 .ld [(.slot 3)] none
    (.q 17 (.ixs 2) [(.res 15), (.slot 1)] none
    (.q 18 (.lda 2) [(.res 17)] none
    (.q 19 (.lkp true [(.i .i64), (.i .i64)] (.agg #[(.int .i64 0), (.int .i64 0), (.int .i64 0), (.int .i64 0), (.int .i64 0), (.int .i64 0), (.int .i64 0), (.int .i64 0), (.string ⟨#[]⟩), (.string ⟨#[]⟩), (.string ⟨#[]⟩), (.string ⟨#[]⟩), (.int .i64 0), (.int .i64 0), (.int .i64 0), (.int .i64 0), (.int .i64 0), (.int .i64 0), (.int .i64 0), (.int .i64 0), (.bool false)]) false) [(.res 14), (.res 18)] none
    (.q 20 (.prta 12 8) [(.res 19)] none
    (.q 21 (.prt 0) [(.res 20)] none
    (.x 22 (.call 49) [(.res 10), (.res 21)] none []
    (.out [(6, (.res 22))]))))))))))))))))))))))
    [0, 1, 2, 3]
abbrev exec_plan_do_c2_c : NC :=
  (.seq exec_plan_do_c2_r0
  (.seq exec_plan_do_c2_r1
  .ret))
abbrev exec_plan_do_c2_F : FN := ⟨exec_plan_do_c2_c, [.slot 6]⟩
theorem exec_plan_do_c2_ok : compF Try.prog Try.f48 = some exec_plan_do_c2_F := by kernel_rfl
theorem exec_plan_do_c2_go {args : List Value} {m : Mem} {R : Value → Mem → Prop} (hn : args.length ≤ Try.f48.ntmps) (h : wpN Try.prog exec_plan_do_c2_c (retP exec_plan_do_c2_F.rvs R) (zipP 0 args) m) : MC Try.prog 48 args m R := MC_start Try.func48 exec_plan_do_c2_ok mixed_ok hn h
end Go.Fw

namespace Go.Fw
open Go.Proofs
/-! concord/concordlaw20.ExecRuns -/
abbrev law20_ExecRuns_r0 : NC := .reg
    (.out [])
    []
abbrev law20_ExecRuns_r1 : NC := .reg
    (.out [(1, (.fn 9))])
    []
abbrev law20_ExecRuns_r2 : NC := .reg
    (.q 0 (.bld [(.int .i64 0), (.int .i64 0), (.int .i64 0), (.int .i64 0), (.int .i64 0), (.int .i64 0), (.int .i64 0)] []) [] none
    (.x 1 (.bsl 3 2 [(.int .i64 0), (.int .i64 0)] [(0, 1), (1, 1)]) [(.const (.int .i64 0)), (.const (.int .i64 1))] none []
    (.x 2 (.call 11) [(.const (.int .i64 0)), (.const (.int .i64 1)), (.const (.int .i64 2)), (.res 1)] none []
    (.x 3 (.bsl 3 1 [(.int .i64 0)] [(0, 1)]) [(.const (.int .i64 1))] none []
    (.x 4 (.call 11) [(.const (.int .i64 1)), (.const (.int .i64 1)), (.const (.int .i64 1)), (.res 3)] none []
    (.x 5 (.bsl 40 2 [(.int .i64 0), (.int .i64 0), (.int .i64 0), (.int .i64 0), (.int .i64 0), (.int .i64 0), (.int .i64 0), (.int .i64 0), (.int .i64 0), (.int .i64 0), (.string ⟨#[]⟩), (.string ⟨#[]⟩), (.string ⟨#[]⟩), (.string ⟨#[]⟩), (.int .i64 0), (.int .i64 0), (.int .i64 0), (.int .i64 0), (.int .i64 0), (.int .i64 0), (.int .i64 0), (.int .i64 0), (.bool false), (.int .i64 0), (.int .i64 0), (.int .i64 0), (.int .i64 0), (.int .i64 0), (.int .i64 0), (.int .i64 0), (.int .i64 0), (.int .i64 0), (.int .i64 0), (.string ⟨#[]⟩), (.string ⟨#[]⟩), (.string ⟨#[]⟩), (.string ⟨#[]⟩), (.int .i64 0), (.int .i64 0), (.int .i64 0), (.int .i64 0), (.int .i64 0), (.int .i64 0), (.int .i64 0), (.int .i64 0), (.bool false)] [(0, 23), (23, 23)]) [(.res 2), (.res 4)] none []
    (.x 6 (.call 10) [(.res 0), (.res 5)] none []
    (.q 8 (.ext 0) [(.res 6)] none
    (.q 9 (.ext 1) [(.res 6)] none
    (.out [(1, (.slot 1)), (2, (.res 8)), (3, (.res 9))]))))))))))
    [1]
abbrev law20_ExecRuns_r3 : NC := .reg
    (.q 0 (.bld [(.int .i64 0), (.int .i64 0), (.int .i64 0), (.int .i64 0), (.int .i64 0), (.int .i64 0), (.int .i64 0)] []) [] none
    (.x 1 (.bsl 3 2 [(.int .i64 0), (.int .i64 0)] [(0, 1), (1, 1)]) [(.const (.int .i64 0)), (.const (.int .i64 1))] none []
    (.x 2 (.call 11) [(.const (.int .i64 0)), (.const (.int .i64 1)), (.const (.int .i64 2)), (.res 1)] none []
    (.x 3 (.bsl 40 1 [(.int .i64 0), (.int .i64 0), (.int .i64 0), (.int .i64 0), (.int .i64 0), (.int .i64 0), (.int .i64 0), (.int .i64 0), (.int .i64 0), (.int .i64 0), (.string ⟨#[]⟩), (.string ⟨#[]⟩), (.string ⟨#[]⟩), (.string ⟨#[]⟩), (.int .i64 0), (.int .i64 0), (.int .i64 0), (.int .i64 0), (.int .i64 0), (.int .i64 0), (.int .i64 0), (.int .i64 0), (.bool false)] [(0, 23)]) [(.res 2)] none []
    (.x 4 (.call 10) [(.res 0), (.res 3)] none []
    (.q 6 (.ext 0) [(.res 4)] none
    (.q 7 (.ext 1) [(.res 4)] none
    (.out [(1, (.slot 1)), (2, (.slot 2)), (3, (.slot 3)), (4, (.res 6)), (5, (.res 7))]))))))))
    [1, 2, 3]
abbrev law20_ExecRuns_r4 : NC := .reg
    (.q 0 (.bld [(.int .i64 0), (.int .i64 0), (.int .i64 0), (.int .i64 0), (.int .i64 0), (.int .i64 0), (.int .i64 0)] []) [] none
    (.x 1 (.call 11) [(.const (.int .i64 0)), (.const (.int .i64 1)), (.const (.int .i64 0)), (.const (.slice none 0 0))] none []
    (.x 2 (.bsl 3 2 [(.int .i64 0), (.int .i64 0)] [(0, 1), (1, 1)]) [(.const (.int .i64 0)), (.const (.int .i64 1))] none []
    (.x 3 (.call 11) [(.const (.int .i64 0)), (.const (.int .i64 2)), (.const (.int .i64 0)), (.res 2)] none []
    (.x 4 (.bsl 3 3 [(.int .i64 0), (.int .i64 0), (.int .i64 0)] [(0, 1), (1, 1), (2, 1)]) [(.const (.int .i64 0)), (.const (.int .i64 0)), (.const (.int .i64 1))] none []
    (.x 5 (.call 11) [(.const (.int .i64 1)), (.const (.int .i64 1)), (.const (.int .i64 0)), (.res 4)] none []
    (.x 6 (.bsl 40 3 [(.int .i64 0), (.int .i64 0), (.int .i64 0), (.int .i64 0), (.int .i64 0), (.int .i64 0), (.int .i64 0), (.int .i64 0), (.int .i64 0), (.int .i64 0), (.string ⟨#[]⟩), (.string ⟨#[]⟩), (.string ⟨#[]⟩), (.string ⟨#[]⟩), (.int .i64 0), (.int .i64 0), (.int .i64 0), (.int .i64 0), (.int .i64 0), (.int .i64 0), (.int .i64 0), (.int .i64 0), (.bool false), (.int .i64 0), (.int .i64 0), (.int .i64 0), (.int .i64 0), (.int .i64 0), (.int .i64 0), (.int .i64 0), (.int .i64 0), (.int .i64 0), (.int .i64 0), (.string ⟨#[]⟩), (.string ⟨#[]⟩), (.string ⟨#[]⟩), (.string ⟨#[]⟩), (.int .i64 0), (.int .i64 0), (.int .i64 0), (.int .i64 0), (.int .i64 0), (.int .i64 0), (.int .i64 0), (.int .i64 0), (.bool false), (.int .i64 0), (.int .i64 0), (.int .i64 0), (.int .i64 0), (.int .i64 0), (.int .i64 0), (.int .i64 0), (.int .i64 0), (.int .i64 0), (.int .i64 0), (.string ⟨#[]⟩), (.string ⟨#[]⟩), (.string ⟨#[]⟩), (.string ⟨#[]⟩), (.int .i64 0), (.int .i64 0), (.int .i64 0), (.int .i64 0), (.int .i64 0), (.int .i64 0), (.int .i64 0), (.int .i64 0), (.bool false)] [(0, 23), (23, 23), (46, 23)]) [(.res 1), (.res 3), (.res 5)] none []
    (.x 7 (.call 10) [(.res 0), (.res 6)] none []
    (.q 9 (.ext 0) [(.res 7)] none
    (.q 10 (.ext 1) [(.res 7)] none
    (.out [(1, (.slot 1)), (2, (.slot 2)), (3, (.slot 3)), (4, (.slot 4)), (5, (.slot 5)), (6, (.res 9)), (7, (.res 10))])))))))))))
    [1, 2, 3, 4, 5]
abbrev law20_ExecRuns_r5 : NC := .reg
    (.x 1 (.call 13) [(.slot 2)] none []
    (.x 3 .callv [(.slot 1), (.const (.int .i64 1)), (.const (.int .i64 1))] none []
    (.x 5 .callv [(.slot 1), (.const (.int .i64 0)), (.const (.int .i64 1))] none []
    (.x 6 (.bsl 23 2 [(.int .i64 0), (.int .i64 0), (.int .i64 0), (.int .i64 0)] [(0, 2), (2, 2)]) [(.res 3), (.res 5)] none []
    (.x 7 (.call 12) [(.res 1), (.res 6)] none []
    (.q 9 .mv [(.slot 3)] (some ((.res 7), true))
    (.q 10 .len [(.res 9)] (some ((.res 7), true))
    (.q 11 (.icm .eql) [(.res 10), (.const (.int .i64 0))] (some ((.res 7), true))
    (.q 12 .pick [(.res 7), (.res 11), (.const (.bool false))] none
    (.q 14 .mv [(.slot 4)] (some ((.res 12), true))
    (.q 15 .len [(.res 14)] (some ((.res 12), true))
    (.q 16 (.icm .eql) [(.res 15), (.const (.int .i64 0))] (some ((.res 12), true))
    (.q 17 .pick [(.res 12), (.res 16), (.const (.bool false))] none
    (.q 19 .mv [(.slot 5)] (some ((.res 17), true))
    (.q 20 .mv [(.slot 1)] (some ((.res 17), true))
    (.x 21 .callv [(.res 20), (.const (.int .i64 1)), (.const (.int .i64 1))] (some ((.res 17), true)) []
    (.x 22 (.bsl 23 1 [(.int .i64 0), (.int .i64 0)] [(0, 2)]) [(.res 21)] (some ((.res 17), true)) []
    (.x 23 (.call 12) [(.res 19), (.res 22)] (some ((.res 17), true)) []
    (.q 24 .pick [(.res 17), (.res 23), (.const (.bool false))] none
    (.q 26 .mv [(.slot 6)] (some ((.res 24), true))
    (.x 27 (.call 13) [(.res 26)] (some ((.res 24), true)) []
    (.q 28 .mv [(.slot 1)] (some ((.res 24), true))
    (.x 29 .callv [(.res 28), (.const (.int .i64 0)), (.const (.int .i64 1))] (some ((.res 24), true)) []
    (.x 30 (.bsl 23 1 [(.int .i64 0), (.int .i64 0)] [(0, 2)]) [(.res 29)] (some ((.res 24), true)) []
    (.x 31 (.call 12) [(.res 27), (.res 30)] (some ((.res 24), true)) []
    (.q 32 .pick [(.res 24), (.res 31), (.const (.bool false))] none
    (.q 34 .mv [(.slot 7)] (some ((.res 32), true))
    (.q 35 .mv [(.slot 1)] (some ((.res 32), true))
    (.x 36 .callv [(.res 35), (.const (.int .i64 2)), (.const (.int .i64 1))] (some ((.res 32), true)) []
    (.x 37 (.bsl 23 1 [(.int .i64 0), (.int .i64 0)] [(0, 2)]) [(.res 36)] (some ((.res 32), true)) []
    (.x 38 (.call 12) [(.res 34), (.res 37)] (some ((.res 32), true)) []
    (.q 39 .pick [(.res 32), (.res 38), (.const (.bool false))] none
    (.out [(0, (.res 39))])))))))))))))))))))))))))))))))))
    [1, 2, 3, 4, 5, 6, 7]
abbrev law20_ExecRuns_c : NC :=
  (.seq law20_ExecRuns_r0
  (.seq law20_ExecRuns_r1
  (.seq law20_ExecRuns_r2
  (.seq law20_ExecRuns_r3
  (.seq law20_ExecRuns_r4
  (.seq law20_ExecRuns_r5
  .ret))))))
abbrev law20_ExecRuns_F : FN := ⟨law20_ExecRuns_c, [.slot 0]⟩
theorem law20_ExecRuns_ok : compF Try.prog Try.f3 = some law20_ExecRuns_F := by kernel_rfl
theorem law20_ExecRuns_go {args : List Value} {m : Mem} {R : Value → Mem → Prop} (hn : args.length ≤ Try.f3.ntmps) (h : wpN Try.prog law20_ExecRuns_c (retP law20_ExecRuns_F.rvs R) (zipP 0 args) m) : MC Try.prog 3 args m R := MC_start Try.func3 law20_ExecRuns_ok mixed_ok hn h
/-! concord/concordlaw20.ExecPlans -/
abbrev law20_ExecPlans_r0 : NC := .reg
    (.x 0 (.box 30) [(.slot 0)] none []
    (.out [(1, (.slot 1)), (2, (.res 0))]))
    [0, 1]
abbrev law20_ExecPlans_r1 : NC := .reg
    (.x 1 (.call 14) [(.slot 1), (.const (.int .i64 30))] none []
    (.out [(1, (.res 1)), (2, (.slot 2))]))
    [1, 2]
abbrev law20_ExecPlans_r2 : NC := .reg
    (.out [(1, (.slot 1)), (2, (.slot 2)), (5, (.const (.int .i64 0)))])
    [1, 2]
abbrev law20_ExecPlans_r3 : NC := .reg
    (.q 1 (.icm .lss) [(.slot 5), (.const (.int .i64 7))] none
    (.out [(1, (.slot 1)), (2, (.slot 2)), (5, (.slot 5)), (16, (.res 1))]))
    [1, 2, 5]
abbrev law20_ExecPlans_r4 : NC := .reg
    (.q 2 (.ixa 7 1) [(.slot 2), (.slot 5)] none
    (.q 3 .ld [(.res 2)] none
    (.x 4 (.call 15) [(.res 3), (.const (.int .i64 0)), (.const (.int .i64 5))] none []
    (.q 5 (.ixa 7 1) [(.slot 2), (.slot 5)] none
    (.x 6 (.st 1) [(.res 5), (.res 4)] none []
    (.out [(1, (.slot 1)), (2, (.slot 2)), (5, (.slot 5))]))))))
    [1, 2, 5]
abbrev law20_ExecPlans_r5 : NC := .reg
    (.q 1 (.iar .add) [(.slot 5), (.const (.int .i64 1))] none
    (.out [(1, (.slot 1)), (2, (.slot 2)), (5, (.res 1))]))
    [1, 2, 5]
abbrev law20_ExecPlans_l0 : NC :=
  (.seq (.seq law20_ExecPlans_r3
  (.cond (.slot 16)
    .skip
    (.exit 0)))
  (.seq (.block 1 law20_ExecPlans_r4)
  law20_ExecPlans_r5))
abbrev law20_ExecPlans_r6 : NC := .reg
    (.q 0 (.bld [(.int .i64 0), (.int .i64 0)] [(1, 1)]) [(.const (.int .i64 (-3)))] none
    (.q 1 (.bld [(.int .i64 0), (.int .i64 0), (.int .i64 0), (.int .i64 0), (.int .i64 0), (.int .i64 0), (.int .i64 0), (.int .i64 0), (.int .i64 0), (.int .i64 0), (.string ⟨#[]⟩), (.string ⟨#[]⟩), (.string ⟨#[]⟩), (.string ⟨#[]⟩), (.int .i64 0), (.int .i64 0), (.int .i64 0), (.int .i64 0), (.int .i64 0), (.int .i64 0), (.int .i64 0), (.int .i64 0), (.bool false)] [(0, 2)]) [(.res 0)] none
    (.x 2 (.alc [(.int .i64 0), (.int .i64 0), (.int .i64 0), (.int .i64 0), (.int .i64 0), (.int .i64 0), (.int .i64 0), (.int .i64 0), (.int .i64 0), (.int .i64 0), (.string ⟨#[]⟩), (.string ⟨#[]⟩), (.string ⟨#[]⟩), (.string ⟨#[]⟩), (.int .i64 0), (.int .i64 0), (.int .i64 0), (.int .i64 0), (.int .i64 0), (.int .i64 0), (.int .i64 0), (.int .i64 0), (.bool false)] 40) [] none []
    (.x 3 (.st 23) [(.res 2), (.res 1)] none []
    (.out [(1, (.slot 1)), (2, (.slot 2)), (6, (.res 2))])))))
    [1, 2]
abbrev law20_ExecPlans_r7 : NC := .reg
    (.q 1 (.lda 23) [(.slot 6)] none
    (.x 2 (.call 16) [(.slot 1), (.res 1)] none []
    (.out [(1, (.slot 1)), (2, (.slot 2)), (6, (.slot 6)), (7, (.res 2))])))
    [1, 2, 6]
abbrev law20_ExecPlans_r8 : NC := .reg
    (.q 0 (.lda 7) [(.slot 2)] none
    (.q 3 .len [(.slot 1)] none
    (.q 4 (.slc 23 false true) [(.slot 7), (.res 3)] none
    (.x 5 (.call 10) [(.res 0), (.res 4)] none []
    (.q 7 (.ext 0) [(.res 5)] none
    (.q 8 (.ext 1) [(.res 5)] none
    (.out [(1, (.slot 1)), (2, (.slot 2)), (6, (.slot 6)), (7, (.slot 7)), (8, (.res 7)), (9, (.res 8))])))))))
    [1, 2, 6, 7]
abbrev law20_ExecPlans_r9 : NC := .reg
    (.q 0 (.lda 7) [(.slot 2)] none
    (.x 2 (.call 18) [(.slot 1)] none [(0, (.lda 7), [(.slot 2)], none)]
    (.x 3 (.call 17) [(.res 0), (.res 2)] none []
    (.q 5 (.ext 0) [(.res 3)] none
    (.q 6 (.ext 1) [(.res 3)] none
    (.out [(1, (.slot 1)), (6, (.slot 6)), (7, (.slot 7)), (8, (.slot 8)), (9, (.slot 9)), (10, (.res 5)), (11, (.res 6))]))))))
    [1, 2, 6, 7, 8, 9]
abbrev law20_ExecPlans_r10 : NC := .reg
    (.q 1 .len [(.slot 8)] none
    (.q 3 .len [(.slot 10)] none
    (.q 4 (.icm .neq) [(.res 1), (.res 3)] none
    (.q 6 .mv [(.slot 9)] (some ((.res 4), false))
    (.q 7 .mv [(.slot 11)] (some ((.res 4), false))
    (.x 8 (.call 12) [(.res 6), (.res 7)] (some ((.res 4), false)) []
    (.q 9 .not [(.res 8)] (some ((.res 4), false))
    (.q 10 .pick [(.res 4), (.const (.bool true)), (.res 9)] none
    (.out [(1, (.slot 1)), (6, (.slot 6)), (7, (.slot 7)), (8, (.slot 8)), (10, (.slot 10)), (56, (.res 10))])))))))))
    [1, 6, 7, 8, 9, 10, 11]
abbrev law20_ExecPlans_r11 : NC := .reg
    (.out [(4, (.const (.bool false)))])
    []
abbrev law20_ExecPlans_r12 : NC := .reg
    (.out [(1, (.slot 1)), (6, (.slot 6)), (7, (.slot 7)), (8, (.slot 8)), (10, (.slot 10)), (12, (.const (.int .i64 0)))])
    [1, 6, 7, 8, 10]
abbrev law20_ExecPlans_r13 : NC := .reg
    (.q 2 .len [(.slot 8)] none
    (.q 3 (.icm .lss) [(.slot 12), (.res 2)] none
    (.out [(1, (.slot 1)), (6, (.slot 6)), (7, (.slot 7)), (8, (.slot 8)), (10, (.slot 10)), (12, (.slot 12)), (60, (.res 3))])))
    [1, 6, 7, 8, 10, 12]
abbrev law20_ExecPlans_r14 : NC := .reg
    (.q 2 (.ixs 23) [(.slot 8), (.slot 12)] none
    (.q 3 (.fld 0) [(.res 2)] none
    (.q 4 (.lda 2) [(.res 3)] none
    (.q 7 (.ixs 23) [(.slot 10), (.slot 12)] none
    (.q 8 (.fld 0) [(.res 7)] none
    (.q 9 (.lda 2) [(.res 8)] none
    (.q 10 (.eqc true [(.i .i64), (.i .i64)]) [(.res 4), (.res 9)] none
    (.q 12 .mv [(.slot 8)] (some ((.res 10), false))
    (.q 13 .mv [(.slot 12)] (some ((.res 10), false))
    (.q 14 (.ixs 23) [(.res 12), (.res 13)] (some ((.res 10), false))
    (.q 15 (.fld 2) [(.res 14)] (some ((.res 10), false))
    (.q 16 (.lda 21) [(.res 15)] (some ((.res 10), false))
    (.q 17 .mv [(.slot 10)] (some ((.res 10), false))
    (.q 18 .mv [(.slot 12)] (some ((.res 10), false))
    (.q 19 (.ixs 23) [(.res 17), (.res 18)] (some ((.res 10), false))
    (.q 20 (.fld 2) [(.res 19)] (some ((.res 10), false))
    (.q 21 (.lda 21) [(.res 20)] (some ((.res 10), false))
    (.q 22 (.eqc true [(.i .i64), (.i .i64), (.i .i64), (.i .i64), (.i .i64), (.i .i64), (.i .i64), (.i .i64), .s, .s, .s, .s, (.i .i64), (.i .i64), (.i .i64), (.i .i64), (.i .i64), (.i .i64), (.i .i64), (.i .i64), .b]) [(.res 16), (.res 21)] (some ((.res 10), false))
    (.q 23 .pick [(.res 10), (.const (.bool true)), (.res 22)] none
    (.out [(1, (.slot 1)), (6, (.slot 6)), (7, (.slot 7)), (8, (.slot 8)), (10, (.slot 10)), (12, (.slot 12)), (86, (.res 23))]))))))))))))))))))))
    [1, 6, 7, 8, 10, 12]
abbrev law20_ExecPlans_r15 : NC := .reg
    (.out [(4, (.const (.bool false)))])
    []
abbrev law20_ExecPlans_r16 : NC := .reg
    (.q 1 (.iar .add) [(.slot 12), (.const (.int .i64 1))] none
    (.out [(1, (.slot 1)), (6, (.slot 6)), (7, (.slot 7)), (8, (.slot 8)), (10, (.slot 10)), (12, (.res 1))]))
    [1, 6, 7, 8, 10, 12]
abbrev law20_ExecPlans_l1 : NC :=
  (.seq (.seq law20_ExecPlans_r13
  (.cond (.slot 60)
    .skip
    (.exit 2)))
  (.seq (.block 3 (.seq law20_ExecPlans_r14
  (.cond (.slot 86)
    (.seq law20_ExecPlans_r15
    .ret)
    .skip)))
  law20_ExecPlans_r16))
abbrev law20_ExecPlans_r17 : NC := .reg
    (.q 2 (.lda 23) [(.slot 6)] none
    (.x 3 (.call 19) [(.slot 7), (.slot 1), (.res 2)] none []
    (.x 5 (.call 3) [] (some ((.res 3), true)) []
    (.q 6 .pick [(.res 3), (.res 5), (.const (.bool false))] none
    (.out [(4, (.res 6))])))))
    [1, 6, 7]
abbrev law20_ExecPlans_c : NC :=
  (.seq law20_ExecPlans_r0
  (.seq law20_ExecPlans_r1
  (.seq (.seq law20_ExecPlans_r2
  (.block 0 (.loop [1, 2, 5] law20_ExecPlans_l0)))
  (.seq law20_ExecPlans_r6
  (.seq law20_ExecPlans_r7
  (.seq law20_ExecPlans_r8
  (.seq law20_ExecPlans_r9
  (.seq (.seq law20_ExecPlans_r10
  (.cond (.slot 56)
    (.seq law20_ExecPlans_r11
    .ret)
    .skip))
  (.seq (.seq law20_ExecPlans_r12
  (.block 2 (.loop [1, 6, 7, 8, 10, 12] law20_ExecPlans_l1)))
  (.seq law20_ExecPlans_r17
  .ret))))))))))
abbrev law20_ExecPlans_F : FN := ⟨law20_ExecPlans_c, [.slot 4]⟩
theorem law20_ExecPlans_ok : compF Try.prog Try.f4 = some law20_ExecPlans_F := by kernel_rfl
theorem law20_ExecPlans_go {args : List Value} {m : Mem} {R : Value → Mem → Prop} (hn : args.length ≤ Try.f4.ntmps) (h : wpN Try.prog law20_ExecPlans_c (retP law20_ExecPlans_F.rvs R) (zipP 0 args) m) : MC Try.prog 4 args m R := MC_start Try.func4 law20_ExecPlans_ok mixed_ok hn h
/-! concord/concordlaw20.ExecTwice -/
abbrev law20_ExecTwice_r0 : NC := .reg
    (.x 0 (.box 30) [(.slot 0)] none []
    (.out [(1, (.slot 1)), (2, (.res 0))]))
    [0, 1]
abbrev law20_ExecTwice_r1 : NC := .reg
    (.x 1 (.call 14) [(.slot 1), (.const (.int .i64 30))] none []
    (.out [(1, (.res 1)), (2, (.slot 2))]))
    [1, 2]
abbrev law20_ExecTwice_r2 : NC := .reg
    (.out [(1, (.slot 1)), (2, (.slot 2)), (5, (.const (.int .i64 0)))])
    [1, 2]
abbrev law20_ExecTwice_r3 : NC := .reg
    (.q 1 (.icm .lss) [(.slot 5), (.const (.int .i64 7))] none
    (.out [(1, (.slot 1)), (2, (.slot 2)), (5, (.slot 5)), (15, (.res 1))]))
    [1, 2, 5]
abbrev law20_ExecTwice_r4 : NC := .reg
    (.q 2 (.ixa 7 1) [(.slot 2), (.slot 5)] none
    (.q 3 .ld [(.res 2)] none
    (.x 4 (.call 15) [(.res 3), (.const (.int .i64 0)), (.const (.int .i64 5))] none []
    (.q 5 (.ixa 7 1) [(.slot 2), (.slot 5)] none
    (.x 6 (.st 1) [(.res 5), (.res 4)] none []
    (.out [(1, (.slot 1)), (2, (.slot 2)), (5, (.slot 5))]))))))
    [1, 2, 5]
abbrev law20_ExecTwice_r5 : NC := .reg
    (.q 1 (.iar .add) [(.slot 5), (.const (.int .i64 1))] none
    (.out [(1, (.slot 1)), (2, (.slot 2)), (5, (.res 1))]))
    [1, 2, 5]
abbrev law20_ExecTwice_l0 : NC :=
  (.seq (.seq law20_ExecTwice_r3
  (.cond (.slot 15)
    .skip
    (.exit 0)))
  (.seq (.block 1 law20_ExecTwice_r4)
  law20_ExecTwice_r5))
abbrev law20_ExecTwice_r6 : NC := .reg
    (.q 0 (.lda 7) [(.slot 2)] none
    (.x 2 (.call 10) [(.res 0), (.slot 1)] none []
    (.q 4 (.ext 0) [(.res 2)] none
    (.q 5 (.ext 1) [(.res 2)] none
    (.out [(1, (.slot 1)), (2, (.slot 2)), (6, (.res 4)), (7, (.res 5))])))))
    [1, 2]
abbrev law20_ExecTwice_r7 : NC := .reg
    (.q 0 (.lda 7) [(.slot 2)] none
    (.x 1 (.alc [(.int .i64 0), (.int .i64 0), (.int .i64 0), (.int .i64 0), (.int .i64 0), (.int .i64 0), (.int .i64 0)] 30) [] none []
    (.x 2 (.st 7) [(.res 1), (.res 0)] none []
    (.out [(1, (.slot 1)), (2, (.slot 2)), (6, (.slot 6)), (7, (.slot 7)), (8, (.res 1))]))))
    [1, 2, 6, 7]
abbrev law20_ExecTwice_r8 : NC := .reg
    (.out [(1, (.slot 1)), (2, (.slot 2)), (6, (.slot 6)), (7, (.slot 7)), (8, (.slot 8)), (9, (.const (.int .i64 0)))])
    [1, 2, 6, 7, 8]
abbrev law20_ExecTwice_r9 : NC := .reg
    (.q 2 .len [(.slot 6)] none
    (.q 3 (.icm .lss) [(.slot 9), (.res 2)] none
    (.out [(1, (.slot 1)), (2, (.slot 2)), (6, (.slot 6)), (7, (.slot 7)), (8, (.slot 8)), (9, (.slot 9)), (34, (.res 3))])))
    [1, 2, 6, 7, 8, 9]
abbrev law20_ExecTwice_r10 : NC := .reg
    (.q 2 (.ixs 23) [(.slot 6), (.slot 9)] none
    (.q 3 (.fld 0) [(.res 2)] none
    (.q 4 (.fld 1) [(.res 3)] none
    (.q 5 .ld [(.res 4)] none
    (.q 8 (.ixs 23) [(.slot 6), (.slot 9)] none
    (.q 9 (.fld 0) [(.res 8)] none
    (.q 10 (.fld 0) [(.res 9)] none
    (.q 11 .ld [(.res 10)] none
    (.q 12 (.ixa 7 1) [(.slot 2), (.res 11)] none
    (.q 13 .ld [(.res 12)] none
    (.q 14 (.icm .leq) [(.res 5), (.res 13)] none
    (.out [(1, (.slot 1)), (2, (.slot 2)), (6, (.slot 6)), (7, (.slot 7)), (8, (.slot 8)), (9, (.slot 9)), (51, (.res 14))]))))))))))))
    [1, 2, 6, 7, 8, 9]
abbrev law20_ExecTwice_r11 : NC := .reg
    (.out [(4, (.const (.bool false)))])
    []
abbrev law20_ExecTwice_r12 : NC := .reg
    (.q 2 (.ixs 23) [(.slot 6), (.slot 9)] none
    (.q 3 (.fld 0) [(.res 2)] none
    (.q 4 (.fld 0) [(.res 3)] none
    (.q 5 .ld [(.res 4)] none
    (.q 8 (.ixs 23) [(.slot 6), (.slot 9)] none
    (.q 9 (.fld 0) [(.res 8)] none
    (.q 10 (.fld 0) [(.res 9)] none
    (.q 11 .ld [(.res 10)] none
    (.q 12 (.ixa 7 1) [(.slot 8), (.res 11)] none
    (.q 13 .ld [(.res 12)] none
    (.q 16 (.ixs 23) [(.slot 6), (.slot 9)] none
    (.q 17 (.fld 0) [(.res 16)] none
    (.q 18 (.fld 1) [(.res 17)] none
    (.q 19 .ld [(.res 18)] none
    (.q 20 .mx [(.res 13), (.res 19)] none
    (.q 21 (.ixa 7 1) [(.slot 8), (.res 5)] none
    (.x 22 (.st 1) [(.res 21), (.res 20)] none []
    (.out [(1, (.slot 1)), (2, (.slot 2)), (6, (.slot 6)), (7, (.slot 7)), (8, (.slot 8)), (9, (.slot 9))]))))))))))))))))))
    [1, 2, 6, 7, 8, 9]
abbrev law20_ExecTwice_r13 : NC := .reg
    (.q 1 (.iar .add) [(.slot 9), (.const (.int .i64 1))] none
    (.out [(1, (.slot 1)), (2, (.slot 2)), (6, (.slot 6)), (7, (.slot 7)), (8, (.slot 8)), (9, (.res 1))]))
    [1, 2, 6, 7, 8, 9]
abbrev law20_ExecTwice_l1 : NC :=
  (.seq (.seq law20_ExecTwice_r9
  (.cond (.slot 34)
    .skip
    (.exit 2)))
  (.seq (.block 3 (.seq (.seq law20_ExecTwice_r10
  (.cond (.slot 51)
    (.seq law20_ExecTwice_r11
    .ret)
    .skip))
  law20_ExecTwice_r12))
  law20_ExecTwice_r13))
abbrev law20_ExecTwice_r14 : NC := .reg
    (.q 0 (.lda 7) [(.slot 8)] none
    (.x 2 (.call 10) [(.res 0), (.slot 1)] none []
    (.q 4 (.ext 0) [(.res 2)] none
    (.q 5 (.ext 1) [(.res 2)] none
    (.out [(7, (.slot 7)), (10, (.res 4)), (11, (.res 5))])))))
    [1, 7, 8]
abbrev law20_ExecTwice_r15 : NC := .reg
    (.q 1 .len [(.slot 10)] none
    (.q 2 (.icm .eql) [(.res 1), (.const (.int .i64 0))] none
    (.q 4 .mv [(.slot 7)] (some ((.res 2), true))
    (.q 5 .mv [(.slot 11)] (some ((.res 2), true))
    (.x 6 (.call 12) [(.res 4), (.res 5)] (some ((.res 2), true)) []
    (.q 7 .pick [(.res 2), (.res 6), (.const (.bool false))] none
    (.x 9 (.call 3) [] (some ((.res 7), true)) []
    (.q 10 .pick [(.res 7), (.res 9), (.const (.bool false))] none
    (.out [(4, (.res 10))])))))))))
    [7, 10, 11]
abbrev law20_ExecTwice_c : NC :=
  (.seq law20_ExecTwice_r0
  (.seq law20_ExecTwice_r1
  (.seq (.seq law20_ExecTwice_r2
  (.block 0 (.loop [1, 2, 5] law20_ExecTwice_l0)))
  (.seq law20_ExecTwice_r6
  (.seq law20_ExecTwice_r7
  (.seq (.seq law20_ExecTwice_r8
  (.block 2 (.loop [1, 2, 6, 7, 8, 9] law20_ExecTwice_l1)))
  (.seq law20_ExecTwice_r14
  (.seq law20_ExecTwice_r15
  .ret))))))))
abbrev law20_ExecTwice_F : FN := ⟨law20_ExecTwice_c, [.slot 4]⟩
theorem law20_ExecTwice_ok : compF Try.prog Try.f7 = some law20_ExecTwice_F := by kernel_rfl
theorem law20_ExecTwice_go {args : List Value} {m : Mem} {R : Value → Mem → Prop} (hn : args.length ≤ Try.f7.ntmps) (h : wpN Try.prog law20_ExecTwice_c (retP law20_ExecTwice_F.rvs R) (zipP 0 args) m) : MC Try.prog 7 args m R := MC_start Try.func7 law20_ExecTwice_ok mixed_ok hn h
/-! concord/concordlaw20.ExecRuns$1 -/
abbrev law20_ExecRuns_c1_r0 : NC := .reg
    (.x 0 (.alc [(.int .i64 0), (.int .i64 0)] 23) [] none []
    (.out [(0, (.slot 0)), (1, (.slot 1)), (4, (.res 0))]))
    [0, 1]
abbrev law20_ExecRuns_c1_r1 : NC := .reg
    (.q 2 (.bld [(.int .i64 0), (.int .i64 0)] [(0, 1), (1, 1)]) [(.slot 0), (.slot 1)] none
    (.x 3 (.st 2) [(.slot 4), (.res 2)] none []
    (.out [(4, (.slot 4))])))
    [0, 1, 4]
abbrev law20_ExecRuns_c1_c : NC :=
  (.seq law20_ExecRuns_c1_r0
  (.seq law20_ExecRuns_c1_r1
  .ret))
abbrev law20_ExecRuns_c1_F : FN := ⟨law20_ExecRuns_c1_c, [.cells 4 2]⟩
theorem law20_ExecRuns_c1_ok : compF Try.prog Try.f9 = some law20_ExecRuns_c1_F := by kernel_rfl
theorem law20_ExecRuns_c1_go {args : List Value} {m : Mem} {R : Value → Mem → Prop} (hn : args.length ≤ Try.f9.ntmps) (h : wpN Try.prog law20_ExecRuns_c1_c (retP law20_ExecRuns_c1_F.rvs R) (zipP 0 args) m) : MC Try.prog 9 args m R := MC_start Try.func9 law20_ExecRuns_c1_ok mixed_ok hn h
/-! concord/concordlaw20.known -/
abbrev law20_known_r0 : NC := .reg
    (.x 0 (.alc [(.int .i64 0), (.int .i64 0), (.int .i64 0), (.int .i64 0), (.int .i64 0), (.int .i64 0), (.int .i64 0), (.int .i64 0), (.int .i64 0), (.int .i64 0), (.string ⟨#[]⟩), (.string ⟨#[]⟩), (.string ⟨#[]⟩), (.string ⟨#[]⟩), (.int .i64 0), (.int .i64 0), (.int .i64 0), (.int .i64 0), (.int .i64 0), (.int .i64 0), (.int .i64 0), (.int .i64 0), (.bool false)] 40) [] none []
    (.out [(0, (.slot 0)), (1, (.slot 1)), (2, (.slot 2)), (3, (.slot 3)), (8, (.res 0))]))
    [0, 1, 2, 3]
abbrev law20_known_r1 : NC := .reg
    (.q 1 (.bld [(.int .i64 0), (.int .i64 0), (.int .i64 0), (.int .i64 0), (.int .i64 0), (.int .i64 0), (.int .i64 0), (.int .i64 0)] [(0, 1)]) [(.slot 2)] none
    (.x 2 (.alc [(.int .i64 0), (.int .i64 0), (.int .i64 0), (.int .i64 0), (.int .i64 0), (.int .i64 0), (.int .i64 0), (.int .i64 0)] 36) [] none []
    (.x 3 (.st 8) [(.res 2), (.res 1)] none []
    (.out [(0, (.slot 0)), (1, (.slot 1)), (3, (.slot 3)), (8, (.slot 8)), (9, (.res 2))]))))
    [0, 1, 2, 3, 8]
abbrev law20_known_r2 : NC := .reg
    (.out [(0, (.slot 0)), (1, (.slot 1)), (3, (.slot 3)), (8, (.slot 8)), (9, (.slot 9)), (10, (.const (.int .i64 0)))])
    [0, 1, 3, 8, 9]
abbrev law20_known_r3 : NC := .reg
    (.q 2 .len [(.slot 3)] none
    (.q 3 (.icm .lss) [(.slot 10), (.res 2)] none
    (.q 5 .mv [(.slot 10)] (some ((.res 3), true))
    (.q 6 (.icm .lss) [(.res 5), (.const (.int .i64 7))] (some ((.res 3), true))
    (.q 7 .pick [(.res 3), (.res 6), (.const (.bool false))] none
    (.out [(0, (.slot 0)), (1, (.slot 1)), (3, (.slot 3)), (8, (.slot 8)), (9, (.slot 9)), (10, (.slot 10)), (20, (.res 7))]))))))
    [0, 1, 3, 8, 9, 10]
abbrev law20_known_r4 : NC := .reg
    (.q 3 (.ixs 1) [(.slot 3), (.slot 10)] none
    (.q 4 .ld [(.res 3)] none
    (.q 5 (.fld 1) [(.slot 9)] none
    (.q 6 (.ixa 7 1) [(.res 5), (.slot 10)] none
    (.x 7 (.st 1) [(.res 6), (.res 4)] none []
    (.out [(0, (.slot 0)), (1, (.slot 1)), (3, (.slot 3)), (8, (.slot 8)), (9, (.slot 9)), (10, (.slot 10))]))))))
    [0, 1, 3, 8, 9, 10]
abbrev law20_known_r5 : NC := .reg
    (.q 1 (.iar .add) [(.slot 10), (.const (.int .i64 1))] none
    (.out [(0, (.slot 0)), (1, (.slot 1)), (3, (.slot 3)), (8, (.slot 8)), (9, (.slot 9)), (10, (.res 1))]))
    [0, 1, 3, 8, 9, 10]
abbrev law20_known_l0 : NC :=
  (.seq (.seq law20_known_r3
  (.cond (.slot 20)
    .skip
    (.exit 0)))
  (.seq (.block 1 law20_known_r4)
  law20_known_r5))
abbrev law20_known_r6 : NC := .reg
    (.q 2 (.bld [(.int .i64 0), (.int .i64 0)] [(0, 1), (1, 1)]) [(.slot 0), (.slot 1)] none
    (.q 3 (.lda 8) [(.slot 9)] none
    (.q 4 (.bld [(.int .i64 0), (.int .i64 0), (.int .i64 0), (.int .i64 0), (.int .i64 0), (.int .i64 0), (.int .i64 0), (.int .i64 0), (.string ⟨#[]⟩), (.string ⟨#[]⟩), (.string ⟨#[]⟩), (.string ⟨#[]⟩), (.int .i64 0), (.int .i64 0), (.int .i64 0), (.int .i64 0), (.int .i64 0), (.int .i64 0), (.int .i64 0), (.int .i64 0), (.bool false)] [(0, 1), (12, 8)]) [(.const (.int .i64 3)), (.res 3)] none
    (.q 5 (.bld [(.int .i64 0), (.int .i64 0), (.int .i64 0), (.int .i64 0), (.int .i64 0), (.int .i64 0), (.int .i64 0), (.int .i64 0), (.int .i64 0), (.int .i64 0), (.string ⟨#[]⟩), (.string ⟨#[]⟩), (.string ⟨#[]⟩), (.string ⟨#[]⟩), (.int .i64 0), (.int .i64 0), (.int .i64 0), (.int .i64 0), (.int .i64 0), (.int .i64 0), (.int .i64 0), (.int .i64 0), (.bool false)] [(0, 2), (2, 21)]) [(.res 2), (.res 4)] none
    (.x 6 (.st 23) [(.slot 8), (.res 5)] none []
    (.out [(8, (.slot 8))]))))))
    [0, 1, 8, 9]
abbrev law20_known_c : NC :=
  (.seq law20_known_r0
  (.seq law20_known_r1
  (.seq (.seq law20_known_r2
  (.block 0 (.loop [0, 1, 3, 8, 9, 10] law20_known_l0)))
  (.seq law20_known_r6
  .ret))))
abbrev law20_known_F : FN := ⟨law20_known_c, [.cells 8 23]⟩
theorem law20_known_ok : compF Try.prog Try.f11 = some law20_known_F := by kernel_rfl
theorem law20_known_go {args : List Value} {m : Mem} {R : Value → Mem → Prop} (hn : args.length ≤ Try.f11.ntmps) (h : wpN Try.prog law20_known_c (retP law20_known_F.rvs R) (zipP 0 args) m) : MC Try.prog 11 args m R := MC_start Try.func11 law20_known_ok mixed_ok hn h
/-! concord/concordbook.Same[concord/api.Inst] -/
abbrev book_Same_api_Inst_r0 : NC := .reg
    (.out [(0, (.slot 0)), (1, (.slot 1))])
    [0, 1]
abbrev book_Same_api_Inst_r1 : NC := .reg
    (.q 1 .len [(.slot 0)] none
    (.q 3 .len [(.slot 1)] none
    (.q 4 (.icm .neq) [(.res 1), (.res 3)] none
    (.out [(0, (.slot 0)), (1, (.slot 1)), (10, (.res 4))]))))
    [0, 1]
abbrev book_Same_api_Inst_r2 : NC := .reg
    (.out [(4, (.const (.bool false)))])
    []
abbrev book_Same_api_Inst_r3 : NC := .reg
    (.out [(0, (.slot 0)), (1, (.slot 1)), (5, (.const (.int .i64 0)))])
    [0, 1]
abbrev book_Same_api_Inst_r4 : NC := .reg
    (.q 2 .len [(.slot 0)] none
    (.q 3 (.icm .lss) [(.slot 5), (.res 2)] none
    (.out [(0, (.slot 0)), (1, (.slot 1)), (5, (.slot 5)), (14, (.res 3))])))
    [0, 1, 5]
abbrev book_Same_api_Inst_r5 : NC := .reg
    (.q 2 (.ixs 2) [(.slot 0), (.slot 5)] none
    (.q 3 (.lda 2) [(.res 2)] none
    (.q 6 (.ixs 2) [(.slot 1), (.slot 5)] none
    (.q 7 (.lda 2) [(.res 6)] none
    (.q 8 (.eqc true [(.i .i64), (.i .i64)]) [(.res 3), (.res 7)] none
    (.out [(0, (.slot 0)), (1, (.slot 1)), (5, (.slot 5)), (25, (.res 8))]))))))
    [0, 1, 5]
abbrev book_Same_api_Inst_r6 : NC := .reg
    (.out [(4, (.const (.bool false)))])
    []
abbrev book_Same_api_Inst_r7 : NC := .reg
    (.q 1 (.iar .add) [(.slot 5), (.const (.int .i64 1))] none
    (.out [(0, (.slot 0)), (1, (.slot 1)), (5, (.res 1))]))
    [0, 1, 5]
abbrev book_Same_api_Inst_l0 : NC :=
  (.seq (.seq book_Same_api_Inst_r4
  (.cond (.slot 14)
    .skip
    (.exit 0)))
  (.seq (.block 1 (.seq book_Same_api_Inst_r5
  (.cond (.slot 25)
    (.seq book_Same_api_Inst_r6
    .ret)
    .skip)))
  book_Same_api_Inst_r7))
abbrev book_Same_api_Inst_r8 : NC := .reg
    (.out [(4, (.const (.bool true)))])
    []
abbrev book_Same_api_Inst_c : NC :=
  (.seq book_Same_api_Inst_r0
  (.seq (.seq book_Same_api_Inst_r1
  (.cond (.slot 10)
    (.seq book_Same_api_Inst_r2
    .ret)
    .skip))
  (.seq (.seq book_Same_api_Inst_r3
  (.block 0 (.loop [0, 1, 5] book_Same_api_Inst_l0)))
  (.seq book_Same_api_Inst_r8
  .ret))))
abbrev book_Same_api_Inst_F : FN := ⟨book_Same_api_Inst_c, [.slot 4]⟩
theorem book_Same_api_Inst_ok : compF Try.prog Try.f12 = some book_Same_api_Inst_F := by kernel_rfl
theorem book_Same_api_Inst_go {args : List Value} {m : Mem} {R : Value → Mem → Prop} (hn : args.length ≤ Try.f12.ntmps) (h : wpN Try.prog book_Same_api_Inst_c (retP book_Same_api_Inst_F.rvs R) (zipP 0 args) m) : MC Try.prog 12 args m R := MC_start Try.func12 book_Same_api_Inst_ok mixed_ok hn h
/-! concord/concordlaw20.ids -/
abbrev law20_ids_r0 : NC := .reg
    (.out [(0, (.slot 0))])
    [0]
abbrev law20_ids_r1 : NC := .reg
    (.out [(0, (.slot 0)), (3, (.const (.slice none 0 0)))])
    [0]
abbrev law20_ids_r2 : NC := .reg
    (.out [(0, (.slot 0)), (3, (.slot 3)), (4, (.const (.int .i64 0)))])
    [0, 3]
abbrev law20_ids_r3 : NC := .reg
    (.q 2 .len [(.slot 0)] none
    (.q 3 (.icm .lss) [(.slot 4), (.res 2)] none
    (.out [(0, (.slot 0)), (3, (.slot 3)), (4, (.slot 4)), (8, (.res 3))])))
    [0, 3, 4]
abbrev law20_ids_r4 : NC := .reg
    (.q 3 (.ixs 23) [(.slot 0), (.slot 4)] none
    (.q 4 (.fld 0) [(.res 3)] none
    (.q 5 (.lda 2) [(.res 4)] none
    (.x 6 (.bsl 23 1 [(.int .i64 0), (.int .i64 0)] [(0, 2)]) [(.res 5)] none []
    (.x 7 (.app 23 2 16 [(.int .i64 0), (.int .i64 0)]) [(.slot 3), (.res 6)] none []
    (.out [(0, (.slot 0)), (3, (.res 7)), (4, (.slot 4))]))))))
    [0, 3, 4]
abbrev law20_ids_r5 : NC := .reg
    (.q 1 (.iar .add) [(.slot 4), (.const (.int .i64 1))] none
    (.out [(0, (.slot 0)), (3, (.slot 3)), (4, (.res 1))]))
    [0, 3, 4]
abbrev law20_ids_l0 : NC :=
  (.seq (.seq law20_ids_r3
  (.cond (.slot 8)
    .skip
    (.exit 0)))
  (.seq (.block 1 law20_ids_r4)
  law20_ids_r5))
abbrev law20_ids_r6 : NC := .reg
    (.out [(2, (.slot 3))])
    [3]
abbrev law20_ids_c : NC :=
  (.seq law20_ids_r0
  (.seq law20_ids_r1
  (.seq (.seq law20_ids_r2
  (.block 0 (.loop [0, 3, 4] law20_ids_l0)))
  (.seq law20_ids_r6
  .ret))))
abbrev law20_ids_F : FN := ⟨law20_ids_c, [.slot 2]⟩
theorem law20_ids_ok : compF Try.prog Try.f13 = some law20_ids_F := by kernel_rfl
theorem law20_ids_go {args : List Value} {m : Mem} {R : Value → Mem → Prop} (hn : args.length ≤ Try.f13.ntmps) (h : wpN Try.prog law20_ids_c (retP law20_ids_F.rvs R) (zipP 0 args) m) : MC Try.prog 13 args m R := MC_start Try.func13 law20_ids_ok mixed_ok hn h
/-! concord/concordlaw20.few -/
abbrev law20_few_r0 : NC := .reg
    (.out [(0, (.slot 0)), (1, (.slot 1))])
    [0, 1]
abbrev law20_few_r1 : NC := .reg
    (.out [(0, (.slot 0)), (1, (.slot 1)), (5, (.const (.slice none 0 0)))])
    [0, 1]
abbrev law20_few_r2 : NC := .reg
    (.out [(0, (.slot 0)), (1, (.slot 1)), (5, (.slot 5)), (6, (.const (.int .i64 0)))])
    [0, 1, 5]
abbrev law20_few_r3 : NC := .reg
    (.q 2 .len [(.slot 0)] none
    (.q 3 (.icm .lss) [(.slot 6), (.res 2)] none
    (.q 5 .mv [(.slot 6)] (some ((.res 3), true))
    (.q 6 .mv [(.slot 1)] (some ((.res 3), true))
    (.q 7 (.icm .lss) [(.res 5), (.res 6)] (some ((.res 3), true))
    (.q 8 .pick [(.res 3), (.res 7), (.const (.bool false))] none
    (.out [(0, (.slot 0)), (1, (.slot 1)), (5, (.slot 5)), (6, (.slot 6)), (17, (.res 8))])))))))
    [0, 1, 5, 6]
abbrev law20_few_r4 : NC := .reg
    (.q 2 (.ixs 23) [(.slot 0), (.slot 6)] none
    (.q 3 (.lda 23) [(.res 2)] none
    (.x 4 (.alc [(.int .i64 0), (.int .i64 0), (.int .i64 0), (.int .i64 0), (.int .i64 0), (.int .i64 0), (.int .i64 0), (.int .i64 0), (.int .i64 0), (.int .i64 0), (.string ⟨#[]⟩), (.string ⟨#[]⟩), (.string ⟨#[]⟩), (.string ⟨#[]⟩), (.int .i64 0), (.int .i64 0), (.int .i64 0), (.int .i64 0), (.int .i64 0), (.int .i64 0), (.int .i64 0), (.int .i64 0), (.bool false)] 40) [] none []
    (.x 5 (.st 23) [(.res 4), (.res 3)] none []
    (.out [(0, (.slot 0)), (1, (.slot 1)), (5, (.slot 5)), (6, (.slot 6)), (7, (.res 4))])))))
    [0, 1, 5, 6]
abbrev law20_few_r5 : NC := .reg
    (.q 0 (.fld 0) [(.slot 7)] none
    (.q 1 (.fld 0) [(.res 0)] none
    (.q 2 .ld [(.res 1)] none
    (.q 4 (.fld 0) [(.slot 7)] none
    (.q 5 (.fld 1) [(.res 4)] none
    (.q 6 .ld [(.res 5)] none
    (.x 3 (.call 15) [(.res 2), (.const (.int .i64 0)), (.const (.int .i64 3))] none [(6, .ld, [(.res 5)], none)]
    (.q 8 (.fld 0) [(.slot 7)] none
    (.q 9 (.fld 0) [(.res 8)] none
    (.x 7 (.call 15) [(.res 6), (.const (.int .i64 1)), (.const (.int .i64 8))] none []
    (.x 10 (.st 1) [(.res 9), (.res 3)] none []
    (.q 11 (.fld 0) [(.slot 7)] none
    (.q 12 (.fld 1) [(.res 11)] none
    (.x 13 (.st 1) [(.res 12), (.res 7)] none []
    (.out [(0, (.slot 0)), (1, (.slot 1)), (5, (.slot 5)), (6, (.slot 6)), (7, (.slot 7))])))))))))))))))
    [0, 1, 5, 6, 7]
abbrev law20_few_r6 : NC := .reg
    (.out [(0, (.slot 0)), (1, (.slot 1)), (5, (.slot 5)), (6, (.slot 6)), (7, (.slot 7)), (8, (.const (.int .i64 0)))])
    [0, 1, 5, 6, 7]
abbrev law20_few_r7 : NC := .reg
    (.q 1 (.icm .lss) [(.slot 8), (.const (.int .i64 7))] none
    (.out [(0, (.slot 0)), (1, (.slot 1)), (5, (.slot 5)), (6, (.slot 6)), (7, (.slot 7)), (8, (.slot 8)), (37, (.res 1))]))
    [0, 1, 5, 6, 7, 8]
abbrev law20_few_r8 : NC := .reg
    (.q 2 (.fld 2) [(.slot 7)] none
    (.q 3 (.fld 12) [(.res 2)] none
    (.q 4 (.fld 1) [(.res 3)] none
    (.q 5 (.ixa 7 1) [(.res 4), (.slot 8)] none
    (.q 6 .ld [(.res 5)] none
    (.x 7 (.call 15) [(.res 6), (.const (.int .i64 0)), (.const (.int .i64 9))] none []
    (.q 8 (.fld 2) [(.slot 7)] none
    (.q 9 (.fld 12) [(.res 8)] none
    (.q 10 (.fld 1) [(.res 9)] none
    (.q 11 (.ixa 7 1) [(.res 10), (.slot 8)] none
    (.x 12 (.st 1) [(.res 11), (.res 7)] none []
    (.out [(0, (.slot 0)), (1, (.slot 1)), (5, (.slot 5)), (6, (.slot 6)), (7, (.slot 7)), (8, (.slot 8))]))))))))))))
    [0, 1, 5, 6, 7, 8]
abbrev law20_few_r9 : NC := .reg
    (.q 1 (.icm .gtr) [(.slot 8), (.const (.int .i64 3))] none
    (.out [(0, (.slot 0)), (1, (.slot 1)), (5, (.slot 5)), (6, (.slot 6)), (7, (.slot 7)), (8, (.slot 8)), (53, (.res 1))]))
    [0, 1, 5, 6, 7, 8]
abbrev law20_few_r10 : NC := .reg
    (.q 1 (.fld 2) [(.slot 7)] none
    (.q 2 (.fld 12) [(.res 1)] none
    (.q 3 (.fld 1) [(.res 2)] none
    (.q 4 (.ixa 7 1) [(.res 3), (.slot 8)] none
    (.x 5 (.st 1) [(.res 4), (.const (.int .i64 0))] none []
    (.out [(0, (.slot 0)), (1, (.slot 1)), (5, (.slot 5)), (6, (.slot 6)), (7, (.slot 7)), (8, (.slot 8))]))))))
    [0, 1, 5, 6, 7, 8]
abbrev law20_few_r11 : NC := .reg
    (.q 1 (.iar .add) [(.slot 8), (.const (.int .i64 1))] none
    (.out [(0, (.slot 0)), (1, (.slot 1)), (5, (.slot 5)), (6, (.slot 6)), (7, (.slot 7)), (8, (.res 1))]))
    [0, 1, 5, 6, 7, 8]
abbrev law20_few_l0 : NC :=
  (.seq (.seq law20_few_r7
  (.cond (.slot 37)
    .skip
    (.exit 2)))
  (.seq (.block 3 (.seq law20_few_r8
  (.seq law20_few_r9
  (.cond (.slot 53)
    law20_few_r10
    .skip))))
  law20_few_r11))
abbrev law20_few_r12 : NC := .reg
    (.q 1 (.lda 23) [(.slot 7)] none
    (.x 2 (.bsl 40 1 [(.int .i64 0), (.int .i64 0), (.int .i64 0), (.int .i64 0), (.int .i64 0), (.int .i64 0), (.int .i64 0), (.int .i64 0), (.int .i64 0), (.int .i64 0), (.string ⟨#[]⟩), (.string ⟨#[]⟩), (.string ⟨#[]⟩), (.string ⟨#[]⟩), (.int .i64 0), (.int .i64 0), (.int .i64 0), (.int .i64 0), (.int .i64 0), (.int .i64 0), (.int .i64 0), (.int .i64 0), (.bool false)] [(0, 23)]) [(.res 1)] none []
    (.x 3 (.app 40 23 216 [(.int .i64 0), (.int .i64 0), (.int .i64 0), (.int .i64 0), (.int .i64 0), (.int .i64 0), (.int .i64 0), (.int .i64 0), (.int .i64 0), (.int .i64 0), (.string ⟨#[]⟩), (.string ⟨#[]⟩), (.string ⟨#[]⟩), (.string ⟨#[]⟩), (.int .i64 0), (.int .i64 0), (.int .i64 0), (.int .i64 0), (.int .i64 0), (.int .i64 0), (.int .i64 0), (.int .i64 0), (.bool false)]) [(.slot 5), (.res 2)] none []
    (.out [(0, (.slot 0)), (1, (.slot 1)), (5, (.res 3)), (6, (.slot 6))]))))
    [0, 1, 5, 6, 7]
abbrev law20_few_r13 : NC := .reg
    (.q 1 (.iar .add) [(.slot 6), (.const (.int .i64 1))] none
    (.out [(0, (.slot 0)), (1, (.slot 1)), (5, (.slot 5)), (6, (.res 1))]))
    [0, 1, 5, 6]
abbrev law20_few_l1 : NC :=
  (.seq (.seq law20_few_r3
  (.cond (.slot 17)
    .skip
    (.exit 0)))
  (.seq (.block 1 (.seq law20_few_r4
  (.seq law20_few_r5
  (.seq (.seq law20_few_r6
  (.block 2 (.loop [0, 1, 5, 6, 7, 8] law20_few_l0)))
  law20_few_r12))))
  law20_few_r13))
abbrev law20_few_r14 : NC := .reg
    (.out [(4, (.slot 5))])
    [5]
abbrev law20_few_c : NC :=
  (.seq law20_few_r0
  (.seq law20_few_r1
  (.seq (.seq law20_few_r2
  (.block 0 (.loop [0, 1, 5, 6] law20_few_l1)))
  (.seq law20_few_r14
  .ret))))
abbrev law20_few_F : FN := ⟨law20_few_c, [.slot 4]⟩
theorem law20_few_ok : compF Try.prog Try.f14 = some law20_few_F := by kernel_rfl
theorem law20_few_go {args : List Value} {m : Mem} {R : Value → Mem → Prop} (hn : args.length ≤ Try.f14.ntmps) (h : wpN Try.prog law20_few_c (retP law20_few_F.rvs R) (zipP 0 args) m) : MC Try.prog 14 args m R := MC_start Try.func14 law20_few_ok mixed_ok hn h
/-! concord/concordbook.Within -/
abbrev book_Within_r0 : NC := .reg
    (.out [(0, (.slot 0)), (1, (.slot 1)), (2, (.slot 2))])
    [0, 1, 2]
abbrev book_Within_r1 : NC := .reg
    (.q 3 (.iar .sub) [(.slot 2), (.slot 1)] none
    (.q 4 (.iar .add) [(.res 3), (.const (.int .i64 1))] none
    (.q 5 (.idv .rem) [(.slot 0), (.res 4)] none
    (.out [(0, (.res 5)), (1, (.slot 1)), (2, (.slot 2))]))))
    [0, 1, 2]
abbrev book_Within_r2 : NC := .reg
    (.q 1 (.icm .lss) [(.slot 0), (.const (.int .i64 0))] none
    (.out [(0, (.slot 0)), (1, (.slot 1)), (2, (.slot 2)), (14, (.res 1))]))
    [0, 1, 2]
abbrev book_Within_r3 : NC := .reg
    (.q 2 (.iar .add) [(.slot 0), (.slot 2)] none
    (.q 4 (.iar .sub) [(.res 2), (.slot 1)] none
    (.q 5 (.iar .add) [(.res 4), (.const (.int .i64 1))] none
    (.out [(0, (.res 5)), (1, (.slot 1))]))))
    [0, 1, 2]
abbrev book_Within_r4 : NC := .reg
    (.q 2 (.iar .add) [(.slot 1), (.slot 0)] none
    (.out [(6, (.res 2))]))
    [0, 1]
abbrev book_Within_c : NC :=
  (.seq book_Within_r0
  (.seq book_Within_r1
  (.seq (.seq book_Within_r2
  (.cond (.slot 14)
    book_Within_r3
    .skip))
  (.seq book_Within_r4
  .ret))))
abbrev book_Within_F : FN := ⟨book_Within_c, [.slot 6]⟩
theorem book_Within_ok : compF Try.prog Try.f15 = some book_Within_F := by kernel_rfl
theorem book_Within_go {args : List Value} {m : Mem} {R : Value → Mem → Prop} (hn : args.length ≤ Try.f15.ntmps) (h : wpN Try.prog book_Within_c (retP book_Within_F.rvs R) (zipP 0 args) m) : MC Try.prog 15 args m R := MC_start Try.func15 book_Within_ok mixed_ok hn h
/-! concord/concordbook.Roomy[concord/exec.Known] -/
abbrev book_Roomy_exec_Known_r0 : NC := .reg
    (.x 0 (.box 40) [(.slot 1)] none []
    (.out [(0, (.slot 0)), (3, (.res 0))]))
    [0, 1]
abbrev book_Roomy_exec_Known_r1 : NC := .reg
    (.q 1 .len [(.slot 0)] none
    (.q 2 (.iar .add) [(.res 1), (.const (.int .i64 80))] none
    (.x 3 (.mks 40 216 [(.int .i64 0), (.int .i64 0), (.int .i64 0), (.int .i64 0), (.int .i64 0), (.int .i64 0), (.int .i64 0), (.int .i64 0), (.int .i64 0), (.int .i64 0), (.string ⟨#[]⟩), (.string ⟨#[]⟩), (.string ⟨#[]⟩), (.string ⟨#[]⟩), (.int .i64 0), (.int .i64 0), (.int .i64 0), (.int .i64 0), (.int .i64 0), (.int .i64 0), (.int .i64 0), (.int .i64 0), (.bool false)]) [(.res 2), (.res 2)] none []
    (.out [(0, (.slot 0)), (3, (.slot 3)), (5, (.res 3))]))))
    [0, 3]
abbrev book_Roomy_exec_Known_r2 : NC := .reg
    (.x 2 (.cpy 23) [(.slot 5), (.slot 0)] none []
    (.out [(0, (.slot 0)), (3, (.slot 3)), (5, (.slot 5))]))
    [0, 3, 5]
abbrev book_Roomy_exec_Known_r3 : NC := .reg
    (.q 1 .len [(.slot 0)] none
    (.out [(3, (.slot 3)), (5, (.slot 5)), (6, (.res 1))]))
    [0, 3, 5]
abbrev book_Roomy_exec_Known_r4 : NC := .reg
    (.q 2 .len [(.slot 5)] none
    (.q 3 (.icm .lss) [(.slot 6), (.res 2)] none
    (.out [(3, (.slot 3)), (5, (.slot 5)), (6, (.slot 6)), (19, (.res 3))])))
    [3, 5, 6]
abbrev book_Roomy_exec_Known_r5 : NC := .reg
    (.q 2 (.lda 23) [(.slot 3)] none
    (.q 3 (.ixs 23) [(.slot 5), (.slot 6)] none
    (.x 4 (.st 23) [(.res 3), (.res 2)] none []
    (.out [(3, (.slot 3)), (5, (.slot 5)), (6, (.slot 6))]))))
    [3, 5, 6]
abbrev book_Roomy_exec_Known_r6 : NC := .reg
    (.q 1 (.iar .add) [(.slot 6), (.const (.int .i64 1))] none
    (.out [(3, (.slot 3)), (5, (.slot 5)), (6, (.res 1))]))
    [3, 5, 6]
abbrev book_Roomy_exec_Known_l0 : NC :=
  (.seq (.seq book_Roomy_exec_Known_r4
  (.cond (.slot 19)
    .skip
    (.exit 0)))
  (.seq (.block 1 book_Roomy_exec_Known_r5)
  book_Roomy_exec_Known_r6))
abbrev book_Roomy_exec_Known_r7 : NC := .reg
    (.out [(4, (.slot 5))])
    [5]
abbrev book_Roomy_exec_Known_c : NC :=
  (.seq book_Roomy_exec_Known_r0
  (.seq book_Roomy_exec_Known_r1
  (.seq book_Roomy_exec_Known_r2
  (.seq (.seq book_Roomy_exec_Known_r3
  (.block 0 (.loop [3, 5, 6] book_Roomy_exec_Known_l0)))
  (.seq book_Roomy_exec_Known_r7
  .ret)))))
abbrev book_Roomy_exec_Known_F : FN := ⟨book_Roomy_exec_Known_c, [.slot 4]⟩
theorem book_Roomy_exec_Known_ok : compF Try.prog Try.f16 = some book_Roomy_exec_Known_F := by kernel_rfl
theorem book_Roomy_exec_Known_go {args : List Value} {m : Mem} {R : Value → Mem → Prop} (hn : args.length ≤ Try.f16.ntmps) (h : wpN Try.prog book_Roomy_exec_Known_c (retP book_Roomy_exec_Known_F.rvs R) (zipP 0 args) m) : MC Try.prog 16 args m R := MC_start Try.func16 book_Roomy_exec_Known_ok mixed_ok hn h
/-! concord/concordlaw20.row -/
abbrev law20_row_r0 : NC := .reg
    (.out [(0, (.slot 0))])
    [0]
abbrev law20_row_r1 : NC := .reg
    (.out [(0, (.slot 0)), (3, (.const (.slice none 0 0)))])
    [0]
abbrev law20_row_r2 : NC := .reg
    (.out [(0, (.slot 0)), (3, (.slot 3)), (4, (.const (.int .i64 0)))])
    [0, 3]
abbrev law20_row_r3 : NC := .reg
    (.q 2 .len [(.slot 0)] none
    (.q 3 (.icm .lss) [(.slot 4), (.res 2)] none
    (.out [(0, (.slot 0)), (3, (.slot 3)), (4, (.slot 4)), (8, (.res 3))])))
    [0, 3, 4]
abbrev law20_row_r4 : NC := .reg
    (.q 3 (.ixs 23) [(.slot 0), (.slot 4)] none
    (.q 4 (.fld 0) [(.res 3)] none
    (.q 5 (.lda 2) [(.res 4)] none
    (.q 8 (.ixs 23) [(.slot 0), (.slot 4)] none
    (.q 9 (.fld 2) [(.res 8)] none
    (.q 10 (.lda 21) [(.res 9)] none
    (.q 11 (.bld [(.int .i64 0), (.int .i64 0), (.int .i64 0), (.int .i64 0), (.int .i64 0), (.int .i64 0), (.int .i64 0), (.int .i64 0), (.int .i64 0), (.int .i64 0), (.string ⟨#[]⟩), (.string ⟨#[]⟩), (.string ⟨#[]⟩), (.string ⟨#[]⟩), (.int .i64 0), (.int .i64 0), (.int .i64 0), (.int .i64 0), (.int .i64 0), (.int .i64 0), (.int .i64 0), (.int .i64 0), (.bool false)] [(0, 2), (2, 21)]) [(.res 5), (.res 10)] none
    (.x 12 (.bsl 52 1 [(.int .i64 0), (.int .i64 0), (.int .i64 0), (.int .i64 0), (.int .i64 0), (.int .i64 0), (.int .i64 0), (.int .i64 0), (.int .i64 0), (.int .i64 0), (.string ⟨#[]⟩), (.string ⟨#[]⟩), (.string ⟨#[]⟩), (.string ⟨#[]⟩), (.int .i64 0), (.int .i64 0), (.int .i64 0), (.int .i64 0), (.int .i64 0), (.int .i64 0), (.int .i64 0), (.int .i64 0), (.bool false)] [(0, 23)]) [(.res 11)] none []
    (.x 13 (.app 52 23 216 [(.int .i64 0), (.int .i64 0), (.int .i64 0), (.int .i64 0), (.int .i64 0), (.int .i64 0), (.int .i64 0), (.int .i64 0), (.int .i64 0), (.int .i64 0), (.string ⟨#[]⟩), (.string ⟨#[]⟩), (.string ⟨#[]⟩), (.string ⟨#[]⟩), (.int .i64 0), (.int .i64 0), (.int .i64 0), (.int .i64 0), (.int .i64 0), (.int .i64 0), (.int .i64 0), (.int .i64 0), (.bool false)]) [(.slot 3), (.res 12)] none []
    (.out [(0, (.slot 0)), (3, (.res 13)), (4, (.slot 4))]))))))))))
    [0, 3, 4]
abbrev law20_row_r5 : NC := .reg
    (.q 1 (.iar .add) [(.slot 4), (.const (.int .i64 1))] none
    (.out [(0, (.slot 0)), (3, (.slot 3)), (4, (.res 1))]))
    [0, 3, 4]
abbrev law20_row_l0 : NC :=
  (.seq (.seq law20_row_r3
  (.cond (.slot 8)
    .skip
    (.exit 0)))
  (.seq (.block 1 law20_row_r4)
  law20_row_r5))
abbrev law20_row_r6 : NC := .reg
    (.out [(2, (.slot 3))])
    [3]
abbrev law20_row_c : NC :=
  (.seq law20_row_r0
  (.seq law20_row_r1
  (.seq (.seq law20_row_r2
  (.block 0 (.loop [0, 3, 4] law20_row_l0)))
  (.seq law20_row_r6
  .ret))))
abbrev law20_row_F : FN := ⟨law20_row_c, [.slot 2]⟩
theorem law20_row_ok : compF Try.prog Try.f18 = some law20_row_F := by kernel_rfl
theorem law20_row_go {args : List Value} {m : Mem} {R : Value → Mem → Prop} (hn : args.length ≤ Try.f18.ntmps) (h : wpN Try.prog law20_row_c (retP law20_row_F.rvs R) (zipP 0 args) m) : MC Try.prog 18 args m R := MC_start Try.func18 law20_row_ok mixed_ok hn h
/-! concord/concordbook.Intact[concord/exec.Known] -/
abbrev book_Intact_exec_Known_r0 : NC := .reg
    (.x 0 (.box 40) [(.slot 2)] none []
    (.out [(0, (.slot 0)), (1, (.slot 1)), (5, (.res 0))]))
    [0, 1, 2]
abbrev book_Intact_exec_Known_r1 : NC := .reg
    (.q 1 .len [(.slot 0)] none
    (.q 3 .len [(.slot 1)] none
    (.q 4 (.iar .add) [(.res 3), (.const (.int .i64 80))] none
    (.q 5 (.icm .neq) [(.res 1), (.res 4)] none
    (.q 7 .mv [(.slot 0)] (some ((.res 5), false))
    (.q 8 .mv [(.slot 1)] (some ((.res 5), false))
    (.q 9 .len [(.res 8)] (some ((.res 5), false))
    (.q 10 (.slc 23 false true) [(.res 7), (.res 9)] (some ((.res 5), false))
    (.q 11 .mv [(.slot 1)] (some ((.res 5), false))
    (.x 12 (.call 30) [(.res 10), (.res 11)] (some ((.res 5), false)) []
    (.q 13 .not [(.res 12)] (some ((.res 5), false))
    (.q 14 .pick [(.res 5), (.const (.bool true)), (.res 13)] none
    (.out [(0, (.slot 0)), (1, (.slot 1)), (5, (.slot 5)), (22, (.res 14))])))))))))))))
    [0, 1, 5]
abbrev book_Intact_exec_Known_r2 : NC := .reg
    (.out [(6, (.const (.bool false)))])
    []
abbrev book_Intact_exec_Known_r3 : NC := .reg
    (.q 1 .len [(.slot 1)] none
    (.out [(0, (.slot 0)), (5, (.slot 5)), (7, (.res 1))]))
    [0, 1, 5]
abbrev book_Intact_exec_Known_r4 : NC := .reg
    (.q 2 .len [(.slot 0)] none
    (.q 3 (.icm .lss) [(.slot 7), (.res 2)] none
    (.out [(0, (.slot 0)), (5, (.slot 5)), (7, (.slot 7)), (28, (.res 3))])))
    [0, 5, 7]
abbrev book_Intact_exec_Known_r5 : NC := .reg
    (.q 2 (.ixs 23) [(.slot 0), (.slot 7)] none
    (.q 3 (.lda 23) [(.res 2)] none
    (.q 4 (.lda 23) [(.slot 5)] none
    (.q 5 (.eqc true [(.i .i64), (.i .i64), (.i .i64), (.i .i64), (.i .i64), (.i .i64), (.i .i64), (.i .i64), (.i .i64), (.i .i64), .s, .s, .s, .s, (.i .i64), (.i .i64), (.i .i64), (.i .i64), (.i .i64), (.i .i64), (.i .i64), (.i .i64), .b]) [(.res 3), (.res 4)] none
    (.out [(0, (.slot 0)), (5, (.slot 5)), (7, (.slot 7)), (36, (.res 5))])))))
    [0, 5, 7]
abbrev book_Intact_exec_Known_r6 : NC := .reg
    (.out [(6, (.const (.bool false)))])
    []
abbrev book_Intact_exec_Known_r7 : NC := .reg
    (.q 1 (.iar .add) [(.slot 7), (.const (.int .i64 1))] none
    (.out [(0, (.slot 0)), (5, (.slot 5)), (7, (.res 1))]))
    [0, 5, 7]
abbrev book_Intact_exec_Known_l0 : NC :=
  (.seq (.seq book_Intact_exec_Known_r4
  (.cond (.slot 28)
    .skip
    (.exit 0)))
  (.seq (.block 1 (.seq book_Intact_exec_Known_r5
  (.cond (.slot 36)
    (.seq book_Intact_exec_Known_r6
    .ret)
    .skip)))
  book_Intact_exec_Known_r7))
abbrev book_Intact_exec_Known_r8 : NC := .reg
    (.out [(6, (.const (.bool true)))])
    []
abbrev book_Intact_exec_Known_c : NC :=
  (.seq book_Intact_exec_Known_r0
  (.seq (.seq book_Intact_exec_Known_r1
  (.cond (.slot 22)
    (.seq book_Intact_exec_Known_r2
    .ret)
    .skip))
  (.seq (.seq book_Intact_exec_Known_r3
  (.block 0 (.loop [0, 5, 7] book_Intact_exec_Known_l0)))
  (.seq book_Intact_exec_Known_r8
  .ret))))
abbrev book_Intact_exec_Known_F : FN := ⟨book_Intact_exec_Known_c, [.slot 6]⟩
theorem book_Intact_exec_Known_ok : compF Try.prog Try.f19 = some book_Intact_exec_Known_F := by kernel_rfl
theorem book_Intact_exec_Known_go {args : List Value} {m : Mem} {R : Value → Mem → Prop} (hn : args.length ≤ Try.f19.ntmps) (h : wpN Try.prog book_Intact_exec_Known_c (retP book_Intact_exec_Known_F.rvs R) (zipP 0 args) m) : MC Try.prog 19 args m R := MC_start Try.func19 book_Intact_exec_Known_ok mixed_ok hn h
/-! concord/concordlaw20.place -/
abbrev law20_place_r0 : NC := .reg
    (.x 0 (.box 23) [(.slot 1)] none []
    (.out [(0, (.slot 0)), (3, (.res 0))]))
    [0, 1]
abbrev law20_place_r1 : NC := .reg
    (.out [(0, (.slot 0)), (3, (.slot 3)), (5, (.const (.int .i64 0)))])
    [0, 3]
abbrev law20_place_r2 : NC := .reg
    (.q 2 .len [(.slot 0)] none
    (.q 3 (.icm .lss) [(.slot 5), (.res 2)] none
    (.out [(0, (.slot 0)), (3, (.slot 3)), (5, (.slot 5)), (9, (.res 3))])))
    [0, 3, 5]
abbrev law20_place_r3 : NC := .reg
    (.q 2 (.ixs 2) [(.slot 0), (.slot 5)] none
    (.q 3 (.lda 2) [(.res 2)] none
    (.q 4 (.lda 2) [(.slot 3)] none
    (.q 5 (.eqc false [(.i .i64), (.i .i64)]) [(.res 3), (.res 4)] none
    (.out [(0, (.slot 0)), (3, (.slot 3)), (5, (.slot 5)), (17, (.res 5))])))))
    [0, 3, 5]
abbrev law20_place_r4 : NC := .reg
    (.out [(4, (.slot 5))])
    [5]
abbrev law20_place_r5 : NC := .reg
    (.q 1 (.iar .add) [(.slot 5), (.const (.int .i64 1))] none
    (.out [(0, (.slot 0)), (3, (.slot 3)), (5, (.res 1))]))
    [0, 3, 5]
abbrev law20_place_l0 : NC :=
  (.seq (.seq law20_place_r2
  (.cond (.slot 9)
    .skip
    (.exit 0)))
  (.seq (.block 1 (.seq law20_place_r3
  (.cond (.slot 17)
    (.seq law20_place_r4
    .ret)
    .skip)))
  law20_place_r5))
abbrev law20_place_r6 : NC := .reg
    (.out [(4, (.const (.int .i64 (-1))))])
    []
abbrev law20_place_c : NC :=
  (.seq law20_place_r0
  (.seq (.seq law20_place_r1
  (.block 0 (.loop [0, 3, 5] law20_place_l0)))
  (.seq law20_place_r6
  .ret)))
abbrev law20_place_F : FN := ⟨law20_place_c, [.slot 4]⟩
theorem law20_place_ok : compF Try.prog Try.f20 = some law20_place_F := by kernel_rfl
theorem law20_place_go {args : List Value} {m : Mem} {R : Value → Mem → Prop} (hn : args.length ≤ Try.f20.ntmps) (h : wpN Try.prog law20_place_c (retP law20_place_F.rvs R) (zipP 0 args) m) : MC Try.prog 20 args m R := MC_start Try.func20 law20_place_ok mixed_ok hn h
/-! concord/concordbook.Same[concord/exec.Known] -/
abbrev book_Same_exec_Known_r0 : NC := .reg
    (.out [(0, (.slot 0)), (1, (.slot 1))])
    [0, 1]
abbrev book_Same_exec_Known_r1 : NC := .reg
    (.q 1 .len [(.slot 0)] none
    (.q 3 .len [(.slot 1)] none
    (.q 4 (.icm .neq) [(.res 1), (.res 3)] none
    (.out [(0, (.slot 0)), (1, (.slot 1)), (10, (.res 4))]))))
    [0, 1]
abbrev book_Same_exec_Known_r2 : NC := .reg
    (.out [(4, (.const (.bool false)))])
    []
abbrev book_Same_exec_Known_r3 : NC := .reg
    (.out [(0, (.slot 0)), (1, (.slot 1)), (5, (.const (.int .i64 0)))])
    [0, 1]
abbrev book_Same_exec_Known_r4 : NC := .reg
    (.q 2 .len [(.slot 0)] none
    (.q 3 (.icm .lss) [(.slot 5), (.res 2)] none
    (.out [(0, (.slot 0)), (1, (.slot 1)), (5, (.slot 5)), (14, (.res 3))])))
    [0, 1, 5]
abbrev book_Same_exec_Known_r5 : NC := .reg
    (.q 2 (.ixs 23) [(.slot 0), (.slot 5)] none
    (.q 3 (.lda 23) [(.res 2)] none
    (.q 6 (.ixs 23) [(.slot 1), (.slot 5)] none
    (.q 7 (.lda 23) [(.res 6)] none
    (.q 8 (.eqc true [(.i .i64), (.i .i64), (.i .i64), (.i .i64), (.i .i64), (.i .i64), (.i .i64), (.i .i64), (.i .i64), (.i .i64), .s, .s, .s, .s, (.i .i64), (.i .i64), (.i .i64), (.i .i64), (.i .i64), (.i .i64), (.i .i64), (.i .i64), .b]) [(.res 3), (.res 7)] none
    (.out [(0, (.slot 0)), (1, (.slot 1)), (5, (.slot 5)), (25, (.res 8))]))))))
    [0, 1, 5]
abbrev book_Same_exec_Known_r6 : NC := .reg
    (.out [(4, (.const (.bool false)))])
    []
abbrev book_Same_exec_Known_r7 : NC := .reg
    (.q 1 (.iar .add) [(.slot 5), (.const (.int .i64 1))] none
    (.out [(0, (.slot 0)), (1, (.slot 1)), (5, (.res 1))]))
    [0, 1, 5]
abbrev book_Same_exec_Known_l0 : NC :=
  (.seq (.seq book_Same_exec_Known_r4
  (.cond (.slot 14)
    .skip
    (.exit 0)))
  (.seq (.block 1 (.seq book_Same_exec_Known_r5
  (.cond (.slot 25)
    (.seq book_Same_exec_Known_r6
    .ret)
    .skip)))
  book_Same_exec_Known_r7))
abbrev book_Same_exec_Known_r8 : NC := .reg
    (.out [(4, (.const (.bool true)))])
    []
abbrev book_Same_exec_Known_c : NC :=
  (.seq book_Same_exec_Known_r0
  (.seq (.seq book_Same_exec_Known_r1
  (.cond (.slot 10)
    (.seq book_Same_exec_Known_r2
    .ret)
    .skip))
  (.seq (.seq book_Same_exec_Known_r3
  (.block 0 (.loop [0, 1, 5] book_Same_exec_Known_l0)))
  (.seq book_Same_exec_Known_r8
  .ret))))
abbrev book_Same_exec_Known_F : FN := ⟨book_Same_exec_Known_c, [.slot 4]⟩
theorem book_Same_exec_Known_ok : compF Try.prog Try.f30 = some book_Same_exec_Known_F := by kernel_rfl
theorem book_Same_exec_Known_go {args : List Value} {m : Mem} {R : Value → Mem → Prop} (hn : args.length ≤ Try.f30.ntmps) (h : wpN Try.prog book_Same_exec_Known_c (retP book_Same_exec_Known_F.rvs R) (zipP 0 args) m) : MC Try.prog 30 args m R := MC_start Try.func30 book_Same_exec_Known_ok mixed_ok hn h
end Go.Fw

namespace Go.Fw
open Go.Proofs
/-! concord/graph.Parts -/
abbrev graph_Parts_r0 : NC := .reg
    (.out [(0, (.slot 0))])
    [0]
abbrev graph_Parts_r1 : NC := .reg
    (.q 1 .len [(.slot 0)] none
    (.out [(0, (.slot 0)), (4, (.res 1))]))
    [0]
abbrev graph_Parts_r2 : NC := .reg
    (.q 1 (.icm .gtr) [(.slot 4), (.const (.int .i64 512))] none
    (.out [(0, (.slot 0)), (4, (.slot 4)), (13, (.res 1))]))
    [0, 4]
abbrev graph_Parts_r3 : NC := .reg
    (.out [(2, (.const (.slice none 0 0))), (3, (.const (.int .i64 2)))])
    []
abbrev graph_Parts_r4 : NC := .reg
    (.both
    (.x 2 (.mks 3 8 [(.int .i64 0)]) [(.slot 4), (.slot 4)] none []
    (.both
    (.x 4 (.mks 3 8 [(.int .i64 0)]) [(.slot 4), (.slot 4)] none []
    (.both
    (.x 6 (.mks 4 1 [(.bool false)]) [(.slot 4), (.slot 4)] none []
    (.x 8 (.mks 3 8 [(.int .i64 0)]) [(.slot 4), (.slot 4)] none []
    (.q 9 (.bld [(.slice none 0 0), (.slice none 0 0), (.slice none 0 0), (.slice none 0 0), (.slice none 0 0), (.slice none 0 0), (.int .i64 0), (.int .i64 0)] [(0, 1), (1, 1), (2, 1), (3, 1), (5, 1)]) [(.slot 0), (.res 2), (.res 4), (.res 6), (.res 8)] none
    (.x 10 (.box 107) [(.res 9)] none []
    (.out [(0, (.slot 0)), (4, (.slot 4)), (5, (.res 10))])))))
    (.x 8 (.mks 3 8 [(.int .i64 0)]) [(.slot 4), (.slot 4)] none []
    (.x 6 (.mks 4 1 [(.bool false)]) [(.slot 4), (.slot 4)] none []
    (.q 9 (.bld [(.slice none 0 0), (.slice none 0 0), (.slice none 0 0), (.slice none 0 0), (.slice none 0 0), (.slice none 0 0), (.int .i64 0), (.int .i64 0)] [(0, 1), (1, 1), (2, 1), (3, 1), (5, 1)]) [(.slot 0), (.res 2), (.res 4), (.res 6), (.res 8)] none
    (.x 10 (.box 107) [(.res 9)] none []
    (.out [(0, (.slot 0)), (4, (.slot 4)), (5, (.res 10))])))))))
    (.both
    (.x 6 (.mks 4 1 [(.bool false)]) [(.slot 4), (.slot 4)] none []
    (.both
    (.x 4 (.mks 3 8 [(.int .i64 0)]) [(.slot 4), (.slot 4)] none []
    (.x 8 (.mks 3 8 [(.int .i64 0)]) [(.slot 4), (.slot 4)] none []
    (.q 9 (.bld [(.slice none 0 0), (.slice none 0 0), (.slice none 0 0), (.slice none 0 0), (.slice none 0 0), (.slice none 0 0), (.int .i64 0), (.int .i64 0)] [(0, 1), (1, 1), (2, 1), (3, 1), (5, 1)]) [(.slot 0), (.res 2), (.res 4), (.res 6), (.res 8)] none
    (.x 10 (.box 107) [(.res 9)] none []
    (.out [(0, (.slot 0)), (4, (.slot 4)), (5, (.res 10))])))))
    (.x 8 (.mks 3 8 [(.int .i64 0)]) [(.slot 4), (.slot 4)] none []
    (.x 4 (.mks 3 8 [(.int .i64 0)]) [(.slot 4), (.slot 4)] none []
    (.q 9 (.bld [(.slice none 0 0), (.slice none 0 0), (.slice none 0 0), (.slice none 0 0), (.slice none 0 0), (.slice none 0 0), (.int .i64 0), (.int .i64 0)] [(0, 1), (1, 1), (2, 1), (3, 1), (5, 1)]) [(.slot 0), (.res 2), (.res 4), (.res 6), (.res 8)] none
    (.x 10 (.box 107) [(.res 9)] none []
    (.out [(0, (.slot 0)), (4, (.slot 4)), (5, (.res 10))])))))))
    (.x 8 (.mks 3 8 [(.int .i64 0)]) [(.slot 4), (.slot 4)] none []
    (.both
    (.x 4 (.mks 3 8 [(.int .i64 0)]) [(.slot 4), (.slot 4)] none []
    (.x 6 (.mks 4 1 [(.bool false)]) [(.slot 4), (.slot 4)] none []
    (.q 9 (.bld [(.slice none 0 0), (.slice none 0 0), (.slice none 0 0), (.slice none 0 0), (.slice none 0 0), (.slice none 0 0), (.int .i64 0), (.int .i64 0)] [(0, 1), (1, 1), (2, 1), (3, 1), (5, 1)]) [(.slot 0), (.res 2), (.res 4), (.res 6), (.res 8)] none
    (.x 10 (.box 107) [(.res 9)] none []
    (.out [(0, (.slot 0)), (4, (.slot 4)), (5, (.res 10))])))))
    (.x 6 (.mks 4 1 [(.bool false)]) [(.slot 4), (.slot 4)] none []
    (.x 4 (.mks 3 8 [(.int .i64 0)]) [(.slot 4), (.slot 4)] none []
    (.q 9 (.bld [(.slice none 0 0), (.slice none 0 0), (.slice none 0 0), (.slice none 0 0), (.slice none 0 0), (.slice none 0 0), (.int .i64 0), (.int .i64 0)] [(0, 1), (1, 1), (2, 1), (3, 1), (5, 1)]) [(.slot 0), (.res 2), (.res 4), (.res 6), (.res 8)] none
    (.x 10 (.box 107) [(.res 9)] none []
    (.out [(0, (.slot 0)), (4, (.slot 4)), (5, (.res 10))]))))))))))
    (.both
    (.x 4 (.mks 3 8 [(.int .i64 0)]) [(.slot 4), (.slot 4)] none []
    (.both
    (.x 2 (.mks 3 8 [(.int .i64 0)]) [(.slot 4), (.slot 4)] none []
    (.both
    (.x 6 (.mks 4 1 [(.bool false)]) [(.slot 4), (.slot 4)] none []
    (.x 8 (.mks 3 8 [(.int .i64 0)]) [(.slot 4), (.slot 4)] none []
    (.q 9 (.bld [(.slice none 0 0), (.slice none 0 0), (.slice none 0 0), (.slice none 0 0), (.slice none 0 0), (.slice none 0 0), (.int .i64 0), (.int .i64 0)] [(0, 1), (1, 1), (2, 1), (3, 1), (5, 1)]) [(.slot 0), (.res 2), (.res 4), (.res 6), (.res 8)] none
    (.x 10 (.box 107) [(.res 9)] none []
    (.out [(0, (.slot 0)), (4, (.slot 4)), (5, (.res 10))])))))
    (.x 8 (.mks 3 8 [(.int .i64 0)]) [(.slot 4), (.slot 4)] none []
    (.x 6 (.mks 4 1 [(.bool false)]) [(.slot 4), (.slot 4)] none []
    (.q 9 (.bld [(.slice none 0 0), (.slice none 0 0), (.slice none 0 0), (.slice none 0 0), (.slice none 0 0), (.slice none 0 0), (.int .i64 0), (.int .i64 0)] [(0, 1), (1, 1), (2, 1), (3, 1), (5, 1)]) [(.slot 0), (.res 2), (.res 4), (.res 6), (.res 8)] none
    (.x 10 (.box 107) [(.res 9)] none []
    (.out [(0, (.slot 0)), (4, (.slot 4)), (5, (.res 10))])))))))
    (.both
    (.x 6 (.mks 4 1 [(.bool false)]) [(.slot 4), (.slot 4)] none []
    (.both
    (.x 2 (.mks 3 8 [(.int .i64 0)]) [(.slot 4), (.slot 4)] none []
    (.x 8 (.mks 3 8 [(.int .i64 0)]) [(.slot 4), (.slot 4)] none []
    (.q 9 (.bld [(.slice none 0 0), (.slice none 0 0), (.slice none 0 0), (.slice none 0 0), (.slice none 0 0), (.slice none 0 0), (.int .i64 0), (.int .i64 0)] [(0, 1), (1, 1), (2, 1), (3, 1), (5, 1)]) [(.slot 0), (.res 2), (.res 4), (.res 6), (.res 8)] none
    (.x 10 (.box 107) [(.res 9)] none []
    (.out [(0, (.slot 0)), (4, (.slot 4)), (5, (.res 10))])))))
    (.x 8 (.mks 3 8 [(.int .i64 0)]) [(.slot 4), (.slot 4)] none []
    (.x 2 (.mks 3 8 [(.int .i64 0)]) [(.slot 4), (.slot 4)] none []
    (.q 9 (.bld [(.slice none 0 0), (.slice none 0 0), (.slice none 0 0), (.slice none 0 0), (.slice none 0 0), (.slice none 0 0), (.int .i64 0), (.int .i64 0)] [(0, 1), (1, 1), (2, 1), (3, 1), (5, 1)]) [(.slot 0), (.res 2), (.res 4), (.res 6), (.res 8)] none
    (.x 10 (.box 107) [(.res 9)] none []
    (.out [(0, (.slot 0)), (4, (.slot 4)), (5, (.res 10))])))))))
    (.x 8 (.mks 3 8 [(.int .i64 0)]) [(.slot 4), (.slot 4)] none []
    (.both
    (.x 2 (.mks 3 8 [(.int .i64 0)]) [(.slot 4), (.slot 4)] none []
    (.x 6 (.mks 4 1 [(.bool false)]) [(.slot 4), (.slot 4)] none []
    (.q 9 (.bld [(.slice none 0 0), (.slice none 0 0), (.slice none 0 0), (.slice none 0 0), (.slice none 0 0), (.slice none 0 0), (.int .i64 0), (.int .i64 0)] [(0, 1), (1, 1), (2, 1), (3, 1), (5, 1)]) [(.slot 0), (.res 2), (.res 4), (.res 6), (.res 8)] none
    (.x 10 (.box 107) [(.res 9)] none []
    (.out [(0, (.slot 0)), (4, (.slot 4)), (5, (.res 10))])))))
    (.x 6 (.mks 4 1 [(.bool false)]) [(.slot 4), (.slot 4)] none []
    (.x 2 (.mks 3 8 [(.int .i64 0)]) [(.slot 4), (.slot 4)] none []
    (.q 9 (.bld [(.slice none 0 0), (.slice none 0 0), (.slice none 0 0), (.slice none 0 0), (.slice none 0 0), (.slice none 0 0), (.int .i64 0), (.int .i64 0)] [(0, 1), (1, 1), (2, 1), (3, 1), (5, 1)]) [(.slot 0), (.res 2), (.res 4), (.res 6), (.res 8)] none
    (.x 10 (.box 107) [(.res 9)] none []
    (.out [(0, (.slot 0)), (4, (.slot 4)), (5, (.res 10))]))))))))))
    (.both
    (.x 6 (.mks 4 1 [(.bool false)]) [(.slot 4), (.slot 4)] none []
    (.both
    (.x 2 (.mks 3 8 [(.int .i64 0)]) [(.slot 4), (.slot 4)] none []
    (.both
    (.x 4 (.mks 3 8 [(.int .i64 0)]) [(.slot 4), (.slot 4)] none []
    (.x 8 (.mks 3 8 [(.int .i64 0)]) [(.slot 4), (.slot 4)] none []
    (.q 9 (.bld [(.slice none 0 0), (.slice none 0 0), (.slice none 0 0), (.slice none 0 0), (.slice none 0 0), (.slice none 0 0), (.int .i64 0), (.int .i64 0)] [(0, 1), (1, 1), (2, 1), (3, 1), (5, 1)]) [(.slot 0), (.res 2), (.res 4), (.res 6), (.res 8)] none
    (.x 10 (.box 107) [(.res 9)] none []
    (.out [(0, (.slot 0)), (4, (.slot 4)), (5, (.res 10))])))))
    (.x 8 (.mks 3 8 [(.int .i64 0)]) [(.slot 4), (.slot 4)] none []
    (.x 4 (.mks 3 8 [(.int .i64 0)]) [(.slot 4), (.slot 4)] none []
    (.q 9 (.bld [(.slice none 0 0), (.slice none 0 0), (.slice none 0 0), (.slice none 0 0), (.slice none 0 0), (.slice none 0 0), (.int .i64 0), (.int .i64 0)] [(0, 1), (1, 1), (2, 1), (3, 1), (5, 1)]) [(.slot 0), (.res 2), (.res 4), (.res 6), (.res 8)] none
    (.x 10 (.box 107) [(.res 9)] none []
    (.out [(0, (.slot 0)), (4, (.slot 4)), (5, (.res 10))])))))))
    (.both
    (.x 4 (.mks 3 8 [(.int .i64 0)]) [(.slot 4), (.slot 4)] none []
    (.both
    (.x 2 (.mks 3 8 [(.int .i64 0)]) [(.slot 4), (.slot 4)] none []
    (.x 8 (.mks 3 8 [(.int .i64 0)]) [(.slot 4), (.slot 4)] none []
    (.q 9 (.bld [(.slice none 0 0), (.slice none 0 0), (.slice none 0 0), (.slice none 0 0), (.slice none 0 0), (.slice none 0 0), (.int .i64 0), (.int .i64 0)] [(0, 1), (1, 1), (2, 1), (3, 1), (5, 1)]) [(.slot 0), (.res 2), (.res 4), (.res 6), (.res 8)] none
    (.x 10 (.box 107) [(.res 9)] none []
    (.out [(0, (.slot 0)), (4, (.slot 4)), (5, (.res 10))])))))
    (.x 8 (.mks 3 8 [(.int .i64 0)]) [(.slot 4), (.slot 4)] none []
    (.x 2 (.mks 3 8 [(.int .i64 0)]) [(.slot 4), (.slot 4)] none []
    (.q 9 (.bld [(.slice none 0 0), (.slice none 0 0), (.slice none 0 0), (.slice none 0 0), (.slice none 0 0), (.slice none 0 0), (.int .i64 0), (.int .i64 0)] [(0, 1), (1, 1), (2, 1), (3, 1), (5, 1)]) [(.slot 0), (.res 2), (.res 4), (.res 6), (.res 8)] none
    (.x 10 (.box 107) [(.res 9)] none []
    (.out [(0, (.slot 0)), (4, (.slot 4)), (5, (.res 10))])))))))
    (.x 8 (.mks 3 8 [(.int .i64 0)]) [(.slot 4), (.slot 4)] none []
    (.both
    (.x 2 (.mks 3 8 [(.int .i64 0)]) [(.slot 4), (.slot 4)] none []
    (.x 4 (.mks 3 8 [(.int .i64 0)]) [(.slot 4), (.slot 4)] none []
    (.q 9 (.bld [(.slice none 0 0), (.slice none 0 0), (.slice none 0 0), (.slice none 0 0), (.slice none 0 0), (.slice none 0 0), (.int .i64 0), (.int .i64 0)] [(0, 1), (1, 1), (2, 1), (3, 1), (5, 1)]) [(.slot 0), (.res 2), (.res 4), (.res 6), (.res 8)] none
    (.x 10 (.box 107) [(.res 9)] none []
    (.out [(0, (.slot 0)), (4, (.slot 4)), (5, (.res 10))])))))
    (.x 4 (.mks 3 8 [(.int .i64 0)]) [(.slot 4), (.slot 4)] none []
    (.x 2 (.mks 3 8 [(.int .i64 0)]) [(.slot 4), (.slot 4)] none []
    (.q 9 (.bld [(.slice none 0 0), (.slice none 0 0), (.slice none 0 0), (.slice none 0 0), (.slice none 0 0), (.slice none 0 0), (.int .i64 0), (.int .i64 0)] [(0, 1), (1, 1), (2, 1), (3, 1), (5, 1)]) [(.slot 0), (.res 2), (.res 4), (.res 6), (.res 8)] none
    (.x 10 (.box 107) [(.res 9)] none []
    (.out [(0, (.slot 0)), (4, (.slot 4)), (5, (.res 10))]))))))))))
    (.x 8 (.mks 3 8 [(.int .i64 0)]) [(.slot 4), (.slot 4)] none []
    (.both
    (.x 2 (.mks 3 8 [(.int .i64 0)]) [(.slot 4), (.slot 4)] none []
    (.both
    (.x 4 (.mks 3 8 [(.int .i64 0)]) [(.slot 4), (.slot 4)] none []
    (.x 6 (.mks 4 1 [(.bool false)]) [(.slot 4), (.slot 4)] none []
    (.q 9 (.bld [(.slice none 0 0), (.slice none 0 0), (.slice none 0 0), (.slice none 0 0), (.slice none 0 0), (.slice none 0 0), (.int .i64 0), (.int .i64 0)] [(0, 1), (1, 1), (2, 1), (3, 1), (5, 1)]) [(.slot 0), (.res 2), (.res 4), (.res 6), (.res 8)] none
    (.x 10 (.box 107) [(.res 9)] none []
    (.out [(0, (.slot 0)), (4, (.slot 4)), (5, (.res 10))])))))
    (.x 6 (.mks 4 1 [(.bool false)]) [(.slot 4), (.slot 4)] none []
    (.x 4 (.mks 3 8 [(.int .i64 0)]) [(.slot 4), (.slot 4)] none []
    (.q 9 (.bld [(.slice none 0 0), (.slice none 0 0), (.slice none 0 0), (.slice none 0 0), (.slice none 0 0), (.slice none 0 0), (.int .i64 0), (.int .i64 0)] [(0, 1), (1, 1), (2, 1), (3, 1), (5, 1)]) [(.slot 0), (.res 2), (.res 4), (.res 6), (.res 8)] none
    (.x 10 (.box 107) [(.res 9)] none []
    (.out [(0, (.slot 0)), (4, (.slot 4)), (5, (.res 10))])))))))
    (.both
    (.x 4 (.mks 3 8 [(.int .i64 0)]) [(.slot 4), (.slot 4)] none []
    (.both
    (.x 2 (.mks 3 8 [(.int .i64 0)]) [(.slot 4), (.slot 4)] none []
    (.x 6 (.mks 4 1 [(.bool false)]) [(.slot 4), (.slot 4)] none []
    (.q 9 (.bld [(.slice none 0 0), (.slice none 0 0), (.slice none 0 0), (.slice none 0 0), (.slice none 0 0), (.slice none 0 0), (.int .i64 0), (.int .i64 0)] [(0, 1), (1, 1), (2, 1), (3, 1), (5, 1)]) [(.slot 0), (.res 2), (.res 4), (.res 6), (.res 8)] none
    (.x 10 (.box 107) [(.res 9)] none []
    (.out [(0, (.slot 0)), (4, (.slot 4)), (5, (.res 10))])))))
    (.x 6 (.mks 4 1 [(.bool false)]) [(.slot 4), (.slot 4)] none []
    (.x 2 (.mks 3 8 [(.int .i64 0)]) [(.slot 4), (.slot 4)] none []
    (.q 9 (.bld [(.slice none 0 0), (.slice none 0 0), (.slice none 0 0), (.slice none 0 0), (.slice none 0 0), (.slice none 0 0), (.int .i64 0), (.int .i64 0)] [(0, 1), (1, 1), (2, 1), (3, 1), (5, 1)]) [(.slot 0), (.res 2), (.res 4), (.res 6), (.res 8)] none
    (.x 10 (.box 107) [(.res 9)] none []
    (.out [(0, (.slot 0)), (4, (.slot 4)), (5, (.res 10))])))))))
    (.x 6 (.mks 4 1 [(.bool false)]) [(.slot 4), (.slot 4)] none []
    (.both
    (.x 2 (.mks 3 8 [(.int .i64 0)]) [(.slot 4), (.slot 4)] none []
    (.x 4 (.mks 3 8 [(.int .i64 0)]) [(.slot 4), (.slot 4)] none []
    (.q 9 (.bld [(.slice none 0 0), (.slice none 0 0), (.slice none 0 0), (.slice none 0 0), (.slice none 0 0), (.slice none 0 0), (.int .i64 0), (.int .i64 0)] [(0, 1), (1, 1), (2, 1), (3, 1), (5, 1)]) [(.slot 0), (.res 2), (.res 4), (.res 6), (.res 8)] none
    (.x 10 (.box 107) [(.res 9)] none []
    (.out [(0, (.slot 0)), (4, (.slot 4)), (5, (.res 10))])))))
    (.x 4 (.mks 3 8 [(.int .i64 0)]) [(.slot 4), (.slot 4)] none []
    (.x 2 (.mks 3 8 [(.int .i64 0)]) [(.slot 4), (.slot 4)] none []
    (.q 9 (.bld [(.slice none 0 0), (.slice none 0 0), (.slice none 0 0), (.slice none 0 0), (.slice none 0 0), (.slice none 0 0), (.int .i64 0), (.int .i64 0)] [(0, 1), (1, 1), (2, 1), (3, 1), (5, 1)]) [(.slot 0), (.res 2), (.res 4), (.res 6), (.res 8)] none
    (.x 10 (.box 107) [(.res 9)] none []
    (.out [(0, (.slot 0)), (4, (.slot 4)), (5, (.res 10))])))))))))))))
    [0, 4]
abbrev graph_Parts_r5 : NC := .reg
    (.out [(0, (.slot 0)), (5, (.slot 5)), (25, (.slot 4)), (26, (.const (.int .i64 0)))])
    [0, 4, 5]
abbrev graph_Parts_r6 : NC := .reg
    (.q 0 (.icm .lss) [(.slot 26), (.slot 25)] none
    (.out [(0, (.slot 0)), (5, (.slot 5)), (25, (.slot 25)), (26, (.slot 26)), (27, (.res 0))]))
    [0, 5, 25, 26]
abbrev graph_Parts_r7 : NC := .reg
    (.out [(0, (.slot 0)), (5, (.slot 5)), (6, (.slot 26)), (25, (.slot 25)), (26, (.slot 26))])
    [0, 5, 25, 26]
abbrev graph_Parts_r8 : NC := .reg
    (.q 1 .nilck [(.slot 5)] none
    (.q 2 (.fld 1) [(.res 1)] none
    (.q 3 .ld [(.res 2)] none
    (.q 5 (.ixs 1) [(.res 3), (.slot 6)] none
    (.q 6 .ld [(.res 5)] none
    (.q 7 (.icm .eql) [(.res 6), (.const (.int .i64 0))] none
    (.out [(0, (.slot 0)), (5, (.slot 5)), (6, (.slot 6)), (25, (.slot 25)), (26, (.slot 26)), (36, (.res 7))])))))))
    [0, 5, 6, 25, 26]
abbrev graph_Parts_r9 : NC := .reg
    (.x 2 (.call 53) [(.slot 5), (.slot 6)] none []
    (.out [(0, (.slot 0)), (5, (.slot 5)), (25, (.slot 25)), (26, (.slot 26))]))
    [0, 5, 6, 25, 26]
abbrev graph_Parts_r10 : NC := .reg
    (.q 0 (.iar .add) [(.slot 26), (.const (.int .i64 1))] none
    (.out [(0, (.slot 0)), (5, (.slot 5)), (25, (.slot 25)), (26, (.res 0))]))
    [0, 5, 25, 26]
abbrev graph_Parts_l0 : NC :=
  (.seq graph_Parts_r6
  (.seq (.cond (.slot 27)
    .skip
    (.exit 0))
  (.seq (.block 1 (.seq graph_Parts_r7
  (.seq graph_Parts_r8
  (.cond (.slot 36)
    graph_Parts_r9
    .skip))))
  graph_Parts_r10)))
abbrev graph_Parts_r11 : NC := .reg
    (.q 1 .nilck [(.slot 5)] none
    (.q 2 (.fld 6) [(.res 1)] none
    (.q 3 .ld [(.res 2)] none
    (.x 4 (.mks 55 24 [(.slice none 0 0)]) [(.res 3), (.res 3)] none []
    (.out [(0, (.slot 0)), (5, (.slot 5)), (7, (.res 4))])))))
    [0, 5]
abbrev graph_Parts_r12 : NC := .reg
    (.q 1 .nilck [(.slot 5)] none
    (.q 2 (.fld 5) [(.res 1)] none
    (.q 3 .ld [(.res 2)] none
    (.q 4 .len [(.res 3)] none
    (.out [(0, (.slot 0)), (5, (.slot 5)), (7, (.slot 7)), (49, (.res 3)), (50, (.res 4)), (51, (.const (.int .i64 0)))])))))
    [0, 5, 7]
abbrev graph_Parts_r13 : NC := .reg
    (.q 0 (.icm .lss) [(.slot 51), (.slot 50)] none
    (.out [(0, (.slot 0)), (5, (.slot 5)), (7, (.slot 7)), (49, (.slot 49)), (50, (.slot 50)), (51, (.slot 51)), (52, (.res 0))]))
    [0, 5, 7, 49, 50, 51]
abbrev graph_Parts_r14 : NC := .reg
    (.q 1 (.ixs 1) [(.slot 49), (.slot 51)] none
    (.q 2 .ld [(.res 1)] none
    (.out [(0, (.slot 0)), (5, (.slot 5)), (7, (.slot 7)), (8, (.slot 51)), (9, (.res 2)), (49, (.slot 49)), (50, (.slot 50)), (51, (.slot 51))])))
    [0, 5, 7, 49, 50, 51]
abbrev graph_Parts_r15 : NC := .reg
    (.q 4 (.ixs 1) [(.slot 7), (.slot 9)] none
    (.q 5 .ld [(.res 4)] none
    (.x 7 (.bsl 3 1 [(.int .i64 0)] [(0, 1)]) [(.slot 8)] none []
    (.x 8 (.app 3 1 8 [(.int .i64 0)]) [(.res 5), (.res 7)] none []
    (.q 9 (.ixs 1) [(.slot 7), (.slot 9)] none
    (.x 10 (.st 1) [(.res 9), (.res 8)] none []
    (.out [(0, (.slot 0)), (5, (.slot 5)), (7, (.slot 7)), (49, (.slot 49)), (50, (.slot 50)), (51, (.slot 51))])))))))
    [0, 5, 7, 8, 9, 49, 50, 51]
abbrev graph_Parts_r16 : NC := .reg
    (.q 0 (.iar .add) [(.slot 51), (.const (.int .i64 1))] none
    (.out [(0, (.slot 0)), (5, (.slot 5)), (7, (.slot 7)), (49, (.slot 49)), (50, (.slot 50)), (51, (.res 0))]))
    [0, 5, 7, 49, 50, 51]
abbrev graph_Parts_l1 : NC :=
  (.seq graph_Parts_r13
  (.seq (.cond (.slot 52)
    .skip
    (.exit 2))
  (.seq (.block 3 (.seq graph_Parts_r14
  graph_Parts_r15))
  graph_Parts_r16)))
abbrev graph_Parts_r17 : NC := .reg
    (.q 2 .nilck [(.slot 5)] none
    (.q 3 (.fld 5) [(.res 2)] none
    (.q 4 .ld [(.res 3)] none
    (.x 6 (.call 54) [(.slot 0), (.res 4), (.slot 7)] none []
    (.out [(2, (.res 6)), (3, (.const (.int .i64 0)))])))))
    [0, 5, 7]
abbrev graph_Parts_c : NC :=
  (.seq graph_Parts_r0
  (.seq graph_Parts_r1
  (.seq (.seq graph_Parts_r2
  (.cond (.slot 13)
    (.seq graph_Parts_r3
    .ret)
    .skip))
  (.seq graph_Parts_r4
  (.seq (.seq graph_Parts_r5
  (.block 0 (.loop [0, 5, 25, 26] graph_Parts_l0)))
  (.seq graph_Parts_r11
  (.seq (.seq graph_Parts_r12
  (.block 2 (.loop [0, 5, 7, 49, 50, 51] graph_Parts_l1)))
  (.seq graph_Parts_r17
  .ret))))))))
abbrev graph_Parts_F : FN := ⟨graph_Parts_c, [.slot 2, .slot 3]⟩
theorem graph_Parts_ok : compF Try.prog Try.f45 = some graph_Parts_F := by kernel_rfl
theorem graph_Parts_go {args : List Value} {m : Mem} {R : Value → Mem → Prop} (hn : args.length ≤ Try.f45.ntmps) (h : wpN Try.prog graph_Parts_c (retP graph_Parts_F.rvs R) (zipP 0 args) m) : MC Try.prog 45 args m R := MC_start Try.func45 graph_Parts_ok mixed_ok hn h
/-! (*concord/graph.walk).from -/
abbrev graph_walk_from_r0 : NC := .reg
    (.x 2 (.call 67) [(.slot 0), (.slot 1)] none []
    (.x 3 (.bsl 125 1 [(.int .i64 0), (.int .i64 0)] [(0, 2)]) [(.res 2)] none []
    (.out [(0, (.slot 0)), (4, (.res 3))])))
    [0, 1]
abbrev graph_walk_from_r1 : NC := .reg
    (.q 1 .len [(.slot 4)] none
    (.q 2 (.icm .gtr) [(.res 1), (.const (.int .i64 0))] none
    (.out [(0, (.slot 0)), (4, (.slot 4)), (15, (.res 2))])))
    [0, 4]
abbrev graph_walk_from_r2 : NC := .reg
    (.q 2 .len [(.slot 4)] none
    (.q 3 (.iar .sub) [(.res 2), (.const (.int .i64 1))] none
    (.q 4 (.ixs 2) [(.slot 4), (.res 3)] none
    (.out [(0, (.slot 0)), (4, (.slot 4)), (5, (.res 4))]))))
    [0, 4]
abbrev graph_walk_from_r3 : NC := .reg
    (.q 1 .nilck [(.slot 5)] none
    (.q 2 (.fld 1) [(.res 1)] none
    (.q 3 .ld [(.res 2)] none
    (.q 5 .nilck [(.slot 0)] none
    (.q 6 (.fld 0) [(.res 5)] none
    (.q 7 .ld [(.res 6)] none
    (.q 9 .nilck [(.slot 5)] none
    (.q 10 (.fld 0) [(.res 9)] none
    (.q 11 .ld [(.res 10)] none
    (.q 12 (.ixs 1) [(.res 7), (.res 11)] none
    (.q 13 .ld [(.res 12)] none
    (.q 14 .len [(.res 13)] none
    (.q 15 (.icm .eql) [(.res 3), (.res 14)] none
    (.out [(0, (.slot 0)), (4, (.slot 4)), (5, (.slot 5)), (36, (.res 15))]))))))))))))))
    [0, 4, 5]
abbrev graph_walk_from_r4 : NC := .reg
    (.q 1 .nilck [(.slot 5)] none
    (.q 2 (.fld 0) [(.res 1)] none
    (.q 3 .ld [(.res 2)] none
    (.out [(0, (.slot 0)), (4, (.slot 4)), (6, (.res 3))]))))
    [0, 4, 5]
abbrev graph_walk_from_r5 : NC := .reg
    (.x 2 (.call 68) [(.slot 0), (.slot 6)] none []
    (.out [(0, (.slot 0)), (4, (.slot 4)), (6, (.slot 6))]))
    [0, 4, 6]
abbrev graph_walk_from_r6 : NC := .reg
    (.q 2 .len [(.slot 4)] none
    (.q 3 (.iar .sub) [(.res 2), (.const (.int .i64 1))] none
    (.q 4 (.slc 2 false true) [(.slot 4), (.res 3)] none
    (.out [(0, (.slot 0)), (4, (.res 4)), (6, (.slot 6))]))))
    [0, 4, 6]
abbrev graph_walk_from_r7 : NC := .reg
    (.q 1 .len [(.slot 4)] none
    (.q 2 (.icm .gtr) [(.res 1), (.const (.int .i64 0))] none
    (.out [(0, (.slot 0)), (4, (.slot 4)), (6, (.slot 6)), (51, (.res 2))])))
    [0, 4, 6]
abbrev graph_walk_from_r8 : NC := .reg
    (.q 2 .len [(.slot 4)] none
    (.q 3 (.iar .sub) [(.res 2), (.const (.int .i64 1))] none
    (.q 4 (.ixs 2) [(.slot 4), (.res 3)] none
    (.q 5 (.fld 0) [(.res 4)] none
    (.q 6 .ld [(.res 5)] none
    (.out [(0, (.slot 0)), (4, (.slot 4)), (6, (.slot 6)), (7, (.res 6))]))))))
    [0, 4, 6]
abbrev graph_walk_from_r9 : NC := .reg
    (.q 1 .nilck [(.slot 0)] none
    (.q 2 (.fld 2) [(.res 1)] none
    (.q 3 .ld [(.res 2)] none
    (.q 6 .nilck [(.slot 0)] none
    (.q 7 (.fld 2) [(.res 6)] none
    (.q 8 .ld [(.res 7)] none
    (.q 10 (.ixs 1) [(.res 8), (.slot 7)] none
    (.q 11 .ld [(.res 10)] none
    (.q 13 .nilck [(.slot 0)] none
    (.q 14 (.fld 2) [(.res 13)] none
    (.q 15 .ld [(.res 14)] none
    (.q 17 (.ixs 1) [(.res 15), (.slot 6)] none
    (.q 18 .ld [(.res 17)] none
    (.q 19 .mn [(.res 11), (.res 18)] none
    (.q 20 (.ixs 1) [(.res 3), (.slot 7)] none
    (.x 21 (.st 1) [(.res 20), (.res 19)] none []
    (.out [(0, (.slot 0)), (4, (.slot 4))])))))))))))))))))
    [0, 4, 6, 7]
abbrev graph_walk_from_r10 : NC := .reg
    (.q 1 .nilck [(.slot 0)] none
    (.q 2 (.fld 0) [(.res 1)] none
    (.q 3 .ld [(.res 2)] none
    (.q 5 .nilck [(.slot 5)] none
    (.q 6 (.fld 0) [(.res 5)] none
    (.q 7 .ld [(.res 6)] none
    (.q 8 (.ixs 1) [(.res 3), (.res 7)] none
    (.q 9 .ld [(.res 8)] none
    (.q 11 .nilck [(.slot 5)] none
    (.q 12 (.fld 1) [(.res 11)] none
    (.q 13 .ld [(.res 12)] none
    (.q 14 (.ixs 1) [(.res 9), (.res 13)] none
    (.q 15 .ld [(.res 14)] none
    (.out [(0, (.slot 0)), (4, (.slot 4)), (5, (.slot 5)), (8, (.res 15))]))))))))))))))
    [0, 4, 5]
abbrev graph_walk_from_r11 : NC := .reg
    (.q 1 .nilck [(.slot 5)] none
    (.q 2 (.fld 1) [(.res 1)] none
    (.q 3 .ld [(.res 2)] none
    (.q 4 (.iar .add) [(.res 3), (.const (.int .i64 1))] none
    (.q 5 .nilck [(.slot 5)] none
    (.q 6 (.fld 1) [(.res 5)] none
    (.x 7 (.st 1) [(.res 6), (.res 4)] none []
    (.out [(0, (.slot 0)), (4, (.slot 4)), (5, (.slot 5)), (8, (.slot 8))]))))))))
    [0, 4, 5, 8]
abbrev graph_walk_from_r12 : NC := .reg
    (.q 1 (.icm .lss) [(.slot 8), (.const (.int .i64 0))] none
    (.q 3 .mv [(.slot 8)] (some ((.res 1), false))
    (.q 4 .mv [(.slot 0)] (some ((.res 1), false))
    (.q 5 .nilck [(.res 4)] (some ((.res 1), false))
    (.q 6 (.fld 0) [(.res 5)] (some ((.res 1), false))
    (.q 7 .ld [(.res 6)] (some ((.res 1), false))
    (.q 8 .len [(.res 7)] (some ((.res 1), false))
    (.q 9 (.icm .geq) [(.res 3), (.res 8)] (some ((.res 1), false))
    (.q 10 .pick [(.res 1), (.const (.bool true)), (.res 9)] none
    (.out [(0, (.slot 0)), (4, (.slot 4)), (5, (.slot 5)), (8, (.slot 8)), (103, (.res 10))]))))))))))
    [0, 4, 5, 8]
abbrev graph_walk_from_r13 : NC := .reg
    (.q 1 .nilck [(.slot 0)] none
    (.q 2 (.fld 1) [(.res 1)] none
    (.q 3 .ld [(.res 2)] none
    (.q 5 (.ixs 1) [(.res 3), (.slot 8)] none
    (.q 6 .ld [(.res 5)] none
    (.q 7 (.icm .eql) [(.res 6), (.const (.int .i64 0))] none
    (.out [(0, (.slot 0)), (4, (.slot 4)), (5, (.slot 5)), (8, (.slot 8)), (115, (.res 7))])))))))
    [0, 4, 5, 8]
abbrev graph_walk_from_r14 : NC := .reg
    (.x 3 (.call 67) [(.slot 0), (.slot 8)] none []
    (.x 4 (.bsl 125 1 [(.int .i64 0), (.int .i64 0)] [(0, 2)]) [(.res 3)] none []
    (.x 5 (.app 125 2 16 [(.int .i64 0), (.int .i64 0)]) [(.slot 4), (.res 4)] none []
    (.out [(0, (.slot 0)), (4, (.res 5))]))))
    [0, 4, 8]
abbrev graph_walk_from_r15 : NC := .reg
    (.q 1 .nilck [(.slot 0)] none
    (.q 2 (.fld 3) [(.res 1)] none
    (.q 3 .ld [(.res 2)] none
    (.q 5 (.ixs 1) [(.res 3), (.slot 8)] none
    (.q 6 .ld [(.res 5)] none
    (.out [(0, (.slot 0)), (4, (.slot 4)), (5, (.slot 5)), (8, (.slot 8)), (130, (.res 6))]))))))
    [0, 4, 5, 8]
abbrev graph_walk_from_r16 : NC := .reg
    (.q 1 .nilck [(.slot 0)] none
    (.q 2 (.fld 2) [(.res 1)] none
    (.q 3 .ld [(.res 2)] none
    (.q 5 .nilck [(.slot 5)] none
    (.q 6 (.fld 0) [(.res 5)] none
    (.q 7 .ld [(.res 6)] none
    (.q 9 .nilck [(.slot 0)] none
    (.q 10 (.fld 2) [(.res 9)] none
    (.q 11 .ld [(.res 10)] none
    (.q 13 .nilck [(.slot 5)] none
    (.q 14 (.fld 0) [(.res 13)] none
    (.q 15 .ld [(.res 14)] none
    (.q 16 (.ixs 1) [(.res 11), (.res 15)] none
    (.q 17 .ld [(.res 16)] none
    (.q 19 .nilck [(.slot 0)] none
    (.q 20 (.fld 1) [(.res 19)] none
    (.q 21 .ld [(.res 20)] none
    (.q 23 (.ixs 1) [(.res 21), (.slot 8)] none
    (.q 24 .ld [(.res 23)] none
    (.q 25 .mn [(.res 17), (.res 24)] none
    (.q 26 (.ixs 1) [(.res 3), (.res 7)] none
    (.x 27 (.st 1) [(.res 26), (.res 25)] none []
    (.out [(0, (.slot 0)), (4, (.slot 4))])))))))))))))))))))))))
    [0, 4, 5, 8]
abbrev graph_walk_from_l0 : NC :=
  (.seq (.seq graph_walk_from_r1
  (.cond (.slot 15)
    .skip
    (.exit 0)))
  (.block 1 (.seq graph_walk_from_r2
  (.seq (.seq graph_walk_from_r3
  (.cond (.slot 36)
    (.seq graph_walk_from_r4
    (.seq graph_walk_from_r5
    (.seq graph_walk_from_r6
    (.seq (.seq graph_walk_from_r7
    (.cond (.slot 51)
      (.seq graph_walk_from_r8
      graph_walk_from_r9)
      .skip))
    (.exit 1)))))
    .skip))
  (.seq graph_walk_from_r10
  (.seq graph_walk_from_r11
  (.block 2 (.seq graph_walk_from_r12
  (.cond (.slot 103)
    .skip
    (.seq graph_walk_from_r13
    (.cond (.slot 115)
      graph_walk_from_r14
      (.seq graph_walk_from_r15
      (.cond (.slot 130)
        graph_walk_from_r16
        .skip)))))))))))))
abbrev graph_walk_from_c : NC :=
  (.seq graph_walk_from_r0
  (.block 0 (.loop [0, 4] graph_walk_from_l0)))
abbrev graph_walk_from_F : FN := ⟨graph_walk_from_c, []⟩
theorem graph_walk_from_ok : compF Try.prog Try.f53 = some graph_walk_from_F := by kernel_rfl
theorem graph_walk_from_go {args : List Value} {m : Mem} {R : Value → Mem → Prop} (hn : args.length ≤ Try.f53.ntmps) (h : wpN Try.prog graph_walk_from_c (retP graph_walk_from_F.rvs R) (zipP 0 args) m) : MC Try.prog 53 args m R := MC_start Try.func53 graph_walk_from_ok mixed_ok hn h
/-! concord/graph.order -/
abbrev graph_order_r0 : NC := .reg
    (.out [(0, (.slot 0)), (1, (.slot 1)), (2, (.slot 2))])
    [0, 1, 2]
abbrev graph_order_r1 : NC := .reg
    (.q 1 .len [(.slot 2)] none
    (.x 2 (.mks 3 8 [(.int .i64 0)]) [(.res 1), (.res 1)] none []
    (.out [(0, (.slot 0)), (1, (.slot 1)), (2, (.slot 2)), (7, (.res 2))])))
    [0, 1, 2]
abbrev graph_order_r2 : NC := .reg
    (.q 1 .len [(.slot 2)] none
    (.x 2 (.mks 55 24 [(.slice none 0 0)]) [(.res 1), (.res 1)] none []
    (.out [(0, (.slot 0)), (1, (.slot 1)), (2, (.slot 2)), (7, (.slot 7)), (8, (.res 2))])))
    [0, 1, 2, 7]
abbrev graph_order_r3 : NC := .reg
    (.q 1 .len [(.slot 0)] none
    (.out [(0, (.slot 0)), (1, (.slot 1)), (2, (.slot 2)), (7, (.slot 7)), (8, (.slot 8)), (25, (.slot 0)), (26, (.res 1)), (27, (.const (.int .i64 0)))]))
    [0, 1, 2, 7, 8]
abbrev graph_order_r4 : NC := .reg
    (.q 0 (.icm .lss) [(.slot 27), (.slot 26)] none
    (.out [(0, (.slot 0)), (1, (.slot 1)), (2, (.slot 2)), (7, (.slot 7)), (8, (.slot 8)), (25, (.slot 25)), (26, (.slot 26)), (27, (.slot 27)), (28, (.res 0))]))
    [0, 1, 2, 7, 8, 25, 26, 27]
abbrev graph_order_r5 : NC := .reg
    (.q 1 (.ixs 1) [(.slot 25), (.slot 27)] none
    (.q 2 .ld [(.res 1)] none
    (.out [(0, (.slot 0)), (1, (.slot 1)), (2, (.slot 2)), (7, (.slot 7)), (8, (.slot 8)), (9, (.slot 27)), (10, (.res 2)), (25, (.slot 25)), (26, (.slot 26)), (27, (.slot 27))])))
    [0, 1, 2, 7, 8, 25, 26, 27]
abbrev graph_order_r6 : NC := .reg
    (.q 1 .len [(.slot 10)] none
    (.out [(0, (.slot 0)), (1, (.slot 1)), (2, (.slot 2)), (7, (.slot 7)), (8, (.slot 8)), (9, (.slot 9)), (25, (.slot 25)), (26, (.slot 26)), (27, (.slot 27)), (32, (.slot 10)), (33, (.res 1)), (34, (.const (.int .i64 0)))]))
    [0, 1, 2, 7, 8, 9, 10, 25, 26, 27]
abbrev graph_order_r7 : NC := .reg
    (.q 0 (.icm .lss) [(.slot 34), (.slot 33)] none
    (.out [(0, (.slot 0)), (1, (.slot 1)), (2, (.slot 2)), (7, (.slot 7)), (8, (.slot 8)), (9, (.slot 9)), (25, (.slot 25)), (26, (.slot 26)), (27, (.slot 27)), (32, (.slot 32)), (33, (.slot 33)), (34, (.slot 34)), (35, (.res 0))]))
    [0, 1, 2, 7, 8, 9, 25, 26, 27, 32, 33, 34]
abbrev graph_order_r8 : NC := .reg
    (.q 0 (.ixs 1) [(.slot 32), (.slot 34)] none
    (.q 1 .ld [(.res 0)] none
    (.out [(0, (.slot 0)), (1, (.slot 1)), (2, (.slot 2)), (7, (.slot 7)), (8, (.slot 8)), (9, (.slot 9)), (12, (.res 1)), (25, (.slot 25)), (26, (.slot 26)), (27, (.slot 27)), (32, (.slot 32)), (33, (.slot 33)), (34, (.slot 34))])))
    [0, 1, 2, 7, 8, 9, 25, 26, 27, 32, 33, 34]
abbrev graph_order_r9 : NC := .reg
    (.q 1 (.icm .geq) [(.slot 12), (.const (.int .i64 0))] none
    (.q 3 .mv [(.slot 12)] (some ((.res 1), true))
    (.q 4 .mv [(.slot 0)] (some ((.res 1), true))
    (.q 5 .len [(.res 4)] (some ((.res 1), true))
    (.q 6 (.icm .lss) [(.res 3), (.res 5)] (some ((.res 1), true))
    (.q 7 .pick [(.res 1), (.res 6), (.const (.bool false))] none
    (.q 9 .mv [(.slot 1)] (some ((.res 7), true))
    (.q 10 .mv [(.slot 12)] (some ((.res 7), true))
    (.q 11 (.ixs 1) [(.res 9), (.res 10)] (some ((.res 7), true))
    (.q 12 .ld [(.res 11)] (some ((.res 7), true))
    (.q 13 .mv [(.slot 1)] (some ((.res 7), true))
    (.q 14 .mv [(.slot 9)] (some ((.res 7), true))
    (.q 15 (.ixs 1) [(.res 13), (.res 14)] (some ((.res 7), true))
    (.q 16 .ld [(.res 15)] (some ((.res 7), true))
    (.q 17 (.icm .neq) [(.res 12), (.res 16)] (some ((.res 7), true))
    (.q 18 .pick [(.res 7), (.res 17), (.const (.bool false))] none
    (.out [(0, (.slot 0)), (1, (.slot 1)), (2, (.slot 2)), (7, (.slot 7)), (8, (.slot 8)), (9, (.slot 9)), (12, (.slot 12)), (25, (.slot 25)), (26, (.slot 26)), (27, (.slot 27)), (32, (.slot 32)), (33, (.slot 33)), (34, (.slot 34)), (56, (.res 18))])))))))))))))))))
    [0, 1, 2, 7, 8, 9, 12, 25, 26, 27, 32, 33, 34]
abbrev graph_order_r10 : NC := .reg
    (.q 3 (.ixs 1) [(.slot 1), (.slot 9)] none
    (.q 4 .ld [(.res 3)] none
    (.q 5 (.ixs 1) [(.slot 7), (.res 4)] none
    (.q 6 .ld [(.res 5)] none
    (.q 7 (.iar .add) [(.res 6), (.const (.int .i64 1))] none
    (.q 8 (.ixs 1) [(.slot 7), (.res 4)] none
    (.x 9 (.st 1) [(.res 8), (.res 7)] none []
    (.out [(0, (.slot 0)), (1, (.slot 1)), (2, (.slot 2)), (7, (.slot 7)), (8, (.slot 8)), (9, (.slot 9)), (12, (.slot 12)), (25, (.slot 25)), (26, (.slot 26)), (27, (.slot 27)), (32, (.slot 32)), (33, (.slot 33)), (34, (.slot 34))]))))))))
    [0, 1, 2, 7, 8, 9, 12, 25, 26, 27, 32, 33, 34]
abbrev graph_order_r11 : NC := .reg
    (.q 3 (.ixs 1) [(.slot 1), (.slot 12)] none
    (.q 4 .ld [(.res 3)] none
    (.q 8 (.ixs 1) [(.slot 1), (.slot 12)] none
    (.q 9 .ld [(.res 8)] none
    (.q 10 (.ixs 1) [(.slot 8), (.res 9)] none
    (.q 11 .ld [(.res 10)] none
    (.q 14 (.ixs 1) [(.slot 1), (.slot 9)] none
    (.q 15 .ld [(.res 14)] none
    (.x 16 (.bsl 3 1 [(.int .i64 0)] [(0, 1)]) [(.res 15)] none [(4, .ld, [(.res 3)], none), (9, .ld, [(.res 8)], none), (11, .ld, [(.res 10)], none)]
    (.x 17 (.app 3 1 8 [(.int .i64 0)]) [(.res 11), (.res 16)] none [(4, .ld, [(.res 3)], none)]
    (.q 18 (.ixs 1) [(.slot 8), (.res 4)] none
    (.x 19 (.st 1) [(.res 18), (.res 17)] none []
    (.out [(0, (.slot 0)), (1, (.slot 1)), (2, (.slot 2)), (7, (.slot 7)), (8, (.slot 8)), (9, (.slot 9)), (25, (.slot 25)), (26, (.slot 26)), (27, (.slot 27)), (32, (.slot 32)), (33, (.slot 33)), (34, (.slot 34))])))))))))))))
    [0, 1, 2, 7, 8, 9, 12, 25, 26, 27, 32, 33, 34]
abbrev graph_order_r12 : NC := .reg
    (.q 0 (.iar .add) [(.slot 34), (.const (.int .i64 1))] none
    (.out [(0, (.slot 0)), (1, (.slot 1)), (2, (.slot 2)), (7, (.slot 7)), (8, (.slot 8)), (9, (.slot 9)), (25, (.slot 25)), (26, (.slot 26)), (27, (.slot 27)), (32, (.slot 32)), (33, (.slot 33)), (34, (.res 0))]))
    [0, 1, 2, 7, 8, 9, 25, 26, 27, 32, 33, 34]
abbrev graph_order_l0 : NC :=
  (.seq graph_order_r7
  (.seq (.cond (.slot 35)
    .skip
    (.exit 2))
  (.seq (.block 3 (.seq graph_order_r8
  (.seq graph_order_r9
  (.cond (.slot 56)
    (.seq graph_order_r10
    graph_order_r11)
    .skip))))
  graph_order_r12)))
abbrev graph_order_r13 : NC := .reg
    (.q 0 (.iar .add) [(.slot 27), (.const (.int .i64 1))] none
    (.out [(0, (.slot 0)), (1, (.slot 1)), (2, (.slot 2)), (7, (.slot 7)), (8, (.slot 8)), (25, (.slot 25)), (26, (.slot 26)), (27, (.res 0))]))
    [0, 1, 2, 7, 8, 25, 26, 27]
abbrev graph_order_l1 : NC :=
  (.seq graph_order_r4
  (.seq (.cond (.slot 28)
    .skip
    (.exit 0))
  (.seq (.block 1 (.seq graph_order_r5
  (.seq graph_order_r6
  (.block 2 (.loop [0, 1, 2, 7, 8, 9, 25, 26, 27, 32, 33, 34] graph_order_l0)))))
  graph_order_r13)))
abbrev graph_order_r14 : NC := .reg
    (.q 1 .len [(.slot 2)] none
    (.x 2 (.mks 3 8 [(.int .i64 0)]) [(.res 1), (.res 1)] none []
    (.out [(2, (.slot 2)), (7, (.slot 7)), (8, (.slot 8)), (13, (.res 2))])))
    [2, 7, 8]
abbrev graph_order_r15 : NC := .reg
    (.out [(2, (.slot 2)), (7, (.slot 7)), (8, (.slot 8)), (13, (.slot 13)), (14, (.const (.slice none 0 0)))])
    [2, 7, 8, 13]
abbrev graph_order_r16 : NC := .reg
    (.q 1 .len [(.slot 14)] none
    (.q 3 .len [(.slot 2)] none
    (.q 4 (.icm .lss) [(.res 1), (.res 3)] none
    (.out [(2, (.slot 2)), (7, (.slot 7)), (8, (.slot 8)), (13, (.slot 13)), (14, (.slot 14)), (94, (.res 4))]))))
    [2, 7, 8, 13, 14]
abbrev graph_order_r17 : NC := .reg
    (.out [(2, (.slot 2)), (7, (.slot 7)), (8, (.slot 8)), (13, (.slot 13)), (14, (.slot 14)), (15, (.const (.int .i64 (-1))))])
    [2, 7, 8, 13, 14]
abbrev graph_order_r18 : NC := .reg
    (.q 1 .len [(.slot 2)] none
    (.out [(2, (.slot 2)), (7, (.slot 7)), (8, (.slot 8)), (13, (.slot 13)), (14, (.slot 14)), (15, (.slot 15)), (96, (.res 1)), (97, (.const (.int .i64 0)))]))
    [2, 7, 8, 13, 14, 15]
abbrev graph_order_r19 : NC := .reg
    (.q 0 (.icm .lss) [(.slot 97), (.slot 96)] none
    (.out [(2, (.slot 2)), (7, (.slot 7)), (8, (.slot 8)), (13, (.slot 13)), (14, (.slot 14)), (15, (.slot 15)), (96, (.slot 96)), (97, (.slot 97)), (98, (.res 0))]))
    [2, 7, 8, 13, 14, 15, 96, 97]
abbrev graph_order_r20 : NC := .reg
    (.out [(2, (.slot 2)), (7, (.slot 7)), (8, (.slot 8)), (13, (.slot 13)), (14, (.slot 14)), (15, (.slot 15)), (16, (.slot 97)), (96, (.slot 96)), (97, (.slot 97))])
    [2, 7, 8, 13, 14, 15, 96, 97]
abbrev graph_order_r21 : NC := .reg
    (.q 2 (.ixs 1) [(.slot 13), (.slot 16)] none
    (.q 3 .ld [(.res 2)] none
    (.q 4 (.icm .eql) [(.res 3), (.const (.int .i64 0))] none
    (.q 6 .mv [(.slot 7)] (some ((.res 4), true))
    (.q 7 .mv [(.slot 16)] (some ((.res 4), true))
    (.q 8 (.ixs 1) [(.res 6), (.res 7)] (some ((.res 4), true))
    (.q 9 .ld [(.res 8)] (some ((.res 4), true))
    (.q 10 (.icm .eql) [(.res 9), (.const (.int .i64 0))] (some ((.res 4), true))
    (.q 11 .pick [(.res 4), (.res 10), (.const (.bool false))] none
    (.q 13 .mv [(.slot 15)] (some ((.res 11), true))
    (.q 14 (.icm .lss) [(.res 13), (.const (.int .i64 0))] (some ((.res 11), true))
    (.q 15 .mv [(.res 14)] (some ((.res 11), true))
    (.q 16 .mv [(.slot 2)] (some ((.res 15), false))
    (.q 17 .mv [(.slot 16)] (some ((.res 15), false))
    (.q 18 (.ixs 1) [(.res 16), (.res 17)] (some ((.res 15), false))
    (.q 19 .ld [(.res 18)] (some ((.res 15), false))
    (.q 20 (.ixs 1) [(.res 19), (.const (.int .i64 0))] (some ((.res 15), false))
    (.q 21 .ld [(.res 20)] (some ((.res 15), false))
    (.q 22 .mv [(.slot 2)] (some ((.res 15), false))
    (.q 23 .mv [(.slot 15)] (some ((.res 15), false))
    (.q 24 (.ixs 1) [(.res 22), (.res 23)] (some ((.res 15), false))
    (.q 25 .ld [(.res 24)] (some ((.res 15), false))
    (.q 26 (.ixs 1) [(.res 25), (.const (.int .i64 0))] (some ((.res 15), false))
    (.q 27 .ld [(.res 26)] (some ((.res 15), false))
    (.q 28 (.icm .lss) [(.res 21), (.res 27)] (some ((.res 15), false))
    (.q 29 .pick [(.res 15), (.const (.bool true)), (.res 28)] (some ((.res 11), true))
    (.q 30 .pick [(.res 11), (.res 29), (.const (.bool false))] none
    (.out [(2, (.slot 2)), (7, (.slot 7)), (8, (.slot 8)), (13, (.slot 13)), (14, (.slot 14)), (15, (.slot 15)), (16, (.slot 16)), (96, (.slot 96)), (97, (.slot 97)), (130, (.res 30))]))))))))))))))))))))))))))))
    [2, 7, 8, 13, 14, 15, 16, 96, 97]
abbrev graph_order_r22 : NC := .reg
    (.out [(2, (.slot 2)), (7, (.slot 7)), (8, (.slot 8)), (13, (.slot 13)), (14, (.slot 14)), (15, (.slot 16)), (96, (.slot 96)), (97, (.slot 97))])
    [2, 7, 8, 13, 14, 16, 96, 97]
abbrev graph_order_r23 : NC := .reg
    (.q 0 (.iar .add) [(.slot 97), (.const (.int .i64 1))] none
    (.out [(2, (.slot 2)), (7, (.slot 7)), (8, (.slot 8)), (13, (.slot 13)), (14, (.slot 14)), (15, (.slot 15)), (96, (.slot 96)), (97, (.res 0))]))
    [2, 7, 8, 13, 14, 15, 96, 97]
abbrev graph_order_l2 : NC :=
  (.seq graph_order_r19
  (.seq (.cond (.slot 98)
    .skip
    (.exit 6))
  (.seq (.block 7 (.seq graph_order_r20
  (.seq graph_order_r21
  (.cond (.slot 130)
    graph_order_r22
    .skip))))
  graph_order_r23)))
abbrev graph_order_r24 : NC := .reg
    (.q 2 (.ixs 1) [(.slot 13), (.slot 15)] none
    (.x 3 (.st 1) [(.res 2), (.const (.int .i64 1))] none []
    (.out [(2, (.slot 2)), (7, (.slot 7)), (8, (.slot 8)), (13, (.slot 13)), (14, (.slot 14)), (15, (.slot 15))])))
    [2, 7, 8, 13, 14, 15]
abbrev graph_order_r25 : NC := .reg
    (.q 3 (.ixs 1) [(.slot 2), (.slot 15)] none
    (.q 4 .ld [(.res 3)] none
    (.x 5 (.bsl 55 1 [(.slice none 0 0)] [(0, 1)]) [(.res 4)] none []
    (.x 6 (.app 55 1 24 [(.slice none 0 0)]) [(.slot 14), (.res 5)] none []
    (.out [(2, (.slot 2)), (7, (.slot 7)), (8, (.slot 8)), (13, (.slot 13)), (14, (.res 6)), (15, (.slot 15))])))))
    [2, 7, 8, 13, 14, 15]
abbrev graph_order_r26 : NC := .reg
    (.q 2 (.ixs 1) [(.slot 8), (.slot 15)] none
    (.q 3 .ld [(.res 2)] none
    (.q 4 .len [(.res 3)] none
    (.out [(2, (.slot 2)), (7, (.slot 7)), (8, (.slot 8)), (13, (.slot 13)), (14, (.slot 14)), (146, (.res 3)), (147, (.res 4)), (148, (.const (.int .i64 0)))]))))
    [2, 7, 8, 13, 14, 15]
abbrev graph_order_r27 : NC := .reg
    (.q 0 (.icm .lss) [(.slot 148), (.slot 147)] none
    (.out [(2, (.slot 2)), (7, (.slot 7)), (8, (.slot 8)), (13, (.slot 13)), (14, (.slot 14)), (146, (.slot 146)), (147, (.slot 147)), (148, (.slot 148)), (149, (.res 0))]))
    [2, 7, 8, 13, 14, 146, 147, 148]
abbrev graph_order_r28 : NC := .reg
    (.q 0 (.ixs 1) [(.slot 146), (.slot 148)] none
    (.q 1 .ld [(.res 0)] none
    (.out [(2, (.slot 2)), (7, (.slot 7)), (8, (.slot 8)), (13, (.slot 13)), (14, (.slot 14)), (18, (.res 1)), (146, (.slot 146)), (147, (.slot 147)), (148, (.slot 148))])))
    [2, 7, 8, 13, 14, 146, 147, 148]
abbrev graph_order_r29 : NC := .reg
    (.q 2 (.ixs 1) [(.slot 7), (.slot 18)] none
    (.q 3 .ld [(.res 2)] none
    (.q 4 (.iar .sub) [(.res 3), (.const (.int .i64 1))] none
    (.q 5 (.ixs 1) [(.slot 7), (.slot 18)] none
    (.x 6 (.st 1) [(.res 5), (.res 4)] none []
    (.out [(2, (.slot 2)), (7, (.slot 7)), (8, (.slot 8)), (13, (.slot 13)), (14, (.slot 14)), (146, (.slot 146)), (147, (.slot 147)), (148, (.slot 148))]))))))
    [2, 7, 8, 13, 14, 18, 146, 147, 148]
abbrev graph_order_r30 : NC := .reg
    (.q 0 (.iar .add) [(.slot 148), (.const (.int .i64 1))] none
    (.out [(2, (.slot 2)), (7, (.slot 7)), (8, (.slot 8)), (13, (.slot 13)), (14, (.slot 14)), (146, (.slot 146)), (147, (.slot 147)), (148, (.res 0))]))
    [2, 7, 8, 13, 14, 146, 147, 148]
abbrev graph_order_l3 : NC :=
  (.seq graph_order_r27
  (.seq (.cond (.slot 149)
    .skip
    (.exit 8))
  (.seq (.block 9 (.seq graph_order_r28
  graph_order_r29))
  graph_order_r30)))
abbrev graph_order_l4 : NC :=
  (.seq (.seq graph_order_r16
  (.cond (.slot 94)
    .skip
    (.exit 4)))
  (.block 5 (.seq graph_order_r17
  (.seq (.seq graph_order_r18
  (.block 6 (.loop [2, 7, 8, 13, 14, 15, 96, 97] graph_order_l2)))
  (.seq graph_order_r24
  (.seq graph_order_r25
  (.seq graph_order_r26
  (.block 8 (.loop [2, 7, 8, 13, 14, 146, 147, 148] graph_order_l3)))))))))
abbrev graph_order_r31 : NC := .reg
    (.out [(6, (.slot 14))])
    [14]
abbrev graph_order_c : NC :=
  (.seq graph_order_r0
  (.seq graph_order_r1
  (.seq graph_order_r2
  (.seq (.seq graph_order_r3
  (.block 0 (.loop [0, 1, 2, 7, 8, 25, 26, 27] graph_order_l1)))
  (.seq graph_order_r14
  (.seq graph_order_r15
  (.seq (.block 4 (.loop [2, 7, 8, 13, 14] graph_order_l4))
  (.seq graph_order_r31
  .ret))))))))
abbrev graph_order_F : FN := ⟨graph_order_c, [.slot 6]⟩
theorem graph_order_ok : compF Try.prog Try.f54 = some graph_order_F := by kernel_rfl
theorem graph_order_go {args : List Value} {m : Mem} {R : Value → Mem → Prop} (hn : args.length ≤ Try.f54.ntmps) (h : wpN Try.prog graph_order_c (retP graph_order_F.rvs R) (zipP 0 args) m) : MC Try.prog 54 args m R := MC_start Try.func54 graph_order_ok mixed_ok hn h
/-! (*concord/graph.walk).come -/
abbrev graph_walk_come_r0 : NC := .reg
    (.x 0 (.alc [(.int .i64 0), (.int .i64 0)] 125) [] none []
    (.out [(0, (.slot 0)), (1, (.slot 1)), (4, (.res 0))]))
    [0, 1]
abbrev graph_walk_come_r1 : NC := .reg
    (.q 1 .nilck [(.slot 0)] none
    (.q 2 (.fld 7) [(.res 1)] none
    (.q 3 .ld [(.res 2)] none
    (.q 4 (.iar .add) [(.res 3), (.const (.int .i64 1))] none
    (.q 5 .nilck [(.slot 0)] none
    (.q 6 (.fld 7) [(.res 5)] none
    (.x 7 (.st 1) [(.res 6), (.res 4)] none []
    (.out [(0, (.slot 0)), (1, (.slot 1)), (4, (.slot 4))]))))))))
    [0, 1, 4]
abbrev graph_walk_come_r2 : NC := .reg
    (.q 1 .nilck [(.slot 0)] none
    (.q 2 (.fld 1) [(.res 1)] none
    (.q 3 .ld [(.res 2)] none
    (.q 6 .nilck [(.slot 0)] none
    (.q 7 (.fld 2) [(.res 6)] none
    (.q 8 .ld [(.res 7)] none
    (.q 11 .nilck [(.slot 0)] none
    (.q 12 (.fld 3) [(.res 11)] none
    (.q 13 .ld [(.res 12)] none
    (.q 16 .nilck [(.slot 0)] none
    (.q 17 (.fld 7) [(.res 16)] none
    (.q 18 .ld [(.res 17)] none
    (.q 20 .nilck [(.slot 0)] none
    (.q 21 (.fld 7) [(.res 20)] none
    (.q 22 .ld [(.res 21)] none
    (.q 23 (.ixs 1) [(.res 3), (.slot 1)] none
    (.x 24 (.st 1) [(.res 23), (.res 18)] none []
    (.q 25 (.ixs 1) [(.res 8), (.slot 1)] none
    (.x 26 (.st 1) [(.res 25), (.res 22)] none []
    (.q 27 (.ixs 1) [(.res 13), (.slot 1)] none
    (.x 28 (.st 1) [(.res 27), (.const (.bool true))] none []
    (.out [(0, (.slot 0)), (1, (.slot 1)), (4, (.slot 4))]))))))))))))))))))))))
    [0, 1, 4]
abbrev graph_walk_come_r3 : NC := .reg
    (.q 2 .nilck [(.slot 0)] none
    (.q 3 (.fld 4) [(.res 2)] none
    (.q 4 .ld [(.res 3)] none
    (.x 6 (.bsl 3 1 [(.int .i64 0)] [(0, 1)]) [(.slot 1)] none []
    (.x 7 (.app 3 1 8 [(.int .i64 0)]) [(.res 4), (.res 6)] none []
    (.q 8 .nilck [(.slot 0)] none
    (.q 9 (.fld 4) [(.res 8)] none
    (.x 10 (.st 1) [(.res 9), (.res 7)] none []
    (.out [(1, (.slot 1)), (4, (.slot 4))])))))))))
    [0, 1, 4]
abbrev graph_walk_come_r4 : NC := .reg
    (.q 1 (.bld [(.int .i64 0), (.int .i64 0)] [(0, 1), (1, 1)]) [(.slot 1), (.const (.int .i64 0))] none
    (.x 2 (.st 2) [(.slot 4), (.res 1)] none []
    (.out [(4, (.slot 4))])))
    [1, 4]
abbrev graph_walk_come_c : NC :=
  (.seq graph_walk_come_r0
  (.seq graph_walk_come_r1
  (.seq graph_walk_come_r2
  (.seq graph_walk_come_r3
  (.seq graph_walk_come_r4
  .ret)))))
abbrev graph_walk_come_F : FN := ⟨graph_walk_come_c, [.cells 4 2]⟩
theorem graph_walk_come_ok : compF Try.prog Try.f67 = some graph_walk_come_F := by kernel_rfl
theorem graph_walk_come_go {args : List Value} {m : Mem} {R : Value → Mem → Prop} (hn : args.length ≤ Try.f67.ntmps) (h : wpN Try.prog graph_walk_come_c (retP graph_walk_come_F.rvs R) (zipP 0 args) m) : MC Try.prog 67 args m R := MC_start Try.func67 graph_walk_come_ok mixed_ok hn h
/-! (*concord/graph.walk).leave -/
abbrev graph_walk_leave_r0 : NC := .reg
    (.q 1 .nilck [(.slot 0)] none
    (.q 2 (.fld 2) [(.res 1)] none
    (.q 3 .ld [(.res 2)] none
    (.q 5 (.ixs 1) [(.res 3), (.slot 1)] none
    (.q 6 .ld [(.res 5)] none
    (.q 8 .nilck [(.slot 0)] none
    (.q 9 (.fld 1) [(.res 8)] none
    (.q 10 .ld [(.res 9)] none
    (.q 12 (.ixs 1) [(.res 10), (.slot 1)] none
    (.q 13 .ld [(.res 12)] none
    (.q 14 (.icm .neq) [(.res 6), (.res 13)] none
    (.out [(0, (.slot 0)), (1, (.slot 1)), (19, (.res 14))]))))))))))))
    [0, 1]
abbrev graph_walk_leave_r1 : NC := .reg
    (.q 1 .nilck [(.slot 0)] none
    (.q 2 (.fld 4) [(.res 1)] none
    (.q 3 .ld [(.res 2)] none
    (.q 5 .nilck [(.slot 0)] none
    (.q 6 (.fld 4) [(.res 5)] none
    (.q 7 .ld [(.res 6)] none
    (.q 8 .len [(.res 7)] none
    (.q 9 (.iar .sub) [(.res 8), (.const (.int .i64 1))] none
    (.q 10 (.ixs 1) [(.res 3), (.res 9)] none
    (.q 11 .ld [(.res 10)] none
    (.out [(0, (.slot 0)), (1, (.slot 1)), (4, (.res 11))])))))))))))
    [0, 1]
abbrev graph_walk_leave_r2 : NC := .reg
    (.q 2 .nilck [(.slot 0)] none
    (.q 3 (.fld 4) [(.res 2)] none
    (.q 4 .ld [(.res 3)] none
    (.q 6 .nilck [(.slot 0)] none
    (.q 7 (.fld 4) [(.res 6)] none
    (.q 8 .ld [(.res 7)] none
    (.q 9 .len [(.res 8)] none
    (.q 10 (.iar .sub) [(.res 9), (.const (.int .i64 1))] none
    (.q 11 (.slc 1 false true) [(.res 4), (.res 10)] none
    (.q 12 .nilck [(.slot 0)] none
    (.q 13 (.fld 4) [(.res 12)] none
    (.x 14 (.st 1) [(.res 13), (.res 11)] none []
    (.out [(0, (.slot 0)), (1, (.slot 1)), (4, (.slot 4))])))))))))))))
    [0, 1, 4]
abbrev graph_walk_leave_r3 : NC := .reg
    (.q 1 .nilck [(.slot 0)] none
    (.q 2 (.fld 3) [(.res 1)] none
    (.q 3 .ld [(.res 2)] none
    (.q 6 .nilck [(.slot 0)] none
    (.q 7 (.fld 5) [(.res 6)] none
    (.q 8 .ld [(.res 7)] none
    (.q 11 .nilck [(.slot 0)] none
    (.q 12 (.fld 6) [(.res 11)] none
    (.q 13 .ld [(.res 12)] none
    (.q 14 (.ixs 1) [(.res 3), (.slot 4)] none
    (.x 15 (.st 1) [(.res 14), (.const (.bool false))] none []
    (.q 16 (.ixs 1) [(.res 8), (.slot 4)] none
    (.x 17 (.st 1) [(.res 16), (.res 13)] none []
    (.out [(0, (.slot 0)), (1, (.slot 1)), (4, (.slot 4))]))))))))))))))
    [0, 1, 4]
abbrev graph_walk_leave_r4 : NC := .reg
    (.q 2 (.icm .eql) [(.slot 4), (.slot 1)] none
    (.out [(0, (.slot 0)), (1, (.slot 1)), (64, (.res 2))]))
    [0, 1, 4]
abbrev graph_walk_leave_l0 : NC :=
  (.block 1 (.seq graph_walk_leave_r1
  (.seq graph_walk_leave_r2
  (.seq graph_walk_leave_r3
  (.seq graph_walk_leave_r4
  (.cond (.slot 64)
    (.exit 0)
    .skip))))))
abbrev graph_walk_leave_r5 : NC := .reg
    (.q 1 .nilck [(.slot 0)] none
    (.q 2 (.fld 6) [(.res 1)] none
    (.q 3 .ld [(.res 2)] none
    (.q 4 (.iar .add) [(.res 3), (.const (.int .i64 1))] none
    (.q 5 .nilck [(.slot 0)] none
    (.q 6 (.fld 6) [(.res 5)] none
    (.x 7 (.st 1) [(.res 6), (.res 4)] none []
    (.out []))))))))
    [0]
abbrev graph_walk_leave_c : NC :=
  (.seq (.seq graph_walk_leave_r0
  (.cond (.slot 19)
    .ret
    .skip))
  (.seq (.block 0 (.loop [0, 1] graph_walk_leave_l0))
  graph_walk_leave_r5))
abbrev graph_walk_leave_F : FN := ⟨graph_walk_leave_c, []⟩
theorem graph_walk_leave_ok : compF Try.prog Try.f68 = some graph_walk_leave_F := by kernel_rfl
theorem graph_walk_leave_go {args : List Value} {m : Mem} {R : Value → Mem → Prop} (hn : args.length ≤ Try.f68.ntmps) (h : wpN Try.prog graph_walk_leave_c (retP graph_walk_leave_F.rvs R) (zipP 0 args) m) : MC Try.prog 68 args m R := MC_start Try.func68 graph_walk_leave_ok mixed_ok hn h
end Go.Fw
