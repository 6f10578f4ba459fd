import Derived.Test.YtadkdbnikmkgfaaFxA
import Derived.Test.YtadkdbnikmkgfaaProg
namespace Go.Fw
open Go.Proofs
abbrev T_int64 : Nat := 2
abbrev T_int : Nat := 3
abbrev T_bool : Nat := 4
abbrev T_uint8 : Nat := 5
abbrev T_abi_BoundsErrorCode : Nat := 6
abbrev T_runtime_boundsError : Nat := 8
abbrev T_string : Nat := 9
abbrev T_runtime_errorString : Nat := 10
abbrev T_runtime_plainError : Nat := 11
abbrev T_uintptr : Nat := 12
abbrev T_runtime_errorAddressString : Nat := 14
abbrev T_P_runtime_TypeAssertionError : Nat := 15
abbrev T_P_runtime_PanicNilError : Nat := 16
abbrev T_P_abi_Type : Nat := 17
abbrev T_maps_unhashableTypeError : Nat := 19
abbrev T_int32 : Nat := 21
abbrev T_P_log_Log : Nat := 22
abbrev T_A7_int : Nat := 24
abbrev T_api_Deps : Nat := 25
abbrev T_api_Inst : Nat := 28
abbrev T_api_Ballot : Nat := 31
abbrev T_api_Command : Nat := 33
abbrev T_api_Attr : Nat := 35
abbrev T_api_Cell : Nat := 37
abbrev T_S_api_Inst : Nat := 40
abbrev T_S_law16_Ask : Nat := 44
abbrev T_law16_Ask : Nat := 47
abbrev T_P_ref15_Log : Nat := 54
abbrev T_S_api_Cell : Nat := 55
abbrev T_ref15_Log : Nat := 57
abbrev T_S_uint8 : Nat := 60
abbrev T_api_Errno : Nat := 61
abbrev T_S_S_uint8 : Nat := 69
abbrev T_M_api_Inst_api_Cell : Nat := 72
abbrev T_log_Log : Nat := 74
abbrev T_P_pack_Reader : Nat := 81
abbrev T_P_ref1_Reader : Nat := 86
abbrev T_uint : Nat := 98
abbrev T_pack_Reader : Nat := 100
abbrev T_uint64 : Nat := 101
abbrev T_ref1_Reader : Nat := 108
abbrev T_slices_sortedHint : Nat := 121
abbrev T_uint32 : Nat := 128
abbrev T_slices_xorshift : Nat := 132
abbrev T_P_int : Nat := 136
abbrev T_P_slices_xorshift : Nat := 139
abbrev T_runtime_TypeAssertionError : Nat := 144
abbrev T_A0_P_runtime_PanicNilError : Nat := 145
abbrev T_runtime_PanicNilError : Nat := 147
abbrev T_abi_TFlag : Nat := 148
abbrev T_abi_Kind : Nat := 149
abbrev T_P_uint8 : Nat := 151
abbrev T_abi_NameOff : Nat := 152
abbrev T_abi_TypeOff : Nat := 153
abbrev T_abi_Type : Nat := 155
abbrev n_main_main : Nat := 0
abbrev n_gosem_cut : Nat := 1
abbrev n_gosem_cut_init : Nat := 2
abbrev n_law16_LogRuns : Nat := 3
abbrev n_law16_LogTops : Nat := 4
abbrev n_law16_LogHolds : Nat := 5
abbrev n_law16_LogPlays : Nat := 6
abbrev n_law16_LogBytes : Nat := 7
abbrev n_law16_LogReplays : Nat := 8
abbrev n_log_New : Nat := 9
abbrev n_log_Log_Set : Nat := 10
abbrev n_law16_at : Nat := 11
abbrev n_log_Log_Top : Nat := 12
abbrev n_log_Log_Trim : Nat := 13
abbrev n_log_Log_List : Nat := 14
abbrev n_log_Log_Gone : Nat := 15
abbrev n_law16_light : Nat := 16
abbrev n_log_Log_Cut : Nat := 17
abbrev n_book_Same_api_Inst : Nat := 18
abbrev n_log_Log_Cell : Nat := 19
abbrev n_inst_Below : Nat := 20
abbrev n_ref15_Log_Trim : Nat := 21
abbrev n_law16_alike : Nat := 22
abbrev n_ref15_Log_Set : Nat := 23
abbrev n_ref15_Log_Cell : Nat := 24
abbrev n_ref15_Log_Gone : Nat := 25
abbrev n_log_Replay : Nat := 26
abbrev n_ref15_Replay : Nat := 27
abbrev n_ref15_RightCell : Nat := 28
abbrev n_book_Same_byte : Nat := 29
abbrev n_log_Record : Nat := 30
abbrev n_ref15_Record : Nat := 31
abbrev n_book_Within : Nat := 32
abbrev n_inst_Right : Nat := 33
abbrev n_letter_RightCell : Nat := 34
abbrev n_log_may : Nat := 35
abbrev n_slices_SortFunc_api_Inst_api_Inst : Nat := 36
abbrev n_log_Log_List_c1 : Nat := 37
abbrev n_inst_Less : Nat := 38
abbrev n_ref15_Log_Top : Nat := 39
abbrev n_ref1_RightInst : Nat := 40
abbrev n_ref15_Log_at : Nat := 41
abbrev n_ref1_Below : Nat := 42
abbrev n_pack_Read : Nat := 43
abbrev n_pack_Reader_Num : Nat := 44
abbrev n_letter_GetCell : Nat := 45
abbrev n_pack_Reader_End : Nat := 46
abbrev n_ref1_Read : Nat := 47
abbrev n_ref15_getInst : Nat := 48
abbrev n_ref15_GetCell : Nat := 49
abbrev n_ref1_Reader_End : Nat := 50
abbrev n_ref15_RightBallot : Nat := 51
abbrev n_ref1_Right : Nat := 52
abbrev n_ref1_RightAttr : Nat := 53
abbrev n_letter_PutCell : Nat := 54
abbrev n_pack_Num : Nat := 55
abbrev n_ref15_PutCell : Nat := 56
abbrev n_ref15_inst : Nat := 57
abbrev n_inst_RightBallot : Nat := 58
abbrev n_cmd_Right : Nat := 59
abbrev n_deps_Right : Nat := 60
abbrev n_slices_pdqsortCmpFunc_api_Inst : Nat := 61
abbrev n_math_bits_Len : Nat := 62
abbrev n_ref1_Less : Nat := 63
abbrev n_pack_grown : Nat := 64
abbrev n_pack_Reader_fail : Nat := 65
abbrev n_word_Zag : Nat := 66
abbrev n_letter_getBallot : Nat := 67
abbrev n_cmd_Get : Nat := 68
abbrev n_deps_Get : Nat := 69
abbrev n_pack_Reader_Flag : Nat := 70
abbrev n_pack_Reader_Wrong : Nat := 71
abbrev n_pack_Reader_Fail : Nat := 72
abbrev n_ref1_Reader_Num : Nat := 73
abbrev n_ref15_getBallot : Nat := 74
abbrev n_ref15_getCommand : Nat := 75
abbrev n_ref15_getAttr : Nat := 76
abbrev n_ref1_Reader_Flag : Nat := 77
abbrev n_ref1_Reader_fail : Nat := 78
abbrev n_ref1_RightDeps : Nat := 79
abbrev n_letter_ballot : Nat := 80
abbrev n_cmd_Put : Nat := 81
abbrev n_pack_Flag : Nat := 82
abbrev n_deps_Put : Nat := 83
abbrev n_pack_num : Nat := 84
abbrev n_ref15_ballot : Nat := 85
abbrev n_ref1_Num : Nat := 86
abbrev n_ref1_Flag : Nat := 87
abbrev n_ref15_attr : Nat := 88
abbrev n_ref15_command : Nat := 89
abbrev n_cmd_within : Nat := 90
abbrev n_cmd_bare : Nat := 91
abbrev n_slices_insertionSortCmpFunc_api_Inst : Nat := 92
abbrev n_slices_heapSortCmpFunc_api_Inst : Nat := 93
abbrev n_slices_breakPatternsCmpFunc_api_Inst : Nat := 94
abbrev n_slices_choosePivotCmpFunc_api_Inst : Nat := 95
abbrev n_slices_reverseRangeCmpFunc_api_Inst : Nat := 96
abbrev n_slices_partialInsertionSortCmpFunc_api_Inst : Nat := 97
abbrev n_slices_partitionEqualCmpFunc_api_Inst : Nat := 98
abbrev n_slices_partitionCmpFunc_api_Inst : Nat := 99
abbrev n_math_bits_Len32 : Nat := 100
abbrev n_math_bits_Len64 : Nat := 101
abbrev n_pack_Reader_Text : Nat := 102
abbrev n_ref1_Zag : Nat := 103
abbrev n_ref1_Reader_Text : Nat := 104
abbrev n_pack_Text : Nat := 105
abbrev n_word_Zig : Nat := 106
abbrev n_ref1_Zig : Nat := 107
abbrev n_ref1_Text : Nat := 108
abbrev n_slices_siftDownCmpFunc_api_Inst : Nat := 109
abbrev n_slices_nextPowerOfTwo : Nat := 110
abbrev n_slices_xorshift_Next : Nat := 111
abbrev n_slices_medianAdjacentCmpFunc_api_Inst : Nat := 112
abbrev n_slices_medianCmpFunc_api_Inst : Nat := 113
abbrev n_pack_Reader_Count : Nat := 114
abbrev n_slices_order2CmpFunc_api_Inst : Nat := 115
abbrev n_runtime_boundsError_Error : Nat := 116
abbrev n_runtime_boundsError_RuntimeError : Nat := 117
abbrev n_runtime_errorString_Error : Nat := 118
abbrev n_runtime_errorString_RuntimeError : Nat := 119
abbrev n_runtime_plainError_Error : Nat := 120
abbrev n_runtime_plainError_RuntimeError : Nat := 121
abbrev n_runtime_errorAddressString_Error : Nat := 122
abbrev n_runtime_errorAddressString_RuntimeError : Nat := 123
abbrev n_runtime_TypeAssertionError_Error : Nat := 124
abbrev n_runtime_TypeAssertionError_RuntimeError : Nat := 125
abbrev n_runtime_PanicNilError_Error : Nat := 126
abbrev n_runtime_PanicNilError_RuntimeError : Nat := 127
abbrev n_internal_abi_Type_Align : Nat := 128
abbrev n_internal_runtime_maps_unhashableTypeError_Error : Nat := 129
abbrev n_internal_runtime_maps_unhashableTypeError_RuntimeError : Nat := 130
abbrev n_internal_abi_Kind_String : Nat := 131
theorem mixed_ok : Try.prog.follows .mixedOrders = true := by kernel_rfl
end Go.Fw

namespace Go.Fw
open Go.Proofs
/-! concord/inst.Below -/
abbrev inst_Below_r0 : NC := .reg
    (.x 0 (.box 31) [(.slot 0)] none []
    (.x 1 (.box 31) [(.slot 1)] none []
    (.out [(2, (.res 0)), (3, (.res 1))])))
    [0, 1]
abbrev inst_Below_r1 : NC := .reg
    (.q 0 (.fld 0) [(.slot 2)] none
    (.q 1 .ld [(.res 0)] none
    (.q 2 (.fld 0) [(.slot 3)] none
    (.q 3 .ld [(.res 2)] none
    (.q 4 (.icm .lss) [(.res 1), (.res 3)] none
    (.q 6 (.fld 0) [(.slot 2)] (some ((.res 4), false))
    (.q 7 .ld [(.res 6)] (some ((.res 4), false))
    (.q 8 (.fld 0) [(.slot 3)] (some ((.res 4), false))
    (.q 9 .ld [(.res 8)] (some ((.res 4), false))
    (.q 10 (.icm .eql) [(.res 7), (.res 9)] (some ((.res 4), false))
    (.q 11 .mv [(.res 10)] (some ((.res 4), false))
    (.q 12 (.fld 1) [(.slot 2)] (some ((.res 11), true))
    (.q 13 .ld [(.res 12)] (some ((.res 11), true))
    (.q 14 (.fld 1) [(.slot 3)] (some ((.res 11), true))
    (.q 15 .ld [(.res 14)] (some ((.res 11), true))
    (.q 16 (.icm .lss) [(.res 13), (.res 15)] (some ((.res 11), true))
    (.q 17 .pick [(.res 11), (.res 16), (.const (.bool false))] (some ((.res 4), false))
    (.q 18 .pick [(.res 4), (.const (.bool true)), (.res 17)] none
    (.out [(4, (.res 18))])))))))))))))))))))
    [2, 3]
abbrev inst_Below_c : NC :=
  (.seq inst_Below_r0
  (.seq inst_Below_r1
  .ret))
abbrev inst_Below_F : FN := ⟨inst_Below_c, [.slot 4]⟩
theorem inst_Below_ok : compF Try.prog Try.f20 = some inst_Below_F := by kernel_rfl
theorem inst_Below_go {args : List Value} {m : Mem} {R : Value → Mem → Prop} (hn : args.length ≤ Try.f20.ntmps) (h : wpN Try.prog inst_Below_c (retP inst_Below_F.rvs R) (zipP 0 args) m) : MC Try.prog 20 args m R := MC_start Try.func20 inst_Below_ok mixed_ok hn h
/-! concord/inst.Right -/
abbrev inst_Right_r0 : NC := .reg
    (.x 0 (.box 28) [(.slot 0)] none []
    (.out [(1, (.res 0))]))
    [0]
abbrev inst_Right_r1 : NC := .reg
    (.q 0 (.fld 0) [(.slot 1)] none
    (.q 1 .ld [(.res 0)] none
    (.q 2 (.icm .geq) [(.res 1), (.const (.int .i64 0))] none
    (.q 4 (.fld 0) [(.slot 1)] (some ((.res 2), true))
    (.q 5 .ld [(.res 4)] (some ((.res 2), true))
    (.q 6 (.icm .lss) [(.res 5), (.const (.int .i64 7))] (some ((.res 2), true))
    (.q 7 .pick [(.res 2), (.res 6), (.const (.bool false))] none
    (.q 9 (.fld 1) [(.slot 1)] (some ((.res 7), true))
    (.q 10 .ld [(.res 9)] (some ((.res 7), true))
    (.q 11 (.icm .geq) [(.res 10), (.const (.int .i64 1))] (some ((.res 7), true))
    (.q 12 .pick [(.res 7), (.res 11), (.const (.bool false))] none
    (.q 14 (.fld 1) [(.slot 1)] (some ((.res 12), true))
    (.q 15 .ld [(.res 14)] (some ((.res 12), true))
    (.q 16 (.icm .leq) [(.res 15), (.const (.int .i64 1073741824))] (some ((.res 12), true))
    (.q 17 .pick [(.res 12), (.res 16), (.const (.bool false))] none
    (.out [(2, (.res 17))]))))))))))))))))
    [1]
abbrev inst_Right_c : NC :=
  (.seq inst_Right_r0
  (.seq inst_Right_r1
  .ret))
abbrev inst_Right_F : FN := ⟨inst_Right_c, [.slot 2]⟩
theorem inst_Right_ok : compF Try.prog Try.f33 = some inst_Right_F := by kernel_rfl
theorem inst_Right_go {args : List Value} {m : Mem} {R : Value → Mem → Prop} (hn : args.length ≤ Try.f33.ntmps) (h : wpN Try.prog inst_Right_c (retP inst_Right_F.rvs R) (zipP 0 args) m) : MC Try.prog 33 args m R := MC_start Try.func33 inst_Right_ok mixed_ok hn h
/-! concord/inst.Less -/
abbrev inst_Less_r0 : NC := .reg
    (.x 0 (.box 28) [(.slot 0)] none []
    (.x 1 (.box 28) [(.slot 1)] none []
    (.out [(2, (.res 0)), (3, (.res 1))])))
    [0, 1]
abbrev inst_Less_r1 : NC := .reg
    (.q 0 (.fld 0) [(.slot 2)] none
    (.q 1 .ld [(.res 0)] none
    (.q 2 (.fld 0) [(.slot 3)] none
    (.q 3 .ld [(.res 2)] none
    (.q 4 (.icm .lss) [(.res 1), (.res 3)] none
    (.q 6 (.fld 0) [(.slot 2)] (some ((.res 4), false))
    (.q 7 .ld [(.res 6)] (some ((.res 4), false))
    (.q 8 (.fld 0) [(.slot 3)] (some ((.res 4), false))
    (.q 9 .ld [(.res 8)] (some ((.res 4), false))
    (.q 10 (.icm .eql) [(.res 7), (.res 9)] (some ((.res 4), false))
    (.q 11 .mv [(.res 10)] (some ((.res 4), false))
    (.q 12 (.fld 1) [(.slot 2)] (some ((.res 11), true))
    (.q 13 .ld [(.res 12)] (some ((.res 11), true))
    (.q 14 (.fld 1) [(.slot 3)] (some ((.res 11), true))
    (.q 15 .ld [(.res 14)] (some ((.res 11), true))
    (.q 16 (.icm .lss) [(.res 13), (.res 15)] (some ((.res 11), true))
    (.q 17 .pick [(.res 11), (.res 16), (.const (.bool false))] (some ((.res 4), false))
    (.q 18 .pick [(.res 4), (.const (.bool true)), (.res 17)] none
    (.out [(4, (.res 18))])))))))))))))))))))
    [2, 3]
abbrev inst_Less_c : NC :=
  (.seq inst_Less_r0
  (.seq inst_Less_r1
  .ret))
abbrev inst_Less_F : FN := ⟨inst_Less_c, [.slot 4]⟩
theorem inst_Less_ok : compF Try.prog Try.f38 = some inst_Less_F := by kernel_rfl
theorem inst_Less_go {args : List Value} {m : Mem} {R : Value → Mem → Prop} (hn : args.length ≤ Try.f38.ntmps) (h : wpN Try.prog inst_Less_c (retP inst_Less_F.rvs R) (zipP 0 args) m) : MC Try.prog 38 args m R := MC_start Try.func38 inst_Less_ok mixed_ok hn h
/-! concord/inst.RightBallot -/
abbrev inst_RightBallot_r0 : NC := .reg
    (.x 0 (.box 31) [(.slot 0)] none []
    (.out [(1, (.res 0))]))
    [0]
abbrev inst_RightBallot_r1 : NC := .reg
    (.q 0 (.fld 0) [(.slot 1)] none
    (.q 1 .ld [(.res 0)] none
    (.q 2 (.icm .geq) [(.res 1), (.const (.int .i64 0))] none
    (.q 4 (.fld 0) [(.slot 1)] (some ((.res 2), true))
    (.q 5 .ld [(.res 4)] (some ((.res 2), true))
    (.q 6 (.icm .leq) [(.res 5), (.const (.int .i64 1073741824))] (some ((.res 2), true))
    (.q 7 .pick [(.res 2), (.res 6), (.const (.bool false))] none
    (.q 9 (.fld 1) [(.slot 1)] (some ((.res 7), true))
    (.q 10 .ld [(.res 9)] (some ((.res 7), true))
    (.q 11 (.icm .geq) [(.res 10), (.const (.int .i64 0))] (some ((.res 7), true))
    (.q 12 .pick [(.res 7), (.res 11), (.const (.bool false))] none
    (.q 14 (.fld 1) [(.slot 1)] (some ((.res 12), true))
    (.q 15 .ld [(.res 14)] (some ((.res 12), true))
    (.q 16 (.icm .lss) [(.res 15), (.const (.int .i64 7))] (some ((.res 12), true))
    (.q 17 .pick [(.res 12), (.res 16), (.const (.bool false))] none
    (.out [(2, (.res 17))]))))))))))))))))
    [1]
abbrev inst_RightBallot_c : NC :=
  (.seq inst_RightBallot_r0
  (.seq inst_RightBallot_r1
  .ret))
abbrev inst_RightBallot_F : FN := ⟨inst_RightBallot_c, [.slot 2]⟩
theorem inst_RightBallot_ok : compF Try.prog Try.f58 = some inst_RightBallot_F := by kernel_rfl
theorem inst_RightBallot_go {args : List Value} {m : Mem} {R : Value → Mem → Prop} (hn : args.length ≤ Try.f58.ntmps) (h : wpN Try.prog inst_RightBallot_c (retP inst_RightBallot_F.rvs R) (zipP 0 args) m) : MC Try.prog 58 args m R := MC_start Try.func58 inst_RightBallot_ok mixed_ok hn h
/-! concord/cmd.Right -/
abbrev cmd_Right_r0 : NC := .reg
    (.x 0 (.box 33) [(.slot 0)] none []
    (.out [(1, (.res 0))]))
    [0]
abbrev cmd_Right_r1 : NC := .reg
    (.q 0 (.lda 7) [(.slot 1)] none
    (.q 1 (.bld [(.int .i64 0), (.int .i64 0), (.int .i64 0), (.string ⟨#[]⟩), (.string ⟨#[]⟩), (.string ⟨#[]⟩), (.string ⟨#[]⟩)] []) [] none
    (.q 2 (.eqc false [(.i .i64), (.i .i64), (.i .i64), .s, .s, .s, .s]) [(.res 0), (.res 1)] none
    (.out [(1, (.slot 1)), (6, (.res 2))]))))
    [1]
abbrev cmd_Right_r2 : NC := .reg
    (.out [(2, (.const (.bool true)))])
    []
abbrev cmd_Right_r3 : NC := .reg
    (.q 0 (.fld 0) [(.slot 1)] none
    (.q 1 .ld [(.res 0)] none
    (.x 2 (.call 90) [(.res 1), (.const (.int .i64 5))] none []
    (.q 3 .not [(.res 2)] none
    (.q 5 (.fld 1) [(.slot 1)] (some ((.res 3), false))
    (.q 6 .ld [(.res 5)] (some ((.res 3), false))
    (.x 7 (.call 90) [(.res 6), (.const (.int .i64 8))] (some ((.res 3), false)) []
    (.q 8 .not [(.res 7)] (some ((.res 3), false))
    (.q 9 .pick [(.res 3), (.const (.bool true)), (.res 8)] none
    (.q 11 (.fld 2) [(.slot 1)] (some ((.res 9), false))
    (.q 12 .ld [(.res 11)] (some ((.res 9), false))
    (.x 13 (.call 90) [(.res 12), (.const (.int .i64 1099511627776))] (some ((.res 9), false)) []
    (.q 14 .not [(.res 13)] (some ((.res 9), false))
    (.q 15 .pick [(.res 9), (.const (.bool true)), (.res 14)] none
    (.q 17 (.lda 7) [(.slot 1)] (some ((.res 15), false))
    (.q 18 (.lda 7) [(.slot 1)] (some ((.res 15), false))
    (.x 19 (.call 91) [(.res 18)] (some ((.res 15), false)) [(17, (.lda 7), [(.slot 1)], (some ((.res 15), false)))]
    (.q 20 (.eqc true [(.i .i64), (.i .i64), (.i .i64), .s, .s, .s, .s]) [(.res 17), (.res 19)] (some ((.res 15), false))
    (.q 21 .pick [(.res 15), (.const (.bool true)), (.res 20)] none
    (.out [(1, (.slot 1)), (28, (.res 21))]))))))))))))))))))))
    [1]
abbrev cmd_Right_r4 : NC := .reg
    (.out [(2, (.const (.bool false)))])
    []
abbrev cmd_Right_r5 : NC := .reg
    (.q 0 (.fld 3) [(.slot 1)] none
    (.q 1 .ld [(.res 0)] none
    (.q 2 .lenz [(.res 1)] none
    (.q 3 (.icm .gtr) [(.res 2), (.const (.int .i64 16))] none
    (.q 5 (.fld 4) [(.slot 1)] (some ((.res 3), false))
    (.q 6 .ld [(.res 5)] (some ((.res 3), false))
    (.q 7 .lenz [(.res 6)] (some ((.res 3), false))
    (.q 8 (.icm .gtr) [(.res 7), (.const (.int .i64 16))] (some ((.res 3), false))
    (.q 9 .pick [(.res 3), (.const (.bool true)), (.res 8)] none
    (.q 11 (.fld 5) [(.slot 1)] (some ((.res 9), false))
    (.q 12 .ld [(.res 11)] (some ((.res 9), false))
    (.q 13 .lenz [(.res 12)] (some ((.res 9), false))
    (.q 14 (.icm .gtr) [(.res 13), (.const (.int .i64 64))] (some ((.res 9), false))
    (.q 15 .pick [(.res 9), (.const (.bool true)), (.res 14)] none
    (.q 17 (.fld 6) [(.slot 1)] (some ((.res 15), false))
    (.q 18 .ld [(.res 17)] (some ((.res 15), false))
    (.q 19 .lenz [(.res 18)] (some ((.res 15), false))
    (.q 20 (.icm .gtr) [(.res 19), (.const (.int .i64 64))] (some ((.res 15), false))
    (.q 21 .pick [(.res 15), (.const (.bool true)), (.res 20)] none
    (.out [(1, (.slot 1)), (3, (.res 21))]))))))))))))))))))))
    [1]
abbrev cmd_Right_r6 : NC := .reg
    (.q 1 .not [(.slot 3)] none
    (.q 3 (.fld 3) [(.slot 1)] (some ((.res 1), true))
    (.q 4 .ld [(.res 3)] (some ((.res 1), true))
    (.q 5 (.str .neq) [(.res 4), (.const (.string ⟨#[]⟩))] (some ((.res 1), true))
    (.q 6 .mv [(.res 5)] (some ((.res 1), true))
    (.q 7 (.fld 0) [(.slot 1)] (some ((.res 6), false))
    (.q 8 .ld [(.res 7)] (some ((.res 6), false))
    (.q 9 (.icm .eql) [(.res 8), (.const (.int .i64 5))] (some ((.res 6), false))
    (.q 10 .pick [(.res 6), (.const (.bool true)), (.res 9)] (some ((.res 1), true))
    (.q 11 .pick [(.res 1), (.res 10), (.const (.bool false))] none
    (.out [(2, (.res 11))])))))))))))
    [1, 3]
abbrev cmd_Right_c : NC :=
  (.seq cmd_Right_r0
  (.seq (.seq cmd_Right_r1
  (.cond (.slot 6)
    (.seq cmd_Right_r2
    .ret)
    .skip))
  (.seq (.seq cmd_Right_r3
  (.cond (.slot 28)
    (.seq cmd_Right_r4
    .ret)
    .skip))
  (.seq cmd_Right_r5
  (.seq cmd_Right_r6
  .ret)))))
abbrev cmd_Right_F : FN := ⟨cmd_Right_c, [.slot 2]⟩
theorem cmd_Right_ok : compF Try.prog Try.f59 = some cmd_Right_F := by kernel_rfl
theorem cmd_Right_go {args : List Value} {m : Mem} {R : Value → Mem → Prop} (hn : args.length ≤ Try.f59.ntmps) (h : wpN Try.prog cmd_Right_c (retP cmd_Right_F.rvs R) (zipP 0 args) m) : MC Try.prog 59 args m R := MC_start Try.func59 cmd_Right_ok mixed_ok hn h
/-! concord/deps.Right -/
abbrev deps_Right_r0 : NC := .reg
    (.x 0 (.box 35) [(.slot 0)] none []
    (.out [(1, (.res 0))]))
    [0]
abbrev deps_Right_r1 : NC := .reg
    (.q 0 (.fld 1) [(.slot 1)] none
    (.q 1 (.lda 7) [(.res 0)] none
    (.out [(1, (.slot 1)), (6, (.res 1)), (7, (.const (.int .i64 0)))])))
    [1]
abbrev deps_Right_r2 : NC := .reg
    (.q 0 (.icm .lss) [(.slot 7), (.const (.int .i64 7))] none
    (.out [(1, (.slot 1)), (6, (.slot 6)), (7, (.slot 7)), (8, (.res 0))]))
    [1, 6, 7]
abbrev deps_Right_r3 : NC := .reg
    (.q 0 (.idx 7 1) [(.slot 6), (.slot 7)] none
    (.out [(1, (.slot 1)), (4, (.res 0)), (6, (.slot 6)), (7, (.slot 7))]))
    [1, 6, 7]
abbrev deps_Right_r4 : NC := .reg
    (.q 1 (.icm .lss) [(.slot 4), (.const (.int .i64 0))] none
    (.q 3 .mv [(.slot 4)] (some ((.res 1), false))
    (.q 4 (.icm .gtr) [(.res 3), (.const (.int .i64 1073741824))] (some ((.res 1), false))
    (.q 5 .pick [(.res 1), (.const (.bool true)), (.res 4)] none
    (.out [(1, (.slot 1)), (6, (.slot 6)), (7, (.slot 7)), (15, (.res 5))])))))
    [1, 4, 6, 7]
abbrev deps_Right_r5 : NC := .reg
    (.out [(2, (.const (.bool false)))])
    []
abbrev deps_Right_r6 : NC := .reg
    (.q 0 (.iar .add) [(.slot 7), (.const (.int .i64 1))] none
    (.out [(1, (.slot 1)), (6, (.slot 6)), (7, (.res 0))]))
    [1, 6, 7]
abbrev deps_Right_l0 : NC :=
  (.seq deps_Right_r2
  (.seq (.cond (.slot 8)
    .skip
    (.exit 0))
  (.seq (.block 1 (.seq deps_Right_r3
  (.seq deps_Right_r4
  (.cond (.slot 15)
    (.seq deps_Right_r5
    .ret)
    .skip))))
  deps_Right_r6)))
abbrev deps_Right_r7 : NC := .reg
    (.q 0 (.fld 0) [(.slot 1)] none
    (.q 1 .ld [(.res 0)] none
    (.q 2 (.icm .geq) [(.res 1), (.const (.int .i64 0))] none
    (.q 4 (.fld 0) [(.slot 1)] (some ((.res 2), true))
    (.q 5 .ld [(.res 4)] (some ((.res 2), true))
    (.q 6 (.icm .leq) [(.res 5), (.const (.int .i64 1099511627776))] (some ((.res 2), true))
    (.q 7 .pick [(.res 2), (.res 6), (.const (.bool false))] none
    (.out [(2, (.res 7))]))))))))
    [1]
abbrev deps_Right_c : NC :=
  (.seq deps_Right_r0
  (.seq (.seq deps_Right_r1
  (.block 0 (.loop [1, 6, 7] deps_Right_l0)))
  (.seq deps_Right_r7
  .ret)))
abbrev deps_Right_F : FN := ⟨deps_Right_c, [.slot 2]⟩
theorem deps_Right_ok : compF Try.prog Try.f60 = some deps_Right_F := by kernel_rfl
theorem deps_Right_go {args : List Value} {m : Mem} {R : Value → Mem → Prop} (hn : args.length ≤ Try.f60.ntmps) (h : wpN Try.prog deps_Right_c (retP deps_Right_F.rvs R) (zipP 0 args) m) : MC Try.prog 60 args m R := MC_start Try.func60 deps_Right_ok mixed_ok hn h
/-! concord/cmd.Get -/
abbrev cmd_Get_r0 : NC := .reg
    (.x 0 (.alc [(.int .i64 0), (.int .i64 0), (.int .i64 0), (.string ⟨#[]⟩), (.string ⟨#[]⟩), (.string ⟨#[]⟩), (.string ⟨#[]⟩)] 33) [] none []
    (.out [(0, (.slot 0)), (2, (.res 0))]))
    [0]
abbrev cmd_Get_r1 : NC := .reg
    (.x 1 (.call 44) [(.slot 0)] none []
    (.q 2 (.bld [(.int .i64 0), (.int .i64 0), (.int .i64 0), (.string ⟨#[]⟩), (.string ⟨#[]⟩), (.string ⟨#[]⟩), (.string ⟨#[]⟩)] [(0, 1)]) [(.res 1)] none
    (.x 3 (.alc [(.int .i64 0), (.int .i64 0), (.int .i64 0), (.string ⟨#[]⟩), (.string ⟨#[]⟩), (.string ⟨#[]⟩), (.string ⟨#[]⟩)] 33) [] none []
    (.x 4 (.st 7) [(.res 3), (.res 2)] none []
    (.out [(0, (.slot 0)), (2, (.slot 2)), (3, (.res 3))])))))
    [0, 2]
abbrev cmd_Get_r2 : NC := .reg
    (.q 0 (.fld 0) [(.slot 3)] none
    (.q 1 .ld [(.res 0)] none
    (.q 2 (.icm .neq) [(.res 1), (.const (.int .i64 0))] none
    (.out [(0, (.slot 0)), (2, (.slot 2)), (3, (.slot 3)), (9, (.res 2))]))))
    [0, 2, 3]
abbrev cmd_Get_r3 : NC := .reg
    (.x 1 (.call 44) [(.slot 0)] none []
    (.q 2 (.fld 1) [(.slot 3)] none
    (.x 3 (.st 1) [(.res 2), (.res 1)] none []
    (.out [(0, (.slot 0)), (2, (.slot 2)), (3, (.slot 3))]))))
    [0, 2, 3]
abbrev cmd_Get_r4 : NC := .reg
    (.x 1 (.call 44) [(.slot 0)] none []
    (.q 2 (.fld 2) [(.slot 3)] none
    (.x 3 (.st 1) [(.res 2), (.res 1)] none []
    (.out [(0, (.slot 0)), (2, (.slot 2)), (3, (.slot 3))]))))
    [0, 2, 3]
abbrev cmd_Get_r5 : NC := .reg
    (.x 1 (.call 102) [(.slot 0), (.const (.int .i64 16))] none []
    (.q 2 (.fld 3) [(.slot 3)] none
    (.x 3 (.st 1) [(.res 2), (.res 1)] none []
    (.out [(0, (.slot 0)), (2, (.slot 2)), (3, (.slot 3))]))))
    [0, 2, 3]
abbrev cmd_Get_r6 : NC := .reg
    (.q 0 (.fld 0) [(.slot 3)] none
    (.q 1 .ld [(.res 0)] none
    (.out [(0, (.slot 0)), (2, (.slot 2)), (3, (.slot 3)), (20, (.res 1))])))
    [0, 2, 3]
abbrev cmd_Get_r7 : NC := .reg
    (.q 0 (.icm .eql) [(.slot 20), (.const (.int .i64 2))] none
    (.out [(0, (.slot 0)), (2, (.slot 2)), (3, (.slot 3)), (20, (.slot 20)), (21, (.res 0))]))
    [0, 2, 3, 20]
abbrev cmd_Get_r8 : NC := .reg
    (.x 1 (.call 102) [(.slot 0), (.const (.int .i64 64))] none []
    (.q 2 (.fld 6) [(.slot 3)] none
    (.x 3 (.st 1) [(.res 2), (.res 1)] none []
    (.out [(0, (.slot 0)), (2, (.slot 2)), (3, (.slot 3))]))))
    [0, 2, 3]
abbrev cmd_Get_r9 : NC := .reg
    (.q 0 (.icm .eql) [(.slot 20), (.const (.int .i64 4))] none
    (.out [(0, (.slot 0)), (2, (.slot 2)), (3, (.slot 3)), (20, (.slot 20)), (26, (.res 0))]))
    [0, 2, 3, 20]
abbrev cmd_Get_r10 : NC := .reg
    (.x 1 (.call 102) [(.slot 0), (.const (.int .i64 64))] none []
    (.q 2 (.fld 5) [(.slot 3)] none
    (.x 3 (.st 1) [(.res 2), (.res 1)] none []
    (.out [(0, (.slot 0)), (2, (.slot 2)), (3, (.slot 3))]))))
    [0, 2, 3]
abbrev cmd_Get_r11 : NC := .reg
    (.x 1 (.call 102) [(.slot 0), (.const (.int .i64 64))] none []
    (.q 2 (.fld 6) [(.slot 3)] none
    (.x 3 (.st 1) [(.res 2), (.res 1)] none []
    (.out [(0, (.slot 0)), (2, (.slot 2)), (3, (.slot 3))]))))
    [0, 2, 3]
abbrev cmd_Get_r12 : NC := .reg
    (.q 0 (.icm .eql) [(.slot 20), (.const (.int .i64 5))] none
    (.out [(0, (.slot 0)), (2, (.slot 2)), (3, (.slot 3)), (34, (.res 0))]))
    [0, 2, 3, 20]
abbrev cmd_Get_r13 : NC := .reg
    (.x 1 (.call 102) [(.slot 0), (.const (.int .i64 16))] none []
    (.q 2 (.fld 4) [(.slot 3)] none
    (.x 3 (.st 1) [(.res 2), (.res 1)] none []
    (.out [(0, (.slot 0)), (2, (.slot 2)), (3, (.slot 3))]))))
    [0, 2, 3]
abbrev cmd_Get_r14 : NC := .reg
    (.x 1 (.call 71) [(.slot 0)] none []
    (.q 2 (.icm .eql) [(.res 1), (.const (.int .i64 0))] none
    (.q 4 (.lda 7) [(.slot 3)] (some ((.res 2), true))
    (.x 5 (.call 59) [(.res 4)] (some ((.res 2), true)) []
    (.q 6 .not [(.res 5)] (some ((.res 2), true))
    (.q 7 .pick [(.res 2), (.res 6), (.const (.bool false))] none
    (.out [(0, (.slot 0)), (2, (.slot 2)), (3, (.slot 3)), (46, (.res 7))])))))))
    [0, 2, 3]
abbrev cmd_Get_r15 : NC := .reg
    (.x 1 (.call 72) [(.slot 0)] none []
    (.out [(0, (.slot 0)), (2, (.slot 2)), (3, (.slot 3))]))
    [0, 2, 3]
abbrev cmd_Get_r16 : NC := .reg
    (.x 1 (.call 71) [(.slot 0)] none []
    (.q 2 (.icm .neq) [(.res 1), (.const (.int .i64 0))] none
    (.out [(2, (.slot 2)), (3, (.slot 3)), (51, (.res 2))])))
    [0, 2, 3]
abbrev cmd_Get_r17 : NC := .reg
    (.q 0 (.bld [(.int .i64 0), (.int .i64 0), (.int .i64 0), (.string ⟨#[]⟩), (.string ⟨#[]⟩), (.string ⟨#[]⟩), (.string ⟨#[]⟩)] []) [] none
    (.x 1 (.st 7) [(.slot 2), (.res 0)] none []
    (.out [(2, (.slot 2))])))
    [2]
abbrev cmd_Get_r18 : NC := .reg
    (.q 0 (.lda 7) [(.slot 3)] none
    (.x 1 (.st 7) [(.slot 2), (.res 0)] none []
    (.out [(2, (.slot 2))])))
    [2, 3]
abbrev cmd_Get_c : NC :=
  (.seq cmd_Get_r0
  (.seq cmd_Get_r1
  (.seq (.seq cmd_Get_r2
  (.cond (.slot 9)
    (.seq cmd_Get_r3
    (.seq cmd_Get_r4
    cmd_Get_r5))
    .skip))
  (.seq (.seq cmd_Get_r6
  (.block 0 (.seq cmd_Get_r7
  (.cond (.slot 21)
    cmd_Get_r8
    (.seq cmd_Get_r9
    (.cond (.slot 26)
      (.seq cmd_Get_r10
      cmd_Get_r11)
      (.seq cmd_Get_r12
      (.cond (.slot 34)
        cmd_Get_r13
        .skip))))))))
  (.seq (.seq cmd_Get_r14
  (.cond (.slot 46)
    cmd_Get_r15
    .skip))
  (.seq (.seq cmd_Get_r16
  (.cond (.slot 51)
    (.seq cmd_Get_r17
    .ret)
    .skip))
  (.seq cmd_Get_r18
  .ret)))))))
abbrev cmd_Get_F : FN := ⟨cmd_Get_c, [.cells 2 7]⟩
theorem cmd_Get_ok : compF Try.prog Try.f68 = some cmd_Get_F := by kernel_rfl
theorem cmd_Get_go {args : List Value} {m : Mem} {R : Value → Mem → Prop} (hn : args.length ≤ Try.f68.ntmps) (h : wpN Try.prog cmd_Get_c (retP cmd_Get_F.rvs R) (zipP 0 args) m) : MC Try.prog 68 args m R := MC_start Try.func68 cmd_Get_ok mixed_ok hn h
/-! concord/deps.Get -/
abbrev deps_Get_r0 : NC := .reg
    (.x 0 (.alc [(.int .i64 0), (.int .i64 0), (.int .i64 0), (.int .i64 0), (.int .i64 0), (.int .i64 0), (.int .i64 0), (.int .i64 0)] 35) [] none []
    (.out [(0, (.slot 0)), (2, (.res 0))]))
    [0]
abbrev deps_Get_r1 : NC := .reg
    (.x 1 (.call 44) [(.slot 0)] none []
    (.q 2 (.bld [(.int .i64 0), (.int .i64 0), (.int .i64 0), (.int .i64 0), (.int .i64 0), (.int .i64 0), (.int .i64 0), (.int .i64 0)] [(0, 1)]) [(.res 1)] none
    (.x 3 (.alc [(.int .i64 0), (.int .i64 0), (.int .i64 0), (.int .i64 0), (.int .i64 0), (.int .i64 0), (.int .i64 0), (.int .i64 0)] 35) [] none []
    (.x 4 (.st 8) [(.res 3), (.res 2)] none []
    (.out [(0, (.slot 0)), (2, (.slot 2)), (3, (.res 3))])))))
    [0, 2]
abbrev deps_Get_r2 : NC := .reg
    (.out [(0, (.slot 0)), (2, (.slot 2)), (3, (.slot 3)), (8, (.const (.int .i64 0)))])
    [0, 2, 3]
abbrev deps_Get_r3 : NC := .reg
    (.q 0 (.icm .lss) [(.slot 8), (.const (.int .i64 7))] none
    (.out [(0, (.slot 0)), (2, (.slot 2)), (3, (.slot 3)), (8, (.slot 8)), (9, (.res 0))]))
    [0, 2, 3, 8]
abbrev deps_Get_r4 : NC := .reg
    (.out [(0, (.slot 0)), (2, (.slot 2)), (3, (.slot 3)), (4, (.slot 8)), (8, (.slot 8))])
    [0, 2, 3, 8]
abbrev deps_Get_r5 : NC := .reg
    (.x 2 (.call 44) [(.slot 0)] none []
    (.q 3 (.fld 1) [(.slot 3)] none
    (.q 4 (.ixa 7 1) [(.res 3), (.slot 4)] none
    (.x 5 (.st 1) [(.res 4), (.res 2)] none []
    (.out [(0, (.slot 0)), (2, (.slot 2)), (3, (.slot 3)), (8, (.slot 8))])))))
    [0, 2, 3, 4, 8]
abbrev deps_Get_r6 : NC := .reg
    (.q 0 (.iar .add) [(.slot 8), (.const (.int .i64 1))] none
    (.out [(0, (.slot 0)), (2, (.slot 2)), (3, (.slot 3)), (8, (.res 0))]))
    [0, 2, 3, 8]
abbrev deps_Get_l0 : NC :=
  (.seq deps_Get_r3
  (.seq (.cond (.slot 9)
    .skip
    (.exit 0))
  (.seq (.block 1 (.seq deps_Get_r4
  deps_Get_r5))
  deps_Get_r6)))
abbrev deps_Get_r7 : NC := .reg
    (.x 1 (.call 71) [(.slot 0)] none []
    (.q 2 (.icm .eql) [(.res 1), (.const (.int .i64 0))] none
    (.q 4 (.lda 8) [(.slot 3)] (some ((.res 2), true))
    (.x 5 (.call 60) [(.res 4)] (some ((.res 2), true)) []
    (.q 6 .not [(.res 5)] (some ((.res 2), true))
    (.q 7 .pick [(.res 2), (.res 6), (.const (.bool false))] none
    (.out [(0, (.slot 0)), (2, (.slot 2)), (3, (.slot 3)), (24, (.res 7))])))))))
    [0, 2, 3]
abbrev deps_Get_r8 : NC := .reg
    (.x 1 (.call 72) [(.slot 0)] none []
    (.out [(0, (.slot 0)), (2, (.slot 2)), (3, (.slot 3))]))
    [0, 2, 3]
abbrev deps_Get_r9 : NC := .reg
    (.x 1 (.call 71) [(.slot 0)] none []
    (.q 2 (.icm .neq) [(.res 1), (.const (.int .i64 0))] none
    (.out [(2, (.slot 2)), (3, (.slot 3)), (29, (.res 2))])))
    [0, 2, 3]
abbrev deps_Get_r10 : NC := .reg
    (.q 0 (.bld [(.int .i64 0), (.int .i64 0), (.int .i64 0), (.int .i64 0), (.int .i64 0), (.int .i64 0), (.int .i64 0), (.int .i64 0)] []) [] none
    (.x 1 (.st 8) [(.slot 2), (.res 0)] none []
    (.out [(2, (.slot 2))])))
    [2]
abbrev deps_Get_r11 : NC := .reg
    (.q 0 (.lda 8) [(.slot 3)] none
    (.x 1 (.st 8) [(.slot 2), (.res 0)] none []
    (.out [(2, (.slot 2))])))
    [2, 3]
abbrev deps_Get_c : NC :=
  (.seq deps_Get_r0
  (.seq deps_Get_r1
  (.seq (.seq deps_Get_r2
  (.block 0 (.loop [0, 2, 3, 8] deps_Get_l0)))
  (.seq (.seq deps_Get_r7
  (.cond (.slot 24)
    deps_Get_r8
    .skip))
  (.seq (.seq deps_Get_r9
  (.cond (.slot 29)
    (.seq deps_Get_r10
    .ret)
    .skip))
  (.seq deps_Get_r11
  .ret))))))
abbrev deps_Get_F : FN := ⟨deps_Get_c, [.cells 2 8]⟩
theorem deps_Get_ok : compF Try.prog Try.f69 = some deps_Get_F := by kernel_rfl
theorem deps_Get_go {args : List Value} {m : Mem} {R : Value → Mem → Prop} (hn : args.length ≤ Try.f69.ntmps) (h : wpN Try.prog deps_Get_c (retP deps_Get_F.rvs R) (zipP 0 args) m) : MC Try.prog 69 args m R := MC_start Try.func69 deps_Get_ok mixed_ok hn h
/-! concord/cmd.Put -/
abbrev cmd_Put_r0 : NC := .reg
    (.x 0 (.box 33) [(.slot 1)] none []
    (.out [(0, (.slot 0)), (3, (.res 0))]))
    [0, 1]
abbrev cmd_Put_r1 : NC := .reg
    (.q 0 (.lda 7) [(.slot 3)] none
    (.x 1 (.call 59) [(.res 0)] none []
    (.q 2 .not [(.res 1)] none
    (.out [(0, (.slot 0)), (3, (.slot 3)), (7, (.res 2))]))))
    [0, 3]
abbrev cmd_Put_r2 : NC := .reg
    (.x 1 (.app 5 1 1 [(.int .u8 0)]) [(.const (.slice none 0 0)), (.slot 0)] none []
    (.out [(4, (.res 1))]))
    [0]
abbrev cmd_Put_r3 : NC := .reg
    (.q 1 (.fld 0) [(.slot 3)] none
    (.q 2 .ld [(.res 1)] none
    (.x 3 (.call 55) [(.slot 0), (.res 2)] none []
    (.out [(0, (.res 3)), (3, (.slot 3))]))))
    [0, 3]
abbrev cmd_Put_r4 : NC := .reg
    (.q 0 (.fld 0) [(.slot 3)] none
    (.q 1 .ld [(.res 0)] none
    (.q 2 (.icm .eql) [(.res 1), (.const (.int .i64 0))] none
    (.out [(0, (.slot 0)), (3, (.slot 3)), (16, (.res 2))]))))
    [0, 3]
abbrev cmd_Put_r5 : NC := .reg
    (.out [(4, (.slot 0))])
    [0]
abbrev cmd_Put_r6 : NC := .reg
    (.q 1 (.fld 1) [(.slot 3)] none
    (.q 2 .ld [(.res 1)] none
    (.q 4 (.fld 2) [(.slot 3)] none
    (.q 5 .ld [(.res 4)] none
    (.q 7 (.fld 3) [(.slot 3)] none
    (.q 8 .ld [(.res 7)] none
    (.x 3 (.call 55) [(.slot 0), (.res 2)] none [(5, .ld, [(.res 4)], none), (8, .ld, [(.res 7)], none)]
    (.x 6 (.call 55) [(.res 3), (.res 5)] none [(8, .ld, [(.res 7)], none)]
    (.x 9 (.call 105) [(.res 6), (.res 8)] none []
    (.out [(0, (.res 9)), (3, (.slot 3))]))))))))))
    [0, 3]
abbrev cmd_Put_r7 : NC := .reg
    (.q 0 (.fld 0) [(.slot 3)] none
    (.q 1 .ld [(.res 0)] none
    (.out [(0, (.slot 0)), (3, (.slot 3)), (29, (.res 1))])))
    [0, 3]
abbrev cmd_Put_r8 : NC := .reg
    (.q 0 (.icm .eql) [(.slot 29), (.const (.int .i64 2))] none
    (.out [(0, (.slot 0)), (3, (.slot 3)), (29, (.slot 29)), (30, (.res 0))]))
    [0, 3, 29]
abbrev cmd_Put_r9 : NC := .reg
    (.q 1 (.fld 6) [(.slot 3)] none
    (.q 2 .ld [(.res 1)] none
    (.x 3 (.call 105) [(.slot 0), (.res 2)] none []
    (.out [(0, (.res 3))]))))
    [0, 3]
abbrev cmd_Put_r10 : NC := .reg
    (.q 0 (.icm .eql) [(.slot 29), (.const (.int .i64 4))] none
    (.out [(0, (.slot 0)), (3, (.slot 3)), (29, (.slot 29)), (36, (.res 0))]))
    [0, 3, 29]
abbrev cmd_Put_r11 : NC := .reg
    (.q 1 (.fld 5) [(.slot 3)] none
    (.q 2 .ld [(.res 1)] none
    (.q 4 (.fld 6) [(.slot 3)] none
    (.q 5 .ld [(.res 4)] none
    (.x 3 (.call 105) [(.slot 0), (.res 2)] none [(5, .ld, [(.res 4)], none)]
    (.x 6 (.call 105) [(.res 3), (.res 5)] none []
    (.out [(0, (.res 6))])))))))
    [0, 3]
abbrev cmd_Put_r12 : NC := .reg
    (.q 0 (.icm .eql) [(.slot 29), (.const (.int .i64 5))] none
    (.out [(0, (.slot 0)), (3, (.slot 3)), (45, (.res 0))]))
    [0, 3, 29]
abbrev cmd_Put_r13 : NC := .reg
    (.q 1 (.fld 4) [(.slot 3)] none
    (.q 2 .ld [(.res 1)] none
    (.x 3 (.call 105) [(.slot 0), (.res 2)] none []
    (.out [(0, (.res 3))]))))
    [0, 3]
abbrev cmd_Put_r14 : NC := .reg
    (.out [(4, (.slot 0))])
    [0]
abbrev cmd_Put_c : NC :=
  (.seq cmd_Put_r0
  (.seq (.seq cmd_Put_r1
  (.cond (.slot 7)
    (.seq cmd_Put_r2
    .ret)
    .skip))
  (.seq cmd_Put_r3
  (.seq (.seq cmd_Put_r4
  (.cond (.slot 16)
    (.seq cmd_Put_r5
    .ret)
    .skip))
  (.seq cmd_Put_r6
  (.seq (.seq cmd_Put_r7
  (.block 0 (.seq cmd_Put_r8
  (.cond (.slot 30)
    cmd_Put_r9
    (.seq cmd_Put_r10
    (.cond (.slot 36)
      cmd_Put_r11
      (.seq cmd_Put_r12
      (.cond (.slot 45)
        cmd_Put_r13
        .skip))))))))
  (.seq cmd_Put_r14
  .ret)))))))
abbrev cmd_Put_F : FN := ⟨cmd_Put_c, [.slot 4]⟩
theorem cmd_Put_ok : compF Try.prog Try.f81 = some cmd_Put_F := by kernel_rfl
theorem cmd_Put_go {args : List Value} {m : Mem} {R : Value → Mem → Prop} (hn : args.length ≤ Try.f81.ntmps) (h : wpN Try.prog cmd_Put_c (retP cmd_Put_F.rvs R) (zipP 0 args) m) : MC Try.prog 81 args m R := MC_start Try.func81 cmd_Put_ok mixed_ok hn h
/-! concord/deps.Put -/
abbrev deps_Put_r0 : NC := .reg
    (.x 0 (.box 35) [(.slot 1)] none []
    (.out [(0, (.slot 0)), (3, (.res 0))]))
    [0, 1]
abbrev deps_Put_r1 : NC := .reg
    (.q 1 (.fld 0) [(.slot 3)] none
    (.q 2 .ld [(.res 1)] none
    (.x 3 (.call 55) [(.slot 0), (.res 2)] none []
    (.out [(0, (.res 3)), (3, (.slot 3))]))))
    [0, 3]
abbrev deps_Put_r2 : NC := .reg
    (.q 0 (.fld 1) [(.slot 3)] none
    (.q 1 (.lda 7) [(.res 0)] none
    (.out [(0, (.slot 0)), (12, (.res 1)), (13, (.const (.int .i64 0)))])))
    [0, 3]
abbrev deps_Put_r3 : NC := .reg
    (.q 0 (.icm .lss) [(.slot 13), (.const (.int .i64 7))] none
    (.out [(0, (.slot 0)), (12, (.slot 12)), (13, (.slot 13)), (14, (.res 0))]))
    [0, 12, 13]
abbrev deps_Put_r4 : NC := .reg
    (.q 0 (.idx 7 1) [(.slot 12), (.slot 13)] none
    (.out [(0, (.slot 0)), (6, (.res 0)), (12, (.slot 12)), (13, (.slot 13))]))
    [0, 12, 13]
abbrev deps_Put_r5 : NC := .reg
    (.x 2 (.call 55) [(.slot 0), (.slot 6)] none []
    (.out [(0, (.res 2)), (12, (.slot 12)), (13, (.slot 13))]))
    [0, 6, 12, 13]
abbrev deps_Put_r6 : NC := .reg
    (.q 0 (.iar .add) [(.slot 13), (.const (.int .i64 1))] none
    (.out [(0, (.slot 0)), (12, (.slot 12)), (13, (.res 0))]))
    [0, 12, 13]
abbrev deps_Put_l0 : NC :=
  (.seq deps_Put_r3
  (.seq (.cond (.slot 14)
    .skip
    (.exit 0))
  (.seq (.block 1 (.seq deps_Put_r4
  deps_Put_r5))
  deps_Put_r6)))
abbrev deps_Put_r7 : NC := .reg
    (.out [(4, (.slot 0))])
    [0]
abbrev deps_Put_c : NC :=
  (.seq deps_Put_r0
  (.seq deps_Put_r1
  (.seq (.seq deps_Put_r2
  (.block 0 (.loop [0, 12, 13] deps_Put_l0)))
  (.seq deps_Put_r7
  .ret))))
abbrev deps_Put_F : FN := ⟨deps_Put_c, [.slot 4]⟩
theorem deps_Put_ok : compF Try.prog Try.f83 = some deps_Put_F := by kernel_rfl
theorem deps_Put_go {args : List Value} {m : Mem} {R : Value → Mem → Prop} (hn : args.length ≤ Try.f83.ntmps) (h : wpN Try.prog deps_Put_c (retP deps_Put_F.rvs R) (zipP 0 args) m) : MC Try.prog 83 args m R := MC_start Try.func83 deps_Put_ok mixed_ok hn h
/-! concord/cmd.within -/
abbrev cmd_within_r0 : NC := .reg
    (.out [(0, (.slot 0)), (1, (.slot 1))])
    [0, 1]
abbrev cmd_within_r1 : NC := .reg
    (.q 1 (.icm .geq) [(.slot 0), (.const (.int .i64 1))] none
    (.q 3 .mv [(.slot 0)] (some ((.res 1), true))
    (.q 4 .mv [(.slot 1)] (some ((.res 1), true))
    (.q 5 (.icm .leq) [(.res 3), (.res 4)] (some ((.res 1), true))
    (.q 6 .pick [(.res 1), (.res 5), (.const (.bool false))] none
    (.out [(4, (.res 6))]))))))
    [0, 1]
abbrev cmd_within_c : NC :=
  (.seq cmd_within_r0
  (.seq cmd_within_r1
  .ret))
abbrev cmd_within_F : FN := ⟨cmd_within_c, [.slot 4]⟩
theorem cmd_within_ok : compF Try.prog Try.f90 = some cmd_within_F := by kernel_rfl
theorem cmd_within_go {args : List Value} {m : Mem} {R : Value → Mem → Prop} (hn : args.length ≤ Try.f90.ntmps) (h : wpN Try.prog cmd_within_c (retP cmd_within_F.rvs R) (zipP 0 args) m) : MC Try.prog 90 args m R := MC_start Try.func90 cmd_within_ok mixed_ok hn h
/-! concord/cmd.bare -/
abbrev cmd_bare_r0 : NC := .reg
    (.x 0 (.box 33) [(.slot 0)] none []
    (.x 1 (.alc [(.int .i64 0), (.int .i64 0), (.int .i64 0), (.string ⟨#[]⟩), (.string ⟨#[]⟩), (.string ⟨#[]⟩), (.string ⟨#[]⟩)] 33) [] none []
    (.out [(1, (.res 0)), (2, (.res 1))])))
    [0]
abbrev cmd_bare_r1 : NC := .reg
    (.q 0 (.fld 0) [(.slot 1)] none
    (.q 1 .ld [(.res 0)] none
    (.q 2 (.fld 1) [(.slot 1)] none
    (.q 3 .ld [(.res 2)] none
    (.q 4 (.fld 2) [(.slot 1)] none
    (.q 5 .ld [(.res 4)] none
    (.q 6 (.fld 3) [(.slot 1)] none
    (.q 7 .ld [(.res 6)] none
    (.q 8 (.bld [(.int .i64 0), (.int .i64 0), (.int .i64 0), (.string ⟨#[]⟩), (.string ⟨#[]⟩), (.string ⟨#[]⟩), (.string ⟨#[]⟩)] [(0, 1), (1, 1), (2, 1), (3, 1)]) [(.res 1), (.res 3), (.res 5), (.res 7)] none
    (.x 9 (.alc [(.int .i64 0), (.int .i64 0), (.int .i64 0), (.string ⟨#[]⟩), (.string ⟨#[]⟩), (.string ⟨#[]⟩), (.string ⟨#[]⟩)] 33) [] none []
    (.x 10 (.st 7) [(.res 9), (.res 8)] none []
    (.out [(1, (.slot 1)), (2, (.slot 2)), (3, (.res 9))]))))))))))))
    [1, 2]
abbrev cmd_bare_r2 : NC := .reg
    (.q 0 (.fld 0) [(.slot 1)] none
    (.q 1 .ld [(.res 0)] none
    (.out [(1, (.slot 1)), (2, (.slot 2)), (3, (.slot 3)), (14, (.res 1))])))
    [1, 2, 3]
abbrev cmd_bare_r3 : NC := .reg
    (.q 0 (.icm .eql) [(.slot 14), (.const (.int .i64 2))] none
    (.out [(1, (.slot 1)), (2, (.slot 2)), (3, (.slot 3)), (14, (.slot 14)), (15, (.res 0))]))
    [1, 2, 3, 14]
abbrev cmd_bare_r4 : NC := .reg
    (.q 0 (.fld 6) [(.slot 1)] none
    (.q 1 .ld [(.res 0)] none
    (.q 2 (.fld 6) [(.slot 3)] none
    (.x 3 (.st 1) [(.res 2), (.res 1)] none []
    (.out [(2, (.slot 2)), (3, (.slot 3))])))))
    [1, 2, 3]
abbrev cmd_bare_r5 : NC := .reg
    (.q 0 (.icm .eql) [(.slot 14), (.const (.int .i64 4))] none
    (.out [(1, (.slot 1)), (2, (.slot 2)), (3, (.slot 3)), (14, (.slot 14)), (20, (.res 0))]))
    [1, 2, 3, 14]
abbrev cmd_bare_r6 : NC := .reg
    (.q 0 (.fld 5) [(.slot 1)] none
    (.q 1 .ld [(.res 0)] none
    (.q 2 (.fld 6) [(.slot 1)] none
    (.q 3 .ld [(.res 2)] none
    (.q 4 (.fld 5) [(.slot 3)] none
    (.x 5 (.st 1) [(.res 4), (.res 1)] none [(3, .ld, [(.res 2)], none)]
    (.q 6 (.fld 6) [(.slot 3)] none
    (.x 7 (.st 1) [(.res 6), (.res 3)] none []
    (.out [(2, (.slot 2)), (3, (.slot 3))])))))))))
    [1, 2, 3]
abbrev cmd_bare_r7 : NC := .reg
    (.q 0 (.icm .eql) [(.slot 14), (.const (.int .i64 5))] none
    (.out [(1, (.slot 1)), (2, (.slot 2)), (3, (.slot 3)), (28, (.res 0))]))
    [1, 2, 3, 14]
abbrev cmd_bare_r8 : NC := .reg
    (.q 0 (.fld 4) [(.slot 1)] none
    (.q 1 .ld [(.res 0)] none
    (.q 2 (.fld 4) [(.slot 3)] none
    (.x 3 (.st 1) [(.res 2), (.res 1)] none []
    (.out [(2, (.slot 2)), (3, (.slot 3))])))))
    [1, 2, 3]
abbrev cmd_bare_r9 : NC := .reg
    (.q 0 (.lda 7) [(.slot 3)] none
    (.x 1 (.st 7) [(.slot 2), (.res 0)] none []
    (.out [(2, (.slot 2))])))
    [2, 3]
abbrev cmd_bare_c : NC :=
  (.seq cmd_bare_r0
  (.seq cmd_bare_r1
  (.seq (.seq cmd_bare_r2
  (.block 0 (.seq cmd_bare_r3
  (.cond (.slot 15)
    cmd_bare_r4
    (.seq cmd_bare_r5
    (.cond (.slot 20)
      cmd_bare_r6
      (.seq cmd_bare_r7
      (.cond (.slot 28)
        cmd_bare_r8
        .skip))))))))
  (.seq cmd_bare_r9
  .ret))))
abbrev cmd_bare_F : FN := ⟨cmd_bare_c, [.cells 2 7]⟩
theorem cmd_bare_ok : compF Try.prog Try.f91 = some cmd_bare_F := by kernel_rfl
theorem cmd_bare_go {args : List Value} {m : Mem} {R : Value → Mem → Prop} (hn : args.length ≤ Try.f91.ntmps) (h : wpN Try.prog cmd_bare_c (retP cmd_bare_F.rvs R) (zipP 0 args) m) : MC Try.prog 91 args m R := MC_start Try.func91 cmd_bare_ok mixed_ok hn h
end Go.Fw

namespace Go.Fw
open Go.Proofs
/-! concord/letter.RightCell -/
abbrev letter_RightCell_r0 : NC := .reg
    (.x 0 (.box 37) [(.slot 0)] none []
    (.out [(1, (.res 0))]))
    [0]
abbrev letter_RightCell_r1 : NC := .reg
    (.q 0 (.fld 0) [(.slot 1)] none
    (.q 1 .ld [(.res 0)] none
    (.q 2 (.icm .lss) [(.res 1), (.const (.int .i64 0))] none
    (.q 4 (.fld 0) [(.slot 1)] (some ((.res 2), false))
    (.q 5 .ld [(.res 4)] (some ((.res 2), false))
    (.q 6 (.icm .gtr) [(.res 5), (.const (.int .i64 3))] (some ((.res 2), false))
    (.q 7 .pick [(.res 2), (.const (.bool true)), (.res 6)] none
    (.q 9 (.fld 1) [(.slot 1)] (some ((.res 7), false))
    (.q 10 (.lda 2) [(.res 9)] (some ((.res 7), false))
    (.x 11 (.call 58) [(.res 10)] (some ((.res 7), false)) []
    (.q 12 .not [(.res 11)] (some ((.res 7), false))
    (.q 13 .pick [(.res 7), (.const (.bool true)), (.res 12)] none
    (.q 15 (.fld 3) [(.slot 1)] (some ((.res 13), false))
    (.q 16 (.lda 2) [(.res 15)] (some ((.res 13), false))
    (.x 17 (.call 58) [(.res 16)] (some ((.res 13), false)) []
    (.q 18 .not [(.res 17)] (some ((.res 13), false))
    (.q 19 .pick [(.res 13), (.const (.bool true)), (.res 18)] none
    (.q 21 (.fld 1) [(.slot 1)] (some ((.res 19), false))
    (.q 22 (.lda 2) [(.res 21)] (some ((.res 19), false))
    (.q 23 (.fld 3) [(.slot 1)] (some ((.res 19), false))
    (.q 24 (.lda 2) [(.res 23)] (some ((.res 19), false))
    (.x 25 (.call 20) [(.res 22), (.res 24)] (some ((.res 19), false)) []
    (.q 26 .pick [(.res 19), (.const (.bool true)), (.res 25)] none
    (.out [(1, (.slot 1)), (29, (.res 26))]))))))))))))))))))))))))
    [1]
abbrev letter_RightCell_r2 : NC := .reg
    (.out [(2, (.const (.bool false)))])
    []
abbrev letter_RightCell_r3 : NC := .reg
    (.q 0 (.fld 20) [(.slot 1)] none
    (.q 1 .ld [(.res 0)] none
    (.q 3 (.fld 0) [(.slot 1)] (some ((.res 1), true))
    (.q 4 .ld [(.res 3)] (some ((.res 1), true))
    (.q 5 (.icm .neq) [(.res 4), (.const (.int .i64 1))] (some ((.res 1), true))
    (.q 6 .mv [(.res 5)] (some ((.res 1), true))
    (.q 7 (.fld 3) [(.slot 1)] (some ((.res 6), false))
    (.q 8 (.lda 2) [(.res 7)] (some ((.res 6), false))
    (.q 9 (.bld [(.int .i64 0), (.int .i64 0)] []) [] (some ((.res 6), false))
    (.q 10 (.eqc true [(.i .i64), (.i .i64)]) [(.res 8), (.res 9)] (some ((.res 6), false))
    (.q 11 .pick [(.res 6), (.const (.bool true)), (.res 10)] (some ((.res 1), true))
    (.q 12 .pick [(.res 1), (.res 11), (.const (.bool false))] none
    (.q 14 (.fld 0) [(.slot 1)] (some ((.res 12), false))
    (.q 15 .ld [(.res 14)] (some ((.res 12), false))
    (.q 16 (.icm .eql) [(.res 15), (.const (.int .i64 0))] (some ((.res 12), false))
    (.q 17 .mv [(.res 16)] (some ((.res 12), false))
    (.q 18 (.lda 21) [(.slot 1)] (some ((.res 17), true))
    (.q 19 (.fld 1) [(.slot 1)] (some ((.res 17), true))
    (.q 20 (.lda 2) [(.res 19)] (some ((.res 17), true))
    (.q 21 (.bld [(.int .i64 0), (.int .i64 0), (.int .i64 0), (.int .i64 0), (.int .i64 0), (.int .i64 0), (.int .i64 0), (.int .i64 0), (.string ⟨#[]⟩), (.string ⟨#[]⟩), (.string ⟨#[]⟩), (.string ⟨#[]⟩), (.int .i64 0), (.int .i64 0), (.int .i64 0), (.int .i64 0), (.int .i64 0), (.int .i64 0), (.int .i64 0), (.int .i64 0), (.bool false)] [(1, 2)]) [(.res 20)] (some ((.res 17), true))
    (.q 22 (.eqc true [(.i .i64), (.i .i64), (.i .i64), (.i .i64), (.i .i64), (.i .i64), (.i .i64), (.i .i64), .s, .s, .s, .s, (.i .i64), (.i .i64), (.i .i64), (.i .i64), (.i .i64), (.i .i64), (.i .i64), (.i .i64), .b]) [(.res 18), (.res 21)] (some ((.res 17), true))
    (.q 23 .pick [(.res 17), (.res 22), (.const (.bool false))] (some ((.res 12), false))
    (.q 24 .pick [(.res 12), (.const (.bool true)), (.res 23)] none
    (.out [(1, (.slot 1)), (54, (.res 24))]))))))))))))))))))))))))
    [1]
abbrev letter_RightCell_r4 : NC := .reg
    (.out [(2, (.const (.bool false)))])
    []
abbrev letter_RightCell_r5 : NC := .reg
    (.q 0 (.fld 5) [(.slot 1)] none
    (.q 1 (.lda 7) [(.res 0)] none
    (.x 2 (.call 59) [(.res 1)] none []
    (.q 4 (.fld 12) [(.slot 1)] (some ((.res 2), true))
    (.q 5 (.lda 8) [(.res 4)] (some ((.res 2), true))
    (.x 6 (.call 60) [(.res 5)] (some ((.res 2), true)) []
    (.q 7 .pick [(.res 2), (.res 6), (.const (.bool false))] none
    (.out [(2, (.res 7))]))))))))
    [1]
abbrev letter_RightCell_c : NC :=
  (.seq letter_RightCell_r0
  (.seq (.seq letter_RightCell_r1
  (.cond (.slot 29)
    (.seq letter_RightCell_r2
    .ret)
    .skip))
  (.seq (.seq letter_RightCell_r3
  (.cond (.slot 54)
    (.seq letter_RightCell_r4
    .ret)
    .skip))
  (.seq letter_RightCell_r5
  .ret))))
abbrev letter_RightCell_F : FN := ⟨letter_RightCell_c, [.slot 2]⟩
theorem letter_RightCell_ok : compF Try.prog Try.f34 = some letter_RightCell_F := by kernel_rfl
theorem letter_RightCell_go {args : List Value} {m : Mem} {R : Value → Mem → Prop} (hn : args.length ≤ Try.f34.ntmps) (h : wpN Try.prog letter_RightCell_c (retP letter_RightCell_F.rvs R) (zipP 0 args) m) : MC Try.prog 34 args m R := MC_start Try.func34 letter_RightCell_ok mixed_ok hn h
/-! concord/letter.GetCell -/
abbrev letter_GetCell_r0 : NC := .reg
    (.x 0 (.alc [(.int .i64 0), (.int .i64 0), (.int .i64 0), (.int .i64 0), (.int .i64 0), (.int .i64 0), (.int .i64 0), (.int .i64 0), (.string ⟨#[]⟩), (.string ⟨#[]⟩), (.string ⟨#[]⟩), (.string ⟨#[]⟩), (.int .i64 0), (.int .i64 0), (.int .i64 0), (.int .i64 0), (.int .i64 0), (.int .i64 0), (.int .i64 0), (.int .i64 0), (.bool false)] 37) [] none []
    (.out [(0, (.slot 0)), (2, (.res 0))]))
    [0]
abbrev letter_GetCell_r1 : NC := .reg
    (.x 1 (.call 44) [(.slot 0)] none []
    (.q 2 (.bld [(.int .i64 0), (.int .i64 0), (.int .i64 0), (.int .i64 0), (.int .i64 0), (.int .i64 0), (.int .i64 0), (.int .i64 0), (.string ⟨#[]⟩), (.string ⟨#[]⟩), (.string ⟨#[]⟩), (.string ⟨#[]⟩), (.int .i64 0), (.int .i64 0), (.int .i64 0), (.int .i64 0), (.int .i64 0), (.int .i64 0), (.int .i64 0), (.int .i64 0), (.bool false)] [(0, 1)]) [(.res 1)] none
    (.x 3 (.alc [(.int .i64 0), (.int .i64 0), (.int .i64 0), (.int .i64 0), (.int .i64 0), (.int .i64 0), (.int .i64 0), (.int .i64 0), (.string ⟨#[]⟩), (.string ⟨#[]⟩), (.string ⟨#[]⟩), (.string ⟨#[]⟩), (.int .i64 0), (.int .i64 0), (.int .i64 0), (.int .i64 0), (.int .i64 0), (.int .i64 0), (.int .i64 0), (.int .i64 0), (.bool false)] 37) [] none []
    (.x 4 (.st 21) [(.res 3), (.res 2)] none []
    (.out [(0, (.slot 0)), (2, (.slot 2)), (3, (.res 3))])))))
    [0, 2]
abbrev letter_GetCell_r2 : NC := .reg
    (.x 1 (.call 67) [(.slot 0)] none []
    (.q 2 (.fld 1) [(.slot 3)] none
    (.x 3 (.st 2) [(.res 2), (.res 1)] none []
    (.out [(0, (.slot 0)), (2, (.slot 2)), (3, (.slot 3))]))))
    [0, 2, 3]
abbrev letter_GetCell_r3 : NC := .reg
    (.q 0 (.fld 0) [(.slot 3)] none
    (.q 1 .ld [(.res 0)] none
    (.q 2 (.icm .neq) [(.res 1), (.const (.int .i64 0))] none
    (.out [(0, (.slot 0)), (2, (.slot 2)), (3, (.slot 3)), (12, (.res 2))]))))
    [0, 2, 3]
abbrev letter_GetCell_r4 : NC := .reg
    (.x 1 (.call 67) [(.slot 0)] none []
    (.q 2 (.fld 3) [(.slot 3)] none
    (.x 3 (.st 2) [(.res 2), (.res 1)] none []
    (.out [(0, (.slot 0)), (2, (.slot 2)), (3, (.slot 3))]))))
    [0, 2, 3]
abbrev letter_GetCell_r5 : NC := .reg
    (.x 1 (.call 68) [(.slot 0)] none []
    (.q 2 (.fld 5) [(.slot 3)] none
    (.x 3 (.st 7) [(.res 2), (.res 1)] none []
    (.out [(0, (.slot 0)), (2, (.slot 2)), (3, (.slot 3))]))))
    [0, 2, 3]
abbrev letter_GetCell_r6 : NC := .reg
    (.x 1 (.call 69) [(.slot 0)] none []
    (.q 2 (.fld 12) [(.slot 3)] none
    (.x 3 (.st 8) [(.res 2), (.res 1)] none []
    (.out [(0, (.slot 0)), (2, (.slot 2)), (3, (.slot 3))]))))
    [0, 2, 3]
abbrev letter_GetCell_r7 : NC := .reg
    (.x 1 (.call 70) [(.slot 0)] none []
    (.q 2 (.fld 20) [(.slot 3)] none
    (.x 3 (.st 1) [(.res 2), (.res 1)] none []
    (.out [(0, (.slot 0)), (2, (.slot 2)), (3, (.slot 3))]))))
    [0, 2, 3]
abbrev letter_GetCell_r8 : NC := .reg
    (.x 1 (.call 71) [(.slot 0)] none []
    (.q 2 (.icm .eql) [(.res 1), (.const (.int .i64 0))] none
    (.q 4 (.lda 21) [(.slot 3)] (some ((.res 2), true))
    (.x 5 (.call 34) [(.res 4)] (some ((.res 2), true)) []
    (.q 6 .not [(.res 5)] (some ((.res 2), true))
    (.q 7 .pick [(.res 2), (.res 6), (.const (.bool false))] none
    (.out [(0, (.slot 0)), (2, (.slot 2)), (3, (.slot 3)), (32, (.res 7))])))))))
    [0, 2, 3]
abbrev letter_GetCell_r9 : NC := .reg
    (.x 1 (.call 72) [(.slot 0)] none []
    (.out [(0, (.slot 0)), (2, (.slot 2)), (3, (.slot 3))]))
    [0, 2, 3]
abbrev letter_GetCell_r10 : NC := .reg
    (.x 1 (.call 71) [(.slot 0)] none []
    (.q 2 (.icm .neq) [(.res 1), (.const (.int .i64 0))] none
    (.out [(2, (.slot 2)), (3, (.slot 3)), (37, (.res 2))])))
    [0, 2, 3]
abbrev letter_GetCell_r11 : NC := .reg
    (.q 0 (.bld [(.int .i64 0), (.int .i64 0), (.int .i64 0), (.int .i64 0), (.int .i64 0), (.int .i64 0), (.int .i64 0), (.int .i64 0), (.string ⟨#[]⟩), (.string ⟨#[]⟩), (.string ⟨#[]⟩), (.string ⟨#[]⟩), (.int .i64 0), (.int .i64 0), (.int .i64 0), (.int .i64 0), (.int .i64 0), (.int .i64 0), (.int .i64 0), (.int .i64 0), (.bool false)] []) [] none
    (.x 1 (.st 21) [(.slot 2), (.res 0)] none []
    (.out [(2, (.slot 2))])))
    [2]
abbrev letter_GetCell_r12 : NC := .reg
    (.q 0 (.lda 21) [(.slot 3)] none
    (.x 1 (.st 21) [(.slot 2), (.res 0)] none []
    (.out [(2, (.slot 2))])))
    [2, 3]
abbrev letter_GetCell_c : NC :=
  (.seq letter_GetCell_r0
  (.seq letter_GetCell_r1
  (.seq letter_GetCell_r2
  (.seq (.seq letter_GetCell_r3
  (.cond (.slot 12)
    (.seq letter_GetCell_r4
    (.seq letter_GetCell_r5
    (.seq letter_GetCell_r6
    letter_GetCell_r7)))
    .skip))
  (.seq (.seq letter_GetCell_r8
  (.cond (.slot 32)
    letter_GetCell_r9
    .skip))
  (.seq (.seq letter_GetCell_r10
  (.cond (.slot 37)
    (.seq letter_GetCell_r11
    .ret)
    .skip))
  (.seq letter_GetCell_r12
  .ret)))))))
abbrev letter_GetCell_F : FN := ⟨letter_GetCell_c, [.cells 2 21]⟩
theorem letter_GetCell_ok : compF Try.prog Try.f45 = some letter_GetCell_F := by kernel_rfl
theorem letter_GetCell_go {args : List Value} {m : Mem} {R : Value → Mem → Prop} (hn : args.length ≤ Try.f45.ntmps) (h : wpN Try.prog letter_GetCell_c (retP letter_GetCell_F.rvs R) (zipP 0 args) m) : MC Try.prog 45 args m R := MC_start Try.func45 letter_GetCell_ok mixed_ok hn h
/-! concord/letter.PutCell -/
abbrev letter_PutCell_r0 : NC := .reg
    (.x 0 (.box 37) [(.slot 1)] none []
    (.out [(0, (.slot 0)), (3, (.res 0))]))
    [0, 1]
abbrev letter_PutCell_r1 : NC := .reg
    (.q 0 (.lda 21) [(.slot 3)] none
    (.x 1 (.call 34) [(.res 0)] none []
    (.q 2 .not [(.res 1)] none
    (.out [(0, (.slot 0)), (3, (.slot 3)), (7, (.res 2))]))))
    [0, 3]
abbrev letter_PutCell_r2 : NC := .reg
    (.x 1 (.app 5 1 1 [(.int .u8 0)]) [(.const (.slice none 0 0)), (.slot 0)] none []
    (.out [(4, (.res 1))]))
    [0]
abbrev letter_PutCell_r3 : NC := .reg
    (.q 1 (.fld 0) [(.slot 3)] none
    (.q 2 .ld [(.res 1)] none
    (.q 4 (.fld 1) [(.slot 3)] none
    (.q 5 (.lda 2) [(.res 4)] none
    (.x 3 (.call 55) [(.slot 0), (.res 2)] none [(5, (.lda 2), [(.res 4)], none)]
    (.x 6 (.call 80) [(.res 3), (.res 5)] none []
    (.out [(0, (.res 6)), (3, (.slot 3))])))))))
    [0, 3]
abbrev letter_PutCell_r4 : NC := .reg
    (.q 0 (.fld 0) [(.slot 3)] none
    (.q 1 .ld [(.res 0)] none
    (.q 2 (.icm .eql) [(.res 1), (.const (.int .i64 0))] none
    (.out [(0, (.slot 0)), (3, (.slot 3)), (19, (.res 2))]))))
    [0, 3]
abbrev letter_PutCell_r5 : NC := .reg
    (.out [(4, (.slot 0))])
    [0]
abbrev letter_PutCell_r6 : NC := .reg
    (.q 1 (.fld 3) [(.slot 3)] none
    (.q 2 (.lda 2) [(.res 1)] none
    (.q 4 (.fld 5) [(.slot 3)] none
    (.q 5 (.lda 7) [(.res 4)] none
    (.x 3 (.call 80) [(.slot 0), (.res 2)] none [(5, (.lda 7), [(.res 4)], none)]
    (.x 6 (.call 81) [(.res 3), (.res 5)] none []
    (.out [(0, (.res 6)), (3, (.slot 3))])))))))
    [0, 3]
abbrev letter_PutCell_r7 : NC := .reg
    (.q 1 (.fld 12) [(.slot 3)] none
    (.q 2 (.lda 8) [(.res 1)] none
    (.q 4 (.fld 20) [(.slot 3)] none
    (.q 5 .ld [(.res 4)] none
    (.x 3 (.call 83) [(.slot 0), (.res 2)] none [(5, .ld, [(.res 4)], none)]
    (.x 6 (.call 82) [(.res 3), (.res 5)] none []
    (.out [(4, (.res 6))])))))))
    [0, 3]
abbrev letter_PutCell_c : NC :=
  (.seq letter_PutCell_r0
  (.seq (.seq letter_PutCell_r1
  (.cond (.slot 7)
    (.seq letter_PutCell_r2
    .ret)
    .skip))
  (.seq letter_PutCell_r3
  (.seq (.seq letter_PutCell_r4
  (.cond (.slot 19)
    (.seq letter_PutCell_r5
    .ret)
    .skip))
  (.seq letter_PutCell_r6
  (.seq letter_PutCell_r7
  .ret))))))
abbrev letter_PutCell_F : FN := ⟨letter_PutCell_c, [.slot 4]⟩
theorem letter_PutCell_ok : compF Try.prog Try.f54 = some letter_PutCell_F := by kernel_rfl
theorem letter_PutCell_go {args : List Value} {m : Mem} {R : Value → Mem → Prop} (hn : args.length ≤ Try.f54.ntmps) (h : wpN Try.prog letter_PutCell_c (retP letter_PutCell_F.rvs R) (zipP 0 args) m) : MC Try.prog 54 args m R := MC_start Try.func54 letter_PutCell_ok mixed_ok hn h
/-! concord/letter.getBallot -/
abbrev letter_getBallot_r0 : NC := .reg
    (.x 0 (.alc [(.int .i64 0), (.int .i64 0)] 31) [] none []
    (.out [(0, (.slot 0)), (2, (.res 0))]))
    [0]
abbrev letter_getBallot_r1 : NC := .reg
    (.x 1 (.call 44) [(.slot 0)] none []
    (.out [(0, (.slot 0)), (2, (.slot 2)), (3, (.res 1))]))
    [0, 2]
abbrev letter_getBallot_r2 : NC := .reg
    (.x 2 (.call 44) [(.slot 0)] none []
    (.q 3 (.bld [(.int .i64 0), (.int .i64 0)] [(0, 1), (1, 1)]) [(.slot 3), (.res 2)] none
    (.x 4 (.st 2) [(.slot 2), (.res 3)] none []
    (.out [(2, (.slot 2))]))))
    [0, 2, 3]
abbrev letter_getBallot_c : NC :=
  (.seq letter_getBallot_r0
  (.seq letter_getBallot_r1
  (.seq letter_getBallot_r2
  .ret)))
abbrev letter_getBallot_F : FN := ⟨letter_getBallot_c, [.cells 2 2]⟩
theorem letter_getBallot_ok : compF Try.prog Try.f67 = some letter_getBallot_F := by kernel_rfl
theorem letter_getBallot_go {args : List Value} {m : Mem} {R : Value → Mem → Prop} (hn : args.length ≤ Try.f67.ntmps) (h : wpN Try.prog letter_getBallot_c (retP letter_getBallot_F.rvs R) (zipP 0 args) m) : MC Try.prog 67 args m R := MC_start Try.func67 letter_getBallot_ok mixed_ok hn h
/-! concord/letter.ballot -/
abbrev letter_ballot_r0 : NC := .reg
    (.x 0 (.box 31) [(.slot 1)] none []
    (.out [(0, (.slot 0)), (3, (.res 0))]))
    [0, 1]
abbrev letter_ballot_r1 : NC := .reg
    (.q 1 (.fld 0) [(.slot 3)] none
    (.q 2 .ld [(.res 1)] none
    (.q 4 (.fld 1) [(.slot 3)] none
    (.q 5 .ld [(.res 4)] none
    (.x 3 (.call 55) [(.slot 0), (.res 2)] none [(5, .ld, [(.res 4)], none)]
    (.x 6 (.call 55) [(.res 3), (.res 5)] none []
    (.out [(4, (.res 6))])))))))
    [0, 3]
abbrev letter_ballot_c : NC :=
  (.seq letter_ballot_r0
  (.seq letter_ballot_r1
  .ret))
abbrev letter_ballot_F : FN := ⟨letter_ballot_c, [.slot 4]⟩
theorem letter_ballot_ok : compF Try.prog Try.f80 = some letter_ballot_F := by kernel_rfl
theorem letter_ballot_go {args : List Value} {m : Mem} {R : Value → Mem → Prop} (hn : args.length ≤ Try.f80.ntmps) (h : wpN Try.prog letter_ballot_c (retP letter_ballot_F.rvs R) (zipP 0 args) m) : MC Try.prog 80 args m R := MC_start Try.func80 letter_ballot_ok mixed_ok hn h
end Go.Fw

namespace Go.Fw
open Go.Proofs
/-! concord/concordlaw16.LogRuns -/
abbrev law16_LogRuns_r0 : NC := .reg
    (.out [])
    []
abbrev law16_LogRuns_r1 : NC := .reg
    (.q 0 (.bld [(.int .i64 0), (.int .i64 0), (.int .i64 0), (.int .i64 0), (.int .i64 0), (.int .i64 0), (.int .i64 0)] []) [] none
    (.x 1 (.call 9) [(.res 0)] none []
    (.out [(1, (.res 1))])))
    []
abbrev law16_LogRuns_r2 : NC := .reg
    (.q 1 (.eqp false) [(.slot 1), (.const (.pointer none))] none
    (.out [(1, (.slot 1)), (9, (.res 1))]))
    [1]
abbrev law16_LogRuns_r3 : NC := .reg
    (.out [(0, (.const (.bool false)))])
    []
abbrev law16_LogRuns_r4 : NC := .reg
    (.x 1 (.call 11) [(.const (.int .i64 1)), (.const (.int .i64 2))] none []
    (.q 2 (.bld [(.int .i64 0), (.int .i64 0), (.int .i64 0), (.int .i64 0), (.int .i64 0), (.int .i64 0), (.int .i64 0), (.int .i64 0), (.string ⟨#[]⟩), (.string ⟨#[]⟩), (.string ⟨#[]⟩), (.string ⟨#[]⟩), (.int .i64 0), (.int .i64 0), (.int .i64 0), (.int .i64 0), (.int .i64 0), (.int .i64 0), (.int .i64 0), (.int .i64 0), (.bool false)] [(0, 1)]) [(.const (.int .i64 1))] none
    (.x 3 (.call 10) [(.slot 1), (.res 1), (.res 2)] none []
    (.out [(1, (.slot 1)), (2, (.res 3))]))))
    [1]
abbrev law16_LogRuns_r5 : NC := .reg
    (.x 1 (.call 11) [(.const (.int .i64 1)), (.const (.int .i64 2))] none []
    (.q 2 (.bld [(.int .i64 0), (.int .i64 0), (.int .i64 0), (.int .i64 0), (.int .i64 0), (.int .i64 0), (.int .i64 0), (.int .i64 0), (.string ⟨#[]⟩), (.string ⟨#[]⟩), (.string ⟨#[]⟩), (.string ⟨#[]⟩), (.int .i64 0), (.int .i64 0), (.int .i64 0), (.int .i64 0), (.int .i64 0), (.int .i64 0), (.int .i64 0), (.int .i64 0), (.bool false)] [(0, 1)]) [(.const (.int .i64 3))] none
    (.x 3 (.call 10) [(.slot 1), (.res 1), (.res 2)] none []
    (.out [(1, (.slot 1)), (2, (.slot 2)), (3, (.res 3))]))))
    [1, 2]
abbrev law16_LogRuns_r6 : NC := .reg
    (.x 1 (.call 11) [(.const (.int .i64 1)), (.const (.int .i64 2))] none []
    (.q 2 (.bld [(.int .i64 0), (.int .i64 0), (.int .i64 0), (.int .i64 0), (.int .i64 0), (.int .i64 0), (.int .i64 0), (.int .i64 0), (.string ⟨#[]⟩), (.string ⟨#[]⟩), (.string ⟨#[]⟩), (.string ⟨#[]⟩), (.int .i64 0), (.int .i64 0), (.int .i64 0), (.int .i64 0), (.int .i64 0), (.int .i64 0), (.int .i64 0), (.int .i64 0), (.bool false)] [(0, 1)]) [(.const (.int .i64 2))] none
    (.x 3 (.call 10) [(.slot 1), (.res 1), (.res 2)] none []
    (.out [(1, (.slot 1)), (2, (.slot 2)), (3, (.slot 3)), (4, (.res 3))]))))
    [1, 2, 3]
abbrev law16_LogRuns_r7 : NC := .reg
    (.x 1 (.call 12) [(.slot 1)] none []
    (.x 2 (.alc [(.int .i64 0), (.int .i64 0), (.int .i64 0), (.int .i64 0), (.int .i64 0), (.int .i64 0), (.int .i64 0)] 25) [] none []
    (.x 3 (.st 7) [(.res 2), (.res 1)] none []
    (.out [(1, (.slot 1)), (2, (.slot 2)), (3, (.slot 3)), (4, (.slot 4)), (5, (.res 2))]))))
    [1, 2, 3, 4]
abbrev law16_LogRuns_r8 : NC := .reg
    (.q 1 (.bld [(.int .i64 0), (.int .i64 0), (.int .i64 0), (.int .i64 0), (.int .i64 0), (.int .i64 0), (.int .i64 0)] [(0, 1), (1, 1)]) [(.const (.int .i64 0)), (.const (.int .i64 5))] none
    (.x 2 (.call 13) [(.slot 1), (.res 1)] none []
    (.out [(1, (.slot 1)), (2, (.slot 2)), (3, (.slot 3)), (4, (.slot 4)), (5, (.slot 5))])))
    [1, 2, 3, 4, 5]
abbrev law16_LogRuns_r9 : NC := .reg
    (.q 2 .mv [(.slot 3)] (some ((.slot 2), true))
    (.q 3 .pick [(.slot 2), (.res 2), (.const (.bool false))] none
    (.q 5 .mv [(.slot 4)] (some ((.res 3), true))
    (.q 6 .not [(.res 5)] (some ((.res 3), true))
    (.q 7 .pick [(.res 3), (.res 6), (.const (.bool false))] none
    (.q 9 (.lda 7) [(.slot 5)] (some ((.res 7), true))
    (.q 10 (.bld [(.int .i64 0), (.int .i64 0), (.int .i64 0), (.int .i64 0), (.int .i64 0), (.int .i64 0), (.int .i64 0)] [(0, 1), (1, 1)]) [(.const (.int .i64 0)), (.const (.int .i64 2))] (some ((.res 7), true))
    (.q 11 (.eqc false [(.i .i64), (.i .i64), (.i .i64), (.i .i64), (.i .i64), (.i .i64), (.i .i64)]) [(.res 9), (.res 10)] (some ((.res 7), true))
    (.q 12 .pick [(.res 7), (.res 11), (.const (.bool false))] none
    (.q 14 .mv [(.slot 1)] (some ((.res 12), true))
    (.x 15 (.call 14) [(.res 14)] (some ((.res 12), true)) []
    (.q 16 .len [(.res 15)] (some ((.res 12), true))
    (.q 17 (.icm .eql) [(.res 16), (.const (.int .i64 0))] (some ((.res 12), true))
    (.q 18 .pick [(.res 12), (.res 17), (.const (.bool false))] none
    (.q 20 .mv [(.slot 1)] (some ((.res 18), true))
    (.x 21 (.call 11) [(.const (.int .i64 1)), (.const (.int .i64 5))] (some ((.res 18), true)) []
    (.x 22 (.call 15) [(.res 20), (.res 21)] (some ((.res 18), true)) []
    (.q 23 .pick [(.res 18), (.res 22), (.const (.bool false))] none
    (.q 25 .mv [(.slot 1)] (some ((.res 23), true))
    (.x 26 (.call 11) [(.const (.int .i64 1)), (.const (.int .i64 6))] (some ((.res 23), true)) []
    (.x 27 (.call 15) [(.res 25), (.res 26)] (some ((.res 23), true)) []
    (.q 28 .not [(.res 27)] (some ((.res 23), true))
    (.q 29 .pick [(.res 23), (.res 28), (.const (.bool false))] none
    (.out [(0, (.res 29))]))))))))))))))))))))))))
    [1, 2, 3, 4, 5]
abbrev law16_LogRuns_c : NC :=
  (.seq law16_LogRuns_r0
  (.seq law16_LogRuns_r1
  (.seq (.seq law16_LogRuns_r2
  (.cond (.slot 9)
    (.seq law16_LogRuns_r3
    .ret)
    .skip))
  (.seq law16_LogRuns_r4
  (.seq law16_LogRuns_r5
  (.seq law16_LogRuns_r6
  (.seq law16_LogRuns_r7
  (.seq law16_LogRuns_r8
  (.seq law16_LogRuns_r9
  .ret)))))))))
abbrev law16_LogRuns_F : FN := ⟨law16_LogRuns_c, [.slot 0]⟩
theorem law16_LogRuns_ok : compF Try.prog Try.f3 = some law16_LogRuns_F := by kernel_rfl
theorem law16_LogRuns_go {args : List Value} {m : Mem} {R : Value → Mem → Prop} (hn : args.length ≤ Try.f3.ntmps) (h : wpN Try.prog law16_LogRuns_c (retP law16_LogRuns_F.rvs R) (zipP 0 args) m) : MC Try.prog 3 args m R := MC_start Try.func3 law16_LogRuns_ok mixed_ok hn h
/-! concord/concordlaw16.LogTops -/
abbrev law16_LogTops_r0 : NC := .reg
    (.x 0 (.box 25) [(.slot 1)] none []
    (.out [(0, (.slot 0)), (3, (.res 0))]))
    [0, 1]
abbrev law16_LogTops_r1 : NC := .reg
    (.q 0 (.bld [(.int .i64 0), (.int .i64 0), (.int .i64 0), (.int .i64 0), (.int .i64 0), (.int .i64 0), (.int .i64 0)] []) [] none
    (.x 1 (.call 9) [(.res 0)] none []
    (.out [(0, (.slot 0)), (3, (.slot 3)), (5, (.res 1))])))
    [0, 3]
abbrev law16_LogTops_r2 : NC := .reg
    (.q 1 (.eqp false) [(.slot 5), (.const (.pointer none))] none
    (.out [(0, (.slot 0)), (3, (.slot 3)), (5, (.slot 5)), (16, (.res 1))]))
    [0, 3, 5]
abbrev law16_LogTops_r3 : NC := .reg
    (.out [(4, (.const (.bool false)))])
    []
abbrev law16_LogTops_r4 : NC := .reg
    (.out [(0, (.slot 0)), (3, (.slot 3)), (5, (.slot 5)), (6, (.const (.int .i64 0)))])
    [0, 3, 5]
abbrev law16_LogTops_r5 : NC := .reg
    (.q 2 .len [(.slot 0)] none
    (.q 3 (.icm .lss) [(.slot 6), (.res 2)] none
    (.q 5 .mv [(.slot 6)] (some ((.res 3), true))
    (.q 6 (.icm .lss) [(.res 5), (.const (.int .i64 40))] (some ((.res 3), true))
    (.q 7 .pick [(.res 3), (.res 6), (.const (.bool false))] none
    (.out [(0, (.slot 0)), (3, (.slot 3)), (5, (.slot 5)), (6, (.slot 6)), (24, (.res 7))]))))))
    [0, 3, 5, 6]
abbrev law16_LogTops_r6 : NC := .reg
    (.q 2 (.ixs 31) [(.slot 0), (.slot 6)] none
    (.q 3 (.fld 3) [(.res 2)] none
    (.q 4 (.lda 21) [(.res 3)] none
    (.x 5 (.call 16) [(.res 4)] none []
    (.out [(0, (.slot 0)), (3, (.slot 3)), (5, (.slot 5)), (6, (.slot 6)), (32, (.res 5))])))))
    [0, 3, 5, 6]
abbrev law16_LogTops_r7 : NC := .reg
    (.q 3 (.ixs 31) [(.slot 0), (.slot 6)] none
    (.q 4 (.fld 1) [(.res 3)] none
    (.q 5 (.lda 2) [(.res 4)] none
    (.q 8 (.ixs 31) [(.slot 0), (.slot 6)] none
    (.q 9 (.fld 3) [(.res 8)] none
    (.q 10 (.lda 21) [(.res 9)] none
    (.x 11 (.call 10) [(.slot 5), (.res 5), (.res 10)] none []
    (.out [(0, (.slot 0)), (3, (.slot 3)), (5, (.slot 5)), (6, (.slot 6))]))))))))
    [0, 3, 5, 6]
abbrev law16_LogTops_r8 : NC := .reg
    (.q 1 (.iar .add) [(.slot 6), (.const (.int .i64 1))] none
    (.out [(0, (.slot 0)), (3, (.slot 3)), (5, (.slot 5)), (6, (.res 1))]))
    [0, 3, 5, 6]
abbrev law16_LogTops_l0 : NC :=
  (.seq (.seq law16_LogTops_r5
  (.cond (.slot 24)
    .skip
    (.exit 0)))
  (.seq (.block 1 (.seq law16_LogTops_r6
  (.cond (.slot 32)
    law16_LogTops_r7
    .skip)))
  law16_LogTops_r8))
abbrev law16_LogTops_r9 : NC := .reg
    (.x 1 (.call 12) [(.slot 5)] none []
    (.x 2 (.alc [(.int .i64 0), (.int .i64 0), (.int .i64 0), (.int .i64 0), (.int .i64 0), (.int .i64 0), (.int .i64 0)] 25) [] none []
    (.x 3 (.st 7) [(.res 2), (.res 1)] none []
    (.out [(3, (.slot 3)), (5, (.slot 5)), (7, (.res 2))]))))
    [3, 5]
abbrev law16_LogTops_r10 : NC := .reg
    (.q 1 (.lda 7) [(.slot 3)] none
    (.x 2 (.call 13) [(.slot 5), (.res 1)] none []
    (.out [(3, (.slot 3)), (5, (.slot 5)), (7, (.slot 7))])))
    [3, 5, 7]
abbrev law16_LogTops_r11 : NC := .reg
    (.x 1 (.call 17) [(.slot 5)] none []
    (.x 3 (.call 14) [(.slot 5)] none []
    (.x 4 (.alc [(.int .i64 0), (.int .i64 0), (.int .i64 0), (.int .i64 0), (.int .i64 0), (.int .i64 0), (.int .i64 0)] 25) [] none []
    (.x 5 (.st 7) [(.res 4), (.res 1)] none []
    (.out [(3, (.slot 3)), (5, (.slot 5)), (7, (.slot 7)), (8, (.res 4)), (9, (.res 3))])))))
    [3, 5, 7]
abbrev law16_LogTops_r12 : NC := .reg
    (.out [(3, (.slot 3)), (5, (.slot 5)), (7, (.slot 7)), (8, (.slot 8)), (9, (.slot 9)), (10, (.const (.int .i64 0)))])
    [3, 5, 7, 8, 9]
abbrev law16_LogTops_r13 : NC := .reg
    (.q 2 .len [(.slot 9)] none
    (.q 3 (.icm .lss) [(.slot 10), (.res 2)] none
    (.out [(3, (.slot 3)), (5, (.slot 5)), (7, (.slot 7)), (8, (.slot 8)), (9, (.slot 9)), (10, (.slot 10)), (57, (.res 3))])))
    [3, 5, 7, 8, 9, 10]
abbrev law16_LogTops_r14 : NC := .reg
    (.q 2 (.ixs 2) [(.slot 9), (.slot 10)] none
    (.q 3 (.fld 1) [(.res 2)] none
    (.q 4 .ld [(.res 3)] none
    (.q 7 (.ixs 2) [(.slot 9), (.slot 10)] none
    (.q 8 (.fld 0) [(.res 7)] none
    (.q 9 .ld [(.res 8)] none
    (.q 10 (.ixa 7 1) [(.slot 8), (.res 9)] none
    (.q 11 .ld [(.res 10)] none
    (.q 12 (.icm .leq) [(.res 4), (.res 11)] none
    (.q 14 .mv [(.slot 9)] (some ((.res 12), false))
    (.q 15 .mv [(.slot 10)] (some ((.res 12), false))
    (.q 16 (.ixs 2) [(.res 14), (.res 15)] (some ((.res 12), false))
    (.q 17 (.fld 1) [(.res 16)] (some ((.res 12), false))
    (.q 18 .ld [(.res 17)] (some ((.res 12), false))
    (.q 19 .mv [(.slot 9)] (some ((.res 12), false))
    (.q 20 .mv [(.slot 10)] (some ((.res 12), false))
    (.q 21 (.ixs 2) [(.res 19), (.res 20)] (some ((.res 12), false))
    (.q 22 (.fld 0) [(.res 21)] (some ((.res 12), false))
    (.q 23 .ld [(.res 22)] (some ((.res 12), false))
    (.q 24 (.ixa 7 1) [(.slot 7), (.res 23)] (some ((.res 12), false))
    (.q 25 .ld [(.res 24)] (some ((.res 12), false))
    (.q 26 (.icm .gtr) [(.res 18), (.res 25)] (some ((.res 12), false))
    (.q 27 .pick [(.res 12), (.const (.bool true)), (.res 26)] none
    (.q 29 .mv [(.slot 5)] (some ((.res 27), false))
    (.q 30 .mv [(.slot 9)] (some ((.res 27), false))
    (.q 31 .mv [(.slot 10)] (some ((.res 27), false))
    (.q 32 (.ixs 2) [(.res 30), (.res 31)] (some ((.res 27), false))
    (.q 33 (.lda 2) [(.res 32)] (some ((.res 27), false))
    (.x 34 (.call 15) [(.res 29), (.res 33)] (some ((.res 27), false)) []
    (.q 35 .pick [(.res 27), (.const (.bool true)), (.res 34)] none
    (.out [(3, (.slot 3)), (5, (.slot 5)), (7, (.slot 7)), (8, (.slot 8)), (9, (.slot 9)), (10, (.slot 10)), (95, (.res 35))])))))))))))))))))))))))))))))))
    [3, 5, 7, 8, 9, 10]
abbrev law16_LogTops_r15 : NC := .reg
    (.out [(4, (.const (.bool false)))])
    []
abbrev law16_LogTops_r16 : NC := .reg
    (.q 1 (.iar .add) [(.slot 10), (.const (.int .i64 1))] none
    (.out [(3, (.slot 3)), (5, (.slot 5)), (7, (.slot 7)), (8, (.slot 8)), (9, (.slot 9)), (10, (.res 1))]))
    [3, 5, 7, 8, 9, 10]
abbrev law16_LogTops_l1 : NC :=
  (.seq (.seq law16_LogTops_r13
  (.cond (.slot 57)
    .skip
    (.exit 2)))
  (.seq (.block 3 (.seq law16_LogTops_r14
  (.cond (.slot 95)
    (.seq law16_LogTops_r15
    .ret)
    .skip)))
  law16_LogTops_r16))
abbrev law16_LogTops_r17 : NC := .reg
    (.x 1 (.call 12) [(.slot 5)] none []
    (.x 2 (.alc [(.int .i64 0), (.int .i64 0), (.int .i64 0), (.int .i64 0), (.int .i64 0), (.int .i64 0), (.int .i64 0)] 25) [] none []
    (.x 3 (.st 7) [(.res 2), (.res 1)] none []
    (.out [(3, (.slot 3)), (5, (.slot 5)), (7, (.slot 7)), (8, (.slot 8)), (9, (.slot 9)), (11, (.res 2))]))))
    [3, 5, 7, 8, 9]
abbrev law16_LogTops_r18 : NC := .reg
    (.out [(3, (.slot 3)), (5, (.slot 5)), (7, (.slot 7)), (8, (.slot 8)), (9, (.slot 9)), (11, (.slot 11)), (12, (.const (.int .i64 0)))])
    [3, 5, 7, 8, 9, 11]
abbrev law16_LogTops_r19 : NC := .reg
    (.q 1 (.icm .lss) [(.slot 12), (.const (.int .i64 7))] none
    (.out [(3, (.slot 3)), (5, (.slot 5)), (7, (.slot 7)), (8, (.slot 8)), (9, (.slot 9)), (11, (.slot 11)), (12, (.slot 12)), (99, (.res 1))]))
    [3, 5, 7, 8, 9, 11, 12]
abbrev law16_LogTops_r20 : NC := .reg
    (.q 1 (.ixa 7 1) [(.slot 11), (.slot 12)] none
    (.q 2 .ld [(.res 1)] none
    (.q 4 (.ixa 7 1) [(.slot 7), (.slot 12)] none
    (.q 5 .ld [(.res 4)] none
    (.q 7 (.ixa 7 1) [(.slot 8), (.slot 12)] none
    (.q 8 .ld [(.res 7)] none
    (.q 9 .mx [(.res 5), (.res 8)] none
    (.q 10 (.icm .neq) [(.res 2), (.res 9)] none
    (.q 12 .mv [(.slot 12)] (some ((.res 10), false))
    (.q 13 (.ixa 7 1) [(.slot 8), (.res 12)] (some ((.res 10), false))
    (.q 14 .ld [(.res 13)] (some ((.res 10), false))
    (.q 15 (.icm .lss) [(.res 14), (.const (.int .i64 0))] (some ((.res 10), false))
    (.q 16 .pick [(.res 10), (.const (.bool true)), (.res 15)] none
    (.q 18 .mv [(.slot 12)] (some ((.res 16), false))
    (.q 19 (.ixa 7 1) [(.slot 8), (.res 18)] (some ((.res 16), false))
    (.q 20 .ld [(.res 19)] (some ((.res 16), false))
    (.q 21 (.icm .gtr) [(.res 20), (.const (.int .i64 1073741824))] (some ((.res 16), false))
    (.q 22 .pick [(.res 16), (.const (.bool true)), (.res 21)] none
    (.out [(3, (.slot 3)), (5, (.slot 5)), (7, (.slot 7)), (8, (.slot 8)), (9, (.slot 9)), (11, (.slot 11)), (12, (.slot 12)), (124, (.res 22))])))))))))))))))))))
    [3, 5, 7, 8, 9, 11, 12]
abbrev law16_LogTops_r21 : NC := .reg
    (.out [(4, (.const (.bool false)))])
    []
abbrev law16_LogTops_r22 : NC := .reg
    (.q 1 (.iar .add) [(.slot 12), (.const (.int .i64 1))] none
    (.out [(3, (.slot 3)), (5, (.slot 5)), (7, (.slot 7)), (8, (.slot 8)), (9, (.slot 9)), (11, (.slot 11)), (12, (.res 1))]))
    [3, 5, 7, 8, 9, 11, 12]
abbrev law16_LogTops_l2 : NC :=
  (.seq (.seq law16_LogTops_r19
  (.cond (.slot 99)
    .skip
    (.exit 4)))
  (.seq (.block 5 (.seq law16_LogTops_r20
  (.cond (.slot 124)
    (.seq law16_LogTops_r21
    .ret)
    .skip)))
  law16_LogTops_r22))
abbrev law16_LogTops_r23 : NC := .reg
    (.q 1 (.lda 7) [(.slot 3)] none
    (.x 2 (.call 13) [(.slot 5), (.res 1)] none []
    (.out [(5, (.slot 5)), (8, (.slot 8)), (9, (.slot 9))])))
    [3, 5, 8, 9]
abbrev law16_LogTops_r24 : NC := .reg
    (.q 1 (.bld [(.int .i64 0), (.int .i64 0), (.int .i64 0), (.int .i64 0), (.int .i64 0), (.int .i64 0), (.int .i64 0)] []) [] none
    (.x 2 (.call 13) [(.slot 5), (.res 1)] none []
    (.out [(5, (.slot 5)), (8, (.slot 8)), (9, (.slot 9))])))
    [5, 8, 9]
abbrev law16_LogTops_r25 : NC := .reg
    (.q 2 (.lda 7) [(.slot 8)] none
    (.x 1 (.call 17) [(.slot 5)] none [(2, (.lda 7), [(.slot 8)], none)]
    (.q 3 (.eqc false [(.i .i64), (.i .i64), (.i .i64), (.i .i64), (.i .i64), (.i .i64), (.i .i64)]) [(.res 1), (.res 2)] none
    (.q 5 .mv [(.slot 5)] (some ((.res 3), true))
    (.q 7 .mv [(.slot 9)] (some ((.res 3), true))
    (.x 6 (.call 14) [(.res 5)] (some ((.res 3), true)) []
    (.x 8 (.call 18) [(.res 6), (.res 7)] (some ((.res 3), true)) []
    (.q 9 .pick [(.res 3), (.res 8), (.const (.bool false))] none
    (.x 11 (.call 3) [] (some ((.res 9), true)) []
    (.q 12 .pick [(.res 9), (.res 11), (.const (.bool false))] none
    (.out [(4, (.res 12))])))))))))))
    [5, 8, 9]
abbrev law16_LogTops_c : NC :=
  (.seq law16_LogTops_r0
  (.seq law16_LogTops_r1
  (.seq (.seq law16_LogTops_r2
  (.cond (.slot 16)
    (.seq law16_LogTops_r3
    .ret)
    .skip))
  (.seq (.seq law16_LogTops_r4
  (.block 0 (.loop [0, 3, 5, 6] law16_LogTops_l0)))
  (.seq law16_LogTops_r9
  (.seq law16_LogTops_r10
  (.seq law16_LogTops_r11
  (.seq (.seq law16_LogTops_r12
  (.block 2 (.loop [3, 5, 7, 8, 9, 10] law16_LogTops_l1)))
  (.seq law16_LogTops_r17
  (.seq (.seq law16_LogTops_r18
  (.block 4 (.loop [3, 5, 7, 8, 9, 11, 12] law16_LogTops_l2)))
  (.seq law16_LogTops_r23
  (.seq law16_LogTops_r24
  (.seq law16_LogTops_r25
  .ret)))))))))))))
abbrev law16_LogTops_F : FN := ⟨law16_LogTops_c, [.slot 4]⟩
theorem law16_LogTops_ok : compF Try.prog Try.f4 = some law16_LogTops_F := by kernel_rfl
theorem law16_LogTops_go {args : List Value} {m : Mem} {R : Value → Mem → Prop} (hn : args.length ≤ Try.f4.ntmps) (h : wpN Try.prog law16_LogTops_c (retP law16_LogTops_F.rvs R) (zipP 0 args) m) : MC Try.prog 4 args m R := MC_start Try.func4 law16_LogTops_ok mixed_ok hn h
/-! concord/concordlaw16.LogPlays -/
abbrev law16_LogPlays_r0 : NC := .reg
    (.x 0 (.box 25) [(.slot 0)] none []
    (.out [(1, (.slot 1)), (2, (.res 0))]))
    [0, 1]
abbrev law16_LogPlays_r1 : NC := .reg
    (.q 0 (.lda 7) [(.slot 2)] none
    (.x 1 (.call 9) [(.res 0)] none []
    (.q 2 (.bld [(.slice none 0 0), (.slice none 0 0), (.int .i64 0), (.int .i64 0), (.int .i64 0), (.int .i64 0), (.int .i64 0), (.int .i64 0), (.int .i64 0)] []) [] none
    (.x 3 (.box 57) [(.res 2)] none []
    (.out [(1, (.slot 1)), (2, (.slot 2)), (5, (.res 1)), (6, (.res 3))])))))
    [1, 2]
abbrev law16_LogPlays_r2 : NC := .reg
    (.q 1 (.lda 7) [(.slot 2)] none
    (.x 2 (.call 21) [(.slot 6), (.res 1)] none []
    (.out [(1, (.slot 1)), (5, (.slot 5)), (6, (.slot 6))])))
    [1, 2, 5, 6]
abbrev law16_LogPlays_r3 : NC := .reg
    (.q 1 (.eqp false) [(.slot 5), (.const (.pointer none))] none
    (.q 3 .mv [(.slot 5)] (some ((.res 1), false))
    (.q 4 .mv [(.slot 6)] (some ((.res 1), false))
    (.x 5 (.call 22) [(.res 3), (.res 4)] (some ((.res 1), false)) []
    (.q 6 .not [(.res 5)] (some ((.res 1), false))
    (.q 7 .pick [(.res 1), (.const (.bool true)), (.res 6)] none
    (.out [(1, (.slot 1)), (5, (.slot 5)), (6, (.slot 6)), (27, (.res 7))])))))))
    [1, 5, 6]
abbrev law16_LogPlays_r4 : NC := .reg
    (.out [(4, (.const (.bool false)))])
    []
abbrev law16_LogPlays_r5 : NC := .reg
    (.out [(1, (.slot 1)), (5, (.slot 5)), (6, (.slot 6)), (7, (.const (.int .i64 0)))])
    [1, 5, 6]
abbrev law16_LogPlays_r6 : NC := .reg
    (.q 2 .len [(.slot 1)] none
    (.q 3 (.icm .lss) [(.slot 7), (.res 2)] none
    (.q 5 .mv [(.slot 7)] (some ((.res 3), true))
    (.q 6 (.icm .lss) [(.res 5), (.const (.int .i64 60))] (some ((.res 3), true))
    (.q 7 .pick [(.res 3), (.res 6), (.const (.bool false))] none
    (.out [(1, (.slot 1)), (5, (.slot 5)), (6, (.slot 6)), (7, (.slot 7)), (35, (.res 7))]))))))
    [1, 5, 6, 7]
abbrev law16_LogPlays_r7 : NC := .reg
    (.q 2 (.ixs 31) [(.slot 1), (.slot 7)] none
    (.q 3 (.lda 31) [(.res 2)] none
    (.x 4 (.alc [(.int .i64 0), (.int .i64 0), (.int .i64 0), (.int .i64 0), (.int .i64 0), (.int .i64 0), (.int .i64 0), (.int .i64 0), (.int .i64 0), (.int .i64 0), (.int .i64 0), (.string ⟨#[]⟩), (.string ⟨#[]⟩), (.string ⟨#[]⟩), (.string ⟨#[]⟩), (.int .i64 0), (.int .i64 0), (.int .i64 0), (.int .i64 0), (.int .i64 0), (.int .i64 0), (.int .i64 0), (.int .i64 0), (.bool false), (.int .i64 0), (.int .i64 0), (.int .i64 0), (.int .i64 0), (.int .i64 0), (.int .i64 0), (.int .i64 0)] 47) [] none []
    (.x 5 (.st 31) [(.res 4), (.res 3)] none []
    (.out [(1, (.slot 1)), (5, (.slot 5)), (6, (.slot 6)), (7, (.slot 7)), (8, (.res 4))])))))
    [1, 5, 6, 7]
abbrev law16_LogPlays_r8 : NC := .reg
    (.q 0 (.fld 3) [(.slot 8)] none
    (.q 1 (.lda 21) [(.res 0)] none
    (.x 2 (.call 16) [(.res 1)] none []
    (.q 3 .not [(.res 2)] none
    (.out [(1, (.slot 1)), (5, (.slot 5)), (6, (.slot 6)), (7, (.slot 7)), (8, (.slot 8)), (45, (.res 3))])))))
    [1, 5, 6, 7, 8]
abbrev law16_LogPlays_r9 : NC := .reg
    (.q 0 (.fld 0) [(.slot 8)] none
    (.q 1 .ld [(.res 0)] none
    (.out [(1, (.slot 1)), (5, (.slot 5)), (6, (.slot 6)), (7, (.slot 7)), (8, (.slot 8)), (47, (.res 1))])))
    [1, 5, 6, 7, 8]
abbrev law16_LogPlays_r10 : NC := .reg
    (.q 0 (.icm .eql) [(.slot 47), (.const (.int .i64 1))] none
    (.out [(1, (.slot 1)), (5, (.slot 5)), (6, (.slot 6)), (7, (.slot 7)), (8, (.slot 8)), (47, (.slot 47)), (48, (.res 0))]))
    [1, 5, 6, 7, 8, 47]
abbrev law16_LogPlays_r11 : NC := .reg
    (.q 1 (.fld 1) [(.slot 8)] none
    (.q 2 (.lda 2) [(.res 1)] none
    (.q 3 (.fld 3) [(.slot 8)] none
    (.q 4 (.lda 21) [(.res 3)] none
    (.q 7 (.fld 1) [(.slot 8)] none
    (.q 8 (.lda 2) [(.res 7)] none
    (.q 9 (.fld 3) [(.slot 8)] none
    (.q 10 (.lda 21) [(.res 9)] none
    (.x 5 (.call 10) [(.slot 5), (.res 2), (.res 4)] none [(8, (.lda 2), [(.res 7)], none), (10, (.lda 21), [(.res 9)], none)]
    (.x 11 (.call 23) [(.slot 6), (.res 8), (.res 10)] none []
    (.q 12 (.beq true) [(.res 5), (.res 11)] none
    (.out [(1, (.slot 1)), (5, (.slot 5)), (6, (.slot 6)), (7, (.slot 7)), (62, (.res 12))]))))))))))))
    [1, 5, 6, 7, 8]
abbrev law16_LogPlays_r12 : NC := .reg
    (.out [(4, (.const (.bool false)))])
    []
abbrev law16_LogPlays_r13 : NC := .reg
    (.q 0 (.icm .eql) [(.slot 47), (.const (.int .i64 2))] none
    (.out [(1, (.slot 1)), (5, (.slot 5)), (6, (.slot 6)), (7, (.slot 7)), (8, (.slot 8)), (47, (.slot 47)), (63, (.res 0))]))
    [1, 5, 6, 7, 8, 47]
abbrev law16_LogPlays_r14 : NC := .reg
    (.q 1 (.fld 1) [(.slot 8)] none
    (.q 2 (.lda 2) [(.res 1)] none
    (.x 3 (.call 19) [(.slot 5), (.res 2)] none []
    (.q 5 (.ext 0) [(.res 3)] none
    (.q 6 (.ext 1) [(.res 3)] none
    (.x 7 (.alc [(.int .i64 0), (.int .i64 0), (.int .i64 0), (.int .i64 0), (.int .i64 0), (.int .i64 0), (.int .i64 0), (.int .i64 0), (.string ⟨#[]⟩), (.string ⟨#[]⟩), (.string ⟨#[]⟩), (.string ⟨#[]⟩), (.int .i64 0), (.int .i64 0), (.int .i64 0), (.int .i64 0), (.int .i64 0), (.int .i64 0), (.int .i64 0), (.int .i64 0), (.bool false)] 37) [] none []
    (.x 8 (.st 21) [(.res 7), (.res 5)] none []
    (.out [(1, (.slot 1)), (5, (.slot 5)), (6, (.slot 6)), (7, (.slot 7)), (8, (.slot 8)), (9, (.res 7)), (10, (.res 6))]))))))))
    [1, 5, 6, 7, 8]
abbrev law16_LogPlays_r15 : NC := .reg
    (.q 1 (.fld 1) [(.slot 8)] none
    (.q 2 (.lda 2) [(.res 1)] none
    (.x 3 (.call 24) [(.slot 6), (.res 2)] none []
    (.q 5 (.ext 0) [(.res 3)] none
    (.q 6 (.ext 1) [(.res 3)] none
    (.x 7 (.alc [(.int .i64 0), (.int .i64 0), (.int .i64 0), (.int .i64 0), (.int .i64 0), (.int .i64 0), (.int .i64 0), (.int .i64 0), (.string ⟨#[]⟩), (.string ⟨#[]⟩), (.string ⟨#[]⟩), (.string ⟨#[]⟩), (.int .i64 0), (.int .i64 0), (.int .i64 0), (.int .i64 0), (.int .i64 0), (.int .i64 0), (.int .i64 0), (.int .i64 0), (.bool false)] 37) [] none []
    (.x 8 (.st 21) [(.res 7), (.res 5)] none []
    (.out [(1, (.slot 1)), (5, (.slot 5)), (6, (.slot 6)), (7, (.slot 7)), (8, (.slot 8)), (9, (.slot 9)), (10, (.slot 10)), (11, (.res 7)), (12, (.res 6))]))))))))
    [1, 5, 6, 7, 8, 9, 10]
abbrev law16_LogPlays_r16 : NC := .reg
    (.q 0 (.lda 21) [(.slot 9)] none
    (.q 1 (.lda 21) [(.slot 11)] none
    (.q 2 (.eqc true [(.i .i64), (.i .i64), (.i .i64), (.i .i64), (.i .i64), (.i .i64), (.i .i64), (.i .i64), .s, .s, .s, .s, (.i .i64), (.i .i64), (.i .i64), (.i .i64), (.i .i64), (.i .i64), (.i .i64), (.i .i64), .b]) [(.res 0), (.res 1)] none
    (.q 4 .mv [(.slot 10)] (some ((.res 2), false))
    (.q 5 .mv [(.slot 12)] (some ((.res 2), false))
    (.q 6 (.beq true) [(.res 4), (.res 5)] (some ((.res 2), false))
    (.q 7 .pick [(.res 2), (.const (.bool true)), (.res 6)] none
    (.q 9 .mv [(.slot 5)] (some ((.res 7), false))
    (.q 10 (.fld 1) [(.slot 8)] (some ((.res 7), false))
    (.q 11 (.lda 2) [(.res 10)] (some ((.res 7), false))
    (.q 13 .mv [(.slot 6)] (some ((.res 7), false))
    (.q 14 (.fld 1) [(.slot 8)] (some ((.res 7), false))
    (.q 15 (.lda 2) [(.res 14)] (some ((.res 7), false))
    (.x 12 (.call 15) [(.res 9), (.res 11)] (some ((.res 7), false)) [(15, (.lda 2), [(.res 14)], (some ((.res 7), false)))]
    (.x 16 (.call 25) [(.res 13), (.res 15)] (some ((.res 7), false)) []
    (.q 17 (.beq true) [(.res 12), (.res 16)] (some ((.res 7), false))
    (.q 18 .pick [(.res 7), (.const (.bool true)), (.res 17)] none
    (.out [(1, (.slot 1)), (5, (.slot 5)), (6, (.slot 6)), (7, (.slot 7)), (97, (.res 18))]))))))))))))))))))
    [1, 5, 6, 7, 8, 9, 10, 11, 12]
abbrev law16_LogPlays_r17 : NC := .reg
    (.out [(4, (.const (.bool false)))])
    []
abbrev law16_LogPlays_r18 : NC := .reg
    (.q 0 (.icm .eql) [(.slot 47), (.const (.int .i64 3))] none
    (.out [(1, (.slot 1)), (5, (.slot 5)), (6, (.slot 6)), (7, (.slot 7)), (8, (.slot 8)), (98, (.res 0))]))
    [1, 5, 6, 7, 8, 47]
abbrev law16_LogPlays_r19 : NC := .reg
    (.q 1 (.fld 24) [(.slot 8)] none
    (.q 2 (.lda 7) [(.res 1)] none
    (.x 3 (.call 13) [(.slot 5), (.res 2)] none []
    (.out [(1, (.slot 1)), (5, (.slot 5)), (6, (.slot 6)), (7, (.slot 7)), (8, (.slot 8))]))))
    [1, 5, 6, 7, 8]
abbrev law16_LogPlays_r20 : NC := .reg
    (.q 1 (.fld 24) [(.slot 8)] none
    (.q 2 (.lda 7) [(.res 1)] none
    (.x 3 (.call 21) [(.slot 6), (.res 2)] none []
    (.out [(1, (.slot 1)), (5, (.slot 5)), (6, (.slot 6)), (7, (.slot 7))]))))
    [1, 5, 6, 7, 8]
abbrev law16_LogPlays_r21 : NC := .reg
    (.x 2 (.call 22) [(.slot 5), (.slot 6)] none []
    (.q 3 .not [(.res 2)] none
    (.out [(1, (.slot 1)), (5, (.slot 5)), (6, (.slot 6)), (7, (.slot 7)), (111, (.res 3))])))
    [1, 5, 6, 7]
abbrev law16_LogPlays_r22 : NC := .reg
    (.out [(4, (.const (.bool false)))])
    []
abbrev law16_LogPlays_r23 : NC := .reg
    (.q 1 (.iar .add) [(.slot 7), (.const (.int .i64 1))] none
    (.out [(1, (.slot 1)), (5, (.slot 5)), (6, (.slot 6)), (7, (.res 1))]))
    [1, 5, 6, 7]
abbrev law16_LogPlays_l0 : NC :=
  (.seq (.seq law16_LogPlays_r6
  (.cond (.slot 35)
    .skip
    (.exit 0)))
  (.seq (.block 1 (.seq law16_LogPlays_r7
  (.seq (.seq law16_LogPlays_r8
  (.cond (.slot 45)
    (.exit 1)
    .skip))
  (.seq (.seq law16_LogPlays_r9
  (.block 2 (.seq law16_LogPlays_r10
  (.cond (.slot 48)
    (.seq law16_LogPlays_r11
    (.cond (.slot 62)
      (.seq law16_LogPlays_r12
      .ret)
      .skip))
    (.seq law16_LogPlays_r13
    (.cond (.slot 63)
      (.seq law16_LogPlays_r14
      (.seq law16_LogPlays_r15
      (.seq law16_LogPlays_r16
      (.cond (.slot 97)
        (.seq law16_LogPlays_r17
        .ret)
        .skip))))
      (.seq law16_LogPlays_r18
      (.cond (.slot 98)
        (.seq law16_LogPlays_r19
        law16_LogPlays_r20)
        .skip))))))))
  (.seq law16_LogPlays_r21
  (.cond (.slot 111)
    (.seq law16_LogPlays_r22
    .ret)
    .skip))))))
  law16_LogPlays_r23))
abbrev law16_LogPlays_r24 : NC := .reg
    (.x 0 (.call 3) [] none []
    (.out [(4, (.res 0))]))
    []
abbrev law16_LogPlays_c : NC :=
  (.seq law16_LogPlays_r0
  (.seq law16_LogPlays_r1
  (.seq law16_LogPlays_r2
  (.seq (.seq law16_LogPlays_r3
  (.cond (.slot 27)
    (.seq law16_LogPlays_r4
    .ret)
    .skip))
  (.seq (.seq law16_LogPlays_r5
  (.block 0 (.loop [1, 5, 6, 7] law16_LogPlays_l0)))
  (.seq law16_LogPlays_r24
  .ret))))))
abbrev law16_LogPlays_F : FN := ⟨law16_LogPlays_c, [.slot 4]⟩
theorem law16_LogPlays_ok : compF Try.prog Try.f6 = some law16_LogPlays_F := by kernel_rfl
theorem law16_LogPlays_go {args : List Value} {m : Mem} {R : Value → Mem → Prop} (hn : args.length ≤ Try.f6.ntmps) (h : wpN Try.prog law16_LogPlays_c (retP law16_LogPlays_F.rvs R) (zipP 0 args) m) : MC Try.prog 6 args m R := MC_start Try.func6 law16_LogPlays_ok mixed_ok hn h
/-! concord/concordlaw16.LogBytes -/
abbrev law16_LogBytes_r0 : NC := .reg
    (.x 0 (.box 28) [(.slot 1)] none []
    (.x 1 (.box 37) [(.slot 2)] none []
    (.out [(0, (.slot 0)), (4, (.res 0)), (5, (.res 1))])))
    [0, 1, 2]
abbrev law16_LogBytes_r1 : NC := .reg
    (.q 1 .len [(.slot 0)] none
    (.q 2 (.icm .gtr) [(.res 1), (.const (.int .i64 300))] none
    (.out [(0, (.slot 0)), (4, (.slot 4)), (5, (.slot 5)), (15, (.res 2))])))
    [0, 4, 5]
abbrev law16_LogBytes_r2 : NC := .reg
    (.q 1 (.slc 1 false true) [(.slot 0), (.const (.int .i64 300))] none
    (.out [(0, (.res 1)), (4, (.slot 4)), (5, (.slot 5))]))
    [0, 4, 5]
abbrev law16_LogBytes_r3 : NC := .reg
    (.x 1 (.call 26) [(.slot 0)] none []
    (.q 3 (.ext 0) [(.res 1)] none
    (.q 4 (.ext 1) [(.res 1)] none
    (.q 5 (.ext 2) [(.res 1)] none
    (.x 6 (.alc [(.int .i64 0), (.int .i64 0)] 28) [] none []
    (.x 7 (.alc [(.int .i64 0), (.int .i64 0), (.int .i64 0), (.int .i64 0), (.int .i64 0), (.int .i64 0), (.int .i64 0), (.int .i64 0), (.string ⟨#[]⟩), (.string ⟨#[]⟩), (.string ⟨#[]⟩), (.string ⟨#[]⟩), (.int .i64 0), (.int .i64 0), (.int .i64 0), (.int .i64 0), (.int .i64 0), (.int .i64 0), (.int .i64 0), (.int .i64 0), (.bool false)] 37) [] none []
    (.x 8 (.st 2) [(.res 6), (.res 3)] none []
    (.x 9 (.st 21) [(.res 7), (.res 4)] none []
    (.out [(0, (.slot 0)), (4, (.slot 4)), (5, (.slot 5)), (7, (.res 6)), (8, (.res 7)), (9, (.res 5))])))))))))
    [0, 4, 5]
abbrev law16_LogBytes_r4 : NC := .reg
    (.x 1 (.call 27) [(.slot 0)] none []
    (.q 3 (.ext 0) [(.res 1)] none
    (.q 4 (.ext 1) [(.res 1)] none
    (.q 5 (.ext 2) [(.res 1)] none
    (.x 6 (.alc [(.int .i64 0), (.int .i64 0)] 28) [] none []
    (.x 7 (.alc [(.int .i64 0), (.int .i64 0), (.int .i64 0), (.int .i64 0), (.int .i64 0), (.int .i64 0), (.int .i64 0), (.int .i64 0), (.string ⟨#[]⟩), (.string ⟨#[]⟩), (.string ⟨#[]⟩), (.string ⟨#[]⟩), (.int .i64 0), (.int .i64 0), (.int .i64 0), (.int .i64 0), (.int .i64 0), (.int .i64 0), (.int .i64 0), (.int .i64 0), (.bool false)] 37) [] none []
    (.x 8 (.st 2) [(.res 6), (.res 3)] none []
    (.x 9 (.st 21) [(.res 7), (.res 4)] none []
    (.out [(4, (.slot 4)), (5, (.slot 5)), (7, (.slot 7)), (8, (.slot 8)), (9, (.slot 9)), (10, (.res 6)), (11, (.res 7)), (12, (.res 5))])))))))))
    [0, 4, 5, 7, 8, 9]
abbrev law16_LogBytes_r5 : NC := .reg
    (.q 0 (.lda 2) [(.slot 7)] none
    (.q 1 (.lda 2) [(.slot 10)] none
    (.q 2 (.eqc true [(.i .i64), (.i .i64)]) [(.res 0), (.res 1)] none
    (.q 4 (.lda 21) [(.slot 8)] (some ((.res 2), false))
    (.q 5 (.lda 21) [(.slot 11)] (some ((.res 2), false))
    (.q 6 (.eqc true [(.i .i64), (.i .i64), (.i .i64), (.i .i64), (.i .i64), (.i .i64), (.i .i64), (.i .i64), .s, .s, .s, .s, (.i .i64), (.i .i64), (.i .i64), (.i .i64), (.i .i64), (.i .i64), (.i .i64), (.i .i64), .b]) [(.res 4), (.res 5)] (some ((.res 2), false))
    (.q 7 .pick [(.res 2), (.const (.bool true)), (.res 6)] none
    (.q 9 .mv [(.slot 9)] (some ((.res 7), false))
    (.q 10 .mv [(.slot 12)] (some ((.res 7), false))
    (.q 11 (.icm .neq) [(.res 9), (.res 10)] (some ((.res 7), false))
    (.q 12 .pick [(.res 7), (.const (.bool true)), (.res 11)] none
    (.q 14 (.lda 21) [(.slot 5)] (some ((.res 12), false))
    (.x 15 (.call 16) [(.res 14)] (some ((.res 12), false)) []
    (.q 16 .not [(.res 15)] (some ((.res 12), false))
    (.q 17 .pick [(.res 12), (.const (.bool true)), (.res 16)] none
    (.out [(4, (.slot 4)), (5, (.slot 5)), (7, (.slot 7)), (8, (.slot 8)), (9, (.slot 9)), (10, (.slot 10)), (11, (.slot 11)), (12, (.slot 12)), (47, (.res 17))]))))))))))))))))
    [4, 5, 7, 8, 9, 10, 11, 12]
abbrev law16_LogBytes_r6 : NC := .reg
    (.q 2 (.icm .eql) [(.slot 9), (.slot 12)] none
    (.q 4 (.lda 2) [(.slot 7)] (some ((.res 2), true))
    (.q 5 (.lda 2) [(.slot 10)] (some ((.res 2), true))
    (.q 6 (.eqc false [(.i .i64), (.i .i64)]) [(.res 4), (.res 5)] (some ((.res 2), true))
    (.q 7 .pick [(.res 2), (.res 6), (.const (.bool false))] none
    (.q 9 (.lda 21) [(.slot 8)] (some ((.res 7), true))
    (.q 10 (.lda 21) [(.slot 11)] (some ((.res 7), true))
    (.q 11 (.eqc false [(.i .i64), (.i .i64), (.i .i64), (.i .i64), (.i .i64), (.i .i64), (.i .i64), (.i .i64), .s, .s, .s, .s, (.i .i64), (.i .i64), (.i .i64), (.i .i64), (.i .i64), (.i .i64), (.i .i64), (.i .i64), .b]) [(.res 9), (.res 10)] (some ((.res 7), true))
    (.q 12 .pick [(.res 7), (.res 11), (.const (.bool false))] none
    (.x 14 (.call 3) [] (some ((.res 12), true)) []
    (.q 15 .pick [(.res 12), (.res 14), (.const (.bool false))] none
    (.out [(6, (.res 15))]))))))))))))
    [7, 8, 9, 10, 11, 12]
abbrev law16_LogBytes_r7 : NC := .reg
    (.q 0 (.lda 21) [(.slot 5)] none
    (.x 1 (.call 28) [(.res 0)] none []
    (.q 2 .not [(.res 1)] none
    (.out [(4, (.slot 4)), (5, (.slot 5)), (66, (.res 2))]))))
    [4, 5]
abbrev law16_LogBytes_r8 : NC := .reg
    (.x 0 (.call 3) [] none []
    (.out [(6, (.res 0))]))
    []
abbrev law16_LogBytes_r9 : NC := .reg
    (.q 0 (.lda 2) [(.slot 4)] none
    (.q 1 (.lda 21) [(.slot 5)] none
    (.q 3 (.lda 2) [(.slot 4)] none
    (.q 4 (.lda 21) [(.slot 5)] none
    (.x 2 (.call 30) [(.res 0), (.res 1)] none [(3, (.lda 2), [(.slot 4)], none), (4, (.lda 21), [(.slot 5)], none)]
    (.x 5 (.call 31) [(.res 3), (.res 4)] none []
    (.x 6 (.call 29) [(.res 2), (.res 5)] none []
    (.x 8 (.call 3) [] (some ((.res 6), true)) []
    (.q 9 .pick [(.res 6), (.res 8), (.const (.bool false))] none
    (.out [(6, (.res 9))]))))))))))
    [4, 5]
abbrev law16_LogBytes_c : NC :=
  (.seq law16_LogBytes_r0
  (.seq (.seq law16_LogBytes_r1
  (.cond (.slot 15)
    law16_LogBytes_r2
    .skip))
  (.seq law16_LogBytes_r3
  (.seq law16_LogBytes_r4
  (.seq (.seq law16_LogBytes_r5
  (.cond (.slot 47)
    (.seq law16_LogBytes_r6
    .ret)
    .skip))
  (.seq (.seq law16_LogBytes_r7
  (.cond (.slot 66)
    (.seq law16_LogBytes_r8
    .ret)
    .skip))
  (.seq law16_LogBytes_r9
  .ret)))))))
abbrev law16_LogBytes_F : FN := ⟨law16_LogBytes_c, [.slot 6]⟩
theorem law16_LogBytes_ok : compF Try.prog Try.f7 = some law16_LogBytes_F := by kernel_rfl
theorem law16_LogBytes_go {args : List Value} {m : Mem} {R : Value → Mem → Prop} (hn : args.length ≤ Try.f7.ntmps) (h : wpN Try.prog law16_LogBytes_c (retP law16_LogBytes_F.rvs R) (zipP 0 args) m) : MC Try.prog 7 args m R := MC_start Try.func7 law16_LogBytes_ok mixed_ok hn h
/-! concord/concordlaw16.at -/
abbrev law16_at_r0 : NC := .reg
    (.x 0 (.alc [(.int .i64 0), (.int .i64 0)] 28) [] none []
    (.out [(0, (.slot 0)), (1, (.slot 1)), (4, (.res 0))]))
    [0, 1]
abbrev law16_at_r1 : NC := .reg
    (.q 2 (.bld [(.int .i64 0), (.int .i64 0)] [(0, 1), (1, 1)]) [(.slot 0), (.slot 1)] none
    (.x 3 (.st 2) [(.slot 4), (.res 2)] none []
    (.out [(4, (.slot 4))])))
    [0, 1, 4]
abbrev law16_at_c : NC :=
  (.seq law16_at_r0
  (.seq law16_at_r1
  .ret))
abbrev law16_at_F : FN := ⟨law16_at_c, [.cells 4 2]⟩
theorem law16_at_ok : compF Try.prog Try.f11 = some law16_at_F := by kernel_rfl
theorem law16_at_go {args : List Value} {m : Mem} {R : Value → Mem → Prop} (hn : args.length ≤ Try.f11.ntmps) (h : wpN Try.prog law16_at_c (retP law16_at_F.rvs R) (zipP 0 args) m) : MC Try.prog 11 args m R := MC_start Try.func11 law16_at_ok mixed_ok hn h
/-! concord/concordlaw16.light -/
abbrev law16_light_r0 : NC := .reg
    (.x 0 (.box 37) [(.slot 0)] none []
    (.out [(1, (.res 0))]))
    [0]
abbrev law16_light_r1 : NC := .reg
    (.q 0 (.fld 5) [(.slot 1)] none
    (.q 1 (.fld 3) [(.res 0)] none
    (.q 2 .ld [(.res 1)] none
    (.q 3 .lenz [(.res 2)] none
    (.q 4 (.fld 5) [(.slot 1)] none
    (.q 5 (.fld 4) [(.res 4)] none
    (.q 6 .ld [(.res 5)] none
    (.q 7 .lenz [(.res 6)] none
    (.q 8 (.iar .add) [(.res 3), (.res 7)] none
    (.q 9 (.fld 5) [(.slot 1)] none
    (.q 10 (.fld 5) [(.res 9)] none
    (.q 11 .ld [(.res 10)] none
    (.q 12 .lenz [(.res 11)] none
    (.q 13 (.iar .add) [(.res 8), (.res 12)] none
    (.q 14 (.fld 5) [(.slot 1)] none
    (.q 15 (.fld 6) [(.res 14)] none
    (.q 16 .ld [(.res 15)] none
    (.q 17 .lenz [(.res 16)] none
    (.q 18 (.iar .add) [(.res 13), (.res 17)] none
    (.q 19 (.icm .lss) [(.res 18), (.const (.int .i64 500))] none
    (.out [(2, (.res 19))])))))))))))))))))))))
    [1]
abbrev law16_light_c : NC :=
  (.seq law16_light_r0
  (.seq law16_light_r1
  .ret))
abbrev law16_light_F : FN := ⟨law16_light_c, [.slot 2]⟩
theorem law16_light_ok : compF Try.prog Try.f16 = some law16_light_F := by kernel_rfl
theorem law16_light_go {args : List Value} {m : Mem} {R : Value → Mem → Prop} (hn : args.length ≤ Try.f16.ntmps) (h : wpN Try.prog law16_light_c (retP law16_light_F.rvs R) (zipP 0 args) m) : MC Try.prog 16 args m R := MC_start Try.func16 law16_light_ok mixed_ok hn h
/-! concord/concordbook.Same[concord/api.Inst] -/
abbrev book_Same_api_Inst_r0 : NC := .reg
    (.out [(0, (.slot 0)), (1, (.slot 1))])
    [0, 1]
abbrev book_Same_api_Inst_r1 : NC := .reg
    (.q 1 .len [(.slot 0)] none
    (.q 3 .len [(.slot 1)] none
    (.q 4 (.icm .neq) [(.res 1), (.res 3)] none
    (.out [(0, (.slot 0)), (1, (.slot 1)), (10, (.res 4))]))))
    [0, 1]
abbrev book_Same_api_Inst_r2 : NC := .reg
    (.out [(4, (.const (.bool false)))])
    []
abbrev book_Same_api_Inst_r3 : NC := .reg
    (.out [(0, (.slot 0)), (1, (.slot 1)), (5, (.const (.int .i64 0)))])
    [0, 1]
abbrev book_Same_api_Inst_r4 : NC := .reg
    (.q 2 .len [(.slot 0)] none
    (.q 3 (.icm .lss) [(.slot 5), (.res 2)] none
    (.out [(0, (.slot 0)), (1, (.slot 1)), (5, (.slot 5)), (14, (.res 3))])))
    [0, 1, 5]
abbrev book_Same_api_Inst_r5 : NC := .reg
    (.q 2 (.ixs 2) [(.slot 0), (.slot 5)] none
    (.q 3 (.lda 2) [(.res 2)] none
    (.q 6 (.ixs 2) [(.slot 1), (.slot 5)] none
    (.q 7 (.lda 2) [(.res 6)] none
    (.q 8 (.eqc true [(.i .i64), (.i .i64)]) [(.res 3), (.res 7)] none
    (.out [(0, (.slot 0)), (1, (.slot 1)), (5, (.slot 5)), (25, (.res 8))]))))))
    [0, 1, 5]
abbrev book_Same_api_Inst_r6 : NC := .reg
    (.out [(4, (.const (.bool false)))])
    []
abbrev book_Same_api_Inst_r7 : NC := .reg
    (.q 1 (.iar .add) [(.slot 5), (.const (.int .i64 1))] none
    (.out [(0, (.slot 0)), (1, (.slot 1)), (5, (.res 1))]))
    [0, 1, 5]
abbrev book_Same_api_Inst_l0 : NC :=
  (.seq (.seq book_Same_api_Inst_r4
  (.cond (.slot 14)
    .skip
    (.exit 0)))
  (.seq (.block 1 (.seq book_Same_api_Inst_r5
  (.cond (.slot 25)
    (.seq book_Same_api_Inst_r6
    .ret)
    .skip)))
  book_Same_api_Inst_r7))
abbrev book_Same_api_Inst_r8 : NC := .reg
    (.out [(4, (.const (.bool true)))])
    []
abbrev book_Same_api_Inst_c : NC :=
  (.seq book_Same_api_Inst_r0
  (.seq (.seq book_Same_api_Inst_r1
  (.cond (.slot 10)
    (.seq book_Same_api_Inst_r2
    .ret)
    .skip))
  (.seq (.seq book_Same_api_Inst_r3
  (.block 0 (.loop [0, 1, 5] book_Same_api_Inst_l0)))
  (.seq book_Same_api_Inst_r8
  .ret))))
abbrev book_Same_api_Inst_F : FN := ⟨book_Same_api_Inst_c, [.slot 4]⟩
theorem book_Same_api_Inst_ok : compF Try.prog Try.f18 = some book_Same_api_Inst_F := by kernel_rfl
theorem book_Same_api_Inst_go {args : List Value} {m : Mem} {R : Value → Mem → Prop} (hn : args.length ≤ Try.f18.ntmps) (h : wpN Try.prog book_Same_api_Inst_c (retP book_Same_api_Inst_F.rvs R) (zipP 0 args) m) : MC Try.prog 18 args m R := MC_start Try.func18 book_Same_api_Inst_ok mixed_ok hn h
/-! concord/concordlaw16.alike -/
abbrev law16_alike_r0 : NC := .reg
    (.out [(0, (.slot 0)), (1, (.slot 1))])
    [0, 1]
abbrev law16_alike_r1 : NC := .reg
    (.q 3 .nilck [(.slot 1)] none
    (.q 4 (.fld 0) [(.res 3)] none
    (.q 5 .ld [(.res 4)] none
    (.x 1 (.call 14) [(.slot 0)] none [(5, .ld, [(.res 4)], none)]
    (.x 6 (.call 18) [(.res 1), (.res 5)] none []
    (.q 7 .not [(.res 6)] none
    (.q 9 .mv [(.slot 0)] (some ((.res 7), false))
    (.q 11 .mv [(.slot 1)] (some ((.res 7), false))
    (.q 12 .nilck [(.res 11)] (some ((.res 7), false))
    (.q 13 (.fld 2) [(.res 12)] (some ((.res 7), false))
    (.q 14 (.lda 7) [(.res 13)] (some ((.res 7), false))
    (.x 10 (.call 17) [(.res 9)] (some ((.res 7), false)) [(14, (.lda 7), [(.res 13)], (some ((.res 7), false)))]
    (.q 15 (.eqc true [(.i .i64), (.i .i64), (.i .i64), (.i .i64), (.i .i64), (.i .i64), (.i .i64)]) [(.res 10), (.res 14)] (some ((.res 7), false))
    (.q 16 .pick [(.res 7), (.const (.bool true)), (.res 15)] none
    (.q 18 .mv [(.slot 0)] (some ((.res 16), false))
    (.q 20 .mv [(.slot 1)] (some ((.res 16), false))
    (.x 19 (.call 12) [(.res 18)] (some ((.res 16), false)) []
    (.x 21 (.call 39) [(.res 20)] (some ((.res 16), false)) []
    (.q 22 (.eqc true [(.i .i64), (.i .i64), (.i .i64), (.i .i64), (.i .i64), (.i .i64), (.i .i64)]) [(.res 19), (.res 21)] (some ((.res 16), false))
    (.q 23 .pick [(.res 16), (.const (.bool true)), (.res 22)] none
    (.out [(0, (.slot 0)), (1, (.slot 1)), (31, (.res 23))])))))))))))))))))))))
    [0, 1]
abbrev law16_alike_r2 : NC := .reg
    (.out [(4, (.const (.bool false)))])
    []
abbrev law16_alike_r3 : NC := .reg
    (.out [(0, (.slot 0)), (1, (.slot 1)), (5, (.const (.int .i64 0)))])
    [0, 1]
abbrev law16_alike_r4 : NC := .reg
    (.q 2 .nilck [(.slot 1)] none
    (.q 3 (.fld 0) [(.res 2)] none
    (.q 4 .ld [(.res 3)] none
    (.q 5 .len [(.res 4)] none
    (.q 6 (.icm .lss) [(.slot 5), (.res 5)] none
    (.out [(0, (.slot 0)), (1, (.slot 1)), (5, (.slot 5)), (38, (.res 6))]))))))
    [0, 1, 5]
abbrev law16_alike_r5 : NC := .reg
    (.q 2 .nilck [(.slot 1)] none
    (.q 3 (.fld 0) [(.res 2)] none
    (.q 4 .ld [(.res 3)] none
    (.q 6 (.ixs 2) [(.res 4), (.slot 5)] none
    (.q 7 (.lda 2) [(.res 6)] none
    (.x 8 (.call 19) [(.slot 0), (.res 7)] none []
    (.q 10 (.ext 0) [(.res 8)] none
    (.q 11 (.ext 1) [(.res 8)] none
    (.x 12 (.alc [(.int .i64 0), (.int .i64 0), (.int .i64 0), (.int .i64 0), (.int .i64 0), (.int .i64 0), (.int .i64 0), (.int .i64 0), (.string ⟨#[]⟩), (.string ⟨#[]⟩), (.string ⟨#[]⟩), (.string ⟨#[]⟩), (.int .i64 0), (.int .i64 0), (.int .i64 0), (.int .i64 0), (.int .i64 0), (.int .i64 0), (.int .i64 0), (.int .i64 0), (.bool false)] 37) [] none []
    (.x 13 (.st 21) [(.res 12), (.res 10)] none []
    (.out [(0, (.slot 0)), (1, (.slot 1)), (5, (.slot 5)), (6, (.res 12)), (7, (.res 11))])))))))))))
    [0, 1, 5]
abbrev law16_alike_r6 : NC := .reg
    (.q 1 .not [(.slot 7)] none
    (.q 3 (.lda 21) [(.slot 6)] (some ((.res 1), false))
    (.q 4 .mv [(.slot 1)] (some ((.res 1), false))
    (.q 5 .nilck [(.res 4)] (some ((.res 1), false))
    (.q 6 (.fld 1) [(.res 5)] (some ((.res 1), false))
    (.q 7 .ld [(.res 6)] (some ((.res 1), false))
    (.q 8 .mv [(.slot 5)] (some ((.res 1), false))
    (.q 9 (.ixs 21) [(.res 7), (.res 8)] (some ((.res 1), false))
    (.q 10 (.lda 21) [(.res 9)] (some ((.res 1), false))
    (.q 11 (.eqc true [(.i .i64), (.i .i64), (.i .i64), (.i .i64), (.i .i64), (.i .i64), (.i .i64), (.i .i64), .s, .s, .s, .s, (.i .i64), (.i .i64), (.i .i64), (.i .i64), (.i .i64), (.i .i64), (.i .i64), (.i .i64), .b]) [(.res 3), (.res 10)] (some ((.res 1), false))
    (.q 12 .pick [(.res 1), (.const (.bool true)), (.res 11)] none
    (.out [(0, (.slot 0)), (1, (.slot 1)), (5, (.slot 5)), (65, (.res 12))]))))))))))))
    [0, 1, 5, 6, 7]
abbrev law16_alike_r7 : NC := .reg
    (.out [(4, (.const (.bool false)))])
    []
abbrev law16_alike_r8 : NC := .reg
    (.q 1 (.iar .add) [(.slot 5), (.const (.int .i64 1))] none
    (.out [(0, (.slot 0)), (1, (.slot 1)), (5, (.res 1))]))
    [0, 1, 5]
abbrev law16_alike_l0 : NC :=
  (.seq (.seq law16_alike_r4
  (.cond (.slot 38)
    .skip
    (.exit 0)))
  (.seq (.block 1 (.seq law16_alike_r5
  (.seq law16_alike_r6
  (.cond (.slot 65)
    (.seq law16_alike_r7
    .ret)
    .skip))))
  law16_alike_r8))
abbrev law16_alike_r9 : NC := .reg
    (.out [(4, (.const (.bool true)))])
    []
abbrev law16_alike_c : NC :=
  (.seq law16_alike_r0
  (.seq (.seq law16_alike_r1
  (.cond (.slot 31)
    (.seq law16_alike_r2
    .ret)
    .skip))
  (.seq (.seq law16_alike_r3
  (.block 0 (.loop [0, 1, 5] law16_alike_l0)))
  (.seq law16_alike_r9
  .ret))))
abbrev law16_alike_F : FN := ⟨law16_alike_c, [.slot 4]⟩
theorem law16_alike_ok : compF Try.prog Try.f22 = some law16_alike_F := by kernel_rfl
theorem law16_alike_go {args : List Value} {m : Mem} {R : Value → Mem → Prop} (hn : args.length ≤ Try.f22.ntmps) (h : wpN Try.prog law16_alike_c (retP law16_alike_F.rvs R) (zipP 0 args) m) : MC Try.prog 22 args m R := MC_start Try.func22 law16_alike_ok mixed_ok hn h
/-! concord/concordbook.Same[byte] -/
abbrev book_Same_byte_r0 : NC := .reg
    (.out [(0, (.slot 0)), (1, (.slot 1))])
    [0, 1]
abbrev book_Same_byte_r1 : NC := .reg
    (.q 1 .len [(.slot 0)] none
    (.q 3 .len [(.slot 1)] none
    (.q 4 (.icm .neq) [(.res 1), (.res 3)] none
    (.out [(0, (.slot 0)), (1, (.slot 1)), (10, (.res 4))]))))
    [0, 1]
abbrev book_Same_byte_r2 : NC := .reg
    (.out [(4, (.const (.bool false)))])
    []
abbrev book_Same_byte_r3 : NC := .reg
    (.out [(0, (.slot 0)), (1, (.slot 1)), (5, (.const (.int .i64 0)))])
    [0, 1]
abbrev book_Same_byte_r4 : NC := .reg
    (.q 2 .len [(.slot 0)] none
    (.q 3 (.icm .lss) [(.slot 5), (.res 2)] none
    (.out [(0, (.slot 0)), (1, (.slot 1)), (5, (.slot 5)), (14, (.res 3))])))
    [0, 1, 5]
abbrev book_Same_byte_r5 : NC := .reg
    (.q 2 (.ixs 1) [(.slot 0), (.slot 5)] none
    (.q 3 .ld [(.res 2)] none
    (.q 6 (.ixs 1) [(.slot 1), (.slot 5)] none
    (.q 7 .ld [(.res 6)] none
    (.q 8 (.icm .neq) [(.res 3), (.res 7)] none
    (.out [(0, (.slot 0)), (1, (.slot 1)), (5, (.slot 5)), (25, (.res 8))]))))))
    [0, 1, 5]
abbrev book_Same_byte_r6 : NC := .reg
    (.out [(4, (.const (.bool false)))])
    []
abbrev book_Same_byte_r7 : NC := .reg
    (.q 1 (.iar .add) [(.slot 5), (.const (.int .i64 1))] none
    (.out [(0, (.slot 0)), (1, (.slot 1)), (5, (.res 1))]))
    [0, 1, 5]
abbrev book_Same_byte_l0 : NC :=
  (.seq (.seq book_Same_byte_r4
  (.cond (.slot 14)
    .skip
    (.exit 0)))
  (.seq (.block 1 (.seq book_Same_byte_r5
  (.cond (.slot 25)
    (.seq book_Same_byte_r6
    .ret)
    .skip)))
  book_Same_byte_r7))
abbrev book_Same_byte_r8 : NC := .reg
    (.out [(4, (.const (.bool true)))])
    []
abbrev book_Same_byte_c : NC :=
  (.seq book_Same_byte_r0
  (.seq (.seq book_Same_byte_r1
  (.cond (.slot 10)
    (.seq book_Same_byte_r2
    .ret)
    .skip))
  (.seq (.seq book_Same_byte_r3
  (.block 0 (.loop [0, 1, 5] book_Same_byte_l0)))
  (.seq book_Same_byte_r8
  .ret))))
abbrev book_Same_byte_F : FN := ⟨book_Same_byte_c, [.slot 4]⟩
theorem book_Same_byte_ok : compF Try.prog Try.f29 = some book_Same_byte_F := by kernel_rfl
theorem book_Same_byte_go {args : List Value} {m : Mem} {R : Value → Mem → Prop} (hn : args.length ≤ Try.f29.ntmps) (h : wpN Try.prog book_Same_byte_c (retP book_Same_byte_F.rvs R) (zipP 0 args) m) : MC Try.prog 29 args m R := MC_start Try.func29 book_Same_byte_ok mixed_ok hn h
/-! concord/concordbook.Within -/
abbrev book_Within_r0 : NC := .reg
    (.out [(0, (.slot 0)), (1, (.slot 1)), (2, (.slot 2))])
    [0, 1, 2]
abbrev book_Within_r1 : NC := .reg
    (.q 3 (.iar .sub) [(.slot 2), (.slot 1)] none
    (.q 4 (.iar .add) [(.res 3), (.const (.int .i64 1))] none
    (.q 5 (.idv .rem) [(.slot 0), (.res 4)] none
    (.out [(0, (.res 5)), (1, (.slot 1)), (2, (.slot 2))]))))
    [0, 1, 2]
abbrev book_Within_r2 : NC := .reg
    (.q 1 (.icm .lss) [(.slot 0), (.const (.int .i64 0))] none
    (.out [(0, (.slot 0)), (1, (.slot 1)), (2, (.slot 2)), (14, (.res 1))]))
    [0, 1, 2]
abbrev book_Within_r3 : NC := .reg
    (.q 2 (.iar .add) [(.slot 0), (.slot 2)] none
    (.q 4 (.iar .sub) [(.res 2), (.slot 1)] none
    (.q 5 (.iar .add) [(.res 4), (.const (.int .i64 1))] none
    (.out [(0, (.res 5)), (1, (.slot 1))]))))
    [0, 1, 2]
abbrev book_Within_r4 : NC := .reg
    (.q 2 (.iar .add) [(.slot 1), (.slot 0)] none
    (.out [(6, (.res 2))]))
    [0, 1]
abbrev book_Within_c : NC :=
  (.seq book_Within_r0
  (.seq book_Within_r1
  (.seq (.seq book_Within_r2
  (.cond (.slot 14)
    book_Within_r3
    .skip))
  (.seq book_Within_r4
  .ret))))
abbrev book_Within_F : FN := ⟨book_Within_c, [.slot 6]⟩
theorem book_Within_ok : compF Try.prog Try.f32 = some book_Within_F := by kernel_rfl
theorem book_Within_go {args : List Value} {m : Mem} {R : Value → Mem → Prop} (hn : args.length ≤ Try.f32.ntmps) (h : wpN Try.prog book_Within_c (retP book_Within_F.rvs R) (zipP 0 args) m) : MC Try.prog 32 args m R := MC_start Try.func32 book_Within_ok mixed_ok hn h
end Go.Fw

namespace Go.Fw
open Go.Proofs
/-! concord/pack.Read -/
abbrev pack_Read_r0 : NC := .reg
    (.out [(0, (.slot 0))])
    [0]
abbrev pack_Read_r1 : NC := .reg
    (.x 1 (.call 64) [(.slot 0), (.const (.int .i64 0))] none []
    (.q 2 (.bld [(.slice none 0 0), (.int .i64 0), (.int .i64 0)] [(0, 1)]) [(.res 1)] none
    (.x 3 (.box 100) [(.res 2)] none []
    (.out [(2, (.res 3))]))))
    [0]
abbrev pack_Read_c : NC :=
  (.seq pack_Read_r0
  (.seq pack_Read_r1
  .ret))
abbrev pack_Read_F : FN := ⟨pack_Read_c, [.slot 2]⟩
theorem pack_Read_ok : compF Try.prog Try.f43 = some pack_Read_F := by kernel_rfl
theorem pack_Read_go {args : List Value} {m : Mem} {R : Value → Mem → Prop} (hn : args.length ≤ Try.f43.ntmps) (h : wpN Try.prog pack_Read_c (retP pack_Read_F.rvs R) (zipP 0 args) m) : MC Try.prog 43 args m R := MC_start Try.func43 pack_Read_ok mixed_ok hn h
/-! (*concord/pack.Reader).Num -/
abbrev pack_Reader_Num_r0 : NC := .reg
    (.out [(0, (.slot 0))])
    [0]
abbrev pack_Reader_Num_r1 : NC := .reg
    (.q 1 .nilck [(.slot 0)] none
    (.q 2 (.fld 2) [(.res 1)] none
    (.q 3 .ld [(.res 2)] none
    (.q 4 (.icm .neq) [(.res 3), (.const (.int .i64 0))] none
    (.out [(0, (.slot 0)), (11, (.res 4))])))))
    [0]
abbrev pack_Reader_Num_r2 : NC := .reg
    (.out [(2, (.const (.int .i64 0)))])
    []
abbrev pack_Reader_Num_r3 : NC := .reg
    (.q 1 .nilck [(.slot 0)] none
    (.q 2 (.fld 1) [(.res 1)] none
    (.q 3 .ld [(.res 2)] none
    (.out [(0, (.slot 0)), (3, (.res 3)), (4, (.const (.int .u64 0)))]))))
    [0]
abbrev pack_Reader_Num_r4 : NC := .reg
    (.out [(0, (.slot 0)), (3, (.slot 3)), (4, (.slot 4)), (5, (.const (.int .i64 0)))])
    [0, 3, 4]
abbrev pack_Reader_Num_r5 : NC := .reg
    (.q 1 .nilck [(.slot 0)] none
    (.q 2 (.fld 1) [(.res 1)] none
    (.q 3 .ld [(.res 2)] none
    (.q 5 .nilck [(.slot 0)] none
    (.q 6 (.fld 0) [(.res 5)] none
    (.q 7 .ld [(.res 6)] none
    (.q 8 .len [(.res 7)] none
    (.q 9 (.icm .eql) [(.res 3), (.res 8)] none
    (.out [(0, (.slot 0)), (3, (.slot 3)), (4, (.slot 4)), (5, (.slot 5)), (27, (.res 9))])))))))))
    [0, 3, 4, 5]
abbrev pack_Reader_Num_r6 : NC := .reg
    (.x 2 (.call 65) [(.slot 0), (.slot 3), (.const (.int .i64 3))] none []
    (.out []))
    [0, 3]
abbrev pack_Reader_Num_r7 : NC := .reg
    (.out [(2, (.const (.int .i64 0)))])
    []
abbrev pack_Reader_Num_r8 : NC := .reg
    (.q 1 .nilck [(.slot 0)] none
    (.q 2 (.fld 0) [(.res 1)] none
    (.q 3 .ld [(.res 2)] none
    (.q 5 .nilck [(.slot 0)] none
    (.q 6 (.fld 1) [(.res 5)] none
    (.q 7 .ld [(.res 6)] none
    (.q 8 (.ixs 1) [(.res 3), (.res 7)] none
    (.q 9 .ld [(.res 8)] none
    (.out [(0, (.slot 0)), (3, (.slot 3)), (4, (.slot 4)), (5, (.slot 5)), (6, (.res 9))])))))))))
    [0, 3, 4, 5]
abbrev pack_Reader_Num_r9 : NC := .reg
    (.q 1 (.icm .gtr) [(.slot 5), (.const (.int .i64 0))] none
    (.q 3 .mv [(.slot 6)] (some ((.res 1), true))
    (.q 4 (.icm .eql) [(.res 3), (.const (.int .u8 0))] (some ((.res 1), true))
    (.q 5 .pick [(.res 1), (.res 4), (.const (.bool false))] none
    (.q 7 .mv [(.slot 5)] (some ((.res 5), false))
    (.q 8 (.icm .eql) [(.res 7), (.const (.int .i64 9))] (some ((.res 5), false))
    (.q 9 .mv [(.res 8)] (some ((.res 5), false))
    (.q 10 .mv [(.slot 6)] (some ((.res 9), true))
    (.q 11 (.icm .gtr) [(.res 10), (.const (.int .u8 1))] (some ((.res 9), true))
    (.q 12 .pick [(.res 9), (.res 11), (.const (.bool false))] (some ((.res 5), false))
    (.q 13 .pick [(.res 5), (.const (.bool true)), (.res 12)] none
    (.out [(0, (.slot 0)), (3, (.slot 3)), (4, (.slot 4)), (5, (.slot 5)), (6, (.slot 6)), (54, (.res 13))]))))))))))))
    [0, 3, 4, 5, 6]
abbrev pack_Reader_Num_r10 : NC := .reg
    (.x 2 (.call 65) [(.slot 0), (.slot 3), (.const (.int .i64 4))] none []
    (.out []))
    [0, 3]
abbrev pack_Reader_Num_r11 : NC := .reg
    (.out [(2, (.const (.int .i64 0)))])
    []
abbrev pack_Reader_Num_r12 : NC := .reg
    (.q 1 .nilck [(.slot 0)] none
    (.q 2 (.fld 1) [(.res 1)] none
    (.q 3 .ld [(.res 2)] none
    (.q 4 (.iar .add) [(.res 3), (.const (.int .i64 1))] none
    (.q 5 .nilck [(.slot 0)] none
    (.q 6 (.fld 1) [(.res 5)] none
    (.x 7 (.st 1) [(.res 6), (.res 4)] none []
    (.out [(0, (.slot 0)), (3, (.slot 3)), (4, (.slot 4)), (5, (.slot 5)), (6, (.slot 6))]))))))))
    [0, 3, 4, 5, 6]
abbrev pack_Reader_Num_r13 : NC := .reg
    (.q 2 (.ibt .and) [(.slot 6), (.const (.int .u8 127))] none
    (.q 3 (.conv .u64) [(.res 2)] none
    (.q 5 (.iar .mul) [(.const (.int .i64 7)), (.slot 5)] none
    (.q 6 (.conv .u64) [(.res 5)] none
    (.q 7 (.ish .shl) [(.res 3), (.res 6)] none
    (.q 8 (.ibt .or) [(.slot 4), (.res 7)] none
    (.out [(0, (.slot 0)), (3, (.slot 3)), (4, (.res 8)), (5, (.slot 5)), (6, (.slot 6))])))))))
    [0, 3, 4, 5, 6]
abbrev pack_Reader_Num_r14 : NC := .reg
    (.q 1 (.icm .lss) [(.slot 6), (.const (.int .u8 128))] none
    (.out [(0, (.slot 0)), (3, (.slot 3)), (4, (.slot 4)), (5, (.slot 5)), (75, (.res 1))]))
    [0, 3, 4, 5, 6]
abbrev pack_Reader_Num_r15 : NC := .reg
    (.x 1 (.call 66) [(.slot 4)] none []
    (.out [(2, (.res 1))]))
    [4]
abbrev pack_Reader_Num_r16 : NC := .reg
    (.q 1 (.iar .add) [(.slot 5), (.const (.int .i64 1))] none
    (.out [(0, (.slot 0)), (3, (.slot 3)), (4, (.slot 4)), (5, (.res 1))]))
    [0, 3, 4, 5]
abbrev pack_Reader_Num_l0 : NC :=
  (.seq (.block 1 (.seq (.seq pack_Reader_Num_r5
  (.cond (.slot 27)
    (.seq pack_Reader_Num_r6
    (.seq pack_Reader_Num_r7
    .ret))
    .skip))
  (.seq pack_Reader_Num_r8
  (.seq (.seq pack_Reader_Num_r9
  (.cond (.slot 54)
    (.seq pack_Reader_Num_r10
    (.seq pack_Reader_Num_r11
    .ret))
    .skip))
  (.seq pack_Reader_Num_r12
  (.seq pack_Reader_Num_r13
  (.seq pack_Reader_Num_r14
  (.cond (.slot 75)
    (.seq pack_Reader_Num_r15
    .ret)
    .skip))))))))
  pack_Reader_Num_r16)
abbrev pack_Reader_Num_c : NC :=
  (.seq pack_Reader_Num_r0
  (.seq (.seq pack_Reader_Num_r1
  (.cond (.slot 11)
    (.seq pack_Reader_Num_r2
    .ret)
    .skip))
  (.seq pack_Reader_Num_r3
  (.seq pack_Reader_Num_r4
  (.block 0 (.loop [0, 3, 4, 5] pack_Reader_Num_l0))))))
abbrev pack_Reader_Num_F : FN := ⟨pack_Reader_Num_c, [.slot 2]⟩
theorem pack_Reader_Num_ok : compF Try.prog Try.f44 = some pack_Reader_Num_F := by kernel_rfl
theorem pack_Reader_Num_go {args : List Value} {m : Mem} {R : Value → Mem → Prop} (hn : args.length ≤ Try.f44.ntmps) (h : wpN Try.prog pack_Reader_Num_c (retP pack_Reader_Num_F.rvs R) (zipP 0 args) m) : MC Try.prog 44 args m R := MC_start Try.func44 pack_Reader_Num_ok mixed_ok hn h
/-! (*concord/pack.Reader).End -/
abbrev pack_Reader_End_r0 : NC := .reg
    (.out [(0, (.slot 0))])
    [0]
abbrev pack_Reader_End_r1 : NC := .reg
    (.q 1 .nilck [(.slot 0)] none
    (.q 2 (.fld 2) [(.res 1)] none
    (.q 3 .ld [(.res 2)] none
    (.q 4 (.icm .eql) [(.res 3), (.const (.int .i64 0))] none
    (.q 6 .mv [(.slot 0)] (some ((.res 4), true))
    (.q 7 .nilck [(.res 6)] (some ((.res 4), true))
    (.q 8 (.fld 1) [(.res 7)] (some ((.res 4), true))
    (.q 9 .ld [(.res 8)] (some ((.res 4), true))
    (.q 10 .mv [(.slot 0)] (some ((.res 4), true))
    (.q 11 .nilck [(.res 10)] (some ((.res 4), true))
    (.q 12 (.fld 0) [(.res 11)] (some ((.res 4), true))
    (.q 13 .ld [(.res 12)] (some ((.res 4), true))
    (.q 14 .len [(.res 13)] (some ((.res 4), true))
    (.q 15 (.icm .lss) [(.res 9), (.res 14)] (some ((.res 4), true))
    (.q 16 .pick [(.res 4), (.res 15), (.const (.bool false))] none
    (.out [(0, (.slot 0)), (19, (.res 16))]))))))))))))))))
    [0]
abbrev pack_Reader_End_r2 : NC := .reg
    (.q 1 .nilck [(.slot 0)] none
    (.q 2 (.fld 2) [(.res 1)] none
    (.x 3 (.st 1) [(.res 2), (.const (.int .i64 5))] none []
    (.out [(0, (.slot 0))]))))
    [0]
abbrev pack_Reader_End_r3 : NC := .reg
    (.q 1 .nilck [(.slot 0)] none
    (.q 2 (.fld 2) [(.res 1)] none
    (.q 3 .ld [(.res 2)] none
    (.out [(2, (.res 3))]))))
    [0]
abbrev pack_Reader_End_c : NC :=
  (.seq pack_Reader_End_r0
  (.seq (.seq pack_Reader_End_r1
  (.cond (.slot 19)
    pack_Reader_End_r2
    .skip))
  (.seq pack_Reader_End_r3
  .ret)))
abbrev pack_Reader_End_F : FN := ⟨pack_Reader_End_c, [.slot 2]⟩
theorem pack_Reader_End_ok : compF Try.prog Try.f46 = some pack_Reader_End_F := by kernel_rfl
theorem pack_Reader_End_go {args : List Value} {m : Mem} {R : Value → Mem → Prop} (hn : args.length ≤ Try.f46.ntmps) (h : wpN Try.prog pack_Reader_End_c (retP pack_Reader_End_F.rvs R) (zipP 0 args) m) : MC Try.prog 46 args m R := MC_start Try.func46 pack_Reader_End_ok mixed_ok hn h
/-! concord/pack.Num -/
abbrev pack_Num_r0 : NC := .reg
    (.out [(0, (.slot 0)), (1, (.slot 1))])
    [0, 1]
abbrev pack_Num_r1 : NC := .reg
    (.x 1 (.call 64) [(.slot 0), (.const (.int .i64 10))] none []
    (.x 3 (.call 84) [(.res 1), (.slot 1)] none []
    (.out [(4, (.res 3))])))
    [0, 1]
abbrev pack_Num_c : NC :=
  (.seq pack_Num_r0
  (.seq pack_Num_r1
  .ret))
abbrev pack_Num_F : FN := ⟨pack_Num_c, [.slot 4]⟩
theorem pack_Num_ok : compF Try.prog Try.f55 = some pack_Num_F := by kernel_rfl
theorem pack_Num_go {args : List Value} {m : Mem} {R : Value → Mem → Prop} (hn : args.length ≤ Try.f55.ntmps) (h : wpN Try.prog pack_Num_c (retP pack_Num_F.rvs R) (zipP 0 args) m) : MC Try.prog 55 args m R := MC_start Try.func55 pack_Num_ok mixed_ok hn h
/-! concord/pack.grown -/
abbrev pack_grown_r0 : NC := .reg
    (.out [(0, (.slot 0)), (1, (.slot 1))])
    [0, 1]
abbrev pack_grown_r1 : NC := .reg
    (.q 1 .len [(.slot 0)] none
    (.q 3 (.iar .add) [(.res 1), (.slot 1)] none
    (.x 4 (.mks 5 1 [(.int .u8 0)]) [(.const (.int .i64 0)), (.res 3)] none []
    (.x 6 (.app 5 1 1 [(.int .u8 0)]) [(.res 4), (.slot 0)] none []
    (.out [(4, (.res 6))])))))
    [0, 1]
abbrev pack_grown_c : NC :=
  (.seq pack_grown_r0
  (.seq pack_grown_r1
  .ret))
abbrev pack_grown_F : FN := ⟨pack_grown_c, [.slot 4]⟩
theorem pack_grown_ok : compF Try.prog Try.f64 = some pack_grown_F := by kernel_rfl
theorem pack_grown_go {args : List Value} {m : Mem} {R : Value → Mem → Prop} (hn : args.length ≤ Try.f64.ntmps) (h : wpN Try.prog pack_grown_c (retP pack_grown_F.rvs R) (zipP 0 args) m) : MC Try.prog 64 args m R := MC_start Try.func64 pack_grown_ok mixed_ok hn h
/-! (*concord/pack.Reader).fail -/
abbrev pack_Reader_fail_r0 : NC := .reg
    (.q 4 .nilck [(.slot 0)] none
    (.q 5 (.fld 1) [(.res 4)] none
    (.x 6 (.st 1) [(.res 5), (.slot 1)] none []
    (.q 7 .nilck [(.slot 0)] none
    (.q 8 (.fld 2) [(.res 7)] none
    (.x 9 (.st 1) [(.res 8), (.slot 2)] none []
    (.out [])))))))
    [0, 1, 2]
abbrev pack_Reader_fail_c : NC :=
  pack_Reader_fail_r0
abbrev pack_Reader_fail_F : FN := ⟨pack_Reader_fail_c, []⟩
theorem pack_Reader_fail_ok : compF Try.prog Try.f65 = some pack_Reader_fail_F := by kernel_rfl
theorem pack_Reader_fail_go {args : List Value} {m : Mem} {R : Value → Mem → Prop} (hn : args.length ≤ Try.f65.ntmps) (h : wpN Try.prog pack_Reader_fail_c (retP pack_Reader_fail_F.rvs R) (zipP 0 args) m) : MC Try.prog 65 args m R := MC_start Try.func65 pack_Reader_fail_ok mixed_ok hn h
/-! concord/word.Zag -/
abbrev word_Zag_r0 : NC := .reg
    (.out [(0, (.slot 0))])
    [0]
abbrev word_Zag_r1 : NC := .reg
    (.q 1 (.ish .shr) [(.slot 0), (.const (.int .u64 1))] none
    (.q 2 (.conv .i64) [(.res 1)] none
    (.q 4 (.ibt .and) [(.slot 0), (.const (.int .u64 1))] none
    (.q 5 (.conv .i64) [(.res 4)] none
    (.q 6 .neg [(.res 5)] none
    (.q 7 (.ibt .xor) [(.res 2), (.res 6)] none
    (.out [(2, (.res 7))])))))))
    [0]
abbrev word_Zag_c : NC :=
  (.seq word_Zag_r0
  (.seq word_Zag_r1
  .ret))
abbrev word_Zag_F : FN := ⟨word_Zag_c, [.slot 2]⟩
theorem word_Zag_ok : compF Try.prog Try.f66 = some word_Zag_F := by kernel_rfl
theorem word_Zag_go {args : List Value} {m : Mem} {R : Value → Mem → Prop} (hn : args.length ≤ Try.f66.ntmps) (h : wpN Try.prog word_Zag_c (retP word_Zag_F.rvs R) (zipP 0 args) m) : MC Try.prog 66 args m R := MC_start Try.func66 word_Zag_ok mixed_ok hn h
/-! (*concord/pack.Reader).Flag -/
abbrev pack_Reader_Flag_r0 : NC := .reg
    (.out [(0, (.slot 0))])
    [0]
abbrev pack_Reader_Flag_r1 : NC := .reg
    (.q 1 .nilck [(.slot 0)] none
    (.q 2 (.fld 2) [(.res 1)] none
    (.q 3 .ld [(.res 2)] none
    (.q 4 (.icm .neq) [(.res 3), (.const (.int .i64 0))] none
    (.out [(0, (.slot 0)), (8, (.res 4))])))))
    [0]
abbrev pack_Reader_Flag_r2 : NC := .reg
    (.out [(2, (.const (.bool false)))])
    []
abbrev pack_Reader_Flag_r3 : NC := .reg
    (.q 1 .nilck [(.slot 0)] none
    (.q 2 (.fld 1) [(.res 1)] none
    (.q 3 .ld [(.res 2)] none
    (.q 5 .nilck [(.slot 0)] none
    (.q 6 (.fld 0) [(.res 5)] none
    (.q 7 .ld [(.res 6)] none
    (.q 8 .len [(.res 7)] none
    (.q 9 (.icm .eql) [(.res 3), (.res 8)] none
    (.out [(0, (.slot 0)), (18, (.res 9))])))))))))
    [0]
abbrev pack_Reader_Flag_r4 : NC := .reg
    (.q 2 .nilck [(.slot 0)] none
    (.q 3 (.fld 1) [(.res 2)] none
    (.q 4 .ld [(.res 3)] none
    (.x 5 (.call 65) [(.slot 0), (.res 4), (.const (.int .i64 3))] none []
    (.out [])))))
    [0]
abbrev pack_Reader_Flag_r5 : NC := .reg
    (.out [(2, (.const (.bool false)))])
    []
abbrev pack_Reader_Flag_r6 : NC := .reg
    (.q 1 .nilck [(.slot 0)] none
    (.q 2 (.fld 0) [(.res 1)] none
    (.q 3 .ld [(.res 2)] none
    (.q 5 .nilck [(.slot 0)] none
    (.q 6 (.fld 1) [(.res 5)] none
    (.q 7 .ld [(.res 6)] none
    (.q 8 (.ixs 1) [(.res 3), (.res 7)] none
    (.q 9 .ld [(.res 8)] none
    (.out [(0, (.slot 0)), (3, (.res 9))])))))))))
    [0]
abbrev pack_Reader_Flag_r7 : NC := .reg
    (.q 1 (.icm .gtr) [(.slot 3), (.const (.int .u8 1))] none
    (.out [(0, (.slot 0)), (3, (.slot 3)), (36, (.res 1))]))
    [0, 3]
abbrev pack_Reader_Flag_r8 : NC := .reg
    (.q 2 .nilck [(.slot 0)] none
    (.q 3 (.fld 1) [(.res 2)] none
    (.q 4 .ld [(.res 3)] none
    (.x 5 (.call 65) [(.slot 0), (.res 4), (.const (.int .i64 4))] none []
    (.out [])))))
    [0]
abbrev pack_Reader_Flag_r9 : NC := .reg
    (.out [(2, (.const (.bool false)))])
    []
abbrev pack_Reader_Flag_r10 : NC := .reg
    (.q 1 .nilck [(.slot 0)] none
    (.q 2 (.fld 1) [(.res 1)] none
    (.q 3 .ld [(.res 2)] none
    (.q 4 (.iar .add) [(.res 3), (.const (.int .i64 1))] none
    (.q 5 .nilck [(.slot 0)] none
    (.q 6 (.fld 1) [(.res 5)] none
    (.x 7 (.st 1) [(.res 6), (.res 4)] none []
    (.out [(3, (.slot 3))]))))))))
    [0, 3]
abbrev pack_Reader_Flag_r11 : NC := .reg
    (.q 1 (.icm .eql) [(.slot 3), (.const (.int .u8 1))] none
    (.out [(2, (.res 1))]))
    [3]
abbrev pack_Reader_Flag_c : NC :=
  (.seq pack_Reader_Flag_r0
  (.seq (.seq pack_Reader_Flag_r1
  (.cond (.slot 8)
    (.seq pack_Reader_Flag_r2
    .ret)
    .skip))
  (.seq (.seq pack_Reader_Flag_r3
  (.cond (.slot 18)
    (.seq pack_Reader_Flag_r4
    (.seq pack_Reader_Flag_r5
    .ret))
    .skip))
  (.seq pack_Reader_Flag_r6
  (.seq (.seq pack_Reader_Flag_r7
  (.cond (.slot 36)
    (.seq pack_Reader_Flag_r8
    (.seq pack_Reader_Flag_r9
    .ret))
    .skip))
  (.seq pack_Reader_Flag_r10
  (.seq pack_Reader_Flag_r11
  .ret)))))))
abbrev pack_Reader_Flag_F : FN := ⟨pack_Reader_Flag_c, [.slot 2]⟩
theorem pack_Reader_Flag_ok : compF Try.prog Try.f70 = some pack_Reader_Flag_F := by kernel_rfl
theorem pack_Reader_Flag_go {args : List Value} {m : Mem} {R : Value → Mem → Prop} (hn : args.length ≤ Try.f70.ntmps) (h : wpN Try.prog pack_Reader_Flag_c (retP pack_Reader_Flag_F.rvs R) (zipP 0 args) m) : MC Try.prog 70 args m R := MC_start Try.func70 pack_Reader_Flag_ok mixed_ok hn h
/-! (*concord/pack.Reader).Wrong -/
abbrev pack_Reader_Wrong_r0 : NC := .reg
    (.out [(0, (.slot 0))])
    [0]
abbrev pack_Reader_Wrong_r1 : NC := .reg
    (.q 1 .nilck [(.slot 0)] none
    (.q 2 (.fld 2) [(.res 1)] none
    (.q 3 .ld [(.res 2)] none
    (.out [(2, (.res 3))]))))
    [0]
abbrev pack_Reader_Wrong_c : NC :=
  (.seq pack_Reader_Wrong_r0
  (.seq pack_Reader_Wrong_r1
  .ret))
abbrev pack_Reader_Wrong_F : FN := ⟨pack_Reader_Wrong_c, [.slot 2]⟩
theorem pack_Reader_Wrong_ok : compF Try.prog Try.f71 = some pack_Reader_Wrong_F := by kernel_rfl
theorem pack_Reader_Wrong_go {args : List Value} {m : Mem} {R : Value → Mem → Prop} (hn : args.length ≤ Try.f71.ntmps) (h : wpN Try.prog pack_Reader_Wrong_c (retP pack_Reader_Wrong_F.rvs R) (zipP 0 args) m) : MC Try.prog 71 args m R := MC_start Try.func71 pack_Reader_Wrong_ok mixed_ok hn h
/-! (*concord/pack.Reader).Fail -/
abbrev pack_Reader_Fail_r0 : NC := .reg
    (.q 1 .nilck [(.slot 0)] none
    (.q 2 (.fld 2) [(.res 1)] none
    (.q 3 .ld [(.res 2)] none
    (.q 4 (.icm .eql) [(.res 3), (.const (.int .i64 0))] none
    (.out [(0, (.slot 0)), (6, (.res 4))])))))
    [0]
abbrev pack_Reader_Fail_r1 : NC := .reg
    (.q 1 .nilck [(.slot 0)] none
    (.q 2 (.fld 2) [(.res 1)] none
    (.x 3 (.st 1) [(.res 2), (.const (.int .i64 4))] none []
    (.out []))))
    [0]
abbrev pack_Reader_Fail_c : NC :=
  (.seq pack_Reader_Fail_r0
  (.cond (.slot 6)
    pack_Reader_Fail_r1
    .skip))
abbrev pack_Reader_Fail_F : FN := ⟨pack_Reader_Fail_c, []⟩
theorem pack_Reader_Fail_ok : compF Try.prog Try.f72 = some pack_Reader_Fail_F := by kernel_rfl
theorem pack_Reader_Fail_go {args : List Value} {m : Mem} {R : Value → Mem → Prop} (hn : args.length ≤ Try.f72.ntmps) (h : wpN Try.prog pack_Reader_Fail_c (retP pack_Reader_Fail_F.rvs R) (zipP 0 args) m) : MC Try.prog 72 args m R := MC_start Try.func72 pack_Reader_Fail_ok mixed_ok hn h
/-! concord/pack.Flag -/
abbrev pack_Flag_r0 : NC := .reg
    (.out [(0, (.slot 0)), (1, (.slot 1))])
    [0, 1]
abbrev pack_Flag_r1 : NC := .reg
    (.out [(0, (.slot 0)), (5, (.slot 1))])
    [0, 1]
abbrev pack_Flag_r2 : NC := .reg
    (.x 1 (.call 64) [(.slot 0), (.const (.int .i64 1))] none []
    (.x 2 (.bsl 5 1 [(.int .u8 0)] [(0, 1)]) [(.const (.int .u8 1))] none []
    (.x 3 (.app 5 1 1 [(.int .u8 0)]) [(.res 1), (.res 2)] none []
    (.out [(4, (.res 3))]))))
    [0]
abbrev pack_Flag_r3 : NC := .reg
    (.x 1 (.call 64) [(.slot 0), (.const (.int .i64 1))] none []
    (.x 2 (.bsl 5 1 [(.int .u8 0)] [(0, 1)]) [(.const (.int .u8 0))] none []
    (.x 3 (.app 5 1 1 [(.int .u8 0)]) [(.res 1), (.res 2)] none []
    (.out [(4, (.res 3))]))))
    [0]
abbrev pack_Flag_c : NC :=
  (.seq pack_Flag_r0
  (.seq (.seq pack_Flag_r1
  (.cond (.slot 5)
    (.seq pack_Flag_r2
    .ret)
    .skip))
  (.seq pack_Flag_r3
  .ret)))
abbrev pack_Flag_F : FN := ⟨pack_Flag_c, [.slot 4]⟩
theorem pack_Flag_ok : compF Try.prog Try.f82 = some pack_Flag_F := by kernel_rfl
theorem pack_Flag_go {args : List Value} {m : Mem} {R : Value → Mem → Prop} (hn : args.length ≤ Try.f82.ntmps) (h : wpN Try.prog pack_Flag_c (retP pack_Flag_F.rvs R) (zipP 0 args) m) : MC Try.prog 82 args m R := MC_start Try.func82 pack_Flag_ok mixed_ok hn h
/-! concord/pack.num -/
abbrev pack_num_r0 : NC := .reg
    (.out [(0, (.slot 0)), (1, (.slot 1))])
    [0, 1]
abbrev pack_num_r1 : NC := .reg
    (.x 1 (.call 106) [(.slot 1)] none []
    (.out [(0, (.slot 0)), (5, (.res 1))]))
    [0, 1]
abbrev pack_num_r2 : NC := .reg
    (.q 1 (.icm .geq) [(.slot 5), (.const (.int .u64 128))] none
    (.out [(0, (.slot 0)), (5, (.slot 5)), (9, (.res 1))]))
    [0, 5]
abbrev pack_num_r3 : NC := .reg
    (.q 2 (.conv .u8) [(.slot 5)] none
    (.q 3 (.ibt .or) [(.res 2), (.const (.int .u8 128))] none
    (.x 4 (.bsl 5 1 [(.int .u8 0)] [(0, 1)]) [(.res 3)] none []
    (.x 5 (.app 5 1 1 [(.int .u8 0)]) [(.slot 0), (.res 4)] none []
    (.out [(0, (.res 5)), (5, (.slot 5))])))))
    [0, 5]
abbrev pack_num_r4 : NC := .reg
    (.q 1 (.ish .shr) [(.slot 5), (.const (.int .u64 7))] none
    (.out [(0, (.slot 0)), (5, (.res 1))]))
    [0, 5]
abbrev pack_num_l0 : NC :=
  (.seq (.seq pack_num_r2
  (.cond (.slot 9)
    .skip
    (.exit 0)))
  (.block 1 (.seq pack_num_r3
  pack_num_r4)))
abbrev pack_num_r5 : NC := .reg
    (.q 2 (.conv .u8) [(.slot 5)] none
    (.x 3 (.bsl 5 1 [(.int .u8 0)] [(0, 1)]) [(.res 2)] none []
    (.x 4 (.app 5 1 1 [(.int .u8 0)]) [(.slot 0), (.res 3)] none []
    (.out [(4, (.res 4))]))))
    [0, 5]
abbrev pack_num_c : NC :=
  (.seq pack_num_r0
  (.seq pack_num_r1
  (.seq (.block 0 (.loop [0, 5] pack_num_l0))
  (.seq pack_num_r5
  .ret))))
abbrev pack_num_F : FN := ⟨pack_num_c, [.slot 4]⟩
theorem pack_num_ok : compF Try.prog Try.f84 = some pack_num_F := by kernel_rfl
theorem pack_num_go {args : List Value} {m : Mem} {R : Value → Mem → Prop} (hn : args.length ≤ Try.f84.ntmps) (h : wpN Try.prog pack_num_c (retP pack_num_F.rvs R) (zipP 0 args) m) : MC Try.prog 84 args m R := MC_start Try.func84 pack_num_ok mixed_ok hn h
/-! (*concord/pack.Reader).Text -/
abbrev pack_Reader_Text_r0 : NC := .reg
    (.out [(0, (.slot 0)), (1, (.slot 1))])
    [0, 1]
abbrev pack_Reader_Text_r1 : NC := .reg
    (.q 1 .nilck [(.slot 0)] none
    (.q 2 (.fld 1) [(.res 1)] none
    (.q 3 .ld [(.res 2)] none
    (.out [(0, (.slot 0)), (1, (.slot 1)), (5, (.res 3))]))))
    [0, 1]
abbrev pack_Reader_Text_r2 : NC := .reg
    (.x 2 (.call 114) [(.slot 0), (.slot 1)] none []
    (.out [(0, (.slot 0)), (5, (.slot 5)), (6, (.res 2))]))
    [0, 1, 5]
abbrev pack_Reader_Text_r3 : NC := .reg
    (.q 1 .nilck [(.slot 0)] none
    (.q 2 (.fld 2) [(.res 1)] none
    (.q 3 .ld [(.res 2)] none
    (.q 4 (.icm .neq) [(.res 3), (.const (.int .i64 0))] none
    (.out [(0, (.slot 0)), (5, (.slot 5)), (6, (.slot 6)), (19, (.res 4))])))))
    [0, 5, 6]
abbrev pack_Reader_Text_r4 : NC := .reg
    (.out [(4, (.const (.string ⟨#[]⟩)))])
    []
abbrev pack_Reader_Text_r5 : NC := .reg
    (.q 2 .nilck [(.slot 0)] none
    (.q 3 (.fld 0) [(.res 2)] none
    (.q 4 .ld [(.res 3)] none
    (.q 5 .len [(.res 4)] none
    (.q 7 .nilck [(.slot 0)] none
    (.q 8 (.fld 1) [(.res 7)] none
    (.q 9 .ld [(.res 8)] none
    (.q 10 (.iar .sub) [(.res 5), (.res 9)] none
    (.q 11 (.icm .gtr) [(.slot 6), (.res 10)] none
    (.out [(0, (.slot 0)), (5, (.slot 5)), (6, (.slot 6)), (31, (.res 11))]))))))))))
    [0, 5, 6]
abbrev pack_Reader_Text_r6 : NC := .reg
    (.x 2 (.call 65) [(.slot 0), (.slot 5), (.const (.int .i64 3))] none []
    (.out []))
    [0, 5]
abbrev pack_Reader_Text_r7 : NC := .reg
    (.out [(4, (.const (.string ⟨#[]⟩)))])
    []
abbrev pack_Reader_Text_r8 : NC := .reg
    (.q 1 .nilck [(.slot 0)] none
    (.q 2 (.fld 0) [(.res 1)] none
    (.q 3 .ld [(.res 2)] none
    (.q 5 .nilck [(.slot 0)] none
    (.q 6 (.fld 1) [(.res 5)] none
    (.q 7 .ld [(.res 6)] none
    (.q 9 .nilck [(.slot 0)] none
    (.q 10 (.fld 1) [(.res 9)] none
    (.q 11 .ld [(.res 10)] none
    (.q 13 (.iar .add) [(.res 11), (.slot 6)] none
    (.q 14 (.slc 1 true true) [(.res 3), (.res 7), (.res 13)] none
    (.q 15 .b2s [(.res 14)] none
    (.out [(0, (.slot 0)), (6, (.slot 6)), (7, (.res 15))])))))))))))))
    [0, 6]
abbrev pack_Reader_Text_r9 : NC := .reg
    (.q 1 .nilck [(.slot 0)] none
    (.q 2 (.fld 1) [(.res 1)] none
    (.q 3 .ld [(.res 2)] none
    (.q 5 (.iar .add) [(.res 3), (.slot 6)] none
    (.q 6 .nilck [(.slot 0)] none
    (.q 7 (.fld 1) [(.res 6)] none
    (.x 8 (.st 1) [(.res 7), (.res 5)] none []
    (.out [(7, (.slot 7))]))))))))
    [0, 6, 7]
abbrev pack_Reader_Text_r10 : NC := .reg
    (.out [(4, (.slot 7))])
    [7]
abbrev pack_Reader_Text_c : NC :=
  (.seq pack_Reader_Text_r0
  (.seq pack_Reader_Text_r1
  (.seq pack_Reader_Text_r2
  (.seq (.seq pack_Reader_Text_r3
  (.cond (.slot 19)
    (.seq pack_Reader_Text_r4
    .ret)
    .skip))
  (.seq (.seq pack_Reader_Text_r5
  (.cond (.slot 31)
    (.seq pack_Reader_Text_r6
    (.seq pack_Reader_Text_r7
    .ret))
    .skip))
  (.seq pack_Reader_Text_r8
  (.seq pack_Reader_Text_r9
  (.seq pack_Reader_Text_r10
  .ret))))))))
abbrev pack_Reader_Text_F : FN := ⟨pack_Reader_Text_c, [.slot 4]⟩
theorem pack_Reader_Text_ok : compF Try.prog Try.f102 = some pack_Reader_Text_F := by kernel_rfl
theorem pack_Reader_Text_go {args : List Value} {m : Mem} {R : Value → Mem → Prop} (hn : args.length ≤ Try.f102.ntmps) (h : wpN Try.prog pack_Reader_Text_c (retP pack_Reader_Text_F.rvs R) (zipP 0 args) m) : MC Try.prog 102 args m R := MC_start Try.func102 pack_Reader_Text_ok mixed_ok hn h
/-! concord/pack.Text -/
abbrev pack_Text_r0 : NC := .reg
    (.out [(0, (.slot 0)), (1, (.slot 1))])
    [0, 1]
abbrev pack_Text_r1 : NC := .reg
    (.q 2 .lenz [(.slot 1)] none
    (.q 3 (.iar .add) [(.const (.int .i64 10)), (.res 2)] none
    (.x 4 (.call 64) [(.slot 0), (.res 3)] none []
    (.q 6 .lenz [(.slot 1)] none
    (.x 7 (.call 84) [(.res 4), (.res 6)] none []
    (.x 9 (.apps 5) [(.res 7), (.slot 1)] none []
    (.out [(4, (.res 9))])))))))
    [0, 1]
abbrev pack_Text_c : NC :=
  (.seq pack_Text_r0
  (.seq pack_Text_r1
  .ret))
abbrev pack_Text_F : FN := ⟨pack_Text_c, [.slot 4]⟩
theorem pack_Text_ok : compF Try.prog Try.f105 = some pack_Text_F := by kernel_rfl
theorem pack_Text_go {args : List Value} {m : Mem} {R : Value → Mem → Prop} (hn : args.length ≤ Try.f105.ntmps) (h : wpN Try.prog pack_Text_c (retP pack_Text_F.rvs R) (zipP 0 args) m) : MC Try.prog 105 args m R := MC_start Try.func105 pack_Text_ok mixed_ok hn h
/-! concord/word.Zig -/
abbrev word_Zig_r0 : NC := .reg
    (.out [(0, (.slot 0))])
    [0]
abbrev word_Zig_r1 : NC := .reg
    (.q 1 (.conv .u64) [(.slot 0)] none
    (.q 2 (.ish .shl) [(.res 1), (.const (.int .u64 1))] none
    (.q 4 (.ish .shr) [(.slot 0), (.const (.int .u64 63))] none
    (.q 5 (.conv .u64) [(.res 4)] none
    (.q 6 (.ibt .xor) [(.res 2), (.res 5)] none
    (.out [(2, (.res 6))]))))))
    [0]
abbrev word_Zig_c : NC :=
  (.seq word_Zig_r0
  (.seq word_Zig_r1
  .ret))
abbrev word_Zig_F : FN := ⟨word_Zig_c, [.slot 2]⟩
theorem word_Zig_ok : compF Try.prog Try.f106 = some word_Zig_F := by kernel_rfl
theorem word_Zig_go {args : List Value} {m : Mem} {R : Value → Mem → Prop} (hn : args.length ≤ Try.f106.ntmps) (h : wpN Try.prog word_Zig_c (retP word_Zig_F.rvs R) (zipP 0 args) m) : MC Try.prog 106 args m R := MC_start Try.func106 word_Zig_ok mixed_ok hn h
/-! (*concord/pack.Reader).Count -/
abbrev pack_Reader_Count_r0 : NC := .reg
    (.out [(0, (.slot 0)), (1, (.slot 1))])
    [0, 1]
abbrev pack_Reader_Count_r1 : NC := .reg
    (.q 1 .nilck [(.slot 0)] none
    (.q 2 (.fld 1) [(.res 1)] none
    (.q 3 .ld [(.res 2)] none
    (.out [(0, (.slot 0)), (1, (.slot 1)), (5, (.res 3))]))))
    [0, 1]
abbrev pack_Reader_Count_r2 : NC := .reg
    (.x 1 (.call 44) [(.slot 0)] none []
    (.out [(0, (.slot 0)), (1, (.slot 1)), (5, (.slot 5)), (6, (.res 1))]))
    [0, 1, 5]
abbrev pack_Reader_Count_r3 : NC := .reg
    (.q 1 .nilck [(.slot 0)] none
    (.q 2 (.fld 2) [(.res 1)] none
    (.q 3 .ld [(.res 2)] none
    (.q 4 (.icm .eql) [(.res 3), (.const (.int .i64 0))] none
    (.q 6 .mv [(.slot 6)] (some ((.res 4), true))
    (.q 7 (.icm .lss) [(.res 6), (.const (.int .i64 0))] (some ((.res 4), true))
    (.q 8 .mv [(.res 7)] (some ((.res 4), true))
    (.q 9 .mv [(.slot 6)] (some ((.res 8), false))
    (.q 10 .mv [(.slot 1)] (some ((.res 8), false))
    (.q 11 (.icm .gtr) [(.res 9), (.res 10)] (some ((.res 8), false))
    (.q 12 .pick [(.res 8), (.const (.bool true)), (.res 11)] (some ((.res 4), true))
    (.q 13 .pick [(.res 4), (.res 12), (.const (.bool false))] none
    (.out [(0, (.slot 0)), (5, (.slot 5)), (6, (.slot 6)), (26, (.res 13))])))))))))))))
    [0, 1, 5, 6]
abbrev pack_Reader_Count_r4 : NC := .reg
    (.x 2 (.call 65) [(.slot 0), (.slot 5), (.const (.int .i64 2))] none []
    (.out []))
    [0, 5]
abbrev pack_Reader_Count_r5 : NC := .reg
    (.out [(4, (.const (.int .i64 0)))])
    []
abbrev pack_Reader_Count_r6 : NC := .reg
    (.out [(4, (.slot 6))])
    [6]
abbrev pack_Reader_Count_c : NC :=
  (.seq pack_Reader_Count_r0
  (.seq pack_Reader_Count_r1
  (.seq pack_Reader_Count_r2
  (.seq (.seq pack_Reader_Count_r3
  (.cond (.slot 26)
    (.seq pack_Reader_Count_r4
    (.seq pack_Reader_Count_r5
    .ret))
    .skip))
  (.seq pack_Reader_Count_r6
  .ret)))))
abbrev pack_Reader_Count_F : FN := ⟨pack_Reader_Count_c, [.slot 4]⟩
theorem pack_Reader_Count_ok : compF Try.prog Try.f114 = some pack_Reader_Count_F := by kernel_rfl
theorem pack_Reader_Count_go {args : List Value} {m : Mem} {R : Value → Mem → Prop} (hn : args.length ≤ Try.f114.ntmps) (h : wpN Try.prog pack_Reader_Count_c (retP pack_Reader_Count_F.rvs R) (zipP 0 args) m) : MC Try.prog 114 args m R := MC_start Try.func114 pack_Reader_Count_ok mixed_ok hn h
end Go.Fw
