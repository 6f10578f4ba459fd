import Derived.Test.YtbbiiodadoeflaaGreatDoorFxA
import Derived.Test.YtbbiiodadoeflaaGreatDoorProg
set_option linter.unusedVariables false
set_option linter.unusedSimpArgs false
namespace Go.Fw
open Go.Proofs
abbrev T_uint8 : Nat := 5
abbrev T_ref8_Wal : Nat := 65
abbrev T_ref8_Disk : Nat := 72
abbrev T_ref8_File : Nat := 91
abbrev T_pack_Reader : Nat := 141
abbrev T_ref1_Reader : Nat := 147
abbrev n_law10_WalOpens : Nat := 3
abbrev n_disk_New : Nat := 6
abbrev n_ref8_NewDisk : Nat := 7
abbrev n_law10_light : Nat := 8
abbrev n_law10_WalRuns : Nat := 9
abbrev n_book_Within : Nat := 10
abbrev n_ref8_Frame : Nat := 11
abbrev n_ref1_Num : Nat := 12
abbrev n_disk_Disk_Append : Nat := 13
abbrev n_ref8_Disk_Append : Nat := 14
abbrev n_wal_Open : Nat := 15
abbrev n_ref8_Open : Nat := 16
abbrev n_law10_lists : Nat := 17
abbrev n_law10_alike : Nat := 18
abbrev n_wal_Wal_Anew : Nat := 19
abbrev n_disk_Disk_Read : Nat := 20
abbrev n_ref8_Segment : Nat := 21
abbrev n_wal_Wal_Add : Nat := 22
abbrev n_wal_Wal_Where : Nat := 23
abbrev n_disk_Disk_Names : Nat := 24
abbrev n_law10_texts : Nat := 31
abbrev n_ref1_Put : Nat := 32
abbrev n_ref1_On : Nat := 33
abbrev n_ref1_Zig : Nat := 34
abbrev n_disk_may : Nat := 35
abbrev n_disk_Disk_Room : Nat := 36
abbrev n_disk_Disk_power : Nat := 37
abbrev n_disk_Disk_find : Nat := 38
abbrev n_slices_Insert_disk_file_disk_file : Nat := 39
abbrev n_slices_Concat_byte_byte : Nat := 40
abbrev n_ref8_Name : Nat := 41
abbrev n_ref8_Disk_Total : Nat := 42
abbrev n_ref8_Disk_power : Nat := 43
abbrev n_ref8_Disk_place : Nat := 44
abbrev n_wal_greatest : Nat := 45
abbrev n_wal_clean : Nat := 46
abbrev n_wal_read : Nat := 47
abbrev n_wal_place_name : Nat := 48
abbrev n_disk_Disk_Cut : Nat := 49
abbrev n_disk_Disk_Sync : Nat := 50
abbrev n_ref8_Disk_Names : Nat := 51
abbrev n_ref8_named : Nat := 52
abbrev n_ref8_found : Nat := 53
abbrev n_ref8_Disk_Cut : Nat := 54
abbrev n_ref8_Disk_Remove : Nat := 55
abbrev n_ref8_Disk_Sync : Nat := 56
abbrev n_book_Same_byte : Nat := 57
abbrev n_book_Same_string : Nat := 58
abbrev n_ref8_Disk_Read : Nat := 59
abbrev n_wal_frames : Nat := 60
abbrev n_frame_Put : Nat := 61
abbrev n_pack_Num : Nat := 62
abbrev n_wal_Wal_write : Nat := 63
abbrev n_disk_Disk_Remove : Nat := 64
abbrev n_slices_Clone_byte_byte : Nat := 65
abbrev n_ref8_digits : Nat := 66
abbrev n_disk_Disk_Total : Nat := 69
abbrev n_slices_Grow_byte_byte : Nat := 72
abbrev n_wal_placed : Nat := 73
abbrev n_frame_Scan : Nat := 74
abbrev n_pack_Read : Nat := 75
abbrev n_pack_Reader_Num : Nat := 76
abbrev n_pack_Reader_End : Nat := 77
abbrev n_strconv_Itoa : Nat := 78
abbrev n_disk_Disk_known : Nat := 79
abbrev n_ref8_number : Nat := 80
abbrev n_ref8_Scan : Nat := 81
abbrev n_ref1_Read : Nat := 82
abbrev n_ref1_Reader_Num : Nat := 83
abbrev n_ref1_Reader_End : Nat := 84
abbrev n_ref8_Disk_at : Nat := 85
abbrev n_ref8_Disk_out : Nat := 86
abbrev n_word_Put : Nat := 87
abbrev n_sum_Of : Nat := 88
abbrev n_pack_num : Nat := 89
abbrev n_pack_grown : Nat := 90
abbrev n_slices_Delete_disk_file_disk_file : Nat := 91
abbrev n_strings_Cut : Nat := 93
abbrev n_strings_TrimPrefix : Nat := 94
abbrev n_strconv_Atoi : Nat := 95
abbrev n_frame_Next : Nat := 96
abbrev n_pack_Reader_fail : Nat := 97
abbrev n_word_Zag : Nat := 98
abbrev n_internal_strconv_Itoa : Nat := 99
abbrev n_ref8_Next : Nat := 100
abbrev n_ref1_Reader_fail : Nat := 101
abbrev n_ref1_Zag : Nat := 102
abbrev n_sum_On : Nat := 103
abbrev n_word_Zig : Nat := 104
abbrev n_internal_stringslite_Cut : Nat := 106
abbrev n_internal_stringslite_TrimPrefix : Nat := 107
abbrev n_internal_strconv_Atoi : Nat := 108
abbrev n_word_Get : Nat := 110
abbrev n_internal_strconv_FormatInt : Nat := 111
abbrev n_ref1_Get : Nat := 112
abbrev n_internal_stringslite_Index : Nat := 113
abbrev n_internal_stringslite_HasPrefix : Nat := 114
abbrev n_internal_strconv_small : Nat := 120
abbrev n_internal_stringslite_IndexByte : Nat := 124
theorem mixed_ok : Tryz.prog.follows .mixedOrders = true := by kernel_rfl
end Go.Fw
namespace Go.Fw
open Go.Proofs
/-! concord/wal.Open -/
abbrev wal_Open_r0 : NC := .reg
    (.out [(0, (.slot 0))])
    [0]
abbrev wal_Open_r1 : NC := .reg
    (.q 1 (.eqp false) [(.slot 0), (.const (.pointer none))] none
    (.out [(0, (.slot 0)), (17, (.res 1))]))
    [0]
abbrev wal_Open_r2 : NC := .reg
    (.out [(2, (.const (.pointer none))), (3, (.const (.slice none 0 0))), (4, (.const (.int .i64 1)))])
    []
abbrev wal_Open_r3 : NC := .reg
    (.x 1 (.call 45) [(.slot 0)] none []
    (.out [(0, (.slot 0)), (5, (.res 1))]))
    [0]
abbrev wal_Open_r4 : NC := .reg
    (.q 1 (.icm .eql) [(.slot 5), (.const (.int .i64 0))] none
    (.out [(0, (.slot 0)), (5, (.slot 5)), (21, (.res 1))]))
    [0, 5]
abbrev wal_Open_r5 : NC := .reg
    (.q 1 (.bld [(.int .i64 0), (.int .i64 0)] []) [] none
    (.x 2 (.call 46) [(.slot 0), (.res 1)] none []
    (.out [(0, (.slot 0)), (6, (.res 2))])))
    [0]
abbrev wal_Open_r6 : NC := .reg
    (.q 1 (.icm .neq) [(.slot 6), (.const (.int .i64 0))] none
    (.out [(0, (.slot 0)), (6, (.slot 6)), (26, (.res 1))]))
    [0, 6]
abbrev wal_Open_r7 : NC := .reg
    (.out [(2, (.const (.pointer none))), (3, (.const (.slice none 0 0))), (4, (.slot 6))])
    [6]
abbrev wal_Open_r8 : NC := .reg
    (.q 1 (.bld [(.pointer none), (.int .i64 0), (.int .i64 0), (.bool false)] [(0, 1)]) [(.slot 0)] none
    (.x 2 (.box 97) [(.res 1)] none []
    (.out [(2, (.res 2)), (3, (.const (.slice none 0 0))), (4, (.const (.int .i64 0)))])))
    [0]
abbrev wal_Open_r9 : NC := .reg
    (.x 2 (.call 47) [(.slot 0), (.slot 5)] none []
    (.q 4 (.ext 0) [(.res 2)] none
    (.q 5 (.ext 1) [(.res 2)] none
    (.q 6 (.ext 2) [(.res 2)] none
    (.q 7 (.ext 3) [(.res 2)] none
    (.x 8 (.alc [(.int .i64 0), (.int .i64 0)] 95) [] none []
    (.x 10 (.st 2) [(.res 8), (.res 5)] none []
    (.out [(0, (.slot 0)), (7, (.res 4)), (8, (.res 8)), (9, (.res 6))]))))))))
    [0, 5]
abbrev wal_Open_r10 : NC := .reg
    (.q 1 (.lda 2) [(.slot 8)] none
    (.x 2 (.call 48) [(.res 1)] none []
    (.x 3 (.call 20) [(.slot 0), (.res 2)] none []
    (.q 5 (.ext 0) [(.res 3)] none
    (.q 6 (.ext 1) [(.res 3)] none
    (.out [(0, (.slot 0)), (7, (.slot 7)), (8, (.slot 8)), (9, (.slot 9)), (11, (.res 5))]))))))
    [0, 7, 8, 9]
abbrev wal_Open_r11 : NC := .reg
    (.q 1 .len [(.slot 11)] none
    (.q 3 (.icm .gtr) [(.res 1), (.slot 9)] none
    (.out [(0, (.slot 0)), (7, (.slot 7)), (8, (.slot 8)), (9, (.slot 9)), (49, (.res 3))])))
    [0, 7, 8, 9, 11]
abbrev wal_Open_r12 : NC := .reg
    (.q 1 (.lda 2) [(.slot 8)] none
    (.x 2 (.call 48) [(.res 1)] none []
    (.x 4 (.call 49) [(.slot 0), (.res 2), (.slot 9)] none []
    (.out [(0, (.slot 0)), (7, (.slot 7)), (8, (.slot 8)), (13, (.res 4))]))))
    [0, 7, 8, 9]
abbrev wal_Open_r13 : NC := .reg
    (.q 1 (.icm .neq) [(.slot 13), (.const (.int .i64 0))] none
    (.out [(0, (.slot 0)), (7, (.slot 7)), (8, (.slot 8)), (13, (.slot 13)), (56, (.res 1))]))
    [0, 7, 8, 13]
abbrev wal_Open_r14 : NC := .reg
    (.out [(2, (.const (.pointer none))), (3, (.const (.slice none 0 0))), (4, (.slot 13))])
    [13]
abbrev wal_Open_r15 : NC := .reg
    (.q 1 (.lda 2) [(.slot 8)] none
    (.x 2 (.call 46) [(.slot 0), (.res 1)] none []
    (.out [(0, (.slot 0)), (7, (.slot 7)), (8, (.slot 8)), (14, (.res 2))])))
    [0, 7, 8]
abbrev wal_Open_r16 : NC := .reg
    (.q 1 (.icm .neq) [(.slot 14), (.const (.int .i64 0))] none
    (.out [(0, (.slot 0)), (7, (.slot 7)), (8, (.slot 8)), (14, (.slot 14)), (62, (.res 1))]))
    [0, 7, 8, 14]
abbrev wal_Open_r17 : NC := .reg
    (.out [(2, (.const (.pointer none))), (3, (.const (.slice none 0 0))), (4, (.slot 14))])
    [14]
abbrev wal_Open_r18 : NC := .reg
    (.q 1 (.lda 2) [(.slot 8)] none
    (.x 2 (.call 48) [(.res 1)] none []
    (.x 3 (.call 50) [(.slot 0), (.res 2)] none []
    (.out [(0, (.slot 0)), (7, (.slot 7)), (8, (.slot 8)), (15, (.res 3))]))))
    [0, 7, 8]
abbrev wal_Open_r19 : NC := .reg
    (.q 1 (.icm .neq) [(.slot 15), (.const (.int .i64 0))] none
    (.out [(0, (.slot 0)), (7, (.slot 7)), (8, (.slot 8)), (15, (.slot 15)), (69, (.res 1))]))
    [0, 7, 8, 15]
abbrev wal_Open_r20 : NC := .reg
    (.out [(2, (.const (.pointer none))), (3, (.const (.slice none 0 0))), (4, (.slot 15))])
    [15]
abbrev wal_Open_r21 : NC := .reg
    (.q 1 (.lda 2) [(.slot 8)] none
    (.q 2 (.bld [(.pointer none), (.int .i64 0), (.int .i64 0), (.bool false)] [(0, 1), (1, 2)]) [(.slot 0), (.res 1)] none
    (.x 3 (.box 97) [(.res 2)] none []
    (.out [(2, (.res 3)), (3, (.slot 7)), (4, (.const (.int .i64 0)))]))))
    [0, 7, 8]
abbrev wal_Open_c : NC :=
  (.seq wal_Open_r0
  (.seq (.seq wal_Open_r1
  (.cond (.slot 17)
    (.seq wal_Open_r2
    .ret)
    .skip))
  (.seq wal_Open_r3
  (.seq (.seq wal_Open_r4
  (.cond (.slot 21)
    (.seq (.seq wal_Open_r5
    (.seq wal_Open_r6
    (.cond (.slot 26)
      (.seq wal_Open_r7
      .ret)
      .skip)))
    (.seq wal_Open_r8
    .ret))
    .skip))
  (.seq wal_Open_r9
  (.seq (.seq wal_Open_r10
  (.seq wal_Open_r11
  (.cond (.slot 49)
    (.seq wal_Open_r12
    (.seq wal_Open_r13
    (.cond (.slot 56)
      (.seq wal_Open_r14
      .ret)
      .skip)))
    .skip)))
  (.seq (.seq wal_Open_r15
  (.seq wal_Open_r16
  (.cond (.slot 62)
    (.seq wal_Open_r17
    .ret)
    .skip)))
  (.seq (.seq wal_Open_r18
  (.seq wal_Open_r19
  (.cond (.slot 69)
    (.seq wal_Open_r20
    .ret)
    .skip)))
  (.seq wal_Open_r21
  .ret)))))))))
abbrev wal_Open_F : FN := ⟨wal_Open_c, [.slot 2, .slot 3, .slot 4]⟩
theorem wal_Open_ok : compF Tryz.prog Tryz.f15 = some wal_Open_F := by kernel_rfl
theorem wal_Open_go {args : List Value} {m : Mem} {R : Value → Mem → Prop} (hn : args.length ≤ Tryz.f15.ntmps) (h : wpN Tryz.prog wal_Open_c (retP wal_Open_F.rvs R) (zipP 0 args) m) : MC Tryz.prog 15 args m R := MC_start Tryz.func15 wal_Open_ok mixed_ok hn h
/-! (*concord/wal.Wal).Anew -/
abbrev wal_Wal_Anew_r0 : NC := .reg
    (.out [(0, (.slot 0)), (1, (.slot 1))])
    [0, 1]
abbrev wal_Wal_Anew_r1 : NC := .reg
    (.q 1 .nilck [(.slot 0)] none
    (.q 2 (.fld 3) [(.res 1)] none
    (.q 3 .ld [(.res 2)] none
    (.out [(0, (.slot 0)), (1, (.slot 1)), (14, (.res 3))]))))
    [0, 1]
abbrev wal_Wal_Anew_r2 : NC := .reg
    (.out [(4, (.const (.int .i64 10)))])
    []
abbrev wal_Wal_Anew_r3 : NC := .reg
    (.q 1 .len [(.slot 1)] none
    (.x 2 (.call 62) [(.const (.slice none 0 0)), (.res 1)] none []
    (.x 3 (.call 61) [(.const (.slice none 0 0)), (.res 2)] none []
    (.x 5 (.call 60) [(.res 3), (.slot 1)] none []
    (.q 7 (.ext 0) [(.res 5)] none
    (.q 8 (.ext 1) [(.res 5)] none
    (.out [(0, (.slot 0)), (5, (.res 7)), (6, (.res 8))])))))))
    [0, 1]
abbrev wal_Wal_Anew_r4 : NC := .reg
    (.q 1 .not [(.slot 6)] none
    (.out [(0, (.slot 0)), (5, (.slot 5)), (25, (.res 1))]))
    [0, 5, 6]
abbrev wal_Wal_Anew_r5 : NC := .reg
    (.out [(4, (.const (.int .i64 1)))])
    []
abbrev wal_Wal_Anew_r6 : NC := .reg
    (.q 1 .nilck [(.slot 0)] none
    (.q 2 (.fld 1) [(.res 1)] none
    (.q 3 (.fld 0) [(.res 2)] none
    (.q 4 .ld [(.res 3)] none
    (.q 5 (.icm .geq) [(.res 4), (.const (.int .i64 999999999))] none
    (.out [(0, (.slot 0)), (5, (.slot 5)), (31, (.res 5))]))))))
    [0, 5]
abbrev wal_Wal_Anew_r7 : NC := .reg
    (.out [(4, (.const (.int .i64 7)))])
    []
abbrev wal_Wal_Anew_r8 : NC := .reg
    (.q 1 .nilck [(.slot 0)] none
    (.q 2 (.fld 1) [(.res 1)] none
    (.q 3 (.fld 0) [(.res 2)] none
    (.q 4 .ld [(.res 3)] none
    (.q 5 (.iar .add) [(.res 4), (.const (.int .i64 1))] none
    (.q 6 (.bld [(.int .i64 0), (.int .i64 0)] [(0, 1), (1, 1)]) [(.res 5), (.const (.int .i64 1))] none
    (.x 7 (.alc [(.int .i64 0), (.int .i64 0)] 95) [] none []
    (.x 8 (.st 2) [(.res 7), (.res 6)] none []
    (.out [(0, (.slot 0)), (5, (.slot 5)), (7, (.res 7))])))))))))
    [0, 5]
abbrev wal_Wal_Anew_r9 : NC := .reg
    (.q 1 (.lda 2) [(.slot 7)] none
    (.x 3 (.call 63) [(.slot 0), (.res 1), (.slot 5)] none []
    (.out [(0, (.slot 0)), (7, (.slot 7)), (8, (.res 3))])))
    [0, 5, 7]
abbrev wal_Wal_Anew_r10 : NC := .reg
    (.q 1 (.icm .neq) [(.slot 8), (.const (.int .i64 0))] none
    (.out [(0, (.slot 0)), (7, (.slot 7)), (8, (.slot 8)), (44, (.res 1))]))
    [0, 7, 8]
abbrev wal_Wal_Anew_r11 : NC := .reg
    (.out [(4, (.slot 8))])
    [8]
abbrev wal_Wal_Anew_r12 : NC := .reg
    (.out [(0, (.slot 0)), (7, (.slot 7)), (9, (.const (.int .i64 1)))])
    [0, 7]
abbrev wal_Wal_Anew_r13 : NC := .reg
    (.q 2 .nilck [(.slot 0)] none
    (.q 3 (.fld 1) [(.res 2)] none
    (.q 4 (.fld 1) [(.res 3)] none
    (.q 5 .ld [(.res 4)] none
    (.q 6 (.icm .leq) [(.slot 9), (.res 5)] none
    (.out [(0, (.slot 0)), (7, (.slot 7)), (9, (.slot 9)), (52, (.res 6))]))))))
    [0, 7, 9]
abbrev wal_Wal_Anew_r14 : NC := .reg
    (.q 1 .nilck [(.slot 0)] none
    (.q 2 (.fld 0) [(.res 1)] none
    (.q 3 .ld [(.res 2)] none
    (.q 5 .nilck [(.slot 0)] none
    (.q 6 (.fld 1) [(.res 5)] none
    (.q 7 (.fld 0) [(.res 6)] none
    (.q 8 .ld [(.res 7)] none
    (.q 10 (.bld [(.int .i64 0), (.int .i64 0)] [(0, 1), (1, 1)]) [(.res 8), (.slot 9)] none
    (.x 11 (.call 48) [(.res 10)] none [(3, .ld, [(.res 2)], none)]
    (.x 12 (.call 64) [(.res 3), (.res 11)] none []
    (.out [(0, (.slot 0)), (7, (.slot 7)), (9, (.slot 9)), (10, (.res 12))])))))))))))
    [0, 7, 9]
abbrev wal_Wal_Anew_r15 : NC := .reg
    (.q 1 (.icm .neq) [(.slot 10), (.const (.int .i64 0))] none
    (.out [(0, (.slot 0)), (7, (.slot 7)), (9, (.slot 9)), (10, (.slot 10)), (69, (.res 1))]))
    [0, 7, 9, 10]
abbrev wal_Wal_Anew_r16 : NC := .reg
    (.q 1 .nilck [(.slot 0)] none
    (.q 2 (.fld 3) [(.res 1)] none
    (.x 3 (.st 1) [(.res 2), (.const (.bool true))] none []
    (.out [(10, (.slot 10))]))))
    [0, 10]
abbrev wal_Wal_Anew_r17 : NC := .reg
    (.out [(4, (.slot 10))])
    [10]
abbrev wal_Wal_Anew_r18 : NC := .reg
    (.q 1 (.iar .add) [(.slot 9), (.const (.int .i64 1))] none
    (.out [(0, (.slot 0)), (7, (.slot 7)), (9, (.res 1))]))
    [0, 7, 9]
abbrev wal_Wal_Anew_l0 : NC :=
  (.seq (.seq wal_Wal_Anew_r13
  (.cond (.slot 52)
    .skip
    (.exit 0)))
  (.seq (.block 1 (.seq wal_Wal_Anew_r14
  (.seq wal_Wal_Anew_r15
  (.cond (.slot 69)
    (.seq wal_Wal_Anew_r16
    (.seq wal_Wal_Anew_r17
    .ret))
    .skip))))
  wal_Wal_Anew_r18))
abbrev wal_Wal_Anew_r19 : NC := .reg
    (.q 1 (.lda 2) [(.slot 7)] none
    (.q 2 .nilck [(.slot 0)] none
    (.q 3 (.fld 1) [(.res 2)] none
    (.x 4 (.st 2) [(.res 3), (.res 1)] none []
    (.out [])))))
    [0, 7]
abbrev wal_Wal_Anew_r20 : NC := .reg
    (.out [(4, (.const (.int .i64 0)))])
    []
abbrev wal_Wal_Anew_c : NC :=
  (.seq wal_Wal_Anew_r0
  (.seq (.seq wal_Wal_Anew_r1
  (.cond (.slot 14)
    (.seq wal_Wal_Anew_r2
    .ret)
    .skip))
  (.seq wal_Wal_Anew_r3
  (.seq (.seq wal_Wal_Anew_r4
  (.cond (.slot 25)
    (.seq wal_Wal_Anew_r5
    .ret)
    .skip))
  (.seq (.seq wal_Wal_Anew_r6
  (.cond (.slot 31)
    (.seq wal_Wal_Anew_r7
    .ret)
    .skip))
  (.seq wal_Wal_Anew_r8
  (.seq (.seq wal_Wal_Anew_r9
  (.seq wal_Wal_Anew_r10
  (.cond (.slot 44)
    (.seq wal_Wal_Anew_r11
    .ret)
    .skip)))
  (.seq (.seq wal_Wal_Anew_r12
  (.block 0 (.loop [0, 7, 9] wal_Wal_Anew_l0)))
  (.seq wal_Wal_Anew_r19
  (.seq wal_Wal_Anew_r20
  .ret))))))))))
abbrev wal_Wal_Anew_F : FN := ⟨wal_Wal_Anew_c, [.slot 4]⟩
theorem wal_Wal_Anew_ok : compF Tryz.prog Tryz.f19 = some wal_Wal_Anew_F := by kernel_rfl
theorem wal_Wal_Anew_go {args : List Value} {m : Mem} {R : Value → Mem → Prop} (hn : args.length ≤ Tryz.f19.ntmps) (h : wpN Tryz.prog wal_Wal_Anew_c (retP wal_Wal_Anew_F.rvs R) (zipP 0 args) m) : MC Tryz.prog 19 args m R := MC_start Tryz.func19 wal_Wal_Anew_ok mixed_ok hn h
/-! (*concord/wal.Wal).Add -/
abbrev wal_Wal_Add_r0 : NC := .reg
    (.out [(0, (.slot 0)), (1, (.slot 1))])
    [0, 1]
abbrev wal_Wal_Add_r1 : NC := .reg
    (.q 1 .nilck [(.slot 0)] none
    (.q 2 (.fld 3) [(.res 1)] none
    (.q 3 .ld [(.res 2)] none
    (.out [(0, (.slot 0)), (1, (.slot 1)), (14, (.res 3))]))))
    [0, 1]
abbrev wal_Wal_Add_r2 : NC := .reg
    (.out [(4, (.const (.int .i64 10)))])
    []
abbrev wal_Wal_Add_r3 : NC := .reg
    (.q 1 .nilck [(.slot 0)] none
    (.q 2 (.fld 1) [(.res 1)] none
    (.q 3 (.fld 0) [(.res 2)] none
    (.q 4 .ld [(.res 3)] none
    (.q 5 (.icm .eql) [(.res 4), (.const (.int .i64 0))] none
    (.out [(0, (.slot 0)), (1, (.slot 1)), (20, (.res 5))]))))))
    [0, 1]
abbrev wal_Wal_Add_r4 : NC := .reg
    (.out [(4, (.const (.int .i64 8)))])
    []
abbrev wal_Wal_Add_r5 : NC := .reg
    (.x 1 (.call 60) [(.const (.slice none 0 0)), (.slot 1)] none []
    (.q 3 (.ext 0) [(.res 1)] none
    (.q 4 (.ext 1) [(.res 1)] none
    (.out [(0, (.slot 0)), (1, (.slot 1)), (5, (.res 3)), (6, (.res 4))]))))
    [0, 1]
abbrev wal_Wal_Add_r6 : NC := .reg
    (.q 1 .not [(.slot 6)] none
    (.out [(0, (.slot 0)), (1, (.slot 1)), (5, (.slot 5)), (27, (.res 1))]))
    [0, 1, 5, 6]
abbrev wal_Wal_Add_r7 : NC := .reg
    (.out [(4, (.const (.int .i64 1)))])
    []
abbrev wal_Wal_Add_r8 : NC := .reg
    (.q 1 .len [(.slot 1)] none
    (.q 2 (.icm .eql) [(.res 1), (.const (.int .i64 0))] none
    (.out [(0, (.slot 0)), (5, (.slot 5)), (30, (.res 2))])))
    [0, 1, 5]
abbrev wal_Wal_Add_r9 : NC := .reg
    (.out [(4, (.const (.int .i64 0)))])
    []
abbrev wal_Wal_Add_r10 : NC := .reg
    (.q 1 .nilck [(.slot 0)] none
    (.q 2 (.fld 1) [(.res 1)] none
    (.q 3 (.lda 2) [(.res 2)] none
    (.x 4 (.alc [(.int .i64 0), (.int .i64 0)] 95) [] none []
    (.x 5 (.st 2) [(.res 4), (.res 3)] none []
    (.out [(0, (.slot 0)), (5, (.slot 5)), (7, (.res 4))]))))))
    [0, 5]
abbrev wal_Wal_Add_r11 : NC := .reg
    (.q 1 .nilck [(.slot 0)] none
    (.q 2 (.fld 0) [(.res 1)] none
    (.q 3 .ld [(.res 2)] none
    (.q 4 (.lda 2) [(.slot 7)] none
    (.x 5 (.call 48) [(.res 4)] none [(3, .ld, [(.res 2)], none)]
    (.x 6 (.call 20) [(.res 3), (.res 5)] none []
    (.q 8 (.ext 0) [(.res 6)] none
    (.q 9 (.ext 1) [(.res 6)] none
    (.out [(0, (.slot 0)), (5, (.slot 5)), (7, (.slot 7)), (8, (.res 8))])))))))))
    [0, 5, 7]
abbrev wal_Wal_Add_r12 : NC := .reg
    (.q 1 .len [(.slot 8)] none
    (.q 2 (.icm .gtr) [(.res 1), (.const (.int .i64 4096))] none
    (.q 4 (.fld 1) [(.slot 7)] (some ((.res 2), true))
    (.q 5 .ld [(.res 4)] (some ((.res 2), true))
    (.q 6 (.icm .lss) [(.res 5), (.const (.int .i64 999999999))] (some ((.res 2), true))
    (.q 7 .pick [(.res 2), (.res 6), (.const (.bool false))] none
    (.out [(0, (.slot 0)), (5, (.slot 5)), (7, (.slot 7)), (52, (.res 7))])))))))
    [0, 5, 7, 8]
abbrev wal_Wal_Add_r13 : NC := .reg
    (.q 0 (.fld 1) [(.slot 7)] none
    (.q 1 .ld [(.res 0)] none
    (.q 2 (.iar .add) [(.res 1), (.const (.int .i64 1))] none
    (.q 3 (.fld 1) [(.slot 7)] none
    (.x 4 (.st 1) [(.res 3), (.res 2)] none []
    (.out [(0, (.slot 0)), (5, (.slot 5)), (7, (.slot 7))]))))))
    [0, 5, 7]
abbrev wal_Wal_Add_r14 : NC := .reg
    (.q 1 (.lda 2) [(.slot 7)] none
    (.x 3 (.call 63) [(.slot 0), (.res 1), (.slot 5)] none []
    (.out [(0, (.slot 0)), (7, (.slot 7)), (10, (.res 3))])))
    [0, 5, 7]
abbrev wal_Wal_Add_r15 : NC := .reg
    (.q 1 (.icm .neq) [(.slot 10), (.const (.int .i64 0))] none
    (.out [(0, (.slot 0)), (7, (.slot 7)), (10, (.slot 10)), (62, (.res 1))]))
    [0, 7, 10]
abbrev wal_Wal_Add_r16 : NC := .reg
    (.out [(4, (.slot 10))])
    [10]
abbrev wal_Wal_Add_r17 : NC := .reg
    (.q 1 (.lda 2) [(.slot 7)] none
    (.q 2 .nilck [(.slot 0)] none
    (.q 3 (.fld 1) [(.res 2)] none
    (.x 4 (.st 2) [(.res 3), (.res 1)] none []
    (.out [])))))
    [0, 7]
abbrev wal_Wal_Add_r18 : NC := .reg
    (.out [(4, (.const (.int .i64 0)))])
    []
abbrev wal_Wal_Add_c : NC :=
  (.seq wal_Wal_Add_r0
  (.seq (.seq wal_Wal_Add_r1
  (.cond (.slot 14)
    (.seq wal_Wal_Add_r2
    .ret)
    .skip))
  (.seq (.seq wal_Wal_Add_r3
  (.cond (.slot 20)
    (.seq wal_Wal_Add_r4
    .ret)
    .skip))
  (.seq wal_Wal_Add_r5
  (.seq (.seq wal_Wal_Add_r6
  (.cond (.slot 27)
    (.seq wal_Wal_Add_r7
    .ret)
    .skip))
  (.seq (.seq wal_Wal_Add_r8
  (.cond (.slot 30)
    (.seq wal_Wal_Add_r9
    .ret)
    .skip))
  (.seq wal_Wal_Add_r10
  (.seq (.seq wal_Wal_Add_r11
  (.seq wal_Wal_Add_r12
  (.cond (.slot 52)
    wal_Wal_Add_r13
    .skip)))
  (.seq (.seq wal_Wal_Add_r14
  (.seq wal_Wal_Add_r15
  (.cond (.slot 62)
    (.seq wal_Wal_Add_r16
    .ret)
    .skip)))
  (.seq wal_Wal_Add_r17
  (.seq wal_Wal_Add_r18
  .ret)))))))))))
abbrev wal_Wal_Add_F : FN := ⟨wal_Wal_Add_c, [.slot 4]⟩
theorem wal_Wal_Add_ok : compF Tryz.prog Tryz.f22 = some wal_Wal_Add_F := by kernel_rfl
theorem wal_Wal_Add_go {args : List Value} {m : Mem} {R : Value → Mem → Prop} (hn : args.length ≤ Tryz.f22.ntmps) (h : wpN Tryz.prog wal_Wal_Add_c (retP wal_Wal_Add_F.rvs R) (zipP 0 args) m) : MC Tryz.prog 22 args m R := MC_start Tryz.func22 wal_Wal_Add_ok mixed_ok hn h
/-! (*concord/wal.Wal).Where -/
abbrev wal_Wal_Where_r0 : NC := .reg
    (.out [(0, (.slot 0))])
    [0]
abbrev wal_Wal_Where_r1 : NC := .reg
    (.q 1 .nilck [(.slot 0)] none
    (.q 2 (.fld 1) [(.res 1)] none
    (.q 3 (.fld 0) [(.res 2)] none
    (.q 4 .ld [(.res 3)] none
    (.q 6 .nilck [(.slot 0)] none
    (.q 7 (.fld 1) [(.res 6)] none
    (.q 8 (.fld 1) [(.res 7)] none
    (.q 9 .ld [(.res 8)] none
    (.out [(2, (.res 4)), (3, (.res 9))])))))))))
    [0]
abbrev wal_Wal_Where_c : NC :=
  (.seq wal_Wal_Where_r0
  (.seq wal_Wal_Where_r1
  .ret))
abbrev wal_Wal_Where_F : FN := ⟨wal_Wal_Where_c, [.slot 2, .slot 3]⟩
theorem wal_Wal_Where_ok : compF Tryz.prog Tryz.f23 = some wal_Wal_Where_F := by kernel_rfl
theorem wal_Wal_Where_go {args : List Value} {m : Mem} {R : Value → Mem → Prop} (hn : args.length ≤ Tryz.f23.ntmps) (h : wpN Tryz.prog wal_Wal_Where_c (retP wal_Wal_Where_F.rvs R) (zipP 0 args) m) : MC Tryz.prog 23 args m R := MC_start Tryz.func23 wal_Wal_Where_ok mixed_ok hn h
/-! concord/wal.greatest -/
abbrev wal_greatest_r0 : NC := .reg
    (.out [(0, (.slot 0))])
    [0]
abbrev wal_greatest_r1 : NC := .reg
    (.out [(0, (.slot 0)), (3, (.const (.int .i64 0)))])
    [0]
abbrev wal_greatest_r2 : NC := .reg
    (.x 1 (.call 24) [(.slot 0)] none []
    (.q 2 .len [(.res 1)] none
    (.out [(0, (.slot 0)), (3, (.slot 3)), (13, (.res 1)), (14, (.res 2)), (15, (.const (.int .i64 0)))])))
    [0, 3]
abbrev wal_greatest_r3 : NC := .reg
    (.q 0 (.icm .lss) [(.slot 15), (.slot 14)] none
    (.out [(0, (.slot 0)), (3, (.slot 3)), (13, (.slot 13)), (14, (.slot 14)), (15, (.slot 15)), (16, (.res 0))]))
    [0, 3, 13, 14, 15]
abbrev wal_greatest_r4 : NC := .reg
    (.q 0 (.ixs 1) [(.slot 13), (.slot 15)] none
    (.q 1 .ld [(.res 0)] none
    (.out [(0, (.slot 0)), (3, (.slot 3)), (5, (.res 1)), (13, (.slot 13)), (14, (.slot 14)), (15, (.slot 15))])))
    [0, 3, 13, 14, 15]
abbrev wal_greatest_r5 : NC := .reg
    (.x 1 (.call 73) [(.slot 5)] none []
    (.q 3 (.ext 0) [(.res 1)] none
    (.q 4 (.ext 1) [(.res 1)] none
    (.x 5 (.alc [(.int .i64 0), (.int .i64 0)] 95) [] none []
    (.x 6 (.st 2) [(.res 5), (.res 3)] none []
    (.out [(0, (.slot 0)), (3, (.slot 3)), (6, (.res 5)), (7, (.res 4)), (13, (.slot 13)), (14, (.slot 14)), (15, (.slot 15))]))))))
    [0, 3, 5, 13, 14, 15]
abbrev wal_greatest_r6 : NC := .reg
    (.q 1 .not [(.slot 7)] none
    (.q 3 (.fld 0) [(.slot 6)] (some ((.res 1), false))
    (.q 4 .ld [(.res 3)] (some ((.res 1), false))
    (.q 5 .mv [(.slot 3)] (some ((.res 1), false))
    (.q 6 (.icm .leq) [(.res 4), (.res 5)] (some ((.res 1), false))
    (.q 7 .pick [(.res 1), (.const (.bool true)), (.res 6)] none
    (.out [(0, (.slot 0)), (3, (.slot 3)), (6, (.slot 6)), (13, (.slot 13)), (14, (.slot 14)), (15, (.slot 15)), (31, (.res 7))])))))))
    [0, 3, 6, 7, 13, 14, 15]
abbrev wal_greatest_r7 : NC := .reg
    (.q 1 (.fld 0) [(.slot 6)] none
    (.q 2 .ld [(.res 1)] none
    (.x 3 (.call 47) [(.slot 0), (.res 2)] none []
    (.q 5 (.ext 0) [(.res 3)] none
    (.q 6 (.ext 1) [(.res 3)] none
    (.q 7 (.ext 2) [(.res 3)] none
    (.q 8 (.ext 3) [(.res 3)] none
    (.x 9 (.alc [(.int .i64 0), (.int .i64 0)] 95) [] none []
    (.x 11 (.st 2) [(.res 9), (.res 6)] none []
    (.out [(0, (.slot 0)), (3, (.slot 3)), (6, (.slot 6)), (11, (.res 8)), (13, (.slot 13)), (14, (.slot 14)), (15, (.slot 15))]))))))))))
    [0, 3, 6, 13, 14, 15]
abbrev wal_greatest_r8 : NC := .reg
    (.out [(0, (.slot 0)), (3, (.slot 3)), (6, (.slot 6)), (13, (.slot 13)), (14, (.slot 14)), (15, (.slot 15)), (41, (.slot 11))])
    [0, 3, 6, 11, 13, 14, 15]
abbrev wal_greatest_r9 : NC := .reg
    (.q 0 (.fld 0) [(.slot 6)] none
    (.q 1 .ld [(.res 0)] none
    (.out [(0, (.slot 0)), (3, (.res 1)), (13, (.slot 13)), (14, (.slot 14)), (15, (.slot 15))])))
    [0, 6, 13, 14, 15]
abbrev wal_greatest_r10 : NC := .reg
    (.q 0 (.iar .add) [(.slot 15), (.const (.int .i64 1))] none
    (.out [(0, (.slot 0)), (3, (.slot 3)), (13, (.slot 13)), (14, (.slot 14)), (15, (.res 0))]))
    [0, 3, 13, 14, 15]
abbrev wal_greatest_l0 : NC :=
  (.seq wal_greatest_r3
  (.seq (.cond (.slot 16)
    .skip
    (.exit 0))
  (.seq (.block 1 (.seq wal_greatest_r4
  (.seq wal_greatest_r5
  (.seq (.seq wal_greatest_r6
  (.cond (.slot 31)
    (.exit 1)
    .skip))
  (.seq wal_greatest_r7
  (.seq wal_greatest_r8
  (.cond (.slot 41)
    wal_greatest_r9
    .skip)))))))
  wal_greatest_r10)))
abbrev wal_greatest_r11 : NC := .reg
    (.out [(2, (.slot 3))])
    [3]
abbrev wal_greatest_c : NC :=
  (.seq wal_greatest_r0
  (.seq wal_greatest_r1
  (.seq (.seq wal_greatest_r2
  (.block 0 (.loop [0, 3, 13, 14, 15] wal_greatest_l0)))
  (.seq wal_greatest_r11
  .ret))))
abbrev wal_greatest_F : FN := ⟨wal_greatest_c, [.slot 2]⟩
theorem wal_greatest_ok : compF Tryz.prog Tryz.f45 = some wal_greatest_F := by kernel_rfl
theorem wal_greatest_go {args : List Value} {m : Mem} {R : Value → Mem → Prop} (hn : args.length ≤ Tryz.f45.ntmps) (h : wpN Tryz.prog wal_greatest_c (retP wal_greatest_F.rvs R) (zipP 0 args) m) : MC Tryz.prog 45 args m R := MC_start Tryz.func45 wal_greatest_ok mixed_ok hn h
/-! concord/wal.clean -/
abbrev wal_clean_r0 : NC := .reg
    (.x 0 (.box 95) [(.slot 1)] none []
    (.out [(0, (.slot 0)), (3, (.res 0))]))
    [0, 1]
abbrev wal_clean_r1 : NC := .reg
    (.x 1 (.call 24) [(.slot 0)] none []
    (.q 2 .len [(.res 1)] none
    (.out [(0, (.slot 0)), (3, (.slot 3)), (11, (.res 1)), (12, (.res 2)), (13, (.const (.int .i64 0)))])))
    [0, 3]
abbrev wal_clean_r2 : NC := .reg
    (.q 0 (.icm .lss) [(.slot 13), (.slot 12)] none
    (.out [(0, (.slot 0)), (3, (.slot 3)), (11, (.slot 11)), (12, (.slot 12)), (13, (.slot 13)), (14, (.res 0))]))
    [0, 3, 11, 12, 13]
abbrev wal_clean_r3 : NC := .reg
    (.q 0 (.ixs 1) [(.slot 11), (.slot 13)] none
    (.q 1 .ld [(.res 0)] none
    (.out [(0, (.slot 0)), (3, (.slot 3)), (6, (.res 1)), (11, (.slot 11)), (12, (.slot 12)), (13, (.slot 13))])))
    [0, 3, 11, 12, 13]
abbrev wal_clean_r4 : NC := .reg
    (.x 1 (.call 73) [(.slot 6)] none []
    (.q 3 (.ext 0) [(.res 1)] none
    (.q 4 (.ext 1) [(.res 1)] none
    (.x 5 (.alc [(.int .i64 0), (.int .i64 0)] 95) [] none []
    (.x 6 (.st 2) [(.res 5), (.res 3)] none []
    (.out [(0, (.slot 0)), (3, (.slot 3)), (6, (.slot 6)), (7, (.res 5)), (8, (.res 4)), (11, (.slot 11)), (12, (.slot 12)), (13, (.slot 13))]))))))
    [0, 3, 6, 11, 12, 13]
abbrev wal_clean_r5 : NC := .reg
    (.q 1 .not [(.slot 8)] none
    (.q 3 (.fld 0) [(.slot 7)] (some ((.res 1), false))
    (.q 4 .ld [(.res 3)] (some ((.res 1), false))
    (.q 5 (.fld 0) [(.slot 3)] (some ((.res 1), false))
    (.q 6 .ld [(.res 5)] (some ((.res 1), false))
    (.q 7 (.icm .eql) [(.res 4), (.res 6)] (some ((.res 1), false))
    (.q 8 .mv [(.res 7)] (some ((.res 1), false))
    (.q 9 (.fld 1) [(.slot 7)] (some ((.res 8), true))
    (.q 10 .ld [(.res 9)] (some ((.res 8), true))
    (.q 11 (.fld 1) [(.slot 3)] (some ((.res 8), true))
    (.q 12 .ld [(.res 11)] (some ((.res 8), true))
    (.q 13 (.icm .leq) [(.res 10), (.res 12)] (some ((.res 8), true))
    (.q 14 .pick [(.res 8), (.res 13), (.const (.bool false))] (some ((.res 1), false))
    (.q 15 .pick [(.res 1), (.const (.bool true)), (.res 14)] none
    (.out [(0, (.slot 0)), (3, (.slot 3)), (6, (.slot 6)), (11, (.slot 11)), (12, (.slot 12)), (13, (.slot 13)), (37, (.res 15))])))))))))))))))
    [0, 3, 6, 7, 8, 11, 12, 13]
abbrev wal_clean_r6 : NC := .reg
    (.x 2 (.call 64) [(.slot 0), (.slot 6)] none []
    (.out [(0, (.slot 0)), (3, (.slot 3)), (9, (.res 2)), (11, (.slot 11)), (12, (.slot 12)), (13, (.slot 13))]))
    [0, 3, 6, 11, 12, 13]
abbrev wal_clean_r7 : NC := .reg
    (.q 1 (.icm .neq) [(.slot 9), (.const (.int .i64 0))] none
    (.out [(0, (.slot 0)), (3, (.slot 3)), (9, (.slot 9)), (11, (.slot 11)), (12, (.slot 12)), (13, (.slot 13)), (42, (.res 1))]))
    [0, 3, 9, 11, 12, 13]
abbrev wal_clean_r8 : NC := .reg
    (.out [(4, (.slot 9))])
    [9]
abbrev wal_clean_r9 : NC := .reg
    (.q 0 (.iar .add) [(.slot 13), (.const (.int .i64 1))] none
    (.out [(0, (.slot 0)), (3, (.slot 3)), (11, (.slot 11)), (12, (.slot 12)), (13, (.res 0))]))
    [0, 3, 11, 12, 13]
abbrev wal_clean_l0 : NC :=
  (.seq wal_clean_r2
  (.seq (.cond (.slot 14)
    .skip
    (.exit 0))
  (.seq (.block 1 (.seq wal_clean_r3
  (.seq wal_clean_r4
  (.seq (.seq wal_clean_r5
  (.cond (.slot 37)
    (.exit 1)
    .skip))
  (.seq wal_clean_r6
  (.seq wal_clean_r7
  (.cond (.slot 42)
    (.seq wal_clean_r8
    .ret)
    .skip)))))))
  wal_clean_r9)))
abbrev wal_clean_r10 : NC := .reg
    (.out [(4, (.const (.int .i64 0)))])
    []
abbrev wal_clean_c : NC :=
  (.seq wal_clean_r0
  (.seq (.seq wal_clean_r1
  (.block 0 (.loop [0, 3, 11, 12, 13] wal_clean_l0)))
  (.seq wal_clean_r10
  .ret)))
abbrev wal_clean_F : FN := ⟨wal_clean_c, [.slot 4]⟩
theorem wal_clean_ok : compF Tryz.prog Tryz.f46 = some wal_clean_F := by kernel_rfl
theorem wal_clean_go {args : List Value} {m : Mem} {R : Value → Mem → Prop} (hn : args.length ≤ Tryz.f46.ntmps) (h : wpN Tryz.prog wal_clean_c (retP wal_clean_F.rvs R) (zipP 0 args) m) : MC Tryz.prog 46 args m R := MC_start Tryz.func46 wal_clean_ok mixed_ok hn h
/-! concord/wal.read -/
abbrev wal_read_r0 : NC := .reg
    (.x 1 (.alc [(.int .i64 0), (.int .i64 0)] 95) [] none []
    (.out [(0, (.slot 0)), (1, (.slot 1)), (5, (.res 1)), (6, (.const (.int .i64 0)))]))
    [0, 1]
abbrev wal_read_r1 : NC := .reg
    (.out [(0, (.slot 0)), (1, (.slot 1)), (5, (.slot 5)), (6, (.slot 6)), (8, (.const (.slice none 0 0)))])
    [0, 1, 5, 6]
abbrev wal_read_r2 : NC := .reg
    (.out [(0, (.slot 0)), (1, (.slot 1)), (5, (.slot 5)), (6, (.slot 6)), (8, (.slot 8)), (9, (.const (.int .i64 1)))])
    [0, 1, 5, 6, 8]
abbrev wal_read_r3 : NC := .reg
    (.q 3 (.bld [(.int .i64 0), (.int .i64 0)] [(0, 1), (1, 1)]) [(.slot 1), (.slot 9)] none
    (.x 4 (.call 48) [(.res 3)] none []
    (.x 5 (.call 20) [(.slot 0), (.res 4)] none []
    (.q 7 (.ext 0) [(.res 5)] none
    (.q 8 (.ext 1) [(.res 5)] none
    (.out [(0, (.slot 0)), (1, (.slot 1)), (5, (.slot 5)), (6, (.slot 6)), (8, (.slot 8)), (9, (.slot 9)), (10, (.res 7)), (11, (.res 8))]))))))
    [0, 1, 5, 6, 8, 9]
abbrev wal_read_r4 : NC := .reg
    (.q 1 .not [(.slot 11)] none
    (.out [(0, (.slot 0)), (1, (.slot 1)), (5, (.slot 5)), (6, (.slot 6)), (8, (.slot 8)), (9, (.slot 9)), (10, (.slot 10)), (28, (.res 1))]))
    [0, 1, 5, 6, 8, 9, 10, 11]
abbrev wal_read_r5 : NC := .reg
    (.x 1 (.call 74) [(.slot 10)] none []
    (.q 3 (.ext 0) [(.res 1)] none
    (.q 4 (.ext 1) [(.res 1)] none
    (.out [(0, (.slot 0)), (1, (.slot 1)), (5, (.slot 5)), (6, (.slot 6)), (8, (.slot 8)), (9, (.slot 9)), (10, (.slot 10)), (12, (.res 3)), (13, (.res 4))]))))
    [0, 1, 5, 6, 8, 9, 10]
abbrev wal_read_r6 : NC := .reg
    (.q 1 (.icm .eql) [(.slot 9), (.const (.int .i64 1))] none
    (.q 3 .mv [(.slot 12)] (some ((.res 1), true))
    (.q 4 .len [(.res 3)] (some ((.res 1), true))
    (.q 5 (.icm .eql) [(.res 4), (.const (.int .i64 0))] (some ((.res 1), true))
    (.q 6 .pick [(.res 1), (.res 5), (.const (.bool false))] none
    (.out [(0, (.slot 0)), (1, (.slot 1)), (5, (.slot 5)), (6, (.slot 6)), (8, (.slot 8)), (9, (.slot 9)), (10, (.slot 10)), (12, (.slot 12)), (13, (.slot 13)), (40, (.res 6))]))))))
    [0, 1, 5, 6, 8, 9, 10, 12, 13]
abbrev wal_read_r7 : NC := .reg
    (.q 0 (.lda 2) [(.slot 5)] none
    (.x 3 (.st 2) [(.slot 5), (.res 0)] none []
    (.out [(4, (.const (.slice none 0 0))), (5, (.slot 5)), (6, (.slot 6)), (7, (.const (.bool false)))])))
    [5, 6]
abbrev wal_read_r8 : NC := .reg
    (.x 2 (.app 37 1 24 [(.slice none 0 0)]) [(.slot 8), (.slot 12)] none []
    (.q 5 (.bld [(.int .i64 0), (.int .i64 0)] [(0, 1), (1, 1)]) [(.slot 1), (.slot 9)] none
    (.x 8 (.st 2) [(.slot 5), (.res 5)] none []
    (.out [(0, (.slot 0)), (1, (.slot 1)), (5, (.slot 5)), (6, (.slot 13)), (8, (.res 2)), (9, (.slot 9)), (10, (.slot 10)), (13, (.slot 13))]))))
    [0, 1, 5, 8, 9, 10, 12, 13]
abbrev wal_read_r9 : NC := .reg
    (.q 2 .len [(.slot 10)] none
    (.q 3 (.icm .lss) [(.slot 13), (.res 2)] none
    (.out [(0, (.slot 0)), (1, (.slot 1)), (5, (.slot 5)), (6, (.slot 6)), (8, (.slot 8)), (9, (.slot 9)), (53, (.res 3))])))
    [0, 1, 5, 6, 8, 9, 10, 13]
abbrev wal_read_r10 : NC := .reg
    (.q 1 (.iar .add) [(.slot 9), (.const (.int .i64 1))] none
    (.out [(0, (.slot 0)), (1, (.slot 1)), (5, (.slot 5)), (6, (.slot 6)), (8, (.slot 8)), (9, (.res 1))]))
    [0, 1, 5, 6, 8, 9]
abbrev wal_read_l0 : NC :=
  (.seq (.block 1 (.seq wal_read_r3
  (.seq (.seq wal_read_r4
  (.cond (.slot 28)
    (.exit 0)
    .skip))
  (.seq wal_read_r5
  (.seq (.seq wal_read_r6
  (.cond (.slot 40)
    (.seq wal_read_r7
    .ret)
    .skip))
  (.seq wal_read_r8
  (.seq wal_read_r9
  (.cond (.slot 53)
    (.exit 0)
    .skip))))))))
  wal_read_r10)
abbrev wal_read_r11 : NC := .reg
    (.q 1 .len [(.slot 8)] none
    (.q 2 (.icm .eql) [(.res 1), (.const (.int .i64 0))] none
    (.out [(5, (.slot 5)), (6, (.slot 6)), (8, (.slot 8)), (56, (.res 2))])))
    [5, 6, 8]
abbrev wal_read_r12 : NC := .reg
    (.q 0 (.lda 2) [(.slot 5)] none
    (.x 3 (.st 2) [(.slot 5), (.res 0)] none []
    (.out [(4, (.const (.slice none 0 0))), (5, (.slot 5)), (6, (.slot 6)), (7, (.const (.bool false)))])))
    [5, 6]
abbrev wal_read_r13 : NC := .reg
    (.q 1 (.ixs 1) [(.slot 8), (.const (.int .i64 0))] none
    (.q 2 .ld [(.res 1)] none
    (.x 3 (.call 75) [(.res 2)] none []
    (.out [(5, (.slot 5)), (6, (.slot 6)), (8, (.slot 8)), (14, (.res 3))]))))
    [5, 6, 8]
abbrev wal_read_r14 : NC := .reg
    (.x 1 (.call 76) [(.slot 14)] none []
    (.out [(5, (.slot 5)), (6, (.slot 6)), (8, (.slot 8)), (14, (.slot 14)), (15, (.res 1))]))
    [5, 6, 8, 14]
abbrev wal_read_r15 : NC := .reg
    (.x 1 (.call 77) [(.slot 14)] none []
    (.q 2 (.icm .neq) [(.res 1), (.const (.int .i64 0))] none
    (.q 4 .mv [(.slot 15)] (some ((.res 2), false))
    (.q 5 (.icm .lss) [(.res 4), (.const (.int .i64 0))] (some ((.res 2), false))
    (.q 6 .pick [(.res 2), (.const (.bool true)), (.res 5)] none
    (.q 8 .mv [(.slot 15)] (some ((.res 6), false))
    (.q 9 .mv [(.slot 8)] (some ((.res 6), false))
    (.q 10 .len [(.res 9)] (some ((.res 6), false))
    (.q 11 (.iar .sub) [(.res 10), (.const (.int .i64 1))] (some ((.res 6), false))
    (.q 12 (.icm .gtr) [(.res 8), (.res 11)] (some ((.res 6), false))
    (.q 13 .pick [(.res 6), (.const (.bool true)), (.res 12)] none
    (.out [(5, (.slot 5)), (6, (.slot 6)), (8, (.slot 8)), (78, (.res 13))]))))))))))))
    [5, 6, 8, 14, 15]
abbrev wal_read_r16 : NC := .reg
    (.q 0 (.lda 2) [(.slot 5)] none
    (.x 3 (.st 2) [(.slot 5), (.res 0)] none []
    (.out [(4, (.const (.slice none 0 0))), (5, (.slot 5)), (6, (.slot 6)), (7, (.const (.bool false)))])))
    [5, 6]
abbrev wal_read_r17 : NC := .reg
    (.q 1 (.slc 1 true false) [(.slot 8), (.const (.int .i64 1))] none
    (.q 2 (.lda 2) [(.slot 5)] none
    (.x 5 (.st 2) [(.slot 5), (.res 2)] none []
    (.out [(4, (.res 1)), (5, (.slot 5)), (6, (.slot 6)), (7, (.const (.bool true)))]))))
    [5, 6, 8]
abbrev wal_read_c : NC :=
  (.seq wal_read_r0
  (.seq wal_read_r1
  (.seq (.seq wal_read_r2
  (.block 0 (.loop [0, 1, 5, 6, 8, 9] wal_read_l0)))
  (.seq (.seq wal_read_r11
  (.cond (.slot 56)
    (.seq wal_read_r12
    .ret)
    .skip))
  (.seq wal_read_r13
  (.seq wal_read_r14
  (.seq (.seq wal_read_r15
  (.cond (.slot 78)
    (.seq wal_read_r16
    .ret)
    .skip))
  (.seq wal_read_r17
  .ret))))))))
abbrev wal_read_F : FN := ⟨wal_read_c, [.slot 4, .cells 5 2, .slot 6, .slot 7]⟩
theorem wal_read_ok : compF Tryz.prog Tryz.f47 = some wal_read_F := by kernel_rfl
theorem wal_read_go {args : List Value} {m : Mem} {R : Value → Mem → Prop} (hn : args.length ≤ Tryz.f47.ntmps) (h : wpN Tryz.prog wal_read_c (retP wal_read_F.rvs R) (zipP 0 args) m) : MC Tryz.prog 47 args m R := MC_start Tryz.func47 wal_read_ok mixed_ok hn h
/-! (concord/wal.place).name -/
abbrev wal_place_name_r0 : NC := .reg
    (.x 0 (.box 95) [(.slot 0)] none []
    (.out [(1, (.res 0))]))
    [0]
abbrev wal_place_name_r1 : NC := .reg
    (.q 0 (.fld 0) [(.slot 1)] none
    (.q 1 .ld [(.res 0)] none
    (.q 5 (.fld 1) [(.slot 1)] none
    (.q 6 .ld [(.res 5)] none
    (.x 2 (.call 78) [(.res 1)] none [(6, .ld, [(.res 5)], none)]
    (.q 3 (.str .add) [(.const (.string ⟨#[108, 111, 103, 46]⟩)), (.res 2)] none
    (.q 4 (.str .add) [(.res 3), (.const (.string ⟨#[46]⟩))] none
    (.x 7 (.call 78) [(.res 6)] none []
    (.q 8 (.str .add) [(.res 4), (.res 7)] none
    (.out [(2, (.res 8))]))))))))))
    [1]
abbrev wal_place_name_c : NC :=
  (.seq wal_place_name_r0
  (.seq wal_place_name_r1
  .ret))
abbrev wal_place_name_F : FN := ⟨wal_place_name_c, [.slot 2]⟩
theorem wal_place_name_ok : compF Tryz.prog Tryz.f48 = some wal_place_name_F := by kernel_rfl
theorem wal_place_name_go {args : List Value} {m : Mem} {R : Value → Mem → Prop} (hn : args.length ≤ Tryz.f48.ntmps) (h : wpN Tryz.prog wal_place_name_c (retP wal_place_name_F.rvs R) (zipP 0 args) m) : MC Tryz.prog 48 args m R := MC_start Tryz.func48 wal_place_name_ok mixed_ok hn h
/-! concord/wal.frames -/
abbrev wal_frames_r0 : NC := .reg
    (.out [(0, (.slot 0)), (1, (.slot 1))])
    [0, 1]
abbrev wal_frames_r1 : NC := .reg
    (.q 1 .len [(.slot 1)] none
    (.out [(0, (.slot 0)), (8, (.slot 1)), (9, (.res 1)), (10, (.const (.int .i64 0)))]))
    [0, 1]
abbrev wal_frames_r2 : NC := .reg
    (.q 0 (.icm .lss) [(.slot 10), (.slot 9)] none
    (.out [(0, (.slot 0)), (8, (.slot 8)), (9, (.slot 9)), (10, (.slot 10)), (11, (.res 0))]))
    [0, 8, 9, 10]
abbrev wal_frames_r3 : NC := .reg
    (.q 0 (.ixs 1) [(.slot 8), (.slot 10)] none
    (.q 1 .ld [(.res 0)] none
    (.out [(0, (.slot 0)), (7, (.res 1)), (8, (.slot 8)), (9, (.slot 9)), (10, (.slot 10))])))
    [0, 8, 9, 10]
abbrev wal_frames_r4 : NC := .reg
    (.q 1 .len [(.slot 7)] none
    (.q 2 (.icm .eql) [(.res 1), (.const (.int .i64 0))] none
    (.q 4 .mv [(.slot 7)] (some ((.res 2), false))
    (.q 5 .len [(.res 4)] (some ((.res 2), false))
    (.q 6 (.icm .gtr) [(.res 5), (.const (.int .i64 16384))] (some ((.res 2), false))
    (.q 7 .pick [(.res 2), (.const (.bool true)), (.res 6)] none
    (.out [(0, (.slot 0)), (7, (.slot 7)), (8, (.slot 8)), (9, (.slot 9)), (10, (.slot 10)), (21, (.res 7))])))))))
    [0, 7, 8, 9, 10]
abbrev wal_frames_r5 : NC := .reg
    (.out [(4, (.const (.slice none 0 0))), (5, (.const (.bool false)))])
    []
abbrev wal_frames_r6 : NC := .reg
    (.x 2 (.call 61) [(.slot 0), (.slot 7)] none []
    (.out [(0, (.res 2)), (8, (.slot 8)), (9, (.slot 9)), (10, (.slot 10))]))
    [0, 7, 8, 9, 10]
abbrev wal_frames_r7 : NC := .reg
    (.q 0 (.iar .add) [(.slot 10), (.const (.int .i64 1))] none
    (.out [(0, (.slot 0)), (8, (.slot 8)), (9, (.slot 9)), (10, (.res 0))]))
    [0, 8, 9, 10]
abbrev wal_frames_l0 : NC :=
  (.seq wal_frames_r2
  (.seq (.cond (.slot 11)
    .skip
    (.exit 0))
  (.seq (.block 1 (.seq wal_frames_r3
  (.seq (.seq wal_frames_r4
  (.cond (.slot 21)
    (.seq wal_frames_r5
    .ret)
    .skip))
  wal_frames_r6)))
  wal_frames_r7)))
abbrev wal_frames_r8 : NC := .reg
    (.out [(4, (.slot 0)), (5, (.const (.bool true)))])
    [0]
abbrev wal_frames_c : NC :=
  (.seq wal_frames_r0
  (.seq (.seq wal_frames_r1
  (.block 0 (.loop [0, 8, 9, 10] wal_frames_l0)))
  (.seq wal_frames_r8
  .ret)))
abbrev wal_frames_F : FN := ⟨wal_frames_c, [.slot 4, .slot 5]⟩
theorem wal_frames_ok : compF Tryz.prog Tryz.f60 = some wal_frames_F := by kernel_rfl
theorem wal_frames_go {args : List Value} {m : Mem} {R : Value → Mem → Prop} (hn : args.length ≤ Tryz.f60.ntmps) (h : wpN Tryz.prog wal_frames_c (retP wal_frames_F.rvs R) (zipP 0 args) m) : MC Tryz.prog 60 args m R := MC_start Tryz.func60 wal_frames_ok mixed_ok hn h
/-! concord/frame.Put -/
abbrev frame_Put_r0 : NC := .reg
    (.out [(0, (.slot 0)), (1, (.slot 1))])
    [0, 1]
abbrev frame_Put_r1 : NC := .reg
    (.q 1 .len [(.slot 0)] none
    (.q 2 (.iar .add) [(.res 1), (.const (.int .i64 2))] none
    (.q 4 .len [(.slot 1)] none
    (.q 5 (.iar .add) [(.res 2), (.res 4)] none
    (.q 6 (.iar .add) [(.res 5), (.const (.int .i64 4))] none
    (.x 7 (.mks 5 1 [(.int .u8 0)]) [(.const (.int .i64 0)), (.res 6)] none []
    (.x 9 (.app 5 1 1 [(.int .u8 0)]) [(.res 7), (.slot 0)] none []
    (.out [(1, (.slot 1)), (5, (.res 9))]))))))))
    [0, 1]
abbrev frame_Put_r2 : NC := .reg
    (.q 1 .len [(.slot 1)] none
    (.q 2 (.icm .eql) [(.res 1), (.const (.int .i64 0))] none
    (.q 4 .mv [(.slot 1)] (some ((.res 2), false))
    (.q 5 .len [(.res 4)] (some ((.res 2), false))
    (.q 6 (.icm .gtr) [(.res 5), (.const (.int .i64 16384))] (some ((.res 2), false))
    (.q 7 .pick [(.res 2), (.const (.bool true)), (.res 6)] none
    (.out [(1, (.slot 1)), (5, (.slot 5)), (24, (.res 7))])))))))
    [1, 5]
abbrev frame_Put_r3 : NC := .reg
    (.out [(4, (.slot 5))])
    [5]
abbrev frame_Put_r4 : NC := .reg
    (.q 1 .len [(.slot 1)] none
    (.q 2 (.conv .u64) [(.res 1)] none
    (.x 3 (.call 87) [(.const (.slice none 0 0)), (.const (.int .i64 2)), (.res 2)] none []
    (.x 5 (.app 5 1 1 [(.int .u8 0)]) [(.res 3), (.slot 1)] none []
    (.out [(5, (.slot 5)), (6, (.res 5))])))))
    [1, 5]
abbrev frame_Put_r5 : NC := .reg
    (.x 2 (.app 5 1 1 [(.int .u8 0)]) [(.slot 5), (.slot 6)] none []
    (.x 4 (.call 88) [(.slot 6)] none []
    (.q 5 (.conv .u64) [(.res 4)] none
    (.x 6 (.call 87) [(.const (.slice none 0 0)), (.const (.int .i64 4)), (.res 5)] none []
    (.x 7 (.app 5 1 1 [(.int .u8 0)]) [(.res 2), (.res 6)] none []
    (.out [(4, (.res 7))]))))))
    [5, 6]
abbrev frame_Put_c : NC :=
  (.seq frame_Put_r0
  (.seq frame_Put_r1
  (.seq (.seq frame_Put_r2
  (.cond (.slot 24)
    (.seq frame_Put_r3
    .ret)
    .skip))
  (.seq frame_Put_r4
  (.seq frame_Put_r5
  .ret)))))
abbrev frame_Put_F : FN := ⟨frame_Put_c, [.slot 4]⟩
theorem frame_Put_ok : compF Tryz.prog Tryz.f61 = some frame_Put_F := by kernel_rfl
theorem frame_Put_go {args : List Value} {m : Mem} {R : Value → Mem → Prop} (hn : args.length ≤ Tryz.f61.ntmps) (h : wpN Tryz.prog frame_Put_c (retP frame_Put_F.rvs R) (zipP 0 args) m) : MC Tryz.prog 61 args m R := MC_start Tryz.func61 frame_Put_ok mixed_ok hn h
/-! (*concord/wal.Wal).write -/
abbrev wal_Wal_write_r0 : NC := .reg
    (.x 0 (.box 95) [(.slot 1)] none []
    (.out [(0, (.slot 0)), (2, (.slot 2)), (4, (.res 0))]))
    [0, 1, 2]
abbrev wal_Wal_write_r1 : NC := .reg
    (.q 1 .nilck [(.slot 0)] none
    (.q 2 (.fld 0) [(.res 1)] none
    (.q 3 .ld [(.res 2)] none
    (.q 4 (.lda 2) [(.slot 4)] none
    (.x 5 (.call 48) [(.res 4)] none [(3, .ld, [(.res 2)], none)]
    (.x 7 (.call 13) [(.res 3), (.res 5), (.slot 2)] none []
    (.out [(0, (.slot 0)), (4, (.slot 4)), (7, (.res 7))])))))))
    [0, 2, 4]
abbrev wal_Wal_write_r2 : NC := .reg
    (.q 1 (.icm .eql) [(.slot 7), (.const (.int .i64 7))] none
    (.out [(0, (.slot 0)), (4, (.slot 4)), (7, (.slot 7)), (17, (.res 1))]))
    [0, 4, 7]
abbrev wal_Wal_write_r3 : NC := .reg
    (.out [(6, (.slot 7))])
    [7]
abbrev wal_Wal_write_r4 : NC := .reg
    (.q 1 (.icm .eql) [(.slot 7), (.const (.int .i64 0))] none
    (.out [(0, (.slot 0)), (4, (.slot 4)), (7, (.slot 7)), (20, (.res 1))]))
    [0, 4, 7]
abbrev wal_Wal_write_r5 : NC := .reg
    (.q 1 .nilck [(.slot 0)] none
    (.q 2 (.fld 0) [(.res 1)] none
    (.q 3 .ld [(.res 2)] none
    (.q 4 (.lda 2) [(.slot 4)] none
    (.x 5 (.call 48) [(.res 4)] none [(3, .ld, [(.res 2)], none)]
    (.x 6 (.call 50) [(.res 3), (.res 5)] none []
    (.out [(0, (.slot 0)), (7, (.res 6))])))))))
    [0, 4]
abbrev wal_Wal_write_r6 : NC := .reg
    (.q 2 (.icm .neq) [(.slot 7), (.const (.int .i64 0))] none
    (.q 3 .nilck [(.slot 0)] none
    (.q 4 (.fld 3) [(.res 3)] none
    (.x 5 (.st 1) [(.res 4), (.res 2)] none []
    (.out [(7, (.slot 7))])))))
    [0, 7]
abbrev wal_Wal_write_r7 : NC := .reg
    (.out [(6, (.slot 7))])
    [7]
abbrev wal_Wal_write_c : NC :=
  (.seq wal_Wal_write_r0
  (.seq wal_Wal_write_r1
  (.seq (.seq wal_Wal_write_r2
  (.cond (.slot 17)
    (.seq wal_Wal_write_r3
    .ret)
    .skip))
  (.seq (.seq wal_Wal_write_r4
  (.cond (.slot 20)
    wal_Wal_write_r5
    .skip))
  (.seq wal_Wal_write_r6
  (.seq wal_Wal_write_r7
  .ret))))))
abbrev wal_Wal_write_F : FN := ⟨wal_Wal_write_c, [.slot 6]⟩
theorem wal_Wal_write_ok : compF Tryz.prog Tryz.f63 = some wal_Wal_write_F := by kernel_rfl
theorem wal_Wal_write_go {args : List Value} {m : Mem} {R : Value → Mem → Prop} (hn : args.length ≤ Tryz.f63.ntmps) (h : wpN Tryz.prog wal_Wal_write_c (retP wal_Wal_write_F.rvs R) (zipP 0 args) m) : MC Tryz.prog 63 args m R := MC_start Tryz.func63 wal_Wal_write_ok mixed_ok hn h
/-! concord/wal.placed -/
abbrev wal_placed_r0 : NC := .reg
    (.x 0 (.alc [(.int .i64 0), (.int .i64 0)] 95) [] none []
    (.out [(0, (.slot 0)), (2, (.res 0))]))
    [0]
abbrev wal_placed_r1 : NC := .reg
    (.x 1 (.call 94) [(.slot 0), (.const (.string ⟨#[108, 111, 103, 46]⟩))] none []
    (.x 2 (.call 93) [(.res 1), (.const (.string ⟨#[46]⟩))] none []
    (.q 4 (.ext 0) [(.res 2)] none
    (.q 5 (.ext 1) [(.res 2)] none
    (.q 6 (.ext 2) [(.res 2)] none
    (.out [(0, (.slot 0)), (2, (.slot 2)), (4, (.res 4)), (5, (.res 5)), (6, (.res 6))]))))))
    [0, 2]
abbrev wal_placed_r2 : NC := .reg
    (.x 1 (.call 95) [(.slot 4)] none []
    (.q 3 (.ext 0) [(.res 1)] none
    (.q 4 (.ext 1) [(.res 1)] none
    (.out [(0, (.slot 0)), (2, (.slot 2)), (5, (.slot 5)), (6, (.slot 6)), (7, (.res 3))]))))
    [0, 2, 4, 5, 6]
abbrev wal_placed_r3 : NC := .reg
    (.x 1 (.call 95) [(.slot 5)] none []
    (.q 3 (.ext 0) [(.res 1)] none
    (.q 4 (.ext 1) [(.res 1)] none
    (.out [(0, (.slot 0)), (2, (.slot 2)), (6, (.slot 6)), (7, (.slot 7)), (9, (.res 3))]))))
    [0, 2, 5, 6, 7]
abbrev wal_placed_r4 : NC := .reg
    (.q 2 (.bld [(.int .i64 0), (.int .i64 0)] [(0, 1), (1, 1)]) [(.slot 7), (.slot 9)] none
    (.x 3 (.alc [(.int .i64 0), (.int .i64 0)] 95) [] none []
    (.x 4 (.st 2) [(.res 3), (.res 2)] none []
    (.out [(0, (.slot 0)), (2, (.slot 2)), (6, (.slot 6)), (7, (.slot 7)), (9, (.slot 9)), (11, (.res 3))]))))
    [0, 2, 6, 7, 9]
abbrev wal_placed_r5 : NC := .reg
    (.q 0 (.lda 2) [(.slot 11)] none
    (.q 3 .mv [(.slot 7)] (some ((.slot 6), true))
    (.q 4 (.icm .gtr) [(.res 3), (.const (.int .i64 0))] (some ((.slot 6), true))
    (.q 5 .pick [(.slot 6), (.res 4), (.const (.bool false))] none
    (.q 7 .mv [(.slot 7)] (some ((.res 5), true))
    (.q 8 (.icm .leq) [(.res 7), (.const (.int .i64 999999999))] (some ((.res 5), true))
    (.q 9 .pick [(.res 5), (.res 8), (.const (.bool false))] none
    (.q 11 .mv [(.slot 9)] (some ((.res 9), true))
    (.q 12 (.icm .gtr) [(.res 11), (.const (.int .i64 0))] (some ((.res 9), true))
    (.q 13 .pick [(.res 9), (.res 12), (.const (.bool false))] none
    (.q 15 .mv [(.slot 9)] (some ((.res 13), true))
    (.q 16 (.icm .leq) [(.res 15), (.const (.int .i64 999999999))] (some ((.res 13), true))
    (.q 17 .pick [(.res 13), (.res 16), (.const (.bool false))] none
    (.q 19 (.lda 2) [(.slot 11)] (some ((.res 17), true))
    (.q 21 .mv [(.slot 0)] (some ((.res 17), true))
    (.x 20 (.call 48) [(.res 19)] (some ((.res 17), true)) [(0, (.lda 2), [(.slot 11)], none)]
    (.q 22 (.str .eql) [(.res 20), (.res 21)] (some ((.res 17), true))
    (.q 23 .pick [(.res 17), (.res 22), (.const (.bool false))] none
    (.x 24 (.st 2) [(.slot 2), (.res 0)] none []
    (.out [(2, (.slot 2)), (3, (.res 23))]))))))))))))))))))))
    [0, 2, 6, 7, 9, 11]
abbrev wal_placed_c : NC :=
  (.seq wal_placed_r0
  (.seq wal_placed_r1
  (.seq wal_placed_r2
  (.seq wal_placed_r3
  (.seq wal_placed_r4
  (.seq wal_placed_r5
  .ret))))))
abbrev wal_placed_F : FN := ⟨wal_placed_c, [.cells 2 2, .slot 3]⟩
theorem wal_placed_ok : compF Tryz.prog Tryz.f73 = some wal_placed_F := by kernel_rfl
theorem wal_placed_go {args : List Value} {m : Mem} {R : Value → Mem → Prop} (hn : args.length ≤ Tryz.f73.ntmps) (h : wpN Tryz.prog wal_placed_c (retP wal_placed_F.rvs R) (zipP 0 args) m) : MC Tryz.prog 73 args m R := MC_start Tryz.func73 wal_placed_ok mixed_ok hn h
/-! concord/frame.Scan -/
abbrev frame_Scan_r0 : NC := .reg
    (.out [(0, (.slot 0))])
    [0]
abbrev frame_Scan_r1 : NC := .reg
    (.out [(0, (.slot 0)), (4, (.const (.slice none 0 0)))])
    [0]
abbrev frame_Scan_r2 : NC := .reg
    (.out [(0, (.slot 0)), (4, (.slot 4)), (5, (.const (.int .i64 0)))])
    [0, 4]
abbrev frame_Scan_r3 : NC := .reg
    (.x 2 (.call 96) [(.slot 0), (.slot 5)] none []
    (.q 4 (.ext 0) [(.res 2)] none
    (.q 5 (.ext 1) [(.res 2)] none
    (.q 6 (.ext 2) [(.res 2)] none
    (.out [(0, (.slot 0)), (4, (.slot 4)), (5, (.slot 5)), (6, (.res 4)), (7, (.res 5)), (8, (.res 6))])))))
    [0, 4, 5]
abbrev frame_Scan_r4 : NC := .reg
    (.q 1 (.icm .neq) [(.slot 8), (.const (.int .i64 0))] none
    (.out [(0, (.slot 0)), (4, (.slot 4)), (5, (.slot 5)), (6, (.slot 6)), (7, (.slot 7)), (17, (.res 1))]))
    [0, 4, 5, 6, 7, 8]
abbrev frame_Scan_r5 : NC := .reg
    (.out [(2, (.slot 4)), (3, (.slot 5))])
    [4, 5]
abbrev frame_Scan_r6 : NC := .reg
    (.x 2 (.bsl 37 1 [(.slice none 0 0)] [(0, 1)]) [(.slot 6)] none []
    (.x 3 (.app 37 1 24 [(.slice none 0 0)]) [(.slot 4), (.res 2)] none []
    (.out [(0, (.slot 0)), (4, (.res 3)), (5, (.slot 7))])))
    [0, 4, 6, 7]
abbrev frame_Scan_l0 : NC :=
  (.block 1 (.seq frame_Scan_r3
  (.seq (.seq frame_Scan_r4
  (.cond (.slot 17)
    (.seq frame_Scan_r5
    .ret)
    .skip))
  frame_Scan_r6)))
abbrev frame_Scan_c : NC :=
  (.seq frame_Scan_r0
  (.seq frame_Scan_r1
  (.seq frame_Scan_r2
  (.block 0 (.loop [0, 4, 5] frame_Scan_l0)))))
abbrev frame_Scan_F : FN := ⟨frame_Scan_c, [.slot 2, .slot 3]⟩
theorem frame_Scan_ok : compF Tryz.prog Tryz.f74 = some frame_Scan_F := by kernel_rfl
theorem frame_Scan_go {args : List Value} {m : Mem} {R : Value → Mem → Prop} (hn : args.length ≤ Tryz.f74.ntmps) (h : wpN Tryz.prog frame_Scan_c (retP frame_Scan_F.rvs R) (zipP 0 args) m) : MC Tryz.prog 74 args m R := MC_start Tryz.func74 frame_Scan_ok mixed_ok hn h
/-! concord/frame.Next -/
abbrev frame_Next_r0 : NC := .reg
    (.out [(0, (.slot 0)), (1, (.slot 1))])
    [0, 1]
abbrev frame_Next_r1 : NC := .reg
    (.q 1 (.icm .lss) [(.slot 1), (.const (.int .i64 0))] none
    (.q 3 .mv [(.slot 1)] (some ((.res 1), false))
    (.q 4 .mv [(.slot 0)] (some ((.res 1), false))
    (.q 5 .len [(.res 4)] (some ((.res 1), false))
    (.q 6 (.icm .gtr) [(.res 3), (.res 5)] (some ((.res 1), false))
    (.q 7 .pick [(.res 1), (.const (.bool true)), (.res 6)] none
    (.out [(0, (.slot 0)), (1, (.slot 1)), (20, (.res 7))])))))))
    [0, 1]
abbrev frame_Next_r2 : NC := .reg
    (.out [(4, (.const (.slice none 0 0))), (5, (.const (.int .i64 0))), (6, (.const (.int .i64 1)))])
    []
abbrev frame_Next_r3 : NC := .reg
    (.q 2 (.slc 1 true false) [(.slot 0), (.slot 1)] none
    (.out [(1, (.slot 1)), (7, (.res 2))]))
    [0, 1]
abbrev frame_Next_r4 : NC := .reg
    (.x 1 (.call 110) [(.slot 7), (.const (.int .i64 0)), (.const (.int .i64 2))] none []
    (.q 3 (.ext 0) [(.res 1)] none
    (.q 4 (.ext 1) [(.res 1)] none
    (.out [(1, (.slot 1)), (7, (.slot 7)), (8, (.res 3)), (9, (.res 4))]))))
    [1, 7]
abbrev frame_Next_r5 : NC := .reg
    (.q 1 (.icm .neq) [(.slot 9), (.const (.int .i64 0))] none
    (.out [(1, (.slot 1)), (7, (.slot 7)), (8, (.slot 8)), (30, (.res 1))]))
    [1, 7, 8, 9]
abbrev frame_Next_r6 : NC := .reg
    (.out [(4, (.const (.slice none 0 0))), (5, (.const (.int .i64 0))), (6, (.const (.int .i64 3)))])
    []
abbrev frame_Next_r7 : NC := .reg
    (.q 1 (.conv .i64) [(.slot 8)] none
    (.out [(1, (.slot 1)), (7, (.slot 7)), (10, (.res 1))]))
    [1, 7, 8]
abbrev frame_Next_r8 : NC := .reg
    (.q 1 (.icm .eql) [(.slot 10), (.const (.int .i64 0))] none
    (.q 3 .mv [(.slot 10)] (some ((.res 1), false))
    (.q 4 (.icm .gtr) [(.res 3), (.const (.int .i64 16384))] (some ((.res 1), false))
    (.q 5 .pick [(.res 1), (.const (.bool true)), (.res 4)] none
    (.out [(1, (.slot 1)), (7, (.slot 7)), (10, (.slot 10)), (38, (.res 5))])))))
    [1, 7, 10]
abbrev frame_Next_r9 : NC := .reg
    (.out [(4, (.const (.slice none 0 0))), (5, (.const (.int .i64 0))), (6, (.const (.int .i64 4)))])
    []
abbrev frame_Next_r10 : NC := .reg
    (.q 1 .len [(.slot 7)] none
    (.q 3 (.iar .add) [(.const (.int .i64 2)), (.slot 10)] none
    (.q 4 (.iar .add) [(.res 3), (.const (.int .i64 4))] none
    (.q 5 (.icm .lss) [(.res 1), (.res 4)] none
    (.out [(1, (.slot 1)), (7, (.slot 7)), (10, (.slot 10)), (44, (.res 5))])))))
    [1, 7, 10]
abbrev frame_Next_r11 : NC := .reg
    (.out [(4, (.const (.slice none 0 0))), (5, (.const (.int .i64 0))), (6, (.const (.int .i64 3)))])
    []
abbrev frame_Next_r12 : NC := .reg
    (.q 2 (.iar .add) [(.const (.int .i64 2)), (.slot 10)] none
    (.x 3 (.call 110) [(.slot 7), (.res 2), (.const (.int .i64 4))] none []
    (.q 5 (.ext 0) [(.res 3)] none
    (.q 6 (.ext 1) [(.res 3)] none
    (.out [(1, (.slot 1)), (7, (.slot 7)), (10, (.slot 10)), (11, (.res 5))])))))
    [1, 7, 10]
abbrev frame_Next_r13 : NC := .reg
    (.q 3 (.iar .add) [(.const (.int .i64 2)), (.slot 10)] none
    (.q 4 (.slc 1 false true) [(.slot 7), (.res 3)] none
    (.x 5 (.call 88) [(.res 4)] none []
    (.q 6 (.conv .u64) [(.res 5)] none
    (.q 7 (.icm .neq) [(.slot 11), (.res 6)] none
    (.out [(1, (.slot 1)), (7, (.slot 7)), (10, (.slot 10)), (59, (.res 7))]))))))
    [1, 7, 10, 11]
abbrev frame_Next_r14 : NC := .reg
    (.out [(4, (.const (.slice none 0 0))), (5, (.const (.int .i64 0))), (6, (.const (.int .i64 6)))])
    []
abbrev frame_Next_r15 : NC := .reg
    (.q 2 (.iar .add) [(.const (.int .i64 2)), (.slot 10)] none
    (.q 3 (.slc 1 true true) [(.slot 7), (.const (.int .i64 2)), (.res 2)] none
    (.x 4 (.app 5 1 1 [(.int .u8 0)]) [(.const (.slice none 0 0)), (.res 3)] none []
    (.q 6 (.iar .add) [(.slot 1), (.const (.int .i64 2))] none
    (.q 8 (.iar .add) [(.res 6), (.slot 10)] none
    (.q 9 (.iar .add) [(.res 8), (.const (.int .i64 4))] none
    (.out [(4, (.res 4)), (5, (.res 9)), (6, (.const (.int .i64 0)))])))))))
    [1, 7, 10]
abbrev frame_Next_c : NC :=
  (.seq frame_Next_r0
  (.seq (.seq frame_Next_r1
  (.cond (.slot 20)
    (.seq frame_Next_r2
    .ret)
    .skip))
  (.seq frame_Next_r3
  (.seq frame_Next_r4
  (.seq (.seq frame_Next_r5
  (.cond (.slot 30)
    (.seq frame_Next_r6
    .ret)
    .skip))
  (.seq frame_Next_r7
  (.seq (.seq frame_Next_r8
  (.cond (.slot 38)
    (.seq frame_Next_r9
    .ret)
    .skip))
  (.seq (.seq frame_Next_r10
  (.cond (.slot 44)
    (.seq frame_Next_r11
    .ret)
    .skip))
  (.seq (.seq frame_Next_r12
  (.seq frame_Next_r13
  (.cond (.slot 59)
    (.seq frame_Next_r14
    .ret)
    .skip)))
  (.seq frame_Next_r15
  .ret))))))))))
abbrev frame_Next_F : FN := ⟨frame_Next_c, [.slot 4, .slot 5, .slot 6]⟩
theorem frame_Next_ok : compF Tryz.prog Tryz.f96 = some frame_Next_F := by kernel_rfl
theorem frame_Next_go {args : List Value} {m : Mem} {R : Value → Mem → Prop} (hn : args.length ≤ Tryz.f96.ntmps) (h : wpN Tryz.prog frame_Next_c (retP frame_Next_F.rvs R) (zipP 0 args) m) : MC Tryz.prog 96 args m R := MC_start Tryz.func96 frame_Next_ok mixed_ok hn h
end Go.Fw
namespace Go.Fw
open Go.Proofs
/-! concord/concordref8.NewDisk -/
abbrev ref8_NewDisk_r0 : NC := .reg
    (.out [(0, (.slot 0))])
    [0]
abbrev ref8_NewDisk_r1 : NC := .reg
    (.q 1 (.icm .lss) [(.slot 0), (.const (.int .i64 0))] none
    (.q 3 .mv [(.slot 0)] (some ((.res 1), false))
    (.q 4 (.icm .gtr) [(.res 3), (.const (.int .i64 1048576))] (some ((.res 1), false))
    (.q 5 .pick [(.res 1), (.const (.bool true)), (.res 4)] none
    (.out [(0, (.slot 0)), (9, (.res 5))])))))
    [0]
abbrev ref8_NewDisk_r2 : NC := .reg
    (.out [(2, (.const (.pointer none))), (3, (.const (.int .i64 1)))])
    []
abbrev ref8_NewDisk_r3 : NC := .reg
    (.q 1 (.bld [(.slice none 0 0), (.int .i64 0), (.int .i64 0), (.bool false)] [(1, 1), (2, 1)]) [(.slot 0), (.const (.int .i64 (-1)))] none
    (.x 2 (.box 72) [(.res 1)] none []
    (.out [(2, (.res 2)), (3, (.const (.int .i64 0)))])))
    [0]
abbrev ref8_NewDisk_c : NC :=
  (.seq ref8_NewDisk_r0
  (.seq (.seq ref8_NewDisk_r1
  (.cond (.slot 9)
    (.seq ref8_NewDisk_r2
    .ret)
    .skip))
  (.seq ref8_NewDisk_r3
  .ret)))
abbrev ref8_NewDisk_F : FN := ⟨ref8_NewDisk_c, [.slot 2, .slot 3]⟩
theorem ref8_NewDisk_ok : compF Tryz.prog Tryz.f7 = some ref8_NewDisk_F := by kernel_rfl
theorem ref8_NewDisk_go {args : List Value} {m : Mem} {R : Value → Mem → Prop} (hn : args.length ≤ Tryz.f7.ntmps) (h : wpN Tryz.prog ref8_NewDisk_c (retP ref8_NewDisk_F.rvs R) (zipP 0 args) m) : MC Tryz.prog 7 args m R := MC_start Tryz.func7 ref8_NewDisk_ok mixed_ok hn h
/-! concord/concordref8.Frame -/
abbrev ref8_Frame_r0 : NC := .reg
    (.out [(0, (.slot 0)), (1, (.slot 1))])
    [0, 1]
abbrev ref8_Frame_r1 : NC := .reg
    (.x 0 (.bsl 5 0 [] []) [] none []
    (.x 2 (.app 5 1 1 [(.int .u8 0)]) [(.res 0), (.slot 0)] none []
    (.out [(1, (.slot 1)), (5, (.res 2))])))
    [0, 1]
abbrev ref8_Frame_r2 : NC := .reg
    (.q 1 .len [(.slot 1)] none
    (.q 2 (.icm .eql) [(.res 1), (.const (.int .i64 0))] none
    (.q 4 .mv [(.slot 1)] (some ((.res 2), false))
    (.q 5 .len [(.res 4)] (some ((.res 2), false))
    (.q 6 (.icm .gtr) [(.res 5), (.const (.int .i64 16384))] (some ((.res 2), false))
    (.q 7 .pick [(.res 2), (.const (.bool true)), (.res 6)] none
    (.out [(1, (.slot 1)), (5, (.slot 5)), (17, (.res 7))])))))))
    [1, 5]
abbrev ref8_Frame_r3 : NC := .reg
    (.out [(4, (.slot 5))])
    [5]
abbrev ref8_Frame_r4 : NC := .reg
    (.q 1 .len [(.slot 1)] none
    (.q 2 (.conv .u64) [(.res 1)] none
    (.x 3 (.call 32) [(.const (.slice none 0 0)), (.const (.int .i64 2)), (.res 2)] none []
    (.out [(1, (.slot 1)), (5, (.slot 5)), (6, (.res 3))]))))
    [1, 5]
abbrev ref8_Frame_r5 : NC := .reg
    (.x 2 (.app 5 1 1 [(.int .u8 0)]) [(.slot 5), (.slot 6)] none []
    (.x 4 (.app 5 1 1 [(.int .u8 0)]) [(.res 2), (.slot 1)] none []
    (.out [(1, (.slot 1)), (5, (.res 4)), (6, (.slot 6))])))
    [1, 5, 6]
abbrev ref8_Frame_r6 : NC := .reg
    (.x 2 (.call 33) [(.const (.int .u32 0)), (.slot 6)] none []
    (.x 4 (.call 33) [(.res 2), (.slot 1)] none []
    (.q 5 (.conv .u64) [(.res 4)] none
    (.x 6 (.call 32) [(.slot 5), (.const (.int .i64 4)), (.res 5)] none []
    (.out [(4, (.res 6))])))))
    [1, 5, 6]
abbrev ref8_Frame_c : NC :=
  (.seq ref8_Frame_r0
  (.seq ref8_Frame_r1
  (.seq (.seq ref8_Frame_r2
  (.cond (.slot 17)
    (.seq ref8_Frame_r3
    .ret)
    .skip))
  (.seq ref8_Frame_r4
  (.seq ref8_Frame_r5
  (.seq ref8_Frame_r6
  .ret))))))
abbrev ref8_Frame_F : FN := ⟨ref8_Frame_c, [.slot 4]⟩
theorem ref8_Frame_ok : compF Tryz.prog Tryz.f11 = some ref8_Frame_F := by kernel_rfl
theorem ref8_Frame_go {args : List Value} {m : Mem} {R : Value → Mem → Prop} (hn : args.length ≤ Tryz.f11.ntmps) (h : wpN Tryz.prog ref8_Frame_c (retP ref8_Frame_F.rvs R) (zipP 0 args) m) : MC Tryz.prog 11 args m R := MC_start Tryz.func11 ref8_Frame_ok mixed_ok hn h
/-! concord/concordref1.Num -/
abbrev ref1_Num_r0 : NC := .reg
    (.out [(0, (.slot 0)), (1, (.slot 1))])
    [0, 1]
abbrev ref1_Num_r1 : NC := .reg
    (.x 0 (.bsl 5 0 [] []) [] none []
    (.x 2 (.app 5 1 1 [(.int .u8 0)]) [(.res 0), (.slot 0)] none []
    (.out [(1, (.slot 1)), (5, (.res 2))])))
    [0, 1]
abbrev ref1_Num_r2 : NC := .reg
    (.x 1 (.call 34) [(.slot 1)] none []
    (.out [(5, (.slot 5)), (6, (.res 1))]))
    [1, 5]
abbrev ref1_Num_r3 : NC := .reg
    (.q 1 (.icm .geq) [(.slot 6), (.const (.int .u64 128))] none
    (.out [(5, (.slot 5)), (6, (.slot 6)), (13, (.res 1))]))
    [5, 6]
abbrev ref1_Num_r4 : NC := .reg
    (.q 2 (.ibt .and) [(.slot 6), (.const (.int .u64 127))] none
    (.q 3 (.conv .u8) [(.res 2)] none
    (.q 4 (.ibt .or) [(.res 3), (.const (.int .u8 128))] none
    (.x 5 (.bsl 5 1 [(.int .u8 0)] [(0, 1)]) [(.res 4)] none []
    (.x 6 (.app 5 1 1 [(.int .u8 0)]) [(.slot 5), (.res 5)] none []
    (.out [(5, (.res 6)), (6, (.slot 6))]))))))
    [5, 6]
abbrev ref1_Num_r5 : NC := .reg
    (.q 1 (.ish .shr) [(.slot 6), (.const (.int .u64 7))] none
    (.out [(5, (.slot 5)), (6, (.res 1))]))
    [5, 6]
abbrev ref1_Num_l0 : NC :=
  (.seq (.seq ref1_Num_r3
  (.cond (.slot 13)
    .skip
    (.exit 0)))
  (.block 1 (.seq ref1_Num_r4
  ref1_Num_r5)))
abbrev ref1_Num_r6 : NC := .reg
    (.q 2 (.conv .u8) [(.slot 6)] none
    (.x 3 (.bsl 5 1 [(.int .u8 0)] [(0, 1)]) [(.res 2)] none []
    (.x 4 (.app 5 1 1 [(.int .u8 0)]) [(.slot 5), (.res 3)] none []
    (.out [(4, (.res 4))]))))
    [5, 6]
abbrev ref1_Num_c : NC :=
  (.seq ref1_Num_r0
  (.seq ref1_Num_r1
  (.seq ref1_Num_r2
  (.seq (.block 0 (.loop [5, 6] ref1_Num_l0))
  (.seq ref1_Num_r6
  .ret)))))
abbrev ref1_Num_F : FN := ⟨ref1_Num_c, [.slot 4]⟩
theorem ref1_Num_ok : compF Tryz.prog Tryz.f12 = some ref1_Num_F := by kernel_rfl
theorem ref1_Num_go {args : List Value} {m : Mem} {R : Value → Mem → Prop} (hn : args.length ≤ Tryz.f12.ntmps) (h : wpN Tryz.prog ref1_Num_c (retP ref1_Num_F.rvs R) (zipP 0 args) m) : MC Tryz.prog 12 args m R := MC_start Tryz.func12 ref1_Num_ok mixed_ok hn h
/-! (*concord/concordref8.Disk).Append -/
abbrev ref8_Disk_Append_r0 : NC := .reg
    (.out [(0, (.slot 0)), (1, (.slot 1)), (2, (.slot 2))])
    [0, 1, 2]
abbrev ref8_Disk_Append_r1 : NC := .reg
    (.q 1 .nilck [(.slot 0)] none
    (.q 2 (.fld 3) [(.res 1)] none
    (.q 3 .ld [(.res 2)] none
    (.out [(0, (.slot 0)), (1, (.slot 1)), (2, (.slot 2)), (8, (.res 3))]))))
    [0, 1, 2]
abbrev ref8_Disk_Append_r2 : NC := .reg
    (.out [(6, (.const (.int .i64 10)))])
    []
abbrev ref8_Disk_Append_r3 : NC := .reg
    (.x 1 (.call 41) [(.slot 1)] none []
    (.q 2 .not [(.res 1)] none
    (.out [(0, (.slot 0)), (1, (.slot 1)), (2, (.slot 2)), (13, (.res 2))])))
    [0, 1, 2]
abbrev ref8_Disk_Append_r4 : NC := .reg
    (.out [(6, (.const (.int .i64 11)))])
    []
abbrev ref8_Disk_Append_r5 : NC := .reg
    (.q 3 .len [(.slot 2)] none
    (.q 6 .nilck [(.slot 0)] none
    (.q 7 (.fld 1) [(.res 6)] none
    (.q 8 .ld [(.res 7)] none
    (.x 1 (.call 42) [(.slot 0)] none [(8, .ld, [(.res 7)], none)]
    (.q 4 (.iar .add) [(.res 1), (.res 3)] none
    (.q 9 (.icm .gtr) [(.res 4), (.res 8)] none
    (.out [(0, (.slot 0)), (1, (.slot 1)), (2, (.slot 2)), (17, (.res 9))]))))))))
    [0, 1, 2]
abbrev ref8_Disk_Append_r6 : NC := .reg
    (.out [(6, (.const (.int .i64 7)))])
    []
abbrev ref8_Disk_Append_r7 : NC := .reg
    (.x 1 (.call 43) [(.slot 0)] none []
    (.q 2 .not [(.res 1)] none
    (.out [(0, (.slot 0)), (1, (.slot 1)), (2, (.slot 2)), (28, (.res 2))])))
    [0, 1, 2]
abbrev ref8_Disk_Append_r8 : NC := .reg
    (.out [(6, (.const (.int .i64 10)))])
    []
abbrev ref8_Disk_Append_r9 : NC := .reg
    (.x 2 (.call 44) [(.slot 0), (.slot 1)] none []
    (.out [(0, (.slot 0)), (2, (.slot 2)), (7, (.res 2))]))
    [0, 1, 2]
abbrev ref8_Disk_Append_r10 : NC := .reg
    (.q 1 .nilck [(.slot 0)] none
    (.q 2 (.fld 0) [(.res 1)] none
    (.q 3 .ld [(.res 2)] none
    (.q 7 .nilck [(.slot 0)] none
    (.q 8 (.fld 0) [(.res 7)] none
    (.q 9 .ld [(.res 8)] none
    (.q 11 (.ixs 3) [(.res 9), (.slot 7)] none
    (.q 12 (.fld 1) [(.res 11)] none
    (.q 13 .ld [(.res 12)] none
    (.x 5 (.bsl 5 0 [] []) [] none [(3, .ld, [(.res 2)], none), (9, .ld, [(.res 8)], none), (13, .ld, [(.res 12)], none)]
    (.x 14 (.app 5 1 1 [(.int .u8 0)]) [(.res 5), (.res 13)] none [(3, .ld, [(.res 2)], none)]
    (.x 16 (.app 5 1 1 [(.int .u8 0)]) [(.res 14), (.slot 2)] none [(3, .ld, [(.res 2)], none)]
    (.q 17 (.ixs 3) [(.res 3), (.slot 7)] none
    (.q 18 (.fld 1) [(.res 17)] none
    (.x 19 (.st 1) [(.res 18), (.res 16)] none []
    (.out []))))))))))))))))
    [0, 2, 7]
abbrev ref8_Disk_Append_r11 : NC := .reg
    (.out [(6, (.const (.int .i64 0)))])
    []
abbrev ref8_Disk_Append_c : NC :=
  (.seq ref8_Disk_Append_r0
  (.seq (.block 0 (.seq ref8_Disk_Append_r1
  (.cond (.slot 8)
    (.seq ref8_Disk_Append_r2
    .ret)
    (.seq ref8_Disk_Append_r3
    (.cond (.slot 13)
      (.seq ref8_Disk_Append_r4
      .ret)
      (.seq ref8_Disk_Append_r5
      (.cond (.slot 17)
        (.seq ref8_Disk_Append_r6
        .ret)
        (.seq ref8_Disk_Append_r7
        (.cond (.slot 28)
          (.seq ref8_Disk_Append_r8
          .ret)
          .skip)))))))))
  (.seq ref8_Disk_Append_r9
  (.seq ref8_Disk_Append_r10
  (.seq ref8_Disk_Append_r11
  .ret)))))
abbrev ref8_Disk_Append_F : FN := ⟨ref8_Disk_Append_c, [.slot 6]⟩
theorem ref8_Disk_Append_ok : compF Tryz.prog Tryz.f14 = some ref8_Disk_Append_F := by kernel_rfl
theorem ref8_Disk_Append_go {args : List Value} {m : Mem} {R : Value → Mem → Prop} (hn : args.length ≤ Tryz.f14.ntmps) (h : wpN Tryz.prog ref8_Disk_Append_c (retP ref8_Disk_Append_F.rvs R) (zipP 0 args) m) : MC Tryz.prog 14 args m R := MC_start Tryz.func14 ref8_Disk_Append_ok mixed_ok hn h
/-! concord/concordref8.Open -/
abbrev ref8_Open_r0 : NC := .reg
    (.out [(0, (.slot 0))])
    [0]
abbrev ref8_Open_r1 : NC := .reg
    (.q 1 (.bld [(.pointer none), (.int .i64 0), (.int .i64 0), (.bool false)] [(0, 1)]) [(.slot 0)] none
    (.x 2 (.box 65) [(.res 1)] none []
    (.out [(0, (.slot 0)), (5, (.res 2))])))
    [0]
abbrev ref8_Open_r2 : NC := .reg
    (.x 1 (.call 51) [(.slot 0)] none []
    (.out [(0, (.slot 0)), (5, (.slot 5)), (6, (.res 1))]))
    [0, 5]
abbrev ref8_Open_r3 : NC := .reg
    (.out [(0, (.slot 0)), (5, (.slot 5)), (6, (.slot 6)), (7, (.const (.slice none 0 0)))])
    [0, 5, 6]
abbrev ref8_Open_r4 : NC := .reg
    (.out [(0, (.slot 0)), (5, (.slot 5)), (6, (.slot 6)), (7, (.slot 7)), (8, (.const (.int .i64 (-1))))])
    [0, 5, 6, 7]
abbrev ref8_Open_r5 : NC := .reg
    (.out [(0, (.slot 0)), (5, (.slot 5)), (6, (.slot 6)), (7, (.slot 7)), (8, (.slot 8)), (9, (.const (.int .i64 0)))])
    [0, 5, 6, 7, 8]
abbrev ref8_Open_r6 : NC := .reg
    (.q 2 .len [(.slot 6)] none
    (.q 3 (.icm .lss) [(.slot 9), (.res 2)] none
    (.out [(0, (.slot 0)), (5, (.slot 5)), (6, (.slot 6)), (7, (.slot 7)), (8, (.slot 8)), (9, (.slot 9)), (32, (.res 3))])))
    [0, 5, 6, 7, 8, 9]
abbrev ref8_Open_r7 : NC := .reg
    (.q 2 (.ixs 1) [(.slot 6), (.slot 9)] none
    (.q 3 .ld [(.res 2)] none
    (.x 4 (.call 52) [(.res 3)] none []
    (.q 6 (.ext 0) [(.res 4)] none
    (.q 7 (.ext 1) [(.res 4)] none
    (.q 8 (.ext 2) [(.res 4)] none
    (.out [(0, (.slot 0)), (5, (.slot 5)), (6, (.slot 6)), (7, (.slot 7)), (8, (.slot 8)), (9, (.slot 9)), (10, (.res 6)), (11, (.res 7)), (12, (.res 8))])))))))
    [0, 5, 6, 7, 8, 9]
abbrev ref8_Open_r8 : NC := .reg
    (.q 1 .not [(.slot 12)] none
    (.q 3 .mv [(.slot 11)] (some ((.res 1), false))
    (.q 4 (.icm .neq) [(.res 3), (.const (.int .i64 1))] (some ((.res 1), false))
    (.q 5 .pick [(.res 1), (.const (.bool true)), (.res 4)] none
    (.q 7 .mv [(.slot 10)] (some ((.res 5), false))
    (.q 8 .mv [(.slot 5)] (some ((.res 5), false))
    (.q 9 .nilck [(.res 8)] (some ((.res 5), false))
    (.q 10 (.fld 1) [(.res 9)] (some ((.res 5), false))
    (.q 11 .ld [(.res 10)] (some ((.res 5), false))
    (.q 12 (.icm .leq) [(.res 7), (.res 11)] (some ((.res 5), false))
    (.q 13 .pick [(.res 5), (.const (.bool true)), (.res 12)] none
    (.out [(0, (.slot 0)), (5, (.slot 5)), (6, (.slot 6)), (7, (.slot 7)), (8, (.slot 8)), (9, (.slot 9)), (10, (.slot 10)), (57, (.res 13))]))))))))))))
    [0, 5, 6, 7, 8, 9, 10, 11, 12]
abbrev ref8_Open_r9 : NC := .reg
    (.x 2 (.call 53) [(.slot 0), (.slot 10)] none []
    (.q 4 (.ext 0) [(.res 2)] none
    (.q 5 (.ext 1) [(.res 2)] none
    (.q 6 (.ext 2) [(.res 2)] none
    (.q 7 (.ext 3) [(.res 2)] none
    (.out [(0, (.slot 0)), (5, (.slot 5)), (6, (.slot 6)), (7, (.slot 7)), (8, (.slot 8)), (9, (.slot 9)), (10, (.slot 10)), (13, (.res 4)), (14, (.res 5)), (15, (.res 6)), (16, (.res 7))]))))))
    [0, 5, 6, 7, 8, 9, 10]
abbrev ref8_Open_r10 : NC := .reg
    (.out [(0, (.slot 0)), (5, (.slot 5)), (6, (.slot 6)), (7, (.slot 7)), (8, (.slot 8)), (9, (.slot 9)), (10, (.slot 10)), (13, (.slot 13)), (14, (.slot 14)), (15, (.slot 15)), (66, (.slot 16))])
    [0, 5, 6, 7, 8, 9, 10, 13, 14, 15, 16]
abbrev ref8_Open_r11 : NC := .reg
    (.q 6 .nilck [(.slot 5)] none
    (.q 7 (.fld 1) [(.res 6)] none
    (.x 8 (.st 1) [(.res 7), (.slot 10)] none []
    (.q 9 .nilck [(.slot 5)] none
    (.q 10 (.fld 2) [(.res 9)] none
    (.x 11 (.st 1) [(.res 10), (.slot 14)] none []
    (.out [(0, (.slot 0)), (5, (.slot 5)), (6, (.slot 6)), (7, (.slot 13)), (8, (.slot 15)), (9, (.slot 9))])))))))
    [0, 5, 6, 9, 10, 13, 14, 15]
abbrev ref8_Open_r12 : NC := .reg
    (.q 1 (.iar .add) [(.slot 9), (.const (.int .i64 1))] none
    (.out [(0, (.slot 0)), (5, (.slot 5)), (6, (.slot 6)), (7, (.slot 7)), (8, (.slot 8)), (9, (.res 1))]))
    [0, 5, 6, 7, 8, 9]
abbrev ref8_Open_l0 : NC :=
  (.seq (.seq ref8_Open_r6
  (.cond (.slot 32)
    .skip
    (.exit 0)))
  (.seq (.block 1 (.seq ref8_Open_r7
  (.seq (.seq ref8_Open_r8
  (.cond (.slot 57)
    (.exit 1)
    .skip))
  (.seq ref8_Open_r9
  (.seq ref8_Open_r10
  (.cond (.slot 66)
    ref8_Open_r11
    .skip))))))
  ref8_Open_r12))
abbrev ref8_Open_r13 : NC := .reg
    (.q 1 (.icm .geq) [(.slot 8), (.const (.int .i64 0))] none
    (.out [(0, (.slot 0)), (5, (.slot 5)), (6, (.slot 6)), (7, (.slot 7)), (8, (.slot 8)), (78, (.res 1))]))
    [0, 5, 6, 7, 8]
abbrev ref8_Open_r14 : NC := .reg
    (.q 2 .nilck [(.slot 5)] none
    (.q 3 (.fld 1) [(.res 2)] none
    (.q 4 .ld [(.res 3)] none
    (.q 6 .nilck [(.slot 5)] none
    (.q 7 (.fld 2) [(.res 6)] none
    (.q 8 .ld [(.res 7)] none
    (.x 9 (.call 21) [(.res 4), (.res 8)] none []
    (.x 11 (.call 54) [(.slot 0), (.res 9), (.slot 8)] none []
    (.out [(0, (.slot 0)), (5, (.slot 5)), (6, (.slot 6)), (7, (.slot 7)), (17, (.res 11))])))))))))
    [0, 5, 6, 7, 8]
abbrev ref8_Open_r15 : NC := .reg
    (.q 1 (.icm .neq) [(.slot 17), (.const (.int .i64 0))] none
    (.out [(0, (.slot 0)), (5, (.slot 5)), (6, (.slot 6)), (7, (.slot 7)), (17, (.slot 17)), (92, (.res 1))]))
    [0, 5, 6, 7, 17]
abbrev ref8_Open_r16 : NC := .reg
    (.out [(2, (.const (.pointer none))), (3, (.const (.slice none 0 0))), (4, (.slot 17))])
    [17]
abbrev ref8_Open_r17 : NC := .reg
    (.out [(0, (.slot 0)), (5, (.slot 5)), (6, (.slot 6)), (7, (.slot 7)), (18, (.const (.int .i64 0)))])
    [0, 5, 6, 7]
abbrev ref8_Open_r18 : NC := .reg
    (.q 2 .len [(.slot 6)] none
    (.q 3 (.icm .lss) [(.slot 18), (.res 2)] none
    (.out [(0, (.slot 0)), (5, (.slot 5)), (6, (.slot 6)), (7, (.slot 7)), (18, (.slot 18)), (97, (.res 3))])))
    [0, 5, 6, 7, 18]
abbrev ref8_Open_r19 : NC := .reg
    (.q 2 (.ixs 1) [(.slot 6), (.slot 18)] none
    (.q 3 .ld [(.res 2)] none
    (.x 4 (.call 52) [(.res 3)] none []
    (.q 6 (.ext 0) [(.res 4)] none
    (.q 7 (.ext 1) [(.res 4)] none
    (.q 8 (.ext 2) [(.res 4)] none
    (.out [(0, (.slot 0)), (5, (.slot 5)), (6, (.slot 6)), (7, (.slot 7)), (18, (.slot 18)), (19, (.res 6)), (20, (.res 7)), (21, (.res 8))])))))))
    [0, 5, 6, 7, 18]
abbrev ref8_Open_r20 : NC := .reg
    (.q 2 .mv [(.slot 19)] (some ((.slot 21), true))
    (.q 3 .mv [(.slot 5)] (some ((.slot 21), true))
    (.q 4 .nilck [(.res 3)] (some ((.slot 21), true))
    (.q 5 (.fld 1) [(.res 4)] (some ((.slot 21), true))
    (.q 6 .ld [(.res 5)] (some ((.slot 21), true))
    (.q 7 (.icm .neq) [(.res 2), (.res 6)] (some ((.slot 21), true))
    (.q 8 .mv [(.res 7)] (some ((.slot 21), true))
    (.q 9 .mv [(.slot 20)] (some ((.res 8), false))
    (.q 10 .mv [(.slot 5)] (some ((.res 8), false))
    (.q 11 .nilck [(.res 10)] (some ((.res 8), false))
    (.q 12 (.fld 2) [(.res 11)] (some ((.res 8), false))
    (.q 13 .ld [(.res 12)] (some ((.res 8), false))
    (.q 14 (.icm .gtr) [(.res 9), (.res 13)] (some ((.res 8), false))
    (.q 15 .pick [(.res 8), (.const (.bool true)), (.res 14)] (some ((.slot 21), true))
    (.q 16 .pick [(.slot 21), (.res 15), (.const (.bool false))] none
    (.out [(0, (.slot 0)), (5, (.slot 5)), (6, (.slot 6)), (7, (.slot 7)), (18, (.slot 18)), (125, (.res 16))]))))))))))))))))
    [0, 5, 6, 7, 18, 19, 20, 21]
abbrev ref8_Open_r21 : NC := .reg
    (.q 3 (.ixs 1) [(.slot 6), (.slot 18)] none
    (.q 4 .ld [(.res 3)] none
    (.x 5 (.call 55) [(.slot 0), (.res 4)] none []
    (.out [(0, (.slot 0)), (5, (.slot 5)), (6, (.slot 6)), (7, (.slot 7)), (18, (.slot 18)), (22, (.res 5))]))))
    [0, 5, 6, 7, 18]
abbrev ref8_Open_r22 : NC := .reg
    (.q 1 (.icm .neq) [(.slot 22), (.const (.int .i64 0))] none
    (.out [(0, (.slot 0)), (5, (.slot 5)), (6, (.slot 6)), (7, (.slot 7)), (18, (.slot 18)), (22, (.slot 22)), (133, (.res 1))]))
    [0, 5, 6, 7, 18, 22]
abbrev ref8_Open_r23 : NC := .reg
    (.out [(2, (.const (.pointer none))), (3, (.const (.slice none 0 0))), (4, (.slot 22))])
    [22]
abbrev ref8_Open_r24 : NC := .reg
    (.q 1 (.iar .add) [(.slot 18), (.const (.int .i64 1))] none
    (.out [(0, (.slot 0)), (5, (.slot 5)), (6, (.slot 6)), (7, (.slot 7)), (18, (.res 1))]))
    [0, 5, 6, 7, 18]
abbrev ref8_Open_l1 : NC :=
  (.seq (.seq ref8_Open_r18
  (.cond (.slot 97)
    .skip
    (.exit 2)))
  (.seq (.block 3 (.seq ref8_Open_r19
  (.seq ref8_Open_r20
  (.cond (.slot 125)
    (.seq ref8_Open_r21
    (.seq ref8_Open_r22
    (.cond (.slot 133)
      (.seq ref8_Open_r23
      .ret)
      .skip)))
    .skip))))
  ref8_Open_r24))
abbrev ref8_Open_r25 : NC := .reg
    (.q 1 .nilck [(.slot 5)] none
    (.q 2 (.fld 1) [(.res 1)] none
    (.q 3 .ld [(.res 2)] none
    (.q 4 (.icm .gtr) [(.res 3), (.const (.int .i64 0))] none
    (.out [(0, (.slot 0)), (5, (.slot 5)), (7, (.slot 7)), (139, (.res 4))])))))
    [0, 5, 7]
abbrev ref8_Open_r26 : NC := .reg
    (.q 2 .nilck [(.slot 5)] none
    (.q 3 (.fld 1) [(.res 2)] none
    (.q 4 .ld [(.res 3)] none
    (.q 6 .nilck [(.slot 5)] none
    (.q 7 (.fld 2) [(.res 6)] none
    (.q 8 .ld [(.res 7)] none
    (.x 9 (.call 21) [(.res 4), (.res 8)] none []
    (.x 10 (.call 56) [(.slot 0), (.res 9)] none []
    (.out [(5, (.slot 5)), (7, (.slot 7)), (23, (.res 10))])))))))))
    [0, 5, 7]
abbrev ref8_Open_r27 : NC := .reg
    (.q 1 (.icm .neq) [(.slot 23), (.const (.int .i64 0))] none
    (.out [(5, (.slot 5)), (7, (.slot 7)), (23, (.slot 23)), (152, (.res 1))]))
    [5, 7, 23]
abbrev ref8_Open_r28 : NC := .reg
    (.out [(2, (.const (.pointer none))), (3, (.const (.slice none 0 0))), (4, (.slot 23))])
    [23]
abbrev ref8_Open_r29 : NC := .reg
    (.out [(2, (.slot 5)), (3, (.slot 7)), (4, (.const (.int .i64 0)))])
    [5, 7]
abbrev ref8_Open_c : NC :=
  (.seq ref8_Open_r0
  (.seq ref8_Open_r1
  (.seq ref8_Open_r2
  (.seq ref8_Open_r3
  (.seq ref8_Open_r4
  (.seq (.seq ref8_Open_r5
  (.block 0 (.loop [0, 5, 6, 7, 8, 9] ref8_Open_l0)))
  (.seq (.seq ref8_Open_r13
  (.cond (.slot 78)
    (.seq ref8_Open_r14
    (.seq ref8_Open_r15
    (.cond (.slot 92)
      (.seq ref8_Open_r16
      .ret)
      .skip)))
    .skip))
  (.seq (.seq ref8_Open_r17
  (.block 2 (.loop [0, 5, 6, 7, 18] ref8_Open_l1)))
  (.seq (.seq ref8_Open_r25
  (.cond (.slot 139)
    (.seq ref8_Open_r26
    (.seq ref8_Open_r27
    (.cond (.slot 152)
      (.seq ref8_Open_r28
      .ret)
      .skip)))
    .skip))
  (.seq ref8_Open_r29
  .ret))))))))))
abbrev ref8_Open_F : FN := ⟨ref8_Open_c, [.slot 2, .slot 3, .slot 4]⟩
theorem ref8_Open_ok : compF Tryz.prog Tryz.f16 = some ref8_Open_F := by kernel_rfl
theorem ref8_Open_go {args : List Value} {m : Mem} {R : Value → Mem → Prop} (hn : args.length ≤ Tryz.f16.ntmps) (h : wpN Tryz.prog ref8_Open_c (retP ref8_Open_F.rvs R) (zipP 0 args) m) : MC Tryz.prog 16 args m R := MC_start Tryz.func16 ref8_Open_ok mixed_ok hn h
/-! concord/concordref8.Segment -/
abbrev ref8_Segment_r0 : NC := .reg
    (.out [(0, (.slot 0)), (1, (.slot 1))])
    [0, 1]
abbrev ref8_Segment_r1 : NC := .reg
    (.x 1 (.call 66) [(.slot 0)] none []
    (.q 2 (.str .add) [(.const (.string ⟨#[108, 111, 103, 46]⟩)), (.res 1)] none
    (.q 3 (.str .add) [(.res 2), (.const (.string ⟨#[46]⟩))] none
    (.x 5 (.call 66) [(.slot 1)] none []
    (.q 6 (.str .add) [(.res 3), (.res 5)] none
    (.out [(4, (.res 6))]))))))
    [0, 1]
abbrev ref8_Segment_c : NC :=
  (.seq ref8_Segment_r0
  (.seq ref8_Segment_r1
  .ret))
abbrev ref8_Segment_F : FN := ⟨ref8_Segment_c, [.slot 4]⟩
theorem ref8_Segment_ok : compF Tryz.prog Tryz.f21 = some ref8_Segment_F := by kernel_rfl
theorem ref8_Segment_go {args : List Value} {m : Mem} {R : Value → Mem → Prop} (hn : args.length ≤ Tryz.f21.ntmps) (h : wpN Tryz.prog ref8_Segment_c (retP ref8_Segment_F.rvs R) (zipP 0 args) m) : MC Tryz.prog 21 args m R := MC_start Tryz.func21 ref8_Segment_ok mixed_ok hn h
/-! (*concord/concordref8.Wal).Add -/
/-! (*concord/concordref8.Wal).Anew -/
/-! (*concord/concordref8.Disk).Arm -/
/-! (*concord/concordref8.Disk).Crash -/
/-! concord/concordref1.Put -/
abbrev ref1_Put_r0 : NC := .reg
    (.out [(0, (.slot 0)), (1, (.slot 1)), (2, (.slot 2))])
    [0, 1, 2]
abbrev ref1_Put_r1 : NC := .reg
    (.x 0 (.bsl 5 0 [] []) [] none []
    (.x 2 (.app 5 1 1 [(.int .u8 0)]) [(.res 0), (.slot 0)] none []
    (.out [(1, (.slot 1)), (2, (.slot 2)), (7, (.res 2))])))
    [0, 1, 2]
abbrev ref1_Put_r2 : NC := .reg
    (.out [(1, (.slot 1)), (2, (.slot 2)), (7, (.slot 7)), (8, (.const (.int .i64 0)))])
    [1, 2, 7]
abbrev ref1_Put_r3 : NC := .reg
    (.q 2 (.icm .lss) [(.slot 8), (.slot 1)] none
    (.q 4 .mv [(.slot 8)] (some ((.res 2), true))
    (.q 5 (.icm .lss) [(.res 4), (.const (.int .i64 8))] (some ((.res 2), true))
    (.q 6 .pick [(.res 2), (.res 5), (.const (.bool false))] none
    (.out [(1, (.slot 1)), (2, (.slot 2)), (7, (.slot 7)), (8, (.slot 8)), (18, (.res 6))])))))
    [1, 2, 7, 8]
abbrev ref1_Put_r4 : NC := .reg
    (.q 3 (.iar .mul) [(.const (.int .i64 8)), (.slot 8)] none
    (.q 4 (.ish .shr) [(.slot 2), (.res 3)] none
    (.q 5 (.conv .u8) [(.res 4)] none
    (.x 6 (.bsl 5 1 [(.int .u8 0)] [(0, 1)]) [(.res 5)] none []
    (.x 7 (.app 5 1 1 [(.int .u8 0)]) [(.slot 7), (.res 6)] none []
    (.out [(1, (.slot 1)), (2, (.slot 2)), (7, (.res 7)), (8, (.slot 8))]))))))
    [1, 2, 7, 8]
abbrev ref1_Put_r5 : NC := .reg
    (.q 1 (.iar .add) [(.slot 8), (.const (.int .i64 1))] none
    (.out [(1, (.slot 1)), (2, (.slot 2)), (7, (.slot 7)), (8, (.res 1))]))
    [1, 2, 7, 8]
abbrev ref1_Put_l0 : NC :=
  (.seq (.seq ref1_Put_r3
  (.cond (.slot 18)
    .skip
    (.exit 0)))
  (.seq (.block 1 ref1_Put_r4)
  ref1_Put_r5))
abbrev ref1_Put_r6 : NC := .reg
    (.out [(6, (.slot 7))])
    [7]
abbrev ref1_Put_c : NC :=
  (.seq ref1_Put_r0
  (.seq ref1_Put_r1
  (.seq (.seq ref1_Put_r2
  (.block 0 (.loop [1, 2, 7, 8] ref1_Put_l0)))
  (.seq ref1_Put_r6
  .ret))))
abbrev ref1_Put_F : FN := ⟨ref1_Put_c, [.slot 6]⟩
theorem ref1_Put_ok : compF Tryz.prog Tryz.f32 = some ref1_Put_F := by kernel_rfl
theorem ref1_Put_go {args : List Value} {m : Mem} {R : Value → Mem → Prop} (hn : args.length ≤ Tryz.f32.ntmps) (h : wpN Tryz.prog ref1_Put_c (retP ref1_Put_F.rvs R) (zipP 0 args) m) : MC Tryz.prog 32 args m R := MC_start Tryz.func32 ref1_Put_ok mixed_ok hn h
/-! concord/concordref1.On -/
abbrev ref1_On_r0 : NC := .reg
    (.out [(0, (.slot 0)), (1, (.slot 1))])
    [0, 1]
abbrev ref1_On_r1 : NC := .reg
    (.q 1 .cpl [(.slot 0)] none
    (.out [(0, (.res 1)), (1, (.slot 1))]))
    [0, 1]
abbrev ref1_On_r2 : NC := .reg
    (.out [(0, (.slot 0)), (1, (.slot 1)), (5, (.const (.int .i64 0)))])
    [0, 1]
abbrev ref1_On_r3 : NC := .reg
    (.q 2 .len [(.slot 1)] none
    (.q 3 (.icm .lss) [(.slot 5), (.res 2)] none
    (.out [(0, (.slot 0)), (1, (.slot 1)), (5, (.slot 5)), (13, (.res 3))])))
    [0, 1, 5]
abbrev ref1_On_r4 : NC := .reg
    (.q 3 (.ixs 1) [(.slot 1), (.slot 5)] none
    (.q 4 .ld [(.res 3)] none
    (.q 5 (.conv .u32) [(.res 4)] none
    (.q 6 (.ibt .xor) [(.slot 0), (.res 5)] none
    (.out [(0, (.res 6)), (1, (.slot 1)), (5, (.slot 5))])))))
    [0, 1, 5]
abbrev ref1_On_r5 : NC := .reg
    (.out [(0, (.slot 0)), (1, (.slot 1)), (5, (.slot 5)), (6, (.const (.int .i64 0)))])
    [0, 1, 5]
abbrev ref1_On_r6 : NC := .reg
    (.q 1 (.icm .lss) [(.slot 6), (.const (.int .i64 8))] none
    (.out [(0, (.slot 0)), (1, (.slot 1)), (5, (.slot 5)), (6, (.slot 6)), (24, (.res 1))]))
    [0, 1, 5, 6]
abbrev ref1_On_r7 : NC := .reg
    (.q 1 (.ibt .and) [(.slot 0), (.const (.int .u32 1))] none
    (.out [(0, (.slot 0)), (1, (.slot 1)), (5, (.slot 5)), (6, (.slot 6)), (7, (.res 1))]))
    [0, 1, 5, 6]
abbrev ref1_On_r8 : NC := .reg
    (.q 1 (.ish .shr) [(.slot 0), (.const (.int .u64 1))] none
    (.out [(0, (.res 1)), (1, (.slot 1)), (5, (.slot 5)), (6, (.slot 6)), (7, (.slot 7))]))
    [0, 1, 5, 6, 7]
abbrev ref1_On_r9 : NC := .reg
    (.q 1 (.icm .eql) [(.slot 7), (.const (.int .u32 1))] none
    (.out [(0, (.slot 0)), (1, (.slot 1)), (5, (.slot 5)), (6, (.slot 6)), (32, (.res 1))]))
    [0, 1, 5, 6, 7]
abbrev ref1_On_r10 : NC := .reg
    (.q 1 (.ibt .xor) [(.slot 0), (.const (.int .u32 3988292384))] none
    (.out [(0, (.res 1)), (1, (.slot 1)), (5, (.slot 5)), (6, (.slot 6))]))
    [0, 1, 5, 6]
abbrev ref1_On_r11 : NC := .reg
    (.q 1 (.iar .add) [(.slot 6), (.const (.int .i64 1))] none
    (.out [(0, (.slot 0)), (1, (.slot 1)), (5, (.slot 5)), (6, (.res 1))]))
    [0, 1, 5, 6]
abbrev ref1_On_l0 : NC :=
  (.seq (.seq ref1_On_r6
  (.cond (.slot 24)
    .skip
    (.exit 2)))
  (.seq (.block 3 (.seq ref1_On_r7
  (.seq ref1_On_r8
  (.seq ref1_On_r9
  (.cond (.slot 32)
    ref1_On_r10
    .skip)))))
  ref1_On_r11))
abbrev ref1_On_r12 : NC := .reg
    (.q 1 (.iar .add) [(.slot 5), (.const (.int .i64 1))] none
    (.out [(0, (.slot 0)), (1, (.slot 1)), (5, (.res 1))]))
    [0, 1, 5]
abbrev ref1_On_l1 : NC :=
  (.seq (.seq ref1_On_r3
  (.cond (.slot 13)
    .skip
    (.exit 0)))
  (.seq (.block 1 (.seq ref1_On_r4
  (.seq ref1_On_r5
  (.block 2 (.loop [0, 1, 5, 6] ref1_On_l0)))))
  ref1_On_r12))
abbrev ref1_On_r13 : NC := .reg
    (.q 1 .cpl [(.slot 0)] none
    (.out [(4, (.res 1))]))
    [0]
abbrev ref1_On_c : NC :=
  (.seq ref1_On_r0
  (.seq ref1_On_r1
  (.seq (.seq ref1_On_r2
  (.block 0 (.loop [0, 1, 5] ref1_On_l1)))
  (.seq ref1_On_r13
  .ret))))
abbrev ref1_On_F : FN := ⟨ref1_On_c, [.slot 4]⟩
theorem ref1_On_ok : compF Tryz.prog Tryz.f33 = some ref1_On_F := by kernel_rfl
theorem ref1_On_go {args : List Value} {m : Mem} {R : Value → Mem → Prop} (hn : args.length ≤ Tryz.f33.ntmps) (h : wpN Tryz.prog ref1_On_c (retP ref1_On_F.rvs R) (zipP 0 args) m) : MC Tryz.prog 33 args m R := MC_start Tryz.func33 ref1_On_ok mixed_ok hn h
/-! concord/concordref1.Zig -/
abbrev ref1_Zig_r0 : NC := .reg
    (.out [(0, (.slot 0))])
    [0]
abbrev ref1_Zig_r1 : NC := .reg
    (.q 1 (.icm .lss) [(.slot 0), (.const (.int .i64 0))] none
    (.out [(0, (.slot 0)), (4, (.res 1))]))
    [0]
abbrev ref1_Zig_r2 : NC := .reg
    (.q 1 .cpl [(.slot 0)] none
    (.q 2 (.conv .u64) [(.res 1)] none
    (.q 3 (.ish .shl) [(.res 2), (.const (.int .u64 1))] none
    (.q 4 (.ibt .or) [(.res 3), (.const (.int .u64 1))] none
    (.out [(2, (.res 4))])))))
    [0]
abbrev ref1_Zig_r3 : NC := .reg
    (.q 1 (.conv .u64) [(.slot 0)] none
    (.q 2 (.ish .shl) [(.res 1), (.const (.int .u64 1))] none
    (.out [(2, (.res 2))])))
    [0]
abbrev ref1_Zig_c : NC :=
  (.seq ref1_Zig_r0
  (.seq (.seq ref1_Zig_r1
  (.cond (.slot 4)
    (.seq ref1_Zig_r2
    .ret)
    .skip))
  (.seq ref1_Zig_r3
  .ret)))
abbrev ref1_Zig_F : FN := ⟨ref1_Zig_c, [.slot 2]⟩
theorem ref1_Zig_ok : compF Tryz.prog Tryz.f34 = some ref1_Zig_F := by kernel_rfl
theorem ref1_Zig_go {args : List Value} {m : Mem} {R : Value → Mem → Prop} (hn : args.length ≤ Tryz.f34.ntmps) (h : wpN Tryz.prog ref1_Zig_c (retP ref1_Zig_F.rvs R) (zipP 0 args) m) : MC Tryz.prog 34 args m R := MC_start Tryz.func34 ref1_Zig_ok mixed_ok hn h
/-! concord/concordref8.Name -/
abbrev ref8_Name_r0 : NC := .reg
    (.out [(0, (.slot 0))])
    [0]
abbrev ref8_Name_r1 : NC := .reg
    (.out [(0, (.slot 0)), (3, (.const (.int .i64 0)))])
    [0]
abbrev ref8_Name_r2 : NC := .reg
    (.q 2 .lenz [(.slot 0)] none
    (.q 3 (.icm .lss) [(.slot 3), (.res 2)] none
    (.out [(0, (.slot 0)), (3, (.slot 3)), (7, (.res 3))])))
    [0, 3]
abbrev ref8_Name_r3 : NC := .reg
    (.q 2 .idxs [(.slot 0), (.slot 3)] none
    (.q 3 (.icm .lss) [(.res 2), (.const (.int .u8 33))] none
    (.q 5 .mv [(.slot 0)] (some ((.res 3), false))
    (.q 6 .mv [(.slot 3)] (some ((.res 3), false))
    (.q 7 .idxs [(.res 5), (.res 6)] (some ((.res 3), false))
    (.q 8 (.icm .gtr) [(.res 7), (.const (.int .u8 126))] (some ((.res 3), false))
    (.q 9 .pick [(.res 3), (.const (.bool true)), (.res 8)] none
    (.out [(0, (.slot 0)), (3, (.slot 3)), (19, (.res 9))]))))))))
    [0, 3]
abbrev ref8_Name_r4 : NC := .reg
    (.out [(2, (.const (.bool false)))])
    []
abbrev ref8_Name_r5 : NC := .reg
    (.q 1 (.iar .add) [(.slot 3), (.const (.int .i64 1))] none
    (.out [(0, (.slot 0)), (3, (.res 1))]))
    [0, 3]
abbrev ref8_Name_l0 : NC :=
  (.seq (.seq ref8_Name_r2
  (.cond (.slot 7)
    .skip
    (.exit 0)))
  (.seq (.block 1 (.seq ref8_Name_r3
  (.cond (.slot 19)
    (.seq ref8_Name_r4
    .ret)
    .skip)))
  ref8_Name_r5))
abbrev ref8_Name_r6 : NC := .reg
    (.q 1 (.str .neq) [(.slot 0), (.const (.string ⟨#[]⟩))] none
    (.q 3 .mv [(.slot 0)] (some ((.res 1), true))
    (.q 4 .lenz [(.res 3)] (some ((.res 1), true))
    (.q 5 (.icm .leq) [(.res 4), (.const (.int .i64 24))] (some ((.res 1), true))
    (.q 6 .pick [(.res 1), (.res 5), (.const (.bool false))] none
    (.out [(2, (.res 6))]))))))
    [0]
abbrev ref8_Name_c : NC :=
  (.seq ref8_Name_r0
  (.seq (.seq ref8_Name_r1
  (.block 0 (.loop [0, 3] ref8_Name_l0)))
  (.seq ref8_Name_r6
  .ret)))
abbrev ref8_Name_F : FN := ⟨ref8_Name_c, [.slot 2]⟩
theorem ref8_Name_ok : compF Tryz.prog Tryz.f41 = some ref8_Name_F := by kernel_rfl
theorem ref8_Name_go {args : List Value} {m : Mem} {R : Value → Mem → Prop} (hn : args.length ≤ Tryz.f41.ntmps) (h : wpN Tryz.prog ref8_Name_c (retP ref8_Name_F.rvs R) (zipP 0 args) m) : MC Tryz.prog 41 args m R := MC_start Tryz.func41 ref8_Name_ok mixed_ok hn h
/-! (*concord/concordref8.Disk).Total -/
abbrev ref8_Disk_Total_r0 : NC := .reg
    (.out [(0, (.slot 0))])
    [0]
abbrev ref8_Disk_Total_r1 : NC := .reg
    (.out [(0, (.slot 0)), (3, (.const (.int .i64 0)))])
    [0]
abbrev ref8_Disk_Total_r2 : NC := .reg
    (.out [(0, (.slot 0)), (3, (.slot 3)), (4, (.const (.int .i64 0)))])
    [0, 3]
abbrev ref8_Disk_Total_r3 : NC := .reg
    (.q 2 .nilck [(.slot 0)] none
    (.q 3 (.fld 0) [(.res 2)] none
    (.q 4 .ld [(.res 3)] none
    (.q 5 .len [(.res 4)] none
    (.q 6 (.icm .lss) [(.slot 4), (.res 5)] none
    (.out [(0, (.slot 0)), (3, (.slot 3)), (4, (.slot 4)), (11, (.res 6))]))))))
    [0, 3, 4]
abbrev ref8_Disk_Total_r4 : NC := .reg
    (.q 2 .nilck [(.slot 0)] none
    (.q 3 (.fld 0) [(.res 2)] none
    (.q 4 .ld [(.res 3)] none
    (.q 6 (.ixs 3) [(.res 4), (.slot 4)] none
    (.q 7 (.fld 1) [(.res 6)] none
    (.q 8 .ld [(.res 7)] none
    (.q 9 .len [(.res 8)] none
    (.q 10 (.iar .add) [(.slot 3), (.res 9)] none
    (.out [(0, (.slot 0)), (3, (.res 10)), (4, (.slot 4))])))))))))
    [0, 3, 4]
abbrev ref8_Disk_Total_r5 : NC := .reg
    (.q 1 (.iar .add) [(.slot 4), (.const (.int .i64 1))] none
    (.out [(0, (.slot 0)), (3, (.slot 3)), (4, (.res 1))]))
    [0, 3, 4]
abbrev ref8_Disk_Total_l0 : NC :=
  (.seq (.seq ref8_Disk_Total_r3
  (.cond (.slot 11)
    .skip
    (.exit 0)))
  (.seq (.block 1 ref8_Disk_Total_r4)
  ref8_Disk_Total_r5))
abbrev ref8_Disk_Total_r6 : NC := .reg
    (.out [(2, (.slot 3))])
    [3]
abbrev ref8_Disk_Total_c : NC :=
  (.seq ref8_Disk_Total_r0
  (.seq ref8_Disk_Total_r1
  (.seq (.seq ref8_Disk_Total_r2
  (.block 0 (.loop [0, 3, 4] ref8_Disk_Total_l0)))
  (.seq ref8_Disk_Total_r6
  .ret))))
abbrev ref8_Disk_Total_F : FN := ⟨ref8_Disk_Total_c, [.slot 2]⟩
theorem ref8_Disk_Total_ok : compF Tryz.prog Tryz.f42 = some ref8_Disk_Total_F := by kernel_rfl
theorem ref8_Disk_Total_go {args : List Value} {m : Mem} {R : Value → Mem → Prop} (hn : args.length ≤ Tryz.f42.ntmps) (h : wpN Tryz.prog ref8_Disk_Total_c (retP ref8_Disk_Total_F.rvs R) (zipP 0 args) m) : MC Tryz.prog 42 args m R := MC_start Tryz.func42 ref8_Disk_Total_ok mixed_ok hn h
/-! (*concord/concordref8.Disk).power -/
abbrev ref8_Disk_power_r0 : NC := .reg
    (.out [(0, (.slot 0))])
    [0]
abbrev ref8_Disk_power_r1 : NC := .reg
    (.q 1 .nilck [(.slot 0)] none
    (.q 2 (.fld 2) [(.res 1)] none
    (.q 3 .ld [(.res 2)] none
    (.q 4 (.icm .eql) [(.res 3), (.const (.int .i64 0))] none
    (.out [(0, (.slot 0)), (7, (.res 4))])))))
    [0]
abbrev ref8_Disk_power_r2 : NC := .reg
    (.q 1 .nilck [(.slot 0)] none
    (.q 2 (.fld 3) [(.res 1)] none
    (.x 3 (.st 1) [(.res 2), (.const (.bool true))] none []
    (.out []))))
    [0]
abbrev ref8_Disk_power_r3 : NC := .reg
    (.out [(2, (.const (.bool false)))])
    []
abbrev ref8_Disk_power_r4 : NC := .reg
    (.q 1 .nilck [(.slot 0)] none
    (.q 2 (.fld 2) [(.res 1)] none
    (.q 3 .ld [(.res 2)] none
    (.q 4 (.icm .gtr) [(.res 3), (.const (.int .i64 0))] none
    (.out [(0, (.slot 0)), (15, (.res 4))])))))
    [0]
abbrev ref8_Disk_power_r5 : NC := .reg
    (.q 1 .nilck [(.slot 0)] none
    (.q 2 (.fld 2) [(.res 1)] none
    (.q 3 .ld [(.res 2)] none
    (.q 4 (.iar .sub) [(.res 3), (.const (.int .i64 1))] none
    (.q 5 .nilck [(.slot 0)] none
    (.q 6 (.fld 2) [(.res 5)] none
    (.x 7 (.st 1) [(.res 6), (.res 4)] none []
    (.out []))))))))
    [0]
abbrev ref8_Disk_power_r6 : NC := .reg
    (.out [(2, (.const (.bool true)))])
    []
abbrev ref8_Disk_power_c : NC :=
  (.seq ref8_Disk_power_r0
  (.seq (.seq ref8_Disk_power_r1
  (.cond (.slot 7)
    (.seq ref8_Disk_power_r2
    (.seq ref8_Disk_power_r3
    .ret))
    .skip))
  (.seq (.seq ref8_Disk_power_r4
  (.cond (.slot 15)
    ref8_Disk_power_r5
    .skip))
  (.seq ref8_Disk_power_r6
  .ret))))
abbrev ref8_Disk_power_F : FN := ⟨ref8_Disk_power_c, [.slot 2]⟩
theorem ref8_Disk_power_ok : compF Tryz.prog Tryz.f43 = some ref8_Disk_power_F := by kernel_rfl
theorem ref8_Disk_power_go {args : List Value} {m : Mem} {R : Value → Mem → Prop} (hn : args.length ≤ Tryz.f43.ntmps) (h : wpN Tryz.prog ref8_Disk_power_c (retP ref8_Disk_power_F.rvs R) (zipP 0 args) m) : MC Tryz.prog 43 args m R := MC_start Tryz.func43 ref8_Disk_power_ok mixed_ok hn h
/-! (*concord/concordref8.Disk).place -/
abbrev ref8_Disk_place_r0 : NC := .reg
    (.out [(0, (.slot 0)), (1, (.slot 1))])
    [0, 1]
abbrev ref8_Disk_place_r1 : NC := .reg
    (.out [(0, (.slot 0)), (1, (.slot 1)), (5, (.const (.int .i64 0)))])
    [0, 1]
abbrev ref8_Disk_place_r2 : NC := .reg
    (.q 2 .nilck [(.slot 0)] none
    (.q 3 (.fld 0) [(.res 2)] none
    (.q 4 .ld [(.res 3)] none
    (.q 5 .len [(.res 4)] none
    (.q 6 (.icm .lss) [(.slot 5), (.res 5)] none
    (.q 8 .mv [(.slot 0)] (some ((.res 6), true))
    (.q 9 .nilck [(.res 8)] (some ((.res 6), true))
    (.q 10 (.fld 0) [(.res 9)] (some ((.res 6), true))
    (.q 11 .ld [(.res 10)] (some ((.res 6), true))
    (.q 12 .mv [(.slot 5)] (some ((.res 6), true))
    (.q 13 (.ixs 3) [(.res 11), (.res 12)] (some ((.res 6), true))
    (.q 14 (.fld 0) [(.res 13)] (some ((.res 6), true))
    (.q 15 .ld [(.res 14)] (some ((.res 6), true))
    (.q 16 .mv [(.slot 1)] (some ((.res 6), true))
    (.q 17 (.str .lss) [(.res 15), (.res 16)] (some ((.res 6), true))
    (.q 18 .pick [(.res 6), (.res 17), (.const (.bool false))] none
    (.out [(0, (.slot 0)), (1, (.slot 1)), (5, (.slot 5)), (24, (.res 18))])))))))))))))))))
    [0, 1, 5]
abbrev ref8_Disk_place_r3 : NC := .reg
    (.q 1 (.iar .add) [(.slot 5), (.const (.int .i64 1))] none
    (.out [(0, (.slot 0)), (1, (.slot 1)), (5, (.res 1))]))
    [0, 1, 5]
abbrev ref8_Disk_place_l0 : NC :=
  (.seq (.seq ref8_Disk_place_r2
  (.cond (.slot 24)
    .skip
    (.exit 0)))
  (.block 1 ref8_Disk_place_r3))
abbrev ref8_Disk_place_r4 : NC := .reg
    (.q 2 .nilck [(.slot 0)] none
    (.q 3 (.fld 0) [(.res 2)] none
    (.q 4 .ld [(.res 3)] none
    (.q 5 .len [(.res 4)] none
    (.q 6 (.icm .eql) [(.slot 5), (.res 5)] none
    (.q 8 .mv [(.slot 0)] (some ((.res 6), false))
    (.q 9 .nilck [(.res 8)] (some ((.res 6), false))
    (.q 10 (.fld 0) [(.res 9)] (some ((.res 6), false))
    (.q 11 .ld [(.res 10)] (some ((.res 6), false))
    (.q 12 .mv [(.slot 5)] (some ((.res 6), false))
    (.q 13 (.ixs 3) [(.res 11), (.res 12)] (some ((.res 6), false))
    (.q 14 (.fld 0) [(.res 13)] (some ((.res 6), false))
    (.q 15 .ld [(.res 14)] (some ((.res 6), false))
    (.q 16 .mv [(.slot 1)] (some ((.res 6), false))
    (.q 17 (.str .neq) [(.res 15), (.res 16)] (some ((.res 6), false))
    (.q 18 .pick [(.res 6), (.const (.bool true)), (.res 17)] none
    (.out [(0, (.slot 0)), (1, (.slot 1)), (5, (.slot 5)), (45, (.res 18))])))))))))))))))))
    [0, 1, 5]
abbrev ref8_Disk_place_r5 : NC := .reg
    (.q 3 .nilck [(.slot 0)] none
    (.q 4 (.fld 0) [(.res 3)] none
    (.q 5 .ld [(.res 4)] none
    (.q 7 (.slc 3 false true) [(.res 5), (.slot 5)] none
    (.q 10 (.bld [(.string ⟨#[]⟩), (.slice none 0 0), (.int .i64 0)] [(0, 1)]) [(.slot 1)] none
    (.q 14 .nilck [(.slot 0)] none
    (.q 15 (.fld 0) [(.res 14)] none
    (.q 16 .ld [(.res 15)] none
    (.q 18 (.slc 3 true false) [(.res 16), (.slot 5)] none
    (.both
    (.x 1 (.bsl 91 0 [] []) [] none [(5, .ld, [(.res 4)], none), (16, .ld, [(.res 15)], none)]
    (.both
    (.x 8 (.app 91 3 48 [(.string ⟨#[]⟩), (.slice none 0 0), (.int .i64 0)]) [(.res 1), (.res 7)] none [(16, .ld, [(.res 15)], none)]
    (.x 11 (.bsl 91 1 [(.string ⟨#[]⟩), (.slice none 0 0), (.int .i64 0)] [(0, 3)]) [(.res 10)] none [(5, .ld, [(.res 4)], none), (16, .ld, [(.res 15)], none)]
    (.x 12 (.app 91 3 48 [(.string ⟨#[]⟩), (.slice none 0 0), (.int .i64 0)]) [(.res 8), (.res 11)] none [(16, .ld, [(.res 15)], none)]
    (.x 19 (.app 91 3 48 [(.string ⟨#[]⟩), (.slice none 0 0), (.int .i64 0)]) [(.res 12), (.res 18)] none []
    (.q 20 .nilck [(.slot 0)] none
    (.q 21 (.fld 0) [(.res 20)] none
    (.x 22 (.st 1) [(.res 21), (.res 19)] none []
    (.out [(5, (.slot 5))]))))))))
    (.x 11 (.bsl 91 1 [(.string ⟨#[]⟩), (.slice none 0 0), (.int .i64 0)] [(0, 3)]) [(.res 10)] none [(5, .ld, [(.res 4)], none), (16, .ld, [(.res 15)], none)]
    (.x 8 (.app 91 3 48 [(.string ⟨#[]⟩), (.slice none 0 0), (.int .i64 0)]) [(.res 1), (.res 7)] none [(16, .ld, [(.res 15)], none)]
    (.x 12 (.app 91 3 48 [(.string ⟨#[]⟩), (.slice none 0 0), (.int .i64 0)]) [(.res 8), (.res 11)] none [(16, .ld, [(.res 15)], none)]
    (.x 19 (.app 91 3 48 [(.string ⟨#[]⟩), (.slice none 0 0), (.int .i64 0)]) [(.res 12), (.res 18)] none []
    (.q 20 .nilck [(.slot 0)] none
    (.q 21 (.fld 0) [(.res 20)] none
    (.x 22 (.st 1) [(.res 21), (.res 19)] none []
    (.out [(5, (.slot 5))]))))))))))
    (.x 11 (.bsl 91 1 [(.string ⟨#[]⟩), (.slice none 0 0), (.int .i64 0)] [(0, 3)]) [(.res 10)] none [(5, .ld, [(.res 4)], none), (16, .ld, [(.res 15)], none)]
    (.x 1 (.bsl 91 0 [] []) [] none [(5, .ld, [(.res 4)], none), (16, .ld, [(.res 15)], none)]
    (.x 8 (.app 91 3 48 [(.string ⟨#[]⟩), (.slice none 0 0), (.int .i64 0)]) [(.res 1), (.res 7)] none [(16, .ld, [(.res 15)], none)]
    (.x 12 (.app 91 3 48 [(.string ⟨#[]⟩), (.slice none 0 0), (.int .i64 0)]) [(.res 8), (.res 11)] none [(16, .ld, [(.res 15)], none)]
    (.x 19 (.app 91 3 48 [(.string ⟨#[]⟩), (.slice none 0 0), (.int .i64 0)]) [(.res 12), (.res 18)] none []
    (.q 20 .nilck [(.slot 0)] none
    (.q 21 (.fld 0) [(.res 20)] none
    (.x 22 (.st 1) [(.res 21), (.res 19)] none []
    (.out [(5, (.slot 5))])))))))))))))))))))
    [0, 1, 5]
abbrev ref8_Disk_place_r6 : NC := .reg
    (.out [(4, (.slot 5))])
    [5]
abbrev ref8_Disk_place_c : NC :=
  (.seq ref8_Disk_place_r0
  (.seq ref8_Disk_place_r1
  (.seq (.block 0 (.loop [0, 1, 5] ref8_Disk_place_l0))
  (.seq (.seq ref8_Disk_place_r4
  (.cond (.slot 45)
    ref8_Disk_place_r5
    .skip))
  (.seq ref8_Disk_place_r6
  .ret)))))
abbrev ref8_Disk_place_F : FN := ⟨ref8_Disk_place_c, [.slot 4]⟩
theorem ref8_Disk_place_ok : compF Tryz.prog Tryz.f44 = some ref8_Disk_place_F := by kernel_rfl
theorem ref8_Disk_place_go {args : List Value} {m : Mem} {R : Value → Mem → Prop} (hn : args.length ≤ Tryz.f44.ntmps) (h : wpN Tryz.prog ref8_Disk_place_c (retP ref8_Disk_place_F.rvs R) (zipP 0 args) m) : MC Tryz.prog 44 args m R := MC_start Tryz.func44 ref8_Disk_place_ok mixed_ok hn h
/-! (*concord/concordref8.Disk).Names -/
abbrev ref8_Disk_Names_r0 : NC := .reg
    (.out [(0, (.slot 0))])
    [0]
abbrev ref8_Disk_Names_r1 : NC := .reg
    (.out [(0, (.slot 0)), (3, (.const (.slice none 0 0)))])
    [0]
abbrev ref8_Disk_Names_r2 : NC := .reg
    (.out [(0, (.slot 0)), (3, (.slot 3)), (4, (.const (.int .i64 0)))])
    [0, 3]
abbrev ref8_Disk_Names_r3 : NC := .reg
    (.q 2 .nilck [(.slot 0)] none
    (.q 3 (.fld 0) [(.res 2)] none
    (.q 4 .ld [(.res 3)] none
    (.q 5 .len [(.res 4)] none
    (.q 6 (.icm .lss) [(.slot 4), (.res 5)] none
    (.out [(0, (.slot 0)), (3, (.slot 3)), (4, (.slot 4)), (11, (.res 6))]))))))
    [0, 3, 4]
abbrev ref8_Disk_Names_r4 : NC := .reg
    (.q 2 .nilck [(.slot 0)] none
    (.q 3 (.fld 0) [(.res 2)] none
    (.q 4 .ld [(.res 3)] none
    (.q 6 (.ixs 3) [(.res 4), (.slot 4)] none
    (.q 7 (.fld 0) [(.res 6)] none
    (.q 8 .ld [(.res 7)] none
    (.x 9 (.bsl 9 1 [(.string ⟨#[]⟩)] [(0, 1)]) [(.res 8)] none []
    (.x 10 (.app 9 1 16 [(.string ⟨#[]⟩)]) [(.slot 3), (.res 9)] none []
    (.out [(0, (.slot 0)), (3, (.res 10)), (4, (.slot 4))])))))))))
    [0, 3, 4]
abbrev ref8_Disk_Names_r5 : NC := .reg
    (.q 1 (.iar .add) [(.slot 4), (.const (.int .i64 1))] none
    (.out [(0, (.slot 0)), (3, (.slot 3)), (4, (.res 1))]))
    [0, 3, 4]
abbrev ref8_Disk_Names_l0 : NC :=
  (.seq (.seq ref8_Disk_Names_r3
  (.cond (.slot 11)
    .skip
    (.exit 0)))
  (.seq (.block 1 ref8_Disk_Names_r4)
  ref8_Disk_Names_r5))
abbrev ref8_Disk_Names_r6 : NC := .reg
    (.out [(2, (.slot 3))])
    [3]
abbrev ref8_Disk_Names_c : NC :=
  (.seq ref8_Disk_Names_r0
  (.seq ref8_Disk_Names_r1
  (.seq (.seq ref8_Disk_Names_r2
  (.block 0 (.loop [0, 3, 4] ref8_Disk_Names_l0)))
  (.seq ref8_Disk_Names_r6
  .ret))))
abbrev ref8_Disk_Names_F : FN := ⟨ref8_Disk_Names_c, [.slot 2]⟩
theorem ref8_Disk_Names_ok : compF Tryz.prog Tryz.f51 = some ref8_Disk_Names_F := by kernel_rfl
theorem ref8_Disk_Names_go {args : List Value} {m : Mem} {R : Value → Mem → Prop} (hn : args.length ≤ Tryz.f51.ntmps) (h : wpN Tryz.prog ref8_Disk_Names_c (retP ref8_Disk_Names_F.rvs R) (zipP 0 args) m) : MC Tryz.prog 51 args m R := MC_start Tryz.func51 ref8_Disk_Names_ok mixed_ok hn h
/-! concord/concordref8.named -/
abbrev ref8_named_r0 : NC := .reg
    (.out [(0, (.slot 0))])
    [0]
abbrev ref8_named_r1 : NC := .reg
    (.q 1 .lenz [(.slot 0)] none
    (.q 2 (.icm .lss) [(.res 1), (.const (.int .i64 7))] none
    (.q 4 .mv [(.slot 0)] (some ((.res 2), false))
    (.q 5 (.slcs false true) [(.res 4), (.const (.int .i64 4))] (some ((.res 2), false))
    (.q 6 (.str .neq) [(.res 5), (.const (.string ⟨#[108, 111, 103, 46]⟩))] (some ((.res 2), false))
    (.q 7 .pick [(.res 2), (.const (.bool true)), (.res 6)] none
    (.out [(0, (.slot 0)), (17, (.res 7))])))))))
    [0]
abbrev ref8_named_r2 : NC := .reg
    (.out [(2, (.const (.int .i64 0))), (3, (.const (.int .i64 0))), (4, (.const (.bool false)))])
    []
abbrev ref8_named_r3 : NC := .reg
    (.out [(0, (.slot 0)), (5, (.const (.int .i64 4)))])
    [0]
abbrev ref8_named_r4 : NC := .reg
    (.q 2 .lenz [(.slot 0)] none
    (.q 3 (.icm .lss) [(.slot 5), (.res 2)] none
    (.q 5 .mv [(.slot 0)] (some ((.res 3), true))
    (.q 6 .mv [(.slot 5)] (some ((.res 3), true))
    (.q 7 .idxs [(.res 5), (.res 6)] (some ((.res 3), true))
    (.q 8 (.icm .neq) [(.res 7), (.const (.int .u8 46))] (some ((.res 3), true))
    (.q 9 .pick [(.res 3), (.res 8), (.const (.bool false))] none
    (.out [(0, (.slot 0)), (5, (.slot 5)), (27, (.res 9))]))))))))
    [0, 5]
abbrev ref8_named_r5 : NC := .reg
    (.q 1 (.iar .add) [(.slot 5), (.const (.int .i64 1))] none
    (.out [(0, (.slot 0)), (5, (.res 1))]))
    [0, 5]
abbrev ref8_named_l0 : NC :=
  (.seq (.seq ref8_named_r4
  (.cond (.slot 27)
    .skip
    (.exit 0)))
  (.block 1 ref8_named_r5))
abbrev ref8_named_r6 : NC := .reg
    (.q 2 .lenz [(.slot 0)] none
    (.q 3 (.icm .eql) [(.slot 5), (.res 2)] none
    (.out [(0, (.slot 0)), (5, (.slot 5)), (33, (.res 3))])))
    [0, 5]
abbrev ref8_named_r7 : NC := .reg
    (.out [(2, (.const (.int .i64 0))), (3, (.const (.int .i64 0))), (4, (.const (.bool false)))])
    []
abbrev ref8_named_r8 : NC := .reg
    (.q 2 (.slcs true true) [(.slot 0), (.const (.int .i64 4)), (.slot 5)] none
    (.x 3 (.call 80) [(.res 2)] none []
    (.q 5 (.ext 0) [(.res 3)] none
    (.q 6 (.ext 1) [(.res 3)] none
    (.out [(0, (.slot 0)), (5, (.slot 5)), (6, (.res 5)), (7, (.res 6))])))))
    [0, 5]
abbrev ref8_named_r9 : NC := .reg
    (.q 2 (.iar .add) [(.slot 5), (.const (.int .i64 1))] none
    (.q 3 (.slcs true false) [(.slot 0), (.res 2)] none
    (.x 4 (.call 80) [(.res 3)] none []
    (.q 6 (.ext 0) [(.res 4)] none
    (.q 7 (.ext 1) [(.res 4)] none
    (.out [(6, (.slot 6)), (7, (.slot 7)), (8, (.res 6)), (9, (.res 7))]))))))
    [0, 5, 6, 7]
abbrev ref8_named_r10 : NC := .reg
    (.q 4 .mv [(.slot 9)] (some ((.slot 7), true))
    (.q 5 .pick [(.slot 7), (.res 4), (.const (.bool false))] none
    (.out [(2, (.slot 6)), (3, (.slot 8)), (4, (.res 5))])))
    [6, 7, 8, 9]
abbrev ref8_named_c : NC :=
  (.seq ref8_named_r0
  (.seq (.seq ref8_named_r1
  (.cond (.slot 17)
    (.seq ref8_named_r2
    .ret)
    .skip))
  (.seq ref8_named_r3
  (.seq (.block 0 (.loop [0, 5] ref8_named_l0))
  (.seq (.seq ref8_named_r6
  (.cond (.slot 33)
    (.seq ref8_named_r7
    .ret)
    .skip))
  (.seq ref8_named_r8
  (.seq ref8_named_r9
  (.seq ref8_named_r10
  .ret))))))))
abbrev ref8_named_F : FN := ⟨ref8_named_c, [.slot 2, .slot 3, .slot 4]⟩
theorem ref8_named_ok : compF Tryz.prog Tryz.f52 = some ref8_named_F := by kernel_rfl
theorem ref8_named_go {args : List Value} {m : Mem} {R : Value → Mem → Prop} (hn : args.length ≤ Tryz.f52.ntmps) (h : wpN Tryz.prog ref8_named_c (retP ref8_named_F.rvs R) (zipP 0 args) m) : MC Tryz.prog 52 args m R := MC_start Tryz.func52 ref8_named_ok mixed_ok hn h
/-! concord/concordref8.found -/
abbrev ref8_found_r0 : NC := .reg
    (.out [(0, (.slot 0)), (1, (.slot 1))])
    [0, 1]
abbrev ref8_found_r1 : NC := .reg
    (.out [(0, (.slot 0)), (1, (.slot 1)), (8, (.const (.slice none 0 0)))])
    [0, 1]
abbrev ref8_found_r2 : NC := .reg
    (.out [(0, (.slot 0)), (1, (.slot 1)), (8, (.slot 8)), (9, (.const (.int .i64 (-1)))), (10, (.const (.int .i64 0))), (11, (.const (.int .i64 (-1))))])
    [0, 1, 8]
abbrev ref8_found_r3 : NC := .reg
    (.out [(0, (.slot 0)), (1, (.slot 1)), (8, (.slot 8)), (9, (.slot 9)), (10, (.slot 10)), (11, (.slot 11)), (12, (.const (.int .i64 1)))])
    [0, 1, 8, 9, 10, 11]
abbrev ref8_found_r4 : NC := .reg
    (.x 3 (.call 21) [(.slot 1), (.slot 12)] none []
    (.x 4 (.call 59) [(.slot 0), (.res 3)] none []
    (.q 6 (.ext 0) [(.res 4)] none
    (.q 7 (.ext 1) [(.res 4)] none
    (.out [(0, (.slot 0)), (1, (.slot 1)), (8, (.slot 8)), (9, (.slot 9)), (10, (.slot 10)), (11, (.slot 11)), (12, (.slot 12)), (13, (.res 6)), (14, (.res 7))])))))
    [0, 1, 8, 9, 10, 11, 12]
abbrev ref8_found_r5 : NC := .reg
    (.q 1 .not [(.slot 14)] none
    (.out [(0, (.slot 0)), (1, (.slot 1)), (8, (.slot 8)), (9, (.slot 9)), (10, (.slot 10)), (11, (.slot 11)), (12, (.slot 12)), (13, (.slot 13)), (30, (.res 1))]))
    [0, 1, 8, 9, 10, 11, 12, 13, 14]
abbrev ref8_found_r6 : NC := .reg
    (.x 1 (.call 81) [(.slot 13)] none []
    (.q 3 (.ext 0) [(.res 1)] none
    (.q 4 (.ext 1) [(.res 1)] none
    (.out [(0, (.slot 0)), (1, (.slot 1)), (8, (.slot 8)), (9, (.slot 9)), (11, (.slot 11)), (12, (.slot 12)), (13, (.slot 13)), (15, (.res 3)), (16, (.res 4))]))))
    [0, 1, 8, 9, 11, 12, 13]
abbrev ref8_found_r7 : NC := .reg
    (.out [(0, (.slot 0)), (1, (.slot 1)), (8, (.slot 8)), (9, (.slot 9)), (11, (.slot 11)), (12, (.slot 12)), (13, (.slot 13)), (15, (.slot 15)), (16, (.slot 16)), (17, (.const (.int .i64 0)))])
    [0, 1, 8, 9, 11, 12, 13, 15, 16]
abbrev ref8_found_r8 : NC := .reg
    (.q 2 .len [(.slot 15)] none
    (.q 3 (.icm .lss) [(.slot 17), (.res 2)] none
    (.out [(0, (.slot 0)), (1, (.slot 1)), (8, (.slot 8)), (9, (.slot 9)), (11, (.slot 11)), (12, (.slot 12)), (13, (.slot 13)), (15, (.slot 15)), (16, (.slot 16)), (17, (.slot 17)), (39, (.res 3))])))
    [0, 1, 8, 9, 11, 12, 13, 15, 16, 17]
abbrev ref8_found_r9 : NC := .reg
    (.q 1 (.icm .eql) [(.slot 12), (.const (.int .i64 1))] none
    (.q 3 .mv [(.slot 17)] (some ((.res 1), true))
    (.q 4 (.icm .eql) [(.res 3), (.const (.int .i64 0))] (some ((.res 1), true))
    (.q 5 .pick [(.res 1), (.res 4), (.const (.bool false))] none
    (.out [(0, (.slot 0)), (1, (.slot 1)), (8, (.slot 8)), (9, (.slot 9)), (11, (.slot 11)), (12, (.slot 12)), (13, (.slot 13)), (15, (.slot 15)), (16, (.slot 16)), (17, (.slot 17)), (47, (.res 5))])))))
    [0, 1, 8, 9, 11, 12, 13, 15, 16, 17]
abbrev ref8_found_r10 : NC := .reg
    (.q 1 (.ixs 1) [(.slot 15), (.const (.int .i64 0))] none
    (.q 2 .ld [(.res 1)] none
    (.x 3 (.call 82) [(.res 2)] none []
    (.out [(0, (.slot 0)), (1, (.slot 1)), (8, (.slot 8)), (11, (.slot 11)), (12, (.slot 12)), (13, (.slot 13)), (15, (.slot 15)), (16, (.slot 16)), (17, (.slot 17)), (18, (.res 3))]))))
    [0, 1, 8, 11, 12, 13, 15, 16, 17]
abbrev ref8_found_r11 : NC := .reg
    (.x 1 (.call 83) [(.slot 18)] none []
    (.out [(0, (.slot 0)), (1, (.slot 1)), (8, (.slot 8)), (9, (.res 1)), (11, (.slot 11)), (12, (.slot 12)), (13, (.slot 13)), (15, (.slot 15)), (16, (.slot 16)), (17, (.slot 17)), (18, (.slot 18))]))
    [0, 1, 8, 11, 12, 13, 15, 16, 17, 18]
abbrev ref8_found_r12 : NC := .reg
    (.x 1 (.call 84) [(.slot 18)] none []
    (.q 2 (.icm .neq) [(.res 1), (.const (.int .i64 0))] none
    (.q 4 .mv [(.slot 9)] (some ((.res 2), false))
    (.q 5 (.icm .lss) [(.res 4), (.const (.int .i64 0))] (some ((.res 2), false))
    (.q 6 .pick [(.res 2), (.const (.bool true)), (.res 5)] none
    (.out [(0, (.slot 0)), (1, (.slot 1)), (8, (.slot 8)), (9, (.slot 9)), (11, (.slot 11)), (12, (.slot 12)), (13, (.slot 13)), (15, (.slot 15)), (16, (.slot 16)), (17, (.slot 17)), (60, (.res 6))]))))))
    [0, 1, 8, 9, 11, 12, 13, 15, 16, 17, 18]
abbrev ref8_found_r13 : NC := .reg
    (.out [(4, (.const (.slice none 0 0))), (5, (.const (.int .i64 0))), (6, (.const (.int .i64 0))), (7, (.const (.bool false)))])
    []
abbrev ref8_found_r14 : NC := .reg
    (.q 3 (.ixs 1) [(.slot 15), (.slot 17)] none
    (.q 4 .ld [(.res 3)] none
    (.x 5 (.bsl 37 1 [(.slice none 0 0)] [(0, 1)]) [(.res 4)] none []
    (.x 6 (.app 37 1 24 [(.slice none 0 0)]) [(.slot 8), (.res 5)] none []
    (.out [(0, (.slot 0)), (1, (.slot 1)), (8, (.res 6)), (9, (.slot 9)), (11, (.slot 11)), (12, (.slot 12)), (13, (.slot 13)), (15, (.slot 15)), (16, (.slot 16)), (17, (.slot 17))])))))
    [0, 1, 8, 9, 11, 12, 13, 15, 16, 17]
abbrev ref8_found_r15 : NC := .reg
    (.q 1 (.iar .add) [(.slot 17), (.const (.int .i64 1))] none
    (.out [(0, (.slot 0)), (1, (.slot 1)), (8, (.slot 8)), (9, (.slot 9)), (11, (.slot 11)), (12, (.slot 12)), (13, (.slot 13)), (15, (.slot 15)), (16, (.slot 16)), (17, (.res 1))]))
    [0, 1, 8, 9, 11, 12, 13, 15, 16, 17]
abbrev ref8_found_l0 : NC :=
  (.seq (.seq ref8_found_r8
  (.cond (.slot 39)
    .skip
    (.exit 2)))
  (.seq (.block 3 (.seq (.seq ref8_found_r9
  (.cond (.slot 47)
    (.seq ref8_found_r10
    (.seq ref8_found_r11
    (.seq (.seq ref8_found_r12
    (.cond (.slot 60)
      (.seq ref8_found_r13
      .ret)
      .skip))
    (.exit 3))))
    .skip))
  ref8_found_r14))
  ref8_found_r15))
abbrev ref8_found_r16 : NC := .reg
    (.out [(0, (.slot 0)), (1, (.slot 1)), (8, (.slot 8)), (9, (.slot 9)), (10, (.slot 12)), (11, (.slot 11)), (12, (.slot 12)), (13, (.slot 13)), (16, (.slot 16))])
    [0, 1, 8, 9, 11, 12, 13, 16]
abbrev ref8_found_r17 : NC := .reg
    (.q 2 .len [(.slot 13)] none
    (.q 3 (.icm .lss) [(.slot 16), (.res 2)] none
    (.out [(0, (.slot 0)), (1, (.slot 1)), (8, (.slot 8)), (9, (.slot 9)), (10, (.slot 10)), (11, (.slot 11)), (12, (.slot 12)), (16, (.slot 16)), (72, (.res 3))])))
    [0, 1, 8, 9, 10, 11, 12, 13, 16]
abbrev ref8_found_r18 : NC := .reg
    (.out [(8, (.slot 8)), (9, (.slot 9)), (10, (.slot 10)), (11, (.slot 16))])
    [8, 9, 10, 16]
abbrev ref8_found_r19 : NC := .reg
    (.q 1 (.iar .add) [(.slot 12), (.const (.int .i64 1))] none
    (.out [(0, (.slot 0)), (1, (.slot 1)), (8, (.slot 8)), (9, (.slot 9)), (10, (.slot 10)), (11, (.slot 11)), (12, (.res 1))]))
    [0, 1, 8, 9, 10, 11, 12]
abbrev ref8_found_l1 : NC :=
  (.seq (.block 1 (.seq ref8_found_r4
  (.seq (.seq ref8_found_r5
  (.cond (.slot 30)
    (.exit 0)
    .skip))
  (.seq ref8_found_r6
  (.seq (.seq ref8_found_r7
  (.block 2 (.loop [0, 1, 8, 9, 11, 12, 13, 15, 16, 17] ref8_found_l0)))
  (.seq ref8_found_r16
  (.seq ref8_found_r17
  (.cond (.slot 72)
    (.seq ref8_found_r18
    (.exit 0))
    .skip))))))))
  ref8_found_r19)
abbrev ref8_found_r20 : NC := .reg
    (.q 4 (.icm .geq) [(.slot 9), (.const (.int .i64 0))] none
    (.q 6 .mv [(.slot 8)] (some ((.res 4), true))
    (.q 7 .len [(.res 6)] (some ((.res 4), true))
    (.q 8 .mv [(.slot 9)] (some ((.res 4), true))
    (.q 9 (.icm .geq) [(.res 7), (.res 8)] (some ((.res 4), true))
    (.q 10 .pick [(.res 4), (.res 9), (.const (.bool false))] none
    (.out [(4, (.slot 8)), (5, (.slot 10)), (6, (.slot 11)), (7, (.res 10))])))))))
    [8, 9, 10, 11]
abbrev ref8_found_c : NC :=
  (.seq ref8_found_r0
  (.seq ref8_found_r1
  (.seq ref8_found_r2
  (.seq (.seq ref8_found_r3
  (.block 0 (.loop [0, 1, 8, 9, 10, 11, 12] ref8_found_l1)))
  (.seq ref8_found_r20
  .ret)))))
abbrev ref8_found_F : FN := ⟨ref8_found_c, [.slot 4, .slot 5, .slot 6, .slot 7]⟩
theorem ref8_found_ok : compF Tryz.prog Tryz.f53 = some ref8_found_F := by kernel_rfl
theorem ref8_found_go {args : List Value} {m : Mem} {R : Value → Mem → Prop} (hn : args.length ≤ Tryz.f53.ntmps) (h : wpN Tryz.prog ref8_found_c (retP ref8_found_F.rvs R) (zipP 0 args) m) : MC Tryz.prog 53 args m R := MC_start Tryz.func53 ref8_found_ok mixed_ok hn h
/-! (*concord/concordref8.Disk).Cut -/
abbrev ref8_Disk_Cut_r0 : NC := .reg
    (.out [(0, (.slot 0)), (1, (.slot 1)), (2, (.slot 2))])
    [0, 1, 2]
abbrev ref8_Disk_Cut_r1 : NC := .reg
    (.x 2 (.call 85) [(.slot 0), (.slot 1)] none []
    (.out [(0, (.slot 0)), (2, (.slot 2)), (7, (.res 2))]))
    [0, 1, 2]
abbrev ref8_Disk_Cut_r2 : NC := .reg
    (.q 1 .nilck [(.slot 0)] none
    (.q 2 (.fld 3) [(.res 1)] none
    (.q 3 .ld [(.res 2)] none
    (.out [(0, (.slot 0)), (2, (.slot 2)), (7, (.slot 7)), (11, (.res 3))]))))
    [0, 2, 7]
abbrev ref8_Disk_Cut_r3 : NC := .reg
    (.out [(6, (.const (.int .i64 10)))])
    []
abbrev ref8_Disk_Cut_r4 : NC := .reg
    (.q 1 (.icm .lss) [(.slot 7), (.const (.int .i64 0))] none
    (.out [(0, (.slot 0)), (2, (.slot 2)), (7, (.slot 7)), (16, (.res 1))]))
    [0, 2, 7]
abbrev ref8_Disk_Cut_r5 : NC := .reg
    (.out [(6, (.const (.int .i64 8)))])
    []
abbrev ref8_Disk_Cut_r6 : NC := .reg
    (.q 1 (.icm .lss) [(.slot 2), (.const (.int .i64 0))] none
    (.q 3 .mv [(.slot 2)] (some ((.res 1), false))
    (.q 4 .mv [(.slot 0)] (some ((.res 1), false))
    (.q 5 .nilck [(.res 4)] (some ((.res 1), false))
    (.q 6 (.fld 0) [(.res 5)] (some ((.res 1), false))
    (.q 7 .ld [(.res 6)] (some ((.res 1), false))
    (.q 8 .mv [(.slot 7)] (some ((.res 1), false))
    (.q 9 (.ixs 3) [(.res 7), (.res 8)] (some ((.res 1), false))
    (.q 10 (.fld 1) [(.res 9)] (some ((.res 1), false))
    (.q 11 .ld [(.res 10)] (some ((.res 1), false))
    (.q 12 .len [(.res 11)] (some ((.res 1), false))
    (.q 13 (.icm .gtr) [(.res 3), (.res 12)] (some ((.res 1), false))
    (.q 14 .pick [(.res 1), (.const (.bool true)), (.res 13)] none
    (.out [(0, (.slot 0)), (2, (.slot 2)), (7, (.slot 7)), (19, (.res 14))]))))))))))))))
    [0, 2, 7]
abbrev ref8_Disk_Cut_r7 : NC := .reg
    (.out [(6, (.const (.int .i64 1)))])
    []
abbrev ref8_Disk_Cut_r8 : NC := .reg
    (.x 1 (.call 43) [(.slot 0)] none []
    (.q 2 .not [(.res 1)] none
    (.out [(0, (.slot 0)), (2, (.slot 2)), (7, (.slot 7)), (35, (.res 2))])))
    [0, 2, 7]
abbrev ref8_Disk_Cut_r9 : NC := .reg
    (.out [(6, (.const (.int .i64 10)))])
    []
abbrev ref8_Disk_Cut_r10 : NC := .reg
    (.q 1 .nilck [(.slot 0)] none
    (.q 2 (.fld 0) [(.res 1)] none
    (.q 3 .ld [(.res 2)] none
    (.q 7 .nilck [(.slot 0)] none
    (.q 8 (.fld 0) [(.res 7)] none
    (.q 9 .ld [(.res 8)] none
    (.q 11 (.ixs 3) [(.res 9), (.slot 7)] none
    (.q 12 (.fld 1) [(.res 11)] none
    (.q 13 .ld [(.res 12)] none
    (.q 15 (.slc 1 false true) [(.res 13), (.slot 2)] none
    (.x 5 (.bsl 5 0 [] []) [] none [(3, .ld, [(.res 2)], none), (9, .ld, [(.res 8)], none), (13, .ld, [(.res 12)], none)]
    (.x 16 (.app 5 1 1 [(.int .u8 0)]) [(.res 5), (.res 15)] none [(3, .ld, [(.res 2)], none)]
    (.q 17 (.ixs 3) [(.res 3), (.slot 7)] none
    (.q 18 (.fld 1) [(.res 17)] none
    (.x 19 (.st 1) [(.res 18), (.res 16)] none []
    (.out [(0, (.slot 0)), (2, (.slot 2)), (7, (.slot 7))]))))))))))))))))
    [0, 2, 7]
abbrev ref8_Disk_Cut_r11 : NC := .reg
    (.q 1 .nilck [(.slot 0)] none
    (.q 2 (.fld 0) [(.res 1)] none
    (.q 3 .ld [(.res 2)] none
    (.q 6 .nilck [(.slot 0)] none
    (.q 7 (.fld 0) [(.res 6)] none
    (.q 8 .ld [(.res 7)] none
    (.q 10 (.ixs 3) [(.res 8), (.slot 7)] none
    (.q 11 (.fld 2) [(.res 10)] none
    (.q 12 .ld [(.res 11)] none
    (.q 14 .mn [(.res 12), (.slot 2)] none
    (.q 15 (.ixs 3) [(.res 3), (.slot 7)] none
    (.q 16 (.fld 2) [(.res 15)] none
    (.x 17 (.st 1) [(.res 16), (.res 14)] none []
    (.out []))))))))))))))
    [0, 2, 7]
abbrev ref8_Disk_Cut_r12 : NC := .reg
    (.out [(6, (.const (.int .i64 0)))])
    []
abbrev ref8_Disk_Cut_c : NC :=
  (.seq ref8_Disk_Cut_r0
  (.seq ref8_Disk_Cut_r1
  (.seq (.block 0 (.seq ref8_Disk_Cut_r2
  (.cond (.slot 11)
    (.seq ref8_Disk_Cut_r3
    .ret)
    (.seq ref8_Disk_Cut_r4
    (.cond (.slot 16)
      (.seq ref8_Disk_Cut_r5
      .ret)
      (.seq ref8_Disk_Cut_r6
      (.cond (.slot 19)
        (.seq ref8_Disk_Cut_r7
        .ret)
        (.seq ref8_Disk_Cut_r8
        (.cond (.slot 35)
          (.seq ref8_Disk_Cut_r9
          .ret)
          .skip)))))))))
  (.seq ref8_Disk_Cut_r10
  (.seq ref8_Disk_Cut_r11
  (.seq ref8_Disk_Cut_r12
  .ret))))))
abbrev ref8_Disk_Cut_F : FN := ⟨ref8_Disk_Cut_c, [.slot 6]⟩
theorem ref8_Disk_Cut_ok : compF Tryz.prog Tryz.f54 = some ref8_Disk_Cut_F := by kernel_rfl
theorem ref8_Disk_Cut_go {args : List Value} {m : Mem} {R : Value → Mem → Prop} (hn : args.length ≤ Tryz.f54.ntmps) (h : wpN Tryz.prog ref8_Disk_Cut_c (retP ref8_Disk_Cut_F.rvs R) (zipP 0 args) m) : MC Tryz.prog 54 args m R := MC_start Tryz.func54 ref8_Disk_Cut_ok mixed_ok hn h
/-! (*concord/concordref8.Disk).Remove -/
abbrev ref8_Disk_Remove_r0 : NC := .reg
    (.out [(0, (.slot 0)), (1, (.slot 1))])
    [0, 1]
abbrev ref8_Disk_Remove_r1 : NC := .reg
    (.x 2 (.call 85) [(.slot 0), (.slot 1)] none []
    (.out [(0, (.slot 0)), (5, (.res 2))]))
    [0, 1]
abbrev ref8_Disk_Remove_r2 : NC := .reg
    (.q 1 .nilck [(.slot 0)] none
    (.q 2 (.fld 3) [(.res 1)] none
    (.q 3 .ld [(.res 2)] none
    (.out [(0, (.slot 0)), (5, (.slot 5)), (9, (.res 3))]))))
    [0, 5]
abbrev ref8_Disk_Remove_r3 : NC := .reg
    (.out [(4, (.const (.int .i64 10)))])
    []
abbrev ref8_Disk_Remove_r4 : NC := .reg
    (.q 1 (.icm .lss) [(.slot 5), (.const (.int .i64 0))] none
    (.out [(0, (.slot 0)), (5, (.slot 5)), (14, (.res 1))]))
    [0, 5]
abbrev ref8_Disk_Remove_r5 : NC := .reg
    (.out [(4, (.const (.int .i64 8)))])
    []
abbrev ref8_Disk_Remove_r6 : NC := .reg
    (.x 1 (.call 43) [(.slot 0)] none []
    (.q 2 .not [(.res 1)] none
    (.out [(0, (.slot 0)), (5, (.slot 5)), (17, (.res 2))])))
    [0, 5]
abbrev ref8_Disk_Remove_r7 : NC := .reg
    (.out [(4, (.const (.int .i64 10)))])
    []
abbrev ref8_Disk_Remove_r8 : NC := .reg
    (.x 2 (.call 86) [(.slot 0), (.slot 5)] none []
    (.out []))
    [0, 5]
abbrev ref8_Disk_Remove_r9 : NC := .reg
    (.out [(4, (.const (.int .i64 0)))])
    []
abbrev ref8_Disk_Remove_c : NC :=
  (.seq ref8_Disk_Remove_r0
  (.seq ref8_Disk_Remove_r1
  (.seq (.block 0 (.seq ref8_Disk_Remove_r2
  (.cond (.slot 9)
    (.seq ref8_Disk_Remove_r3
    .ret)
    (.seq ref8_Disk_Remove_r4
    (.cond (.slot 14)
      (.seq ref8_Disk_Remove_r5
      .ret)
      (.seq ref8_Disk_Remove_r6
      (.cond (.slot 17)
        (.seq ref8_Disk_Remove_r7
        .ret)
        .skip)))))))
  (.seq ref8_Disk_Remove_r8
  (.seq ref8_Disk_Remove_r9
  .ret)))))
abbrev ref8_Disk_Remove_F : FN := ⟨ref8_Disk_Remove_c, [.slot 4]⟩
theorem ref8_Disk_Remove_ok : compF Tryz.prog Tryz.f55 = some ref8_Disk_Remove_F := by kernel_rfl
theorem ref8_Disk_Remove_go {args : List Value} {m : Mem} {R : Value → Mem → Prop} (hn : args.length ≤ Tryz.f55.ntmps) (h : wpN Tryz.prog ref8_Disk_Remove_c (retP ref8_Disk_Remove_F.rvs R) (zipP 0 args) m) : MC Tryz.prog 55 args m R := MC_start Tryz.func55 ref8_Disk_Remove_ok mixed_ok hn h
/-! (*concord/concordref8.Disk).Sync -/
abbrev ref8_Disk_Sync_r0 : NC := .reg
    (.out [(0, (.slot 0)), (1, (.slot 1))])
    [0, 1]
abbrev ref8_Disk_Sync_r1 : NC := .reg
    (.x 2 (.call 85) [(.slot 0), (.slot 1)] none []
    (.out [(0, (.slot 0)), (5, (.res 2))]))
    [0, 1]
abbrev ref8_Disk_Sync_r2 : NC := .reg
    (.q 1 .nilck [(.slot 0)] none
    (.q 2 (.fld 3) [(.res 1)] none
    (.q 3 .ld [(.res 2)] none
    (.out [(0, (.slot 0)), (5, (.slot 5)), (9, (.res 3))]))))
    [0, 5]
abbrev ref8_Disk_Sync_r3 : NC := .reg
    (.out [(4, (.const (.int .i64 10)))])
    []
abbrev ref8_Disk_Sync_r4 : NC := .reg
    (.q 1 (.icm .lss) [(.slot 5), (.const (.int .i64 0))] none
    (.out [(0, (.slot 0)), (5, (.slot 5)), (14, (.res 1))]))
    [0, 5]
abbrev ref8_Disk_Sync_r5 : NC := .reg
    (.out [(4, (.const (.int .i64 8)))])
    []
abbrev ref8_Disk_Sync_r6 : NC := .reg
    (.x 1 (.call 43) [(.slot 0)] none []
    (.q 2 .not [(.res 1)] none
    (.out [(0, (.slot 0)), (5, (.slot 5)), (17, (.res 2))])))
    [0, 5]
abbrev ref8_Disk_Sync_r7 : NC := .reg
    (.out [(4, (.const (.int .i64 10)))])
    []
abbrev ref8_Disk_Sync_r8 : NC := .reg
    (.q 1 .nilck [(.slot 0)] none
    (.q 2 (.fld 0) [(.res 1)] none
    (.q 3 .ld [(.res 2)] none
    (.q 6 .nilck [(.slot 0)] none
    (.q 7 (.fld 0) [(.res 6)] none
    (.q 8 .ld [(.res 7)] none
    (.q 10 (.ixs 3) [(.res 8), (.slot 5)] none
    (.q 11 (.fld 1) [(.res 10)] none
    (.q 12 .ld [(.res 11)] none
    (.q 13 .len [(.res 12)] none
    (.q 14 (.ixs 3) [(.res 3), (.slot 5)] none
    (.q 15 (.fld 2) [(.res 14)] none
    (.x 16 (.st 1) [(.res 15), (.res 13)] none []
    (.out []))))))))))))))
    [0, 5]
abbrev ref8_Disk_Sync_r9 : NC := .reg
    (.out [(4, (.const (.int .i64 0)))])
    []
abbrev ref8_Disk_Sync_c : NC :=
  (.seq ref8_Disk_Sync_r0
  (.seq ref8_Disk_Sync_r1
  (.seq (.block 0 (.seq ref8_Disk_Sync_r2
  (.cond (.slot 9)
    (.seq ref8_Disk_Sync_r3
    .ret)
    (.seq ref8_Disk_Sync_r4
    (.cond (.slot 14)
      (.seq ref8_Disk_Sync_r5
      .ret)
      (.seq ref8_Disk_Sync_r6
      (.cond (.slot 17)
        (.seq ref8_Disk_Sync_r7
        .ret)
        .skip)))))))
  (.seq ref8_Disk_Sync_r8
  (.seq ref8_Disk_Sync_r9
  .ret)))))
abbrev ref8_Disk_Sync_F : FN := ⟨ref8_Disk_Sync_c, [.slot 4]⟩
theorem ref8_Disk_Sync_ok : compF Tryz.prog Tryz.f56 = some ref8_Disk_Sync_F := by kernel_rfl
theorem ref8_Disk_Sync_go {args : List Value} {m : Mem} {R : Value → Mem → Prop} (hn : args.length ≤ Tryz.f56.ntmps) (h : wpN Tryz.prog ref8_Disk_Sync_c (retP ref8_Disk_Sync_F.rvs R) (zipP 0 args) m) : MC Tryz.prog 56 args m R := MC_start Tryz.func56 ref8_Disk_Sync_ok mixed_ok hn h
/-! (*concord/concordref8.Disk).Read -/
abbrev ref8_Disk_Read_r0 : NC := .reg
    (.out [(0, (.slot 0)), (1, (.slot 1))])
    [0, 1]
abbrev ref8_Disk_Read_r1 : NC := .reg
    (.x 2 (.call 85) [(.slot 0), (.slot 1)] none []
    (.out [(0, (.slot 0)), (6, (.res 2))]))
    [0, 1]
abbrev ref8_Disk_Read_r2 : NC := .reg
    (.q 1 (.icm .lss) [(.slot 6), (.const (.int .i64 0))] none
    (.out [(0, (.slot 0)), (6, (.slot 6)), (11, (.res 1))]))
    [0, 6]
abbrev ref8_Disk_Read_r3 : NC := .reg
    (.out [(4, (.const (.slice none 0 0))), (5, (.const (.bool false)))])
    []
abbrev ref8_Disk_Read_r4 : NC := .reg
    (.q 1 .nilck [(.slot 0)] none
    (.q 2 (.fld 0) [(.res 1)] none
    (.q 3 .ld [(.res 2)] none
    (.q 5 (.ixs 3) [(.res 3), (.slot 6)] none
    (.q 6 (.fld 1) [(.res 5)] none
    (.q 7 .ld [(.res 6)] none
    (.out [(4, (.res 7)), (5, (.const (.bool true)))])))))))
    [0, 6]
abbrev ref8_Disk_Read_c : NC :=
  (.seq ref8_Disk_Read_r0
  (.seq ref8_Disk_Read_r1
  (.seq (.seq ref8_Disk_Read_r2
  (.cond (.slot 11)
    (.seq ref8_Disk_Read_r3
    .ret)
    .skip))
  (.seq ref8_Disk_Read_r4
  .ret))))
abbrev ref8_Disk_Read_F : FN := ⟨ref8_Disk_Read_c, [.slot 4, .slot 5]⟩
theorem ref8_Disk_Read_ok : compF Tryz.prog Tryz.f59 = some ref8_Disk_Read_F := by kernel_rfl
theorem ref8_Disk_Read_go {args : List Value} {m : Mem} {R : Value → Mem → Prop} (hn : args.length ≤ Tryz.f59.ntmps) (h : wpN Tryz.prog ref8_Disk_Read_c (retP ref8_Disk_Read_F.rvs R) (zipP 0 args) m) : MC Tryz.prog 59 args m R := MC_start Tryz.func59 ref8_Disk_Read_ok mixed_ok hn h
/-! concord/concordref8.digits -/
abbrev ref8_digits_r0 : NC := .reg
    (.out [(0, (.slot 0))])
    [0]
abbrev ref8_digits_r1 : NC := .reg
    (.out [(0, (.slot 0)), (3, (.const (.string ⟨#[]⟩)))])
    [0]
abbrev ref8_digits_r2 : NC := .reg
    (.q 1 (.icm .gtr) [(.slot 0), (.const (.int .i64 0))] none
    (.q 3 .mv [(.slot 3)] (some ((.res 1), false))
    (.q 4 (.str .eql) [(.res 3), (.const (.string ⟨#[]⟩))] (some ((.res 1), false))
    (.q 5 .pick [(.res 1), (.const (.bool true)), (.res 4)] none
    (.out [(0, (.slot 0)), (3, (.slot 3)), (9, (.res 5))])))))
    [0, 3]
abbrev ref8_digits_r3 : NC := .reg
    (.q 1 (.idv .rem) [(.slot 0), (.const (.int .i64 10))] none
    (.q 2 (.iar .add) [(.const (.int .i64 48)), (.res 1)] none
    (.q 3 (.conv .u8) [(.res 2)] none
    (.x 4 (.bsl 5 1 [(.int .u8 0)] [(0, 1)]) [(.res 3)] none []
    (.q 5 .b2s [(.res 4)] none
    (.q 7 (.str .add) [(.res 5), (.slot 3)] none
    (.out [(0, (.slot 0)), (3, (.res 7))])))))))
    [0, 3]
abbrev ref8_digits_r4 : NC := .reg
    (.q 1 (.idv .quo) [(.slot 0), (.const (.int .i64 10))] none
    (.out [(0, (.res 1)), (3, (.slot 3))]))
    [0, 3]
abbrev ref8_digits_l0 : NC :=
  (.seq (.seq ref8_digits_r2
  (.cond (.slot 9)
    .skip
    (.exit 0)))
  (.block 1 (.seq ref8_digits_r3
  ref8_digits_r4)))
abbrev ref8_digits_r5 : NC := .reg
    (.out [(2, (.slot 3))])
    [3]
abbrev ref8_digits_c : NC :=
  (.seq ref8_digits_r0
  (.seq ref8_digits_r1
  (.seq (.block 0 (.loop [0, 3] ref8_digits_l0))
  (.seq ref8_digits_r5
  .ret))))
abbrev ref8_digits_F : FN := ⟨ref8_digits_c, [.slot 2]⟩
theorem ref8_digits_ok : compF Tryz.prog Tryz.f66 = some ref8_digits_F := by kernel_rfl
theorem ref8_digits_go {args : List Value} {m : Mem} {R : Value → Mem → Prop} (hn : args.length ≤ Tryz.f66.ntmps) (h : wpN Tryz.prog ref8_digits_c (retP ref8_digits_F.rvs R) (zipP 0 args) m) : MC Tryz.prog 66 args m R := MC_start Tryz.func66 ref8_digits_ok mixed_ok hn h
/-! concord/concordref8.fits -/
/-! (*concord/concordref8.Wal).write -/
/-! concord/concordref8.number -/
abbrev ref8_number_r0 : NC := .reg
    (.out [(0, (.slot 0))])
    [0]
abbrev ref8_number_r1 : NC := .reg
    (.q 1 (.str .eql) [(.slot 0), (.const (.string ⟨#[]⟩))] none
    (.q 3 .mv [(.slot 0)] (some ((.res 1), false))
    (.q 4 .lenz [(.res 3)] (some ((.res 1), false))
    (.q 5 (.icm .gtr) [(.res 4), (.const (.int .i64 9))] (some ((.res 1), false))
    (.q 6 .pick [(.res 1), (.const (.bool true)), (.res 5)] none
    (.q 8 .mv [(.slot 0)] (some ((.res 6), false))
    (.q 9 .idxs [(.res 8), (.const (.int .i64 0))] (some ((.res 6), false))
    (.q 10 (.icm .eql) [(.res 9), (.const (.int .u8 48))] (some ((.res 6), false))
    (.q 11 .pick [(.res 6), (.const (.bool true)), (.res 10)] none
    (.out [(0, (.slot 0)), (17, (.res 11))]))))))))))
    [0]
abbrev ref8_number_r2 : NC := .reg
    (.out [(2, (.const (.int .i64 0))), (3, (.const (.bool false)))])
    []
abbrev ref8_number_r3 : NC := .reg
    (.out [(0, (.slot 0)), (4, (.const (.int .i64 0)))])
    [0]
abbrev ref8_number_r4 : NC := .reg
    (.out [(0, (.slot 0)), (4, (.slot 4)), (5, (.const (.int .i64 0)))])
    [0, 4]
abbrev ref8_number_r5 : NC := .reg
    (.q 2 .lenz [(.slot 0)] none
    (.q 3 (.icm .lss) [(.slot 5), (.res 2)] none
    (.out [(0, (.slot 0)), (4, (.slot 4)), (5, (.slot 5)), (21, (.res 3))])))
    [0, 4, 5]
abbrev ref8_number_r6 : NC := .reg
    (.q 2 .idxs [(.slot 0), (.slot 5)] none
    (.q 3 (.icm .lss) [(.res 2), (.const (.int .u8 48))] none
    (.q 5 .mv [(.slot 0)] (some ((.res 3), false))
    (.q 6 .mv [(.slot 5)] (some ((.res 3), false))
    (.q 7 .idxs [(.res 5), (.res 6)] (some ((.res 3), false))
    (.q 8 (.icm .gtr) [(.res 7), (.const (.int .u8 57))] (some ((.res 3), false))
    (.q 9 .pick [(.res 3), (.const (.bool true)), (.res 8)] none
    (.out [(0, (.slot 0)), (4, (.slot 4)), (5, (.slot 5)), (33, (.res 9))]))))))))
    [0, 4, 5]
abbrev ref8_number_r7 : NC := .reg
    (.out [(2, (.const (.int .i64 0))), (3, (.const (.bool false)))])
    []
abbrev ref8_number_r8 : NC := .reg
    (.q 1 (.iar .mul) [(.slot 4), (.const (.int .i64 10))] none
    (.q 4 .idxs [(.slot 0), (.slot 5)] none
    (.q 5 (.iar .sub) [(.res 4), (.const (.int .u8 48))] none
    (.q 6 (.conv .i64) [(.res 5)] none
    (.q 7 (.iar .add) [(.res 1), (.res 6)] none
    (.out [(0, (.slot 0)), (4, (.res 7)), (5, (.slot 5))]))))))
    [0, 4, 5]
abbrev ref8_number_r9 : NC := .reg
    (.q 1 (.iar .add) [(.slot 5), (.const (.int .i64 1))] none
    (.out [(0, (.slot 0)), (4, (.slot 4)), (5, (.res 1))]))
    [0, 4, 5]
abbrev ref8_number_l0 : NC :=
  (.seq (.seq ref8_number_r5
  (.cond (.slot 21)
    .skip
    (.exit 0)))
  (.seq (.block 1 (.seq (.seq ref8_number_r6
  (.cond (.slot 33)
    (.seq ref8_number_r7
    .ret)
    .skip))
  ref8_number_r8))
  ref8_number_r9))
abbrev ref8_number_r10 : NC := .reg
    (.out [(2, (.slot 4)), (3, (.const (.bool true)))])
    [4]
abbrev ref8_number_c : NC :=
  (.seq ref8_number_r0
  (.seq (.seq ref8_number_r1
  (.cond (.slot 17)
    (.seq ref8_number_r2
    .ret)
    .skip))
  (.seq ref8_number_r3
  (.seq (.seq ref8_number_r4
  (.block 0 (.loop [0, 4, 5] ref8_number_l0)))
  (.seq ref8_number_r10
  .ret)))))
abbrev ref8_number_F : FN := ⟨ref8_number_c, [.slot 2, .slot 3]⟩
theorem ref8_number_ok : compF Tryz.prog Tryz.f80 = some ref8_number_F := by kernel_rfl
theorem ref8_number_go {args : List Value} {m : Mem} {R : Value → Mem → Prop} (hn : args.length ≤ Tryz.f80.ntmps) (h : wpN Tryz.prog ref8_number_c (retP ref8_number_F.rvs R) (zipP 0 args) m) : MC Tryz.prog 80 args m R := MC_start Tryz.func80 ref8_number_ok mixed_ok hn h
/-! concord/concordref8.Scan -/
abbrev ref8_Scan_r0 : NC := .reg
    (.out [(0, (.slot 0))])
    [0]
abbrev ref8_Scan_r1 : NC := .reg
    (.out [(0, (.slot 0)), (4, (.const (.slice none 0 0)))])
    [0]
abbrev ref8_Scan_r2 : NC := .reg
    (.out [(0, (.slot 0)), (4, (.slot 4)), (5, (.const (.int .i64 0)))])
    [0, 4]
abbrev ref8_Scan_r3 : NC := .reg
    (.x 2 (.call 100) [(.slot 0), (.slot 5)] none []
    (.q 4 (.ext 0) [(.res 2)] none
    (.q 5 (.ext 1) [(.res 2)] none
    (.q 6 (.ext 2) [(.res 2)] none
    (.out [(0, (.slot 0)), (4, (.slot 4)), (5, (.slot 5)), (6, (.res 4)), (7, (.res 5)), (8, (.res 6))])))))
    [0, 4, 5]
abbrev ref8_Scan_r4 : NC := .reg
    (.q 1 (.icm .neq) [(.slot 8), (.const (.int .i64 0))] none
    (.out [(0, (.slot 0)), (4, (.slot 4)), (5, (.slot 5)), (6, (.slot 6)), (7, (.slot 7)), (17, (.res 1))]))
    [0, 4, 5, 6, 7, 8]
abbrev ref8_Scan_r5 : NC := .reg
    (.out [(2, (.slot 4)), (3, (.slot 5))])
    [4, 5]
abbrev ref8_Scan_r6 : NC := .reg
    (.x 2 (.bsl 37 1 [(.slice none 0 0)] [(0, 1)]) [(.slot 6)] none []
    (.x 3 (.app 37 1 24 [(.slice none 0 0)]) [(.slot 4), (.res 2)] none []
    (.out [(0, (.slot 0)), (4, (.res 3)), (7, (.slot 7))])))
    [0, 4, 6, 7]
abbrev ref8_Scan_r7 : NC := .reg
    (.out [(0, (.slot 0)), (4, (.slot 4)), (5, (.slot 7))])
    [0, 4, 7]
abbrev ref8_Scan_l0 : NC :=
  (.block 1 (.seq ref8_Scan_r3
  (.seq (.seq ref8_Scan_r4
  (.cond (.slot 17)
    (.seq ref8_Scan_r5
    .ret)
    .skip))
  (.seq ref8_Scan_r6
  ref8_Scan_r7))))
abbrev ref8_Scan_c : NC :=
  (.seq ref8_Scan_r0
  (.seq ref8_Scan_r1
  (.seq ref8_Scan_r2
  (.block 0 (.loop [0, 4, 5] ref8_Scan_l0)))))
abbrev ref8_Scan_F : FN := ⟨ref8_Scan_c, [.slot 2, .slot 3]⟩
theorem ref8_Scan_ok : compF Tryz.prog Tryz.f81 = some ref8_Scan_F := by kernel_rfl
theorem ref8_Scan_go {args : List Value} {m : Mem} {R : Value → Mem → Prop} (hn : args.length ≤ Tryz.f81.ntmps) (h : wpN Tryz.prog ref8_Scan_c (retP ref8_Scan_F.rvs R) (zipP 0 args) m) : MC Tryz.prog 81 args m R := MC_start Tryz.func81 ref8_Scan_ok mixed_ok hn h
/-! concord/concordref1.Read -/
abbrev ref1_Read_r0 : NC := .reg
    (.out [(0, (.slot 0))])
    [0]
abbrev ref1_Read_r1 : NC := .reg
    (.q 1 (.bld [(.slice none 0 0), (.int .i64 0), (.int .i64 0)] [(0, 1)]) [(.slot 0)] none
    (.x 2 (.box 147) [(.res 1)] none []
    (.out [(2, (.res 2))])))
    [0]
abbrev ref1_Read_c : NC :=
  (.seq ref1_Read_r0
  (.seq ref1_Read_r1
  .ret))
abbrev ref1_Read_F : FN := ⟨ref1_Read_c, [.slot 2]⟩
theorem ref1_Read_ok : compF Tryz.prog Tryz.f82 = some ref1_Read_F := by kernel_rfl
theorem ref1_Read_go {args : List Value} {m : Mem} {R : Value → Mem → Prop} (hn : args.length ≤ Tryz.f82.ntmps) (h : wpN Tryz.prog ref1_Read_c (retP ref1_Read_F.rvs R) (zipP 0 args) m) : MC Tryz.prog 82 args m R := MC_start Tryz.func82 ref1_Read_ok mixed_ok hn h
/-! (*concord/concordref1.Reader).Num -/
abbrev ref1_Reader_Num_r0 : NC := .reg
    (.out [(0, (.slot 0))])
    [0]
abbrev ref1_Reader_Num_r1 : NC := .reg
    (.q 1 .nilck [(.slot 0)] none
    (.q 2 (.fld 2) [(.res 1)] none
    (.q 3 .ld [(.res 2)] none
    (.q 4 (.icm .neq) [(.res 3), (.const (.int .i64 0))] none
    (.out [(0, (.slot 0)), (10, (.res 4))])))))
    [0]
abbrev ref1_Reader_Num_r2 : NC := .reg
    (.out [(2, (.const (.int .i64 0)))])
    []
abbrev ref1_Reader_Num_r3 : NC := .reg
    (.out [(0, (.slot 0)), (3, (.const (.int .u64 0)))])
    [0]
abbrev ref1_Reader_Num_r4 : NC := .reg
    (.out [(0, (.slot 0)), (3, (.slot 3)), (4, (.const (.int .i64 0)))])
    [0, 3]
abbrev ref1_Reader_Num_r5 : NC := .reg
    (.q 1 .nilck [(.slot 0)] none
    (.q 2 (.fld 1) [(.res 1)] none
    (.q 3 .ld [(.res 2)] none
    (.q 5 (.iar .add) [(.res 3), (.slot 4)] none
    (.q 7 .nilck [(.slot 0)] none
    (.q 8 (.fld 0) [(.res 7)] none
    (.q 9 .ld [(.res 8)] none
    (.q 10 .len [(.res 9)] none
    (.q 11 (.icm .geq) [(.res 5), (.res 10)] none
    (.out [(0, (.slot 0)), (3, (.slot 3)), (4, (.slot 4)), (24, (.res 11))]))))))))))
    [0, 3, 4]
abbrev ref1_Reader_Num_r6 : NC := .reg
    (.x 1 (.call 101) [(.slot 0), (.const (.int .i64 3))] none []
    (.out []))
    [0]
abbrev ref1_Reader_Num_r7 : NC := .reg
    (.out [(2, (.const (.int .i64 0)))])
    []
abbrev ref1_Reader_Num_r8 : NC := .reg
    (.q 1 .nilck [(.slot 0)] none
    (.q 2 (.fld 0) [(.res 1)] none
    (.q 3 .ld [(.res 2)] none
    (.q 5 .nilck [(.slot 0)] none
    (.q 6 (.fld 1) [(.res 5)] none
    (.q 7 .ld [(.res 6)] none
    (.q 9 (.iar .add) [(.res 7), (.slot 4)] none
    (.q 10 (.ixs 1) [(.res 3), (.res 9)] none
    (.q 11 .ld [(.res 10)] none
    (.out [(0, (.slot 0)), (3, (.slot 3)), (4, (.slot 4)), (5, (.res 11))]))))))))))
    [0, 3, 4]
abbrev ref1_Reader_Num_r9 : NC := .reg
    (.q 1 (.icm .eql) [(.slot 4), (.const (.int .i64 9))] none
    (.q 3 .mv [(.slot 5)] (some ((.res 1), true))
    (.q 4 (.icm .gtr) [(.res 3), (.const (.int .u8 1))] (some ((.res 1), true))
    (.q 5 .pick [(.res 1), (.res 4), (.const (.bool false))] none
    (.q 7 .mv [(.slot 4)] (some ((.res 5), false))
    (.q 8 (.icm .gtr) [(.res 7), (.const (.int .i64 0))] (some ((.res 5), false))
    (.q 9 .mv [(.res 8)] (some ((.res 5), false))
    (.q 10 .mv [(.slot 5)] (some ((.res 9), true))
    (.q 11 (.icm .eql) [(.res 10), (.const (.int .u8 0))] (some ((.res 9), true))
    (.q 12 .pick [(.res 9), (.res 11), (.const (.bool false))] (some ((.res 5), false))
    (.q 13 .pick [(.res 5), (.const (.bool true)), (.res 12)] none
    (.out [(0, (.slot 0)), (3, (.slot 3)), (4, (.slot 4)), (5, (.slot 5)), (52, (.res 13))]))))))))))))
    [0, 3, 4, 5]
abbrev ref1_Reader_Num_r10 : NC := .reg
    (.x 1 (.call 101) [(.slot 0), (.const (.int .i64 4))] none []
    (.out []))
    [0]
abbrev ref1_Reader_Num_r11 : NC := .reg
    (.out [(2, (.const (.int .i64 0)))])
    []
abbrev ref1_Reader_Num_r12 : NC := .reg
    (.q 2 (.ibt .and) [(.slot 5), (.const (.int .u8 127))] none
    (.q 3 (.conv .u64) [(.res 2)] none
    (.q 5 (.iar .mul) [(.const (.int .i64 7)), (.slot 4)] none
    (.q 6 (.ish .shl) [(.res 3), (.res 5)] none
    (.q 7 (.ibt .or) [(.slot 3), (.res 6)] none
    (.out [(0, (.slot 0)), (3, (.res 7)), (4, (.slot 4)), (5, (.slot 5))]))))))
    [0, 3, 4, 5]
abbrev ref1_Reader_Num_r13 : NC := .reg
    (.q 1 (.icm .lss) [(.slot 5), (.const (.int .u8 128))] none
    (.out [(0, (.slot 0)), (3, (.slot 3)), (4, (.slot 4)), (64, (.res 1))]))
    [0, 3, 4, 5]
abbrev ref1_Reader_Num_r14 : NC := .reg
    (.q 2 .nilck [(.slot 0)] none
    (.q 3 (.fld 1) [(.res 2)] none
    (.q 4 .ld [(.res 3)] none
    (.q 6 (.iar .add) [(.res 4), (.slot 4)] none
    (.q 7 (.iar .add) [(.res 6), (.const (.int .i64 1))] none
    (.q 8 .nilck [(.slot 0)] none
    (.q 9 (.fld 1) [(.res 8)] none
    (.x 10 (.st 1) [(.res 9), (.res 7)] none []
    (.out [(3, (.slot 3))])))))))))
    [0, 3, 4]
abbrev ref1_Reader_Num_r15 : NC := .reg
    (.x 1 (.call 102) [(.slot 3)] none []
    (.out [(2, (.res 1))]))
    [3]
abbrev ref1_Reader_Num_r16 : NC := .reg
    (.q 1 (.iar .add) [(.slot 4), (.const (.int .i64 1))] none
    (.out [(0, (.slot 0)), (3, (.slot 3)), (4, (.res 1))]))
    [0, 3, 4]
abbrev ref1_Reader_Num_l0 : NC :=
  (.seq (.block 1 (.seq (.seq ref1_Reader_Num_r5
  (.cond (.slot 24)
    (.seq ref1_Reader_Num_r6
    (.seq ref1_Reader_Num_r7
    .ret))
    .skip))
  (.seq ref1_Reader_Num_r8
  (.seq (.seq ref1_Reader_Num_r9
  (.cond (.slot 52)
    (.seq ref1_Reader_Num_r10
    (.seq ref1_Reader_Num_r11
    .ret))
    .skip))
  (.seq ref1_Reader_Num_r12
  (.seq ref1_Reader_Num_r13
  (.cond (.slot 64)
    (.seq ref1_Reader_Num_r14
    (.seq ref1_Reader_Num_r15
    .ret))
    .skip)))))))
  ref1_Reader_Num_r16)
abbrev ref1_Reader_Num_c : NC :=
  (.seq ref1_Reader_Num_r0
  (.seq (.seq ref1_Reader_Num_r1
  (.cond (.slot 10)
    (.seq ref1_Reader_Num_r2
    .ret)
    .skip))
  (.seq ref1_Reader_Num_r3
  (.seq ref1_Reader_Num_r4
  (.block 0 (.loop [0, 3, 4] ref1_Reader_Num_l0))))))
abbrev ref1_Reader_Num_F : FN := ⟨ref1_Reader_Num_c, [.slot 2]⟩
theorem ref1_Reader_Num_ok : compF Tryz.prog Tryz.f83 = some ref1_Reader_Num_F := by kernel_rfl
theorem ref1_Reader_Num_go {args : List Value} {m : Mem} {R : Value → Mem → Prop} (hn : args.length ≤ Tryz.f83.ntmps) (h : wpN Tryz.prog ref1_Reader_Num_c (retP ref1_Reader_Num_F.rvs R) (zipP 0 args) m) : MC Tryz.prog 83 args m R := MC_start Tryz.func83 ref1_Reader_Num_ok mixed_ok hn h
/-! (*concord/concordref1.Reader).End -/
abbrev ref1_Reader_End_r0 : NC := .reg
    (.out [(0, (.slot 0))])
    [0]
abbrev ref1_Reader_End_r1 : NC := .reg
    (.q 1 .nilck [(.slot 0)] none
    (.q 2 (.fld 2) [(.res 1)] none
    (.q 3 .ld [(.res 2)] none
    (.q 4 (.icm .eql) [(.res 3), (.const (.int .i64 0))] none
    (.q 6 .mv [(.slot 0)] (some ((.res 4), true))
    (.q 7 .nilck [(.res 6)] (some ((.res 4), true))
    (.q 8 (.fld 1) [(.res 7)] (some ((.res 4), true))
    (.q 9 .ld [(.res 8)] (some ((.res 4), true))
    (.q 10 .mv [(.slot 0)] (some ((.res 4), true))
    (.q 11 .nilck [(.res 10)] (some ((.res 4), true))
    (.q 12 (.fld 0) [(.res 11)] (some ((.res 4), true))
    (.q 13 .ld [(.res 12)] (some ((.res 4), true))
    (.q 14 .len [(.res 13)] (some ((.res 4), true))
    (.q 15 (.icm .lss) [(.res 9), (.res 14)] (some ((.res 4), true))
    (.q 16 .pick [(.res 4), (.res 15), (.const (.bool false))] none
    (.out [(0, (.slot 0)), (19, (.res 16))]))))))))))))))))
    [0]
abbrev ref1_Reader_End_r2 : NC := .reg
    (.x 1 (.call 101) [(.slot 0), (.const (.int .i64 5))] none []
    (.out [(0, (.slot 0))]))
    [0]
abbrev ref1_Reader_End_r3 : NC := .reg
    (.q 1 .nilck [(.slot 0)] none
    (.q 2 (.fld 2) [(.res 1)] none
    (.q 3 .ld [(.res 2)] none
    (.out [(2, (.res 3))]))))
    [0]
abbrev ref1_Reader_End_c : NC :=
  (.seq ref1_Reader_End_r0
  (.seq (.seq ref1_Reader_End_r1
  (.cond (.slot 19)
    ref1_Reader_End_r2
    .skip))
  (.seq ref1_Reader_End_r3
  .ret)))
abbrev ref1_Reader_End_F : FN := ⟨ref1_Reader_End_c, [.slot 2]⟩
theorem ref1_Reader_End_ok : compF Tryz.prog Tryz.f84 = some ref1_Reader_End_F := by kernel_rfl
theorem ref1_Reader_End_go {args : List Value} {m : Mem} {R : Value → Mem → Prop} (hn : args.length ≤ Tryz.f84.ntmps) (h : wpN Tryz.prog ref1_Reader_End_c (retP ref1_Reader_End_F.rvs R) (zipP 0 args) m) : MC Tryz.prog 84 args m R := MC_start Tryz.func84 ref1_Reader_End_ok mixed_ok hn h
/-! (*concord/concordref8.Disk).at -/
abbrev ref8_Disk_at_r0 : NC := .reg
    (.out [(0, (.slot 0)), (1, (.slot 1))])
    [0, 1]
abbrev ref8_Disk_at_r1 : NC := .reg
    (.out [(0, (.slot 0)), (1, (.slot 1)), (5, (.const (.int .i64 0)))])
    [0, 1]
abbrev ref8_Disk_at_r2 : NC := .reg
    (.q 2 .nilck [(.slot 0)] none
    (.q 3 (.fld 0) [(.res 2)] none
    (.q 4 .ld [(.res 3)] none
    (.q 5 .len [(.res 4)] none
    (.q 6 (.icm .lss) [(.slot 5), (.res 5)] none
    (.out [(0, (.slot 0)), (1, (.slot 1)), (5, (.slot 5)), (12, (.res 6))]))))))
    [0, 1, 5]
abbrev ref8_Disk_at_r3 : NC := .reg
    (.q 1 .nilck [(.slot 0)] none
    (.q 2 (.fld 0) [(.res 1)] none
    (.q 3 .ld [(.res 2)] none
    (.q 5 (.ixs 3) [(.res 3), (.slot 5)] none
    (.q 6 (.fld 0) [(.res 5)] none
    (.q 7 .ld [(.res 6)] none
    (.q 9 (.str .eql) [(.res 7), (.slot 1)] none
    (.out [(0, (.slot 0)), (1, (.slot 1)), (5, (.slot 5)), (24, (.res 9))]))))))))
    [0, 1, 5]
abbrev ref8_Disk_at_r4 : NC := .reg
    (.out [(4, (.slot 5))])
    [5]
abbrev ref8_Disk_at_r5 : NC := .reg
    (.q 1 (.iar .add) [(.slot 5), (.const (.int .i64 1))] none
    (.out [(0, (.slot 0)), (1, (.slot 1)), (5, (.res 1))]))
    [0, 1, 5]
abbrev ref8_Disk_at_l0 : NC :=
  (.seq (.seq ref8_Disk_at_r2
  (.cond (.slot 12)
    .skip
    (.exit 0)))
  (.seq (.block 1 (.seq ref8_Disk_at_r3
  (.cond (.slot 24)
    (.seq ref8_Disk_at_r4
    .ret)
    .skip)))
  ref8_Disk_at_r5))
abbrev ref8_Disk_at_r6 : NC := .reg
    (.out [(4, (.const (.int .i64 (-1))))])
    []
abbrev ref8_Disk_at_c : NC :=
  (.seq ref8_Disk_at_r0
  (.seq (.seq ref8_Disk_at_r1
  (.block 0 (.loop [0, 1, 5] ref8_Disk_at_l0)))
  (.seq ref8_Disk_at_r6
  .ret)))
abbrev ref8_Disk_at_F : FN := ⟨ref8_Disk_at_c, [.slot 4]⟩
theorem ref8_Disk_at_ok : compF Tryz.prog Tryz.f85 = some ref8_Disk_at_F := by kernel_rfl
theorem ref8_Disk_at_go {args : List Value} {m : Mem} {R : Value → Mem → Prop} (hn : args.length ≤ Tryz.f85.ntmps) (h : wpN Tryz.prog ref8_Disk_at_c (retP ref8_Disk_at_F.rvs R) (zipP 0 args) m) : MC Tryz.prog 85 args m R := MC_start Tryz.func85 ref8_Disk_at_ok mixed_ok hn h
/-! (*concord/concordref8.Disk).out -/
abbrev ref8_Disk_out_r0 : NC := .reg
    (.q 3 .nilck [(.slot 0)] none
    (.q 4 (.fld 0) [(.res 3)] none
    (.q 5 .ld [(.res 4)] none
    (.q 7 (.slc 3 false true) [(.res 5), (.slot 1)] none
    (.q 10 .nilck [(.slot 0)] none
    (.q 11 (.fld 0) [(.res 10)] none
    (.q 12 .ld [(.res 11)] none
    (.q 14 (.iar .add) [(.slot 1), (.const (.int .i64 1))] none
    (.q 15 (.slc 3 true false) [(.res 12), (.res 14)] none
    (.x 1 (.bsl 91 0 [] []) [] none [(5, .ld, [(.res 4)], none), (12, .ld, [(.res 11)], none)]
    (.x 8 (.app 91 3 48 [(.string ⟨#[]⟩), (.slice none 0 0), (.int .i64 0)]) [(.res 1), (.res 7)] none [(12, .ld, [(.res 11)], none)]
    (.x 16 (.app 91 3 48 [(.string ⟨#[]⟩), (.slice none 0 0), (.int .i64 0)]) [(.res 8), (.res 15)] none []
    (.q 17 .nilck [(.slot 0)] none
    (.q 18 (.fld 0) [(.res 17)] none
    (.x 19 (.st 1) [(.res 18), (.res 16)] none []
    (.out []))))))))))))))))
    [0, 1]
abbrev ref8_Disk_out_c : NC :=
  ref8_Disk_out_r0
abbrev ref8_Disk_out_F : FN := ⟨ref8_Disk_out_c, []⟩
theorem ref8_Disk_out_ok : compF Tryz.prog Tryz.f86 = some ref8_Disk_out_F := by kernel_rfl
theorem ref8_Disk_out_go {args : List Value} {m : Mem} {R : Value → Mem → Prop} (hn : args.length ≤ Tryz.f86.ntmps) (h : wpN Tryz.prog ref8_Disk_out_c (retP ref8_Disk_out_F.rvs R) (zipP 0 args) m) : MC Tryz.prog 86 args m R := MC_start Tryz.func86 ref8_Disk_out_ok mixed_ok hn h
/-! concord/concordref8.Next -/
abbrev ref8_Next_r0 : NC := .reg
    (.out [(0, (.slot 0)), (1, (.slot 1))])
    [0, 1]
abbrev ref8_Next_r1 : NC := .reg
    (.q 1 (.icm .lss) [(.slot 1), (.const (.int .i64 0))] none
    (.q 3 .mv [(.slot 1)] (some ((.res 1), false))
    (.q 4 .mv [(.slot 0)] (some ((.res 1), false))
    (.q 5 .len [(.res 4)] (some ((.res 1), false))
    (.q 6 (.icm .gtr) [(.res 3), (.res 5)] (some ((.res 1), false))
    (.q 7 .pick [(.res 1), (.const (.bool true)), (.res 6)] none
    (.out [(0, (.slot 0)), (1, (.slot 1)), (19, (.res 7))])))))))
    [0, 1]
abbrev ref8_Next_r2 : NC := .reg
    (.out [(4, (.const (.slice none 0 0))), (5, (.const (.int .i64 0))), (6, (.const (.int .i64 1)))])
    []
abbrev ref8_Next_r3 : NC := .reg
    (.q 1 .len [(.slot 0)] none
    (.q 3 (.iar .sub) [(.res 1), (.slot 1)] none
    (.q 4 (.icm .lss) [(.res 3), (.const (.int .i64 2))] none
    (.out [(0, (.slot 0)), (1, (.slot 1)), (24, (.res 4))]))))
    [0, 1]
abbrev ref8_Next_r4 : NC := .reg
    (.out [(4, (.const (.slice none 0 0))), (5, (.const (.int .i64 0))), (6, (.const (.int .i64 3)))])
    []
abbrev ref8_Next_r5 : NC := .reg
    (.x 2 (.call 112) [(.slot 0), (.slot 1), (.const (.int .i64 2))] none []
    (.q 4 (.ext 0) [(.res 2)] none
    (.q 5 (.ext 1) [(.res 2)] none
    (.out [(0, (.slot 0)), (1, (.slot 1)), (7, (.res 4))]))))
    [0, 1]
abbrev ref8_Next_r6 : NC := .reg
    (.q 1 (.conv .i64) [(.slot 7)] none
    (.out [(0, (.slot 0)), (1, (.slot 1)), (9, (.res 1))]))
    [0, 1, 7]
abbrev ref8_Next_r7 : NC := .reg
    (.q 1 (.icm .eql) [(.slot 9), (.const (.int .i64 0))] none
    (.q 3 .mv [(.slot 9)] (some ((.res 1), false))
    (.q 4 (.icm .gtr) [(.res 3), (.const (.int .i64 16384))] (some ((.res 1), false))
    (.q 5 .pick [(.res 1), (.const (.bool true)), (.res 4)] none
    (.out [(0, (.slot 0)), (1, (.slot 1)), (9, (.slot 9)), (38, (.res 5))])))))
    [0, 1, 9]
abbrev ref8_Next_r8 : NC := .reg
    (.out [(4, (.const (.slice none 0 0))), (5, (.const (.int .i64 0))), (6, (.const (.int .i64 4)))])
    []
abbrev ref8_Next_r9 : NC := .reg
    (.q 1 .len [(.slot 0)] none
    (.q 3 (.iar .sub) [(.res 1), (.slot 1)] none
    (.q 5 (.iar .add) [(.slot 9), (.const (.int .i64 6))] none
    (.q 6 (.icm .lss) [(.res 3), (.res 5)] none
    (.out [(0, (.slot 0)), (1, (.slot 1)), (9, (.slot 9)), (45, (.res 6))])))))
    [0, 1, 9]
abbrev ref8_Next_r10 : NC := .reg
    (.out [(4, (.const (.slice none 0 0))), (5, (.const (.int .i64 0))), (6, (.const (.int .i64 3)))])
    []
abbrev ref8_Next_r11 : NC := .reg
    (.q 2 (.iar .add) [(.slot 1), (.const (.int .i64 2))] none
    (.q 4 (.iar .add) [(.res 2), (.slot 9)] none
    (.x 5 (.call 112) [(.slot 0), (.res 4), (.const (.int .i64 4))] none []
    (.q 7 (.ext 0) [(.res 5)] none
    (.q 8 (.ext 1) [(.res 5)] none
    (.out [(0, (.slot 0)), (1, (.slot 1)), (9, (.slot 9)), (10, (.res 7))]))))))
    [0, 1, 9]
abbrev ref8_Next_r12 : NC := .reg
    (.q 3 (.iar .add) [(.slot 1), (.const (.int .i64 2))] none
    (.q 5 (.iar .add) [(.res 3), (.slot 9)] none
    (.q 6 (.slc 1 true true) [(.slot 0), (.slot 1), (.res 5)] none
    (.x 7 (.call 33) [(.const (.int .u32 0)), (.res 6)] none []
    (.q 8 (.conv .u64) [(.res 7)] none
    (.q 10 (.icm .neq) [(.res 8), (.slot 10)] none
    (.out [(0, (.slot 0)), (1, (.slot 1)), (9, (.slot 9)), (65, (.res 10))])))))))
    [0, 1, 9, 10]
abbrev ref8_Next_r13 : NC := .reg
    (.out [(4, (.const (.slice none 0 0))), (5, (.const (.int .i64 0))), (6, (.const (.int .i64 6)))])
    []
abbrev ref8_Next_r14 : NC := .reg
    (.x 0 (.bsl 5 0 [] []) [] none []
    (.q 3 (.iar .add) [(.slot 1), (.const (.int .i64 2))] none
    (.q 5 (.iar .add) [(.slot 1), (.const (.int .i64 2))] none
    (.q 7 (.iar .add) [(.res 5), (.slot 9)] none
    (.q 8 (.slc 1 true true) [(.slot 0), (.res 3), (.res 7)] none
    (.x 9 (.app 5 1 1 [(.int .u8 0)]) [(.res 0), (.res 8)] none []
    (.q 11 (.iar .add) [(.slot 1), (.const (.int .i64 6))] none
    (.q 13 (.iar .add) [(.res 11), (.slot 9)] none
    (.out [(4, (.res 9)), (5, (.res 13)), (6, (.const (.int .i64 0)))])))))))))
    [0, 1, 9]
abbrev ref8_Next_c : NC :=
  (.seq ref8_Next_r0
  (.seq (.seq ref8_Next_r1
  (.cond (.slot 19)
    (.seq ref8_Next_r2
    .ret)
    .skip))
  (.seq (.seq ref8_Next_r3
  (.cond (.slot 24)
    (.seq ref8_Next_r4
    .ret)
    .skip))
  (.seq ref8_Next_r5
  (.seq ref8_Next_r6
  (.seq (.seq ref8_Next_r7
  (.cond (.slot 38)
    (.seq ref8_Next_r8
    .ret)
    .skip))
  (.seq (.seq ref8_Next_r9
  (.cond (.slot 45)
    (.seq ref8_Next_r10
    .ret)
    .skip))
  (.seq ref8_Next_r11
  (.seq (.seq ref8_Next_r12
  (.cond (.slot 65)
    (.seq ref8_Next_r13
    .ret)
    .skip))
  (.seq ref8_Next_r14
  .ret))))))))))
abbrev ref8_Next_F : FN := ⟨ref8_Next_c, [.slot 4, .slot 5, .slot 6]⟩
theorem ref8_Next_ok : compF Tryz.prog Tryz.f100 = some ref8_Next_F := by kernel_rfl
theorem ref8_Next_go {args : List Value} {m : Mem} {R : Value → Mem → Prop} (hn : args.length ≤ Tryz.f100.ntmps) (h : wpN Tryz.prog ref8_Next_c (retP ref8_Next_F.rvs R) (zipP 0 args) m) : MC Tryz.prog 100 args m R := MC_start Tryz.func100 ref8_Next_ok mixed_ok hn h
/-! (*concord/concordref1.Reader).fail -/
abbrev ref1_Reader_fail_r0 : NC := .reg
    (.q 1 .nilck [(.slot 0)] none
    (.q 2 (.fld 2) [(.res 1)] none
    (.q 3 .ld [(.res 2)] none
    (.q 4 (.icm .eql) [(.res 3), (.const (.int .i64 0))] none
    (.out [(0, (.slot 0)), (1, (.slot 1)), (8, (.res 4))])))))
    [0, 1]
abbrev ref1_Reader_fail_r1 : NC := .reg
    (.q 2 .nilck [(.slot 0)] none
    (.q 3 (.fld 2) [(.res 2)] none
    (.x 4 (.st 1) [(.res 3), (.slot 1)] none []
    (.out []))))
    [0, 1]
abbrev ref1_Reader_fail_c : NC :=
  (.seq ref1_Reader_fail_r0
  (.cond (.slot 8)
    ref1_Reader_fail_r1
    .skip))
abbrev ref1_Reader_fail_F : FN := ⟨ref1_Reader_fail_c, []⟩
theorem ref1_Reader_fail_ok : compF Tryz.prog Tryz.f101 = some ref1_Reader_fail_F := by kernel_rfl
theorem ref1_Reader_fail_go {args : List Value} {m : Mem} {R : Value → Mem → Prop} (hn : args.length ≤ Tryz.f101.ntmps) (h : wpN Tryz.prog ref1_Reader_fail_c (retP ref1_Reader_fail_F.rvs R) (zipP 0 args) m) : MC Tryz.prog 101 args m R := MC_start Tryz.func101 ref1_Reader_fail_ok mixed_ok hn h
/-! concord/concordref1.Zag -/
abbrev ref1_Zag_r0 : NC := .reg
    (.out [(0, (.slot 0))])
    [0]
abbrev ref1_Zag_r1 : NC := .reg
    (.q 1 (.ibt .and) [(.slot 0), (.const (.int .u64 1))] none
    (.q 2 (.icm .eql) [(.res 1), (.const (.int .u64 1))] none
    (.out [(0, (.slot 0)), (5, (.res 2))])))
    [0]
abbrev ref1_Zag_r2 : NC := .reg
    (.q 1 (.ish .shr) [(.slot 0), (.const (.int .u64 1))] none
    (.q 2 (.conv .i64) [(.res 1)] none
    (.q 3 .cpl [(.res 2)] none
    (.out [(2, (.res 3))]))))
    [0]
abbrev ref1_Zag_r3 : NC := .reg
    (.q 1 (.ish .shr) [(.slot 0), (.const (.int .u64 1))] none
    (.q 2 (.conv .i64) [(.res 1)] none
    (.out [(2, (.res 2))])))
    [0]
abbrev ref1_Zag_c : NC :=
  (.seq ref1_Zag_r0
  (.seq (.seq ref1_Zag_r1
  (.cond (.slot 5)
    (.seq ref1_Zag_r2
    .ret)
    .skip))
  (.seq ref1_Zag_r3
  .ret)))
abbrev ref1_Zag_F : FN := ⟨ref1_Zag_c, [.slot 2]⟩
theorem ref1_Zag_ok : compF Tryz.prog Tryz.f102 = some ref1_Zag_F := by kernel_rfl
theorem ref1_Zag_go {args : List Value} {m : Mem} {R : Value → Mem → Prop} (hn : args.length ≤ Tryz.f102.ntmps) (h : wpN Tryz.prog ref1_Zag_c (retP ref1_Zag_F.rvs R) (zipP 0 args) m) : MC Tryz.prog 102 args m R := MC_start Tryz.func102 ref1_Zag_ok mixed_ok hn h
/-! concord/concordref1.Get -/
abbrev ref1_Get_r0 : NC := .reg
    (.out [(0, (.slot 0)), (1, (.slot 1)), (2, (.slot 2))])
    [0, 1, 2]
abbrev ref1_Get_r1 : NC := .reg
    (.q 1 (.icm .lss) [(.slot 2), (.const (.int .i64 1))] none
    (.q 3 .mv [(.slot 2)] (some ((.res 1), false))
    (.q 4 (.icm .gtr) [(.res 3), (.const (.int .i64 8))] (some ((.res 1), false))
    (.q 5 .pick [(.res 1), (.const (.bool true)), (.res 4)] none
    (.q 7 .mv [(.slot 1)] (some ((.res 5), false))
    (.q 8 (.icm .lss) [(.res 7), (.const (.int .i64 0))] (some ((.res 5), false))
    (.q 9 .pick [(.res 5), (.const (.bool true)), (.res 8)] none
    (.q 11 .mv [(.slot 1)] (some ((.res 9), false))
    (.q 12 .mv [(.slot 0)] (some ((.res 9), false))
    (.q 13 .len [(.res 12)] (some ((.res 9), false))
    (.q 14 (.icm .gtr) [(.res 11), (.res 13)] (some ((.res 9), false))
    (.q 15 .pick [(.res 9), (.const (.bool true)), (.res 14)] none
    (.out [(0, (.slot 0)), (1, (.slot 1)), (2, (.slot 2)), (25, (.res 15))])))))))))))))
    [0, 1, 2]
abbrev ref1_Get_r2 : NC := .reg
    (.out [(6, (.const (.int .u64 0))), (7, (.const (.int .i64 1)))])
    []
abbrev ref1_Get_r3 : NC := .reg
    (.q 1 .len [(.slot 0)] none
    (.q 3 (.iar .sub) [(.res 1), (.slot 1)] none
    (.q 5 (.icm .lss) [(.res 3), (.slot 2)] none
    (.out [(0, (.slot 0)), (1, (.slot 1)), (2, (.slot 2)), (31, (.res 5))]))))
    [0, 1, 2]
abbrev ref1_Get_r4 : NC := .reg
    (.out [(6, (.const (.int .u64 0))), (7, (.const (.int .i64 3)))])
    []
abbrev ref1_Get_r5 : NC := .reg
    (.out [(0, (.slot 0)), (1, (.slot 1)), (2, (.slot 2)), (8, (.const (.int .u64 0)))])
    [0, 1, 2]
abbrev ref1_Get_r6 : NC := .reg
    (.q 1 (.iar .sub) [(.slot 2), (.const (.int .i64 1))] none
    (.out [(0, (.slot 0)), (1, (.slot 1)), (8, (.slot 8)), (9, (.res 1))]))
    [0, 1, 2, 8]
abbrev ref1_Get_r7 : NC := .reg
    (.q 1 (.icm .geq) [(.slot 9), (.const (.int .i64 0))] none
    (.out [(0, (.slot 0)), (1, (.slot 1)), (8, (.slot 8)), (9, (.slot 9)), (35, (.res 1))]))
    [0, 1, 8, 9]
abbrev ref1_Get_r8 : NC := .reg
    (.q 1 (.ish .shl) [(.slot 8), (.const (.int .u64 8))] none
    (.q 5 (.iar .add) [(.slot 1), (.slot 9)] none
    (.q 6 (.ixs 1) [(.slot 0), (.res 5)] none
    (.q 7 .ld [(.res 6)] none
    (.q 8 (.conv .u64) [(.res 7)] none
    (.q 9 (.ibt .or) [(.res 1), (.res 8)] none
    (.out [(0, (.slot 0)), (1, (.slot 1)), (8, (.res 9)), (9, (.slot 9))])))))))
    [0, 1, 8, 9]
abbrev ref1_Get_r9 : NC := .reg
    (.q 1 (.iar .sub) [(.slot 9), (.const (.int .i64 1))] none
    (.out [(0, (.slot 0)), (1, (.slot 1)), (8, (.slot 8)), (9, (.res 1))]))
    [0, 1, 8, 9]
abbrev ref1_Get_l0 : NC :=
  (.seq (.seq ref1_Get_r7
  (.cond (.slot 35)
    .skip
    (.exit 0)))
  (.seq (.block 1 ref1_Get_r8)
  ref1_Get_r9))
abbrev ref1_Get_r10 : NC := .reg
    (.out [(6, (.slot 8)), (7, (.const (.int .i64 0)))])
    [8]
abbrev ref1_Get_c : NC :=
  (.seq ref1_Get_r0
  (.seq (.seq ref1_Get_r1
  (.cond (.slot 25)
    (.seq ref1_Get_r2
    .ret)
    .skip))
  (.seq (.seq ref1_Get_r3
  (.cond (.slot 31)
    (.seq ref1_Get_r4
    .ret)
    .skip))
  (.seq ref1_Get_r5
  (.seq (.seq ref1_Get_r6
  (.block 0 (.loop [0, 1, 8, 9] ref1_Get_l0)))
  (.seq ref1_Get_r10
  .ret))))))
abbrev ref1_Get_F : FN := ⟨ref1_Get_c, [.slot 6, .slot 7]⟩
theorem ref1_Get_ok : compF Tryz.prog Tryz.f112 = some ref1_Get_F := by kernel_rfl
theorem ref1_Get_go {args : List Value} {m : Mem} {R : Value → Mem → Prop} (hn : args.length ≤ Tryz.f112.ntmps) (h : wpN Tryz.prog ref1_Get_c (retP ref1_Get_F.rvs R) (zipP 0 args) m) : MC Tryz.prog 112 args m R := MC_start Tryz.func112 ref1_Get_ok mixed_ok hn h
end Go.Fw
namespace Go.Fw
open Go.Proofs
/-! concord/disk.New -/
abbrev disk_New_r0 : NC := .reg
    (.out [(0, (.slot 0))])
    [0]
abbrev disk_New_r1 : NC := .reg
    (.q 1 (.icm .lss) [(.slot 0), (.const (.int .i64 0))] none
    (.q 3 .mv [(.slot 0)] (some ((.res 1), false))
    (.q 4 (.icm .gtr) [(.res 3), (.const (.int .i64 1048576))] (some ((.res 1), false))
    (.q 5 .pick [(.res 1), (.const (.bool true)), (.res 4)] none
    (.out [(0, (.slot 0)), (9, (.res 5))])))))
    [0]
abbrev disk_New_r2 : NC := .reg
    (.out [(2, (.const (.pointer none))), (3, (.const (.int .i64 1)))])
    []
abbrev disk_New_r3 : NC := .reg
    (.q 1 (.bld [(.int .i64 0), (.slice none 0 0), (.bool false), (.bool false), (.int .i64 0)] [(0, 1)]) [(.slot 0)] none
    (.x 2 (.box 69) [(.res 1)] none []
    (.out [(2, (.res 2)), (3, (.const (.int .i64 0)))])))
    [0]
abbrev disk_New_c : NC :=
  (.seq disk_New_r0
  (.seq (.seq disk_New_r1
  (.cond (.slot 9)
    (.seq disk_New_r2
    .ret)
    .skip))
  (.seq disk_New_r3
  .ret)))
abbrev disk_New_F : FN := ⟨disk_New_c, [.slot 2, .slot 3]⟩
theorem disk_New_ok : compF Tryz.prog Tryz.f6 = some disk_New_F := by kernel_rfl
theorem disk_New_go {args : List Value} {m : Mem} {R : Value → Mem → Prop} (hn : args.length ≤ Tryz.f6.ntmps) (h : wpN Tryz.prog disk_New_c (retP disk_New_F.rvs R) (zipP 0 args) m) : MC Tryz.prog 6 args m R := MC_start Tryz.func6 disk_New_ok mixed_ok hn h
/-! (*concord/disk.Disk).Append -/
abbrev disk_Disk_Append_r0 : NC := .reg
    (.out [(0, (.slot 0)), (1, (.slot 1)), (2, (.slot 2))])
    [0, 1, 2]
abbrev disk_Disk_Append_r1 : NC := .reg
    (.q 1 .nilck [(.slot 0)] none
    (.q 2 (.fld 2) [(.res 1)] none
    (.q 3 .ld [(.res 2)] none
    (.out [(0, (.slot 0)), (1, (.slot 1)), (2, (.slot 2)), (10, (.res 3))]))))
    [0, 1, 2]
abbrev disk_Disk_Append_r2 : NC := .reg
    (.out [(6, (.const (.int .i64 10)))])
    []
abbrev disk_Disk_Append_r3 : NC := .reg
    (.x 1 (.call 35) [(.slot 1)] none []
    (.q 2 .not [(.res 1)] none
    (.out [(0, (.slot 0)), (1, (.slot 1)), (2, (.slot 2)), (15, (.res 2))])))
    [0, 1, 2]
abbrev disk_Disk_Append_r4 : NC := .reg
    (.out [(6, (.const (.int .i64 11)))])
    []
abbrev disk_Disk_Append_r5 : NC := .reg
    (.q 1 .len [(.slot 2)] none
    (.x 3 (.call 36) [(.slot 0)] none []
    (.q 4 (.icm .gtr) [(.res 1), (.res 3)] none
    (.out [(0, (.slot 0)), (1, (.slot 1)), (2, (.slot 2)), (19, (.res 4))]))))
    [0, 1, 2]
abbrev disk_Disk_Append_r6 : NC := .reg
    (.out [(6, (.const (.int .i64 7)))])
    []
abbrev disk_Disk_Append_r7 : NC := .reg
    (.x 1 (.call 37) [(.slot 0)] none []
    (.out [(0, (.slot 0)), (1, (.slot 1)), (2, (.slot 2)), (7, (.res 1))]))
    [0, 1, 2]
abbrev disk_Disk_Append_r8 : NC := .reg
    (.q 1 (.icm .neq) [(.slot 7), (.const (.int .i64 0))] none
    (.out [(0, (.slot 0)), (1, (.slot 1)), (2, (.slot 2)), (7, (.slot 7)), (28, (.res 1))]))
    [0, 1, 2, 7]
abbrev disk_Disk_Append_r9 : NC := .reg
    (.out [(6, (.slot 7))])
    [7]
abbrev disk_Disk_Append_r10 : NC := .reg
    (.x 2 (.call 38) [(.slot 0), (.slot 1)] none []
    (.q 4 (.ext 0) [(.res 2)] none
    (.q 5 (.ext 1) [(.res 2)] none
    (.out [(0, (.slot 0)), (1, (.slot 1)), (2, (.slot 2)), (8, (.res 4)), (9, (.res 5))]))))
    [0, 1, 2]
abbrev disk_Disk_Append_r11 : NC := .reg
    (.q 1 .not [(.slot 9)] none
    (.out [(0, (.slot 0)), (1, (.slot 1)), (2, (.slot 2)), (8, (.slot 8)), (37, (.res 1))]))
    [0, 1, 2, 8, 9]
abbrev disk_Disk_Append_r12 : NC := .reg
    (.q 2 .nilck [(.slot 0)] none
    (.q 3 (.fld 1) [(.res 2)] none
    (.q 4 .ld [(.res 3)] none
    (.q 7 (.bld [(.string ⟨#[]⟩), (.slice none 0 0), (.int .i64 0)] [(0, 1)]) [(.slot 1)] none
    (.x 8 (.bsl 87 1 [(.string ⟨#[]⟩), (.slice none 0 0), (.int .i64 0)] [(0, 3)]) [(.res 7)] none []
    (.x 9 (.call 39) [(.res 4), (.slot 8), (.res 8)] none []
    (.q 10 .nilck [(.slot 0)] none
    (.q 11 (.fld 1) [(.res 10)] none
    (.x 12 (.st 1) [(.res 11), (.res 9)] none []
    (.out [(0, (.slot 0)), (2, (.slot 2)), (8, (.slot 8))]))))))))))
    [0, 1, 2, 8]
abbrev disk_Disk_Append_r13 : NC := .reg
    (.q 1 .nilck [(.slot 0)] none
    (.q 2 (.fld 1) [(.res 1)] none
    (.q 3 .ld [(.res 2)] none
    (.q 6 .nilck [(.slot 0)] none
    (.q 7 (.fld 1) [(.res 6)] none
    (.q 8 .ld [(.res 7)] none
    (.q 10 (.ixs 3) [(.res 8), (.slot 8)] none
    (.q 11 (.fld 1) [(.res 10)] none
    (.q 12 .ld [(.res 11)] none
    (.x 14 (.bsl 37 2 [(.slice none 0 0), (.slice none 0 0)] [(0, 1), (1, 1)]) [(.res 12), (.slot 2)] none [(3, .ld, [(.res 2)], none)]
    (.x 15 (.call 40) [(.res 14)] none [(3, .ld, [(.res 2)], none)]
    (.q 16 (.ixs 3) [(.res 3), (.slot 8)] none
    (.q 17 (.fld 1) [(.res 16)] none
    (.x 18 (.st 1) [(.res 17), (.res 15)] none []
    (.out [])))))))))))))))
    [0, 2, 8]
abbrev disk_Disk_Append_r14 : NC := .reg
    (.out [(6, (.const (.int .i64 0)))])
    []
abbrev disk_Disk_Append_c : NC :=
  (.seq disk_Disk_Append_r0
  (.seq (.block 0 (.seq disk_Disk_Append_r1
  (.cond (.slot 10)
    (.seq disk_Disk_Append_r2
    .ret)
    (.seq disk_Disk_Append_r3
    (.cond (.slot 15)
      (.seq disk_Disk_Append_r4
      .ret)
      (.seq disk_Disk_Append_r5
      (.cond (.slot 19)
        (.seq disk_Disk_Append_r6
        .ret)
        .skip)))))))
  (.seq (.seq disk_Disk_Append_r7
  (.seq disk_Disk_Append_r8
  (.cond (.slot 28)
    (.seq disk_Disk_Append_r9
    .ret)
    .skip)))
  (.seq disk_Disk_Append_r10
  (.seq (.seq disk_Disk_Append_r11
  (.cond (.slot 37)
    disk_Disk_Append_r12
    .skip))
  (.seq disk_Disk_Append_r13
  (.seq disk_Disk_Append_r14
  .ret)))))))
abbrev disk_Disk_Append_F : FN := ⟨disk_Disk_Append_c, [.slot 6]⟩
theorem disk_Disk_Append_ok : compF Tryz.prog Tryz.f13 = some disk_Disk_Append_F := by kernel_rfl
theorem disk_Disk_Append_go {args : List Value} {m : Mem} {R : Value → Mem → Prop} (hn : args.length ≤ Tryz.f13.ntmps) (h : wpN Tryz.prog disk_Disk_Append_c (retP disk_Disk_Append_F.rvs R) (zipP 0 args) m) : MC Tryz.prog 13 args m R := MC_start Tryz.func13 disk_Disk_Append_ok mixed_ok hn h
/-! (*concord/disk.Disk).Read -/
abbrev disk_Disk_Read_r0 : NC := .reg
    (.out [(0, (.slot 0)), (1, (.slot 1))])
    [0, 1]
abbrev disk_Disk_Read_r1 : NC := .reg
    (.x 2 (.call 38) [(.slot 0), (.slot 1)] none []
    (.q 4 (.ext 0) [(.res 2)] none
    (.q 5 (.ext 1) [(.res 2)] none
    (.out [(0, (.slot 0)), (6, (.res 4)), (7, (.res 5))]))))
    [0, 1]
abbrev disk_Disk_Read_r2 : NC := .reg
    (.q 1 .not [(.slot 7)] none
    (.out [(0, (.slot 0)), (6, (.slot 6)), (15, (.res 1))]))
    [0, 6, 7]
abbrev disk_Disk_Read_r3 : NC := .reg
    (.out [(4, (.const (.slice none 0 0))), (5, (.const (.bool false)))])
    []
abbrev disk_Disk_Read_r4 : NC := .reg
    (.q 1 .nilck [(.slot 0)] none
    (.q 2 (.fld 1) [(.res 1)] none
    (.q 3 .ld [(.res 2)] none
    (.q 5 (.ixs 3) [(.res 3), (.slot 6)] none
    (.q 6 (.fld 1) [(.res 5)] none
    (.q 7 .ld [(.res 6)] none
    (.x 8 (.call 65) [(.res 7)] none []
    (.out [(4, (.res 8)), (5, (.const (.bool true)))]))))))))
    [0, 6]
abbrev disk_Disk_Read_c : NC :=
  (.seq disk_Disk_Read_r0
  (.seq disk_Disk_Read_r1
  (.seq (.seq disk_Disk_Read_r2
  (.cond (.slot 15)
    (.seq disk_Disk_Read_r3
    .ret)
    .skip))
  (.seq disk_Disk_Read_r4
  .ret))))
abbrev disk_Disk_Read_F : FN := ⟨disk_Disk_Read_c, [.slot 4, .slot 5]⟩
theorem disk_Disk_Read_ok : compF Tryz.prog Tryz.f20 = some disk_Disk_Read_F := by kernel_rfl
theorem disk_Disk_Read_go {args : List Value} {m : Mem} {R : Value → Mem → Prop} (hn : args.length ≤ Tryz.f20.ntmps) (h : wpN Tryz.prog disk_Disk_Read_c (retP disk_Disk_Read_F.rvs R) (zipP 0 args) m) : MC Tryz.prog 20 args m R := MC_start Tryz.func20 disk_Disk_Read_ok mixed_ok hn h
/-! (*concord/disk.Disk).Names -/
abbrev disk_Disk_Names_r0 : NC := .reg
    (.out [(0, (.slot 0))])
    [0]
abbrev disk_Disk_Names_r1 : NC := .reg
    (.out [(0, (.slot 0)), (3, (.const (.slice none 0 0)))])
    [0]
abbrev disk_Disk_Names_r2 : NC := .reg
    (.q 1 .nilck [(.slot 0)] none
    (.q 2 (.fld 1) [(.res 1)] none
    (.q 3 .ld [(.res 2)] none
    (.q 4 .len [(.res 3)] none
    (.out [(3, (.slot 3)), (9, (.res 3)), (10, (.res 4)), (11, (.const (.int .i64 0)))])))))
    [0, 3]
abbrev disk_Disk_Names_r3 : NC := .reg
    (.q 0 (.icm .lss) [(.slot 11), (.slot 10)] none
    (.out [(3, (.slot 3)), (9, (.slot 9)), (10, (.slot 10)), (11, (.slot 11)), (12, (.res 0))]))
    [3, 9, 10, 11]
abbrev disk_Disk_Names_r4 : NC := .reg
    (.q 0 (.ixs 3) [(.slot 9), (.slot 11)] none
    (.q 1 (.lda 3) [(.res 0)] none
    (.x 2 (.alc [(.string ⟨#[]⟩), (.slice none 0 0), (.int .i64 0)] 87) [] none []
    (.x 3 (.st 3) [(.res 2), (.res 1)] none []
    (.out [(3, (.slot 3)), (5, (.res 2)), (9, (.slot 9)), (10, (.slot 10)), (11, (.slot 11))])))))
    [3, 9, 10, 11]
abbrev disk_Disk_Names_r5 : NC := .reg
    (.q 1 (.fld 0) [(.slot 5)] none
    (.q 2 .ld [(.res 1)] none
    (.x 3 (.bsl 9 1 [(.string ⟨#[]⟩)] [(0, 1)]) [(.res 2)] none []
    (.x 4 (.app 9 1 16 [(.string ⟨#[]⟩)]) [(.slot 3), (.res 3)] none []
    (.out [(3, (.res 4)), (9, (.slot 9)), (10, (.slot 10)), (11, (.slot 11))])))))
    [3, 5, 9, 10, 11]
abbrev disk_Disk_Names_r6 : NC := .reg
    (.q 0 (.iar .add) [(.slot 11), (.const (.int .i64 1))] none
    (.out [(3, (.slot 3)), (9, (.slot 9)), (10, (.slot 10)), (11, (.res 0))]))
    [3, 9, 10, 11]
abbrev disk_Disk_Names_l0 : NC :=
  (.seq disk_Disk_Names_r3
  (.seq (.cond (.slot 12)
    .skip
    (.exit 0))
  (.seq (.block 1 (.seq disk_Disk_Names_r4
  disk_Disk_Names_r5))
  disk_Disk_Names_r6)))
abbrev disk_Disk_Names_r7 : NC := .reg
    (.out [(2, (.slot 3))])
    [3]
abbrev disk_Disk_Names_c : NC :=
  (.seq disk_Disk_Names_r0
  (.seq disk_Disk_Names_r1
  (.seq (.seq disk_Disk_Names_r2
  (.block 0 (.loop [3, 9, 10, 11] disk_Disk_Names_l0)))
  (.seq disk_Disk_Names_r7
  .ret))))
abbrev disk_Disk_Names_F : FN := ⟨disk_Disk_Names_c, [.slot 2]⟩
theorem disk_Disk_Names_ok : compF Tryz.prog Tryz.f24 = some disk_Disk_Names_F := by kernel_rfl
theorem disk_Disk_Names_go {args : List Value} {m : Mem} {R : Value → Mem → Prop} (hn : args.length ≤ Tryz.f24.ntmps) (h : wpN Tryz.prog disk_Disk_Names_c (retP disk_Disk_Names_F.rvs R) (zipP 0 args) m) : MC Tryz.prog 24 args m R := MC_start Tryz.func24 disk_Disk_Names_ok mixed_ok hn h
/-! (*concord/disk.Disk).Arm -/
/-! (*concord/disk.Disk).Crash -/
/-! concord/disk.may -/
abbrev disk_may_r0 : NC := .reg
    (.out [(0, (.slot 0))])
    [0]
abbrev disk_may_r1 : NC := .reg
    (.q 1 (.str .eql) [(.slot 0), (.const (.string ⟨#[]⟩))] none
    (.q 3 .mv [(.slot 0)] (some ((.res 1), false))
    (.q 4 .lenz [(.res 3)] (some ((.res 1), false))
    (.q 5 (.icm .gtr) [(.res 4), (.const (.int .i64 24))] (some ((.res 1), false))
    (.q 6 .pick [(.res 1), (.const (.bool true)), (.res 5)] none
    (.out [(0, (.slot 0)), (10, (.res 6))]))))))
    [0]
abbrev disk_may_r2 : NC := .reg
    (.out [(2, (.const (.bool false)))])
    []
abbrev disk_may_r3 : NC := .reg
    (.q 1 .lenz [(.slot 0)] none
    (.out [(0, (.slot 0)), (12, (.res 1)), (13, (.const (.int .i64 0)))]))
    [0]
abbrev disk_may_r4 : NC := .reg
    (.q 0 (.icm .lss) [(.slot 13), (.slot 12)] none
    (.out [(0, (.slot 0)), (12, (.slot 12)), (13, (.slot 13)), (14, (.res 0))]))
    [0, 12, 13]
abbrev disk_may_r5 : NC := .reg
    (.out [(0, (.slot 0)), (3, (.slot 13)), (12, (.slot 12)), (13, (.slot 13))])
    [0, 12, 13]
abbrev disk_may_r6 : NC := .reg
    (.q 2 .idxs [(.slot 0), (.slot 3)] none
    (.q 3 (.icm .lss) [(.res 2), (.const (.int .u8 33))] none
    (.q 5 .mv [(.slot 0)] (some ((.res 3), false))
    (.q 6 .mv [(.slot 3)] (some ((.res 3), false))
    (.q 7 .idxs [(.res 5), (.res 6)] (some ((.res 3), false))
    (.q 8 (.icm .gtr) [(.res 7), (.const (.int .u8 126))] (some ((.res 3), false))
    (.q 9 .pick [(.res 3), (.const (.bool true)), (.res 8)] none
    (.out [(0, (.slot 0)), (12, (.slot 12)), (13, (.slot 13)), (25, (.res 9))]))))))))
    [0, 3, 12, 13]
abbrev disk_may_r7 : NC := .reg
    (.out [(2, (.const (.bool false)))])
    []
abbrev disk_may_r8 : NC := .reg
    (.q 0 (.iar .add) [(.slot 13), (.const (.int .i64 1))] none
    (.out [(0, (.slot 0)), (12, (.slot 12)), (13, (.res 0))]))
    [0, 12, 13]
abbrev disk_may_l0 : NC :=
  (.seq disk_may_r4
  (.seq (.cond (.slot 14)
    .skip
    (.exit 0))
  (.seq (.block 1 (.seq disk_may_r5
  (.seq disk_may_r6
  (.cond (.slot 25)
    (.seq disk_may_r7
    .ret)
    .skip))))
  disk_may_r8)))
abbrev disk_may_r9 : NC := .reg
    (.out [(2, (.const (.bool true)))])
    []
abbrev disk_may_c : NC :=
  (.seq disk_may_r0
  (.seq (.seq disk_may_r1
  (.cond (.slot 10)
    (.seq disk_may_r2
    .ret)
    .skip))
  (.seq (.seq disk_may_r3
  (.block 0 (.loop [0, 12, 13] disk_may_l0)))
  (.seq disk_may_r9
  .ret))))
abbrev disk_may_F : FN := ⟨disk_may_c, [.slot 2]⟩
theorem disk_may_ok : compF Tryz.prog Tryz.f35 = some disk_may_F := by kernel_rfl
theorem disk_may_go {args : List Value} {m : Mem} {R : Value → Mem → Prop} (hn : args.length ≤ Tryz.f35.ntmps) (h : wpN Tryz.prog disk_may_c (retP disk_may_F.rvs R) (zipP 0 args) m) : MC Tryz.prog 35 args m R := MC_start Tryz.func35 disk_may_ok mixed_ok hn h
/-! (*concord/disk.Disk).Room -/
abbrev disk_Disk_Room_r0 : NC := .reg
    (.out [(0, (.slot 0))])
    [0]
abbrev disk_Disk_Room_r1 : NC := .reg
    (.q 1 .nilck [(.slot 0)] none
    (.q 2 (.fld 0) [(.res 1)] none
    (.q 3 .ld [(.res 2)] none
    (.x 5 (.call 69) [(.slot 0)] none [(3, .ld, [(.res 2)], none)]
    (.q 6 (.iar .sub) [(.res 3), (.res 5)] none
    (.out [(2, (.res 6))]))))))
    [0]
abbrev disk_Disk_Room_c : NC :=
  (.seq disk_Disk_Room_r0
  (.seq disk_Disk_Room_r1
  .ret))
abbrev disk_Disk_Room_F : FN := ⟨disk_Disk_Room_c, [.slot 2]⟩
theorem disk_Disk_Room_ok : compF Tryz.prog Tryz.f36 = some disk_Disk_Room_F := by kernel_rfl
theorem disk_Disk_Room_go {args : List Value} {m : Mem} {R : Value → Mem → Prop} (hn : args.length ≤ Tryz.f36.ntmps) (h : wpN Tryz.prog disk_Disk_Room_c (retP disk_Disk_Room_F.rvs R) (zipP 0 args) m) : MC Tryz.prog 36 args m R := MC_start Tryz.func36 disk_Disk_Room_ok mixed_ok hn h
/-! (*concord/disk.Disk).power -/
abbrev disk_Disk_power_r0 : NC := .reg
    (.out [(0, (.slot 0))])
    [0]
abbrev disk_Disk_power_r1 : NC := .reg
    (.q 1 .nilck [(.slot 0)] none
    (.q 2 (.fld 3) [(.res 1)] none
    (.q 3 .ld [(.res 2)] none
    (.q 5 .mv [(.slot 0)] (some ((.res 3), true))
    (.q 6 .nilck [(.res 5)] (some ((.res 3), true))
    (.q 7 (.fld 4) [(.res 6)] (some ((.res 3), true))
    (.q 8 .ld [(.res 7)] (some ((.res 3), true))
    (.q 9 (.icm .eql) [(.res 8), (.const (.int .i64 0))] (some ((.res 3), true))
    (.q 10 .pick [(.res 3), (.res 9), (.const (.bool false))] none
    (.out [(0, (.slot 0)), (13, (.res 10))]))))))))))
    [0]
abbrev disk_Disk_power_r2 : NC := .reg
    (.q 1 .nilck [(.slot 0)] none
    (.q 2 (.fld 2) [(.res 1)] none
    (.x 3 (.st 1) [(.res 2), (.const (.bool true))] none []
    (.out []))))
    [0]
abbrev disk_Disk_power_r3 : NC := .reg
    (.out [(2, (.const (.int .i64 10)))])
    []
abbrev disk_Disk_power_r4 : NC := .reg
    (.q 1 .nilck [(.slot 0)] none
    (.q 2 (.fld 3) [(.res 1)] none
    (.q 3 .ld [(.res 2)] none
    (.out [(0, (.slot 0)), (20, (.res 3))]))))
    [0]
abbrev disk_Disk_power_r5 : NC := .reg
    (.q 1 .nilck [(.slot 0)] none
    (.q 2 (.fld 4) [(.res 1)] none
    (.q 3 .ld [(.res 2)] none
    (.q 4 (.iar .sub) [(.res 3), (.const (.int .i64 1))] none
    (.q 5 .nilck [(.slot 0)] none
    (.q 6 (.fld 4) [(.res 5)] none
    (.x 7 (.st 1) [(.res 6), (.res 4)] none []
    (.out []))))))))
    [0]
abbrev disk_Disk_power_r6 : NC := .reg
    (.out [(2, (.const (.int .i64 0)))])
    []
abbrev disk_Disk_power_c : NC :=
  (.seq disk_Disk_power_r0
  (.seq (.seq disk_Disk_power_r1
  (.cond (.slot 13)
    (.seq disk_Disk_power_r2
    (.seq disk_Disk_power_r3
    .ret))
    .skip))
  (.seq (.seq disk_Disk_power_r4
  (.cond (.slot 20)
    disk_Disk_power_r5
    .skip))
  (.seq disk_Disk_power_r6
  .ret))))
abbrev disk_Disk_power_F : FN := ⟨disk_Disk_power_c, [.slot 2]⟩
theorem disk_Disk_power_ok : compF Tryz.prog Tryz.f37 = some disk_Disk_power_F := by kernel_rfl
theorem disk_Disk_power_go {args : List Value} {m : Mem} {R : Value → Mem → Prop} (hn : args.length ≤ Tryz.f37.ntmps) (h : wpN Tryz.prog disk_Disk_power_c (retP disk_Disk_power_F.rvs R) (zipP 0 args) m) : MC Tryz.prog 37 args m R := MC_start Tryz.func37 disk_Disk_power_ok mixed_ok hn h
/-! (*concord/disk.Disk).find -/
abbrev disk_Disk_find_r0 : NC := .reg
    (.out [(0, (.slot 0)), (1, (.slot 1))])
    [0, 1]
abbrev disk_Disk_find_r1 : NC := .reg
    (.q 1 .nilck [(.slot 0)] none
    (.q 2 (.fld 1) [(.res 1)] none
    (.q 3 .ld [(.res 2)] none
    (.q 4 .len [(.res 3)] none
    (.out [(0, (.slot 0)), (1, (.slot 1)), (11, (.res 3)), (12, (.res 4)), (13, (.const (.int .i64 0)))])))))
    [0, 1]
abbrev disk_Disk_find_r2 : NC := .reg
    (.q 0 (.icm .lss) [(.slot 13), (.slot 12)] none
    (.out [(0, (.slot 0)), (1, (.slot 1)), (11, (.slot 11)), (12, (.slot 12)), (13, (.slot 13)), (14, (.res 0))]))
    [0, 1, 11, 12, 13]
abbrev disk_Disk_find_r3 : NC := .reg
    (.q 1 (.ixs 3) [(.slot 11), (.slot 13)] none
    (.q 2 (.lda 3) [(.res 1)] none
    (.x 3 (.alc [(.string ⟨#[]⟩), (.slice none 0 0), (.int .i64 0)] 87) [] none []
    (.x 5 (.st 3) [(.res 3), (.res 2)] none []
    (.out [(0, (.slot 0)), (1, (.slot 1)), (6, (.slot 13)), (7, (.res 3)), (11, (.slot 11)), (12, (.slot 12)), (13, (.slot 13))])))))
    [0, 1, 11, 12, 13]
abbrev disk_Disk_find_r4 : NC := .reg
    (.q 0 (.fld 0) [(.slot 7)] none
    (.q 1 .ld [(.res 0)] none
    (.q 3 (.str .geq) [(.res 1), (.slot 1)] none
    (.out [(0, (.slot 0)), (1, (.slot 1)), (6, (.slot 6)), (7, (.slot 7)), (11, (.slot 11)), (12, (.slot 12)), (13, (.slot 13)), (21, (.res 3))]))))
    [0, 1, 6, 7, 11, 12, 13]
abbrev disk_Disk_find_r5 : NC := .reg
    (.q 1 (.fld 0) [(.slot 7)] none
    (.q 2 .ld [(.res 1)] none
    (.q 4 (.str .eql) [(.res 2), (.slot 1)] none
    (.out [(4, (.slot 6)), (5, (.res 4))]))))
    [1, 6, 7]
abbrev disk_Disk_find_r6 : NC := .reg
    (.q 0 (.iar .add) [(.slot 13), (.const (.int .i64 1))] none
    (.out [(0, (.slot 0)), (1, (.slot 1)), (11, (.slot 11)), (12, (.slot 12)), (13, (.res 0))]))
    [0, 1, 11, 12, 13]
abbrev disk_Disk_find_l0 : NC :=
  (.seq disk_Disk_find_r2
  (.seq (.cond (.slot 14)
    .skip
    (.exit 0))
  (.seq (.block 1 (.seq disk_Disk_find_r3
  (.seq disk_Disk_find_r4
  (.cond (.slot 21)
    (.seq disk_Disk_find_r5
    .ret)
    .skip))))
  disk_Disk_find_r6)))
abbrev disk_Disk_find_r7 : NC := .reg
    (.q 1 .nilck [(.slot 0)] none
    (.q 2 (.fld 1) [(.res 1)] none
    (.q 3 .ld [(.res 2)] none
    (.q 4 .len [(.res 3)] none
    (.out [(4, (.res 4)), (5, (.const (.bool false)))])))))
    [0]
abbrev disk_Disk_find_c : NC :=
  (.seq disk_Disk_find_r0
  (.seq (.seq disk_Disk_find_r1
  (.block 0 (.loop [0, 1, 11, 12, 13] disk_Disk_find_l0)))
  (.seq disk_Disk_find_r7
  .ret)))
abbrev disk_Disk_find_F : FN := ⟨disk_Disk_find_c, [.slot 4, .slot 5]⟩
theorem disk_Disk_find_ok : compF Tryz.prog Tryz.f38 = some disk_Disk_find_F := by kernel_rfl
theorem disk_Disk_find_go {args : List Value} {m : Mem} {R : Value → Mem → Prop} (hn : args.length ≤ Tryz.f38.ntmps) (h : wpN Tryz.prog disk_Disk_find_c (retP disk_Disk_find_F.rvs R) (zipP 0 args) m) : MC Tryz.prog 38 args m R := MC_start Tryz.func38 disk_Disk_find_ok mixed_ok hn h
/-! (*concord/disk.Disk).Cut -/
abbrev disk_Disk_Cut_r0 : NC := .reg
    (.out [(0, (.slot 0)), (1, (.slot 1)), (2, (.slot 2))])
    [0, 1, 2]
abbrev disk_Disk_Cut_r1 : NC := .reg
    (.x 2 (.call 79) [(.slot 0), (.slot 1)] none []
    (.q 4 (.ext 0) [(.res 2)] none
    (.q 5 (.ext 1) [(.res 2)] none
    (.out [(0, (.slot 0)), (2, (.slot 2)), (7, (.res 4)), (8, (.res 5))]))))
    [0, 1, 2]
abbrev disk_Disk_Cut_r2 : NC := .reg
    (.q 1 (.icm .eql) [(.slot 8), (.const (.int .i64 0))] none
    (.q 3 .mv [(.slot 2)] (some ((.res 1), true))
    (.q 4 (.icm .lss) [(.res 3), (.const (.int .i64 0))] (some ((.res 1), true))
    (.q 5 .mv [(.res 4)] (some ((.res 1), true))
    (.q 6 .mv [(.slot 2)] (some ((.res 5), false))
    (.q 7 .mv [(.slot 0)] (some ((.res 5), false))
    (.q 8 .nilck [(.res 7)] (some ((.res 5), false))
    (.q 9 (.fld 1) [(.res 8)] (some ((.res 5), false))
    (.q 10 .ld [(.res 9)] (some ((.res 5), false))
    (.q 11 .mv [(.slot 7)] (some ((.res 5), false))
    (.q 12 (.ixs 3) [(.res 10), (.res 11)] (some ((.res 5), false))
    (.q 13 (.fld 1) [(.res 12)] (some ((.res 5), false))
    (.q 14 .ld [(.res 13)] (some ((.res 5), false))
    (.q 15 .len [(.res 14)] (some ((.res 5), false))
    (.q 16 (.icm .gtr) [(.res 6), (.res 15)] (some ((.res 5), false))
    (.q 17 .pick [(.res 5), (.const (.bool true)), (.res 16)] (some ((.res 1), true))
    (.q 18 .pick [(.res 1), (.res 17), (.const (.bool false))] none
    (.out [(0, (.slot 0)), (2, (.slot 2)), (7, (.slot 7)), (8, (.slot 8)), (34, (.res 18))]))))))))))))))))))
    [0, 2, 7, 8]
abbrev disk_Disk_Cut_r3 : NC := .reg
    (.out [(0, (.slot 0)), (2, (.slot 2)), (7, (.slot 7)), (8, (.const (.int .i64 1)))])
    [0, 2, 7]
abbrev disk_Disk_Cut_r4 : NC := .reg
    (.q 1 (.icm .eql) [(.slot 8), (.const (.int .i64 0))] none
    (.out [(0, (.slot 0)), (2, (.slot 2)), (7, (.slot 7)), (8, (.slot 8)), (36, (.res 1))]))
    [0, 2, 7, 8]
abbrev disk_Disk_Cut_r5 : NC := .reg
    (.x 1 (.call 37) [(.slot 0)] none []
    (.out [(0, (.slot 0)), (2, (.slot 2)), (7, (.slot 7)), (8, (.res 1))]))
    [0, 2, 7]
abbrev disk_Disk_Cut_r6 : NC := .reg
    (.q 1 (.icm .eql) [(.slot 8), (.const (.int .i64 0))] none
    (.out [(0, (.slot 0)), (2, (.slot 2)), (7, (.slot 7)), (8, (.slot 8)), (40, (.res 1))]))
    [0, 2, 7, 8]
abbrev disk_Disk_Cut_r7 : NC := .reg
    (.q 1 .nilck [(.slot 0)] none
    (.q 2 (.fld 1) [(.res 1)] none
    (.q 3 .ld [(.res 2)] none
    (.q 5 (.ixs 3) [(.res 3), (.slot 7)] none
    (.out [(2, (.slot 2)), (8, (.slot 8)), (9, (.res 5))])))))
    [0, 2, 7, 8]
abbrev disk_Disk_Cut_r8 : NC := .reg
    (.q 2 .nilck [(.slot 9)] none
    (.q 3 (.fld 1) [(.res 2)] none
    (.q 4 .ld [(.res 3)] none
    (.q 6 (.slc 1 false true) [(.res 4), (.slot 2)] none
    (.x 7 (.call 65) [(.res 6)] none []
    (.q 8 .nilck [(.slot 9)] none
    (.q 9 (.fld 1) [(.res 8)] none
    (.x 10 (.st 1) [(.res 9), (.res 7)] none []
    (.out [(2, (.slot 2)), (8, (.slot 8)), (9, (.slot 9))])))))))))
    [2, 8, 9]
abbrev disk_Disk_Cut_r9 : NC := .reg
    (.q 2 .nilck [(.slot 9)] none
    (.q 3 (.fld 2) [(.res 2)] none
    (.q 4 .ld [(.res 3)] none
    (.q 6 .mn [(.res 4), (.slot 2)] none
    (.q 7 .nilck [(.slot 9)] none
    (.q 8 (.fld 2) [(.res 7)] none
    (.x 9 (.st 1) [(.res 8), (.res 6)] none []
    (.out [(8, (.slot 8))]))))))))
    [2, 8, 9]
abbrev disk_Disk_Cut_r10 : NC := .reg
    (.out [(6, (.slot 8))])
    [8]
abbrev disk_Disk_Cut_c : NC :=
  (.seq disk_Disk_Cut_r0
  (.seq disk_Disk_Cut_r1
  (.seq (.seq disk_Disk_Cut_r2
  (.cond (.slot 34)
    disk_Disk_Cut_r3
    .skip))
  (.seq (.seq disk_Disk_Cut_r4
  (.cond (.slot 36)
    disk_Disk_Cut_r5
    .skip))
  (.seq (.seq disk_Disk_Cut_r6
  (.cond (.slot 40)
    (.seq disk_Disk_Cut_r7
    (.seq disk_Disk_Cut_r8
    disk_Disk_Cut_r9))
    .skip))
  (.seq disk_Disk_Cut_r10
  .ret))))))
abbrev disk_Disk_Cut_F : FN := ⟨disk_Disk_Cut_c, [.slot 6]⟩
theorem disk_Disk_Cut_ok : compF Tryz.prog Tryz.f49 = some disk_Disk_Cut_F := by kernel_rfl
theorem disk_Disk_Cut_go {args : List Value} {m : Mem} {R : Value → Mem → Prop} (hn : args.length ≤ Tryz.f49.ntmps) (h : wpN Tryz.prog disk_Disk_Cut_c (retP disk_Disk_Cut_F.rvs R) (zipP 0 args) m) : MC Tryz.prog 49 args m R := MC_start Tryz.func49 disk_Disk_Cut_ok mixed_ok hn h
/-! (*concord/disk.Disk).Sync -/
abbrev disk_Disk_Sync_r0 : NC := .reg
    (.out [(0, (.slot 0)), (1, (.slot 1))])
    [0, 1]
abbrev disk_Disk_Sync_r1 : NC := .reg
    (.x 2 (.call 79) [(.slot 0), (.slot 1)] none []
    (.q 4 (.ext 0) [(.res 2)] none
    (.q 5 (.ext 1) [(.res 2)] none
    (.out [(0, (.slot 0)), (5, (.res 4)), (6, (.res 5))]))))
    [0, 1]
abbrev disk_Disk_Sync_r2 : NC := .reg
    (.q 1 (.icm .eql) [(.slot 6), (.const (.int .i64 0))] none
    (.out [(0, (.slot 0)), (5, (.slot 5)), (6, (.slot 6)), (14, (.res 1))]))
    [0, 5, 6]
abbrev disk_Disk_Sync_r3 : NC := .reg
    (.x 1 (.call 37) [(.slot 0)] none []
    (.out [(0, (.slot 0)), (5, (.slot 5)), (6, (.res 1))]))
    [0, 5]
abbrev disk_Disk_Sync_r4 : NC := .reg
    (.q 1 (.icm .eql) [(.slot 6), (.const (.int .i64 0))] none
    (.out [(0, (.slot 0)), (5, (.slot 5)), (6, (.slot 6)), (18, (.res 1))]))
    [0, 5, 6]
abbrev disk_Disk_Sync_r5 : NC := .reg
    (.q 1 .nilck [(.slot 0)] none
    (.q 2 (.fld 1) [(.res 1)] none
    (.q 3 .ld [(.res 2)] none
    (.q 6 .nilck [(.slot 0)] none
    (.q 7 (.fld 1) [(.res 6)] none
    (.q 8 .ld [(.res 7)] none
    (.q 10 (.ixs 3) [(.res 8), (.slot 5)] none
    (.q 11 (.fld 1) [(.res 10)] none
    (.q 12 .ld [(.res 11)] none
    (.q 13 .len [(.res 12)] none
    (.q 14 (.ixs 3) [(.res 3), (.slot 5)] none
    (.q 15 (.fld 2) [(.res 14)] none
    (.x 16 (.st 1) [(.res 15), (.res 13)] none []
    (.out [(6, (.slot 6))]))))))))))))))
    [0, 5, 6]
abbrev disk_Disk_Sync_r6 : NC := .reg
    (.out [(4, (.slot 6))])
    [6]
abbrev disk_Disk_Sync_c : NC :=
  (.seq disk_Disk_Sync_r0
  (.seq disk_Disk_Sync_r1
  (.seq (.seq disk_Disk_Sync_r2
  (.cond (.slot 14)
    disk_Disk_Sync_r3
    .skip))
  (.seq (.seq disk_Disk_Sync_r4
  (.cond (.slot 18)
    disk_Disk_Sync_r5
    .skip))
  (.seq disk_Disk_Sync_r6
  .ret)))))
abbrev disk_Disk_Sync_F : FN := ⟨disk_Disk_Sync_c, [.slot 4]⟩
theorem disk_Disk_Sync_ok : compF Tryz.prog Tryz.f50 = some disk_Disk_Sync_F := by kernel_rfl
theorem disk_Disk_Sync_go {args : List Value} {m : Mem} {R : Value → Mem → Prop} (hn : args.length ≤ Tryz.f50.ntmps) (h : wpN Tryz.prog disk_Disk_Sync_c (retP disk_Disk_Sync_F.rvs R) (zipP 0 args) m) : MC Tryz.prog 50 args m R := MC_start Tryz.func50 disk_Disk_Sync_ok mixed_ok hn h
/-! (*concord/disk.Disk).Remove -/
abbrev disk_Disk_Remove_r0 : NC := .reg
    (.out [(0, (.slot 0)), (1, (.slot 1))])
    [0, 1]
abbrev disk_Disk_Remove_r1 : NC := .reg
    (.x 2 (.call 79) [(.slot 0), (.slot 1)] none []
    (.q 4 (.ext 0) [(.res 2)] none
    (.q 5 (.ext 1) [(.res 2)] none
    (.out [(0, (.slot 0)), (5, (.res 4)), (6, (.res 5))]))))
    [0, 1]
abbrev disk_Disk_Remove_r2 : NC := .reg
    (.q 1 (.icm .eql) [(.slot 6), (.const (.int .i64 0))] none
    (.out [(0, (.slot 0)), (5, (.slot 5)), (6, (.slot 6)), (14, (.res 1))]))
    [0, 5, 6]
abbrev disk_Disk_Remove_r3 : NC := .reg
    (.x 1 (.call 37) [(.slot 0)] none []
    (.out [(0, (.slot 0)), (5, (.slot 5)), (6, (.res 1))]))
    [0, 5]
abbrev disk_Disk_Remove_r4 : NC := .reg
    (.q 1 (.icm .eql) [(.slot 6), (.const (.int .i64 0))] none
    (.out [(0, (.slot 0)), (5, (.slot 5)), (6, (.slot 6)), (18, (.res 1))]))
    [0, 5, 6]
abbrev disk_Disk_Remove_r5 : NC := .reg
    (.q 2 .nilck [(.slot 0)] none
    (.q 3 (.fld 1) [(.res 2)] none
    (.q 4 .ld [(.res 3)] none
    (.q 7 (.iar .add) [(.slot 5), (.const (.int .i64 1))] none
    (.x 8 (.call 91) [(.res 4), (.slot 5), (.res 7)] none []
    (.q 9 .nilck [(.slot 0)] none
    (.q 10 (.fld 1) [(.res 9)] none
    (.x 11 (.st 1) [(.res 10), (.res 8)] none []
    (.out [(6, (.slot 6))])))))))))
    [0, 5, 6]
abbrev disk_Disk_Remove_r6 : NC := .reg
    (.out [(4, (.slot 6))])
    [6]
abbrev disk_Disk_Remove_c : NC :=
  (.seq disk_Disk_Remove_r0
  (.seq disk_Disk_Remove_r1
  (.seq (.seq disk_Disk_Remove_r2
  (.cond (.slot 14)
    disk_Disk_Remove_r3
    .skip))
  (.seq (.seq disk_Disk_Remove_r4
  (.cond (.slot 18)
    disk_Disk_Remove_r5
    .skip))
  (.seq disk_Disk_Remove_r6
  .ret)))))
abbrev disk_Disk_Remove_F : FN := ⟨disk_Disk_Remove_c, [.slot 4]⟩
theorem disk_Disk_Remove_ok : compF Tryz.prog Tryz.f64 = some disk_Disk_Remove_F := by kernel_rfl
theorem disk_Disk_Remove_go {args : List Value} {m : Mem} {R : Value → Mem → Prop} (hn : args.length ≤ Tryz.f64.ntmps) (h : wpN Tryz.prog disk_Disk_Remove_c (retP disk_Disk_Remove_F.rvs R) (zipP 0 args) m) : MC Tryz.prog 64 args m R := MC_start Tryz.func64 disk_Disk_Remove_ok mixed_ok hn h
/-! (*concord/disk.Disk).Total -/
abbrev disk_Disk_Total_r0 : NC := .reg
    (.out [(0, (.slot 0))])
    [0]
abbrev disk_Disk_Total_r1 : NC := .reg
    (.out [(0, (.slot 0)), (3, (.const (.int .i64 0)))])
    [0]
abbrev disk_Disk_Total_r2 : NC := .reg
    (.q 1 .nilck [(.slot 0)] none
    (.q 2 (.fld 1) [(.res 1)] none
    (.q 3 .ld [(.res 2)] none
    (.q 4 .len [(.res 3)] none
    (.out [(3, (.slot 3)), (9, (.res 3)), (10, (.res 4)), (11, (.const (.int .i64 0)))])))))
    [0, 3]
abbrev disk_Disk_Total_r3 : NC := .reg
    (.q 0 (.icm .lss) [(.slot 11), (.slot 10)] none
    (.out [(3, (.slot 3)), (9, (.slot 9)), (10, (.slot 10)), (11, (.slot 11)), (12, (.res 0))]))
    [3, 9, 10, 11]
abbrev disk_Disk_Total_r4 : NC := .reg
    (.q 0 (.ixs 3) [(.slot 9), (.slot 11)] none
    (.q 1 (.lda 3) [(.res 0)] none
    (.x 2 (.alc [(.string ⟨#[]⟩), (.slice none 0 0), (.int .i64 0)] 87) [] none []
    (.x 3 (.st 3) [(.res 2), (.res 1)] none []
    (.out [(3, (.slot 3)), (5, (.res 2)), (9, (.slot 9)), (10, (.slot 10)), (11, (.slot 11))])))))
    [3, 9, 10, 11]
abbrev disk_Disk_Total_r5 : NC := .reg
    (.q 1 (.fld 1) [(.slot 5)] none
    (.q 2 .ld [(.res 1)] none
    (.q 3 .len [(.res 2)] none
    (.q 4 (.iar .add) [(.slot 3), (.res 3)] none
    (.out [(3, (.res 4)), (9, (.slot 9)), (10, (.slot 10)), (11, (.slot 11))])))))
    [3, 5, 9, 10, 11]
abbrev disk_Disk_Total_r6 : NC := .reg
    (.q 0 (.iar .add) [(.slot 11), (.const (.int .i64 1))] none
    (.out [(3, (.slot 3)), (9, (.slot 9)), (10, (.slot 10)), (11, (.res 0))]))
    [3, 9, 10, 11]
abbrev disk_Disk_Total_l0 : NC :=
  (.seq disk_Disk_Total_r3
  (.seq (.cond (.slot 12)
    .skip
    (.exit 0))
  (.seq (.block 1 (.seq disk_Disk_Total_r4
  disk_Disk_Total_r5))
  disk_Disk_Total_r6)))
abbrev disk_Disk_Total_r7 : NC := .reg
    (.out [(2, (.slot 3))])
    [3]
abbrev disk_Disk_Total_c : NC :=
  (.seq disk_Disk_Total_r0
  (.seq disk_Disk_Total_r1
  (.seq (.seq disk_Disk_Total_r2
  (.block 0 (.loop [3, 9, 10, 11] disk_Disk_Total_l0)))
  (.seq disk_Disk_Total_r7
  .ret))))
abbrev disk_Disk_Total_F : FN := ⟨disk_Disk_Total_c, [.slot 2]⟩
theorem disk_Disk_Total_ok : compF Tryz.prog Tryz.f69 = some disk_Disk_Total_F := by kernel_rfl
theorem disk_Disk_Total_go {args : List Value} {m : Mem} {R : Value → Mem → Prop} (hn : args.length ≤ Tryz.f69.ntmps) (h : wpN Tryz.prog disk_Disk_Total_c (retP disk_Disk_Total_F.rvs R) (zipP 0 args) m) : MC Tryz.prog 69 args m R := MC_start Tryz.func69 disk_Disk_Total_ok mixed_ok hn h
/-! (*concord/disk.Disk).known -/
abbrev disk_Disk_known_r0 : NC := .reg
    (.out [(0, (.slot 0)), (1, (.slot 1))])
    [0, 1]
abbrev disk_Disk_known_r1 : NC := .reg
    (.q 1 .nilck [(.slot 0)] none
    (.q 2 (.fld 2) [(.res 1)] none
    (.q 3 .ld [(.res 2)] none
    (.out [(0, (.slot 0)), (1, (.slot 1)), (11, (.res 3))]))))
    [0, 1]
abbrev disk_Disk_known_r2 : NC := .reg
    (.out [(4, (.const (.int .i64 0))), (5, (.const (.int .i64 10)))])
    []
abbrev disk_Disk_known_r3 : NC := .reg
    (.x 2 (.call 38) [(.slot 0), (.slot 1)] none []
    (.q 4 (.ext 0) [(.res 2)] none
    (.q 5 (.ext 1) [(.res 2)] none
    (.out [(6, (.res 4)), (7, (.res 5))]))))
    [0, 1]
abbrev disk_Disk_known_r4 : NC := .reg
    (.q 1 .not [(.slot 7)] none
    (.out [(6, (.slot 6)), (19, (.res 1))]))
    [6, 7]
abbrev disk_Disk_known_r5 : NC := .reg
    (.out [(4, (.const (.int .i64 0))), (5, (.const (.int .i64 8)))])
    []
abbrev disk_Disk_known_r6 : NC := .reg
    (.out [(4, (.slot 6)), (5, (.const (.int .i64 0)))])
    [6]
abbrev disk_Disk_known_c : NC :=
  (.seq disk_Disk_known_r0
  (.seq (.seq disk_Disk_known_r1
  (.cond (.slot 11)
    (.seq disk_Disk_known_r2
    .ret)
    .skip))
  (.seq disk_Disk_known_r3
  (.seq (.seq disk_Disk_known_r4
  (.cond (.slot 19)
    (.seq disk_Disk_known_r5
    .ret)
    .skip))
  (.seq disk_Disk_known_r6
  .ret)))))
abbrev disk_Disk_known_F : FN := ⟨disk_Disk_known_c, [.slot 4, .slot 5]⟩
theorem disk_Disk_known_ok : compF Tryz.prog Tryz.f79 = some disk_Disk_known_F := by kernel_rfl
theorem disk_Disk_known_go {args : List Value} {m : Mem} {R : Value → Mem → Prop} (hn : args.length ≤ Tryz.f79.ntmps) (h : wpN Tryz.prog disk_Disk_known_c (retP disk_Disk_known_F.rvs R) (zipP 0 args) m) : MC Tryz.prog 79 args m R := MC_start Tryz.func79 disk_Disk_known_ok mixed_ok hn h
end Go.Fw
namespace Go.Fw
open Go.Proofs
/-! concord/concordlaw10.WalOpens -/
abbrev law10_WalOpens_r0 : NC := .reg
    (.out [(0, (.slot 0)), (1, (.slot 1)), (2, (.slot 2))])
    [0, 1, 2]
abbrev law10_WalOpens_r1 : NC := .reg
    (.x 0 (.call 6) [(.const (.int .i64 1048576))] none []
    (.q 2 (.ext 0) [(.res 0)] none
    (.q 3 (.ext 1) [(.res 0)] none
    (.out [(0, (.slot 0)), (1, (.slot 1)), (2, (.slot 2)), (7, (.res 2))]))))
    [0, 1, 2]
abbrev law10_WalOpens_r2 : NC := .reg
    (.x 0 (.call 7) [(.const (.int .i64 1048576))] none []
    (.q 2 (.ext 0) [(.res 0)] none
    (.q 3 (.ext 1) [(.res 0)] none
    (.out [(0, (.slot 0)), (1, (.slot 1)), (2, (.slot 2)), (7, (.slot 7)), (9, (.res 2))]))))
    [0, 1, 2, 7]
abbrev law10_WalOpens_r3 : NC := .reg
    (.q 1 (.eqp false) [(.slot 7), (.const (.pointer none))] none
    (.q 3 .mv [(.slot 0)] (some ((.res 1), false))
    (.q 4 (.bld [(.int .i64 0), (.int .i64 0), (.slice none 0 0), (.slice none 0 0)] [(2, 1)]) [(.res 3)] (some ((.res 1), false))
    (.x 5 (.call 8) [(.res 4)] (some ((.res 1), false)) []
    (.q 6 .not [(.res 5)] (some ((.res 1), false))
    (.q 7 .pick [(.res 1), (.const (.bool true)), (.res 6)] none
    (.q 9 .mv [(.slot 2)] (some ((.res 7), false))
    (.q 10 (.bld [(.int .i64 0), (.int .i64 0), (.slice none 0 0), (.slice none 0 0)] [(2, 1)]) [(.res 9)] (some ((.res 7), false))
    (.x 11 (.call 8) [(.res 10)] (some ((.res 7), false)) []
    (.q 12 .not [(.res 11)] (some ((.res 7), false))
    (.q 13 .pick [(.res 7), (.const (.bool true)), (.res 12)] none
    (.out [(0, (.slot 0)), (1, (.slot 1)), (2, (.slot 2)), (7, (.slot 7)), (9, (.slot 9)), (46, (.res 13))]))))))))))))
    [0, 1, 2, 7, 9]
abbrev law10_WalOpens_r4 : NC := .reg
    (.q 1 (.eqp true) [(.slot 7), (.const (.pointer none))] none
    (.x 3 (.call 9) [] (some ((.res 1), true)) []
    (.q 4 .pick [(.res 1), (.res 3), (.const (.bool false))] none
    (.out [(6, (.res 4))]))))
    [7]
abbrev law10_WalOpens_r5 : NC := .reg
    (.x 0 (.bsl 9 10 [(.string ⟨#[]⟩), (.string ⟨#[]⟩), (.string ⟨#[]⟩), (.string ⟨#[]⟩), (.string ⟨#[]⟩), (.string ⟨#[]⟩), (.string ⟨#[]⟩), (.string ⟨#[]⟩), (.string ⟨#[]⟩), (.string ⟨#[]⟩)] [(0, 1), (1, 1), (2, 1), (3, 1), (4, 1), (5, 1), (6, 1), (7, 1), (8, 1), (9, 1)]) [(.const (.string ⟨#[108, 111, 103, 46, 49, 46, 49]⟩)), (.const (.string ⟨#[108, 111, 103, 46, 49, 46, 50]⟩)), (.const (.string ⟨#[108, 111, 103, 46, 50, 46, 49]⟩)), (.const (.string ⟨#[108, 111, 103, 46, 50, 46, 50]⟩)), (.const (.string ⟨#[108, 111, 103, 46, 50, 46, 51]⟩)), (.const (.string ⟨#[108, 111, 103, 46, 49, 48, 46, 49]⟩)), (.const (.string ⟨#[108, 111, 103, 46, 48, 49, 46, 49]⟩)), (.const (.string ⟨#[108, 111, 103, 46, 51]⟩)), (.const (.string ⟨#[108, 111, 103, 46, 51, 46, 49, 120]⟩)), (.const (.string ⟨#[111, 116, 104, 101, 114]⟩))] none []
    (.out [(0, (.slot 0)), (1, (.slot 1)), (2, (.slot 2)), (7, (.slot 7)), (9, (.slot 9)), (11, (.res 0))]))
    [0, 1, 2, 7, 9]
abbrev law10_WalOpens_r6 : NC := .reg
    (.out [(0, (.slot 0)), (1, (.slot 1)), (2, (.slot 2)), (7, (.slot 7)), (9, (.slot 9)), (11, (.slot 11)), (12, (.const (.int .i64 0)))])
    [0, 1, 2, 7, 9, 11]
abbrev law10_WalOpens_r7 : NC := .reg
    (.q 2 .len [(.slot 1)] none
    (.q 3 (.icm .lss) [(.slot 12), (.res 2)] none
    (.q 5 .mv [(.slot 12)] (some ((.res 3), true))
    (.q 6 (.icm .lss) [(.res 5), (.const (.int .i64 8))] (some ((.res 3), true))
    (.q 7 .pick [(.res 3), (.res 6), (.const (.bool false))] none
    (.out [(0, (.slot 0)), (1, (.slot 1)), (2, (.slot 2)), (7, (.slot 7)), (9, (.slot 9)), (11, (.slot 11)), (12, (.slot 12)), (60, (.res 7))]))))))
    [0, 1, 2, 7, 9, 11, 12]
abbrev law10_WalOpens_r8 : NC := .reg
    (.q 3 (.ixs 1) [(.slot 1), (.slot 12)] none
    (.q 4 .ld [(.res 3)] none
    (.q 6 .len [(.slot 11)] none
    (.q 7 (.iar .sub) [(.res 6), (.const (.int .i64 1))] none
    (.x 8 (.call 10) [(.res 4), (.const (.int .i64 0)), (.res 7)] none []
    (.q 9 (.ixs 1) [(.slot 11), (.res 8)] none
    (.q 10 .ld [(.res 9)] none
    (.out [(0, (.slot 0)), (1, (.slot 1)), (2, (.slot 2)), (7, (.slot 7)), (9, (.slot 9)), (11, (.slot 11)), (12, (.slot 12)), (13, (.res 10))]))))))))
    [0, 1, 2, 7, 9, 11, 12]
abbrev law10_WalOpens_r9 : NC := .reg
    (.out [(0, (.slot 0)), (1, (.slot 1)), (2, (.slot 2)), (7, (.slot 7)), (9, (.slot 9)), (11, (.slot 11)), (12, (.slot 12)), (13, (.slot 13)), (14, (.const (.slice none 0 0)))])
    [0, 1, 2, 7, 9, 11, 12, 13]
abbrev law10_WalOpens_r10 : NC := .reg
    (.q 2 .lenz [(.slot 13)] none
    (.q 3 (.iar .sub) [(.res 2), (.const (.int .i64 1))] none
    (.q 4 .idxs [(.slot 13), (.res 3)] none
    (.q 5 (.icm .eql) [(.res 4), (.const (.int .u8 49))] none
    (.out [(0, (.slot 0)), (1, (.slot 1)), (2, (.slot 2)), (7, (.slot 7)), (9, (.slot 9)), (11, (.slot 11)), (12, (.slot 12)), (13, (.slot 13)), (14, (.slot 14)), (79, (.res 5))])))))
    [0, 1, 2, 7, 9, 11, 12, 13, 14]
abbrev law10_WalOpens_r11 : NC := .reg
    (.q 2 (.ixs 1) [(.slot 1), (.slot 12)] none
    (.q 3 .ld [(.res 2)] none
    (.x 4 (.call 10) [(.res 3), (.const (.int .i64 0)), (.const (.int .i64 2))] none []
    (.x 5 (.call 12) [(.const (.slice none 0 0)), (.res 4)] none []
    (.x 6 (.call 11) [(.const (.slice none 0 0)), (.res 5)] none []
    (.out [(0, (.slot 0)), (1, (.slot 1)), (2, (.slot 2)), (7, (.slot 7)), (9, (.slot 9)), (11, (.slot 11)), (12, (.slot 12)), (13, (.slot 13)), (14, (.res 6))]))))))
    [0, 1, 2, 7, 9, 11, 12, 13]
abbrev law10_WalOpens_r12 : NC := .reg
    (.out [(0, (.slot 0)), (1, (.slot 1)), (2, (.slot 2)), (7, (.slot 7)), (9, (.slot 9)), (11, (.slot 11)), (12, (.slot 12)), (13, (.slot 13)), (14, (.slot 14)), (15, (.const (.int .i64 0)))])
    [0, 1, 2, 7, 9, 11, 12, 13, 14]
abbrev law10_WalOpens_r13 : NC := .reg
    (.q 2 .len [(.slot 0)] none
    (.q 3 (.icm .lss) [(.slot 15), (.res 2)] none
    (.q 5 .mv [(.slot 15)] (some ((.res 3), true))
    (.q 6 (.icm .lss) [(.res 5), (.const (.int .i64 3))] (some ((.res 3), true))
    (.q 7 .pick [(.res 3), (.res 6), (.const (.bool false))] none
    (.out [(0, (.slot 0)), (1, (.slot 1)), (2, (.slot 2)), (7, (.slot 7)), (9, (.slot 9)), (11, (.slot 11)), (12, (.slot 12)), (13, (.slot 13)), (14, (.slot 14)), (15, (.slot 15)), (94, (.res 7))]))))))
    [0, 1, 2, 7, 9, 11, 12, 13, 14, 15]
abbrev law10_WalOpens_r14 : NC := .reg
    (.q 3 (.ixs 1) [(.slot 0), (.slot 15)] none
    (.q 4 .ld [(.res 3)] none
    (.x 5 (.call 11) [(.slot 14), (.res 4)] none []
    (.out [(0, (.slot 0)), (1, (.slot 1)), (2, (.slot 2)), (7, (.slot 7)), (9, (.slot 9)), (11, (.slot 11)), (12, (.slot 12)), (13, (.slot 13)), (14, (.res 5)), (15, (.slot 15))]))))
    [0, 1, 2, 7, 9, 11, 12, 13, 14, 15]
abbrev law10_WalOpens_r15 : NC := .reg
    (.q 1 (.iar .add) [(.slot 15), (.const (.int .i64 1))] none
    (.out [(0, (.slot 0)), (1, (.slot 1)), (2, (.slot 2)), (7, (.slot 7)), (9, (.slot 9)), (11, (.slot 11)), (12, (.slot 12)), (13, (.slot 13)), (14, (.slot 14)), (15, (.res 1))]))
    [0, 1, 2, 7, 9, 11, 12, 13, 14, 15]
abbrev law10_WalOpens_l0 : NC :=
  (.seq (.seq law10_WalOpens_r13
  (.cond (.slot 94)
    .skip
    (.exit 2)))
  (.seq (.block 3 law10_WalOpens_r14)
  law10_WalOpens_r15))
abbrev law10_WalOpens_r16 : NC := .reg
    (.q 2 .len [(.slot 2)] none
    (.q 3 (.icm .lss) [(.slot 12), (.res 2)] none
    (.out [(0, (.slot 0)), (1, (.slot 1)), (2, (.slot 2)), (7, (.slot 7)), (9, (.slot 9)), (11, (.slot 11)), (12, (.slot 12)), (13, (.slot 13)), (14, (.slot 14)), (106, (.res 3))])))
    [0, 1, 2, 7, 9, 11, 12, 13, 14]
abbrev law10_WalOpens_r17 : NC := .reg
    (.q 3 (.ixs 1) [(.slot 2), (.slot 12)] none
    (.q 4 .ld [(.res 3)] none
    (.x 5 (.app 5 1 1 [(.int .u8 0)]) [(.slot 14), (.res 4)] none []
    (.out [(0, (.slot 0)), (1, (.slot 1)), (2, (.slot 2)), (7, (.slot 7)), (9, (.slot 9)), (11, (.slot 11)), (12, (.slot 12)), (13, (.slot 13)), (14, (.res 5))]))))
    [0, 1, 2, 7, 9, 11, 12, 13, 14]
abbrev law10_WalOpens_r18 : NC := .reg
    (.x 3 (.call 13) [(.slot 7), (.slot 13), (.slot 14)] none []
    (.out [(0, (.slot 0)), (1, (.slot 1)), (2, (.slot 2)), (7, (.slot 7)), (9, (.slot 9)), (11, (.slot 11)), (12, (.slot 12)), (13, (.slot 13)), (14, (.slot 14))]))
    [0, 1, 2, 7, 9, 11, 12, 13, 14]
abbrev law10_WalOpens_r19 : NC := .reg
    (.x 3 (.call 14) [(.slot 9), (.slot 13), (.slot 14)] none []
    (.out [(0, (.slot 0)), (1, (.slot 1)), (2, (.slot 2)), (7, (.slot 7)), (9, (.slot 9)), (11, (.slot 11)), (12, (.slot 12))]))
    [0, 1, 2, 7, 9, 11, 12, 13, 14]
abbrev law10_WalOpens_r20 : NC := .reg
    (.q 1 (.iar .add) [(.slot 12), (.const (.int .i64 1))] none
    (.out [(0, (.slot 0)), (1, (.slot 1)), (2, (.slot 2)), (7, (.slot 7)), (9, (.slot 9)), (11, (.slot 11)), (12, (.res 1))]))
    [0, 1, 2, 7, 9, 11, 12]
abbrev law10_WalOpens_l1 : NC :=
  (.seq (.seq law10_WalOpens_r7
  (.cond (.slot 60)
    .skip
    (.exit 0)))
  (.seq (.block 1 (.seq law10_WalOpens_r8
  (.seq law10_WalOpens_r9
  (.seq (.seq law10_WalOpens_r10
  (.cond (.slot 79)
    law10_WalOpens_r11
    .skip))
  (.seq (.seq law10_WalOpens_r12
  (.block 2 (.loop [0, 1, 2, 7, 9, 11, 12, 13, 14, 15] law10_WalOpens_l0)))
  (.seq (.seq law10_WalOpens_r16
  (.cond (.slot 106)
    law10_WalOpens_r17
    .skip))
  (.seq law10_WalOpens_r18
  law10_WalOpens_r19)))))))
  law10_WalOpens_r20))
abbrev law10_WalOpens_r21 : NC := .reg
    (.x 1 (.call 15) [(.slot 7)] none []
    (.q 3 (.ext 0) [(.res 1)] none
    (.q 4 (.ext 1) [(.res 1)] none
    (.q 5 (.ext 2) [(.res 1)] none
    (.out [(7, (.slot 7)), (9, (.slot 9)), (16, (.res 3)), (17, (.res 4)), (18, (.res 5))])))))
    [7, 9]
abbrev law10_WalOpens_r22 : NC := .reg
    (.x 1 (.call 16) [(.slot 9)] none []
    (.q 3 (.ext 0) [(.res 1)] none
    (.q 4 (.ext 1) [(.res 1)] none
    (.q 5 (.ext 2) [(.res 1)] none
    (.out [(7, (.slot 7)), (9, (.slot 9)), (16, (.slot 16)), (17, (.slot 17)), (18, (.slot 18)), (19, (.res 3)), (20, (.res 4)), (21, (.res 5))])))))
    [7, 9, 16, 17, 18]
abbrev law10_WalOpens_r23 : NC := .reg
    (.q 1 (.eqp false) [(.slot 16), (.const (.pointer none))] none
    (.q 3 .mv [(.slot 18)] (some ((.res 1), false))
    (.q 4 .mv [(.slot 21)] (some ((.res 1), false))
    (.q 5 (.icm .neq) [(.res 3), (.res 4)] (some ((.res 1), false))
    (.q 6 .pick [(.res 1), (.const (.bool true)), (.res 5)] none
    (.q 8 .mv [(.slot 17)] (some ((.res 6), false))
    (.q 9 .mv [(.slot 20)] (some ((.res 6), false))
    (.x 10 (.call 17) [(.res 8), (.res 9)] (some ((.res 6), false)) []
    (.q 11 .not [(.res 10)] (some ((.res 6), false))
    (.q 12 .pick [(.res 6), (.const (.bool true)), (.res 11)] none
    (.q 14 .mv [(.slot 7)] (some ((.res 12), false))
    (.q 15 .mv [(.slot 9)] (some ((.res 12), false))
    (.x 16 (.call 18) [(.res 14), (.res 15)] (some ((.res 12), false)) []
    (.q 17 .not [(.res 16)] (some ((.res 12), false))
    (.q 18 .pick [(.res 12), (.const (.bool true)), (.res 17)] none
    (.q 20 .mv [(.slot 19)] (some ((.res 18), false))
    (.q 21 (.eqp false) [(.res 20), (.const (.pointer none))] (some ((.res 18), false))
    (.q 22 .pick [(.res 18), (.const (.bool true)), (.res 21)] none
    (.out [(7, (.slot 7)), (9, (.slot 9)), (20, (.slot 20)), (155, (.res 22))])))))))))))))))))))
    [7, 9, 16, 17, 18, 19, 20, 21]
abbrev law10_WalOpens_r24 : NC := .reg
    (.out [(6, (.const (.bool false)))])
    []
abbrev law10_WalOpens_r25 : NC := .reg
    (.x 1 (.call 15) [(.slot 7)] none []
    (.q 3 (.ext 0) [(.res 1)] none
    (.q 4 (.ext 1) [(.res 1)] none
    (.q 5 (.ext 2) [(.res 1)] none
    (.out [(7, (.slot 7)), (9, (.slot 9)), (20, (.slot 20)), (23, (.res 4)), (24, (.res 5))])))))
    [7, 9, 20]
abbrev law10_WalOpens_r26 : NC := .reg
    (.q 1 (.icm .eql) [(.slot 24), (.const (.int .i64 0))] none
    (.q 3 .mv [(.slot 23)] (some ((.res 1), true))
    (.q 4 .mv [(.slot 20)] (some ((.res 1), true))
    (.x 5 (.call 17) [(.res 3), (.res 4)] (some ((.res 1), true)) []
    (.q 6 .pick [(.res 1), (.res 5), (.const (.bool false))] none
    (.q 8 .mv [(.slot 7)] (some ((.res 6), true))
    (.q 9 .mv [(.slot 9)] (some ((.res 6), true))
    (.x 10 (.call 18) [(.res 8), (.res 9)] (some ((.res 6), true)) []
    (.q 11 .pick [(.res 6), (.res 10), (.const (.bool false))] none
    (.x 13 (.call 9) [] (some ((.res 11), true)) []
    (.q 14 .pick [(.res 11), (.res 13), (.const (.bool false))] none
    (.out [(6, (.res 14))]))))))))))))
    [7, 9, 20, 23, 24]
abbrev law10_WalOpens_c : NC :=
  (.seq law10_WalOpens_r0
  (.seq law10_WalOpens_r1
  (.seq law10_WalOpens_r2
  (.seq (.seq law10_WalOpens_r3
  (.cond (.slot 46)
    (.seq law10_WalOpens_r4
    .ret)
    .skip))
  (.seq law10_WalOpens_r5
  (.seq (.seq law10_WalOpens_r6
  (.block 0 (.loop [0, 1, 2, 7, 9, 11, 12] law10_WalOpens_l1)))
  (.seq law10_WalOpens_r21
  (.seq law10_WalOpens_r22
  (.seq (.seq law10_WalOpens_r23
  (.cond (.slot 155)
    (.seq law10_WalOpens_r24
    .ret)
    .skip))
  (.seq law10_WalOpens_r25
  (.seq law10_WalOpens_r26
  .ret)))))))))))
abbrev law10_WalOpens_F : FN := ⟨law10_WalOpens_c, [.slot 6]⟩
theorem law10_WalOpens_ok : compF Tryz.prog Tryz.f3 = some law10_WalOpens_F := by kernel_rfl
theorem law10_WalOpens_go {args : List Value} {m : Mem} {R : Value → Mem → Prop} (hn : args.length ≤ Tryz.f3.ntmps) (h : wpN Tryz.prog law10_WalOpens_c (retP law10_WalOpens_F.rvs R) (zipP 0 args) m) : MC Tryz.prog 3 args m R := MC_start Tryz.func3 law10_WalOpens_ok mixed_ok hn h
/-! concord/concordlaw10.WalPlays -/
/-! concord/concordlaw10.light -/
abbrev law10_light_r0 : NC := .reg
    (.x 0 (.box 33) [(.slot 0)] none []
    (.out [(1, (.res 0))]))
    [0]
abbrev law10_light_r1 : NC := .reg
    (.out [(1, (.slot 1)), (3, (.const (.int .i64 0)))])
    [1]
abbrev law10_light_r2 : NC := .reg
    (.out [(1, (.slot 1)), (3, (.slot 3)), (4, (.const (.int .i64 0)))])
    [1, 3]
abbrev law10_light_r3 : NC := .reg
    (.q 1 (.fld 2) [(.slot 1)] none
    (.q 2 .ld [(.res 1)] none
    (.q 3 .len [(.res 2)] none
    (.q 4 (.icm .lss) [(.slot 4), (.res 3)] none
    (.out [(1, (.slot 1)), (3, (.slot 3)), (4, (.slot 4)), (9, (.res 4))])))))
    [1, 3, 4]
abbrev law10_light_r4 : NC := .reg
    (.q 1 (.fld 2) [(.slot 1)] none
    (.q 2 .ld [(.res 1)] none
    (.q 4 (.ixs 1) [(.res 2), (.slot 4)] none
    (.q 5 .ld [(.res 4)] none
    (.q 6 .len [(.res 5)] none
    (.q 7 (.iar .add) [(.slot 3), (.res 6)] none
    (.q 8 (.iar .add) [(.res 7), (.const (.int .i64 1))] none
    (.out [(1, (.slot 1)), (3, (.res 8)), (4, (.slot 4))]))))))))
    [1, 3, 4]
abbrev law10_light_r5 : NC := .reg
    (.q 1 (.icm .gtr) [(.slot 3), (.const (.int .i64 9000))] none
    (.out [(1, (.slot 1)), (3, (.slot 3)), (4, (.slot 4)), (22, (.res 1))]))
    [1, 3, 4]
abbrev law10_light_r6 : NC := .reg
    (.out [(2, (.const (.bool false)))])
    []
abbrev law10_light_r7 : NC := .reg
    (.q 1 (.iar .add) [(.slot 4), (.const (.int .i64 1))] none
    (.out [(1, (.slot 1)), (3, (.slot 3)), (4, (.res 1))]))
    [1, 3, 4]
abbrev law10_light_l0 : NC :=
  (.seq (.seq law10_light_r3
  (.cond (.slot 9)
    .skip
    (.exit 0)))
  (.seq (.block 1 (.seq law10_light_r4
  (.seq law10_light_r5
  (.cond (.slot 22)
    (.seq law10_light_r6
    .ret)
    .skip))))
  law10_light_r7))
abbrev law10_light_r8 : NC := .reg
    (.q 0 (.fld 3) [(.slot 1)] none
    (.q 1 .ld [(.res 0)] none
    (.q 2 .len [(.res 1)] none
    (.q 3 (.icm .leq) [(.res 2), (.const (.int .i64 20))] none
    (.out [(2, (.res 3))])))))
    [1]
abbrev law10_light_c : NC :=
  (.seq law10_light_r0
  (.seq law10_light_r1
  (.seq (.seq law10_light_r2
  (.block 0 (.loop [1, 3, 4] law10_light_l0)))
  (.seq law10_light_r8
  .ret))))
abbrev law10_light_F : FN := ⟨law10_light_c, [.slot 2]⟩
theorem law10_light_ok : compF Tryz.prog Tryz.f8 = some law10_light_F := by kernel_rfl
theorem law10_light_go {args : List Value} {m : Mem} {R : Value → Mem → Prop} (hn : args.length ≤ Tryz.f8.ntmps) (h : wpN Tryz.prog law10_light_c (retP law10_light_F.rvs R) (zipP 0 args) m) : MC Tryz.prog 8 args m R := MC_start Tryz.func8 law10_light_ok mixed_ok hn h
/-! concord/concordlaw10.WalRuns -/
abbrev law10_WalRuns_r0 : NC := .reg
    (.out [])
    []
abbrev law10_WalRuns_r1 : NC := .reg
    (.x 0 (.call 6) [(.const (.int .i64 9999))] none []
    (.q 2 (.ext 0) [(.res 0)] none
    (.q 3 (.ext 1) [(.res 0)] none
    (.out [(1, (.res 2))]))))
    []
abbrev law10_WalRuns_r2 : NC := .reg
    (.x 1 (.call 15) [(.slot 1)] none []
    (.q 3 (.ext 0) [(.res 1)] none
    (.q 4 (.ext 1) [(.res 1)] none
    (.q 5 (.ext 2) [(.res 1)] none
    (.out [(1, (.slot 1)), (3, (.res 3)), (4, (.res 4)), (5, (.res 5))])))))
    [1]
abbrev law10_WalRuns_r3 : NC := .reg
    (.q 1 (.eqp false) [(.slot 1), (.const (.pointer none))] none
    (.q 3 .mv [(.slot 3)] (some ((.res 1), false))
    (.q 4 (.eqp false) [(.res 3), (.const (.pointer none))] (some ((.res 1), false))
    (.q 5 .pick [(.res 1), (.const (.bool true)), (.res 4)] none
    (.q 7 .mv [(.slot 5)] (some ((.res 5), false))
    (.q 8 (.icm .neq) [(.res 7), (.const (.int .i64 0))] (some ((.res 5), false))
    (.q 9 .pick [(.res 5), (.const (.bool true)), (.res 8)] none
    (.q 11 .mv [(.slot 4)] (some ((.res 9), false))
    (.q 12 .len [(.res 11)] (some ((.res 9), false))
    (.q 13 (.icm .neq) [(.res 12), (.const (.int .i64 0))] (some ((.res 9), false))
    (.q 14 .pick [(.res 9), (.const (.bool true)), (.res 13)] none
    (.out [(1, (.slot 1)), (3, (.slot 3)), (47, (.res 14))]))))))))))))
    [1, 3, 4, 5]
abbrev law10_WalRuns_r4 : NC := .reg
    (.out [(0, (.const (.bool false)))])
    []
abbrev law10_WalRuns_r5 : NC := .reg
    (.x 1 (.bsl 5 1 [(.int .u8 0)] [(0, 1)]) [(.const (.int .u8 120))] none []
    (.x 2 .mrk [(.res 1)] none []
    (.x 3 (.bsl 37 1 [(.slice none 0 0)] [(0, 1)]) [(.res 2)] none []
    (.x 4 (.call 22) [(.slot 3), (.res 3)] none []
    (.out [(1, (.slot 1)), (3, (.slot 3)), (6, (.res 4))])))))
    [1, 3]
abbrev law10_WalRuns_r6 : NC := .reg
    (.x 1 (.bsl 5 1 [(.int .u8 0)] [(0, 1)]) [(.const (.int .u8 97))] none []
    (.x 2 .mrk [(.res 1)] none []
    (.x 3 (.bsl 5 1 [(.int .u8 0)] [(0, 1)]) [(.const (.int .u8 98))] none []
    (.x 4 .mrk [(.res 3)] none []
    (.x 5 (.bsl 37 2 [(.slice none 0 0), (.slice none 0 0)] [(0, 1), (1, 1)]) [(.res 2), (.res 4)] none []
    (.x 6 (.call 19) [(.slot 3), (.res 5)] none []
    (.out [(1, (.slot 1)), (3, (.slot 3)), (6, (.slot 6)), (7, (.res 6))])))))))
    [1, 3, 6]
abbrev law10_WalRuns_r7 : NC := .reg
    (.x 1 (.bsl 5 1 [(.int .u8 0)] [(0, 1)]) [(.const (.int .u8 99))] none []
    (.x 2 .mrk [(.res 1)] none []
    (.x 3 (.bsl 37 1 [(.slice none 0 0)] [(0, 1)]) [(.res 2)] none []
    (.x 4 (.call 22) [(.slot 3), (.res 3)] none []
    (.out [(1, (.slot 1)), (6, (.slot 6)), (7, (.slot 7)), (8, (.res 4))])))))
    [1, 3, 6, 7]
abbrev law10_WalRuns_r8 : NC := .reg
    (.x 1 (.call 15) [(.slot 1)] none []
    (.q 3 (.ext 0) [(.res 1)] none
    (.q 4 (.ext 1) [(.res 1)] none
    (.q 5 (.ext 2) [(.res 1)] none
    (.out [(1, (.slot 1)), (6, (.slot 6)), (7, (.slot 7)), (8, (.slot 8)), (9, (.res 3)), (10, (.res 4)), (11, (.res 5))])))))
    [1, 6, 7, 8]
abbrev law10_WalRuns_r9 : NC := .reg
    (.q 1 (.eqp false) [(.slot 9), (.const (.pointer none))] none
    (.q 3 .mv [(.slot 11)] (some ((.res 1), false))
    (.q 4 (.icm .neq) [(.res 3), (.const (.int .i64 0))] (some ((.res 1), false))
    (.q 5 .pick [(.res 1), (.const (.bool true)), (.res 4)] none
    (.q 7 .mv [(.slot 10)] (some ((.res 5), false))
    (.x 8 (.bsl 9 3 [(.string ⟨#[]⟩), (.string ⟨#[]⟩), (.string ⟨#[]⟩)] [(0, 1), (1, 1), (2, 1)]) [(.const (.string ⟨#[97]⟩)), (.const (.string ⟨#[98]⟩)), (.const (.string ⟨#[99]⟩))] (some ((.res 5), false)) []
    (.x 9 (.call 31) [(.res 7), (.res 8)] (some ((.res 5), false)) []
    (.q 10 .not [(.res 9)] (some ((.res 5), false))
    (.q 11 .pick [(.res 5), (.const (.bool true)), (.res 10)] none
    (.out [(1, (.slot 1)), (6, (.slot 6)), (7, (.slot 7)), (8, (.slot 8)), (9, (.slot 9)), (82, (.res 11))]))))))))))
    [1, 6, 7, 8, 9, 10, 11]
abbrev law10_WalRuns_r10 : NC := .reg
    (.out [(0, (.const (.bool false)))])
    []
abbrev law10_WalRuns_r11 : NC := .reg
    (.x 1 (.call 23) [(.slot 9)] none []
    (.q 3 (.ext 0) [(.res 1)] none
    (.q 4 (.ext 1) [(.res 1)] none
    (.out [(1, (.slot 1)), (6, (.slot 6)), (7, (.slot 7)), (8, (.slot 8)), (9, (.slot 9)), (12, (.res 3)), (13, (.res 4))]))))
    [1, 6, 7, 8, 9]
abbrev law10_WalRuns_r12 : NC := .reg
    (.x 1 (.call 19) [(.slot 9), (.const (.slice none 0 0))] none []
    (.out [(1, (.slot 1)), (6, (.slot 6)), (7, (.slot 7)), (8, (.slot 8)), (9, (.slot 9)), (12, (.slot 12)), (13, (.slot 13)), (14, (.res 1))]))
    [1, 6, 7, 8, 9, 12, 13]
abbrev law10_WalRuns_r13 : NC := .reg
    (.x 1 (.call 23) [(.slot 9)] none []
    (.q 3 (.ext 0) [(.res 1)] none
    (.q 4 (.ext 1) [(.res 1)] none
    (.out [(1, (.slot 1)), (6, (.slot 6)), (7, (.slot 7)), (8, (.slot 8)), (12, (.slot 12)), (13, (.slot 13)), (14, (.slot 14)), (15, (.res 3)), (16, (.res 4))]))))
    [1, 6, 7, 8, 9, 12, 13, 14]
abbrev law10_WalRuns_r14 : NC := .reg
    (.x 1 (.call 15) [(.slot 1)] none []
    (.q 3 (.ext 0) [(.res 1)] none
    (.q 4 (.ext 1) [(.res 1)] none
    (.q 5 (.ext 2) [(.res 1)] none
    (.out [(6, (.slot 6)), (7, (.slot 7)), (8, (.slot 8)), (12, (.slot 12)), (13, (.slot 13)), (14, (.slot 14)), (15, (.slot 15)), (16, (.slot 16)), (18, (.res 4))])))))
    [1, 6, 7, 8, 12, 13, 14, 15, 16]
abbrev law10_WalRuns_r15 : NC := .reg
    (.x 0 (.call 15) [(.const (.pointer none))] none []
    (.q 2 (.ext 0) [(.res 0)] none
    (.q 3 (.ext 1) [(.res 0)] none
    (.q 4 (.ext 2) [(.res 0)] none
    (.out [(6, (.slot 6)), (7, (.slot 7)), (8, (.slot 8)), (12, (.slot 12)), (13, (.slot 13)), (14, (.slot 14)), (15, (.slot 15)), (16, (.slot 16)), (18, (.slot 18)), (22, (.res 4))])))))
    [6, 7, 8, 12, 13, 14, 15, 16, 18]
abbrev law10_WalRuns_r16 : NC := .reg
    (.q 1 (.icm .eql) [(.slot 6), (.const (.int .i64 8))] none
    (.q 3 .mv [(.slot 7)] (some ((.res 1), true))
    (.q 4 (.icm .eql) [(.res 3), (.const (.int .i64 0))] (some ((.res 1), true))
    (.q 5 .pick [(.res 1), (.res 4), (.const (.bool false))] none
    (.q 7 .mv [(.slot 8)] (some ((.res 5), true))
    (.q 8 (.icm .eql) [(.res 7), (.const (.int .i64 0))] (some ((.res 5), true))
    (.q 9 .pick [(.res 5), (.res 8), (.const (.bool false))] none
    (.q 11 .mv [(.slot 12)] (some ((.res 9), true))
    (.q 12 (.icm .eql) [(.res 11), (.const (.int .i64 1))] (some ((.res 9), true))
    (.q 13 .pick [(.res 9), (.res 12), (.const (.bool false))] none
    (.q 15 .mv [(.slot 13)] (some ((.res 13), true))
    (.q 16 (.icm .eql) [(.res 15), (.const (.int .i64 1))] (some ((.res 13), true))
    (.q 17 .pick [(.res 13), (.res 16), (.const (.bool false))] none
    (.q 19 .mv [(.slot 14)] (some ((.res 17), true))
    (.q 20 (.icm .eql) [(.res 19), (.const (.int .i64 0))] (some ((.res 17), true))
    (.q 21 .pick [(.res 17), (.res 20), (.const (.bool false))] none
    (.q 23 .mv [(.slot 15)] (some ((.res 21), true))
    (.q 24 (.icm .eql) [(.res 23), (.const (.int .i64 2))] (some ((.res 21), true))
    (.q 25 .pick [(.res 21), (.res 24), (.const (.bool false))] none
    (.q 27 .mv [(.slot 16)] (some ((.res 25), true))
    (.q 28 (.icm .eql) [(.res 27), (.const (.int .i64 1))] (some ((.res 25), true))
    (.q 29 .pick [(.res 25), (.res 28), (.const (.bool false))] none
    (.q 31 .mv [(.slot 18)] (some ((.res 29), true))
    (.q 32 .len [(.res 31)] (some ((.res 29), true))
    (.q 33 (.icm .eql) [(.res 32), (.const (.int .i64 0))] (some ((.res 29), true))
    (.q 34 .pick [(.res 29), (.res 33), (.const (.bool false))] none
    (.q 36 .mv [(.slot 22)] (some ((.res 34), true))
    (.q 37 (.icm .eql) [(.res 36), (.const (.int .i64 1))] (some ((.res 34), true))
    (.q 38 .pick [(.res 34), (.res 37), (.const (.bool false))] none
    (.out [(0, (.res 38))]))))))))))))))))))))))))))))))
    [6, 7, 8, 12, 13, 14, 15, 16, 18, 22]
abbrev law10_WalRuns_c : NC :=
  (.seq law10_WalRuns_r0
  (.seq law10_WalRuns_r1
  (.seq law10_WalRuns_r2
  (.seq (.seq law10_WalRuns_r3
  (.cond (.slot 47)
    (.seq law10_WalRuns_r4
    .ret)
    .skip))
  (.seq law10_WalRuns_r5
  (.seq law10_WalRuns_r6
  (.seq law10_WalRuns_r7
  (.seq law10_WalRuns_r8
  (.seq (.seq law10_WalRuns_r9
  (.cond (.slot 82)
    (.seq law10_WalRuns_r10
    .ret)
    .skip))
  (.seq law10_WalRuns_r11
  (.seq law10_WalRuns_r12
  (.seq law10_WalRuns_r13
  (.seq law10_WalRuns_r14
  (.seq law10_WalRuns_r15
  (.seq law10_WalRuns_r16
  .ret)))))))))))))))
abbrev law10_WalRuns_F : FN := ⟨law10_WalRuns_c, [.slot 0]⟩
theorem law10_WalRuns_ok : compF Tryz.prog Tryz.f9 = some law10_WalRuns_F := by kernel_rfl
theorem law10_WalRuns_go {args : List Value} {m : Mem} {R : Value → Mem → Prop} (hn : args.length ≤ Tryz.f9.ntmps) (h : wpN Tryz.prog law10_WalRuns_c (retP law10_WalRuns_F.rvs R) (zipP 0 args) m) : MC Tryz.prog 9 args m R := MC_start Tryz.func9 law10_WalRuns_ok mixed_ok hn h
/-! concord/concordbook.Within -/
abbrev book_Within_r0 : NC := .reg
    (.out [(0, (.slot 0)), (1, (.slot 1)), (2, (.slot 2))])
    [0, 1, 2]
abbrev book_Within_r1 : NC := .reg
    (.q 3 (.iar .sub) [(.slot 2), (.slot 1)] none
    (.q 4 (.iar .add) [(.res 3), (.const (.int .i64 1))] none
    (.q 5 (.idv .rem) [(.slot 0), (.res 4)] none
    (.out [(0, (.res 5)), (1, (.slot 1)), (2, (.slot 2))]))))
    [0, 1, 2]
abbrev book_Within_r2 : NC := .reg
    (.q 1 (.icm .lss) [(.slot 0), (.const (.int .i64 0))] none
    (.out [(0, (.slot 0)), (1, (.slot 1)), (2, (.slot 2)), (14, (.res 1))]))
    [0, 1, 2]
abbrev book_Within_r3 : NC := .reg
    (.q 2 (.iar .add) [(.slot 0), (.slot 2)] none
    (.q 4 (.iar .sub) [(.res 2), (.slot 1)] none
    (.q 5 (.iar .add) [(.res 4), (.const (.int .i64 1))] none
    (.out [(0, (.res 5)), (1, (.slot 1))]))))
    [0, 1, 2]
abbrev book_Within_r4 : NC := .reg
    (.q 2 (.iar .add) [(.slot 1), (.slot 0)] none
    (.out [(6, (.res 2))]))
    [0, 1]
abbrev book_Within_c : NC :=
  (.seq book_Within_r0
  (.seq book_Within_r1
  (.seq (.seq book_Within_r2
  (.cond (.slot 14)
    book_Within_r3
    .skip))
  (.seq book_Within_r4
  .ret))))
abbrev book_Within_F : FN := ⟨book_Within_c, [.slot 6]⟩
theorem book_Within_ok : compF Tryz.prog Tryz.f10 = some book_Within_F := by kernel_rfl
theorem book_Within_go {args : List Value} {m : Mem} {R : Value → Mem → Prop} (hn : args.length ≤ Tryz.f10.ntmps) (h : wpN Tryz.prog book_Within_c (retP book_Within_F.rvs R) (zipP 0 args) m) : MC Tryz.prog 10 args m R := MC_start Tryz.func10 book_Within_ok mixed_ok hn h
/-! concord/concordlaw10.lists -/
abbrev law10_lists_r0 : NC := .reg
    (.out [(0, (.slot 0)), (1, (.slot 1))])
    [0, 1]
abbrev law10_lists_r1 : NC := .reg
    (.q 1 .len [(.slot 0)] none
    (.q 3 .len [(.slot 1)] none
    (.q 4 (.icm .neq) [(.res 1), (.res 3)] none
    (.out [(0, (.slot 0)), (1, (.slot 1)), (10, (.res 4))]))))
    [0, 1]
abbrev law10_lists_r2 : NC := .reg
    (.out [(4, (.const (.bool false)))])
    []
abbrev law10_lists_r3 : NC := .reg
    (.out [(0, (.slot 0)), (1, (.slot 1)), (5, (.const (.int .i64 0)))])
    [0, 1]
abbrev law10_lists_r4 : NC := .reg
    (.q 2 .len [(.slot 0)] none
    (.q 3 (.icm .lss) [(.slot 5), (.res 2)] none
    (.out [(0, (.slot 0)), (1, (.slot 1)), (5, (.slot 5)), (14, (.res 3))])))
    [0, 1, 5]
abbrev law10_lists_r5 : NC := .reg
    (.q 2 (.ixs 1) [(.slot 0), (.slot 5)] none
    (.q 3 .ld [(.res 2)] none
    (.q 6 (.ixs 1) [(.slot 1), (.slot 5)] none
    (.q 7 .ld [(.res 6)] none
    (.x 8 (.call 57) [(.res 3), (.res 7)] none []
    (.q 9 .not [(.res 8)] none
    (.out [(0, (.slot 0)), (1, (.slot 1)), (5, (.slot 5)), (26, (.res 9))])))))))
    [0, 1, 5]
abbrev law10_lists_r6 : NC := .reg
    (.out [(4, (.const (.bool false)))])
    []
abbrev law10_lists_r7 : NC := .reg
    (.q 1 (.iar .add) [(.slot 5), (.const (.int .i64 1))] none
    (.out [(0, (.slot 0)), (1, (.slot 1)), (5, (.res 1))]))
    [0, 1, 5]
abbrev law10_lists_l0 : NC :=
  (.seq (.seq law10_lists_r4
  (.cond (.slot 14)
    .skip
    (.exit 0)))
  (.seq (.block 1 (.seq law10_lists_r5
  (.cond (.slot 26)
    (.seq law10_lists_r6
    .ret)
    .skip)))
  law10_lists_r7))
abbrev law10_lists_r8 : NC := .reg
    (.out [(4, (.const (.bool true)))])
    []
abbrev law10_lists_c : NC :=
  (.seq law10_lists_r0
  (.seq (.seq law10_lists_r1
  (.cond (.slot 10)
    (.seq law10_lists_r2
    .ret)
    .skip))
  (.seq (.seq law10_lists_r3
  (.block 0 (.loop [0, 1, 5] law10_lists_l0)))
  (.seq law10_lists_r8
  .ret))))
abbrev law10_lists_F : FN := ⟨law10_lists_c, [.slot 4]⟩
theorem law10_lists_ok : compF Tryz.prog Tryz.f17 = some law10_lists_F := by kernel_rfl
theorem law10_lists_go {args : List Value} {m : Mem} {R : Value → Mem → Prop} (hn : args.length ≤ Tryz.f17.ntmps) (h : wpN Tryz.prog law10_lists_c (retP law10_lists_F.rvs R) (zipP 0 args) m) : MC Tryz.prog 17 args m R := MC_start Tryz.func17 law10_lists_ok mixed_ok hn h
/-! concord/concordlaw10.alike -/
abbrev law10_alike_r0 : NC := .reg
    (.out [(0, (.slot 0)), (1, (.slot 1))])
    [0, 1]
abbrev law10_alike_r1 : NC := .reg
    (.x 1 (.call 51) [(.slot 1)] none []
    (.out [(0, (.slot 0)), (1, (.slot 1)), (5, (.res 1))]))
    [0, 1]
abbrev law10_alike_r2 : NC := .reg
    (.x 1 (.call 24) [(.slot 0)] none []
    (.x 3 (.call 58) [(.res 1), (.slot 5)] none []
    (.q 4 .not [(.res 3)] none
    (.out [(0, (.slot 0)), (1, (.slot 1)), (5, (.slot 5)), (17, (.res 4))]))))
    [0, 1, 5]
abbrev law10_alike_r3 : NC := .reg
    (.out [(4, (.const (.bool false)))])
    []
abbrev law10_alike_r4 : NC := .reg
    (.out [(0, (.slot 0)), (1, (.slot 1)), (5, (.slot 5)), (6, (.const (.int .i64 0)))])
    [0, 1, 5]
abbrev law10_alike_r5 : NC := .reg
    (.q 2 .len [(.slot 5)] none
    (.q 3 (.icm .lss) [(.slot 6), (.res 2)] none
    (.out [(0, (.slot 0)), (1, (.slot 1)), (5, (.slot 5)), (6, (.slot 6)), (21, (.res 3))])))
    [0, 1, 5, 6]
abbrev law10_alike_r6 : NC := .reg
    (.q 3 (.ixs 1) [(.slot 5), (.slot 6)] none
    (.q 4 .ld [(.res 3)] none
    (.x 5 (.call 20) [(.slot 0), (.res 4)] none []
    (.q 7 (.ext 0) [(.res 5)] none
    (.q 8 (.ext 1) [(.res 5)] none
    (.out [(0, (.slot 0)), (1, (.slot 1)), (5, (.slot 5)), (6, (.slot 6)), (7, (.res 7))]))))))
    [0, 1, 5, 6]
abbrev law10_alike_r7 : NC := .reg
    (.q 3 (.ixs 1) [(.slot 5), (.slot 6)] none
    (.q 4 .ld [(.res 3)] none
    (.x 5 (.call 59) [(.slot 1), (.res 4)] none []
    (.q 7 (.ext 0) [(.res 5)] none
    (.q 8 (.ext 1) [(.res 5)] none
    (.out [(0, (.slot 0)), (1, (.slot 1)), (5, (.slot 5)), (6, (.slot 6)), (7, (.slot 7)), (9, (.res 7))]))))))
    [0, 1, 5, 6, 7]
abbrev law10_alike_r8 : NC := .reg
    (.x 2 (.call 57) [(.slot 7), (.slot 9)] none []
    (.q 3 .not [(.res 2)] none
    (.out [(0, (.slot 0)), (1, (.slot 1)), (5, (.slot 5)), (6, (.slot 6)), (45, (.res 3))])))
    [0, 1, 5, 6, 7, 9]
abbrev law10_alike_r9 : NC := .reg
    (.out [(4, (.const (.bool false)))])
    []
abbrev law10_alike_r10 : NC := .reg
    (.q 1 (.iar .add) [(.slot 6), (.const (.int .i64 1))] none
    (.out [(0, (.slot 0)), (1, (.slot 1)), (5, (.slot 5)), (6, (.res 1))]))
    [0, 1, 5, 6]
abbrev law10_alike_l0 : NC :=
  (.seq (.seq law10_alike_r5
  (.cond (.slot 21)
    .skip
    (.exit 0)))
  (.seq (.block 1 (.seq law10_alike_r6
  (.seq law10_alike_r7
  (.seq law10_alike_r8
  (.cond (.slot 45)
    (.seq law10_alike_r9
    .ret)
    .skip)))))
  law10_alike_r10))
abbrev law10_alike_r11 : NC := .reg
    (.out [(4, (.const (.bool true)))])
    []
abbrev law10_alike_c : NC :=
  (.seq law10_alike_r0
  (.seq law10_alike_r1
  (.seq (.seq law10_alike_r2
  (.cond (.slot 17)
    (.seq law10_alike_r3
    .ret)
    .skip))
  (.seq (.seq law10_alike_r4
  (.block 0 (.loop [0, 1, 5, 6] law10_alike_l0)))
  (.seq law10_alike_r11
  .ret)))))
abbrev law10_alike_F : FN := ⟨law10_alike_c, [.slot 4]⟩
theorem law10_alike_ok : compF Tryz.prog Tryz.f18 = some law10_alike_F := by kernel_rfl
theorem law10_alike_go {args : List Value} {m : Mem} {R : Value → Mem → Prop} (hn : args.length ≤ Tryz.f18.ntmps) (h : wpN Tryz.prog law10_alike_c (retP law10_alike_F.rvs R) (zipP 0 args) m) : MC Tryz.prog 18 args m R := MC_start Tryz.func18 law10_alike_ok mixed_ok hn h
/-! concord/concordlaw10.texts -/
abbrev law10_texts_r0 : NC := .reg
    (.out [(0, (.slot 0)), (1, (.slot 1))])
    [0, 1]
abbrev law10_texts_r1 : NC := .reg
    (.q 1 .len [(.slot 0)] none
    (.q 3 .len [(.slot 1)] none
    (.q 4 (.icm .neq) [(.res 1), (.res 3)] none
    (.out [(0, (.slot 0)), (1, (.slot 1)), (10, (.res 4))]))))
    [0, 1]
abbrev law10_texts_r2 : NC := .reg
    (.out [(4, (.const (.bool false)))])
    []
abbrev law10_texts_r3 : NC := .reg
    (.out [(0, (.slot 0)), (1, (.slot 1)), (5, (.const (.int .i64 0)))])
    [0, 1]
abbrev law10_texts_r4 : NC := .reg
    (.q 2 .len [(.slot 0)] none
    (.q 3 (.icm .lss) [(.slot 5), (.res 2)] none
    (.out [(0, (.slot 0)), (1, (.slot 1)), (5, (.slot 5)), (14, (.res 3))])))
    [0, 1, 5]
abbrev law10_texts_r5 : NC := .reg
    (.q 2 (.ixs 1) [(.slot 0), (.slot 5)] none
    (.q 3 .ld [(.res 2)] none
    (.q 4 .b2s [(.res 3)] none
    (.q 7 (.ixs 1) [(.slot 1), (.slot 5)] none
    (.q 8 .ld [(.res 7)] none
    (.q 9 (.str .neq) [(.res 4), (.res 8)] none
    (.out [(0, (.slot 0)), (1, (.slot 1)), (5, (.slot 5)), (26, (.res 9))])))))))
    [0, 1, 5]
abbrev law10_texts_r6 : NC := .reg
    (.out [(4, (.const (.bool false)))])
    []
abbrev law10_texts_r7 : NC := .reg
    (.q 1 (.iar .add) [(.slot 5), (.const (.int .i64 1))] none
    (.out [(0, (.slot 0)), (1, (.slot 1)), (5, (.res 1))]))
    [0, 1, 5]
abbrev law10_texts_l0 : NC :=
  (.seq (.seq law10_texts_r4
  (.cond (.slot 14)
    .skip
    (.exit 0)))
  (.seq (.block 1 (.seq law10_texts_r5
  (.cond (.slot 26)
    (.seq law10_texts_r6
    .ret)
    .skip)))
  law10_texts_r7))
abbrev law10_texts_r8 : NC := .reg
    (.out [(4, (.const (.bool true)))])
    []
abbrev law10_texts_c : NC :=
  (.seq law10_texts_r0
  (.seq (.seq law10_texts_r1
  (.cond (.slot 10)
    (.seq law10_texts_r2
    .ret)
    .skip))
  (.seq (.seq law10_texts_r3
  (.block 0 (.loop [0, 1, 5] law10_texts_l0)))
  (.seq law10_texts_r8
  .ret))))
abbrev law10_texts_F : FN := ⟨law10_texts_c, [.slot 4]⟩
theorem law10_texts_ok : compF Tryz.prog Tryz.f31 = some law10_texts_F := by kernel_rfl
theorem law10_texts_go {args : List Value} {m : Mem} {R : Value → Mem → Prop} (hn : args.length ≤ Tryz.f31.ntmps) (h : wpN Tryz.prog law10_texts_c (retP law10_texts_F.rvs R) (zipP 0 args) m) : MC Tryz.prog 31 args m R := MC_start Tryz.func31 law10_texts_ok mixed_ok hn h
/-! concord/concordbook.Same[byte] -/
abbrev book_Same_byte_r0 : NC := .reg
    (.out [(0, (.slot 0)), (1, (.slot 1))])
    [0, 1]
abbrev book_Same_byte_r1 : NC := .reg
    (.q 1 .len [(.slot 0)] none
    (.q 3 .len [(.slot 1)] none
    (.q 4 (.icm .neq) [(.res 1), (.res 3)] none
    (.out [(0, (.slot 0)), (1, (.slot 1)), (10, (.res 4))]))))
    [0, 1]
abbrev book_Same_byte_r2 : NC := .reg
    (.out [(4, (.const (.bool false)))])
    []
abbrev book_Same_byte_r3 : NC := .reg
    (.out [(0, (.slot 0)), (1, (.slot 1)), (5, (.const (.int .i64 0)))])
    [0, 1]
abbrev book_Same_byte_r4 : NC := .reg
    (.q 2 .len [(.slot 0)] none
    (.q 3 (.icm .lss) [(.slot 5), (.res 2)] none
    (.out [(0, (.slot 0)), (1, (.slot 1)), (5, (.slot 5)), (14, (.res 3))])))
    [0, 1, 5]
abbrev book_Same_byte_r5 : NC := .reg
    (.q 2 (.ixs 1) [(.slot 0), (.slot 5)] none
    (.q 3 .ld [(.res 2)] none
    (.q 6 (.ixs 1) [(.slot 1), (.slot 5)] none
    (.q 7 .ld [(.res 6)] none
    (.q 8 (.icm .neq) [(.res 3), (.res 7)] none
    (.out [(0, (.slot 0)), (1, (.slot 1)), (5, (.slot 5)), (25, (.res 8))]))))))
    [0, 1, 5]
abbrev book_Same_byte_r6 : NC := .reg
    (.out [(4, (.const (.bool false)))])
    []
abbrev book_Same_byte_r7 : NC := .reg
    (.q 1 (.iar .add) [(.slot 5), (.const (.int .i64 1))] none
    (.out [(0, (.slot 0)), (1, (.slot 1)), (5, (.res 1))]))
    [0, 1, 5]
abbrev book_Same_byte_l0 : NC :=
  (.seq (.seq book_Same_byte_r4
  (.cond (.slot 14)
    .skip
    (.exit 0)))
  (.seq (.block 1 (.seq book_Same_byte_r5
  (.cond (.slot 25)
    (.seq book_Same_byte_r6
    .ret)
    .skip)))
  book_Same_byte_r7))
abbrev book_Same_byte_r8 : NC := .reg
    (.out [(4, (.const (.bool true)))])
    []
abbrev book_Same_byte_c : NC :=
  (.seq book_Same_byte_r0
  (.seq (.seq book_Same_byte_r1
  (.cond (.slot 10)
    (.seq book_Same_byte_r2
    .ret)
    .skip))
  (.seq (.seq book_Same_byte_r3
  (.block 0 (.loop [0, 1, 5] book_Same_byte_l0)))
  (.seq book_Same_byte_r8
  .ret))))
abbrev book_Same_byte_F : FN := ⟨book_Same_byte_c, [.slot 4]⟩
theorem book_Same_byte_ok : compF Tryz.prog Tryz.f57 = some book_Same_byte_F := by kernel_rfl
theorem book_Same_byte_go {args : List Value} {m : Mem} {R : Value → Mem → Prop} (hn : args.length ≤ Tryz.f57.ntmps) (h : wpN Tryz.prog book_Same_byte_c (retP book_Same_byte_F.rvs R) (zipP 0 args) m) : MC Tryz.prog 57 args m R := MC_start Tryz.func57 book_Same_byte_ok mixed_ok hn h
/-! concord/concordbook.Same[string] -/
abbrev book_Same_string_r0 : NC := .reg
    (.out [(0, (.slot 0)), (1, (.slot 1))])
    [0, 1]
abbrev book_Same_string_r1 : NC := .reg
    (.q 1 .len [(.slot 0)] none
    (.q 3 .len [(.slot 1)] none
    (.q 4 (.icm .neq) [(.res 1), (.res 3)] none
    (.out [(0, (.slot 0)), (1, (.slot 1)), (10, (.res 4))]))))
    [0, 1]
abbrev book_Same_string_r2 : NC := .reg
    (.out [(4, (.const (.bool false)))])
    []
abbrev book_Same_string_r3 : NC := .reg
    (.out [(0, (.slot 0)), (1, (.slot 1)), (5, (.const (.int .i64 0)))])
    [0, 1]
abbrev book_Same_string_r4 : NC := .reg
    (.q 2 .len [(.slot 0)] none
    (.q 3 (.icm .lss) [(.slot 5), (.res 2)] none
    (.out [(0, (.slot 0)), (1, (.slot 1)), (5, (.slot 5)), (14, (.res 3))])))
    [0, 1, 5]
abbrev book_Same_string_r5 : NC := .reg
    (.q 2 (.ixs 1) [(.slot 0), (.slot 5)] none
    (.q 3 .ld [(.res 2)] none
    (.q 6 (.ixs 1) [(.slot 1), (.slot 5)] none
    (.q 7 .ld [(.res 6)] none
    (.q 8 (.str .neq) [(.res 3), (.res 7)] none
    (.out [(0, (.slot 0)), (1, (.slot 1)), (5, (.slot 5)), (25, (.res 8))]))))))
    [0, 1, 5]
abbrev book_Same_string_r6 : NC := .reg
    (.out [(4, (.const (.bool false)))])
    []
abbrev book_Same_string_r7 : NC := .reg
    (.q 1 (.iar .add) [(.slot 5), (.const (.int .i64 1))] none
    (.out [(0, (.slot 0)), (1, (.slot 1)), (5, (.res 1))]))
    [0, 1, 5]
abbrev book_Same_string_l0 : NC :=
  (.seq (.seq book_Same_string_r4
  (.cond (.slot 14)
    .skip
    (.exit 0)))
  (.seq (.block 1 (.seq book_Same_string_r5
  (.cond (.slot 25)
    (.seq book_Same_string_r6
    .ret)
    .skip)))
  book_Same_string_r7))
abbrev book_Same_string_r8 : NC := .reg
    (.out [(4, (.const (.bool true)))])
    []
abbrev book_Same_string_c : NC :=
  (.seq book_Same_string_r0
  (.seq (.seq book_Same_string_r1
  (.cond (.slot 10)
    (.seq book_Same_string_r2
    .ret)
    .skip))
  (.seq (.seq book_Same_string_r3
  (.block 0 (.loop [0, 1, 5] book_Same_string_l0)))
  (.seq book_Same_string_r8
  .ret))))
abbrev book_Same_string_F : FN := ⟨book_Same_string_c, [.slot 4]⟩
theorem book_Same_string_ok : compF Tryz.prog Tryz.f58 = some book_Same_string_F := by kernel_rfl
theorem book_Same_string_go {args : List Value} {m : Mem} {R : Value → Mem → Prop} (hn : args.length ≤ Tryz.f58.ntmps) (h : wpN Tryz.prog book_Same_string_c (retP book_Same_string_F.rvs R) (zipP 0 args) m) : MC Tryz.prog 58 args m R := MC_start Tryz.func58 book_Same_string_ok mixed_ok hn h
end Go.Fw
