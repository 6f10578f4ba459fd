import Derived.Test.YtimedjfpihdffaaGreatFxA
import Derived.Test.YtimedjfpihdffaaGreatProg
set_option linter.unusedVariables false
set_option linter.unusedSimpArgs false
namespace Go.Fw
open Go.Proofs
abbrev T_uint8:Nat:=5
abbrev T_api_Inst:Nat:=25
abbrev T_P_core_Core:Nat:=27
abbrev T_api_Command:Nat:=30
abbrev T_api_Ballot:Nat:=35
abbrev T_A7_int:Nat:=36
abbrev T_api_Deps:Nat:=37
abbrev T_api_Attr:Nat:=39
abbrev T_api_Cell:Nat:=41
abbrev T_api_Letter:Nat:=45
abbrev T_S_S_uint8:Nat:=47
abbrev T_law18_world:Nat:=57
abbrev T_core_Core:Nat:=83
abbrev T_P_core_lead:Nat:=88
abbrev T_core_lead:Nat:=92
abbrev T_P_core_wish:Nat:=94
abbrev T_core_wish:Nat:=98
abbrev T_quorum_Said:Nat:=102
abbrev T_S_uint8:Nat:=113
abbrev T_log_Log:Nat:=127
abbrev T_interf_Index:Nat:=130
abbrev n_law18_CoreRuns:Nat:=3
abbrev n_law18_CoreFast:Nat:=4
abbrev n_law18_three:Nat:=9
abbrev n_core_Core_Propose:Nat:=10
abbrev n_law18_put:Nat:=11
abbrev n_law18_give:Nat:=12
abbrev n_core_Core_Cell:Nat:=13
abbrev n_core_Core_Recover:Nat:=14
abbrev n_core_Core_Drain:Nat:=15
abbrev n_law18_fresh:Nat:=16
abbrev n_book_Within:Nat:=17
abbrev n_cmd_Right:Nat:=18
abbrev n_law18_world_drain:Nat:=19
abbrev n_core_Core_Take:Nat:=20
abbrev n_core_Core_Busy:Nat:=21
abbrev n_core_New:Nat:=24
abbrev n_log_Log_Top:Nat:=28
abbrev n_interf_Index_Attr:Nat:=29
abbrev n_deps_Right:Nat:=30
abbrev n_core_Core_set:Nat:=31
abbrev n_core_Core_begin:Nat:=32
abbrev n_log_Log_Cell:Nat:=33
abbrev n_core_Core_open:Nat:=34
abbrev n_core_Core_find:Nat:=35
abbrev n_core_Core_wished:Nat:=36
abbrev n_inst_Below:Nat:=37
abbrev n_inst_Next:Nat:=38
abbrev n_inst_RightBallot:Nat:=39
abbrev n_cmd_within:Nat:=40
abbrev n_cmd_bare:Nat:=41
abbrev n_letter_Right:Nat:=42
abbrev n_core_Core_one:Nat:=43
abbrev n_log_Log_Gone:Nat:=44
abbrev n_core_Core_asked:Nat:=45
abbrev n_core_Core_told:Nat:=46
abbrev n_core_Core_refused:Nat:=47
abbrev n_core_Core_answered:Nat:=48
abbrev n_cmd_Clash:Nat:=49
abbrev n_quorum_Fits:Nat:=50
abbrev n_log_New:Nat:=51
abbrev n_interf_New:Nat:=52
abbrev n_interf_Index_Prune:Nat:=53
abbrev n_log_Log_Set:Nat:=55
abbrev n_core_Core_note:Nat:=56
abbrev n_core_Core_weigh:Nat:=58
abbrev n_core_Core_all:Nat:=59
abbrev n_core_lead_ask:Nat:=60
abbrev n_core_Core_Want:Nat:=62
abbrev n_inst_Right:Nat:=66
abbrev n_log_Record:Nat:=67
abbrev n_core_Core_take:Nat:=68
abbrev n_letter_named:Nat:=69
abbrev n_letter_place:Nat:=70
abbrev n_letter_bare:Nat:=71
abbrev n_letter_RightCell:Nat:=72
abbrev n_core_Core_send:Nat:=73
abbrev n_core_Core_leave:Nat:=74
abbrev n_core_Core_pre:Nat:=75
abbrev n_quorum_Slow:Nat:=76
abbrev n_core_Core_commit:Nat:=77
abbrev n_core_Core_prepared:Nat:=78
abbrev n_cmd_Keys:Nat:=79
abbrev n_cmd_Writes:Nat:=80
abbrev n_span_Meets:Nat:=81
abbrev n_log_Log_Trim:Nat:=82
abbrev n_log_may:Nat:=87
abbrev n_interf_Index_Note:Nat:=88
abbrev n_quorum_Pre:Nat:=89
abbrev n_core_Core_accept:Nat:=90
abbrev n_inst_Less:Nat:=93
abbrev n_slices_Insert_core_wish_core_wish:Nat:=94
abbrev n_letter_PutCell:Nat:=96
abbrev n_pack_Num:Nat:=97
abbrev n_slices_Insert_core_lead_core_lead:Nat:=98
abbrev n_slices_DeleteFunc_core_lead_core_lead:Nat:=99
abbrev n_core_Core_leave_c1:Nat:=100
abbrev n_deps_Join:Nat:=101
abbrev n_quorum_Prepared:Nat:=102
abbrev n_quorum_Noop:Nat:=103
abbrev n_core_Core_again:Nat:=104
abbrev n_span_Of:Nat:=105
abbrev n_span_Empty:Nat:=106
abbrev n_span_under:Nat:=107
abbrev n_pack_grown:Nat:=108
abbrev n_quorum_Fast:Nat:=117
abbrev n_letter_ballot:Nat:=122
abbrev n_cmd_Put:Nat:=123
abbrev n_pack_Flag:Nat:=124
abbrev n_deps_Put:Nat:=125
abbrev n_pack_num:Nat:=126
abbrev n_slices_IndexFunc_core_lead_core_lead:Nat:=129
abbrev n_quorum_best:Nat:=130
abbrev n_pack_Text:Nat:=143
abbrev n_word_Zig:Nat:=144
theorem mixed_ok:Tryz.prog.follows .mixedOrders = true:=by kernel_rfl
end Go.Fw
namespace Go.Fw
open Go.Proofs
/-! concord/cmd.Right -/
abbrev Q18r0:NC:=.reg (.x 0 (.box 30) [(.slot 0)] none [] (.out [(1,(.res 0))])) [0]
abbrev Q18r1:NC:=.reg (.q 0 (.lda 7) [(.slot 1)] none (.q 1 (.bld [(.int .i64 0),(.int .i64 0),(.int .i64 0),(.string ⟨#[]⟩),(.string ⟨#[]⟩),(.string ⟨#[]⟩),(.string ⟨#[]⟩)] []) [] none (.q 2 (.eqc false [(.i .i64),(.i .i64),(.i .i64),.s,.s,.s,.s]) [(.res 0),(.res 1)] none (.out [(1,(.slot 1)),(6,(.res 2))])))) [1]
abbrev Q18r2:NC:=.reg (.out [(2,(.const (.bool true)))]) []
abbrev Q18r3:NC:=.reg (.q 0 (.fld 0) [(.slot 1)] none (.q 1 .ld [(.res 0)] none (.x 2 (.call 40) [(.res 1),(.const (.int .i64 5))] none [] (.q 3 .not [(.res 2)] none (.q 5 (.fld 1) [(.slot 1)] (some ((.res 3),false)) (.q 6 .ld [(.res 5)] (some ((.res 3),false)) (.x 7 (.call 40) [(.res 6),(.const (.int .i64 8))] (some ((.res 3),false)) [] (.q 8 .not [(.res 7)] (some ((.res 3),false)) (.q 9 .pick [(.res 3),(.const (.bool true)),(.res 8)] none (.q 11 (.fld 2) [(.slot 1)] (some ((.res 9),false)) (.q 12 .ld [(.res 11)] (some ((.res 9),false)) (.x 13 (.call 40) [(.res 12),(.const (.int .i64 1099511627776))] (some ((.res 9),false)) [] (.q 14 .not [(.res 13)] (some ((.res 9),false)) (.q 15 .pick [(.res 9),(.const (.bool true)),(.res 14)] none (.q 17 (.lda 7) [(.slot 1)] (some ((.res 15),false)) (.q 18 (.lda 7) [(.slot 1)] (some ((.res 15),false)) (.x 19 (.call 41) [(.res 18)] (some ((.res 15),false)) [(17,(.lda 7),[(.slot 1)],(some ((.res 15),false)))] (.q 20 (.eqc true [(.i .i64),(.i .i64),(.i .i64),.s,.s,.s,.s]) [(.res 17),(.res 19)] (some ((.res 15),false)) (.q 21 .pick [(.res 15),(.const (.bool true)),(.res 20)] none (.out [(1,(.slot 1)),(28,(.res 21))])))))))))))))))))))) [1]
abbrev Q18r4:NC:=.reg (.out [(2,(.const (.bool false)))]) []
abbrev Q18r5:NC:=.reg (.q 0 (.fld 3) [(.slot 1)] none (.q 1 .ld [(.res 0)] none (.q 2 .lenz [(.res 1)] none (.q 3 (.icm .gtr) [(.res 2),(.const (.int .i64 16))] none (.q 5 (.fld 4) [(.slot 1)] (some ((.res 3),false)) (.q 6 .ld [(.res 5)] (some ((.res 3),false)) (.q 7 .lenz [(.res 6)] (some ((.res 3),false)) (.q 8 (.icm .gtr) [(.res 7),(.const (.int .i64 16))] (some ((.res 3),false)) (.q 9 .pick [(.res 3),(.const (.bool true)),(.res 8)] none (.q 11 (.fld 5) [(.slot 1)] (some ((.res 9),false)) (.q 12 .ld [(.res 11)] (some ((.res 9),false)) (.q 13 .lenz [(.res 12)] (some ((.res 9),false)) (.q 14 (.icm .gtr) [(.res 13),(.const (.int .i64 64))] (some ((.res 9),false)) (.q 15 .pick [(.res 9),(.const (.bool true)),(.res 14)] none (.q 17 (.fld 6) [(.slot 1)] (some ((.res 15),false)) (.q 18 .ld [(.res 17)] (some ((.res 15),false)) (.q 19 .lenz [(.res 18)] (some ((.res 15),false)) (.q 20 (.icm .gtr) [(.res 19),(.const (.int .i64 64))] (some ((.res 15),false)) (.q 21 .pick [(.res 15),(.const (.bool true)),(.res 20)] none (.out [(1,(.slot 1)),(3,(.res 21))])))))))))))))))))))) [1]
abbrev Q18r6:NC:=.reg (.q 1 .not [(.slot 3)] none (.q 3 (.fld 3) [(.slot 1)] (some ((.res 1),true)) (.q 4 .ld [(.res 3)] (some ((.res 1),true)) (.q 5 (.str .neq) [(.res 4),(.const (.string ⟨#[]⟩))] (some ((.res 1),true)) (.q 6 .mv [(.res 5)] (some ((.res 1),true)) (.q 7 (.fld 0) [(.slot 1)] (some ((.res 6),false)) (.q 8 .ld [(.res 7)] (some ((.res 6),false)) (.q 9 (.icm .eql) [(.res 8),(.const (.int .i64 5))] (some ((.res 6),false)) (.q 10 .pick [(.res 6),(.const (.bool true)),(.res 9)] (some ((.res 1),true)) (.q 11 .pick [(.res 1),(.res 10),(.const (.bool false))] none (.out [(2,(.res 11))]))))))))))) [1,3]
abbrev Q18c:NC:=(.seq Q18r0 (.seq (.seq Q18r1 (.cond (.slot 6) (.seq Q18r2 .ret) .skip)) (.seq (.seq Q18r3 (.cond (.slot 28) (.seq Q18r4 .ret) .skip)) (.seq Q18r5 (.seq Q18r6 .ret)))))
abbrev Q18F:FN:=⟨Q18c,[.slot 2]⟩
theorem Q18ok:compF Tryz.prog Tryz.f18 = some Q18F:=by kernel_rfl
theorem Q18go {args:List Value} {m:Mem} {R:Value → Mem → Prop} (hn:args.length ≤ Tryz.f18.ntmps) (h:wpN Tryz.prog Q18c (retP Q18F.rvs R) (zipP 0 args) m):MC Tryz.prog 18 args m R:=MC_start Tryz.func18 Q18ok mixed_ok hn h
/-! concord/deps.Right -/
abbrev Q30r0:NC:=.reg (.x 0 (.box 39) [(.slot 0)] none [] (.out [(1,(.res 0))])) [0]
abbrev Q30r1:NC:=.reg (.q 0 (.fld 1) [(.slot 1)] none (.q 1 (.lda 7) [(.res 0)] none (.out [(1,(.slot 1)),(6,(.res 1)),(7,(.const (.int .i64 0)))]))) [1]
abbrev Q30r2:NC:=.reg (.q 0 (.icm .lss) [(.slot 7),(.const (.int .i64 7))] none (.out [(1,(.slot 1)),(6,(.slot 6)),(7,(.slot 7)),(8,(.res 0))])) [1,6,7]
abbrev Q30r3:NC:=.reg (.q 0 (.idx 7 1) [(.slot 6),(.slot 7)] none (.out [(1,(.slot 1)),(4,(.res 0)),(6,(.slot 6)),(7,(.slot 7))])) [1,6,7]
abbrev Q30r4:NC:=.reg (.q 1 (.icm .lss) [(.slot 4),(.const (.int .i64 0))] none (.q 3 .mv [(.slot 4)] (some ((.res 1),false)) (.q 4 (.icm .gtr) [(.res 3),(.const (.int .i64 1073741824))] (some ((.res 1),false)) (.q 5 .pick [(.res 1),(.const (.bool true)),(.res 4)] none (.out [(1,(.slot 1)),(6,(.slot 6)),(7,(.slot 7)),(15,(.res 5))]))))) [1,4,6,7]
abbrev Q30r5:NC:=.reg (.out [(2,(.const (.bool false)))]) []
abbrev Q30r6:NC:=.reg (.q 0 (.iar .add) [(.slot 7),(.const (.int .i64 1))] none (.out [(1,(.slot 1)),(6,(.slot 6)),(7,(.res 0))])) [1,6,7]
abbrev Q30l0:NC:=(.seq Q30r2 (.seq (.cond (.slot 8) .skip (.exit 0)) (.seq (.block 1 (.seq Q30r3 (.seq Q30r4 (.cond (.slot 15) (.seq Q30r5 .ret) .skip)))) Q30r6)))
abbrev Q30r7:NC:=.reg (.q 0 (.fld 0) [(.slot 1)] none (.q 1 .ld [(.res 0)] none (.q 2 (.icm .geq) [(.res 1),(.const (.int .i64 0))] none (.q 4 (.fld 0) [(.slot 1)] (some ((.res 2),true)) (.q 5 .ld [(.res 4)] (some ((.res 2),true)) (.q 6 (.icm .leq) [(.res 5),(.const (.int .i64 1099511627776))] (some ((.res 2),true)) (.q 7 .pick [(.res 2),(.res 6),(.const (.bool false))] none (.out [(2,(.res 7))])))))))) [1]
abbrev Q30c:NC:=(.seq Q30r0 (.seq (.seq Q30r1 (.block 0 (.loop [1,6,7] Q30l0))) (.seq Q30r7 .ret)))
abbrev Q30F:FN:=⟨Q30c,[.slot 2]⟩
theorem Q30ok:compF Tryz.prog Tryz.f30 = some Q30F:=by kernel_rfl
theorem Q30go {args:List Value} {m:Mem} {R:Value → Mem → Prop} (hn:args.length ≤ Tryz.f30.ntmps) (h:wpN Tryz.prog Q30c (retP Q30F.rvs R) (zipP 0 args) m):MC Tryz.prog 30 args m R:=MC_start Tryz.func30 Q30ok mixed_ok hn h
/-! concord/inst.Below -/
abbrev Q37r0:NC:=.reg (.x 0 (.box 35) [(.slot 0)] none [] (.x 1 (.box 35) [(.slot 1)] none [] (.out [(2,(.res 0)),(3,(.res 1))]))) [0,1]
abbrev Q37r1:NC:=.reg (.q 0 (.fld 0) [(.slot 2)] none (.q 1 .ld [(.res 0)] none (.q 2 (.fld 0) [(.slot 3)] none (.q 3 .ld [(.res 2)] none (.q 4 (.icm .lss) [(.res 1),(.res 3)] none (.q 6 (.fld 0) [(.slot 2)] (some ((.res 4),false)) (.q 7 .ld [(.res 6)] (some ((.res 4),false)) (.q 8 (.fld 0) [(.slot 3)] (some ((.res 4),false)) (.q 9 .ld [(.res 8)] (some ((.res 4),false)) (.q 10 (.icm .eql) [(.res 7),(.res 9)] (some ((.res 4),false)) (.q 11 .mv [(.res 10)] (some ((.res 4),false)) (.q 12 (.fld 1) [(.slot 2)] (some ((.res 11),true)) (.q 13 .ld [(.res 12)] (some ((.res 11),true)) (.q 14 (.fld 1) [(.slot 3)] (some ((.res 11),true)) (.q 15 .ld [(.res 14)] (some ((.res 11),true)) (.q 16 (.icm .lss) [(.res 13),(.res 15)] (some ((.res 11),true)) (.q 17 .pick [(.res 11),(.res 16),(.const (.bool false))] (some ((.res 4),false)) (.q 18 .pick [(.res 4),(.const (.bool true)),(.res 17)] none (.out [(4,(.res 18))]))))))))))))))))))) [2,3]
abbrev Q37c:NC:=(.seq Q37r0 (.seq Q37r1 .ret))
abbrev Q37F:FN:=⟨Q37c,[.slot 4]⟩
theorem Q37ok:compF Tryz.prog Tryz.f37 = some Q37F:=by kernel_rfl
theorem Q37go {args:List Value} {m:Mem} {R:Value → Mem → Prop} (hn:args.length ≤ Tryz.f37.ntmps) (h:wpN Tryz.prog Q37c (retP Q37F.rvs R) (zipP 0 args) m):MC Tryz.prog 37 args m R:=MC_start Tryz.func37 Q37ok mixed_ok hn h
/-! concord/inst.Next -/
abbrev Q38r0:NC:=.reg (.x 0 (.box 35) [(.slot 0)] none [] (.x 1 (.alc [(.int .i64 0),(.int .i64 0)] 35) [] none [] (.out [(1,(.slot 1)),(2,(.res 0)),(4,(.res 1))]))) [0,1]
abbrev Q38r1:NC:=.reg (.q 0 (.fld 0) [(.slot 2)] none (.q 1 .ld [(.res 0)] none (.q 2 (.iar .add) [(.res 1),(.const (.int .i64 1))] none (.q 4 (.bld [(.int .i64 0),(.int .i64 0)] [(0,1),(1,1)]) [(.res 2),(.slot 1)] none (.x 5 (.st 2) [(.slot 4),(.res 4)] none [] (.out [(4,(.slot 4))])))))) [1,2,4]
abbrev Q38c:NC:=(.seq Q38r0 (.seq Q38r1 .ret))
abbrev Q38F:FN:=⟨Q38c,[.cells 4 2]⟩
theorem Q38ok:compF Tryz.prog Tryz.f38 = some Q38F:=by kernel_rfl
theorem Q38go {args:List Value} {m:Mem} {R:Value → Mem → Prop} (hn:args.length ≤ Tryz.f38.ntmps) (h:wpN Tryz.prog Q38c (retP Q38F.rvs R) (zipP 0 args) m):MC Tryz.prog 38 args m R:=MC_start Tryz.func38 Q38ok mixed_ok hn h
/-! concord/inst.RightBallot -/
abbrev Q39r0:NC:=.reg (.x 0 (.box 35) [(.slot 0)] none [] (.out [(1,(.res 0))])) [0]
abbrev Q39r1:NC:=.reg (.q 0 (.fld 0) [(.slot 1)] none (.q 1 .ld [(.res 0)] none (.q 2 (.icm .geq) [(.res 1),(.const (.int .i64 0))] none (.q 4 (.fld 0) [(.slot 1)] (some ((.res 2),true)) (.q 5 .ld [(.res 4)] (some ((.res 2),true)) (.q 6 (.icm .leq) [(.res 5),(.const (.int .i64 1073741824))] (some ((.res 2),true)) (.q 7 .pick [(.res 2),(.res 6),(.const (.bool false))] none (.q 9 (.fld 1) [(.slot 1)] (some ((.res 7),true)) (.q 10 .ld [(.res 9)] (some ((.res 7),true)) (.q 11 (.icm .geq) [(.res 10),(.const (.int .i64 0))] (some ((.res 7),true)) (.q 12 .pick [(.res 7),(.res 11),(.const (.bool false))] none (.q 14 (.fld 1) [(.slot 1)] (some ((.res 12),true)) (.q 15 .ld [(.res 14)] (some ((.res 12),true)) (.q 16 (.icm .lss) [(.res 15),(.const (.int .i64 7))] (some ((.res 12),true)) (.q 17 .pick [(.res 12),(.res 16),(.const (.bool false))] none (.out [(2,(.res 17))])))))))))))))))) [1]
abbrev Q39c:NC:=(.seq Q39r0 (.seq Q39r1 .ret))
abbrev Q39F:FN:=⟨Q39c,[.slot 2]⟩
theorem Q39ok:compF Tryz.prog Tryz.f39 = some Q39F:=by kernel_rfl
theorem Q39go {args:List Value} {m:Mem} {R:Value → Mem → Prop} (hn:args.length ≤ Tryz.f39.ntmps) (h:wpN Tryz.prog Q39c (retP Q39F.rvs R) (zipP 0 args) m):MC Tryz.prog 39 args m R:=MC_start Tryz.func39 Q39ok mixed_ok hn h
/-! concord/cmd.within -/
abbrev Q40r0:NC:=.reg (.out [(0,(.slot 0)),(1,(.slot 1))]) [0,1]
abbrev Q40r1:NC:=.reg (.q 1 (.icm .geq) [(.slot 0),(.const (.int .i64 1))] none (.q 3 .mv [(.slot 0)] (some ((.res 1),true)) (.q 4 .mv [(.slot 1)] (some ((.res 1),true)) (.q 5 (.icm .leq) [(.res 3),(.res 4)] (some ((.res 1),true)) (.q 6 .pick [(.res 1),(.res 5),(.const (.bool false))] none (.out [(4,(.res 6))])))))) [0,1]
abbrev Q40c:NC:=(.seq Q40r0 (.seq Q40r1 .ret))
abbrev Q40F:FN:=⟨Q40c,[.slot 4]⟩
theorem Q40ok:compF Tryz.prog Tryz.f40 = some Q40F:=by kernel_rfl
theorem Q40go {args:List Value} {m:Mem} {R:Value → Mem → Prop} (hn:args.length ≤ Tryz.f40.ntmps) (h:wpN Tryz.prog Q40c (retP Q40F.rvs R) (zipP 0 args) m):MC Tryz.prog 40 args m R:=MC_start Tryz.func40 Q40ok mixed_ok hn h
/-! concord/cmd.bare -/
abbrev Q41r0:NC:=.reg (.x 0 (.box 30) [(.slot 0)] none [] (.x 1 (.alc [(.int .i64 0),(.int .i64 0),(.int .i64 0),(.string ⟨#[]⟩),(.string ⟨#[]⟩),(.string ⟨#[]⟩),(.string ⟨#[]⟩)] 30) [] none [] (.out [(1,(.res 0)),(2,(.res 1))]))) [0]
abbrev Q41r1:NC:=.reg (.q 0 (.fld 0) [(.slot 1)] none (.q 1 .ld [(.res 0)] none (.q 2 (.fld 1) [(.slot 1)] none (.q 3 .ld [(.res 2)] none (.q 4 (.fld 2) [(.slot 1)] none (.q 5 .ld [(.res 4)] none (.q 6 (.fld 3) [(.slot 1)] none (.q 7 .ld [(.res 6)] none (.q 8 (.bld [(.int .i64 0),(.int .i64 0),(.int .i64 0),(.string ⟨#[]⟩),(.string ⟨#[]⟩),(.string ⟨#[]⟩),(.string ⟨#[]⟩)] [(0,1),(1,1),(2,1),(3,1)]) [(.res 1),(.res 3),(.res 5),(.res 7)] none (.x 9 (.alc [(.int .i64 0),(.int .i64 0),(.int .i64 0),(.string ⟨#[]⟩),(.string ⟨#[]⟩),(.string ⟨#[]⟩),(.string ⟨#[]⟩)] 30) [] none [] (.x 10 (.st 7) [(.res 9),(.res 8)] none [] (.out [(1,(.slot 1)),(2,(.slot 2)),(3,(.res 9))])))))))))))) [1,2]
abbrev Q41r2:NC:=.reg (.q 0 (.fld 0) [(.slot 1)] none (.q 1 .ld [(.res 0)] none (.out [(1,(.slot 1)),(2,(.slot 2)),(3,(.slot 3)),(14,(.res 1))]))) [1,2,3]
abbrev Q41r3:NC:=.reg (.q 0 (.icm .eql) [(.slot 14),(.const (.int .i64 2))] none (.out [(1,(.slot 1)),(2,(.slot 2)),(3,(.slot 3)),(14,(.slot 14)),(15,(.res 0))])) [1,2,3,14]
abbrev Q41r4:NC:=.reg (.q 0 (.fld 6) [(.slot 1)] none (.q 1 .ld [(.res 0)] none (.q 2 (.fld 6) [(.slot 3)] none (.x 3 (.st 1) [(.res 2),(.res 1)] none [] (.out [(2,(.slot 2)),(3,(.slot 3))]))))) [1,2,3]
abbrev Q41r5:NC:=.reg (.q 0 (.icm .eql) [(.slot 14),(.const (.int .i64 4))] none (.out [(1,(.slot 1)),(2,(.slot 2)),(3,(.slot 3)),(14,(.slot 14)),(20,(.res 0))])) [1,2,3,14]
abbrev Q41r6:NC:=.reg (.q 0 (.fld 5) [(.slot 1)] none (.q 1 .ld [(.res 0)] none (.q 2 (.fld 6) [(.slot 1)] none (.q 3 .ld [(.res 2)] none (.q 4 (.fld 5) [(.slot 3)] none (.x 5 (.st 1) [(.res 4),(.res 1)] none [(3,.ld,[(.res 2)],none)] (.q 6 (.fld 6) [(.slot 3)] none (.x 7 (.st 1) [(.res 6),(.res 3)] none [] (.out [(2,(.slot 2)),(3,(.slot 3))]))))))))) [1,2,3]
abbrev Q41r7:NC:=.reg (.q 0 (.icm .eql) [(.slot 14),(.const (.int .i64 5))] none (.out [(1,(.slot 1)),(2,(.slot 2)),(3,(.slot 3)),(28,(.res 0))])) [1,2,3,14]
abbrev Q41r8:NC:=.reg (.q 0 (.fld 4) [(.slot 1)] none (.q 1 .ld [(.res 0)] none (.q 2 (.fld 4) [(.slot 3)] none (.x 3 (.st 1) [(.res 2),(.res 1)] none [] (.out [(2,(.slot 2)),(3,(.slot 3))]))))) [1,2,3]
abbrev Q41r9:NC:=.reg (.q 0 (.lda 7) [(.slot 3)] none (.x 1 (.st 7) [(.slot 2),(.res 0)] none [] (.out [(2,(.slot 2))]))) [2,3]
abbrev Q41c:NC:=(.seq Q41r0 (.seq Q41r1 (.seq (.seq Q41r2 (.block 0 (.seq Q41r3 (.cond (.slot 15) Q41r4 (.seq Q41r5 (.cond (.slot 20) Q41r6 (.seq Q41r7 (.cond (.slot 28) Q41r8 .skip)))))))) (.seq Q41r9 .ret))))
abbrev Q41F:FN:=⟨Q41c,[.cells 2 7]⟩
theorem Q41ok:compF Tryz.prog Tryz.f41 = some Q41F:=by kernel_rfl
theorem Q41go {args:List Value} {m:Mem} {R:Value → Mem → Prop} (hn:args.length ≤ Tryz.f41.ntmps) (h:wpN Tryz.prog Q41c (retP Q41F.rvs R) (zipP 0 args) m):MC Tryz.prog 41 args m R:=MC_start Tryz.func41 Q41ok mixed_ok hn h
/-! concord/cmd.Clash -/
abbrev Q49r0:NC:=.reg (.x 0 (.box 30) [(.slot 0)] none [] (.x 1 (.box 30) [(.slot 1)] none [] (.out [(2,(.res 0)),(3,(.res 1))]))) [0,1]
abbrev Q49r1:NC:=.reg (.q 0 (.lda 7) [(.slot 2)] none (.x 1 (.call 79) [(.res 0)] none [] (.q 3 (.ext 0) [(.res 1)] none (.q 4 (.ext 1) [(.res 1)] none (.x 5 (.alc [(.string ⟨#[]⟩),(.string ⟨#[]⟩)] 147) [] none [] (.x 6 (.st 2) [(.res 5),(.res 3)] none [] (.out [(2,(.slot 2)),(3,(.slot 3)),(5,(.res 5)),(6,(.res 4))]))))))) [2,3]
abbrev Q49r2:NC:=.reg (.q 0 (.lda 7) [(.slot 3)] none (.x 1 (.call 79) [(.res 0)] none [] (.q 3 (.ext 0) [(.res 1)] none (.q 4 (.ext 1) [(.res 1)] none (.x 5 (.alc [(.string ⟨#[]⟩),(.string ⟨#[]⟩)] 147) [] none [] (.x 6 (.st 2) [(.res 5),(.res 3)] none [] (.out [(2,(.slot 2)),(3,(.slot 3)),(5,(.slot 5)),(6,(.slot 6)),(7,(.res 5)),(8,(.res 4))]))))))) [2,3,5,6]
abbrev Q49r3:NC:=.reg (.q 1 .not [(.slot 6)] none (.q 3 .mv [(.slot 8)] (some ((.res 1),false)) (.q 4 .not [(.res 3)] (some ((.res 1),false)) (.q 5 .pick [(.res 1),(.const (.bool true)),(.res 4)] none (.out [(2,(.slot 2)),(3,(.slot 3)),(5,(.slot 5)),(7,(.slot 7)),(24,(.res 5))]))))) [2,3,5,6,7,8]
abbrev Q49r4:NC:=.reg (.out [(4,(.const (.bool false)))]) []
abbrev Q49r5:NC:=.reg (.q 0 (.fld 1) [(.slot 2)] none (.q 1 .ld [(.res 0)] none (.q 2 (.fld 1) [(.slot 3)] none (.q 3 .ld [(.res 2)] none (.q 4 (.icm .eql) [(.res 1),(.res 3)] none (.q 6 (.lda 7) [(.slot 2)] (some ((.res 4),false)) (.x 7 (.call 80) [(.res 6)] (some ((.res 4),false)) [] (.q 8 .mv [(.res 7)] (some ((.res 4),false)) (.q 9 (.lda 7) [(.slot 3)] (some ((.res 8),false)) (.x 10 (.call 80) [(.res 9)] (some ((.res 8),false)) [] (.q 11 .pick [(.res 8),(.const (.bool true)),(.res 10)] (some ((.res 4),false)) (.q 12 .mv [(.res 11)] (some ((.res 4),false)) (.q 13 (.lda 2) [(.slot 5)] (some ((.res 12),true)) (.q 14 (.lda 2) [(.slot 7)] (some ((.res 12),true)) (.x 15 (.call 81) [(.res 13),(.res 14)] (some ((.res 12),true)) [] (.q 16 .pick [(.res 12),(.res 15),(.const (.bool false))] (some ((.res 4),false)) (.q 17 .pick [(.res 4),(.const (.bool true)),(.res 16)] none (.out [(4,(.res 17))])))))))))))))))))) [2,3,5,7]
abbrev Q49c:NC:=(.seq Q49r0 (.seq Q49r1 (.seq Q49r2 (.seq (.seq Q49r3 (.cond (.slot 24) (.seq Q49r4 .ret) .skip)) (.seq Q49r5 .ret)))))
abbrev Q49F:FN:=⟨Q49c,[.slot 4]⟩
theorem Q49ok:compF Tryz.prog Tryz.f49 = some Q49F:=by kernel_rfl
theorem Q49go {args:List Value} {m:Mem} {R:Value → Mem → Prop} (hn:args.length ≤ Tryz.f49.ntmps) (h:wpN Tryz.prog Q49c (retP Q49F.rvs R) (zipP 0 args) m):MC Tryz.prog 49 args m R:=MC_start Tryz.func49 Q49ok mixed_ok hn h
/-! concord/inst.Right -/
abbrev Q66r0:NC:=.reg (.x 0 (.box 25) [(.slot 0)] none [] (.out [(1,(.res 0))])) [0]
abbrev Q66r1:NC:=.reg (.q 0 (.fld 0) [(.slot 1)] none (.q 1 .ld [(.res 0)] none (.q 2 (.icm .geq) [(.res 1),(.const (.int .i64 0))] none (.q 4 (.fld 0) [(.slot 1)] (some ((.res 2),true)) (.q 5 .ld [(.res 4)] (some ((.res 2),true)) (.q 6 (.icm .lss) [(.res 5),(.const (.int .i64 7))] (some ((.res 2),true)) (.q 7 .pick [(.res 2),(.res 6),(.const (.bool false))] none (.q 9 (.fld 1) [(.slot 1)] (some ((.res 7),true)) (.q 10 .ld [(.res 9)] (some ((.res 7),true)) (.q 11 (.icm .geq) [(.res 10),(.const (.int .i64 1))] (some ((.res 7),true)) (.q 12 .pick [(.res 7),(.res 11),(.const (.bool false))] none (.q 14 (.fld 1) [(.slot 1)] (some ((.res 12),true)) (.q 15 .ld [(.res 14)] (some ((.res 12),true)) (.q 16 (.icm .leq) [(.res 15),(.const (.int .i64 1073741824))] (some ((.res 12),true)) (.q 17 .pick [(.res 12),(.res 16),(.const (.bool false))] none (.out [(2,(.res 17))])))))))))))))))) [1]
abbrev Q66c:NC:=(.seq Q66r0 (.seq Q66r1 .ret))
abbrev Q66F:FN:=⟨Q66c,[.slot 2]⟩
theorem Q66ok:compF Tryz.prog Tryz.f66 = some Q66F:=by kernel_rfl
theorem Q66go {args:List Value} {m:Mem} {R:Value → Mem → Prop} (hn:args.length ≤ Tryz.f66.ntmps) (h:wpN Tryz.prog Q66c (retP Q66F.rvs R) (zipP 0 args) m):MC Tryz.prog 66 args m R:=MC_start Tryz.func66 Q66ok mixed_ok hn h
/-! concord/cmd.Keys -/
abbrev Q79r0:NC:=.reg (.x 0 (.box 30) [(.slot 0)] none [] (.x 1 (.alc [(.string ⟨#[]⟩),(.string ⟨#[]⟩)] 147) [] none [] (.out [(1,(.res 0)),(2,(.res 1))]))) [0]
abbrev Q79r1:NC:=.reg (.q 0 (.fld 0) [(.slot 1)] none (.q 1 .ld [(.res 0)] none (.out [(1,(.slot 1)),(2,(.slot 2)),(5,(.res 1))]))) [1,2]
abbrev Q79r2:NC:=.reg (.q 0 (.icm .eql) [(.slot 5),(.const (.int .i64 1))] none (.out [(1,(.slot 1)),(2,(.slot 2)),(5,(.slot 5)),(6,(.res 0))])) [1,2,5]
abbrev Q79r3:NC:=.reg (.q 0 (.icm .eql) [(.slot 5),(.const (.int .i64 2))] none (.out [(1,(.slot 1)),(2,(.slot 2)),(5,(.slot 5)),(6,(.res 0))])) [1,2,5]
abbrev Q79r4:NC:=.reg (.q 0 (.icm .eql) [(.slot 5),(.const (.int .i64 3))] none (.out [(1,(.slot 1)),(2,(.slot 2)),(5,(.slot 5)),(6,(.res 0))])) [1,2,5]
abbrev Q79r5:NC:=.reg (.q 0 (.icm .eql) [(.slot 5),(.const (.int .i64 4))] none (.out [(1,(.slot 1)),(2,(.slot 2)),(5,(.slot 5)),(6,(.res 0))])) [1,2,5]
abbrev Q79r6:NC:=.reg (.q 0 (.fld 3) [(.slot 1)] none (.q 1 .ld [(.res 0)] none (.x 2 (.call 105) [(.res 1)] none [] (.x 3 (.st 2) [(.slot 2),(.res 2)] none [] (.out [(2,(.slot 2)),(3,(.const (.bool true)))]))))) [1,2]
abbrev Q79r7:NC:=.reg (.q 0 (.icm .eql) [(.slot 5),(.const (.int .i64 5))] none (.out [(1,(.slot 1)),(2,(.slot 2)),(14,(.res 0))])) [1,2,5]
abbrev Q79r8:NC:=.reg (.q 0 (.fld 3) [(.slot 1)] none (.q 1 .ld [(.res 0)] none (.q 2 (.fld 4) [(.slot 1)] none (.q 3 .ld [(.res 2)] none (.q 4 (.bld [(.string ⟨#[]⟩),(.string ⟨#[]⟩)] [(0,1),(1,1)]) [(.res 1),(.res 3)] none (.x 5 (.st 2) [(.slot 2),(.res 4)] none [] (.out [(2,(.slot 2)),(3,(.const (.bool true)))]))))))) [1,2]
abbrev Q79r9:NC:=.reg (.q 0 (.bld [(.string ⟨#[]⟩),(.string ⟨#[]⟩)] []) [] none (.x 1 (.st 2) [(.slot 2),(.res 0)] none [] (.out [(2,(.slot 2)),(3,(.const (.bool false)))]))) [2]
abbrev Q79c:NC:=(.seq Q79r0 (.seq (.seq Q79r1 (.block 0 (.seq (.seq Q79r2 (.cond (.slot 6) .skip (.seq Q79r3 (.cond (.slot 6) .skip (.seq Q79r4 (.cond (.slot 6) .skip Q79r5)))))) (.cond (.slot 6) (.seq Q79r6 .ret) (.seq Q79r7 (.cond (.slot 14) (.seq Q79r8 .ret) .skip)))))) (.seq Q79r9 .ret)))
abbrev Q79F:FN:=⟨Q79c,[.cells 2 2,.slot 3]⟩
theorem Q79ok:compF Tryz.prog Tryz.f79 = some Q79F:=by kernel_rfl
theorem Q79go {args:List Value} {m:Mem} {R:Value → Mem → Prop} (hn:args.length ≤ Tryz.f79.ntmps) (h:wpN Tryz.prog Q79c (retP Q79F.rvs R) (zipP 0 args) m):MC Tryz.prog 79 args m R:=MC_start Tryz.func79 Q79ok mixed_ok hn h
/-! concord/cmd.Writes -/
abbrev Q80r0:NC:=.reg (.x 0 (.box 30) [(.slot 0)] none [] (.out [(1,(.res 0))])) [0]
abbrev Q80r1:NC:=.reg (.q 0 (.fld 0) [(.slot 1)] none (.q 1 .ld [(.res 0)] none (.q 2 (.icm .eql) [(.res 1),(.const (.int .i64 2))] none (.q 4 (.fld 0) [(.slot 1)] (some ((.res 2),false)) (.q 5 .ld [(.res 4)] (some ((.res 2),false)) (.q 6 (.icm .eql) [(.res 5),(.const (.int .i64 3))] (some ((.res 2),false)) (.q 7 .pick [(.res 2),(.const (.bool true)),(.res 6)] none (.q 9 (.fld 0) [(.slot 1)] (some ((.res 7),false)) (.q 10 .ld [(.res 9)] (some ((.res 7),false)) (.q 11 (.icm .eql) [(.res 10),(.const (.int .i64 4))] (some ((.res 7),false)) (.q 12 .pick [(.res 7),(.const (.bool true)),(.res 11)] none (.out [(2,(.res 12))])))))))))))) [1]
abbrev Q80c:NC:=(.seq Q80r0 (.seq Q80r1 .ret))
abbrev Q80F:FN:=⟨Q80c,[.slot 2]⟩
theorem Q80ok:compF Tryz.prog Tryz.f80 = some Q80F:=by kernel_rfl
theorem Q80go {args:List Value} {m:Mem} {R:Value → Mem → Prop} (hn:args.length ≤ Tryz.f80.ntmps) (h:wpN Tryz.prog Q80c (retP Q80F.rvs R) (zipP 0 args) m):MC Tryz.prog 80 args m R:=MC_start Tryz.func80 Q80ok mixed_ok hn h
/-! concord/span.Meets -/
abbrev Q81r0:NC:=.reg (.x 0 (.box 147) [(.slot 0)] none [] (.x 1 (.box 147) [(.slot 1)] none [] (.out [(2,(.res 0)),(3,(.res 1))]))) [0,1]
abbrev Q81r1:NC:=.reg (.q 0 (.lda 2) [(.slot 2)] none (.x 1 (.call 106) [(.res 0)] none [] (.q 2 .not [(.res 1)] none (.q 4 (.lda 2) [(.slot 3)] (some ((.res 2),true)) (.x 5 (.call 106) [(.res 4)] (some ((.res 2),true)) [] (.q 6 .not [(.res 5)] (some ((.res 2),true)) (.q 7 .pick [(.res 2),(.res 6),(.const (.bool false))] none (.q 9 (.fld 0) [(.slot 2)] (some ((.res 7),true)) (.q 10 .ld [(.res 9)] (some ((.res 7),true)) (.q 11 (.fld 1) [(.slot 3)] (some ((.res 7),true)) (.q 12 .ld [(.res 11)] (some ((.res 7),true)) (.x 13 (.call 107) [(.res 10),(.res 12)] (some ((.res 7),true)) [] (.q 14 .pick [(.res 7),(.res 13),(.const (.bool false))] none (.q 16 (.fld 0) [(.slot 3)] (some ((.res 14),true)) (.q 17 .ld [(.res 16)] (some ((.res 14),true)) (.q 18 (.fld 1) [(.slot 2)] (some ((.res 14),true)) (.q 19 .ld [(.res 18)] (some ((.res 14),true)) (.x 20 (.call 107) [(.res 17),(.res 19)] (some ((.res 14),true)) [] (.q 21 .pick [(.res 14),(.res 20),(.const (.bool false))] none (.out [(4,(.res 21))])))))))))))))))))))) [2,3]
abbrev Q81c:NC:=(.seq Q81r0 (.seq Q81r1 .ret))
abbrev Q81F:FN:=⟨Q81c,[.slot 4]⟩
theorem Q81ok:compF Tryz.prog Tryz.f81 = some Q81F:=by kernel_rfl
theorem Q81go {args:List Value} {m:Mem} {R:Value → Mem → Prop} (hn:args.length ≤ Tryz.f81.ntmps) (h:wpN Tryz.prog Q81c (retP Q81F.rvs R) (zipP 0 args) m):MC Tryz.prog 81 args m R:=MC_start Tryz.func81 Q81ok mixed_ok hn h
/-! concord/inst.Less -/
abbrev Q93r0:NC:=.reg (.x 0 (.box 25) [(.slot 0)] none [] (.x 1 (.box 25) [(.slot 1)] none [] (.out [(2,(.res 0)),(3,(.res 1))]))) [0,1]
abbrev Q93r1:NC:=.reg (.q 0 (.fld 0) [(.slot 2)] none (.q 1 .ld [(.res 0)] none (.q 2 (.fld 0) [(.slot 3)] none (.q 3 .ld [(.res 2)] none (.q 4 (.icm .lss) [(.res 1),(.res 3)] none (.q 6 (.fld 0) [(.slot 2)] (some ((.res 4),false)) (.q 7 .ld [(.res 6)] (some ((.res 4),false)) (.q 8 (.fld 0) [(.slot 3)] (some ((.res 4),false)) (.q 9 .ld [(.res 8)] (some ((.res 4),false)) (.q 10 (.icm .eql) [(.res 7),(.res 9)] (some ((.res 4),false)) (.q 11 .mv [(.res 10)] (some ((.res 4),false)) (.q 12 (.fld 1) [(.slot 2)] (some ((.res 11),true)) (.q 13 .ld [(.res 12)] (some ((.res 11),true)) (.q 14 (.fld 1) [(.slot 3)] (some ((.res 11),true)) (.q 15 .ld [(.res 14)] (some ((.res 11),true)) (.q 16 (.icm .lss) [(.res 13),(.res 15)] (some ((.res 11),true)) (.q 17 .pick [(.res 11),(.res 16),(.const (.bool false))] (some ((.res 4),false)) (.q 18 .pick [(.res 4),(.const (.bool true)),(.res 17)] none (.out [(4,(.res 18))]))))))))))))))))))) [2,3]
abbrev Q93c:NC:=(.seq Q93r0 (.seq Q93r1 .ret))
abbrev Q93F:FN:=⟨Q93c,[.slot 4]⟩
theorem Q93ok:compF Tryz.prog Tryz.f93 = some Q93F:=by kernel_rfl
theorem Q93go {args:List Value} {m:Mem} {R:Value → Mem → Prop} (hn:args.length ≤ Tryz.f93.ntmps) (h:wpN Tryz.prog Q93c (retP Q93F.rvs R) (zipP 0 args) m):MC Tryz.prog 93 args m R:=MC_start Tryz.func93 Q93ok mixed_ok hn h
/-! concord/deps.Join -/
abbrev Q101r0:NC:=.reg (.x 0 (.alc [(.int .i64 0),(.int .i64 0),(.int .i64 0),(.int .i64 0),(.int .i64 0),(.int .i64 0),(.int .i64 0),(.int .i64 0)] 39) [] none [] (.out [(0,(.slot 0)),(2,(.res 0))])) [0]
abbrev Q101r1:NC:=.reg (.q 1 .len [(.slot 0)] none (.q 2 (.icm .eql) [(.res 1),(.const (.int .i64 0))] none (.out [(0,(.slot 0)),(2,(.slot 2)),(10,(.res 2))]))) [0,2]
abbrev Q101r2:NC:=.reg (.q 0 (.bld [(.int .i64 0),(.int .i64 0),(.int .i64 0),(.int .i64 0),(.int .i64 0),(.int .i64 0),(.int .i64 0),(.int .i64 0)] []) [] none (.x 1 (.st 8) [(.slot 2),(.res 0)] none [] (.out [(2,(.slot 2))]))) [2]
abbrev Q101r3:NC:=.reg (.q 1 (.ixs 8) [(.slot 0),(.const (.int .i64 0))] none (.q 2 (.lda 8) [(.res 1)] none (.x 3 (.alc [(.int .i64 0),(.int .i64 0),(.int .i64 0),(.int .i64 0),(.int .i64 0),(.int .i64 0),(.int .i64 0),(.int .i64 0)] 39) [] none [] (.x 4 (.st 8) [(.res 3),(.res 2)] none [] (.out [(0,(.slot 0)),(2,(.slot 2)),(3,(.res 3))]))))) [0,2]
abbrev Q101r4:NC:=.reg (.q 1 (.slc 8 true false) [(.slot 0),(.const (.int .i64 1))] none (.q 2 .len [(.res 1)] none (.out [(2,(.slot 2)),(3,(.slot 3)),(16,(.res 1)),(17,(.res 2)),(18,(.const (.int .i64 0)))]))) [0,2,3]
abbrev Q101r5:NC:=.reg (.q 0 (.icm .lss) [(.slot 18),(.slot 17)] none (.out [(2,(.slot 2)),(3,(.slot 3)),(16,(.slot 16)),(17,(.slot 17)),(18,(.slot 18)),(19,(.res 0))])) [2,3,16,17,18]
abbrev Q101r6:NC:=.reg (.q 0 (.ixs 8) [(.slot 16),(.slot 18)] none (.q 1 (.lda 8) [(.res 0)] none (.x 2 (.alc [(.int .i64 0),(.int .i64 0),(.int .i64 0),(.int .i64 0),(.int .i64 0),(.int .i64 0),(.int .i64 0),(.int .i64 0)] 39) [] none [] (.x 3 (.st 8) [(.res 2),(.res 1)] none [] (.out [(2,(.slot 2)),(3,(.slot 3)),(5,(.res 2)),(16,(.slot 16)),(17,(.slot 17)),(18,(.slot 18))]))))) [2,3,16,17,18]
abbrev Q101r7:NC:=.reg (.q 0 (.fld 0) [(.slot 3)] none (.q 1 .ld [(.res 0)] none (.q 2 (.fld 0) [(.slot 5)] none (.q 3 .ld [(.res 2)] none (.q 4 .mx [(.res 1),(.res 3)] none (.q 5 (.fld 0) [(.slot 3)] none (.x 6 (.st 1) [(.res 5),(.res 4)] none [] (.out [(2,(.slot 2)),(3,(.slot 3)),(5,(.slot 5)),(16,(.slot 16)),(17,(.slot 17)),(18,(.slot 18))])))))))) [2,3,5,16,17,18]
abbrev Q101r8:NC:=.reg (.q 0 (.fld 1) [(.slot 5)] none (.q 1 (.lda 7) [(.res 0)] none (.out [(2,(.slot 2)),(3,(.slot 3)),(16,(.slot 16)),(17,(.slot 17)),(18,(.slot 18)),(29,(.res 1)),(30,(.const (.int .i64 0)))]))) [2,3,5,16,17,18]
abbrev Q101r9:NC:=.reg (.q 0 (.icm .lss) [(.slot 30),(.const (.int .i64 7))] none (.out [(2,(.slot 2)),(3,(.slot 3)),(16,(.slot 16)),(17,(.slot 17)),(18,(.slot 18)),(29,(.slot 29)),(30,(.slot 30)),(31,(.res 0))])) [2,3,16,17,18,29,30]
abbrev Q101r10:NC:=.reg (.q 1 (.idx 7 1) [(.slot 29),(.slot 30)] none (.out [(2,(.slot 2)),(3,(.slot 3)),(6,(.slot 30)),(7,(.res 1)),(16,(.slot 16)),(17,(.slot 17)),(18,(.slot 18)),(29,(.slot 29)),(30,(.slot 30))])) [2,3,16,17,18,29,30]
abbrev Q101r11:NC:=.reg (.q 2 (.fld 1) [(.slot 3)] none (.q 3 (.ixa 7 1) [(.res 2),(.slot 6)] none (.q 4 .ld [(.res 3)] none (.q 6 .mx [(.res 4),(.slot 7)] none (.q 7 (.fld 1) [(.slot 3)] none (.q 8 (.ixa 7 1) [(.res 7),(.slot 6)] none (.x 9 (.st 1) [(.res 8),(.res 6)] none [] (.out [(2,(.slot 2)),(3,(.slot 3)),(16,(.slot 16)),(17,(.slot 17)),(18,(.slot 18)),(29,(.slot 29)),(30,(.slot 30))])))))))) [2,3,6,7,16,17,18,29,30]
abbrev Q101r12:NC:=.reg (.q 0 (.iar .add) [(.slot 30),(.const (.int .i64 1))] none (.out [(2,(.slot 2)),(3,(.slot 3)),(16,(.slot 16)),(17,(.slot 17)),(18,(.slot 18)),(29,(.slot 29)),(30,(.res 0))])) [2,3,16,17,18,29,30]
abbrev Q101l0:NC:=(.seq Q101r9 (.seq (.cond (.slot 31) .skip (.exit 2)) (.seq (.block 3 (.seq Q101r10 Q101r11)) Q101r12)))
abbrev Q101r13:NC:=.reg (.q 0 (.iar .add) [(.slot 18),(.const (.int .i64 1))] none (.out [(2,(.slot 2)),(3,(.slot 3)),(16,(.slot 16)),(17,(.slot 17)),(18,(.res 0))])) [2,3,16,17,18]
abbrev Q101l1:NC:=(.seq Q101r5 (.seq (.cond (.slot 19) .skip (.exit 0)) (.seq (.block 1 (.seq Q101r6 (.seq Q101r7 (.seq Q101r8 (.block 2 (.loop [2,3,16,17,18,29,30] Q101l0)))))) Q101r13)))
abbrev Q101r14:NC:=.reg (.q 0 (.lda 8) [(.slot 3)] none (.x 1 (.st 8) [(.slot 2),(.res 0)] none [] (.out [(2,(.slot 2))]))) [2,3]
abbrev Q101c:NC:=(.seq Q101r0 (.seq (.seq Q101r1 (.cond (.slot 10) (.seq Q101r2 .ret) .skip)) (.seq Q101r3 (.seq (.seq Q101r4 (.block 0 (.loop [2,3,16,17,18] Q101l1))) (.seq Q101r14 .ret)))))
abbrev Q101F:FN:=⟨Q101c,[.cells 2 8]⟩
theorem Q101ok:compF Tryz.prog Tryz.f101 = some Q101F:=by kernel_rfl
theorem Q101go {args:List Value} {m:Mem} {R:Value → Mem → Prop} (hn:args.length ≤ Tryz.f101.ntmps) (h:wpN Tryz.prog Q101c (retP Q101F.rvs R) (zipP 0 args) m):MC Tryz.prog 101 args m R:=MC_start Tryz.func101 Q101ok mixed_ok hn h
/-! concord/span.Of -/
abbrev Q105r0:NC:=.reg (.x 0 (.alc [(.string ⟨#[]⟩),(.string ⟨#[]⟩)] 147) [] none [] (.out [(0,(.slot 0)),(2,(.res 0))])) [0]
abbrev Q105r1:NC:=.reg (.q 2 (.str .add) [(.slot 0),(.const (.string ⟨#[0]⟩))] none (.q 3 (.bld [(.string ⟨#[]⟩),(.string ⟨#[]⟩)] [(0,1),(1,1)]) [(.slot 0),(.res 2)] none (.x 4 (.st 2) [(.slot 2),(.res 3)] none [] (.out [(2,(.slot 2))])))) [0,2]
abbrev Q105c:NC:=(.seq Q105r0 (.seq Q105r1 .ret))
abbrev Q105F:FN:=⟨Q105c,[.cells 2 2]⟩
theorem Q105ok:compF Tryz.prog Tryz.f105 = some Q105F:=by kernel_rfl
theorem Q105go {args:List Value} {m:Mem} {R:Value → Mem → Prop} (hn:args.length ≤ Tryz.f105.ntmps) (h:wpN Tryz.prog Q105c (retP Q105F.rvs R) (zipP 0 args) m):MC Tryz.prog 105 args m R:=MC_start Tryz.func105 Q105ok mixed_ok hn h
/-! concord/span.Empty -/
abbrev Q106r0:NC:=.reg (.x 0 (.box 147) [(.slot 0)] none [] (.out [(1,(.res 0))])) [0]
abbrev Q106r1:NC:=.reg (.q 0 (.fld 0) [(.slot 1)] none (.q 1 .ld [(.res 0)] none (.q 2 (.fld 1) [(.slot 1)] none (.q 3 .ld [(.res 2)] none (.x 4 (.call 107) [(.res 1),(.res 3)] none [] (.q 5 .not [(.res 4)] none (.out [(2,(.res 5))]))))))) [1]
abbrev Q106c:NC:=(.seq Q106r0 (.seq Q106r1 .ret))
abbrev Q106F:FN:=⟨Q106c,[.slot 2]⟩
theorem Q106ok:compF Tryz.prog Tryz.f106 = some Q106F:=by kernel_rfl
theorem Q106go {args:List Value} {m:Mem} {R:Value → Mem → Prop} (hn:args.length ≤ Tryz.f106.ntmps) (h:wpN Tryz.prog Q106c (retP Q106F.rvs R) (zipP 0 args) m):MC Tryz.prog 106 args m R:=MC_start Tryz.func106 Q106ok mixed_ok hn h
/-! concord/span.under -/
abbrev Q107r0:NC:=.reg (.out [(0,(.slot 0)),(1,(.slot 1))]) [0,1]
abbrev Q107r1:NC:=.reg (.q 1 (.str .eql) [(.slot 1),(.const (.string ⟨#[]⟩))] none (.q 3 .mv [(.slot 0)] (some ((.res 1),false)) (.q 4 .mv [(.slot 1)] (some ((.res 1),false)) (.q 5 (.str .lss) [(.res 3),(.res 4)] (some ((.res 1),false)) (.q 6 .pick [(.res 1),(.const (.bool true)),(.res 5)] none (.out [(4,(.res 6))])))))) [0,1]
abbrev Q107c:NC:=(.seq Q107r0 (.seq Q107r1 .ret))
abbrev Q107F:FN:=⟨Q107c,[.slot 4]⟩
theorem Q107ok:compF Tryz.prog Tryz.f107 = some Q107F:=by kernel_rfl
theorem Q107go {args:List Value} {m:Mem} {R:Value → Mem → Prop} (hn:args.length ≤ Tryz.f107.ntmps) (h:wpN Tryz.prog Q107c (retP Q107F.rvs R) (zipP 0 args) m):MC Tryz.prog 107 args m R:=MC_start Tryz.func107 Q107ok mixed_ok hn h
/-! concord/cmd.Get -/
/-! concord/deps.Get -/
/-! concord/cmd.Put -/
abbrev Q123r0:NC:=.reg (.x 0 (.box 30) [(.slot 1)] none [] (.out [(0,(.slot 0)),(3,(.res 0))])) [0,1]
abbrev Q123r1:NC:=.reg (.q 0 (.lda 7) [(.slot 3)] none (.x 1 (.call 18) [(.res 0)] none [] (.q 2 .not [(.res 1)] none (.out [(0,(.slot 0)),(3,(.slot 3)),(7,(.res 2))])))) [0,3]
abbrev Q123r2:NC:=.reg (.x 1 (.app 5 1 1 [(.int .u8 0)]) [(.const (.slice none 0 0)),(.slot 0)] none [] (.out [(4,(.res 1))])) [0]
abbrev Q123r3:NC:=.reg (.q 1 (.fld 0) [(.slot 3)] none (.q 2 .ld [(.res 1)] none (.x 3 (.call 97) [(.slot 0),(.res 2)] none [] (.out [(0,(.res 3)),(3,(.slot 3))])))) [0,3]
abbrev Q123r4:NC:=.reg (.q 0 (.fld 0) [(.slot 3)] none (.q 1 .ld [(.res 0)] none (.q 2 (.icm .eql) [(.res 1),(.const (.int .i64 0))] none (.out [(0,(.slot 0)),(3,(.slot 3)),(16,(.res 2))])))) [0,3]
abbrev Q123r5:NC:=.reg (.out [(4,(.slot 0))]) [0]
abbrev Q123r6:NC:=.reg (.q 1 (.fld 1) [(.slot 3)] none (.q 2 .ld [(.res 1)] none (.q 4 (.fld 2) [(.slot 3)] none (.q 5 .ld [(.res 4)] none (.q 7 (.fld 3) [(.slot 3)] none (.q 8 .ld [(.res 7)] none (.x 3 (.call 97) [(.slot 0),(.res 2)] none [(5,.ld,[(.res 4)],none),(8,.ld,[(.res 7)],none)] (.x 6 (.call 97) [(.res 3),(.res 5)] none [(8,.ld,[(.res 7)],none)] (.x 9 (.call 143) [(.res 6),(.res 8)] none [] (.out [(0,(.res 9)),(3,(.slot 3))])))))))))) [0,3]
abbrev Q123r7:NC:=.reg (.q 0 (.fld 0) [(.slot 3)] none (.q 1 .ld [(.res 0)] none (.out [(0,(.slot 0)),(3,(.slot 3)),(29,(.res 1))]))) [0,3]
abbrev Q123r8:NC:=.reg (.q 0 (.icm .eql) [(.slot 29),(.const (.int .i64 2))] none (.out [(0,(.slot 0)),(3,(.slot 3)),(29,(.slot 29)),(30,(.res 0))])) [0,3,29]
abbrev Q123r9:NC:=.reg (.q 1 (.fld 6) [(.slot 3)] none (.q 2 .ld [(.res 1)] none (.x 3 (.call 143) [(.slot 0),(.res 2)] none [] (.out [(0,(.res 3))])))) [0,3]
abbrev Q123r10:NC:=.reg (.q 0 (.icm .eql) [(.slot 29),(.const (.int .i64 4))] none (.out [(0,(.slot 0)),(3,(.slot 3)),(29,(.slot 29)),(36,(.res 0))])) [0,3,29]
abbrev Q123r11:NC:=.reg (.q 1 (.fld 5) [(.slot 3)] none (.q 2 .ld [(.res 1)] none (.q 4 (.fld 6) [(.slot 3)] none (.q 5 .ld [(.res 4)] none (.x 3 (.call 143) [(.slot 0),(.res 2)] none [(5,.ld,[(.res 4)],none)] (.x 6 (.call 143) [(.res 3),(.res 5)] none [] (.out [(0,(.res 6))]))))))) [0,3]
abbrev Q123r12:NC:=.reg (.q 0 (.icm .eql) [(.slot 29),(.const (.int .i64 5))] none (.out [(0,(.slot 0)),(3,(.slot 3)),(45,(.res 0))])) [0,3,29]
abbrev Q123r13:NC:=.reg (.q 1 (.fld 4) [(.slot 3)] none (.q 2 .ld [(.res 1)] none (.x 3 (.call 143) [(.slot 0),(.res 2)] none [] (.out [(0,(.res 3))])))) [0,3]
abbrev Q123r14:NC:=.reg (.out [(4,(.slot 0))]) [0]
abbrev Q123c:NC:=(.seq Q123r0 (.seq (.seq Q123r1 (.cond (.slot 7) (.seq Q123r2 .ret) .skip)) (.seq Q123r3 (.seq (.seq Q123r4 (.cond (.slot 16) (.seq Q123r5 .ret) .skip)) (.seq Q123r6 (.seq (.seq Q123r7 (.block 0 (.seq Q123r8 (.cond (.slot 30) Q123r9 (.seq Q123r10 (.cond (.slot 36) Q123r11 (.seq Q123r12 (.cond (.slot 45) Q123r13 .skip)))))))) (.seq Q123r14 .ret)))))))
abbrev Q123F:FN:=⟨Q123c,[.slot 4]⟩
theorem Q123ok:compF Tryz.prog Tryz.f123 = some Q123F:=by kernel_rfl
theorem Q123go {args:List Value} {m:Mem} {R:Value → Mem → Prop} (hn:args.length ≤ Tryz.f123.ntmps) (h:wpN Tryz.prog Q123c (retP Q123F.rvs R) (zipP 0 args) m):MC Tryz.prog 123 args m R:=MC_start Tryz.func123 Q123ok mixed_ok hn h
/-! concord/deps.Put -/
abbrev Q125r0:NC:=.reg (.x 0 (.box 39) [(.slot 1)] none [] (.out [(0,(.slot 0)),(3,(.res 0))])) [0,1]
abbrev Q125r1:NC:=.reg (.q 1 (.fld 0) [(.slot 3)] none (.q 2 .ld [(.res 1)] none (.x 3 (.call 97) [(.slot 0),(.res 2)] none [] (.out [(0,(.res 3)),(3,(.slot 3))])))) [0,3]
abbrev Q125r2:NC:=.reg (.q 0 (.fld 1) [(.slot 3)] none (.q 1 (.lda 7) [(.res 0)] none (.out [(0,(.slot 0)),(12,(.res 1)),(13,(.const (.int .i64 0)))]))) [0,3]
abbrev Q125r3:NC:=.reg (.q 0 (.icm .lss) [(.slot 13),(.const (.int .i64 7))] none (.out [(0,(.slot 0)),(12,(.slot 12)),(13,(.slot 13)),(14,(.res 0))])) [0,12,13]
abbrev Q125r4:NC:=.reg (.q 0 (.idx 7 1) [(.slot 12),(.slot 13)] none (.out [(0,(.slot 0)),(6,(.res 0)),(12,(.slot 12)),(13,(.slot 13))])) [0,12,13]
abbrev Q125r5:NC:=.reg (.x 2 (.call 97) [(.slot 0),(.slot 6)] none [] (.out [(0,(.res 2)),(12,(.slot 12)),(13,(.slot 13))])) [0,6,12,13]
abbrev Q125r6:NC:=.reg (.q 0 (.iar .add) [(.slot 13),(.const (.int .i64 1))] none (.out [(0,(.slot 0)),(12,(.slot 12)),(13,(.res 0))])) [0,12,13]
abbrev Q125l0:NC:=(.seq Q125r3 (.seq (.cond (.slot 14) .skip (.exit 0)) (.seq (.block 1 (.seq Q125r4 Q125r5)) Q125r6)))
abbrev Q125r7:NC:=.reg (.out [(4,(.slot 0))]) [0]
abbrev Q125c:NC:=(.seq Q125r0 (.seq Q125r1 (.seq (.seq Q125r2 (.block 0 (.loop [0,12,13] Q125l0))) (.seq Q125r7 .ret))))
abbrev Q125F:FN:=⟨Q125c,[.slot 4]⟩
theorem Q125ok:compF Tryz.prog Tryz.f125 = some Q125F:=by kernel_rfl
theorem Q125go {args:List Value} {m:Mem} {R:Value → Mem → Prop} (hn:args.length ≤ Tryz.f125.ntmps) (h:wpN Tryz.prog Q125c (retP Q125F.rvs R) (zipP 0 args) m):MC Tryz.prog 125 args m R:=MC_start Tryz.func125 Q125ok mixed_ok hn h
end Go.Fw
namespace Go.Fw
open Go.Proofs
/-! concord/letter.Right -/
abbrev Q42r0:NC:=.reg (.x 0 (.box 45) [(.slot 0)] none [] (.out [(1,(.res 0))])) [0]
abbrev Q42r1:NC:=.reg (.q 0 (.fld 0) [(.slot 1)] none (.q 1 .ld [(.res 0)] none (.x 2 (.call 69) [(.res 1)] none [] (.q 4 (.ext 0) [(.res 2)] none (.q 5 (.ext 1) [(.res 2)] none (.x 6 (.alc [(.bool false),(.bool false),(.bool false),(.bool false),(.bool false),(.bool false),(.bool false)] 135) [] none [] (.x 7 (.st 7) [(.res 6),(.res 4)] none [] (.out [(1,(.slot 1)),(3,(.res 6)),(4,(.res 5))])))))))) [1]
abbrev Q42r2:NC:=.reg (.q 1 .not [(.slot 4)] none (.q 3 (.fld 1) [(.slot 1)] (some ((.res 1),false)) (.q 4 .ld [(.res 3)] (some ((.res 1),false)) (.x 5 (.call 70) [(.res 4)] (some ((.res 1),false)) [] (.q 6 .not [(.res 5)] (some ((.res 1),false)) (.q 7 .pick [(.res 1),(.const (.bool true)),(.res 6)] none (.q 9 (.fld 2) [(.slot 1)] (some ((.res 7),false)) (.q 10 .ld [(.res 9)] (some ((.res 7),false)) (.x 11 (.call 70) [(.res 10)] (some ((.res 7),false)) [] (.q 12 .not [(.res 11)] (some ((.res 7),false)) (.q 13 .pick [(.res 7),(.const (.bool true)),(.res 12)] none (.q 15 (.fld 1) [(.slot 1)] (some ((.res 13),false)) (.q 16 .ld [(.res 15)] (some ((.res 13),false)) (.q 17 (.fld 2) [(.slot 1)] (some ((.res 13),false)) (.q 18 .ld [(.res 17)] (some ((.res 13),false)) (.q 19 (.icm .eql) [(.res 16),(.res 18)] (some ((.res 13),false)) (.q 20 .pick [(.res 13),(.const (.bool true)),(.res 19)] none (.q 22 (.lda 51) [(.slot 1)] (some ((.res 20),false)) (.q 23 (.lda 51) [(.slot 1)] (some ((.res 20),false)) (.q 24 (.lda 7) [(.slot 3)] (some ((.res 20),false)) (.x 25 (.call 71) [(.res 23),(.res 24)] (some ((.res 20),false)) [(22,(.lda 51),[(.slot 1)],(some ((.res 20),false)))] (.q 26 (.eqc true [(.i .i64),(.i .i64),(.i .i64),(.i .i64),(.i .i64),(.i .i64),(.i .i64),(.i .i64),(.i .i64),(.i .i64),.s,.s,.s,.s,(.i .i64),(.i .i64),(.i .i64),(.i .i64),(.i .i64),(.i .i64),(.i .i64),(.i .i64),(.i .i64),(.i .i64),(.i .i64),(.i .i64),(.i .i64),(.i .i64),(.i .i64),(.i .i64),.s,.s,.s,.s,(.i .i64),(.i .i64),(.i .i64),(.i .i64),(.i .i64),(.i .i64),(.i .i64),(.i .i64),.b,(.i .i64),(.i .i64),(.i .i64),(.i .i64),(.i .i64),(.i .i64),(.i .i64),.s]) [(.res 22),(.res 25)] (some ((.res 20),false)) (.q 27 .pick [(.res 20),(.const (.bool true)),(.res 26)] none (.out [(1,(.slot 1)),(3,(.slot 3)),(38,(.res 27))])))))))))))))))))))))))) [1,3,4]
abbrev Q42r3:NC:=.reg (.out [(2,(.const (.bool false)))]) []
abbrev Q42r4:NC:=.reg (.q 0 (.fld 0) [(.slot 3)] none (.q 1 .ld [(.res 0)] none (.q 3 (.fld 3) [(.slot 1)] (some ((.res 1),true)) (.q 4 (.lda 2) [(.res 3)] (some ((.res 1),true)) (.x 5 (.call 66) [(.res 4)] (some ((.res 1),true)) [] (.q 6 .not [(.res 5)] (some ((.res 1),true)) (.q 7 .pick [(.res 1),(.res 6),(.const (.bool false))] none (.q 9 (.fld 5) [(.slot 1)] (some ((.res 7),false)) (.q 10 (.lda 2) [(.res 9)] (some ((.res 7),false)) (.x 11 (.call 39) [(.res 10)] (some ((.res 7),false)) [] (.q 12 .not [(.res 11)] (some ((.res 7),false)) (.q 13 .pick [(.res 7),(.const (.bool true)),(.res 12)] none (.q 15 (.fld 7) [(.slot 1)] (some ((.res 13),false)) (.q 16 (.lda 7) [(.res 15)] (some ((.res 13),false)) (.x 17 (.call 18) [(.res 16)] (some ((.res 13),false)) [] (.q 18 .not [(.res 17)] (some ((.res 13),false)) (.q 19 .pick [(.res 13),(.const (.bool true)),(.res 18)] none (.q 21 (.fld 14) [(.slot 1)] (some ((.res 19),false)) (.q 22 (.lda 8) [(.res 21)] (some ((.res 19),false)) (.x 23 (.call 30) [(.res 22)] (some ((.res 19),false)) [] (.q 24 .not [(.res 23)] (some ((.res 19),false)) (.q 25 .pick [(.res 19),(.const (.bool true)),(.res 24)] none (.q 27 (.fld 22) [(.slot 1)] (some ((.res 25),false)) (.q 28 (.lda 21) [(.res 27)] (some ((.res 25),false)) (.x 29 (.call 72) [(.res 28)] (some ((.res 25),false)) [] (.q 30 .not [(.res 29)] (some ((.res 25),false)) (.q 31 .pick [(.res 25),(.const (.bool true)),(.res 30)] none (.out [(1,(.slot 1)),(70,(.res 31))])))))))))))))))))))))))))))) [1,3]
abbrev Q42r5:NC:=.reg (.out [(2,(.const (.bool false)))]) []
abbrev Q42r6:NC:=.reg (.q 0 (.fld 43) [(.slot 1)] none (.q 1 (.lda 7) [(.res 0)] none (.q 2 (.bld [(.int .i64 0),(.int .i64 0),(.int .i64 0),(.int .i64 0),(.int .i64 0),(.int .i64 0),(.int .i64 0),(.int .i64 0)] [(1,7)]) [(.res 1)] none (.x 3 (.call 30) [(.res 2)] none [] (.q 5 (.fld 50) [(.slot 1)] (some ((.res 3),true)) (.q 6 .ld [(.res 5)] (some ((.res 3),true)) (.q 7 .lenz [(.res 6)] (some ((.res 3),true)) (.q 8 (.icm .leq) [(.res 7),(.const (.int .i64 16384))] (some ((.res 3),true)) (.q 9 .pick [(.res 3),(.res 8),(.const (.bool false))] none (.out [(2,(.res 9))])))))))))) [1]
abbrev Q42c:NC:=(.seq Q42r0 (.seq Q42r1 (.seq (.seq Q42r2 (.cond (.slot 38) (.seq Q42r3 .ret) .skip)) (.seq (.seq Q42r4 (.cond (.slot 70) (.seq Q42r5 .ret) .skip)) (.seq Q42r6 .ret)))))
abbrev Q42F:FN:=⟨Q42c,[.slot 2]⟩
theorem Q42ok:compF Tryz.prog Tryz.f42 = some Q42F:=by kernel_rfl
theorem Q42go {args:List Value} {m:Mem} {R:Value → Mem → Prop} (hn:args.length ≤ Tryz.f42.ntmps) (h:wpN Tryz.prog Q42c (retP Q42F.rvs R) (zipP 0 args) m):MC Tryz.prog 42 args m R:=MC_start Tryz.func42 Q42ok mixed_ok hn h
/-! concord/letter.named -/
abbrev Q69r0:NC:=.reg (.x 0 (.alc [(.bool false),(.bool false),(.bool false),(.bool false),(.bool false),(.bool false),(.bool false)] 135) [] none [] (.out [(0,(.slot 0)),(2,(.res 0))])) [0]
abbrev Q69r1:NC:=.reg (.out [(2,(.slot 2)),(4,(.slot 0))]) [0,2]
abbrev Q69r2:NC:=.reg (.q 0 (.icm .eql) [(.slot 4),(.const (.int .i64 1))] none (.out [(2,(.slot 2)),(4,(.slot 4)),(5,(.res 0))])) [2,4]
abbrev Q69r3:NC:=.reg (.q 0 (.icm .eql) [(.slot 4),(.const (.int .i64 3))] none (.out [(2,(.slot 2)),(4,(.slot 4)),(5,(.res 0))])) [2,4]
abbrev Q69r4:NC:=.reg (.q 0 (.bld [(.bool false),(.bool false),(.bool false),(.bool false),(.bool false),(.bool false),(.bool false)] [(0,1),(1,1),(2,1),(3,1)]) [(.const (.bool true)),(.const (.bool true)),(.const (.bool true)),(.const (.bool true))] none (.x 1 (.st 7) [(.slot 2),(.res 0)] none [] (.out [(2,(.slot 2)),(3,(.const (.bool true)))]))) [2]
abbrev Q69r5:NC:=.reg (.q 0 (.icm .eql) [(.slot 4),(.const (.int .i64 2))] none (.out [(2,(.slot 2)),(4,(.slot 4)),(9,(.res 0))])) [2,4]
abbrev Q69r6:NC:=.reg (.q 0 (.bld [(.bool false),(.bool false),(.bool false),(.bool false),(.bool false),(.bool false),(.bool false)] [(0,1),(1,1),(3,1)]) [(.const (.bool true)),(.const (.bool true)),(.const (.bool true))] none (.x 1 (.st 7) [(.slot 2),(.res 0)] none [] (.out [(2,(.slot 2)),(3,(.const (.bool true)))]))) [2]
abbrev Q69r7:NC:=.reg (.q 0 (.icm .eql) [(.slot 4),(.const (.int .i64 4))] none (.out [(2,(.slot 2)),(4,(.slot 4)),(12,(.res 0))])) [2,4]
abbrev Q69r8:NC:=.reg (.q 0 (.icm .eql) [(.slot 4),(.const (.int .i64 6))] none (.out [(2,(.slot 2)),(4,(.slot 4)),(12,(.res 0))])) [2,4]
abbrev Q69r9:NC:=.reg (.q 0 (.icm .eql) [(.slot 4),(.const (.int .i64 8))] none (.out [(2,(.slot 2)),(4,(.slot 4)),(12,(.res 0))])) [2,4]
abbrev Q69r10:NC:=.reg (.q 0 (.bld [(.bool false),(.bool false),(.bool false),(.bool false),(.bool false),(.bool false),(.bool false)] [(0,1),(1,1)]) [(.const (.bool true)),(.const (.bool true))] none (.x 1 (.st 7) [(.slot 2),(.res 0)] none [] (.out [(2,(.slot 2)),(3,(.const (.bool true)))]))) [2]
abbrev Q69r11:NC:=.reg (.q 0 (.icm .eql) [(.slot 4),(.const (.int .i64 5))] none (.out [(2,(.slot 2)),(4,(.slot 4)),(17,(.res 0))])) [2,4]
abbrev Q69r12:NC:=.reg (.q 0 (.bld [(.bool false),(.bool false),(.bool false),(.bool false),(.bool false),(.bool false),(.bool false)] [(0,1),(2,1),(3,1)]) [(.const (.bool true)),(.const (.bool true)),(.const (.bool true))] none (.x 1 (.st 7) [(.slot 2),(.res 0)] none [] (.out [(2,(.slot 2)),(3,(.const (.bool true)))]))) [2]
abbrev Q69r13:NC:=.reg (.q 0 (.icm .eql) [(.slot 4),(.const (.int .i64 7))] none (.out [(2,(.slot 2)),(4,(.slot 4)),(20,(.res 0))])) [2,4]
abbrev Q69r14:NC:=.reg (.q 0 (.bld [(.bool false),(.bool false),(.bool false),(.bool false),(.bool false),(.bool false),(.bool false)] [(0,1),(1,1),(4,1)]) [(.const (.bool true)),(.const (.bool true)),(.const (.bool true))] none (.x 1 (.st 7) [(.slot 2),(.res 0)] none [] (.out [(2,(.slot 2)),(3,(.const (.bool true)))]))) [2]
abbrev Q69r15:NC:=.reg (.q 0 (.icm .eql) [(.slot 4),(.const (.int .i64 9))] none (.out [(2,(.slot 2)),(4,(.slot 4)),(23,(.res 0))])) [2,4]
abbrev Q69r16:NC:=.reg (.q 0 (.icm .eql) [(.slot 4),(.const (.int .i64 11))] none (.out [(2,(.slot 2)),(4,(.slot 4)),(23,(.res 0))])) [2,4]
abbrev Q69r17:NC:=.reg (.q 0 (.bld [(.bool false),(.bool false),(.bool false),(.bool false),(.bool false),(.bool false),(.bool false)] [(5,1)]) [(.const (.bool true))] none (.x 1 (.st 7) [(.slot 2),(.res 0)] none [] (.out [(2,(.slot 2)),(3,(.const (.bool true)))]))) [2]
abbrev Q69r18:NC:=.reg (.q 0 (.icm .eql) [(.slot 4),(.const (.int .i64 10))] none (.out [(2,(.slot 2)),(27,(.res 0))])) [2,4]
abbrev Q69r19:NC:=.reg (.q 0 (.bld [(.bool false),(.bool false),(.bool false),(.bool false),(.bool false),(.bool false),(.bool false)] [(6,1)]) [(.const (.bool true))] none (.x 1 (.st 7) [(.slot 2),(.res 0)] none [] (.out [(2,(.slot 2)),(3,(.const (.bool true)))]))) [2]
abbrev Q69r20:NC:=.reg (.q 0 (.bld [(.bool false),(.bool false),(.bool false),(.bool false),(.bool false),(.bool false),(.bool false)] []) [] none (.x 1 (.st 7) [(.slot 2),(.res 0)] none [] (.out [(2,(.slot 2)),(3,(.const (.bool false)))]))) [2]
abbrev Q69c:NC:=(.seq Q69r0 (.seq (.seq Q69r1 (.block 0 (.seq (.seq Q69r2 (.cond (.slot 5) .skip Q69r3)) (.cond (.slot 5) (.seq Q69r4 .ret) (.seq Q69r5 (.cond (.slot 9) (.seq Q69r6 .ret) (.seq (.seq Q69r7 (.cond (.slot 12) .skip (.seq Q69r8 (.cond (.slot 12) .skip Q69r9)))) (.cond (.slot 12) (.seq Q69r10 .ret) (.seq Q69r11 (.cond (.slot 17) (.seq Q69r12 .ret) (.seq Q69r13 (.cond (.slot 20) (.seq Q69r14 .ret) (.seq (.seq Q69r15 (.cond (.slot 23) .skip Q69r16)) (.cond (.slot 23) (.seq Q69r17 .ret) (.seq Q69r18 (.cond (.slot 27) (.seq Q69r19 .ret) .skip)))))))))))))))) (.seq Q69r20 .ret)))
abbrev Q69F:FN:=⟨Q69c,[.cells 2 7,.slot 3]⟩
theorem Q69ok:compF Tryz.prog Tryz.f69 = some Q69F:=by kernel_rfl
theorem Q69go {args:List Value} {m:Mem} {R:Value → Mem → Prop} (hn:args.length ≤ Tryz.f69.ntmps) (h:wpN Tryz.prog Q69c (retP Q69F.rvs R) (zipP 0 args) m):MC Tryz.prog 69 args m R:=MC_start Tryz.func69 Q69ok mixed_ok hn h
/-! concord/letter.place -/
abbrev Q70r0:NC:=.reg (.out [(0,(.slot 0))]) [0]
abbrev Q70r1:NC:=.reg (.q 1 (.icm .geq) [(.slot 0),(.const (.int .i64 0))] none (.q 3 .mv [(.slot 0)] (some ((.res 1),true)) (.q 4 (.icm .lss) [(.res 3),(.const (.int .i64 7))] (some ((.res 1),true)) (.q 5 .pick [(.res 1),(.res 4),(.const (.bool false))] none (.out [(2,(.res 5))]))))) [0]
abbrev Q70c:NC:=(.seq Q70r0 (.seq Q70r1 .ret))
abbrev Q70F:FN:=⟨Q70c,[.slot 2]⟩
theorem Q70ok:compF Tryz.prog Tryz.f70 = some Q70F:=by kernel_rfl
theorem Q70go {args:List Value} {m:Mem} {R:Value → Mem → Prop} (hn:args.length ≤ Tryz.f70.ntmps) (h:wpN Tryz.prog Q70c (retP Q70F.rvs R) (zipP 0 args) m):MC Tryz.prog 70 args m R:=MC_start Tryz.func70 Q70ok mixed_ok hn h
/-! concord/letter.bare -/
abbrev Q71r0:NC:=.reg (.x 0 (.box 45) [(.slot 0)] none [] (.x 1 (.box 135) [(.slot 1)] none [] (.x 2 (.alc [(.int .i64 0),(.int .i64 0),(.int .i64 0),(.int .i64 0),(.int .i64 0),(.int .i64 0),(.int .i64 0),(.int .i64 0),(.int .i64 0),(.int .i64 0),(.string ⟨#[]⟩),(.string ⟨#[]⟩),(.string ⟨#[]⟩),(.string ⟨#[]⟩),(.int .i64 0),(.int .i64 0),(.int .i64 0),(.int .i64 0),(.int .i64 0),(.int .i64 0),(.int .i64 0),(.int .i64 0),(.int .i64 0),(.int .i64 0),(.int .i64 0),(.int .i64 0),(.int .i64 0),(.int .i64 0),(.int .i64 0),(.int .i64 0),(.string ⟨#[]⟩),(.string ⟨#[]⟩),(.string ⟨#[]⟩),(.string ⟨#[]⟩),(.int .i64 0),(.int .i64 0),(.int .i64 0),(.int .i64 0),(.int .i64 0),(.int .i64 0),(.int .i64 0),(.int .i64 0),(.bool false),(.int .i64 0),(.int .i64 0),(.int .i64 0),(.int .i64 0),(.int .i64 0),(.int .i64 0),(.int .i64 0),(.string ⟨#[]⟩)] 45) [] none [] (.out [(2,(.res 0)),(3,(.res 1)),(4,(.res 2))])))) [0,1]
abbrev Q71r1:NC:=.reg (.q 0 (.fld 0) [(.slot 2)] none (.q 1 .ld [(.res 0)] none (.q 2 (.fld 1) [(.slot 2)] none (.q 3 .ld [(.res 2)] none (.q 4 (.fld 2) [(.slot 2)] none (.q 5 .ld [(.res 4)] none (.q 6 (.bld [(.int .i64 0),(.int .i64 0),(.int .i64 0),(.int .i64 0),(.int .i64 0),(.int .i64 0),(.int .i64 0),(.int .i64 0),(.int .i64 0),(.int .i64 0),(.string ⟨#[]⟩),(.string ⟨#[]⟩),(.string ⟨#[]⟩),(.string ⟨#[]⟩),(.int .i64 0),(.int .i64 0),(.int .i64 0),(.int .i64 0),(.int .i64 0),(.int .i64 0),(.int .i64 0),(.int .i64 0),(.int .i64 0),(.int .i64 0),(.int .i64 0),(.int .i64 0),(.int .i64 0),(.int .i64 0),(.int .i64 0),(.int .i64 0),(.string ⟨#[]⟩),(.string ⟨#[]⟩),(.string ⟨#[]⟩),(.string ⟨#[]⟩),(.int .i64 0),(.int .i64 0),(.int .i64 0),(.int .i64 0),(.int .i64 0),(.int .i64 0),(.int .i64 0),(.int .i64 0),(.bool false),(.int .i64 0),(.int .i64 0),(.int .i64 0),(.int .i64 0),(.int .i64 0),(.int .i64 0),(.int .i64 0),(.string ⟨#[]⟩)] [(0,1),(1,1),(2,1)]) [(.res 1),(.res 3),(.res 5)] none (.x 7 (.alc [(.int .i64 0),(.int .i64 0),(.int .i64 0),(.int .i64 0),(.int .i64 0),(.int .i64 0),(.int .i64 0),(.int .i64 0),(.int .i64 0),(.int .i64 0),(.string ⟨#[]⟩),(.string ⟨#[]⟩),(.string ⟨#[]⟩),(.string ⟨#[]⟩),(.int .i64 0),(.int .i64 0),(.int .i64 0),(.int .i64 0),(.int .i64 0),(.int .i64 0),(.int .i64 0),(.int .i64 0),(.int .i64 0),(.int .i64 0),(.int .i64 0),(.int .i64 0),(.int .i64 0),(.int .i64 0),(.int .i64 0),(.int .i64 0),(.string ⟨#[]⟩),(.string ⟨#[]⟩),(.string ⟨#[]⟩),(.string ⟨#[]⟩),(.int .i64 0),(.int .i64 0),(.int .i64 0),(.int .i64 0),(.int .i64 0),(.int .i64 0),(.int .i64 0),(.int .i64 0),(.bool false),(.int .i64 0),(.int .i64 0),(.int .i64 0),(.int .i64 0),(.int .i64 0),(.int .i64 0),(.int .i64 0),(.string ⟨#[]⟩)] 45) [] none [] (.x 8 (.st 51) [(.res 7),(.res 6)] none [] (.out [(2,(.slot 2)),(3,(.slot 3)),(4,(.slot 4)),(5,(.res 7))])))))))))) [2,3,4]
abbrev Q71r2:NC:=.reg (.q 0 (.fld 0) [(.slot 3)] none (.q 1 .ld [(.res 0)] none (.out [(2,(.slot 2)),(3,(.slot 3)),(4,(.slot 4)),(5,(.slot 5)),(14,(.res 1))]))) [2,3,4,5]
abbrev Q71r3:NC:=.reg (.q 0 (.fld 3) [(.slot 2)] none (.q 1 (.lda 2) [(.res 0)] none (.q 2 (.fld 3) [(.slot 5)] none (.x 3 (.st 2) [(.res 2),(.res 1)] none [] (.out [(2,(.slot 2)),(3,(.slot 3)),(4,(.slot 4)),(5,(.slot 5))]))))) [2,3,4,5]
abbrev Q71r4:NC:=.reg (.q 0 (.fld 1) [(.slot 3)] none (.q 1 .ld [(.res 0)] none (.out [(2,(.slot 2)),(3,(.slot 3)),(4,(.slot 4)),(5,(.slot 5)),(19,(.res 1))]))) [2,3,4,5]
abbrev Q71r5:NC:=.reg (.q 0 (.fld 5) [(.slot 2)] none (.q 1 (.lda 2) [(.res 0)] none (.q 2 (.fld 5) [(.slot 5)] none (.x 3 (.st 2) [(.res 2),(.res 1)] none [] (.out [(2,(.slot 2)),(3,(.slot 3)),(4,(.slot 4)),(5,(.slot 5))]))))) [2,3,4,5]
abbrev Q71r6:NC:=.reg (.q 0 (.fld 2) [(.slot 3)] none (.q 1 .ld [(.res 0)] none (.out [(2,(.slot 2)),(3,(.slot 3)),(4,(.slot 4)),(5,(.slot 5)),(24,(.res 1))]))) [2,3,4,5]
abbrev Q71r7:NC:=.reg (.q 0 (.fld 7) [(.slot 2)] none (.q 1 (.lda 7) [(.res 0)] none (.q 2 (.fld 7) [(.slot 5)] none (.x 3 (.st 7) [(.res 2),(.res 1)] none [] (.out [(2,(.slot 2)),(3,(.slot 3)),(4,(.slot 4)),(5,(.slot 5))]))))) [2,3,4,5]
abbrev Q71r8:NC:=.reg (.q 0 (.fld 3) [(.slot 3)] none (.q 1 .ld [(.res 0)] none (.out [(2,(.slot 2)),(3,(.slot 3)),(4,(.slot 4)),(5,(.slot 5)),(29,(.res 1))]))) [2,3,4,5]
abbrev Q71r9:NC:=.reg (.q 0 (.fld 14) [(.slot 2)] none (.q 1 (.lda 8) [(.res 0)] none (.q 2 (.fld 14) [(.slot 5)] none (.x 3 (.st 8) [(.res 2),(.res 1)] none [] (.out [(2,(.slot 2)),(3,(.slot 3)),(4,(.slot 4)),(5,(.slot 5))]))))) [2,3,4,5]
abbrev Q71r10:NC:=.reg (.q 0 (.fld 4) [(.slot 3)] none (.q 1 .ld [(.res 0)] none (.out [(2,(.slot 2)),(3,(.slot 3)),(4,(.slot 4)),(5,(.slot 5)),(34,(.res 1))]))) [2,3,4,5]
abbrev Q71r11:NC:=.reg (.q 0 (.fld 22) [(.slot 2)] none (.q 1 (.lda 21) [(.res 0)] none (.q 2 (.fld 22) [(.slot 5)] none (.x 3 (.st 21) [(.res 2),(.res 1)] none [] (.out [(2,(.slot 2)),(3,(.slot 3)),(4,(.slot 4)),(5,(.slot 5))]))))) [2,3,4,5]
abbrev Q71r12:NC:=.reg (.q 0 (.fld 5) [(.slot 3)] none (.q 1 .ld [(.res 0)] none (.out [(2,(.slot 2)),(3,(.slot 3)),(4,(.slot 4)),(5,(.slot 5)),(39,(.res 1))]))) [2,3,4,5]
abbrev Q71r13:NC:=.reg (.q 0 (.fld 43) [(.slot 2)] none (.q 1 (.lda 7) [(.res 0)] none (.q 2 (.fld 43) [(.slot 5)] none (.x 3 (.st 7) [(.res 2),(.res 1)] none [] (.out [(2,(.slot 2)),(3,(.slot 3)),(4,(.slot 4)),(5,(.slot 5))]))))) [2,3,4,5]
abbrev Q71r14:NC:=.reg (.q 0 (.fld 6) [(.slot 3)] none (.q 1 .ld [(.res 0)] none (.out [(2,(.slot 2)),(4,(.slot 4)),(5,(.slot 5)),(44,(.res 1))]))) [2,3,4,5]
abbrev Q71r15:NC:=.reg (.q 0 (.fld 50) [(.slot 2)] none (.q 1 .ld [(.res 0)] none (.q 2 (.fld 50) [(.slot 5)] none (.x 3 (.st 1) [(.res 2),(.res 1)] none [] (.out [(4,(.slot 4)),(5,(.slot 5))]))))) [2,4,5]
abbrev Q71r16:NC:=.reg (.q 0 (.lda 51) [(.slot 5)] none (.x 1 (.st 51) [(.slot 4),(.res 0)] none [] (.out [(4,(.slot 4))]))) [4,5]
abbrev Q71c:NC:=(.seq Q71r0 (.seq Q71r1 (.seq (.seq Q71r2 (.cond (.slot 14) Q71r3 .skip)) (.seq (.seq Q71r4 (.cond (.slot 19) Q71r5 .skip)) (.seq (.seq Q71r6 (.cond (.slot 24) Q71r7 .skip)) (.seq (.seq Q71r8 (.cond (.slot 29) Q71r9 .skip)) (.seq (.seq Q71r10 (.cond (.slot 34) Q71r11 .skip)) (.seq (.seq Q71r12 (.cond (.slot 39) Q71r13 .skip)) (.seq (.seq Q71r14 (.cond (.slot 44) Q71r15 .skip)) (.seq Q71r16 .ret))))))))))
abbrev Q71F:FN:=⟨Q71c,[.cells 4 51]⟩
theorem Q71ok:compF Tryz.prog Tryz.f71 = some Q71F:=by kernel_rfl
theorem Q71go {args:List Value} {m:Mem} {R:Value → Mem → Prop} (hn:args.length ≤ Tryz.f71.ntmps) (h:wpN Tryz.prog Q71c (retP Q71F.rvs R) (zipP 0 args) m):MC Tryz.prog 71 args m R:=MC_start Tryz.func71 Q71ok mixed_ok hn h
/-! concord/letter.RightCell -/
abbrev Q72r0:NC:=.reg (.x 0 (.box 41) [(.slot 0)] none [] (.out [(1,(.res 0))])) [0]
abbrev Q72r1:NC:=.reg (.q 0 (.fld 0) [(.slot 1)] none (.q 1 .ld [(.res 0)] none (.q 2 (.icm .lss) [(.res 1),(.const (.int .i64 0))] none (.q 4 (.fld 0) [(.slot 1)] (some ((.res 2),false)) (.q 5 .ld [(.res 4)] (some ((.res 2),false)) (.q 6 (.icm .gtr) [(.res 5),(.const (.int .i64 3))] (some ((.res 2),false)) (.q 7 .pick [(.res 2),(.const (.bool true)),(.res 6)] none (.q 9 (.fld 1) [(.slot 1)] (some ((.res 7),false)) (.q 10 (.lda 2) [(.res 9)] (some ((.res 7),false)) (.x 11 (.call 39) [(.res 10)] (some ((.res 7),false)) [] (.q 12 .not [(.res 11)] (some ((.res 7),false)) (.q 13 .pick [(.res 7),(.const (.bool true)),(.res 12)] none (.q 15 (.fld 3) [(.slot 1)] (some ((.res 13),false)) (.q 16 (.lda 2) [(.res 15)] (some ((.res 13),false)) (.x 17 (.call 39) [(.res 16)] (some ((.res 13),false)) [] (.q 18 .not [(.res 17)] (some ((.res 13),false)) (.q 19 .pick [(.res 13),(.const (.bool true)),(.res 18)] none (.q 21 (.fld 1) [(.slot 1)] (some ((.res 19),false)) (.q 22 (.lda 2) [(.res 21)] (some ((.res 19),false)) (.q 23 (.fld 3) [(.slot 1)] (some ((.res 19),false)) (.q 24 (.lda 2) [(.res 23)] (some ((.res 19),false)) (.x 25 (.call 37) [(.res 22),(.res 24)] (some ((.res 19),false)) [] (.q 26 .pick [(.res 19),(.const (.bool true)),(.res 25)] none (.out [(1,(.slot 1)),(29,(.res 26))])))))))))))))))))))))))) [1]
abbrev Q72r2:NC:=.reg (.out [(2,(.const (.bool false)))]) []
abbrev Q72r3:NC:=.reg (.q 0 (.fld 20) [(.slot 1)] none (.q 1 .ld [(.res 0)] none (.q 3 (.fld 0) [(.slot 1)] (some ((.res 1),true)) (.q 4 .ld [(.res 3)] (some ((.res 1),true)) (.q 5 (.icm .neq) [(.res 4),(.const (.int .i64 1))] (some ((.res 1),true)) (.q 6 .mv [(.res 5)] (some ((.res 1),true)) (.q 7 (.fld 3) [(.slot 1)] (some ((.res 6),false)) (.q 8 (.lda 2) [(.res 7)] (some ((.res 6),false)) (.q 9 (.bld [(.int .i64 0),(.int .i64 0)] []) [] (some ((.res 6),false)) (.q 10 (.eqc true [(.i .i64),(.i .i64)]) [(.res 8),(.res 9)] (some ((.res 6),false)) (.q 11 .pick [(.res 6),(.const (.bool true)),(.res 10)] (some ((.res 1),true)) (.q 12 .pick [(.res 1),(.res 11),(.const (.bool false))] none (.q 14 (.fld 0) [(.slot 1)] (some ((.res 12),false)) (.q 15 .ld [(.res 14)] (some ((.res 12),false)) (.q 16 (.icm .eql) [(.res 15),(.const (.int .i64 0))] (some ((.res 12),false)) (.q 17 .mv [(.res 16)] (some ((.res 12),false)) (.q 18 (.lda 21) [(.slot 1)] (some ((.res 17),true)) (.q 19 (.fld 1) [(.slot 1)] (some ((.res 17),true)) (.q 20 (.lda 2) [(.res 19)] (some ((.res 17),true)) (.q 21 (.bld [(.int .i64 0),(.int .i64 0),(.int .i64 0),(.int .i64 0),(.int .i64 0),(.int .i64 0),(.int .i64 0),(.int .i64 0),(.string ⟨#[]⟩),(.string ⟨#[]⟩),(.string ⟨#[]⟩),(.string ⟨#[]⟩),(.int .i64 0),(.int .i64 0),(.int .i64 0),(.int .i64 0),(.int .i64 0),(.int .i64 0),(.int .i64 0),(.int .i64 0),(.bool false)] [(1,2)]) [(.res 20)] (some ((.res 17),true)) (.q 22 (.eqc true [(.i .i64),(.i .i64),(.i .i64),(.i .i64),(.i .i64),(.i .i64),(.i .i64),(.i .i64),.s,.s,.s,.s,(.i .i64),(.i .i64),(.i .i64),(.i .i64),(.i .i64),(.i .i64),(.i .i64),(.i .i64),.b]) [(.res 18),(.res 21)] (some ((.res 17),true)) (.q 23 .pick [(.res 17),(.res 22),(.const (.bool false))] (some ((.res 12),false)) (.q 24 .pick [(.res 12),(.const (.bool true)),(.res 23)] none (.out [(1,(.slot 1)),(54,(.res 24))])))))))))))))))))))))))) [1]
abbrev Q72r4:NC:=.reg (.out [(2,(.const (.bool false)))]) []
abbrev Q72r5:NC:=.reg (.q 0 (.fld 5) [(.slot 1)] none (.q 1 (.lda 7) [(.res 0)] none (.x 2 (.call 18) [(.res 1)] none [] (.q 4 (.fld 12) [(.slot 1)] (some ((.res 2),true)) (.q 5 (.lda 8) [(.res 4)] (some ((.res 2),true)) (.x 6 (.call 30) [(.res 5)] (some ((.res 2),true)) [] (.q 7 .pick [(.res 2),(.res 6),(.const (.bool false))] none (.out [(2,(.res 7))])))))))) [1]
abbrev Q72c:NC:=(.seq Q72r0 (.seq (.seq Q72r1 (.cond (.slot 29) (.seq Q72r2 .ret) .skip)) (.seq (.seq Q72r3 (.cond (.slot 54) (.seq Q72r4 .ret) .skip)) (.seq Q72r5 .ret))))
abbrev Q72F:FN:=⟨Q72c,[.slot 2]⟩
theorem Q72ok:compF Tryz.prog Tryz.f72 = some Q72F:=by kernel_rfl
theorem Q72go {args:List Value} {m:Mem} {R:Value → Mem → Prop} (hn:args.length ≤ Tryz.f72.ntmps) (h:wpN Tryz.prog Q72c (retP Q72F.rvs R) (zipP 0 args) m):MC Tryz.prog 72 args m R:=MC_start Tryz.func72 Q72ok mixed_ok hn h
/-! concord/letter.GetCell -/
/-! concord/letter.PutCell -/
abbrev Q96r0:NC:=.reg (.x 0 (.box 41) [(.slot 1)] none [] (.out [(0,(.slot 0)),(3,(.res 0))])) [0,1]
abbrev Q96r1:NC:=.reg (.q 0 (.lda 21) [(.slot 3)] none (.x 1 (.call 72) [(.res 0)] none [] (.q 2 .not [(.res 1)] none (.out [(0,(.slot 0)),(3,(.slot 3)),(7,(.res 2))])))) [0,3]
abbrev Q96r2:NC:=.reg (.x 1 (.app 5 1 1 [(.int .u8 0)]) [(.const (.slice none 0 0)),(.slot 0)] none [] (.out [(4,(.res 1))])) [0]
abbrev Q96r3:NC:=.reg (.q 1 (.fld 0) [(.slot 3)] none (.q 2 .ld [(.res 1)] none (.q 4 (.fld 1) [(.slot 3)] none (.q 5 (.lda 2) [(.res 4)] none (.x 3 (.call 97) [(.slot 0),(.res 2)] none [(5,(.lda 2),[(.res 4)],none)] (.x 6 (.call 122) [(.res 3),(.res 5)] none [] (.out [(0,(.res 6)),(3,(.slot 3))]))))))) [0,3]
abbrev Q96r4:NC:=.reg (.q 0 (.fld 0) [(.slot 3)] none (.q 1 .ld [(.res 0)] none (.q 2 (.icm .eql) [(.res 1),(.const (.int .i64 0))] none (.out [(0,(.slot 0)),(3,(.slot 3)),(19,(.res 2))])))) [0,3]
abbrev Q96r5:NC:=.reg (.out [(4,(.slot 0))]) [0]
abbrev Q96r6:NC:=.reg (.q 1 (.fld 3) [(.slot 3)] none (.q 2 (.lda 2) [(.res 1)] none (.q 4 (.fld 5) [(.slot 3)] none (.q 5 (.lda 7) [(.res 4)] none (.x 3 (.call 122) [(.slot 0),(.res 2)] none [(5,(.lda 7),[(.res 4)],none)] (.x 6 (.call 123) [(.res 3),(.res 5)] none [] (.out [(0,(.res 6)),(3,(.slot 3))]))))))) [0,3]
abbrev Q96r7:NC:=.reg (.q 1 (.fld 12) [(.slot 3)] none (.q 2 (.lda 8) [(.res 1)] none (.q 4 (.fld 20) [(.slot 3)] none (.q 5 .ld [(.res 4)] none (.x 3 (.call 125) [(.slot 0),(.res 2)] none [(5,.ld,[(.res 4)],none)] (.x 6 (.call 124) [(.res 3),(.res 5)] none [] (.out [(4,(.res 6))]))))))) [0,3]
abbrev Q96c:NC:=(.seq Q96r0 (.seq (.seq Q96r1 (.cond (.slot 7) (.seq Q96r2 .ret) .skip)) (.seq Q96r3 (.seq (.seq Q96r4 (.cond (.slot 19) (.seq Q96r5 .ret) .skip)) (.seq Q96r6 (.seq Q96r7 .ret))))))
abbrev Q96F:FN:=⟨Q96c,[.slot 4]⟩
theorem Q96ok:compF Tryz.prog Tryz.f96 = some Q96F:=by kernel_rfl
theorem Q96go {args:List Value} {m:Mem} {R:Value → Mem → Prop} (hn:args.length ≤ Tryz.f96.ntmps) (h:wpN Tryz.prog Q96c (retP Q96F.rvs R) (zipP 0 args) m):MC Tryz.prog 96 args m R:=MC_start Tryz.func96 Q96ok mixed_ok hn h
/-! concord/letter.getBallot -/
/-! concord/letter.ballot -/
abbrev Q122r0:NC:=.reg (.x 0 (.box 35) [(.slot 1)] none [] (.out [(0,(.slot 0)),(3,(.res 0))])) [0,1]
abbrev Q122r1:NC:=.reg (.q 1 (.fld 0) [(.slot 3)] none (.q 2 .ld [(.res 1)] none (.q 4 (.fld 1) [(.slot 3)] none (.q 5 .ld [(.res 4)] none (.x 3 (.call 97) [(.slot 0),(.res 2)] none [(5,.ld,[(.res 4)],none)] (.x 6 (.call 97) [(.res 3),(.res 5)] none [] (.out [(4,(.res 6))]))))))) [0,3]
abbrev Q122c:NC:=(.seq Q122r0 (.seq Q122r1 .ret))
abbrev Q122F:FN:=⟨Q122c,[.slot 4]⟩
theorem Q122ok:compF Tryz.prog Tryz.f122 = some Q122F:=by kernel_rfl
theorem Q122go {args:List Value} {m:Mem} {R:Value → Mem → Prop} (hn:args.length ≤ Tryz.f122.ntmps) (h:wpN Tryz.prog Q122c (retP Q122F.rvs R) (zipP 0 args) m):MC Tryz.prog 122 args m R:=MC_start Tryz.func122 Q122ok mixed_ok hn h
end Go.Fw
namespace Go.Fw
open Go.Proofs
/-! concord/pack.Read -/
/-! (*concord/pack.Reader).Num -/
/-! (*concord/pack.Reader).End -/
/-! concord/pack.Num -/
abbrev Q97r0:NC:=.reg (.out [(0,(.slot 0)),(1,(.slot 1))]) [0,1]
abbrev Q97r1:NC:=.reg (.x 1 (.call 108) [(.slot 0),(.const (.int .i64 10))] none [] (.x 3 (.call 126) [(.res 1),(.slot 1)] none [] (.out [(4,(.res 3))]))) [0,1]
abbrev Q97c:NC:=(.seq Q97r0 (.seq Q97r1 .ret))
abbrev Q97F:FN:=⟨Q97c,[.slot 4]⟩
theorem Q97ok:compF Tryz.prog Tryz.f97 = some Q97F:=by kernel_rfl
theorem Q97go {args:List Value} {m:Mem} {R:Value → Mem → Prop} (hn:args.length ≤ Tryz.f97.ntmps) (h:wpN Tryz.prog Q97c (retP Q97F.rvs R) (zipP 0 args) m):MC Tryz.prog 97 args m R:=MC_start Tryz.func97 Q97ok mixed_ok hn h
/-! concord/pack.grown -/
abbrev Q108r0:NC:=.reg (.out [(0,(.slot 0)),(1,(.slot 1))]) [0,1]
abbrev Q108r1:NC:=.reg (.q 1 .len [(.slot 0)] none (.q 3 (.iar .add) [(.res 1),(.slot 1)] none (.x 4 (.mks 5 1 [(.int .u8 0)]) [(.const (.int .i64 0)),(.res 3)] none [] (.x 6 (.app 5 1 1 [(.int .u8 0)]) [(.res 4),(.slot 0)] none [] (.out [(4,(.res 6))]))))) [0,1]
abbrev Q108c:NC:=(.seq Q108r0 (.seq Q108r1 .ret))
abbrev Q108F:FN:=⟨Q108c,[.slot 4]⟩
theorem Q108ok:compF Tryz.prog Tryz.f108 = some Q108F:=by kernel_rfl
theorem Q108go {args:List Value} {m:Mem} {R:Value → Mem → Prop} (hn:args.length ≤ Tryz.f108.ntmps) (h:wpN Tryz.prog Q108c (retP Q108F.rvs R) (zipP 0 args) m):MC Tryz.prog 108 args m R:=MC_start Tryz.func108 Q108ok mixed_ok hn h
/-! (*concord/pack.Reader).fail -/
/-! concord/word.Zag -/
/-! (*concord/pack.Reader).Flag -/
/-! (*concord/pack.Reader).Wrong -/
/-! (*concord/pack.Reader).Fail -/
/-! concord/pack.Flag -/
abbrev Q124r0:NC:=.reg (.out [(0,(.slot 0)),(1,(.slot 1))]) [0,1]
abbrev Q124r1:NC:=.reg (.out [(0,(.slot 0)),(5,(.slot 1))]) [0,1]
abbrev Q124r2:NC:=.reg (.x 1 (.call 108) [(.slot 0),(.const (.int .i64 1))] none [] (.x 2 (.bsl 5 1 [(.int .u8 0)] [(0,1)]) [(.const (.int .u8 1))] none [] (.x 3 (.app 5 1 1 [(.int .u8 0)]) [(.res 1),(.res 2)] none [] (.out [(4,(.res 3))])))) [0]
abbrev Q124r3:NC:=.reg (.x 1 (.call 108) [(.slot 0),(.const (.int .i64 1))] none [] (.x 2 (.bsl 5 1 [(.int .u8 0)] [(0,1)]) [(.const (.int .u8 0))] none [] (.x 3 (.app 5 1 1 [(.int .u8 0)]) [(.res 1),(.res 2)] none [] (.out [(4,(.res 3))])))) [0]
abbrev Q124c:NC:=(.seq Q124r0 (.seq (.seq Q124r1 (.cond (.slot 5) (.seq Q124r2 .ret) .skip)) (.seq Q124r3 .ret)))
abbrev Q124F:FN:=⟨Q124c,[.slot 4]⟩
theorem Q124ok:compF Tryz.prog Tryz.f124 = some Q124F:=by kernel_rfl
theorem Q124go {args:List Value} {m:Mem} {R:Value → Mem → Prop} (hn:args.length ≤ Tryz.f124.ntmps) (h:wpN Tryz.prog Q124c (retP Q124F.rvs R) (zipP 0 args) m):MC Tryz.prog 124 args m R:=MC_start Tryz.func124 Q124ok mixed_ok hn h
/-! concord/pack.num -/
abbrev Q126r0:NC:=.reg (.out [(0,(.slot 0)),(1,(.slot 1))]) [0,1]
abbrev Q126r1:NC:=.reg (.x 1 (.call 144) [(.slot 1)] none [] (.out [(0,(.slot 0)),(5,(.res 1))])) [0,1]
abbrev Q126r2:NC:=.reg (.q 1 (.icm .geq) [(.slot 5),(.const (.int .u64 128))] none (.out [(0,(.slot 0)),(5,(.slot 5)),(9,(.res 1))])) [0,5]
abbrev Q126r3:NC:=.reg (.q 2 (.conv .u8) [(.slot 5)] none (.q 3 (.ibt .or) [(.res 2),(.const (.int .u8 128))] none (.x 4 (.bsl 5 1 [(.int .u8 0)] [(0,1)]) [(.res 3)] none [] (.x 5 (.app 5 1 1 [(.int .u8 0)]) [(.slot 0),(.res 4)] none [] (.out [(0,(.res 5)),(5,(.slot 5))]))))) [0,5]
abbrev Q126r4:NC:=.reg (.q 1 (.ish .shr) [(.slot 5),(.const (.int .u64 7))] none (.out [(0,(.slot 0)),(5,(.res 1))])) [0,5]
abbrev Q126l0:NC:=(.seq (.seq Q126r2 (.cond (.slot 9) .skip (.exit 0))) (.block 1 (.seq Q126r3 Q126r4)))
abbrev Q126r5:NC:=.reg (.q 2 (.conv .u8) [(.slot 5)] none (.x 3 (.bsl 5 1 [(.int .u8 0)] [(0,1)]) [(.res 2)] none [] (.x 4 (.app 5 1 1 [(.int .u8 0)]) [(.slot 0),(.res 3)] none [] (.out [(4,(.res 4))])))) [0,5]
abbrev Q126c:NC:=(.seq Q126r0 (.seq Q126r1 (.seq (.block 0 (.loop [0,5] Q126l0)) (.seq Q126r5 .ret))))
abbrev Q126F:FN:=⟨Q126c,[.slot 4]⟩
theorem Q126ok:compF Tryz.prog Tryz.f126 = some Q126F:=by kernel_rfl
theorem Q126go {args:List Value} {m:Mem} {R:Value → Mem → Prop} (hn:args.length ≤ Tryz.f126.ntmps) (h:wpN Tryz.prog Q126c (retP Q126F.rvs R) (zipP 0 args) m):MC Tryz.prog 126 args m R:=MC_start Tryz.func126 Q126ok mixed_ok hn h
/-! (*concord/pack.Reader).Text -/
/-! concord/pack.Text -/
abbrev Q143r0:NC:=.reg (.out [(0,(.slot 0)),(1,(.slot 1))]) [0,1]
abbrev Q143r1:NC:=.reg (.q 2 .lenz [(.slot 1)] none (.q 3 (.iar .add) [(.const (.int .i64 10)),(.res 2)] none (.x 4 (.call 108) [(.slot 0),(.res 3)] none [] (.q 6 .lenz [(.slot 1)] none (.x 7 (.call 126) [(.res 4),(.res 6)] none [] (.x 9 (.apps 5) [(.res 7),(.slot 1)] none [] (.out [(4,(.res 9))]))))))) [0,1]
abbrev Q143c:NC:=(.seq Q143r0 (.seq Q143r1 .ret))
abbrev Q143F:FN:=⟨Q143c,[.slot 4]⟩
theorem Q143ok:compF Tryz.prog Tryz.f143 = some Q143F:=by kernel_rfl
theorem Q143go {args:List Value} {m:Mem} {R:Value → Mem → Prop} (hn:args.length ≤ Tryz.f143.ntmps) (h:wpN Tryz.prog Q143c (retP Q143F.rvs R) (zipP 0 args) m):MC Tryz.prog 143 args m R:=MC_start Tryz.func143 Q143ok mixed_ok hn h
/-! concord/word.Zig -/
abbrev Q144r0:NC:=.reg (.out [(0,(.slot 0))]) [0]
abbrev Q144r1:NC:=.reg (.q 1 (.conv .u64) [(.slot 0)] none (.q 2 (.ish .shl) [(.res 1),(.const (.int .u64 1))] none (.q 4 (.ish .shr) [(.slot 0),(.const (.int .u64 63))] none (.q 5 (.conv .u64) [(.res 4)] none (.q 6 (.ibt .xor) [(.res 2),(.res 5)] none (.out [(2,(.res 6))])))))) [0]
abbrev Q144c:NC:=(.seq Q144r0 (.seq Q144r1 .ret))
abbrev Q144F:FN:=⟨Q144c,[.slot 2]⟩
theorem Q144ok:compF Tryz.prog Tryz.f144 = some Q144F:=by kernel_rfl
theorem Q144go {args:List Value} {m:Mem} {R:Value → Mem → Prop} (hn:args.length ≤ Tryz.f144.ntmps) (h:wpN Tryz.prog Q144c (retP Q144F.rvs R) (zipP 0 args) m):MC Tryz.prog 144 args m R:=MC_start Tryz.func144 Q144ok mixed_ok hn h
/-! (*concord/pack.Reader).Count -/
end Go.Fw
