import Derived.Test.YtimedjfpihdffaaGreatCd
set_option linter.unusedVariables false
set_option linter.unusedSimpArgs false
namespace Go.Fw
open Go.Proofs
/-! (*concord/log.Log).Top -/
abbrev Q28r0:NC:=.reg (.x 0 (.alc [(.int .i64 0),(.int .i64 0),(.int .i64 0),(.int .i64 0),(.int .i64 0),(.int .i64 0),(.int .i64 0)] 37) [] none [] (.out [(0,(.slot 0)),(2,(.res 0))])) [0]
abbrev Q28r1:NC:=.reg (.q 1 .nilck [(.slot 0)] none (.q 2 (.fld 1) [(.res 1)] none (.q 3 (.lda 7) [(.res 2)] none (.x 4 (.alc [(.int .i64 0),(.int .i64 0),(.int .i64 0),(.int .i64 0),(.int .i64 0),(.int .i64 0),(.int .i64 0)] 37) [] none [] (.x 5 (.st 7) [(.res 4),(.res 3)] none [] (.out [(0,(.slot 0)),(2,(.slot 2)),(3,(.res 4))])))))) [0,2]
abbrev Q28r2:NC:=.reg (.q 1 .nilck [(.slot 0)] none (.q 2 (.fld 0) [(.res 1)] none (.q 3 .ld [(.res 2)] none (.x 4 .rng [(.res 3)] none [] (.out [(2,(.slot 2)),(3,(.slot 3)),(13,(.res 4))]))))) [0,2,3]
abbrev Q28r3:NC:=.reg (.x 0 .nxt [(.slot 13)] none [] (.q 1 (.ext 0) [(.res 0)] none (.out [(2,(.slot 2)),(3,(.slot 3)),(13,(.slot 13)),(15,(.res 1))]))) [2,3,13]
abbrev Q28r4:NC:=.reg (.q 0 .ent [(.slot 13)] none (.q 1 (.ext 0) [(.res 0)] none (.x 2 (.alc [(.int .i64 0),(.int .i64 0)] 25) [] none [] (.x 3 (.st 2) [(.res 2),(.res 1)] none [] (.out [(2,(.slot 2)),(3,(.slot 3)),(4,(.res 2)),(13,(.slot 13))]))))) [2,3,13]
abbrev Q28r5:NC:=.reg (.q 0 (.fld 0) [(.slot 4)] none (.q 1 .ld [(.res 0)] none (.q 2 (.fld 0) [(.slot 4)] none (.q 3 .ld [(.res 2)] none (.q 4 (.ixa 7 1) [(.slot 3),(.res 3)] none (.q 5 .ld [(.res 4)] none (.q 6 (.fld 1) [(.slot 4)] none (.q 7 .ld [(.res 6)] none (.q 8 .mx [(.res 5),(.res 7)] none (.q 9 (.ixa 7 1) [(.slot 3),(.res 1)] none (.x 10 (.st 1) [(.res 9),(.res 8)] none [] (.out [(2,(.slot 2)),(3,(.slot 3)),(13,(.slot 13))])))))))))))) [2,3,4,13]
abbrev Q28l0:NC:=(.seq Q28r3 (.seq (.cond (.slot 15) .skip (.exit 0)) (.block 1 (.seq Q28r4 Q28r5))))
abbrev Q28r6:NC:=.reg (.q 0 (.lda 7) [(.slot 3)] none (.x 1 (.st 7) [(.slot 2),(.res 0)] none [] (.out [(2,(.slot 2))]))) [2,3]
abbrev Q28c:NC:=(.seq Q28r0 (.seq Q28r1 (.seq (.seq Q28r2 (.block 0 (.loop [2,3,13] Q28l0))) (.seq Q28r6 .ret))))
abbrev Q28F:FN:=⟨Q28c,[.cells 2 7]⟩
theorem Q28ok:compF Tryz.prog Tryz.f28 = some Q28F:=by kernel_rfl
theorem Q28go {args:List Value} {m:Mem} {R:Value → Mem → Prop} (hn:args.length ≤ Tryz.f28.ntmps) (h:wpN Tryz.prog Q28c (retP Q28F.rvs R) (zipP 0 args) m):MC Tryz.prog 28 args m R:=MC_start Tryz.func28 Q28ok mixed_ok hn h
/-! (*concord/log.Log).Cell -/
abbrev Q33r0:NC:=.reg (.x 0 (.box 25) [(.slot 1)] none [] (.x 1 (.alc [(.int .i64 0),(.int .i64 0),(.int .i64 0),(.int .i64 0),(.int .i64 0),(.int .i64 0),(.int .i64 0),(.int .i64 0),(.string ⟨#[]⟩),(.string ⟨#[]⟩),(.string ⟨#[]⟩),(.string ⟨#[]⟩),(.int .i64 0),(.int .i64 0),(.int .i64 0),(.int .i64 0),(.int .i64 0),(.int .i64 0),(.int .i64 0),(.int .i64 0),(.bool false)] 41) [] none [] (.out [(0,(.slot 0)),(3,(.res 0)),(4,(.res 1))]))) [0,1]
abbrev Q33r1:NC:=.reg (.q 1 .nilck [(.slot 0)] none (.q 2 (.fld 0) [(.res 1)] none (.q 3 .ld [(.res 2)] none (.q 4 (.lda 2) [(.slot 3)] none (.q 5 (.lkp true [(.i .i64),(.i .i64)] (.agg #[(.int .i64 0),(.int .i64 0),(.int .i64 0),(.int .i64 0),(.int .i64 0),(.int .i64 0),(.int .i64 0),(.int .i64 0),(.string ⟨#[]⟩),(.string ⟨#[]⟩),(.string ⟨#[]⟩),(.string ⟨#[]⟩),(.int .i64 0),(.int .i64 0),(.int .i64 0),(.int .i64 0),(.int .i64 0),(.int .i64 0),(.int .i64 0),(.int .i64 0),(.bool false)]) true) [(.res 3),(.res 4)] none (.q 7 (.ext 0) [(.res 5)] none (.q 8 (.ext 1) [(.res 5)] none (.x 9 (.alc [(.int .i64 0),(.int .i64 0),(.int .i64 0),(.int .i64 0),(.int .i64 0),(.int .i64 0),(.int .i64 0),(.int .i64 0),(.string ⟨#[]⟩),(.string ⟨#[]⟩),(.string ⟨#[]⟩),(.string ⟨#[]⟩),(.int .i64 0),(.int .i64 0),(.int .i64 0),(.int .i64 0),(.int .i64 0),(.int .i64 0),(.int .i64 0),(.int .i64 0),(.bool false)] 41) [] none [(3,.ld,[(.res 2)],none),(4,(.lda 2),[(.slot 3)],none),(5,(.lkp true [(.i .i64),(.i .i64)] (.agg #[(.int .i64 0),(.int .i64 0),(.int .i64 0),(.int .i64 0),(.int .i64 0),(.int .i64 0),(.int .i64 0),(.int .i64 0),(.string ⟨#[]⟩),(.string ⟨#[]⟩),(.string ⟨#[]⟩),(.string ⟨#[]⟩),(.int .i64 0),(.int .i64 0),(.int .i64 0),(.int .i64 0),(.int .i64 0),(.int .i64 0),(.int .i64 0),(.int .i64 0),(.bool false)]) true),[(.res 3),(.res 4)],none)] (.x 10 (.st 21) [(.res 9),(.res 7)] none [] (.out [(4,(.slot 4)),(6,(.res 9)),(7,(.res 8))])))))))))) [0,3,4]
abbrev Q33r2:NC:=.reg (.q 1 .not [(.slot 7)] none (.out [(4,(.slot 4)),(6,(.slot 6)),(18,(.res 1))])) [4,6,7]
abbrev Q33r3:NC:=.reg (.q 0 (.bld [(.int .i64 0),(.int .i64 0),(.int .i64 0),(.int .i64 0),(.int .i64 0),(.int .i64 0),(.int .i64 0),(.int .i64 0),(.string ⟨#[]⟩),(.string ⟨#[]⟩),(.string ⟨#[]⟩),(.string ⟨#[]⟩),(.int .i64 0),(.int .i64 0),(.int .i64 0),(.int .i64 0),(.int .i64 0),(.int .i64 0),(.int .i64 0),(.int .i64 0),(.bool false)] []) [] none (.x 1 (.st 21) [(.slot 4),(.res 0)] none [] (.out [(4,(.slot 4)),(5,(.const (.bool false)))]))) [4]
abbrev Q33r4:NC:=.reg (.q 0 (.lda 21) [(.slot 6)] none (.x 1 (.st 21) [(.slot 4),(.res 0)] none [] (.out [(4,(.slot 4)),(5,(.const (.bool true)))]))) [4,6]
abbrev Q33c:NC:=(.seq Q33r0 (.seq Q33r1 (.seq (.seq Q33r2 (.cond (.slot 18) (.seq Q33r3 .ret) .skip)) (.seq Q33r4 .ret))))
abbrev Q33F:FN:=⟨Q33c,[.cells 4 21,.slot 5]⟩
theorem Q33ok:compF Tryz.prog Tryz.f33 = some Q33F:=by kernel_rfl
theorem Q33go {args:List Value} {m:Mem} {R:Value → Mem → Prop} (hn:args.length ≤ Tryz.f33.ntmps) (h:wpN Tryz.prog Q33c (retP Q33F.rvs R) (zipP 0 args) m):MC Tryz.prog 33 args m R:=MC_start Tryz.func33 Q33ok mixed_ok hn h
/-! (*concord/log.Log).Gone -/
abbrev Q44r0:NC:=.reg (.x 0 (.box 25) [(.slot 1)] none [] (.out [(0,(.slot 0)),(3,(.res 0))])) [0,1]
abbrev Q44r1:NC:=.reg (.q 0 (.lda 2) [(.slot 3)] none (.x 1 (.call 66) [(.res 0)] none [] (.q 3 (.fld 1) [(.slot 3)] (some ((.res 1),true)) (.q 4 .ld [(.res 3)] (some ((.res 1),true)) (.q 5 .mv [(.slot 0)] (some ((.res 1),true)) (.q 6 (.fld 0) [(.slot 3)] (some ((.res 1),true)) (.q 7 .ld [(.res 6)] (some ((.res 1),true)) (.q 8 .nilck [(.res 5)] (some ((.res 1),true)) (.q 9 (.fld 1) [(.res 8)] (some ((.res 1),true)) (.q 10 (.ixa 7 1) [(.res 9),(.res 7)] (some ((.res 1),true)) (.q 11 .ld [(.res 10)] (some ((.res 1),true)) (.q 12 (.icm .leq) [(.res 4),(.res 11)] (some ((.res 1),true)) (.q 13 .pick [(.res 1),(.res 12),(.const (.bool false))] none (.out [(4,(.res 13))])))))))))))))) [0,3]
abbrev Q44c:NC:=(.seq Q44r0 (.seq Q44r1 .ret))
abbrev Q44F:FN:=⟨Q44c,[.slot 4]⟩
theorem Q44ok:compF Tryz.prog Tryz.f44 = some Q44F:=by kernel_rfl
theorem Q44go {args:List Value} {m:Mem} {R:Value → Mem → Prop} (hn:args.length ≤ Tryz.f44.ntmps) (h:wpN Tryz.prog Q44c (retP Q44F.rvs R) (zipP 0 args) m):MC Tryz.prog 44 args m R:=MC_start Tryz.func44 Q44ok mixed_ok hn h
/-! concord/log.New -/
abbrev Q51r0:NC:=.reg (.x 0 (.box 37) [(.slot 0)] none [] (.out [(1,(.res 0))])) [0]
abbrev Q51r1:NC:=.reg (.x 0 .mkm [] none [] (.q 1 (.bld [(.map none),(.int .i64 0),(.int .i64 0),(.int .i64 0),(.int .i64 0),(.int .i64 0),(.int .i64 0),(.int .i64 0)] [(0,1)]) [(.res 0)] none (.x 2 (.box 127) [(.res 1)] none [] (.out [(1,(.slot 1)),(3,(.res 2))])))) [1]
abbrev Q51r2:NC:=.reg (.q 1 (.lda 7) [(.slot 1)] none (.x 2 (.call 82) [(.slot 3),(.res 1)] none [] (.out [(3,(.slot 3))]))) [1,3]
abbrev Q51r3:NC:=.reg (.out [(2,(.slot 3))]) [3]
abbrev Q51c:NC:=(.seq Q51r0 (.seq Q51r1 (.seq Q51r2 (.seq Q51r3 .ret))))
abbrev Q51F:FN:=⟨Q51c,[.slot 2]⟩
theorem Q51ok:compF Tryz.prog Tryz.f51 = some Q51F:=by kernel_rfl
theorem Q51go {args:List Value} {m:Mem} {R:Value → Mem → Prop} (hn:args.length ≤ Tryz.f51.ntmps) (h:wpN Tryz.prog Q51c (retP Q51F.rvs R) (zipP 0 args) m):MC Tryz.prog 51 args m R:=MC_start Tryz.func51 Q51ok mixed_ok hn h
/-! concord/log.Replay -/
/-! (*concord/log.Log).Set -/
abbrev Q55r0:NC:=.reg (.x 0 (.box 25) [(.slot 1)] none [] (.x 1 (.box 41) [(.slot 2)] none [] (.out [(0,(.slot 0)),(4,(.res 0)),(5,(.res 1))]))) [0,1,2]
abbrev Q55r1:NC:=.reg (.q 0 (.lda 2) [(.slot 4)] none (.x 1 (.call 66) [(.res 0)] none [] (.q 2 .not [(.res 1)] none (.q 4 .mv [(.slot 0)] (some ((.res 2),false)) (.q 5 (.lda 2) [(.slot 4)] (some ((.res 2),false)) (.x 6 (.call 44) [(.res 4),(.res 5)] (some ((.res 2),false)) [] (.q 7 .pick [(.res 2),(.const (.bool true)),(.res 6)] none (.q 9 (.lda 21) [(.slot 5)] (some ((.res 7),false)) (.x 10 (.call 72) [(.res 9)] (some ((.res 7),false)) [] (.q 11 .not [(.res 10)] (some ((.res 7),false)) (.q 12 .pick [(.res 7),(.const (.bool true)),(.res 11)] none (.out [(0,(.slot 0)),(4,(.slot 4)),(5,(.slot 5)),(21,(.res 12))])))))))))))) [0,4,5]
abbrev Q55r2:NC:=.reg (.out [(6,(.const (.bool false)))]) []
abbrev Q55r3:NC:=.reg (.q 1 .nilck [(.slot 0)] none (.q 2 (.fld 0) [(.res 1)] none (.q 3 .ld [(.res 2)] none (.q 4 (.lda 2) [(.slot 4)] none (.q 5 (.lkp true [(.i .i64),(.i .i64)] (.agg #[(.int .i64 0),(.int .i64 0),(.int .i64 0),(.int .i64 0),(.int .i64 0),(.int .i64 0),(.int .i64 0),(.int .i64 0),(.string ⟨#[]⟩),(.string ⟨#[]⟩),(.string ⟨#[]⟩),(.string ⟨#[]⟩),(.int .i64 0),(.int .i64 0),(.int .i64 0),(.int .i64 0),(.int .i64 0),(.int .i64 0),(.int .i64 0),(.int .i64 0),(.bool false)]) true) [(.res 3),(.res 4)] none (.q 7 (.ext 0) [(.res 5)] none (.q 8 (.ext 1) [(.res 5)] none (.x 9 (.alc [(.int .i64 0),(.int .i64 0),(.int .i64 0),(.int .i64 0),(.int .i64 0),(.int .i64 0),(.int .i64 0),(.int .i64 0),(.string ⟨#[]⟩),(.string ⟨#[]⟩),(.string ⟨#[]⟩),(.string ⟨#[]⟩),(.int .i64 0),(.int .i64 0),(.int .i64 0),(.int .i64 0),(.int .i64 0),(.int .i64 0),(.int .i64 0),(.int .i64 0),(.bool false)] 41) [] none [(3,.ld,[(.res 2)],none),(4,(.lda 2),[(.slot 4)],none),(5,(.lkp true [(.i .i64),(.i .i64)] (.agg #[(.int .i64 0),(.int .i64 0),(.int .i64 0),(.int .i64 0),(.int .i64 0),(.int .i64 0),(.int .i64 0),(.int .i64 0),(.string ⟨#[]⟩),(.string ⟨#[]⟩),(.string ⟨#[]⟩),(.string ⟨#[]⟩),(.int .i64 0),(.int .i64 0),(.int .i64 0),(.int .i64 0),(.int .i64 0),(.int .i64 0),(.int .i64 0),(.int .i64 0),(.bool false)]) true),[(.res 3),(.res 4)],none)] (.x 10 (.st 21) [(.res 9),(.res 7)] none [] (.out [(0,(.slot 0)),(4,(.slot 4)),(5,(.slot 5)),(7,(.res 9)),(8,(.res 8))])))))))))) [0,4,5]
abbrev Q55r4:NC:=.reg (.q 2 (.lda 21) [(.slot 7)] (some ((.slot 8),true)) (.q 3 (.lda 21) [(.slot 5)] (some ((.slot 8),true)) (.x 4 (.call 87) [(.res 2),(.res 3)] (some ((.slot 8),true)) [] (.q 5 .not [(.res 4)] (some ((.slot 8),true)) (.q 6 .pick [(.slot 8),(.res 5),(.const (.bool false))] none (.out [(0,(.slot 0)),(4,(.slot 4)),(5,(.slot 5)),(37,(.res 6))])))))) [0,4,5,7,8]
abbrev Q55r5:NC:=.reg (.out [(6,(.const (.bool false)))]) []
abbrev Q55r6:NC:=.reg (.q 1 .nilck [(.slot 0)] none (.q 2 (.fld 0) [(.res 1)] none (.q 3 .ld [(.res 2)] none (.q 4 (.lda 2) [(.slot 4)] none (.q 5 (.lda 21) [(.slot 5)] none (.x 6 (.mup true [(.i .i64),(.i .i64)]) [(.res 3),(.res 4),(.res 5)] none [] (.out []))))))) [0,4,5]
abbrev Q55r7:NC:=.reg (.out [(6,(.const (.bool true)))]) []
abbrev Q55c:NC:=(.seq Q55r0 (.seq (.seq Q55r1 (.cond (.slot 21) (.seq Q55r2 .ret) .skip)) (.seq (.seq Q55r3 (.seq Q55r4 (.cond (.slot 37) (.seq Q55r5 .ret) .skip))) (.seq Q55r6 (.seq Q55r7 .ret)))))
abbrev Q55F:FN:=⟨Q55c,[.slot 6]⟩
theorem Q55ok:compF Tryz.prog Tryz.f55 = some Q55F:=by kernel_rfl
theorem Q55go {args:List Value} {m:Mem} {R:Value → Mem → Prop} (hn:args.length ≤ Tryz.f55.ntmps) (h:wpN Tryz.prog Q55c (retP Q55F.rvs R) (zipP 0 args) m):MC Tryz.prog 55 args m R:=MC_start Tryz.func55 Q55ok mixed_ok hn h
/-! (*concord/log.Log).List -/
/-! concord/log.Record -/
abbrev Q67r0:NC:=.reg (.x 0 (.box 25) [(.slot 0)] none [] (.x 1 (.box 41) [(.slot 1)] none [] (.out [(2,(.res 0)),(3,(.res 1))]))) [0,1]
abbrev Q67r1:NC:=.reg (.q 0 (.fld 0) [(.slot 2)] none (.q 1 .ld [(.res 0)] none (.q 3 (.fld 1) [(.slot 2)] none (.q 4 .ld [(.res 3)] none (.q 6 (.lda 21) [(.slot 3)] none (.x 2 (.call 97) [(.const (.slice none 0 0)),(.res 1)] none [(4,.ld,[(.res 3)],none),(6,(.lda 21),[(.slot 3)],none)] (.x 5 (.call 97) [(.res 2),(.res 4)] none [(6,(.lda 21),[(.slot 3)],none)] (.x 7 (.call 96) [(.res 5),(.res 6)] none [] (.out [(4,(.res 7))]))))))))) [2,3]
abbrev Q67c:NC:=(.seq Q67r0 (.seq Q67r1 .ret))
abbrev Q67F:FN:=⟨Q67c,[.slot 4]⟩
theorem Q67ok:compF Tryz.prog Tryz.f67 = some Q67F:=by kernel_rfl
theorem Q67go {args:List Value} {m:Mem} {R:Value → Mem → Prop} (hn:args.length ≤ Tryz.f67.ntmps) (h:wpN Tryz.prog Q67c (retP Q67F.rvs R) (zipP 0 args) m):MC Tryz.prog 67 args m R:=MC_start Tryz.func67 Q67ok mixed_ok hn h
/-! (*concord/log.Log).Trim -/
abbrev Q82r0:NC:=.reg (.x 0 (.box 37) [(.slot 1)] none [] (.out [(0,(.slot 0)),(3,(.res 0))])) [0,1]
abbrev Q82r1:NC:=.reg (.q 0 (.lda 7) [(.slot 3)] none (.out [(0,(.slot 0)),(7,(.res 0)),(8,(.const (.int .i64 0)))])) [0,3]
abbrev Q82r2:NC:=.reg (.q 0 (.icm .lss) [(.slot 8),(.const (.int .i64 7))] none (.out [(0,(.slot 0)),(7,(.slot 7)),(8,(.slot 8)),(9,(.res 0))])) [0,7,8]
abbrev Q82r3:NC:=.reg (.q 1 (.idx 7 1) [(.slot 7),(.slot 8)] none (.out [(0,(.slot 0)),(4,(.slot 8)),(5,(.res 1)),(7,(.slot 7)),(8,(.slot 8))])) [0,7,8]
abbrev Q82r4:NC:=.reg (.q 4 .nilck [(.slot 0)] none (.q 5 (.fld 1) [(.res 4)] none (.q 6 (.ixa 7 1) [(.res 5),(.slot 4)] none (.q 7 .ld [(.res 6)] none (.q 9 .mx [(.slot 5),(.const (.int .i64 0))] none (.q 10 .mn [(.res 9),(.const (.int .i64 1073741824))] none (.q 11 .mx [(.res 7),(.res 10)] none (.q 12 .nilck [(.slot 0)] none (.q 13 (.fld 1) [(.res 12)] none (.q 14 (.ixa 7 1) [(.res 13),(.slot 4)] none (.x 15 (.st 1) [(.res 14),(.res 11)] none [] (.out [(0,(.slot 0)),(7,(.slot 7)),(8,(.slot 8))])))))))))))) [0,4,5,7,8]
abbrev Q82r5:NC:=.reg (.q 0 (.iar .add) [(.slot 8),(.const (.int .i64 1))] none (.out [(0,(.slot 0)),(7,(.slot 7)),(8,(.res 0))])) [0,7,8]
abbrev Q82l0:NC:=(.seq Q82r2 (.seq (.cond (.slot 9) .skip (.exit 0)) (.seq (.block 1 (.seq Q82r3 Q82r4)) Q82r5)))
abbrev Q82r6:NC:=.reg (.q 1 .nilck [(.slot 0)] none (.q 2 (.fld 0) [(.res 1)] none (.q 3 .ld [(.res 2)] none (.x 4 .rng [(.res 3)] none [] (.out [(0,(.slot 0)),(32,(.res 4))]))))) [0]
abbrev Q82r7:NC:=.reg (.x 0 .nxt [(.slot 32)] none [] (.q 1 (.ext 0) [(.res 0)] none (.out [(0,(.slot 0)),(32,(.slot 32)),(34,(.res 1))]))) [0,32]
abbrev Q82r8:NC:=.reg (.q 0 .ent [(.slot 32)] none (.q 1 (.ext 0) [(.res 0)] none (.x 2 (.alc [(.int .i64 0),(.int .i64 0)] 25) [] none [] (.x 3 (.st 2) [(.res 2),(.res 1)] none [] (.out [(0,(.slot 0)),(6,(.res 2)),(32,(.slot 32))]))))) [0,32]
abbrev Q82r9:NC:=.reg (.q 1 (.lda 2) [(.slot 6)] none (.x 2 (.call 44) [(.slot 0),(.res 1)] none [] (.out [(0,(.slot 0)),(6,(.slot 6)),(32,(.slot 32)),(39,(.res 2))]))) [0,6,32]
abbrev Q82r10:NC:=.reg (.q 1 .nilck [(.slot 0)] none (.q 2 (.fld 0) [(.res 1)] none (.q 3 .ld [(.res 2)] none (.q 4 (.lda 2) [(.slot 6)] none (.x 5 (.dlt true [(.i .i64),(.i .i64)]) [(.res 3),(.res 4)] none [] (.out [(0,(.slot 0)),(32,(.slot 32))])))))) [0,6,32]
abbrev Q82l1:NC:=(.seq Q82r7 (.seq (.cond (.slot 34) .skip (.exit 2)) (.block 3 (.seq Q82r8 (.seq Q82r9 (.cond (.slot 39) Q82r10 .skip))))))
abbrev Q82c:NC:=(.seq Q82r0 (.seq (.seq Q82r1 (.block 0 (.loop [0,7,8] Q82l0))) (.seq Q82r6 (.block 2 (.loop [0,32] Q82l1)))))
abbrev Q82F:FN:=⟨Q82c,[]⟩
theorem Q82ok:compF Tryz.prog Tryz.f82 = some Q82F:=by kernel_rfl
theorem Q82go {args:List Value} {m:Mem} {R:Value → Mem → Prop} (hn:args.length ≤ Tryz.f82.ntmps) (h:wpN Tryz.prog Q82c (retP Q82F.rvs R) (zipP 0 args) m):MC Tryz.prog 82 args m R:=MC_start Tryz.func82 Q82ok mixed_ok hn h
/-! concord/log.may -/
abbrev Q87r0:NC:=.reg (.x 0 (.box 41) [(.slot 0)] none [] (.x 1 (.box 41) [(.slot 1)] none [] (.out [(2,(.res 0)),(3,(.res 1))]))) [0,1]
abbrev Q87r1:NC:=.reg (.q 0 (.fld 0) [(.slot 2)] none (.q 1 .ld [(.res 0)] none (.q 2 (.icm .eql) [(.res 1),(.const (.int .i64 3))] none (.q 4 (.fld 0) [(.slot 3)] (some ((.res 2),true)) (.q 5 .ld [(.res 4)] (some ((.res 2),true)) (.q 6 (.icm .neq) [(.res 5),(.const (.int .i64 3))] (some ((.res 2),true)) (.q 7 .mv [(.res 6)] (some ((.res 2),true)) (.q 8 (.fld 5) [(.slot 3)] (some ((.res 7),false)) (.q 9 (.lda 7) [(.res 8)] (some ((.res 7),false)) (.q 10 (.fld 5) [(.slot 2)] (some ((.res 7),false)) (.q 11 (.lda 7) [(.res 10)] (some ((.res 7),false)) (.q 12 (.eqc true [(.i .i64),(.i .i64),(.i .i64),.s,.s,.s,.s]) [(.res 9),(.res 11)] (some ((.res 7),false)) (.q 13 .pick [(.res 7),(.const (.bool true)),(.res 12)] (some ((.res 2),true)) (.q 14 .mv [(.res 13)] (some ((.res 2),true)) (.q 15 (.fld 12) [(.slot 3)] (some ((.res 14),false)) (.q 16 (.lda 8) [(.res 15)] (some ((.res 14),false)) (.q 17 (.fld 12) [(.slot 2)] (some ((.res 14),false)) (.q 18 (.lda 8) [(.res 17)] (some ((.res 14),false)) (.q 19 (.eqc true [(.i .i64),(.i .i64),(.i .i64),(.i .i64),(.i .i64),(.i .i64),(.i .i64),(.i .i64)]) [(.res 16),(.res 18)] (some ((.res 14),false)) (.q 20 .pick [(.res 14),(.const (.bool true)),(.res 19)] (some ((.res 2),true)) (.q 21 .pick [(.res 2),(.res 20),(.const (.bool false))] none (.out [(2,(.slot 2)),(3,(.slot 3)),(26,(.res 21))])))))))))))))))))))))) [2,3]
abbrev Q87r2:NC:=.reg (.out [(4,(.const (.bool false)))]) []
abbrev Q87r3:NC:=.reg (.q 0 (.fld 1) [(.slot 3)] none (.q 1 (.lda 2) [(.res 0)] none (.q 2 (.fld 1) [(.slot 2)] none (.q 3 (.lda 2) [(.res 2)] none (.x 4 (.call 37) [(.res 1),(.res 3)] none [] (.q 6 (.fld 3) [(.slot 3)] (some ((.res 4),false)) (.q 7 (.lda 2) [(.res 6)] (some ((.res 4),false)) (.q 8 (.fld 3) [(.slot 2)] (some ((.res 4),false)) (.q 9 (.lda 2) [(.res 8)] (some ((.res 4),false)) (.x 10 (.call 37) [(.res 7),(.res 9)] (some ((.res 4),false)) [] (.q 11 .pick [(.res 4),(.const (.bool true)),(.res 10)] none (.out [(2,(.slot 2)),(3,(.slot 3)),(38,(.res 11))])))))))))))) [2,3]
abbrev Q87r4:NC:=.reg (.out [(4,(.const (.bool false)))]) []
abbrev Q87r5:NC:=.reg (.q 0 (.fld 0) [(.slot 3)] none (.q 1 .ld [(.res 0)] none (.q 2 (.fld 0) [(.slot 2)] none (.q 3 .ld [(.res 2)] none (.q 4 (.icm .geq) [(.res 1),(.res 3)] none (.q 6 (.fld 3) [(.slot 3)] (some ((.res 4),false)) (.q 7 (.lda 2) [(.res 6)] (some ((.res 4),false)) (.q 8 (.fld 3) [(.slot 2)] (some ((.res 4),false)) (.q 9 (.lda 2) [(.res 8)] (some ((.res 4),false)) (.q 10 (.eqc true [(.i .i64),(.i .i64)]) [(.res 7),(.res 9)] (some ((.res 4),false)) (.q 11 .pick [(.res 4),(.const (.bool true)),(.res 10)] none (.out [(4,(.res 11))])))))))))))) [2,3]
abbrev Q87c:NC:=(.seq Q87r0 (.seq (.seq Q87r1 (.cond (.slot 26) (.seq Q87r2 .ret) .skip)) (.seq (.seq Q87r3 (.cond (.slot 38) (.seq Q87r4 .ret) .skip)) (.seq Q87r5 .ret))))
abbrev Q87F:FN:=⟨Q87c,[.slot 4]⟩
theorem Q87ok:compF Tryz.prog Tryz.f87 = some Q87F:=by kernel_rfl
theorem Q87go {args:List Value} {m:Mem} {R:Value → Mem → Prop} (hn:args.length ≤ Tryz.f87.ntmps) (h:wpN Tryz.prog Q87c (retP Q87F.rvs R) (zipP 0 args) m):MC Tryz.prog 87 args m R:=MC_start Tryz.func87 Q87ok mixed_ok hn h
/-! slices.SortFunc[[]concord/api.Inst,concord/api.Inst] -/
/-! (*concord/log.Log).List$1 -/
/-! slices.Insert[[]*concord/core.wish,*concord/core.wish] -/
abbrev Q94r0:NC:=.reg (.out [(0,(.slot 0)),(1,(.slot 1)),(2,(.slot 2))]) [0,1,2]
abbrev Q94r1:NC:=.reg (.q 2 (.slc 1 true false) [(.slot 0),(.slot 1)] none (.out [(0,(.slot 0)),(1,(.slot 1)),(2,(.slot 2))])) [0,1,2]
abbrev Q94r2:NC:=.reg (.q 1 .len [(.slot 2)] none (.out [(0,(.slot 0)),(1,(.slot 1)),(2,(.slot 2)),(7,(.res 1))])) [0,1,2]
abbrev Q94r3:NC:=.reg (.q 1 (.icm .eql) [(.slot 7),(.const (.int .i64 0))] none (.out [(0,(.slot 0)),(1,(.slot 1)),(2,(.slot 2)),(7,(.slot 7)),(16,(.res 1))])) [0,1,2,7]
abbrev Q94r4:NC:=.reg (.out [(6,(.slot 0))]) [0]
abbrev Q94r5:NC:=.reg (.q 1 .len [(.slot 0)] none (.out [(0,(.slot 0)),(1,(.slot 1)),(2,(.slot 2)),(7,(.slot 7)),(8,(.res 1))])) [0,1,2,7]
abbrev Q94r6:NC:=.reg (.q 2 (.icm .eql) [(.slot 1),(.slot 8)] none (.out [(0,(.slot 0)),(1,(.slot 1)),(2,(.slot 2)),(7,(.slot 7)),(8,(.slot 8)),(22,(.res 2))])) [0,1,2,7,8]
abbrev Q94r7:NC:=.reg (.x 2 (.app 94 1 8 [(.pointer none)]) [(.slot 0),(.slot 2)] none [] (.out [(6,(.res 2))])) [0,2]
abbrev Q94r8:NC:=.reg (.q 2 (.iar .add) [(.slot 8),(.slot 7)] none (.q 4 .cap [(.slot 0)] none (.q 5 (.icm .gtr) [(.res 2),(.res 4)] none (.out [(0,(.slot 0)),(1,(.slot 1)),(2,(.slot 2)),(7,(.slot 7)),(8,(.slot 8)),(31,(.res 5))])))) [0,1,2,7,8]
abbrev Q94r9:NC:=.reg (.q 2 (.slc 1 false true) [(.slot 0),(.slot 1)] none (.q 5 (.iar .add) [(.slot 8),(.slot 7)] none (.q 7 (.iar .sub) [(.res 5),(.slot 1)] none (.x 8 (.appn 94 1 8 [(.pointer none)]) [(.res 2),(.res 7)] none [] (.out [(0,(.slot 0)),(1,(.slot 1)),(2,(.slot 2)),(7,(.slot 7)),(9,(.res 8))]))))) [0,1,2,7,8]
abbrev Q94r10:NC:=.reg (.q 2 (.slc 1 true false) [(.slot 9),(.slot 1)] none (.x 4 (.cpy 1) [(.res 2),(.slot 2)] none [] (.out [(0,(.slot 0)),(1,(.slot 1)),(7,(.slot 7)),(9,(.slot 9))]))) [0,1,2,7,9]
abbrev Q94r11:NC:=.reg (.q 3 (.iar .add) [(.slot 1),(.slot 7)] none (.q 4 (.slc 1 true false) [(.slot 9),(.res 3)] none (.q 7 (.slc 1 true false) [(.slot 0),(.slot 1)] none (.x 8 (.cpy 1) [(.res 4),(.res 7)] none [] (.out [(9,(.slot 9))]))))) [0,1,7,9]
abbrev Q94r12:NC:=.reg (.out [(6,(.slot 9))]) [9]
abbrev Q94r13:NC:=.reg (.q 3 (.iar .add) [(.slot 8),(.slot 7)] none (.q 4 (.slc 1 false true) [(.slot 0),(.res 3)] none (.out [(0,(.res 4)),(1,(.slot 1)),(2,(.slot 2)),(7,(.slot 7)),(8,(.slot 8))]))) [0,1,2,7,8]
abbrev Q94r14:NC:=.reg (.q 4 (.iar .add) [(.slot 1),(.slot 7)] none (.q 5 (.slc 1 true false) [(.slot 0),(.res 4)] none (.q 6 (.ovl 1) [(.slot 2),(.res 5)] none (.q 7 .not [(.res 6)] none (.out [(0,(.slot 0)),(1,(.slot 1)),(2,(.slot 2)),(7,(.slot 7)),(8,(.slot 8)),(68,(.res 7))]))))) [0,1,2,7,8]
abbrev Q94r15:NC:=.reg (.q 3 (.iar .add) [(.slot 1),(.slot 7)] none (.q 4 (.slc 1 true false) [(.slot 0),(.res 3)] none (.q 7 (.slc 1 true false) [(.slot 0),(.slot 1)] none (.x 8 (.cpy 1) [(.res 4),(.res 7)] none [] (.out [(0,(.slot 0)),(1,(.slot 1)),(2,(.slot 2))]))))) [0,1,2,7]
abbrev Q94r16:NC:=.reg (.q 2 (.slc 1 true false) [(.slot 0),(.slot 1)] none (.x 4 (.cpy 1) [(.res 2),(.slot 2)] none [] (.out [(0,(.slot 0))]))) [0,1,2]
abbrev Q94r17:NC:=.reg (.out [(6,(.slot 0))]) [0]
abbrev Q94r18:NC:=.reg (.q 2 (.slc 1 true false) [(.slot 0),(.slot 8)] none (.x 4 (.cpy 1) [(.res 2),(.slot 2)] none [] (.out [(0,(.slot 0)),(1,(.slot 1)),(7,(.slot 7))]))) [0,1,2,7,8]
abbrev Q94r19:NC:=.reg (.q 2 (.slc 1 true false) [(.slot 0),(.slot 1)] none (.x 4 (.call 121) [(.res 2),(.slot 7)] none [] (.out [(0,(.slot 0))]))) [0,1,7]
abbrev Q94r20:NC:=.reg (.out [(6,(.slot 0))]) [0]
abbrev Q94c:NC:=(.seq Q94r0 (.seq Q94r1 (.seq Q94r2 (.seq (.seq Q94r3 (.cond (.slot 16) (.seq Q94r4 .ret) .skip)) (.seq Q94r5 (.seq (.seq Q94r6 (.cond (.slot 22) (.seq Q94r7 .ret) .skip)) (.seq (.seq Q94r8 (.cond (.slot 31) (.seq Q94r9 (.seq Q94r10 (.seq Q94r11 (.seq Q94r12 .ret)))) .skip)) (.seq Q94r13 (.seq (.seq Q94r14 (.cond (.slot 68) (.seq Q94r15 (.seq Q94r16 (.seq Q94r17 .ret))) .skip)) (.seq Q94r18 (.seq Q94r19 (.seq Q94r20 .ret))))))))))))
abbrev Q94F:FN:=⟨Q94c,[.slot 6]⟩
theorem Q94ok:compF Tryz.prog Tryz.f94 = some Q94F:=by kernel_rfl
theorem Q94go {args:List Value} {m:Mem} {R:Value → Mem → Prop} (hn:args.length ≤ Tryz.f94.ntmps) (h:wpN Tryz.prog Q94c (retP Q94F.rvs R) (zipP 0 args) m):MC Tryz.prog 94 args m R:=MC_start Tryz.func94 Q94ok mixed_ok hn h
/-! slices.Insert[[]*concord/core.lead,*concord/core.lead] -/
abbrev Q98r0:NC:=.reg (.out [(0,(.slot 0)),(1,(.slot 1)),(2,(.slot 2))]) [0,1,2]
abbrev Q98r1:NC:=.reg (.q 2 (.slc 1 true false) [(.slot 0),(.slot 1)] none (.out [(0,(.slot 0)),(1,(.slot 1)),(2,(.slot 2))])) [0,1,2]
abbrev Q98r2:NC:=.reg (.q 1 .len [(.slot 2)] none (.out [(0,(.slot 0)),(1,(.slot 1)),(2,(.slot 2)),(7,(.res 1))])) [0,1,2]
abbrev Q98r3:NC:=.reg (.q 1 (.icm .eql) [(.slot 7),(.const (.int .i64 0))] none (.out [(0,(.slot 0)),(1,(.slot 1)),(2,(.slot 2)),(7,(.slot 7)),(16,(.res 1))])) [0,1,2,7]
abbrev Q98r4:NC:=.reg (.out [(6,(.slot 0))]) [0]
abbrev Q98r5:NC:=.reg (.q 1 .len [(.slot 0)] none (.out [(0,(.slot 0)),(1,(.slot 1)),(2,(.slot 2)),(7,(.slot 7)),(8,(.res 1))])) [0,1,2,7]
abbrev Q98r6:NC:=.reg (.q 2 (.icm .eql) [(.slot 1),(.slot 8)] none (.out [(0,(.slot 0)),(1,(.slot 1)),(2,(.slot 2)),(7,(.slot 7)),(8,(.slot 8)),(22,(.res 2))])) [0,1,2,7,8]
abbrev Q98r7:NC:=.reg (.x 2 (.app 88 1 8 [(.pointer none)]) [(.slot 0),(.slot 2)] none [] (.out [(6,(.res 2))])) [0,2]
abbrev Q98r8:NC:=.reg (.q 2 (.iar .add) [(.slot 8),(.slot 7)] none (.q 4 .cap [(.slot 0)] none (.q 5 (.icm .gtr) [(.res 2),(.res 4)] none (.out [(0,(.slot 0)),(1,(.slot 1)),(2,(.slot 2)),(7,(.slot 7)),(8,(.slot 8)),(31,(.res 5))])))) [0,1,2,7,8]
abbrev Q98r9:NC:=.reg (.q 2 (.slc 1 false true) [(.slot 0),(.slot 1)] none (.q 5 (.iar .add) [(.slot 8),(.slot 7)] none (.q 7 (.iar .sub) [(.res 5),(.slot 1)] none (.x 8 (.appn 88 1 8 [(.pointer none)]) [(.res 2),(.res 7)] none [] (.out [(0,(.slot 0)),(1,(.slot 1)),(2,(.slot 2)),(7,(.slot 7)),(9,(.res 8))]))))) [0,1,2,7,8]
abbrev Q98r10:NC:=.reg (.q 2 (.slc 1 true false) [(.slot 9),(.slot 1)] none (.x 4 (.cpy 1) [(.res 2),(.slot 2)] none [] (.out [(0,(.slot 0)),(1,(.slot 1)),(7,(.slot 7)),(9,(.slot 9))]))) [0,1,2,7,9]
abbrev Q98r11:NC:=.reg (.q 3 (.iar .add) [(.slot 1),(.slot 7)] none (.q 4 (.slc 1 true false) [(.slot 9),(.res 3)] none (.q 7 (.slc 1 true false) [(.slot 0),(.slot 1)] none (.x 8 (.cpy 1) [(.res 4),(.res 7)] none [] (.out [(9,(.slot 9))]))))) [0,1,7,9]
abbrev Q98r12:NC:=.reg (.out [(6,(.slot 9))]) [9]
abbrev Q98r13:NC:=.reg (.q 3 (.iar .add) [(.slot 8),(.slot 7)] none (.q 4 (.slc 1 false true) [(.slot 0),(.res 3)] none (.out [(0,(.res 4)),(1,(.slot 1)),(2,(.slot 2)),(7,(.slot 7)),(8,(.slot 8))]))) [0,1,2,7,8]
abbrev Q98r14:NC:=.reg (.q 4 (.iar .add) [(.slot 1),(.slot 7)] none (.q 5 (.slc 1 true false) [(.slot 0),(.res 4)] none (.q 6 (.ovl 1) [(.slot 2),(.res 5)] none (.q 7 .not [(.res 6)] none (.out [(0,(.slot 0)),(1,(.slot 1)),(2,(.slot 2)),(7,(.slot 7)),(8,(.slot 8)),(68,(.res 7))]))))) [0,1,2,7,8]
abbrev Q98r15:NC:=.reg (.q 3 (.iar .add) [(.slot 1),(.slot 7)] none (.q 4 (.slc 1 true false) [(.slot 0),(.res 3)] none (.q 7 (.slc 1 true false) [(.slot 0),(.slot 1)] none (.x 8 (.cpy 1) [(.res 4),(.res 7)] none [] (.out [(0,(.slot 0)),(1,(.slot 1)),(2,(.slot 2))]))))) [0,1,2,7]
abbrev Q98r16:NC:=.reg (.q 2 (.slc 1 true false) [(.slot 0),(.slot 1)] none (.x 4 (.cpy 1) [(.res 2),(.slot 2)] none [] (.out [(0,(.slot 0))]))) [0,1,2]
abbrev Q98r17:NC:=.reg (.out [(6,(.slot 0))]) [0]
abbrev Q98r18:NC:=.reg (.q 2 (.slc 1 true false) [(.slot 0),(.slot 8)] none (.x 4 (.cpy 1) [(.res 2),(.slot 2)] none [] (.out [(0,(.slot 0)),(1,(.slot 1)),(7,(.slot 7))]))) [0,1,2,7,8]
abbrev Q98r19:NC:=.reg (.q 2 (.slc 1 true false) [(.slot 0),(.slot 1)] none (.x 4 (.call 128) [(.res 2),(.slot 7)] none [] (.out [(0,(.slot 0))]))) [0,1,7]
abbrev Q98r20:NC:=.reg (.out [(6,(.slot 0))]) [0]
abbrev Q98c:NC:=(.seq Q98r0 (.seq Q98r1 (.seq Q98r2 (.seq (.seq Q98r3 (.cond (.slot 16) (.seq Q98r4 .ret) .skip)) (.seq Q98r5 (.seq (.seq Q98r6 (.cond (.slot 22) (.seq Q98r7 .ret) .skip)) (.seq (.seq Q98r8 (.cond (.slot 31) (.seq Q98r9 (.seq Q98r10 (.seq Q98r11 (.seq Q98r12 .ret)))) .skip)) (.seq Q98r13 (.seq (.seq Q98r14 (.cond (.slot 68) (.seq Q98r15 (.seq Q98r16 (.seq Q98r17 .ret))) .skip)) (.seq Q98r18 (.seq Q98r19 (.seq Q98r20 .ret))))))))))))
abbrev Q98F:FN:=⟨Q98c,[.slot 6]⟩
theorem Q98ok:compF Tryz.prog Tryz.f98 = some Q98F:=by kernel_rfl
theorem Q98go {args:List Value} {m:Mem} {R:Value → Mem → Prop} (hn:args.length ≤ Tryz.f98.ntmps) (h:wpN Tryz.prog Q98c (retP Q98F.rvs R) (zipP 0 args) m):MC Tryz.prog 98 args m R:=MC_start Tryz.func98 Q98ok mixed_ok hn h
/-! slices.DeleteFunc[[]*concord/core.lead,*concord/core.lead] -/
abbrev Q99r0:NC:=.reg (.out [(0,(.slot 0)),(1,(.slot 1))]) [0,1]
abbrev Q99r1:NC:=.reg (.x 2 (.call 129) [(.slot 0),(.slot 1)] none [] (.out [(0,(.slot 0)),(1,(.slot 1)),(5,(.res 2))])) [0,1]
abbrev Q99r2:NC:=.reg (.q 1 (.icm .eql) [(.slot 5),(.const (.int .i64 (-1)))] none (.out [(0,(.slot 0)),(1,(.slot 1)),(5,(.slot 5)),(12,(.res 1))])) [0,1,5]
abbrev Q99r3:NC:=.reg (.out [(4,(.slot 0))]) [0]
abbrev Q99r4:NC:=.reg (.q 1 (.iar .add) [(.slot 5),(.const (.int .i64 1))] none (.out [(0,(.slot 0)),(1,(.slot 1)),(5,(.slot 5)),(6,(.res 1))])) [0,1,5]
abbrev Q99r5:NC:=.reg (.q 2 .len [(.slot 0)] none (.q 3 (.icm .lss) [(.slot 6),(.res 2)] none (.out [(0,(.slot 0)),(1,(.slot 1)),(5,(.slot 5)),(6,(.slot 6)),(19,(.res 3))]))) [0,1,5,6]
abbrev Q99r6:NC:=.reg (.q 2 (.ixs 1) [(.slot 0),(.slot 6)] none (.q 3 .ld [(.res 2)] none (.out [(0,(.slot 0)),(1,(.slot 1)),(5,(.slot 5)),(6,(.slot 6)),(7,(.res 3))]))) [0,1,5,6]
abbrev Q99r7:NC:=.reg (.x 2 .callv [(.slot 1),(.slot 7)] none [] (.q 3 .not [(.res 2)] none (.out [(0,(.slot 0)),(1,(.slot 1)),(5,(.slot 5)),(6,(.slot 6)),(7,(.slot 7)),(29,(.res 3))]))) [0,1,5,6,7]
abbrev Q99r8:NC:=.reg (.q 3 (.ixs 1) [(.slot 0),(.slot 5)] none (.x 4 (.st 1) [(.res 3),(.slot 7)] none [] (.out [(0,(.slot 0)),(1,(.slot 1)),(5,(.slot 5)),(6,(.slot 6))]))) [0,1,5,6,7]
abbrev Q99r9:NC:=.reg (.q 1 (.iar .add) [(.slot 5),(.const (.int .i64 1))] none (.out [(0,(.slot 0)),(1,(.slot 1)),(5,(.res 1)),(6,(.slot 6))])) [0,1,5,6]
abbrev Q99r10:NC:=.reg (.q 1 (.iar .add) [(.slot 6),(.const (.int .i64 1))] none (.out [(0,(.slot 0)),(1,(.slot 1)),(5,(.slot 5)),(6,(.res 1))])) [0,1,5,6]
abbrev Q99l0:NC:=(.seq (.seq Q99r5 (.cond (.slot 19) .skip (.exit 0))) (.seq (.block 1 (.seq Q99r6 (.seq Q99r7 (.cond (.slot 29) (.seq Q99r8 Q99r9) .skip)))) Q99r10))
abbrev Q99r11:NC:=.reg (.q 2 (.slc 1 true false) [(.slot 0),(.slot 5)] none (.x 3 (.clr [(.pointer none)]) [(.res 2)] none [] (.out [(0,(.slot 0)),(5,(.slot 5))]))) [0,5]
abbrev Q99r12:NC:=.reg (.q 2 (.slc 1 false true) [(.slot 0),(.slot 5)] none (.out [(4,(.res 2))])) [0,5]
abbrev Q99c:NC:=(.seq Q99r0 (.seq Q99r1 (.seq (.seq Q99r2 (.cond (.slot 12) (.seq Q99r3 .ret) .skip)) (.seq (.seq Q99r4 (.block 0 (.loop [0,1,5,6] Q99l0))) (.seq Q99r11 (.seq Q99r12 .ret))))))
abbrev Q99F:FN:=⟨Q99c,[.slot 4]⟩
theorem Q99ok:compF Tryz.prog Tryz.f99 = some Q99F:=by kernel_rfl
theorem Q99go {args:List Value} {m:Mem} {R:Value → Mem → Prop} (hn:args.length ≤ Tryz.f99.ntmps) (h:wpN Tryz.prog Q99c (retP Q99F.rvs R) (zipP 0 args) m):MC Tryz.prog 99 args m R:=MC_start Tryz.func99 Q99ok mixed_ok hn h
/-! slices.pdqsortCmpFunc[concord/api.Inst] -/
/-! math/bits.Len -/
/-! slices.IndexFunc[[]*concord/core.lead,*concord/core.lead] -/
abbrev Q129r0:NC:=.reg (.out [(0,(.slot 0)),(1,(.slot 1))]) [0,1]
abbrev Q129r1:NC:=.reg (.q 1 .len [(.slot 0)] none (.out [(0,(.slot 0)),(1,(.slot 1)),(7,(.res 1)),(8,(.const (.int .i64 0)))])) [0,1]
abbrev Q129r2:NC:=.reg (.q 0 (.icm .lss) [(.slot 8),(.slot 7)] none (.out [(0,(.slot 0)),(1,(.slot 1)),(7,(.slot 7)),(8,(.slot 8)),(9,(.res 0))])) [0,1,7,8]
abbrev Q129r3:NC:=.reg (.out [(0,(.slot 0)),(1,(.slot 1)),(5,(.slot 8)),(7,(.slot 7)),(8,(.slot 8))]) [0,1,7,8]
abbrev Q129r4:NC:=.reg (.q 3 (.ixs 1) [(.slot 0),(.slot 5)] none (.q 4 .ld [(.res 3)] none (.x 5 .callv [(.slot 1),(.res 4)] none [] (.out [(0,(.slot 0)),(1,(.slot 1)),(5,(.slot 5)),(7,(.slot 7)),(8,(.slot 8)),(16,(.res 5))])))) [0,1,5,7,8]
abbrev Q129r5:NC:=.reg (.out [(4,(.slot 5))]) [5]
abbrev Q129r6:NC:=.reg (.q 0 (.iar .add) [(.slot 8),(.const (.int .i64 1))] none (.out [(0,(.slot 0)),(1,(.slot 1)),(7,(.slot 7)),(8,(.res 0))])) [0,1,7,8]
abbrev Q129l0:NC:=(.seq Q129r2 (.seq (.cond (.slot 9) .skip (.exit 0)) (.seq (.block 1 (.seq Q129r3 (.seq Q129r4 (.cond (.slot 16) (.seq Q129r5 .ret) .skip)))) Q129r6)))
abbrev Q129r7:NC:=.reg (.out [(4,(.const (.int .i64 (-1))))]) []
abbrev Q129c:NC:=(.seq Q129r0 (.seq (.seq Q129r1 (.block 0 (.loop [0,1,7,8] Q129l0))) (.seq Q129r7 .ret)))
abbrev Q129F:FN:=⟨Q129c,[.slot 4]⟩
theorem Q129ok:compF Tryz.prog Tryz.f129 = some Q129F:=by kernel_rfl
theorem Q129go {args:List Value} {m:Mem} {R:Value → Mem → Prop} (hn:args.length ≤ Tryz.f129.ntmps) (h:wpN Tryz.prog Q129c (retP Q129F.rvs R) (zipP 0 args) m):MC Tryz.prog 129 args m R:=MC_start Tryz.func129 Q129ok mixed_ok hn h
/-! slices.insertionSortCmpFunc[concord/api.Inst] -/
/-! math/bits.Len64 -/
end Go.Fw
