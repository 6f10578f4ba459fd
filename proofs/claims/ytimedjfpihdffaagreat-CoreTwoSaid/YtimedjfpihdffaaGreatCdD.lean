import Derived.Test.YtimedjfpihdffaaGreatCd
set_option linter.unusedVariables false
set_option linter.unusedSimpArgs false
set_option maxHeartbeats 16000000
namespace Go.Fw
open Go.Proofs
abbrev YL:NC:=.reg
 (.out [])
 []
abbrev YI:NC:=.reg
 (.x 0 (.call 9) [] none []
 (.out [(1,.qz 0)]))
 []
abbrev YH:NC:=.reg
 (.Q 1 (.eqs false) [.qq 1,.const (.slice none 0 0)]
 (.out [(1,.qq 1),(17,.qz 1)]))
 [1]
abbrev YG:NC:=.reg
 (.out [(0,.const (.bool false))])
 []
abbrev Jc:NC:=.reg
 (.Q 1 (.ixs 1) [.qq 1,.qj 0]
 (.Q 2 .ld [.qz 1]
 (.both
 (.x 3 (.call 11) [.qj 1,.qj 1,.const (.string ⟨#[97]⟩)] none [(2,.ld,[.qz 1],none)]
 (.both
 (.x 4 (.call 10) [.qz 2,.qz 3] none []
 (.Q 6 (.ext 0) [.qz 4]
 (.Q 7 (.ext 1) [.qz 4]
 (.x 8 (.alc [.int .i64 0,.int .i64 0] 25) [] none [(2,.ld,[.qz 1],none)]
 (.x 9 (.st 2) [.qz 8,.qz 6] none []
 (.out [(1,.qq 1),(2,.qz 8),(3,.qz 7)]))))))
 (.x 8 (.alc [.int .i64 0,.int .i64 0] 25) [] none [(2,.ld,[.qz 1],none)]
 (.x 4 (.call 10) [.qz 2,.qz 3] none []
 (.Q 6 (.ext 0) [.qz 4]
 (.Q 7 (.ext 1) [.qz 4]
 (.x 9 (.st 2) [.qz 8,.qz 6] none []
 (.out [(1,.qq 1),(2,.qz 8),(3,.qz 7)]))))))))
 (.x 8 (.alc [.int .i64 0,.int .i64 0] 25) [] none [(2,.ld,[.qz 1],none)]
 (.x 3 (.call 11) [.qj 1,.qj 1,.const (.string ⟨#[97]⟩)] none [(2,.ld,[.qz 1],none)]
 (.x 4 (.call 10) [.qz 2,.qz 3] none []
 (.Q 6 (.ext 0) [.qz 4]
 (.Q 7 (.ext 1) [.qz 4]
 (.x 9 (.st 2) [.qz 8,.qz 6] none []
 (.out [(1,.qq 1),(2,.qz 8),(3,.qz 7)]))))))))))
 [1]
abbrev Jb:NC:=.reg
 (.Q 1 (.ixs 1) [.qq 1,.qj 0]
 (.Q 2 .ld [.qz 1]
 (.Q 4 (.ixs 1) [.qq 1,.qj 1]
 (.Q 5 .ld [.qz 4]
 (.x 6 (.call 12) [.qz 2,.qz 5,.qj 1] none []
 (.out (qx [1,2,3] [])))))))
 [1,2,3]
abbrev Ja:NC:=.reg
 (.Q 1 (.ixs 1) [.qq 1,.qj 1]
 (.Q 2 .ld [.qz 1]
 (.Q 4 (.ixs 1) [.qq 1,.qj 0]
 (.Q 5 .ld [.qz 4]
 (.x 6 (.call 12) [.qz 2,.qz 5,.qj 0] none []
 (.out (qx [1,2,3] [])))))))
 [1,2,3]
abbrev JY:NC:=.reg
 (.Q 1 (.ixs 1) [.qq 1,.qj 0]
 (.Q 2 .ld [.qz 1]
 (.Q 3 (.lda 2) [.qq 2]
 (.both
 (.x 4 (.call 13) [.qz 2,.qz 3] none []
 (.Q 6 (.ext 0) [.qz 4]
 (.Q 7 (.ext 1) [.qz 4]
 (.x 8 (.alc [.int .i64 0,.int .i64 0,.int .i64 0,.int .i64 0,.int .i64 0,.int .i64 0,.int .i64 0,.int .i64 0,(.string ⟨#[]⟩),(.string ⟨#[]⟩),(.string ⟨#[]⟩),(.string ⟨#[]⟩),.int .i64 0,.int .i64 0,.int .i64 0,.int .i64 0,.int .i64 0,.int .i64 0,.int .i64 0,.int .i64 0,.bool false] 41) [] none [(2,.ld,[.qz 1],none),(3,.lda 2,[.qq 2],none)]
 (.x 9 (.st 21) [.qz 8,.qz 6] none []
 (.out (qx [1,2,3] [(4,.qz 8)])))))))
 (.x 8 (.alc [.int .i64 0,.int .i64 0,.int .i64 0,.int .i64 0,.int .i64 0,.int .i64 0,.int .i64 0,.int .i64 0,(.string ⟨#[]⟩),(.string ⟨#[]⟩),(.string ⟨#[]⟩),(.string ⟨#[]⟩),.int .i64 0,.int .i64 0,.int .i64 0,.int .i64 0,.int .i64 0,.int .i64 0,.int .i64 0,.int .i64 0,.bool false] 41) [] none [(2,.ld,[.qz 1],none),(3,.lda 2,[.qq 2],none)]
 (.x 4 (.call 13) [.qz 2,.qz 3] none []
 (.Q 6 (.ext 0) [.qz 4]
 (.Q 7 (.ext 1) [.qz 4]
 (.x 9 (.st 21) [.qz 8,.qz 6] none []
 (.out (qx [1,2,3] [(4,.qz 8)])))))))))))
 [1,2,3]
abbrev JW:NC:=.reg
 (.Q 1 (.ixs 1) [.qq 1,.qj 1]
 (.Q 2 .ld [.qz 1]
 (.Q 3 (.lda 2) [.qq 2]
 (.both
 (.x 4 (.call 13) [.qz 2,.qz 3] none []
 (.Q 6 (.ext 0) [.qz 4]
 (.Q 7 (.ext 1) [.qz 4]
 (.x 8 (.alc [.int .i64 0,.int .i64 0,.int .i64 0,.int .i64 0,.int .i64 0,.int .i64 0,.int .i64 0,.int .i64 0,(.string ⟨#[]⟩),(.string ⟨#[]⟩),(.string ⟨#[]⟩),(.string ⟨#[]⟩),.int .i64 0,.int .i64 0,.int .i64 0,.int .i64 0,.int .i64 0,.int .i64 0,.int .i64 0,.int .i64 0,.bool false] 41) [] none [(2,.ld,[.qz 1],none),(3,.lda 2,[.qq 2],none)]
 (.x 9 (.st 21) [.qz 8,.qz 6] none []
 (.out (qx [1,2,3,4] [(6,.qz 8)])))))))
 (.x 8 (.alc [.int .i64 0,.int .i64 0,.int .i64 0,.int .i64 0,.int .i64 0,.int .i64 0,.int .i64 0,.int .i64 0,(.string ⟨#[]⟩),(.string ⟨#[]⟩),(.string ⟨#[]⟩),(.string ⟨#[]⟩),.int .i64 0,.int .i64 0,.int .i64 0,.int .i64 0,.int .i64 0,.int .i64 0,.int .i64 0,.int .i64 0,.bool false] 41) [] none [(2,.ld,[.qz 1],none),(3,.lda 2,[.qq 2],none)]
 (.x 4 (.call 13) [.qz 2,.qz 3] none []
 (.Q 6 (.ext 0) [.qz 4]
 (.Q 7 (.ext 1) [.qz 4]
 (.x 9 (.st 21) [.qz 8,.qz 6] none []
 (.out (qx [1,2,3,4] [(6,.qz 8)])))))))))))
 [1,2,3,4]
abbrev JV:NC:=.reg
 (.Q 1 (.ixs 1) [.qq 1,.qj 0]
 (.Q 2 .ld [.qz 1]
 (.Q 4 (.ixs 1) [.qq 1,.qj 0]
 (.Q 5 .ld [.qz 4]
 (.x 6 (.call 12) [.qz 2,.qz 5,.qj 0] none []
 (.out (qx [1,2,3,4,6] [(8,.qz 6)])))))))
 [1,2,3,4,6]
abbrev ZX:NC:=.reg
 (.Q 1 .not [.qq 3]
 (.q 3 (.lda 2) [.qq 2] (some (.qz 1,false))
 (.q 4 (.bld [.int .i64 0,.int .i64 0] [(1,1)]) [.qj 1] (some (.qz 1,false))
 (.q 5 (.eqc true [.i .i64,.i .i64]) [.qz 3,.qz 4] (some (.qz 1,false))
 (.Q 6 .pick [.qz 1,.const (.bool true),.qz 5]
 (.q 8 (.fld 0) [.qq 4] (some (.qz 6,false))
 (.q 9 .ld [.qz 8] (some (.qz 6,false))
 (.q 10 (.icm .neq) [.qz 9,.qj 3] (some (.qz 6,false))
 (.Q 11 .pick [.qz 6,.const (.bool true),.qz 10]
 (.q 13 (.fld 0) [.qq 6] (some (.qz 11,false))
 (.q 14 .ld [.qz 13] (some (.qz 11,false))
 (.q 15 (.icm .neq) [.qz 14,.qj 1] (some (.qz 11,false))
 (.Q 16 .pick [.qz 11,.const (.bool true),.qz 15]
 (.q 18 (.fld 20) [.qq 6] (some (.qz 16,false))
 (.q 19 .ld [.qz 18] (some (.qz 16,false))
 (.q 20 .not [.qz 19] (some (.qz 16,false))
 (.Q 21 .pick [.qz 16,.const (.bool true),.qz 20]
 (.q 23 .mv [.qq 8] (some (.qz 21,false))
 (.q 24 .len [.qz 23] (some (.qz 21,false))
 (.q 25 (.icm .neq) [.qz 24,.qj 2] (some (.qz 21,false))
 (.Q 26 .pick [.qz 21,.const (.bool true),.qz 25]
 (.q 28 .mv [.qq 8] (some (.qz 26,false))
 (.q 29 (.ixs 51) [.qz 28,.qj 0] (some (.qz 26,false))
 (.q 30 (.fld 0) [.qz 29] (some (.qz 26,false))
 (.q 31 .ld [.qz 30] (some (.qz 26,false))
 (.q 32 (.icm .neq) [.qz 31,.qj 5] (some (.qz 26,false))
 (.Q 33 .pick [.qz 26,.const (.bool true),.qz 32]
 (.q 35 .mv [.qq 8] (some (.qz 33,false))
 (.q 36 (.ixs 51) [.qz 35,.qj 1] (some (.qz 33,false))
 (.q 37 (.fld 2) [.qz 36] (some (.qz 33,false))
 (.q 38 .ld [.qz 37] (some (.qz 33,false))
 (.q 39 (.icm .neq) [.qz 38,.qj 2] (some (.qz 33,false))
 (.Q 40 .pick [.qz 33,.const (.bool true),.qz 39]
 (.out (qx [1,2,4] [(103,.qz 40)])))))))))))))))))))))))))))))))))))
 [1,2,3,4,6,8]
abbrev ZJ:NC:=.reg
 (.out [(0,.const (.bool false))])
 []
abbrev ZZ:NC:=.reg
 (.Q 1 (.ixs 1) [.qq 1,.qj 1]
 (.Q 2 .ld [.qz 1]
 (.Q 3 (.lda 2) [.qq 2]
 (.x 4 (.call 14) [.qz 2,.qz 3] none []
 (.out (qx [1,2,4] []))))))
 [1,2,4]
abbrev ZQ:NC:=.reg
 (.Q 1 (.ixs 1) [.qq 1,.qj 1]
 (.Q 2 .ld [.qz 1]
 (.Q 4 (.ixs 1) [.qq 1,.qj 2]
 (.Q 5 .ld [.qz 4]
 (.x 6 (.call 12) [.qz 2,.qz 5,.qj 2] none []
 (.out (qx [1,2,4] [])))))))
 [1,2,4]
abbrev Zy:NC:=.reg
 (.Q 1 (.ixs 1) [.qq 1,.qj 2]
 (.Q 2 .ld [.qz 1]
 (.Q 4 (.ixs 1) [.qq 1,.qj 1]
 (.Q 5 .ld [.qz 4]
 (.x 6 (.call 12) [.qz 2,.qz 5,.qj 1] none []
 (.out (qx [1,2,4] [])))))))
 [1,2,4]
abbrev Zw:NC:=.reg
 (.Q 1 (.ixs 1) [.qq 1,.qj 1]
 (.Q 2 .ld [.qz 1]
 (.Q 3 (.lda 2) [.qq 2]
 (.both
 (.x 4 (.call 13) [.qz 2,.qz 3] none []
 (.Q 6 (.ext 0) [.qz 4]
 (.Q 7 (.ext 1) [.qz 4]
 (.x 8 (.alc [.int .i64 0,.int .i64 0,.int .i64 0,.int .i64 0,.int .i64 0,.int .i64 0,.int .i64 0,.int .i64 0,(.string ⟨#[]⟩),(.string ⟨#[]⟩),(.string ⟨#[]⟩),(.string ⟨#[]⟩),.int .i64 0,.int .i64 0,.int .i64 0,.int .i64 0,.int .i64 0,.int .i64 0,.int .i64 0,.int .i64 0,.bool false] 41) [] none [(2,.ld,[.qz 1],none),(3,.lda 2,[.qq 2],none)]
 (.x 9 (.st 21) [.qz 8,.qz 6] none []
 (.out (qx [1,4] [(9,.qz 8)])))))))
 (.x 8 (.alc [.int .i64 0,.int .i64 0,.int .i64 0,.int .i64 0,.int .i64 0,.int .i64 0,.int .i64 0,.int .i64 0,(.string ⟨#[]⟩),(.string ⟨#[]⟩),(.string ⟨#[]⟩),(.string ⟨#[]⟩),.int .i64 0,.int .i64 0,.int .i64 0,.int .i64 0,.int .i64 0,.int .i64 0,.int .i64 0,.int .i64 0,.bool false] 41) [] none [(2,.ld,[.qz 1],none),(3,.lda 2,[.qq 2],none)]
 (.x 4 (.call 13) [.qz 2,.qz 3] none []
 (.Q 6 (.ext 0) [.qz 4]
 (.Q 7 (.ext 1) [.qz 4]
 (.x 9 (.st 21) [.qz 8,.qz 6] none []
 (.out (qx [1,4] [(9,.qz 8)])))))))))))
 [1,2,4]
abbrev Zv:NC:=.reg
 (.Q 0 (.bld [.int .i64 0,.int .i64 0] [(1,1)]) [.qj 5]
 (.x 1 (.alc [.int .i64 0,.int .i64 0] 25) [] none []
 (.x 2 (.st 2) [.qz 1,.qz 0] none []
 (.out (qx [1,4,9] [(11,.qz 1)])))))
 [1,4,9]
abbrev Zk:NC:=.reg
 (.Q 1 (.ixs 1) [.qq 1,.qj 1]
 (.Q 2 .ld [.qz 1]
 (.x 3 (.call 15) [.qz 2] none []
 (.out (qx [1,4,9,11] [])))))
 [1,4,9,11]
abbrev Zx:NC:=.reg
 (.Q 1 (.ixs 1) [.qq 1,.qj 1]
 (.Q 2 .ld [.qz 1]
 (.Q 3 (.lda 2) [.qq 11]
 (.x 4 (.call 14) [.qz 2,.qz 3] none []
 (.out (qx [1,4,9,11] []))))))
 [1,4,9,11]
abbrev Zj:NC:=.reg
 (.out (qx [1,4,9,11] [(12,.qj 0)]))
 [1,4,9,11]
abbrev mH:NC:=.reg
 (.Q 1 (.icm .lss) [.qq 12,.qj 2]
 (.out (qx [1,4,9,11,12] [(142,.qz 1)])))
 [1,4,9,11,12]
abbrev mG:NC:=.reg
 (.Q 1 (.ixs 1) [.qq 1,.qj 1]
 (.Q 2 .ld [.qz 1]
 (.Q 4 (.ixs 1) [.qq 1,.qj 2]
 (.Q 5 .ld [.qz 4]
 (.x 6 (.call 12) [.qz 2,.qz 5,.qj 2] none []
 (.out (qx [1,4,9,11,12] [])))))))
 [1,4,9,11,12]
abbrev mF:NC:=.reg
 (.Q 1 (.ixs 1) [.qq 1,.qj 2]
 (.Q 2 .ld [.qz 1]
 (.Q 4 (.ixs 1) [.qq 1,.qj 1]
 (.Q 5 .ld [.qz 4]
 (.x 6 (.call 12) [.qz 2,.qz 5,.qj 1] none []
 (.out (qx [1,4,9,11,12] [])))))))
 [1,4,9,11,12]
abbrev mE:NC:=.reg
 (.Q 1 (.iar .add) [.qq 12,.qj 1]
 (.out (qx [1,4,9,11] [(12,.qz 1)])))
 [1,4,9,11,12]
abbrev Jd:NC :=
 (.seq (.seq mH
 (.cond (.qq 142)
 .skip
 (.exit 0)))
 (.seq (.block 1 (.seq mG
 mF))
 mE))
abbrev Zz:NC:=.reg
 (.Q 1 (.ixs 1) [.qq 1,.qj 1]
 (.Q 2 .ld [.qz 1]
 (.Q 3 (.lda 2) [.qq 11]
 (.both
 (.x 4 (.call 13) [.qz 2,.qz 3] none []
 (.Q 6 (.ext 0) [.qz 4]
 (.Q 7 (.ext 1) [.qz 4]
 (.x 8 (.alc [.int .i64 0,.int .i64 0,.int .i64 0,.int .i64 0,.int .i64 0,.int .i64 0,.int .i64 0,.int .i64 0,(.string ⟨#[]⟩),(.string ⟨#[]⟩),(.string ⟨#[]⟩),(.string ⟨#[]⟩),.int .i64 0,.int .i64 0,.int .i64 0,.int .i64 0,.int .i64 0,.int .i64 0,.int .i64 0,.int .i64 0,.bool false] 41) [] none [(2,.ld,[.qz 1],none),(3,.lda 2,[.qq 11],none)]
 (.x 9 (.st 21) [.qz 8,.qz 6] none []
 (.out (qx [4,9] [(13,.qz 8)])))))))
 (.x 8 (.alc [.int .i64 0,.int .i64 0,.int .i64 0,.int .i64 0,.int .i64 0,.int .i64 0,.int .i64 0,.int .i64 0,(.string ⟨#[]⟩),(.string ⟨#[]⟩),(.string ⟨#[]⟩),(.string ⟨#[]⟩),.int .i64 0,.int .i64 0,.int .i64 0,.int .i64 0,.int .i64 0,.int .i64 0,.int .i64 0,.int .i64 0,.bool false] 41) [] none [(2,.ld,[.qz 1],none),(3,.lda 2,[.qq 11],none)]
 (.x 4 (.call 13) [.qz 2,.qz 3] none []
 (.Q 6 (.ext 0) [.qz 4]
 (.Q 7 (.ext 1) [.qz 4]
 (.x 9 (.st 21) [.qz 8,.qz 6] none []
 (.out (qx [4,9] [(13,.qz 8)])))))))))))
 [1,4,9,11]
abbrev xD:NC:=.reg
 (.Q 0 (.fld 0) [.qq 9]
 (.Q 1 .ld [.qz 0]
 (.Q 2 (.icm .eql) [.qz 1,.qj 2]
 (.q 4 (.fld 5) [.qq 9] (some (.qz 2,true))
 (.q 5 (.lda 7) [.qz 4] (some (.qz 2,true))
 (.q 6 (.fld 5) [.qq 4] (some (.qz 2,true))
 (.q 7 (.lda 7) [.qz 6] (some (.qz 2,true))
 (.q 8 (.eqc false [.i .i64,.i .i64,.i .i64,.s,.s,.s,.s]) [.qz 5,.qz 7] (some (.qz 2,true))
 (.Q 9 .pick [.qz 2,.qz 8,.const (.bool false)]
 (.q 11 (.fld 12) [.qq 9] (some (.qz 9,true))
 (.q 12 (.lda 8) [.qz 11] (some (.qz 9,true))
 (.q 13 (.fld 12) [.qq 4] (some (.qz 9,true))
 (.q 14 (.lda 8) [.qz 13] (some (.qz 9,true))
 (.q 15 (.eqc false [.i .i64,.i .i64,.i .i64,.i .i64,.i .i64,.i .i64,.i .i64,.i .i64]) [.qz 12,.qz 14] (some (.qz 9,true))
 (.Q 16 .pick [.qz 9,.qz 15,.const (.bool false)]
 (.q 18 (.fld 0) [.qq 13] (some (.qz 16,true))
 (.q 19 .ld [.qz 18] (some (.qz 16,true))
 (.q 20 (.icm .eql) [.qz 19,.qj 3] (some (.qz 16,true))
 (.Q 21 .pick [.qz 16,.qz 20,.const (.bool false)]
 (.q 23 (.fld 5) [.qq 13] (some (.qz 21,true))
 (.q 24 (.lda 7) [.qz 23] (some (.qz 21,true))
 (.q 25 (.bld [.int .i64 0,.int .i64 0,.int .i64 0,(.string ⟨#[]⟩),(.string ⟨#[]⟩),(.string ⟨#[]⟩),(.string ⟨#[]⟩)] []) [] (some (.qz 21,true))
 (.q 26 (.eqc false [.i .i64,.i .i64,.i .i64,.s,.s,.s,.s]) [.qz 24,.qz 25] (some (.qz 21,true))
 (.Q 27 .pick [.qz 21,.qz 26,.const (.bool false)]
 (.q 29 (.fld 12) [.qq 13] (some (.qz 27,true))
 (.q 30 (.lda 8) [.qz 29] (some (.qz 27,true))
 (.q 31 (.bld zL2 [(0,1)]) [.qj 4] (some (.qz 27,true))
 (.q 32 (.bld zL0 [(1,7)]) [.qz 31] (some (.qz 27,true))
 (.q 33 (.eqc false [.i .i64,.i .i64,.i .i64,.i .i64,.i .i64,.i .i64,.i .i64,.i .i64]) [.qz 30,.qz 32] (some (.qz 27,true))
 (.Q 34 .pick [.qz 27,.qz 33,.const (.bool false)]
 (.out [(0,.qz 34)])))))))))))))))))))))))))))))))
 [4,9,13]
abbrev Xt:NC :=
 (.seq YL
 (.seq YI
 (.seq (.seq YH
 (.cond (.qq 17)
 (.seq YG
 .ret)
 .skip))
 (.seq Jc
 (.seq Jb
 (.seq Ja
 (.seq JY
 (.seq JW
 (.seq JV
 (.seq (.seq ZX
 (.cond (.qq 103)
 (.seq ZJ
 .ret)
 .skip))
 (.seq ZZ
 (.seq ZQ
 (.seq Zy
 (.seq Zw
 (.seq Zv
 (.seq Zk
 (.seq Zx
 (.seq (.seq Zj
 (.block 0 (.loop [1,4,9,11,12] Jd)))
 (.seq Zz
 (.seq xD
 .ret))))))))))))))))))))
abbrev bK:FN:=⟨Xt,[.qq 0]⟩
theorem oo:GoT 3 Tryz.f3 Xt bK:=goT (F:=bK) Tryz.func3 (by kernel_rfl)
abbrev bX:NC:=.reg
 (.out (qx [0,1,2] []))
 [0,1,2]
abbrev bJ:NC:=.reg
 (.x 0 (.bsl 3 3 [.int .i64 0,.int .i64 0,.int .i64 0] [(0,1),(1,1),(2,1)]) [.qj 3,.qj 5,.qj 7] none []
 (.x 2 (.call 17) [.qq 0,.qj 0,.qj 2] none []
 (.Q 3 (.ixs 1) [.qz 0,.qz 2]
 (.Q 4 .ld [.qz 3]
 (.x 5 (.call 16) [.qz 4] none []
 (.out (qx [1,2] [(7,.qz 5)])))))))
 [0,1,2]
abbrev bZ:NC:=.reg
 (.Q 1 (.eqp false) [.qq 7,.const (.pointer none)]
 (.q 3 .mv [.qq 1] (some (.qz 1,false))
 (.q 4 (.str .eql) [.qz 3,.const (.string ⟨#[]⟩)] (some (.qz 1,false))
 (.Q 5 .pick [.qz 1,.const (.bool true),.qz 4]
 (.q 7 .mv [.qq 1] (some (.qz 5,false))
 (.q 8 .lenz [.qz 7] (some (.qz 5,false))
 (.q 9 (.icm .gtr) [.qz 8,.qj 16] (some (.qz 5,false))
 (.Q 10 .pick [.qz 5,.const (.bool true),.qz 9]
 (.out (qx [1,2,7] [(38,.qz 10)]))))))))))
 [1,2,7]
abbrev bQ:NC:=.reg
 (.Q 1 (.eqp true) [.qq 7,.const (.pointer none)]
 (.x 3 (.call 3) [] (some (.qz 1,true)) []
 (.Q 4 .pick [.qz 1,.qz 3,.const (.bool false)]
 (.out [(6,.qz 4)]))))
 [7]
abbrev yq:NC:=.reg
 (.Q 1 .nilck [.qq 7]
 (.Q 2 (.fld 1) [.qz 1]
 (.Q 3 .ld [.qz 2]
 (.Q 4 (.ixs 1) [.qz 3,.qj 0]
 (.Q 5 .ld [.qz 4]
 (.both
 (.x 7 (.call 11) [.qj 1,.qj 1,.qq 1] none [(3,.ld,[.qz 2],none),(5,.ld,[.qz 4],none)]
 (.both
 (.x 8 (.call 10) [.qz 5,.qz 7] none []
 (.Q 10 (.ext 0) [.qz 8]
 (.Q 11 (.ext 1) [.qz 8]
 (.x 12 (.alc [.int .i64 0,.int .i64 0] 25) [] none [(3,.ld,[.qz 2],none),(5,.ld,[.qz 4],none)]
 (.x 13 (.st 2) [.qz 12,.qz 10] none []
 (.out (qx [1,2,7] [(8,.qz 12),(9,.qz 11)])))))))
 (.x 12 (.alc [.int .i64 0,.int .i64 0] 25) [] none [(3,.ld,[.qz 2],none),(5,.ld,[.qz 4],none)]
 (.x 8 (.call 10) [.qz 5,.qz 7] none []
 (.Q 10 (.ext 0) [.qz 8]
 (.Q 11 (.ext 1) [.qz 8]
 (.x 13 (.st 2) [.qz 12,.qz 10] none []
 (.out (qx [1,2,7] [(8,.qz 12),(9,.qz 11)])))))))))
 (.x 12 (.alc [.int .i64 0,.int .i64 0] 25) [] none [(3,.ld,[.qz 2],none),(5,.ld,[.qz 4],none)]
 (.x 7 (.call 11) [.qj 1,.qj 1,.qq 1] none [(3,.ld,[.qz 2],none),(5,.ld,[.qz 4],none)]
 (.x 8 (.call 10) [.qz 5,.qz 7] none []
 (.Q 10 (.ext 0) [.qz 8]
 (.Q 11 (.ext 1) [.qz 8]
 (.x 13 (.st 2) [.qz 12,.qz 10] none []
 (.out (qx [1,2,7] [(8,.qz 12),(9,.qz 11)]))))))))))))))
 [1,2,7]
abbrev xf:NC:=.reg
 (.Q 1 .nilck [.qq 7]
 (.Q 2 (.fld 1) [.qz 1]
 (.Q 3 .ld [.qz 2]
 (.Q 4 (.ixs 1) [.qz 3,.qj 1]
 (.Q 5 .ld [.qz 4]
 (.both
 (.x 7 (.call 11) [.qj 2,.qj 1,.qq 1] none [(3,.ld,[.qz 2],none),(5,.ld,[.qz 4],none)]
 (.both
 (.x 8 (.call 10) [.qz 5,.qz 7] none []
 (.Q 10 (.ext 0) [.qz 8]
 (.Q 11 (.ext 1) [.qz 8]
 (.x 12 (.alc [.int .i64 0,.int .i64 0] 25) [] none [(3,.ld,[.qz 2],none),(5,.ld,[.qz 4],none)]
 (.x 13 (.st 2) [.qz 12,.qz 10] none []
 (.out (qx [2,7,8,9] [(10,.qz 12),(11,.qz 11)])))))))
 (.x 12 (.alc [.int .i64 0,.int .i64 0] 25) [] none [(3,.ld,[.qz 2],none),(5,.ld,[.qz 4],none)]
 (.x 8 (.call 10) [.qz 5,.qz 7] none []
 (.Q 10 (.ext 0) [.qz 8]
 (.Q 11 (.ext 1) [.qz 8]
 (.x 13 (.st 2) [.qz 12,.qz 10] none []
 (.out (qx [2,7,8,9] [(10,.qz 12),(11,.qz 11)])))))))))
 (.x 12 (.alc [.int .i64 0,.int .i64 0] 25) [] none [(3,.ld,[.qz 2],none),(5,.ld,[.qz 4],none)]
 (.x 7 (.call 11) [.qj 2,.qj 1,.qq 1] none [(3,.ld,[.qz 2],none),(5,.ld,[.qz 4],none)]
 (.x 8 (.call 10) [.qz 5,.qz 7] none []
 (.Q 10 (.ext 0) [.qz 8]
 (.Q 11 (.ext 1) [.qz 8]
 (.x 13 (.st 2) [.qz 12,.qz 10] none []
 (.out (qx [2,7,8,9] [(10,.qz 12),(11,.qz 11)]))))))))))))))
 [1,2,7,8,9]
abbrev Xr:NC:=.reg
 (.x 1 (.call 19) [.qq 7,.qj 0,.qj 1048576] none []
 (.out (qx [2,7,8,9,10,11] [])))
 [2,7,8,9,10,11]
abbrev Xp:NC:=.reg
 (.x 1 (.call 19) [.qq 7,.qj 1,.qj 1048576] none []
 (.out (qx [2,7,8,9,10,11] [])))
 [2,7,8,9,10,11]
abbrev Xo:NC:=.reg
 (.out (qx [2,7,8,9,10,11] [(12,.qj 0)]))
 [2,7,8,9,10,11]
abbrev bj:NC:=.reg
 (.Q 1 .nilck [.qq 7]
 (.Q 2 (.fld 3) [.qz 1]
 (.Q 3 .ld [.qz 2]
 (.Q 4 .len [.qz 3]
 (.Q 5 (.icm .gtr) [.qz 4,.qj 0]
 (.q 7 .mv [.qq 12] (some (.qz 5,true))
 (.q 8 (.icm .lss) [.qz 7,.qj 3000] (some (.qz 5,true))
 (.Q 9 .pick [.qz 5,.qz 8,.const (.bool false)]
 (.out (qx [2,7,8,9,10,11,12] [(81,.qz 9)]))))))))))
 [2,7,8,9,10,11,12]
abbrev JK:NC:=.reg
 (.out (qx [2,7,8,9,10,11,12] [(13,.qj 0)]))
 [2,7,8,9,10,11,12]
abbrev JX:NC:=.reg
 (.Q 2 .len [.qq 2]
 (.Q 3 (.icm .lss) [.qq 12,.qz 2]
 (.out (qx [2,7,8,9,10,11,12,13] [(87,.qz 3)]))))
 [2,7,8,9,10,11,12,13]
abbrev JJ:NC:=.reg
 (.Q 2 (.ixs 1) [.qq 2,.qq 12]
 (.Q 3 .ld [.qz 2]
 (.Q 5 .nilck [.qq 7]
 (.Q 6 (.fld 3) [.qz 5]
 (.Q 7 .ld [.qz 6]
 (.Q 8 .len [.qz 7]
 (.Q 9 (.iar .sub) [.qz 8,.qj 1]
 (.x 10 (.call 17) [.qz 3,.qj 0,.qz 9] none []
 (.out (qx [2,7,8,9,10,11,12] [(13,.qz 10)]))))))))))
 [2,7,8,9,10,11,12]
abbrev jS:NC:=.reg
 (.Q 2 (.bld [.int .i64 0,.int .i64 0,.int .i64 0,.int .i64 0,.int .i64 0,.int .i64 0,(.string ⟨#[]⟩),(.string ⟨#[]⟩),(.string ⟨#[]⟩),(.string ⟨#[]⟩),.int .i64 0,.int .i64 0] [(0,1),(2,1)]) [.qj 2,.qq 13]
 (.x 3 (.call 22) [.qq 7,.qz 2] none []
 (.out (qx [2,7,8,9,10,11,12] []))))
 [2,7,8,9,10,11,12,13]
abbrev YF:NC:=.reg
 (.Q 1 (.iar .add) [.qq 12,.qj 1]
 (.out (qx [2,7,8,9,10,11] [(12,.qz 1)])))
 [2,7,8,9,10,11,12]
abbrev yx:NC :=
 (.seq (.seq bj
 (.cond (.qq 81)
 .skip
 (.exit 0)))
 (.seq (.block 1 (.seq JK
 (.seq (.seq JX
 (.cond (.qq 87)
 JJ
 .skip))
 jS)))
 YF))
abbrev JZ:NC:=.reg
 (.out (qx [7,8,9,10,11] [(14,.qj 0)]))
 [7,8,9,10,11]
abbrev YE:NC:=.reg
 (.Q 1 (.icm .lss) [.qq 14,.qj 60]
 (.out (qx [7,8,9,10,11,14] [(104,.qz 1)])))
 [7,8,9,10,11,14]
abbrev YD:NC:=.reg
 (.out (qx [7,8,9,10,11,14] [(15,.qj 0)]))
 [7,8,9,10,11,14]
abbrev YC:NC:=.reg
 (.Q 2 .nilck [.qq 7]
 (.Q 3 (.fld 0) [.qz 2]
 (.Q 4 .ld [.qz 3]
 (.Q 5 (.icm .lss) [.qq 15,.qz 4]
 (.out (qx [7,8,9,10,11,14,15] [(112,.qz 5)]))))))
 [7,8,9,10,11,14,15]
abbrev JQ:NC:=.reg
 (.Q 1 .nilck [.qq 7]
 (.Q 2 (.fld 1) [.qz 1]
 (.Q 3 .ld [.qz 2]
 (.Q 5 (.ixs 1) [.qz 3,.qq 15]
 (.Q 6 .ld [.qz 5]
 (.x 7 (.call 26) [.qz 6] none []
 (.out (qx [7,8,9,10,11,14,15] []))))))))
 [7,8,9,10,11,14,15]
abbrev kS:NC:=.reg
 (.x 2 (.call 19) [.qq 7,.qq 15,.qj 1048576] none []
 (.out (qx [7,8,9,10,11,14,15] [])))
 [7,8,9,10,11,14,15]
abbrev YB:NC:=.reg
 (.Q 1 (.iar .add) [.qq 15,.qj 1]
 (.out (qx [7,8,9,10,11,14] [(15,.qz 1)])))
 [7,8,9,10,11,14,15]
abbrev sh:NC :=
 (.seq (.seq YC
 (.cond (.qq 112)
 .skip
 (.exit 4)))
 (.seq (.block 5 (.seq JQ
 kS))
 YB))
abbrev YA:NC:=.reg
 (.out (qx [7,8,9,10,11,14] [(16,.qj 0)]))
 [7,8,9,10,11,14]
abbrev Yu:NC:=.reg
 (.Q 1 .nilck [.qq 7]
 (.Q 2 (.fld 3) [.qz 1]
 (.Q 3 .ld [.qz 2]
 (.Q 4 .len [.qz 3]
 (.Q 5 (.icm .gtr) [.qz 4,.qj 0]
 (.q 7 .mv [.qq 16] (some (.qz 5,true))
 (.q 8 (.icm .lss) [.qz 7,.qj 3000] (some (.qz 5,true))
 (.Q 9 .pick [.qz 5,.qz 8,.const (.bool false)]
 (.out (qx [7,8,9,10,11,14,16] [(135,.qz 9)]))))))))))
 [7,8,9,10,11,14,16]
abbrev Jy:NC:=.reg
 (.Q 1 (.bld [.int .i64 0,.int .i64 0,.int .i64 0,.int .i64 0,.int .i64 0,.int .i64 0,(.string ⟨#[]⟩),(.string ⟨#[]⟩),(.string ⟨#[]⟩),(.string ⟨#[]⟩),.int .i64 0,.int .i64 0] [(0,1)]) [.qj 2]
 (.x 2 (.call 22) [.qq 7,.qz 1] none []
 (.out (qx [7,8,9,10,11,14,16] []))))
 [7,8,9,10,11,14,16]
abbrev Jw:NC:=.reg
 (.Q 1 (.iar .add) [.qq 16,.qj 1]
 (.out (qx [7,8,9,10,11,14] [(16,.qz 1)])))
 [7,8,9,10,11,14,16]
abbrev Xs:NC :=
 (.seq (.seq Yu
 (.cond (.qq 135)
 .skip
 (.exit 6)))
 (.seq (.block 7 Jy)
 Jw))
abbrev Yt:NC:=.reg
 (.Q 1 (.iar .add) [.qq 14,.qj 1]
 (.out (qx [7,8,9,10,11] [(14,.qz 1)])))
 [7,8,9,10,11,14]
abbrev yj:NC :=
 (.seq (.seq YE
 (.cond (.qq 104)
 .skip
 (.exit 2)))
 (.seq (.block 3 (.seq (.seq YD
 (.block 4 (.loop [7,8,9,10,11,14,15] sh)))
 (.seq YA
 (.block 6 (.loop [7,8,9,10,11,14,16] Xs)))))
 Yt))
abbrev Jv:NC:=.reg
 (.out (qx [7,8,9,10,11] [(17,.qj 0)]))
 [7,8,9,10,11]
abbrev Ys:NC:=.reg
 (.Q 2 .nilck [.qq 7]
 (.Q 3 (.fld 0) [.qz 2]
 (.Q 4 .ld [.qz 3]
 (.Q 5 (.icm .lss) [.qq 17,.qz 4]
 (.out (qx [7,8,9,10,11,17] [(146,.qz 5)]))))))
 [7,8,9,10,11,17]
abbrev kR:NC:=.reg
 (.Q 1 .nilck [.qq 7]
 (.Q 2 (.fld 1) [.qz 1]
 (.Q 3 .ld [.qz 2]
 (.Q 5 (.ixs 1) [.qz 3,.qq 17]
 (.Q 6 .ld [.qz 5]
 (.Q 7 (.lda 2) [.qq 8]
 (.both
 (.x 8 (.call 13) [.qz 6,.qz 7] none []
 (.Q 10 (.ext 0) [.qz 8]
 (.Q 11 (.ext 1) [.qz 8]
 (.x 12 (.alc [.int .i64 0,.int .i64 0,.int .i64 0,.int .i64 0,.int .i64 0,.int .i64 0,.int .i64 0,.int .i64 0,(.string ⟨#[]⟩),(.string ⟨#[]⟩),(.string ⟨#[]⟩),(.string ⟨#[]⟩),.int .i64 0,.int .i64 0,.int .i64 0,.int .i64 0,.int .i64 0,.int .i64 0,.int .i64 0,.int .i64 0,.bool false] 41) [] none [(3,.ld,[.qz 2],none),(6,.ld,[.qz 5],none),(7,.lda 2,[.qq 8],none)]
 (.x 13 (.st 21) [.qz 12,.qz 10] none []
 (.out (qx [7,8,9,10,11,17] [(18,.qz 12)])))))))
 (.x 12 (.alc [.int .i64 0,.int .i64 0,.int .i64 0,.int .i64 0,.int .i64 0,.int .i64 0,.int .i64 0,.int .i64 0,(.string ⟨#[]⟩),(.string ⟨#[]⟩),(.string ⟨#[]⟩),(.string ⟨#[]⟩),.int .i64 0,.int .i64 0,.int .i64 0,.int .i64 0,.int .i64 0,.int .i64 0,.int .i64 0,.int .i64 0,.bool false] 41) [] none [(3,.ld,[.qz 2],none),(6,.ld,[.qz 5],none),(7,.lda 2,[.qq 8],none)]
 (.x 8 (.call 13) [.qz 6,.qz 7] none []
 (.Q 10 (.ext 0) [.qz 8]
 (.Q 11 (.ext 1) [.qz 8]
 (.x 13 (.st 21) [.qz 12,.qz 10] none []
 (.out (qx [7,8,9,10,11,17] [(18,.qz 12)]))))))))))))))
 [7,8,9,10,11,17]
abbrev jR:NC:=.reg
 (.Q 1 .nilck [.qq 7]
 (.Q 2 (.fld 1) [.qz 1]
 (.Q 3 .ld [.qz 2]
 (.Q 5 (.ixs 1) [.qz 3,.qq 17]
 (.Q 6 .ld [.qz 5]
 (.Q 7 (.lda 2) [.qq 10]
 (.both
 (.x 8 (.call 13) [.qz 6,.qz 7] none []
 (.Q 10 (.ext 0) [.qz 8]
 (.Q 11 (.ext 1) [.qz 8]
 (.x 12 (.alc [.int .i64 0,.int .i64 0,.int .i64 0,.int .i64 0,.int .i64 0,.int .i64 0,.int .i64 0,.int .i64 0,(.string ⟨#[]⟩),(.string ⟨#[]⟩),(.string ⟨#[]⟩),(.string ⟨#[]⟩),.int .i64 0,.int .i64 0,.int .i64 0,.int .i64 0,.int .i64 0,.int .i64 0,.int .i64 0,.int .i64 0,.bool false] 41) [] none [(3,.ld,[.qz 2],none),(6,.ld,[.qz 5],none),(7,.lda 2,[.qq 10],none)]
 (.x 13 (.st 21) [.qz 12,.qz 10] none []
 (.out (qx [7,8,9,10,11,17,18] [(20,.qz 12)])))))))
 (.x 12 (.alc [.int .i64 0,.int .i64 0,.int .i64 0,.int .i64 0,.int .i64 0,.int .i64 0,.int .i64 0,.int .i64 0,(.string ⟨#[]⟩),(.string ⟨#[]⟩),(.string ⟨#[]⟩),(.string ⟨#[]⟩),.int .i64 0,.int .i64 0,.int .i64 0,.int .i64 0,.int .i64 0,.int .i64 0,.int .i64 0,.int .i64 0,.bool false] 41) [] none [(3,.ld,[.qz 2],none),(6,.ld,[.qz 5],none),(7,.lda 2,[.qq 10],none)]
 (.x 8 (.call 13) [.qz 6,.qz 7] none []
 (.Q 10 (.ext 0) [.qz 8]
 (.Q 11 (.ext 1) [.qz 8]
 (.x 13 (.st 21) [.qz 12,.qz 10] none []
 (.out (qx [7,8,9,10,11,17,18] [(20,.qz 12)]))))))))))))))
 [7,8,9,10,11,17,18]
abbrev Yr:NC:=.reg
 (.Q 0 (.fld 0) [.qq 18]
 (.Q 1 .ld [.qz 0]
 (.Q 2 (.icm .neq) [.qz 1,.qj 3]
 (.q 4 (.fld 0) [.qq 20] (some (.qz 2,false))
 (.q 5 .ld [.qz 4] (some (.qz 2,false))
 (.q 6 (.icm .neq) [.qz 5,.qj 3] (some (.qz 2,false))
 (.Q 7 .pick [.qz 2,.const (.bool true),.qz 6]
 (.q 9 (.fld 12) [.qq 18] (some (.qz 7,false))
 (.q 10 (.fld 1) [.qz 9] (some (.qz 7,false))
 (.q 11 (.lda 7) [.qz 10] (some (.qz 7,false))
 (.q 12 (.lda 2) [.qq 10] (some (.qz 7,false))
 (.x 13 (.call 27) [.qz 11,.qz 12] (some (.qz 7,false)) []
 (.q 14 .not [.qz 13] (some (.qz 7,false))
 (.q 15 .mv [.qz 14] (some (.qz 7,false))
 (.q 16 (.fld 12) [.qq 20] (some (.qz 15,true))
 (.q 17 (.fld 1) [.qz 16] (some (.qz 15,true))
 (.q 18 (.lda 7) [.qz 17] (some (.qz 15,true))
 (.q 19 (.lda 2) [.qq 8] (some (.qz 15,true))
 (.x 20 (.call 27) [.qz 18,.qz 19] (some (.qz 15,true)) []
 (.q 21 .not [.qz 20] (some (.qz 15,true))
 (.q 22 .pick [.qz 15,.qz 21,.const (.bool false)] (some (.qz 7,false))
 (.Q 23 .pick [.qz 7,.const (.bool true),.qz 22]
 (.out (qx [7,8,9,10,11,17] [(196,.qz 23)]))))))))))))))))))))))))
 [7,8,9,10,11,17,18,20]
abbrev Yp:NC:=.reg
 (.out [(6,.const (.bool false))])
 []
abbrev Yo:NC:=.reg
 (.Q 1 (.iar .add) [.qq 17,.qj 1]
 (.out (qx [7,8,9,10,11] [(17,.qz 1)])))
 [7,8,9,10,11,17]
abbrev yz:NC :=
 (.seq (.seq Ys
 (.cond (.qq 146)
 .skip
 (.exit 8)))
 (.seq (.block 9 (.seq kR
 (.seq jR
 (.seq Yr
 (.cond (.qq 196)
 (.seq Yp
 .ret)
 .skip)))))
 Yo))
abbrev Yn:NC:=.reg
 (.q 2 .mv [.qq 11] (some (.qq 9,true))
 (.Q 3 .pick [.qq 9,.qz 2,.const (.bool false)]
 (.q 5 .mv [.qq 7] (some (.qz 3,true))
 (.x 6 (.call 23) [.qz 5] (some (.qz 3,true)) []
 (.Q 7 .pick [.qz 3,.qz 6,.const (.bool false)]
 (.x 9 (.call 3) [] (some (.qz 7,true)) []
 (.Q 10 .pick [.qz 7,.qz 9,.const (.bool false)]
 (.out [(6,.qz 10)]))))))))
 [7,9,11]
abbrev Va:NC :=
 (.seq bX
 (.seq bJ
 (.seq (.seq bZ
 (.cond (.qq 38)
 (.seq bQ
 .ret)
 .skip))
 (.seq yq
 (.seq xf
 (.seq Xr
 (.seq Xp
 (.seq (.seq Xo
 (.block 0 (.loop [2,7,8,9,10,11,12] yx)))
 (.seq (.seq JZ
 (.block 2 (.loop [7,8,9,10,11,14] yj)))
 (.seq (.seq Jv
 (.block 8 (.loop [7,8,9,10,11,17] yz)))
 (.seq Yn
 .ret)))))))))))
abbrev dy:FN:=⟨Va,[.qq 6]⟩
theorem si:GoT 7 Tryz.f7 Va dy:=goT (F:=dy) Tryz.func7 (by kernel_rfl)
abbrev DB:NC:=.reg
 (.out [])
 []
abbrev DA:NC:=.reg
 (.out [(1,.const (.slice none 0 0))])
 []
abbrev Du:NC:=.reg
 (.out [(1,.qq 1),(2,.qj 0)])
 [1]
abbrev Dt:NC:=.reg
 (.Q 1 (.icm .lss) [.qq 2,.qj 3]
 (.out (qx [1,2] [(6,.qz 1)])))
 [1,2]
abbrev Ds:NC:=.reg
 (.Q 1 (.bld zL2 []) []
 (.x 2 (.call 24) [.qj 3,.qq 2,.qz 1,.const (.slice none 0 0)] none []
 (.Q 4 (.ext 0) [.qz 2]
 (.Q 5 (.ext 1) [.qz 2]
 (.out (qx [1,2] [(3,.qz 4),(4,.qz 5)]))))))
 [1,2]
abbrev Dr:NC:=.reg
 (.Q 1 (.eqp false) [.qq 3,.const (.pointer none)]
 (.q 3 .mv [.qq 4] (some (.qz 1,false))
 (.q 4 (.icm .neq) [.qz 3,.qj 0] (some (.qz 1,false))
 (.Q 5 .pick [.qz 1,.const (.bool true),.qz 4]
 (.out (qx [1,2,3] [(20,.qz 5)]))))))
 [1,2,3,4]
abbrev Dn:NC:=.reg
 (.out [(0,.const (.slice none 0 0))])
 []
abbrev Dm:NC:=.reg
 (.x 2 (.bsl 27 1 [.pointer none] [(0,1)]) [.qq 3] none []
 (.x 3 (.app 27 1 8 [.pointer none]) [.qq 1,.qz 2] none []
 (.out [(1,.qz 3),(2,.qq 2)])))
 [1,2,3]
abbrev Dl:NC:=.reg
 (.Q 1 (.iar .add) [.qq 2,.qj 1]
 (.out [(1,.qq 1),(2,.qz 1)]))
 [1,2]
abbrev DC:NC :=
 (.seq (.seq Dt
 (.cond (.qq 6)
 .skip
 (.exit 0)))
 (.seq (.block 1 (.seq Ds
 (.seq (.seq Dr
 (.cond (.qq 20)
 (.seq Dn
 .ret)
 .skip))
 Dm)))
 Dl))
abbrev Di:NC:=.reg
 (.out [(0,.qq 1)])
 [1]
abbrev lV:NC :=
 (.seq DB
 (.seq DA
 (.seq (.seq Du
 (.block 0 (.loop [1,2] DC)))
 (.seq Di
 .ret))))
abbrev lW:FN:=⟨lV,[.qq 0]⟩
theorem DD:GoT 9 Tryz.f9 lV lW:=goT (F:=lW) Tryz.func9 (by kernel_rfl)
abbrev IE:NC:=.reg
 (.x 0 (.alc [.int .i64 0,.int .i64 0,.int .i64 0,(.string ⟨#[]⟩),(.string ⟨#[]⟩),(.string ⟨#[]⟩),(.string ⟨#[]⟩)] 30) [] none []
 (.out (qx [0,1,2] [(6,.qz 0)])))
 [0,1,2]
abbrev ID:NC:=.reg
 (.Q 3 (.bld [.int .i64 0,.int .i64 0,.int .i64 0,(.string ⟨#[]⟩),(.string ⟨#[]⟩),(.string ⟨#[]⟩),(.string ⟨#[]⟩)] [(0,1),(1,1),(2,1),(3,1)]) [.qj 2,.qq 0,.qq 1,.qq 2]
 (.x 4 (.st 7) [.qq 6,.qz 3] none []
 (.out [(6,.qq 6)])))
 [0,1,2,6]
abbrev tR:NC :=
 (.seq IE
 (.seq ID
 .ret))
abbrev tS:FN:=⟨tR,[.cells 6 7]⟩
theorem IF:GoT 11 Tryz.f11 tR tS:=goT (F:=tS) Tryz.func11 (by kernel_rfl)
abbrev Ft:NC:=.reg
 (.out (qx [0,1,2] []))
 [0,1,2]
abbrev Fs:NC:=.reg
 (.x 1 (.call 15) [.qq 0] none []
 (.Q 3 (.ext 0) [.qz 1]
 (.Q 4 (.ext 1) [.qz 1]
 (.out (qx [1,2] [(8,.qz 4)])))))
 [0,1,2]
abbrev Fp:NC:=.reg
 (.out (qx [1,2,8] [(9,.qj 0)]))
 [1,2,8]
abbrev Fo:NC:=.reg
 (.Q 2 .len [.qq 8]
 (.Q 3 (.icm .lss) [.qq 9,.qz 2]
 (.out (qx [1,2,8,9] [(18,.qz 3)]))))
 [1,2,8,9]
abbrev Fm:NC:=.reg
 (.Q 2 (.ixs 51) [.qq 8,.qq 9]
 (.Q 3 (.fld 2) [.qz 2]
 (.Q 4 .ld [.qz 3]
 (.Q 6 (.icm .eql) [.qz 4,.qq 2]
 (.out (qx [1,2,8,9] [(27,.qz 6)]))))))
 [1,2,8,9]
abbrev Fl:NC:=.reg
 (.Q 3 (.ixs 51) [.qq 8,.qq 9]
 (.Q 4 (.lda 51) [.qz 3]
 (.x 5 (.call 20) [.qq 1,.qz 4] none []
 (.out (qx [1,2,8,9] [])))))
 [1,2,8,9]
abbrev Fi:NC:=.reg
 (.Q 1 (.iar .add) [.qq 9,.qj 1]
 (.out (qx [1,2,8] [(9,.qz 1)])))
 [1,2,8,9]
abbrev Fu:NC :=
 (.seq (.seq Fo
 (.cond (.qq 18)
 .skip
 (.exit 0)))
 (.seq (.block 1 (.seq Fm
 (.cond (.qq 27)
 Fl
 .skip)))
 Fi))
abbrev Fh:NC:=.reg
 (.out [(6,.qq 8)])
 [8]
abbrev oh:NC :=
 (.seq Ft
 (.seq Fs
 (.seq (.seq Fp
 (.block 0 (.loop [1,2,8,9] Fu)))
 (.seq Fh
 .ret))))
abbrev om:FN:=⟨oh,[.qq 6]⟩
theorem lY:GoT 12 Tryz.f12 oh om:=goT (F:=om) Tryz.func12 (by kernel_rfl)
abbrev DP:NC:=.reg
 (.out [(0,.qq 0)])
 [0]
abbrev DO:NC:=.reg
 (.Q 1 (.bld [.int .i64 0,.slice none 0 0,.slice none 0 0,.slice none 0 0] [(0,1)]) [.qq 0]
 (.x 2 (.box 57) [.qz 1] none []
 (.out [(0,.qq 0),(3,.qz 2)])))
 [0]
abbrev DN:NC:=.reg
 (.out (qx [0,3] [(4,.qj 0)]))
 [0,3]
abbrev DM:NC:=.reg
 (.Q 2 (.icm .lss) [.qq 4,.qq 0]
 (.out (qx [0,3,4] [(12,.qz 2)])))
 [0,3,4]
abbrev DL:NC:=.reg
 (.Q 2 (.bld zL2 []) []
 (.x 3 (.call 24) [.qq 0,.qq 4,.qz 2,.const (.slice none 0 0)] none []
 (.Q 5 (.ext 0) [.qz 3]
 (.Q 6 (.ext 1) [.qz 3]
 (.out (qx [0,3,4] [(5,.qz 5),(6,.qz 6)]))))))
 [0,3,4]
abbrev DI:NC:=.reg
 (.Q 1 (.eqp false) [.qq 5,.const (.pointer none)]
 (.q 3 .mv [.qq 6] (some (.qz 1,false))
 (.q 4 (.icm .neq) [.qz 3,.qj 0] (some (.qz 1,false))
 (.Q 5 .pick [.qz 1,.const (.bool true),.qz 4]
 (.out (qx [0,3,4,5] [(27,.qz 5)]))))))
 [0,3,4,5,6]
abbrev DH:NC:=.reg
 (.out [(2,.const (.pointer none))])
 []
abbrev DG:NC:=.reg
 (.Q 3 .nilck [.qq 3]
 (.Q 4 (.fld 1) [.qz 3]
 (.Q 5 .ld [.qz 4]
 (.Q 10 .nilck [.qq 3]
 (.Q 11 (.fld 2) [.qz 10]
 (.Q 12 .ld [.qz 11]
 (.both
 (.x 7 (.bsl 27 1 [.pointer none] [(0,1)]) [.qq 5] none [(5,.ld,[.qz 4],none),(12,.ld,[.qz 11],none)]
 (.both
 (.x 8 (.app 27 1 8 [.pointer none]) [.qz 5,.qz 7] none [(12,.ld,[.qz 11],none)]
 (.x 13 (.bsl 47 1 [.slice none 0 0] [(0,1)]) [.const (.slice none 0 0)] none [(5,.ld,[.qz 4],none),(12,.ld,[.qz 11],none)]
 (.x 14 (.app 47 1 24 [.slice none 0 0]) [.qz 12,.qz 13] none []
 (.Q 15 .nilck [.qq 3]
 (.Q 16 (.fld 1) [.qz 15]
 (.x 17 (.st 1) [.qz 16,.qz 8] none []
 (.Q 18 .nilck [.qq 3]
 (.Q 19 (.fld 2) [.qz 18]
 (.x 20 (.st 1) [.qz 19,.qz 14] none []
 (.out (qx [0,3,4] [])))))))))))
 (.x 13 (.bsl 47 1 [.slice none 0 0] [(0,1)]) [.const (.slice none 0 0)] none [(5,.ld,[.qz 4],none),(12,.ld,[.qz 11],none)]
 (.x 8 (.app 27 1 8 [.pointer none]) [.qz 5,.qz 7] none [(12,.ld,[.qz 11],none)]
 (.x 14 (.app 47 1 24 [.slice none 0 0]) [.qz 12,.qz 13] none []
 (.Q 15 .nilck [.qq 3]
 (.Q 16 (.fld 1) [.qz 15]
 (.x 17 (.st 1) [.qz 16,.qz 8] none []
 (.Q 18 .nilck [.qq 3]
 (.Q 19 (.fld 2) [.qz 18]
 (.x 20 (.st 1) [.qz 19,.qz 14] none []
 (.out (qx [0,3,4] [])))))))))))))
 (.x 13 (.bsl 47 1 [.slice none 0 0] [(0,1)]) [.const (.slice none 0 0)] none [(5,.ld,[.qz 4],none),(12,.ld,[.qz 11],none)]
 (.x 7 (.bsl 27 1 [.pointer none] [(0,1)]) [.qq 5] none [(5,.ld,[.qz 4],none),(12,.ld,[.qz 11],none)]
 (.x 8 (.app 27 1 8 [.pointer none]) [.qz 5,.qz 7] none [(12,.ld,[.qz 11],none)]
 (.x 14 (.app 47 1 24 [.slice none 0 0]) [.qz 12,.qz 13] none []
 (.Q 15 .nilck [.qq 3]
 (.Q 16 (.fld 1) [.qz 15]
 (.x 17 (.st 1) [.qz 16,.qz 8] none []
 (.Q 18 .nilck [.qq 3]
 (.Q 19 (.fld 2) [.qz 18]
 (.x 20 (.st 1) [.qz 19,.qz 14] none []
 (.out (qx [0,3,4] [])))))))))))))))))))
 [0,3,4,5]
abbrev DF:NC:=.reg
 (.Q 1 (.iar .add) [.qq 4,.qj 1]
 (.out (qx [0,3] [(4,.qz 1)])))
 [0,3,4]
abbrev DR:NC :=
 (.seq (.seq DM
 (.cond (.qq 12)
 .skip
 (.exit 0)))
 (.seq (.block 1 (.seq DL
 (.seq (.seq DI
 (.cond (.qq 27)
 (.seq DH
 .ret)
 .skip))
 DG)))
 DF))
abbrev DE:NC:=.reg
 (.out [(2,.qq 3)])
 [3]
abbrev lc:NC :=
 (.seq DP
 (.seq DO
 (.seq (.seq DN
 (.block 0 (.loop [0,3,4] DR)))
 (.seq DE
 .ret))))
abbrev lf:FN:=⟨lc,[.qq 2]⟩
theorem DS:GoT 16 Tryz.f16 lc lf:=goT (F:=lf) Tryz.func16 (by kernel_rfl)
abbrev En:NC:=.reg
 (.out (qx [0,1,2] []))
 [0,1,2]
abbrev Em:NC:=.reg
 (.Q 3 (.iar .sub) [.qq 2,.qq 1]
 (.Q 4 (.iar .add) [.qz 3,.qj 1]
 (.Q 5 (.idv .rem) [.qq 0,.qz 4]
 (.out [(0,.qz 5),(1,.qq 1),(2,.qq 2)]))))
 [0,1,2]
abbrev Ei:NC:=.reg
 (.Q 1 (.icm .lss) [.qq 0,.qj 0]
 (.out (qx [0,1,2] [(14,.qz 1)])))
 [0,1,2]
abbrev Eh:NC:=.reg
 (.Q 2 (.iar .add) [.qq 0,.qq 2]
 (.Q 4 (.iar .sub) [.qz 2,.qq 1]
 (.Q 5 (.iar .add) [.qz 4,.qj 1]
 (.out [(0,.qz 5),(1,.qq 1)]))))
 [0,1,2]
abbrev Eg:NC:=.reg
 (.Q 2 (.iar .add) [.qq 1,.qq 0]
 (.out [(6,.qz 2)]))
 [0,1]
abbrev lA:NC :=
 (.seq En
 (.seq Em
 (.seq (.seq Ei
 (.cond (.qq 14)
 Eh
 .skip))
 (.seq Eg
 .ret))))
abbrev lB:FN:=⟨lA,[.qq 6]⟩
theorem Eo:GoT 17 Tryz.f17 lA lB:=goT (F:=lB) Tryz.func17 (by kernel_rfl)
abbrev fW:NC:=.reg
 (.Q 1 .nilck [.qq 0]
 (.Q 2 (.fld 1) [.qz 1]
 (.Q 3 .ld [.qz 2]
 (.Q 5 (.ixs 1) [.qz 3,.qq 1]
 (.Q 6 .ld [.qz 5]
 (.x 7 (.call 15) [.qz 6] none []
 (.Q 9 (.ext 0) [.qz 7]
 (.Q 10 (.ext 1) [.qz 7]
 (.out (qx [0,1,2] [(6,.qz 9),(7,.qz 10)]))))))))))
 [0,1,2]
abbrev fV:NC:=.reg
 (.Q 1 .nilck [.qq 0]
 (.Q 2 (.fld 2) [.qz 1]
 (.Q 3 .ld [.qz 2]
 (.Q 6 .nilck [.qq 0]
 (.Q 7 (.fld 2) [.qz 6]
 (.Q 8 .ld [.qz 7]
 (.Q 10 (.ixs 1) [.qz 8,.qq 1]
 (.Q 11 .ld [.qz 10]
 (.x 13 (.app 113 1 24 [.slice none 0 0]) [.qz 11,.qq 6] none [(3,.ld,[.qz 2],none)]
 (.Q 14 (.ixs 1) [.qz 3,.qq 1]
 (.x 15 (.st 1) [.qz 14,.qz 13] none []
 (.out (qx [0,2,7] [])))))))))))))
 [0,1,2,6,7]
abbrev fK:NC:=.reg
 (.Q 1 .nilck [.qq 0]
 (.Q 2 (.fld 3) [.qz 1]
 (.Q 3 .ld [.qz 2]
 (.Q 4 .len [.qz 3]
 (.Q 6 (.icm .lss) [.qz 4,.qq 2]
 (.out (qx [0,7] [(40,.qz 6)])))))))
 [0,2,7]
abbrev fX:NC:=.reg
 (.Q 2 .nilck [.qq 0]
 (.Q 3 (.fld 3) [.qz 2]
 (.Q 4 .ld [.qz 3]
 (.x 6 (.app 45 51 480 [.int .i64 0,.int .i64 0,.int .i64 0,.int .i64 0,.int .i64 0,.int .i64 0,.int .i64 0,.int .i64 0,.int .i64 0,.int .i64 0,(.string ⟨#[]⟩),(.string ⟨#[]⟩),(.string ⟨#[]⟩),(.string ⟨#[]⟩),.int .i64 0,.int .i64 0,.int .i64 0,.int .i64 0,.int .i64 0,.int .i64 0,.int .i64 0,.int .i64 0,.int .i64 0,.int .i64 0,.int .i64 0,.int .i64 0,.int .i64 0,.int .i64 0,.int .i64 0,.int .i64 0,(.string ⟨#[]⟩),(.string ⟨#[]⟩),(.string ⟨#[]⟩),(.string ⟨#[]⟩),.int .i64 0,.int .i64 0,.int .i64 0,.int .i64 0,.int .i64 0,.int .i64 0,.int .i64 0,.int .i64 0,.bool false,.int .i64 0,.int .i64 0,.int .i64 0,.int .i64 0,.int .i64 0,.int .i64 0,.int .i64 0,(.string ⟨#[]⟩)]) [.qz 4,.qq 7] none []
 (.Q 7 .nilck [.qq 0]
 (.Q 8 (.fld 3) [.qz 7]
 (.x 9 (.st 1) [.qz 8,.qz 6] none []
 (.out []))))))))
 [0,7]
abbrev Vl:NC :=
 (.seq fW
 (.seq fV
 (.seq fK
 (.cond (.qq 40)
 fX
 .skip))))
abbrev Vm:FN:=⟨Vl,[]⟩
theorem fY:GoT 19 Tryz.f19 Vl Vm:=goT (F:=Vm) Tryz.func19 (by kernel_rfl)
abbrev Vi:NC:=.reg
 (.x 0 (.box 66) [.qq 1] none []
 (.out [(0,.qq 0),(3,.qz 0)]))
 [0,1]
abbrev Vh:NC:=.reg
 (.Q 0 (.fld 1) [.qq 3]
 (.Q 1 .ld [.qz 0]
 (.Q 3 .nilck [.qq 0]
 (.Q 4 (.fld 0) [.qz 3]
 (.Q 5 .ld [.qz 4]
 (.Q 6 (.iar .sub) [.qz 5,.qj 1]
 (.x 7 (.call 17) [.qz 1,.qj 0,.qz 6] none []
 (.out (qx [0,3] [(5,.qz 7)])))))))))
 [0,3]
abbrev Vg:NC:=.reg
 (.out [(0,.qq 0),(3,.qq 3),(5,.qq 5),(6,(.const (.int .i64 (-1))))])
 [0,3,5]
abbrev Vf:NC:=.reg
 (.Q 1 .nilck [.qq 0]
 (.Q 2 (.fld 3) [.qz 1]
 (.Q 3 .ld [.qz 2]
 (.Q 4 .len [.qz 3]
 (.Q 5 (.icm .gtr) [.qz 4,.qj 0]
 (.out (qx [0,3,5,6] [(23,.qz 5)])))))))
 [0,3,5,6]
abbrev Ve:NC:=.reg
 (.Q 0 (.fld 2) [.qq 3]
 (.Q 1 .ld [.qz 0]
 (.Q 3 .nilck [.qq 0]
 (.Q 4 (.fld 3) [.qz 3]
 (.Q 5 .ld [.qz 4]
 (.Q 6 .len [.qz 5]
 (.Q 7 (.iar .sub) [.qz 6,.qj 1]
 (.x 8 (.call 17) [.qz 1,.qj 0,.qz 7] none []
 (.out (qx [0,3,5] [(6,.qz 8)]))))))))))
 [0,3,5]
abbrev yF:NC:=.reg
 (.Q 0 (.fld 0) [.qq 3]
 (.Q 1 .ld [.qz 0]
 (.out (qx [0,3,5,6] [(34,.qz 1)]))))
 [0,3,5,6]
abbrev yE:NC:=.reg
 (.Q 0 (.icm .eql) [.qq 34,.qj 1]
 (.out (qx [0,3,5,6,34] [(35,.qz 0)])))
 [0,3,5,6,34]
abbrev xX:NC:=.reg
 (.Q 1 .nilck [.qq 0]
 (.Q 2 (.fld 1) [.qz 1]
 (.Q 3 .ld [.qz 2]
 (.Q 5 (.ixs 1) [.qz 3,.qq 5]
 (.Q 6 .ld [.qz 5]
 (.Q 7 (.fld 3) [.qq 3]
 (.Q 8 (.lda 7) [.qz 7]
 (.x 9 (.call 10) [.qz 6,.qz 8] none []
 (.out (qx [0,5] []))))))))))
 [0,3,5]
abbrev yD:NC:=.reg
 (.Q 0 (.icm .eql) [.qq 34,.qj 2]
 (.out (qx [0,3,5,6,34] [(47,.qz 0)])))
 [0,3,5,6,34]
abbrev yC:NC:=.reg
 (.Q 0 (.icm .eql) [.qq 34,.qj 3]
 (.out (qx [0,3,5,6,34] [(47,.qz 0)])))
 [0,3,5,6,34]
abbrev vU:NC:=.reg
 (.Q 0 (.icm .eql) [.qq 34,.qj 4]
 (.out (qx [0,3,5,6,34] [(47,.qz 0)])))
 [0,3,5,6,34]
abbrev vT:NC:=.reg
 (.Q 1 (.icm .lss) [.qq 6,.qj 0]
 (.out (qx [0,3,5,6] [(52,.qz 1)])))
 [0,3,5,6]
abbrev vS:NC:=.reg
 (.out [(4,.const (.bool true))])
 []
abbrev vR:NC:=.reg
 (.Q 1 .nilck [.qq 0]
 (.Q 2 (.fld 3) [.qz 1]
 (.Q 3 .ld [.qz 2]
 (.Q 5 (.ixs 51) [.qz 3,.qq 6]
 (.Q 6 (.lda 51) [.qz 5]
 (.x 7 (.alc [.int .i64 0,.int .i64 0,.int .i64 0,.int .i64 0,.int .i64 0,.int .i64 0,.int .i64 0,.int .i64 0,.int .i64 0,.int .i64 0,(.string ⟨#[]⟩),(.string ⟨#[]⟩),(.string ⟨#[]⟩),(.string ⟨#[]⟩),.int .i64 0,.int .i64 0,.int .i64 0,.int .i64 0,.int .i64 0,.int .i64 0,.int .i64 0,.int .i64 0,.int .i64 0,.int .i64 0,.int .i64 0,.int .i64 0,.int .i64 0,.int .i64 0,.int .i64 0,.int .i64 0,(.string ⟨#[]⟩),(.string ⟨#[]⟩),(.string ⟨#[]⟩),(.string ⟨#[]⟩),.int .i64 0,.int .i64 0,.int .i64 0,.int .i64 0,.int .i64 0,.int .i64 0,.int .i64 0,.int .i64 0,.bool false,.int .i64 0,.int .i64 0,.int .i64 0,.int .i64 0,.int .i64 0,.int .i64 0,.int .i64 0,(.string ⟨#[]⟩)] 45) [] none []
 (.x 8 (.st 51) [.qz 7,.qz 6] none []
 (.out (qx [0,3,5,6] [(7,.qz 7)])))))))))
 [0,3,5,6]
abbrev vP:NC:=.reg
 (.Q 0 (.fld 0) [.qq 3]
 (.Q 1 .ld [.qz 0]
 (.Q 2 (.icm .neq) [.qz 1,.qj 4]
 (.out (qx [0,3,5,6,7] [(62,.qz 2)])))))
 [0,3,5,6,7]
abbrev jX:NC:=.reg
 (.Q 3 .nilck [.qq 0]
 (.Q 4 (.fld 3) [.qz 3]
 (.Q 5 .ld [.qz 4]
 (.Q 7 (.slc 51 false true) [.qz 5,.qq 6]
 (.Q 10 .nilck [.qq 0]
 (.Q 11 (.fld 3) [.qz 10]
 (.Q 12 .ld [.qz 11]
 (.Q 14 (.iar .add) [.qq 6,.qj 1]
 (.Q 15 (.slc 51 true false) [.qz 12,.qz 14]
 (.x 1 (.bsl 45 0 [] []) [] none [(5,.ld,[.qz 4],none),(12,.ld,[.qz 11],none)]
 (.x 8 (.app 45 51 480 [.int .i64 0,.int .i64 0,.int .i64 0,.int .i64 0,.int .i64 0,.int .i64 0,.int .i64 0,.int .i64 0,.int .i64 0,.int .i64 0,(.string ⟨#[]⟩),(.string ⟨#[]⟩),(.string ⟨#[]⟩),(.string ⟨#[]⟩),.int .i64 0,.int .i64 0,.int .i64 0,.int .i64 0,.int .i64 0,.int .i64 0,.int .i64 0,.int .i64 0,.int .i64 0,.int .i64 0,.int .i64 0,.int .i64 0,.int .i64 0,.int .i64 0,.int .i64 0,.int .i64 0,(.string ⟨#[]⟩),(.string ⟨#[]⟩),(.string ⟨#[]⟩),(.string ⟨#[]⟩),.int .i64 0,.int .i64 0,.int .i64 0,.int .i64 0,.int .i64 0,.int .i64 0,.int .i64 0,.int .i64 0,.bool false,.int .i64 0,.int .i64 0,.int .i64 0,.int .i64 0,.int .i64 0,.int .i64 0,.int .i64 0,(.string ⟨#[]⟩)]) [.qz 1,.qz 7] none [(12,.ld,[.qz 11],none)]
 (.x 16 (.app 45 51 480 [.int .i64 0,.int .i64 0,.int .i64 0,.int .i64 0,.int .i64 0,.int .i64 0,.int .i64 0,.int .i64 0,.int .i64 0,.int .i64 0,(.string ⟨#[]⟩),(.string ⟨#[]⟩),(.string ⟨#[]⟩),(.string ⟨#[]⟩),.int .i64 0,.int .i64 0,.int .i64 0,.int .i64 0,.int .i64 0,.int .i64 0,.int .i64 0,.int .i64 0,.int .i64 0,.int .i64 0,.int .i64 0,.int .i64 0,.int .i64 0,.int .i64 0,.int .i64 0,.int .i64 0,(.string ⟨#[]⟩),(.string ⟨#[]⟩),(.string ⟨#[]⟩),(.string ⟨#[]⟩),.int .i64 0,.int .i64 0,.int .i64 0,.int .i64 0,.int .i64 0,.int .i64 0,.int .i64 0,.int .i64 0,.bool false,.int .i64 0,.int .i64 0,.int .i64 0,.int .i64 0,.int .i64 0,.int .i64 0,.int .i64 0,(.string ⟨#[]⟩)]) [.qz 8,.qz 15] none []
 (.Q 17 .nilck [.qq 0]
 (.Q 18 (.fld 3) [.qz 17]
 (.x 19 (.st 1) [.qz 18,.qz 16] none []
 (.out (qx [0,3,5,7] [])))))))))))))))))
 [0,3,5,6,7]
abbrev jP:NC:=.reg
 (.Q 0 (.fld 0) [.qq 3]
 (.Q 1 .ld [.qz 0]
 (.Q 2 (.icm .neq) [.qz 1,.qj 3]
 (.out (qx [0,5,7] [(84,.qz 2)])))))
 [0,3,5,7]
abbrev jO:NC:=.reg
 (.Q 0 (.fld 2) [.qq 7]
 (.Q 1 .ld [.qz 0]
 (.out [(0,.qq 0),(5,.qz 1),(7,.qq 7)])))
 [0,7]
abbrev zo:NC:=.reg
 (.Q 1 .nilck [.qq 0]
 (.Q 2 (.fld 1) [.qz 1]
 (.Q 3 .ld [.qz 2]
 (.Q 5 (.ixs 1) [.qz 3,.qq 5]
 (.Q 6 .ld [.qz 5]
 (.Q 7 (.lda 51) [.qq 7]
 (.x 8 (.call 20) [.qz 6,.qz 7] none []
 (.out (qx [0,5] [])))))))))
 [0,5,7]
abbrev Kc:NC:=.reg
 (.Q 0 (.icm .eql) [.qq 34,.qj 5]
 (.out (qx [0,3,5,34] [(96,.qz 0)])))
 [0,3,5,34]
abbrev Kb:NC:=.reg
 (.Q 1 .nilck [.qq 0]
 (.Q 2 (.fld 1) [.qz 1]
 (.Q 3 .ld [.qz 2]
 (.Q 5 (.ixs 1) [.qz 3,.qq 5]
 (.Q 6 .ld [.qz 5]
 (.x 7 (.call 26) [.qz 6] none []
 (.out (qx [0,5] []))))))))
 [0,5]
abbrev Ka:NC:=.reg
 (.Q 0 (.icm .eql) [.qq 34,.qj 6]
 (.out (qx [0,3,5,34] [(106,.qz 0)])))
 [0,3,5,34]
abbrev KY:NC:=.reg
 (.Q 1 .nilck [.qq 0]
 (.Q 2 (.fld 1) [.qz 1]
 (.Q 3 .ld [.qz 2]
 (.Q 5 (.ixs 1) [.qz 3,.qq 5]
 (.Q 6 .ld [.qz 5]
 (.Q 7 (.fld 10) [.qq 3]
 (.Q 8 (.lda 2) [.qz 7]
 (.x 9 (.call 14) [.qz 6,.qz 8] none []
 (.out (qx [0,5] []))))))))))
 [0,3,5]
abbrev KW:NC:=.reg
 (.Q 0 (.icm .eql) [.qq 34,.qj 7]
 (.out (qx [0,5] [(118,.qz 0)])))
 [0,5,34]
abbrev KV:NC:=.reg
 (.Q 1 .nilck [.qq 0]
 (.Q 2 (.fld 0) [.qz 1]
 (.Q 3 .ld [.qz 2]
 (.Q 5 (.bld zL2 []) []
 (.Q 7 .nilck [.qq 0]
 (.Q 8 (.fld 2) [.qz 7]
 (.Q 9 .ld [.qz 8]
 (.Q 11 (.ixs 1) [.qz 9,.qq 5]
 (.Q 12 .ld [.qz 11]
 (.x 13 (.call 24) [.qz 3,.qq 5,.qz 5,.qz 12] none []
 (.Q 15 (.ext 0) [.qz 13]
 (.Q 16 (.ext 1) [.qz 13]
 (.out (qx [0,5] [(8,.qz 15),(9,.qz 16)]))))))))))))))
 [0,5]
abbrev KK:NC:=.reg
 (.Q 1 (.eqp false) [.qq 8,.const (.pointer none)]
 (.q 3 .mv [.qq 9] (some (.qz 1,false))
 (.q 4 (.icm .neq) [.qz 3,.qj 0] (some (.qz 1,false))
 (.Q 5 .pick [.qz 1,.const (.bool true),.qz 4]
 (.out (qx [0,5,8] [(142,.qz 5)]))))))
 [0,5,8,9]
abbrev KX:NC:=.reg
 (.out [(4,.const (.bool false))])
 []
abbrev KJ:NC:=.reg
 (.Q 1 .nilck [.qq 0]
 (.Q 2 (.fld 1) [.qz 1]
 (.Q 3 .ld [.qz 2]
 (.Q 6 (.ixs 1) [.qz 3,.qq 5]
 (.x 7 (.st 1) [.qz 6,.qq 8] none []
 (.out (qx [0,5] [])))))))
 [0,5,8]
abbrev KZ:NC:=.reg
 (.x 2 (.call 19) [.qq 0,.qq 5,.qj 300] none []
 (.out []))
 [0,5]
abbrev KQ:NC:=.reg
 (.out [(4,.const (.bool true))])
 []
abbrev Zq:NC :=
 (.seq Vi
 (.seq Vh
 (.seq Vg
 (.seq (.seq Vf
 (.cond (.qq 23)
 Ve
 .skip))
 (.seq (.seq yF
 (.block 0 (.seq yE
 (.cond (.qq 35)
 xX
 (.seq (.seq yD
 (.cond (.qq 47)
 .skip
 (.seq yC
 (.cond (.qq 47)
 .skip
 vU))))
 (.cond (.qq 47)
 (.seq (.seq vT
 (.cond (.qq 52)
 (.seq vS
 .ret)
 .skip))
 (.seq vR
 (.seq (.seq vP
 (.cond (.qq 62)
 jX
 .skip))
 (.seq jP
 (.cond (.qq 84)
 (.seq jO
 zo)
 .skip)))))
 (.seq Kc
 (.cond (.qq 96)
 Kb
 (.seq Ka
 (.cond (.qq 106)
 KY
 (.seq KW
 (.cond (.qq 118)
 (.seq KV
 (.seq (.seq KK
 (.cond (.qq 142)
 (.seq KX
 .ret)
 .skip))
 KJ))
 .skip))))))))))))
 (.seq KZ
 (.seq KQ
 .ret)))))))
abbrev Wh:FN:=⟨Zq,[.qq 4]⟩
theorem iQ:GoT 22 Tryz.f22 Zq Wh:=goT (F:=Wh) Tryz.func22 (by kernel_rfl)
abbrev Km:NC:=.reg
 (.out [(0,.qq 0)])
 [0]
abbrev Kl:NC:=.reg
 (.out [(0,.qq 0),(3,.const (.slice none 0 0))])
 [0]
abbrev Ki:NC:=.reg
 (.out (qx [0,3] [(4,.const (.slice none 0 0))]))
 [0,3]
abbrev Kh:NC:=.reg
 (.out (qx [0,3,4] [(5,.qj 0)]))
 [0,3,4]
abbrev Kg:NC:=.reg
 (.Q 2 .nilck [.qq 0]
 (.Q 3 (.fld 0) [.qz 2]
 (.Q 4 .ld [.qz 3]
 (.Q 5 (.icm .lss) [.qq 5,.qz 4]
 (.out (qx [0,3,4,5] [(20,.qz 5)]))))))
 [0,3,4,5]
abbrev wz:NC:=.reg
 (.Q 1 .nilck [.qq 0]
 (.Q 2 (.fld 1) [.qz 1]
 (.Q 3 .ld [.qz 2]
 (.Q 5 (.ixs 1) [.qz 3,.qq 5]
 (.Q 6 .ld [.qz 5]
 (.x 7 (.call 25) [.qz 6] none []
 (.x 8 (.alc zL2 37) [] none []
 (.x 9 (.st 7) [.qz 8,.qz 7] none []
 (.out (qx [0,3,4,5] [(6,.qz 8)]))))))))))
 [0,3,4,5]
abbrev wq:NC:=.reg
 (.out (qx [0,3,4,5,6] [(7,.qj 0)]))
 [0,3,4,5,6]
abbrev Kf:NC:=.reg
 (.Q 2 .nilck [.qq 0]
 (.Q 3 (.fld 0) [.qz 2]
 (.Q 4 .ld [.qz 3]
 (.Q 5 (.icm .lss) [.qq 7,.qz 4]
 (.out (qx [0,3,4,5,6,7] [(36,.qz 5)]))))))
 [0,3,4,5,6,7]
abbrev Ke:NC:=.reg
 (.out (qx [0,3,4,5,6,7] [(8,.qj 1)]))
 [0,3,4,5,6,7]
abbrev Kd:NC:=.reg
 (.Q 2 (.ixa 7 1) [.qq 6,.qq 7]
 (.Q 3 .ld [.qz 2]
 (.Q 4 (.icm .leq) [.qq 8,.qz 3]
 (.q 6 .mv [.qq 8] (some (.qz 4,true))
 (.q 7 (.icm .leq) [.qz 6,.qj 60] (some (.qz 4,true))
 (.Q 8 .pick [.qz 4,.qz 7,.const (.bool false)]
 (.out (qx [0,3,4,5,6,7,8] [(47,.qz 8)]))))))))
 [0,3,4,5,6,7,8]
abbrev kM:NC:=.reg
 (.Q 2 (.bld [.int .i64 0,.int .i64 0] [(0,1),(1,1)]) [.qq 7,.qq 8]
 (.x 3 (.alc [.int .i64 0,.int .i64 0] 25) [] none []
 (.x 4 (.st 2) [.qz 3,.qz 2] none []
 (.out (qx [0,3,4,5,6,7,8] [(9,.qz 3)])))))
 [0,3,4,5,6,7,8]
abbrev kL:NC:=.reg
 (.Q 1 .nilck [.qq 0]
 (.Q 2 (.fld 1) [.qz 1]
 (.Q 3 .ld [.qz 2]
 (.Q 5 (.ixs 1) [.qz 3,.qq 5]
 (.Q 6 .ld [.qz 5]
 (.Q 7 (.lda 2) [.qq 9]
 (.both
 (.x 8 (.call 13) [.qz 6,.qz 7] none []
 (.Q 10 (.ext 0) [.qz 8]
 (.Q 11 (.ext 1) [.qz 8]
 (.x 12 (.alc [.int .i64 0,.int .i64 0,.int .i64 0,.int .i64 0,.int .i64 0,.int .i64 0,.int .i64 0,.int .i64 0,(.string ⟨#[]⟩),(.string ⟨#[]⟩),(.string ⟨#[]⟩),(.string ⟨#[]⟩),.int .i64 0,.int .i64 0,.int .i64 0,.int .i64 0,.int .i64 0,.int .i64 0,.int .i64 0,.int .i64 0,.bool false] 41) [] none [(3,.ld,[.qz 2],none),(6,.ld,[.qz 5],none),(7,.lda 2,[.qq 9],none)]
 (.x 13 (.st 21) [.qz 12,.qz 10] none []
 (.out (qx [0,3,4,5,6,7,8,9] [(10,.qz 12),(11,.qz 11)])))))))
 (.x 12 (.alc [.int .i64 0,.int .i64 0,.int .i64 0,.int .i64 0,.int .i64 0,.int .i64 0,.int .i64 0,.int .i64 0,(.string ⟨#[]⟩),(.string ⟨#[]⟩),(.string ⟨#[]⟩),(.string ⟨#[]⟩),.int .i64 0,.int .i64 0,.int .i64 0,.int .i64 0,.int .i64 0,.int .i64 0,.int .i64 0,.int .i64 0,.bool false] 41) [] none [(3,.ld,[.qz 2],none),(6,.ld,[.qz 5],none),(7,.lda 2,[.qq 9],none)]
 (.x 8 (.call 13) [.qz 6,.qz 7] none []
 (.Q 10 (.ext 0) [.qz 8]
 (.Q 11 (.ext 1) [.qz 8]
 (.x 13 (.st 21) [.qz 12,.qz 10] none []
 (.out (qx [0,3,4,5,6,7,8,9] [(10,.qz 12),(11,.qz 11)]))))))))))))))
 [0,3,4,5,6,7,8,9]
abbrev kH:NC:=.reg
 (.Q 1 .not [.qq 11]
 (.q 3 (.fld 0) [.qq 10] (some (.qz 1,false))
 (.q 4 .ld [.qz 3] (some (.qz 1,false))
 (.q 5 (.icm .neq) [.qz 4,.qj 3] (some (.qz 1,false))
 (.Q 6 .pick [.qz 1,.const (.bool true),.qz 5]
 (.out (qx [0,3,4,5,6,7,8,9,10] [(71,.qz 6)])))))))
 [0,3,4,5,6,7,8,9,10,11]
abbrev kG:NC:=.reg
 (.out (qx [0,3,4,5,6,7,8,9,10] [(12,.qj 0)]))
 [0,3,4,5,6,7,8,9,10]
abbrev dl:NC:=.reg
 (.Q 2 .len [.qq 3]
 (.Q 3 (.icm .lss) [.qq 12,.qz 2]
 (.q 5 .mv [.qq 3] (some (.qz 3,true))
 (.q 6 .mv [.qq 12] (some (.qz 3,true))
 (.q 7 (.ixs 2) [.qz 5,.qz 6] (some (.qz 3,true))
 (.q 8 (.lda 2) [.qz 7] (some (.qz 3,true))
 (.q 9 (.lda 2) [.qq 9] (some (.qz 3,true))
 (.q 10 (.eqc true [.i .i64,.i .i64]) [.qz 8,.qz 9] (some (.qz 3,true))
 (.Q 11 .pick [.qz 3,.qz 10,.const (.bool false)]
 (.out (qx [0,3,4,5,6,7,8,9,10,12] [(83,.qz 11)])))))))))))
 [0,3,4,5,6,7,8,9,10,12]
abbrev di:NC:=.reg
 (.Q 1 (.iar .add) [.qq 12,.qj 1]
 (.out (qx [0,3,4,5,6,7,8,9,10] [(12,.qz 1)])))
 [0,3,4,5,6,7,8,9,10,12]
abbrev wj:NC :=
 (.seq (.seq dl
 (.cond (.qq 83)
 .skip
 (.exit 6)))
 (.block 7 di))
abbrev kF:NC:=.reg
 (.Q 2 .len [.qq 3]
 (.Q 3 (.icm .eql) [.qq 12,.qz 2]
 (.out (qx [0,3,4,5,6,7,8,9,10,12] [(89,.qz 3)]))))
 [0,3,4,5,6,7,8,9,10,12]
abbrev zM:NC:=.reg
 (.Q 1 (.lda 2) [.qq 9]
 (.Q 5 (.lda 21) [.qq 10]
 (.both
 (.x 2 (.bsl 25 1 [.int .i64 0,.int .i64 0] [(0,2)]) [.qz 1] none [(5,.lda 21,[.qq 10],none)]
 (.both
 (.x 3 (.app 25 2 16 [.int .i64 0,.int .i64 0]) [.qq 3,.qz 2] none [(5,.lda 21,[.qq 10],none)]
 (.x 6 (.bsl 41 1 [.int .i64 0,.int .i64 0,.int .i64 0,.int .i64 0,.int .i64 0,.int .i64 0,.int .i64 0,.int .i64 0,(.string ⟨#[]⟩),(.string ⟨#[]⟩),(.string ⟨#[]⟩),(.string ⟨#[]⟩),.int .i64 0,.int .i64 0,.int .i64 0,.int .i64 0,.int .i64 0,.int .i64 0,.int .i64 0,.int .i64 0,.bool false] [(0,21)]) [.qz 5] none [(1,.lda 2,[.qq 9],none)]
 (.x 7 (.app 41 21 200 [.int .i64 0,.int .i64 0,.int .i64 0,.int .i64 0,.int .i64 0,.int .i64 0,.int .i64 0,.int .i64 0,(.string ⟨#[]⟩),(.string ⟨#[]⟩),(.string ⟨#[]⟩),(.string ⟨#[]⟩),.int .i64 0,.int .i64 0,.int .i64 0,.int .i64 0,.int .i64 0,.int .i64 0,.int .i64 0,.int .i64 0,.bool false]) [.qq 4,.qz 6] none []
 (.out [(0,.qq 0),(3,.qz 3),(4,.qz 7),(5,.qq 5),(6,.qq 6),(7,.qq 7),(8,.qq 8),(10,.qq 10),(12,.qq 12)]))))
 (.x 6 (.bsl 41 1 [.int .i64 0,.int .i64 0,.int .i64 0,.int .i64 0,.int .i64 0,.int .i64 0,.int .i64 0,.int .i64 0,(.string ⟨#[]⟩),(.string ⟨#[]⟩),(.string ⟨#[]⟩),(.string ⟨#[]⟩),.int .i64 0,.int .i64 0,.int .i64 0,.int .i64 0,.int .i64 0,.int .i64 0,.int .i64 0,.int .i64 0,.bool false] [(0,21)]) [.qz 5] none [(1,.lda 2,[.qq 9],none)]
 (.x 3 (.app 25 2 16 [.int .i64 0,.int .i64 0]) [.qq 3,.qz 2] none [(5,.lda 21,[.qq 10],none)]
 (.x 7 (.app 41 21 200 [.int .i64 0,.int .i64 0,.int .i64 0,.int .i64 0,.int .i64 0,.int .i64 0,.int .i64 0,.int .i64 0,(.string ⟨#[]⟩),(.string ⟨#[]⟩),(.string ⟨#[]⟩),(.string ⟨#[]⟩),.int .i64 0,.int .i64 0,.int .i64 0,.int .i64 0,.int .i64 0,.int .i64 0,.int .i64 0,.int .i64 0,.bool false]) [.qq 4,.qz 6] none []
 (.out [(0,.qq 0),(3,.qz 3),(4,.qz 7),(5,.qq 5),(6,.qq 6),(7,.qq 7),(8,.qq 8),(10,.qq 10),(12,.qq 12)]))))))
 (.x 6 (.bsl 41 1 [.int .i64 0,.int .i64 0,.int .i64 0,.int .i64 0,.int .i64 0,.int .i64 0,.int .i64 0,.int .i64 0,(.string ⟨#[]⟩),(.string ⟨#[]⟩),(.string ⟨#[]⟩),(.string ⟨#[]⟩),.int .i64 0,.int .i64 0,.int .i64 0,.int .i64 0,.int .i64 0,.int .i64 0,.int .i64 0,.int .i64 0,.bool false] [(0,21)]) [.qz 5] none [(1,.lda 2,[.qq 9],none)]
 (.x 2 (.bsl 25 1 [.int .i64 0,.int .i64 0] [(0,2)]) [.qz 1] none [(5,.lda 21,[.qq 10],none)]
 (.x 3 (.app 25 2 16 [.int .i64 0,.int .i64 0]) [.qq 3,.qz 2] none [(5,.lda 21,[.qq 10],none)]
 (.x 7 (.app 41 21 200 [.int .i64 0,.int .i64 0,.int .i64 0,.int .i64 0,.int .i64 0,.int .i64 0,.int .i64 0,.int .i64 0,(.string ⟨#[]⟩),(.string ⟨#[]⟩),(.string ⟨#[]⟩),(.string ⟨#[]⟩),.int .i64 0,.int .i64 0,.int .i64 0,.int .i64 0,.int .i64 0,.int .i64 0,.int .i64 0,.int .i64 0,.bool false]) [.qq 4,.qz 6] none []
 (.out [(0,.qq 0),(3,.qz 3),(4,.qz 7),(5,.qq 5),(6,.qq 6),(7,.qq 7),(8,.qq 8),(10,.qq 10),(12,.qq 12)]))))))))
 [0,3,4,5,6,7,8,9,10,12]
abbrev Xx:NC:=.reg
 (.Q 2 (.ixs 21) [.qq 4,.qq 12]
 (.Q 3 (.fld 5) [.qz 2]
 (.Q 4 (.lda 7) [.qz 3]
 (.Q 5 (.fld 5) [.qq 10]
 (.Q 6 (.lda 7) [.qz 5]
 (.Q 7 (.eqc true [.i .i64,.i .i64,.i .i64,.s,.s,.s,.s]) [.qz 4,.qz 6]
 (.q 9 .mv [.qq 4] (some (.qz 7,false))
 (.q 10 .mv [.qq 12] (some (.qz 7,false))
 (.q 11 (.ixs 21) [.qz 9,.qz 10] (some (.qz 7,false))
 (.q 12 (.fld 12) [.qz 11] (some (.qz 7,false))
 (.q 13 (.lda 8) [.qz 12] (some (.qz 7,false))
 (.q 14 (.fld 12) [.qq 10] (some (.qz 7,false))
 (.q 15 (.lda 8) [.qz 14] (some (.qz 7,false))
 (.q 16 (.eqc true [.i .i64,.i .i64,.i .i64,.i .i64,.i .i64,.i .i64,.i .i64,.i .i64]) [.qz 13,.qz 15] (some (.qz 7,false))
 (.Q 17 .pick [.qz 7,.const (.bool true),.qz 16]
 (.out (qx [0,3,4,5,6,7,8] [(115,.qz 17)])))))))))))))))))
 [0,3,4,5,6,7,8,10,12]
abbrev Xj:NC:=.reg
 (.out [(2,.const (.bool false))])
 []
abbrev Xz:NC:=.reg
 (.Q 1 (.iar .add) [.qq 8,.qj 1]
 (.out (qx [0,3,4,5,6,7] [(8,.qz 1)])))
 [0,3,4,5,6,7,8]
abbrev fc:NC :=
 (.seq (.seq Kd
 (.cond (.qq 47)
 .skip
 (.exit 4)))
 (.seq (.block 5 (.seq kM
 (.seq kL
 (.seq (.seq kH
 (.cond (.qq 71)
 (.exit 5)
 .skip))
 (.seq kG
 (.seq (.block 6 (.loop [0,3,4,5,6,7,8,9,10,12] wj))
 (.seq (.seq kF
 (.cond (.qq 89)
 zM
 .skip))
 (.seq Xx
 (.cond (.qq 115)
 (.seq Xj
 .ret)
 .skip)))))))))
 Xz))
abbrev Xq:NC:=.reg
 (.Q 1 (.iar .add) [.qq 7,.qj 1]
 (.out (qx [0,3,4,5,6] [(7,.qz 1)])))
 [0,3,4,5,6,7]
abbrev Ko:NC :=
 (.seq (.seq Kf
 (.cond (.qq 36)
 .skip
 (.exit 2)))
 (.seq (.block 3 (.seq Ke
 (.block 4 (.loop [0,3,4,5,6,7,8] fc))))
 Xq))
abbrev JU:NC:=.reg
 (.Q 1 (.iar .add) [.qq 5,.qj 1]
 (.out (qx [0,3,4] [(5,.qz 1)])))
 [0,3,4,5]
abbrev fb:NC :=
 (.seq (.seq Kg
 (.cond (.qq 20)
 .skip
 (.exit 0)))
 (.seq (.block 1 (.seq wz
 (.seq wq
 (.block 2 (.loop [0,3,4,5,6,7] Ko)))))
 JU))
abbrev kE:NC:=.reg
 (.out (qx [3,4] [(13,.qj 0)]))
 [3,4]
abbrev JT:NC:=.reg
 (.Q 2 .len [.qq 3]
 (.Q 3 (.icm .lss) [.qq 13,.qz 2]
 (.out (qx [3,4,13] [(119,.qz 3)]))))
 [3,4,13]
abbrev JS:NC:=.reg
 (.out (qx [3,4,13] [(14,.qj 0)]))
 [3,4,13]
abbrev JR:NC:=.reg
 (.Q 2 (.icm .lss) [.qq 14,.qq 13]
 (.out (qx [3,4,13,14] [(124,.qz 2)])))
 [3,4,13,14]
abbrev JP:NC:=.reg
 (.Q 2 (.ixs 21) [.qq 4,.qq 13]
 (.Q 3 (.fld 5) [.qz 2]
 (.Q 4 (.lda 7) [.qz 3]
 (.Q 7 (.ixs 21) [.qq 4,.qq 14]
 (.Q 8 (.fld 5) [.qz 7]
 (.Q 9 (.lda 7) [.qz 8]
 (.x 10 (.call 49) [.qz 4,.qz 9] none []
 (.q 12 .mv [.qq 4] (some (.qz 10,true))
 (.q 13 .mv [.qq 13] (some (.qz 10,true))
 (.q 14 (.ixs 21) [.qz 12,.qz 13] (some (.qz 10,true))
 (.q 15 (.fld 12) [.qz 14] (some (.qz 10,true))
 (.q 16 (.fld 1) [.qz 15] (some (.qz 10,true))
 (.q 17 (.lda 7) [.qz 16] (some (.qz 10,true))
 (.q 18 .mv [.qq 3] (some (.qz 10,true))
 (.q 19 .mv [.qq 14] (some (.qz 10,true))
 (.q 20 (.ixs 2) [.qz 18,.qz 19] (some (.qz 10,true))
 (.q 21 (.lda 2) [.qz 20] (some (.qz 10,true))
 (.x 22 (.call 27) [.qz 17,.qz 21] (some (.qz 10,true)) []
 (.q 23 .not [.qz 22] (some (.qz 10,true))
 (.Q 24 .pick [.qz 10,.qz 23,.const (.bool false)]
 (.q 26 .mv [.qq 4] (some (.qz 24,true))
 (.q 27 .mv [.qq 14] (some (.qz 24,true))
 (.q 28 (.ixs 21) [.qz 26,.qz 27] (some (.qz 24,true))
 (.q 29 (.fld 12) [.qz 28] (some (.qz 24,true))
 (.q 30 (.fld 1) [.qz 29] (some (.qz 24,true))
 (.q 31 (.lda 7) [.qz 30] (some (.qz 24,true))
 (.q 32 .mv [.qq 3] (some (.qz 24,true))
 (.q 33 .mv [.qq 13] (some (.qz 24,true))
 (.q 34 (.ixs 2) [.qz 32,.qz 33] (some (.qz 24,true))
 (.q 35 (.lda 2) [.qz 34] (some (.qz 24,true))
 (.x 36 (.call 27) [.qz 31,.qz 35] (some (.qz 24,true)) []
 (.q 37 .not [.qz 36] (some (.qz 24,true))
 (.Q 38 .pick [.qz 24,.qz 37,.const (.bool false)]
 (.out (qx [3,4,13,14] [(165,.qz 38)])))))))))))))))))))))))))))))))))))
 [3,4,13,14]
abbrev JO:NC:=.reg
 (.out [(2,.const (.bool false))])
 []
abbrev JN:NC:=.reg
 (.Q 1 (.iar .add) [.qq 14,.qj 1]
 (.out (qx [3,4,13] [(14,.qz 1)])))
 [3,4,13,14]
abbrev fa:NC :=
 (.seq (.seq JR
 (.cond (.qq 124)
 .skip
 (.exit 10)))
 (.seq (.block 11 (.seq JP
 (.cond (.qq 165)
 (.seq JO
 .ret)
 .skip)))
 JN))
abbrev JM:NC:=.reg
 (.Q 1 (.iar .add) [.qq 13,.qj 1]
 (.out (qx [3,4] [(13,.qz 1)])))
 [3,4,13]
abbrev Kn:NC :=
 (.seq (.seq JT
 (.cond (.qq 119)
 .skip
 (.exit 8)))
 (.seq (.block 9 (.seq JS
 (.block 10 (.loop [3,4,13,14] fa))))
 JM))
abbrev kD:NC:=.reg
 (.out [(2,.const (.bool true))])
 []
abbrev yG:NC :=
 (.seq Km
 (.seq Kl
 (.seq Ki
 (.seq (.seq Kh
 (.block 0 (.loop [0,3,4,5] fb)))
 (.seq (.seq kE
 (.block 8 (.loop [3,4,13] Kn)))
 (.seq kD
 .ret))))))
abbrev Vn:FN:=⟨yG,[.qq 2]⟩
theorem fe:GoT 23 Tryz.f23 yG Vn:=goT (F:=Vn) Tryz.func23 (by kernel_rfl)
end Go.Fw
