import Derived.Test.YtimedjfpihdffaaGreatCd
set_option linter.unusedVariables false
set_option linter.unusedSimpArgs false
set_option maxHeartbeats 16000000
namespace Go.Fw
open Go.Proofs
abbrev Yh:NC:=.reg
 (.out [])
 []
abbrev Yg:NC:=.reg
 (.x 0 (.call 9) [] none []
 (.out [(1,.qz 0)]))
 []
abbrev Yf:NC:=.reg
 (.Q 1 (.eqs false) [.qq 1,.const (.slice none 0 0)]
 (.out [(1,.qq 1),(17,.qz 1)]))
 [1]
abbrev Ye:NC:=.reg
 (.out [(0,.const (.bool false))])
 []
abbrev Jd:NC:=.reg
 (.Q 1 (.ixs 1) [.qq 1,.qj 0]
 (.Q 2 .ld [.qz 1]
 (.both
 (.x 3 (.call 11) [.qj 1,.qj 1,.const (.string ⟨#[97]⟩)] none [(2,.ld,[.qz 1],none)]
 (.both
 (.x 4 (.call 10) [.qz 2,.qz 3] none []
 (.Q 6 (.ext 0) [.qz 4]
 (.Q 7 (.ext 1) [.qz 4]
 (.x 8 (.alc [.int .i64 0,.int .i64 0] 25) [] none [(2,.ld,[.qz 1],none)]
 (.x 9 (.st 2) [.qz 8,.qz 6] none []
 (.out [(1,.qq 1),(2,.qz 8),(3,.qz 7)]))))))
 (.x 8 (.alc [.int .i64 0,.int .i64 0] 25) [] none [(2,.ld,[.qz 1],none)]
 (.x 4 (.call 10) [.qz 2,.qz 3] none []
 (.Q 6 (.ext 0) [.qz 4]
 (.Q 7 (.ext 1) [.qz 4]
 (.x 9 (.st 2) [.qz 8,.qz 6] none []
 (.out [(1,.qq 1),(2,.qz 8),(3,.qz 7)]))))))))
 (.x 8 (.alc [.int .i64 0,.int .i64 0] 25) [] none [(2,.ld,[.qz 1],none)]
 (.x 3 (.call 11) [.qj 1,.qj 1,.const (.string ⟨#[97]⟩)] none [(2,.ld,[.qz 1],none)]
 (.x 4 (.call 10) [.qz 2,.qz 3] none []
 (.Q 6 (.ext 0) [.qz 4]
 (.Q 7 (.ext 1) [.qz 4]
 (.x 9 (.st 2) [.qz 8,.qz 6] none []
 (.out [(1,.qq 1),(2,.qz 8),(3,.qz 7)]))))))))))
 [1]
abbrev Jc:NC:=.reg
 (.Q 1 (.ixs 1) [.qq 1,.qj 0]
 (.Q 2 .ld [.qz 1]
 (.Q 4 (.ixs 1) [.qq 1,.qj 1]
 (.Q 5 .ld [.qz 4]
 (.x 6 (.call 12) [.qz 2,.qz 5,.qj 1] none []
 (.out (qx [1,2,3] [])))))))
 [1,2,3]
abbrev Jb:NC:=.reg
 (.Q 1 (.ixs 1) [.qq 1,.qj 1]
 (.Q 2 .ld [.qz 1]
 (.Q 4 (.ixs 1) [.qq 1,.qj 0]
 (.Q 5 .ld [.qz 4]
 (.x 6 (.call 12) [.qz 2,.qz 5,.qj 0] none []
 (.out (qx [1,2,3] [])))))))
 [1,2,3]
abbrev Ja:NC:=.reg
 (.Q 1 (.ixs 1) [.qq 1,.qj 0]
 (.Q 2 .ld [.qz 1]
 (.Q 3 (.lda 2) [.qq 2]
 (.both
 (.x 4 (.call 13) [.qz 2,.qz 3] none []
 (.Q 6 (.ext 0) [.qz 4]
 (.Q 7 (.ext 1) [.qz 4]
 (.x 8 (.alc [.int .i64 0,.int .i64 0,.int .i64 0,.int .i64 0,.int .i64 0,.int .i64 0,.int .i64 0,.int .i64 0,(.string ⟨#[]⟩),(.string ⟨#[]⟩),(.string ⟨#[]⟩),(.string ⟨#[]⟩),.int .i64 0,.int .i64 0,.int .i64 0,.int .i64 0,.int .i64 0,.int .i64 0,.int .i64 0,.int .i64 0,.bool false] 41) [] none [(2,.ld,[.qz 1],none),(3,.lda 2,[.qq 2],none)]
 (.x 9 (.st 21) [.qz 8,.qz 6] none []
 (.out (qx [1,2,3] [(4,.qz 8)])))))))
 (.x 8 (.alc [.int .i64 0,.int .i64 0,.int .i64 0,.int .i64 0,.int .i64 0,.int .i64 0,.int .i64 0,.int .i64 0,(.string ⟨#[]⟩),(.string ⟨#[]⟩),(.string ⟨#[]⟩),(.string ⟨#[]⟩),.int .i64 0,.int .i64 0,.int .i64 0,.int .i64 0,.int .i64 0,.int .i64 0,.int .i64 0,.int .i64 0,.bool false] 41) [] none [(2,.ld,[.qz 1],none),(3,.lda 2,[.qq 2],none)]
 (.x 4 (.call 13) [.qz 2,.qz 3] none []
 (.Q 6 (.ext 0) [.qz 4]
 (.Q 7 (.ext 1) [.qz 4]
 (.x 9 (.st 21) [.qz 8,.qz 6] none []
 (.out (qx [1,2,3] [(4,.qz 8)])))))))))))
 [1,2,3]
abbrev JY:NC:=.reg
 (.Q 1 (.ixs 1) [.qq 1,.qj 1]
 (.Q 2 .ld [.qz 1]
 (.Q 3 (.lda 2) [.qq 2]
 (.both
 (.x 4 (.call 13) [.qz 2,.qz 3] none []
 (.Q 6 (.ext 0) [.qz 4]
 (.Q 7 (.ext 1) [.qz 4]
 (.x 8 (.alc [.int .i64 0,.int .i64 0,.int .i64 0,.int .i64 0,.int .i64 0,.int .i64 0,.int .i64 0,.int .i64 0,(.string ⟨#[]⟩),(.string ⟨#[]⟩),(.string ⟨#[]⟩),(.string ⟨#[]⟩),.int .i64 0,.int .i64 0,.int .i64 0,.int .i64 0,.int .i64 0,.int .i64 0,.int .i64 0,.int .i64 0,.bool false] 41) [] none [(2,.ld,[.qz 1],none),(3,.lda 2,[.qq 2],none)]
 (.x 9 (.st 21) [.qz 8,.qz 6] none []
 (.out (qx [1,2,3,4] [(6,.qz 8)])))))))
 (.x 8 (.alc [.int .i64 0,.int .i64 0,.int .i64 0,.int .i64 0,.int .i64 0,.int .i64 0,.int .i64 0,.int .i64 0,(.string ⟨#[]⟩),(.string ⟨#[]⟩),(.string ⟨#[]⟩),(.string ⟨#[]⟩),.int .i64 0,.int .i64 0,.int .i64 0,.int .i64 0,.int .i64 0,.int .i64 0,.int .i64 0,.int .i64 0,.bool false] 41) [] none [(2,.ld,[.qz 1],none),(3,.lda 2,[.qq 2],none)]
 (.x 4 (.call 13) [.qz 2,.qz 3] none []
 (.Q 6 (.ext 0) [.qz 4]
 (.Q 7 (.ext 1) [.qz 4]
 (.x 9 (.st 21) [.qz 8,.qz 6] none []
 (.out (qx [1,2,3,4] [(6,.qz 8)])))))))))))
 [1,2,3,4]
abbrev JW:NC:=.reg
 (.Q 1 (.ixs 1) [.qq 1,.qj 0]
 (.Q 2 .ld [.qz 1]
 (.Q 4 (.ixs 1) [.qq 1,.qj 0]
 (.Q 5 .ld [.qz 4]
 (.x 6 (.call 12) [.qz 2,.qz 5,.qj 0] none []
 (.out (qx [1,2,3,4,6] [(8,.qz 6)])))))))
 [1,2,3,4,6]
abbrev ZZ:NC:=.reg
 (.Q 1 .not [.qq 3]
 (.q 3 (.lda 2) [.qq 2] (some (.qz 1,false))
 (.q 4 (.bld [.int .i64 0,.int .i64 0] [(1,1)]) [.qj 1] (some (.qz 1,false))
 (.q 5 (.eqc true [.i .i64,.i .i64]) [.qz 3,.qz 4] (some (.qz 1,false))
 (.Q 6 .pick [.qz 1,.const (.bool true),.qz 5]
 (.q 8 (.fld 0) [.qq 4] (some (.qz 6,false))
 (.q 9 .ld [.qz 8] (some (.qz 6,false))
 (.q 10 (.icm .neq) [.qz 9,.qj 3] (some (.qz 6,false))
 (.Q 11 .pick [.qz 6,.const (.bool true),.qz 10]
 (.q 13 (.fld 0) [.qq 6] (some (.qz 11,false))
 (.q 14 .ld [.qz 13] (some (.qz 11,false))
 (.q 15 (.icm .neq) [.qz 14,.qj 1] (some (.qz 11,false))
 (.Q 16 .pick [.qz 11,.const (.bool true),.qz 15]
 (.q 18 (.fld 20) [.qq 6] (some (.qz 16,false))
 (.q 19 .ld [.qz 18] (some (.qz 16,false))
 (.q 20 .not [.qz 19] (some (.qz 16,false))
 (.Q 21 .pick [.qz 16,.const (.bool true),.qz 20]
 (.q 23 .mv [.qq 8] (some (.qz 21,false))
 (.q 24 .len [.qz 23] (some (.qz 21,false))
 (.q 25 (.icm .neq) [.qz 24,.qj 2] (some (.qz 21,false))
 (.Q 26 .pick [.qz 21,.const (.bool true),.qz 25]
 (.q 28 .mv [.qq 8] (some (.qz 26,false))
 (.q 29 (.ixs 51) [.qz 28,.qj 0] (some (.qz 26,false))
 (.q 30 (.fld 0) [.qz 29] (some (.qz 26,false))
 (.q 31 .ld [.qz 30] (some (.qz 26,false))
 (.q 32 (.icm .neq) [.qz 31,.qj 5] (some (.qz 26,false))
 (.Q 33 .pick [.qz 26,.const (.bool true),.qz 32]
 (.q 35 .mv [.qq 8] (some (.qz 33,false))
 (.q 36 (.ixs 51) [.qz 35,.qj 1] (some (.qz 33,false))
 (.q 37 (.fld 2) [.qz 36] (some (.qz 33,false))
 (.q 38 .ld [.qz 37] (some (.qz 33,false))
 (.q 39 (.icm .neq) [.qz 38,.qj 2] (some (.qz 33,false))
 (.Q 40 .pick [.qz 33,.const (.bool true),.qz 39]
 (.out (qx [1,2,4] [(103,.qz 40)])))))))))))))))))))))))))))))))))))
 [1,2,3,4,6,8]
abbrev ZQ:NC:=.reg
 (.out [(0,.const (.bool false))])
 []
abbrev Zy:NC:=.reg
 (.Q 1 (.ixs 1) [.qq 1,.qj 1]
 (.Q 2 .ld [.qz 1]
 (.Q 3 (.lda 2) [.qq 2]
 (.x 4 (.call 14) [.qz 2,.qz 3] none []
 (.out (qx [1,2,4] []))))))
 [1,2,4]
abbrev Zw:NC:=.reg
 (.Q 1 (.ixs 1) [.qq 1,.qj 1]
 (.Q 2 .ld [.qz 1]
 (.Q 4 (.ixs 1) [.qq 1,.qj 2]
 (.Q 5 .ld [.qz 4]
 (.x 6 (.call 12) [.qz 2,.qz 5,.qj 2] none []
 (.out (qx [1,2,4] [])))))))
 [1,2,4]
abbrev Zv:NC:=.reg
 (.Q 1 (.ixs 1) [.qq 1,.qj 2]
 (.Q 2 .ld [.qz 1]
 (.Q 4 (.ixs 1) [.qq 1,.qj 1]
 (.Q 5 .ld [.qz 4]
 (.x 6 (.call 12) [.qz 2,.qz 5,.qj 1] none []
 (.out (qx [1,2,4] [])))))))
 [1,2,4]
abbrev Zk:NC:=.reg
 (.Q 1 (.ixs 1) [.qq 1,.qj 1]
 (.Q 2 .ld [.qz 1]
 (.Q 3 (.lda 2) [.qq 2]
 (.both
 (.x 4 (.call 13) [.qz 2,.qz 3] none []
 (.Q 6 (.ext 0) [.qz 4]
 (.Q 7 (.ext 1) [.qz 4]
 (.x 8 (.alc [.int .i64 0,.int .i64 0,.int .i64 0,.int .i64 0,.int .i64 0,.int .i64 0,.int .i64 0,.int .i64 0,(.string ⟨#[]⟩),(.string ⟨#[]⟩),(.string ⟨#[]⟩),(.string ⟨#[]⟩),.int .i64 0,.int .i64 0,.int .i64 0,.int .i64 0,.int .i64 0,.int .i64 0,.int .i64 0,.int .i64 0,.bool false] 41) [] none [(2,.ld,[.qz 1],none),(3,.lda 2,[.qq 2],none)]
 (.x 9 (.st 21) [.qz 8,.qz 6] none []
 (.out (qx [1,4] [(9,.qz 8)])))))))
 (.x 8 (.alc [.int .i64 0,.int .i64 0,.int .i64 0,.int .i64 0,.int .i64 0,.int .i64 0,.int .i64 0,.int .i64 0,(.string ⟨#[]⟩),(.string ⟨#[]⟩),(.string ⟨#[]⟩),(.string ⟨#[]⟩),.int .i64 0,.int .i64 0,.int .i64 0,.int .i64 0,.int .i64 0,.int .i64 0,.int .i64 0,.int .i64 0,.bool false] 41) [] none [(2,.ld,[.qz 1],none),(3,.lda 2,[.qq 2],none)]
 (.x 4 (.call 13) [.qz 2,.qz 3] none []
 (.Q 6 (.ext 0) [.qz 4]
 (.Q 7 (.ext 1) [.qz 4]
 (.x 9 (.st 21) [.qz 8,.qz 6] none []
 (.out (qx [1,4] [(9,.qz 8)])))))))))))
 [1,2,4]
abbrev Zx:NC:=.reg
 (.Q 0 (.bld [.int .i64 0,.int .i64 0] [(1,1)]) [.qj 5]
 (.x 1 (.alc [.int .i64 0,.int .i64 0] 25) [] none []
 (.x 2 (.st 2) [.qz 1,.qz 0] none []
 (.out (qx [1,4,9] [(11,.qz 1)])))))
 [1,4,9]
abbrev Zj:NC:=.reg
 (.Q 1 (.ixs 1) [.qq 1,.qj 1]
 (.Q 2 .ld [.qz 1]
 (.x 3 (.call 15) [.qz 2] none []
 (.out (qx [1,4,9,11] [])))))
 [1,4,9,11]
abbrev Zz:NC:=.reg
 (.Q 1 (.ixs 1) [.qq 1,.qj 1]
 (.Q 2 .ld [.qz 1]
 (.Q 3 (.lda 2) [.qq 11]
 (.x 4 (.call 14) [.qz 2,.qz 3] none []
 (.out (qx [1,4,9,11] []))))))
 [1,4,9,11]
abbrev Zq:NC:=.reg
 (.out (qx [1,4,9,11] [(12,.qj 0)]))
 [1,4,9,11]
abbrev oz:NC:=.reg
 (.Q 1 (.icm .lss) [.qq 12,.qj 2]
 (.out (qx [1,4,9,11,12] [(142,.qz 1)])))
 [1,4,9,11,12]
abbrev oq:NC:=.reg
 (.Q 1 (.ixs 1) [.qq 1,.qj 1]
 (.Q 2 .ld [.qz 1]
 (.Q 4 (.ixs 1) [.qq 1,.qj 2]
 (.Q 5 .ld [.qz 4]
 (.x 6 (.call 12) [.qz 2,.qz 5,.qj 2] none []
 (.out (qx [1,4,9,11,12] [])))))))
 [1,4,9,11,12]
abbrev nU:NC:=.reg
 (.Q 1 (.ixs 1) [.qq 1,.qj 2]
 (.Q 2 .ld [.qz 1]
 (.Q 4 (.ixs 1) [.qq 1,.qj 1]
 (.Q 5 .ld [.qz 4]
 (.x 6 (.call 12) [.qz 2,.qz 5,.qj 1] none []
 (.out (qx [1,4,9,11,12] [])))))))
 [1,4,9,11,12]
abbrev nT:NC:=.reg
 (.Q 1 (.iar .add) [.qq 12,.qj 1]
 (.out (qx [1,4,9,11] [(12,.qz 1)])))
 [1,4,9,11,12]
abbrev Je:NC :=
 (.seq (.seq oz
 (.cond (.qq 142)
 .skip
 (.exit 0)))
 (.seq (.block 1 (.seq oq
 nU))
 nT))
abbrev QU:NC:=.reg
 (.Q 1 (.ixs 1) [.qq 1,.qj 1]
 (.Q 2 .ld [.qz 1]
 (.Q 3 (.lda 2) [.qq 11]
 (.both
 (.x 4 (.call 13) [.qz 2,.qz 3] none []
 (.Q 6 (.ext 0) [.qz 4]
 (.Q 7 (.ext 1) [.qz 4]
 (.x 8 (.alc [.int .i64 0,.int .i64 0,.int .i64 0,.int .i64 0,.int .i64 0,.int .i64 0,.int .i64 0,.int .i64 0,(.string ⟨#[]⟩),(.string ⟨#[]⟩),(.string ⟨#[]⟩),(.string ⟨#[]⟩),.int .i64 0,.int .i64 0,.int .i64 0,.int .i64 0,.int .i64 0,.int .i64 0,.int .i64 0,.int .i64 0,.bool false] 41) [] none [(2,.ld,[.qz 1],none),(3,.lda 2,[.qq 11],none)]
 (.x 9 (.st 21) [.qz 8,.qz 6] none []
 (.out (qx [4,9] [(13,.qz 8)])))))))
 (.x 8 (.alc [.int .i64 0,.int .i64 0,.int .i64 0,.int .i64 0,.int .i64 0,.int .i64 0,.int .i64 0,.int .i64 0,(.string ⟨#[]⟩),(.string ⟨#[]⟩),(.string ⟨#[]⟩),(.string ⟨#[]⟩),.int .i64 0,.int .i64 0,.int .i64 0,.int .i64 0,.int .i64 0,.int .i64 0,.int .i64 0,.int .i64 0,.bool false] 41) [] none [(2,.ld,[.qz 1],none),(3,.lda 2,[.qq 11],none)]
 (.x 4 (.call 13) [.qz 2,.qz 3] none []
 (.Q 6 (.ext 0) [.qz 4]
 (.Q 7 (.ext 1) [.qz 4]
 (.x 9 (.st 21) [.qz 8,.qz 6] none []
 (.out (qx [4,9] [(13,.qz 8)])))))))))))
 [1,4,9,11]
abbrev xO:NC:=.reg
 (.Q 0 (.fld 0) [.qq 9]
 (.Q 1 .ld [.qz 0]
 (.Q 2 (.icm .eql) [.qz 1,.qj 2]
 (.q 4 (.fld 5) [.qq 9] (some (.qz 2,true))
 (.q 5 (.lda 7) [.qz 4] (some (.qz 2,true))
 (.q 6 (.fld 5) [.qq 4] (some (.qz 2,true))
 (.q 7 (.lda 7) [.qz 6] (some (.qz 2,true))
 (.q 8 (.eqc false [.i .i64,.i .i64,.i .i64,.s,.s,.s,.s]) [.qz 5,.qz 7] (some (.qz 2,true))
 (.Q 9 .pick [.qz 2,.qz 8,.const (.bool false)]
 (.q 11 (.fld 12) [.qq 9] (some (.qz 9,true))
 (.q 12 (.lda 8) [.qz 11] (some (.qz 9,true))
 (.q 13 (.fld 12) [.qq 4] (some (.qz 9,true))
 (.q 14 (.lda 8) [.qz 13] (some (.qz 9,true))
 (.q 15 (.eqc false [.i .i64,.i .i64,.i .i64,.i .i64,.i .i64,.i .i64,.i .i64,.i .i64]) [.qz 12,.qz 14] (some (.qz 9,true))
 (.Q 16 .pick [.qz 9,.qz 15,.const (.bool false)]
 (.q 18 (.fld 0) [.qq 13] (some (.qz 16,true))
 (.q 19 .ld [.qz 18] (some (.qz 16,true))
 (.q 20 (.icm .eql) [.qz 19,.qj 3] (some (.qz 16,true))
 (.Q 21 .pick [.qz 16,.qz 20,.const (.bool false)]
 (.q 23 (.fld 5) [.qq 13] (some (.qz 21,true))
 (.q 24 (.lda 7) [.qz 23] (some (.qz 21,true))
 (.q 25 (.bld [.int .i64 0,.int .i64 0,.int .i64 0,(.string ⟨#[]⟩),(.string ⟨#[]⟩),(.string ⟨#[]⟩),(.string ⟨#[]⟩)] []) [] (some (.qz 21,true))
 (.q 26 (.eqc false [.i .i64,.i .i64,.i .i64,.s,.s,.s,.s]) [.qz 24,.qz 25] (some (.qz 21,true))
 (.Q 27 .pick [.qz 21,.qz 26,.const (.bool false)]
 (.q 29 (.fld 12) [.qq 13] (some (.qz 27,true))
 (.q 30 (.lda 8) [.qz 29] (some (.qz 27,true))
 (.q 31 (.bld zL2 [(0,1)]) [.qj 4] (some (.qz 27,true))
 (.q 32 (.bld zL0 [(1,7)]) [.qz 31] (some (.qz 27,true))
 (.q 33 (.eqc false [.i .i64,.i .i64,.i .i64,.i .i64,.i .i64,.i .i64,.i .i64,.i .i64]) [.qz 30,.qz 32] (some (.qz 27,true))
 (.Q 34 .pick [.qz 27,.qz 33,.const (.bool false)]
 (.out [(0,.qz 34)])))))))))))))))))))))))))))))))
 [4,9,13]
abbrev Xi:NC :=
 (.seq Yh
 (.seq Yg
 (.seq (.seq Yf
 (.cond (.qq 17)
 (.seq Ye
 .ret)
 .skip))
 (.seq Jd
 (.seq Jc
 (.seq Jb
 (.seq Ja
 (.seq JY
 (.seq JW
 (.seq (.seq ZZ
 (.cond (.qq 103)
 (.seq ZQ
 .ret)
 .skip))
 (.seq Zy
 (.seq Zw
 (.seq Zv
 (.seq Zk
 (.seq Zx
 (.seq Zj
 (.seq Zz
 (.seq (.seq Zq
 (.block 0 (.loop [1,4,9,11,12] Je)))
 (.seq QU
 (.seq xO
 .ret))))))))))))))))))))
abbrev aM:FN:=⟨Xi,[.qq 0]⟩
theorem rK:GoT 3 Tryz.f3 Xi aM:=goT (F:=aM) Tryz.func3 (by kernel_rfl)
abbrev Fc:NC:=.reg
 (.out [])
 []
abbrev Fb:NC:=.reg
 (.out [(1,.const (.slice none 0 0))])
 []
abbrev Fa:NC:=.reg
 (.out [(1,.qq 1),(2,.qj 0)])
 [1]
abbrev FY:NC:=.reg
 (.Q 1 (.icm .lss) [.qq 2,.qj 3]
 (.out (qx [1,2] [(6,.qz 1)])))
 [1,2]
abbrev FW:NC:=.reg
 (.Q 1 (.bld zL2 []) []
 (.x 2 (.call 24) [.qj 3,.qq 2,.qz 1,.const (.slice none 0 0)] none []
 (.Q 4 (.ext 0) [.qz 2]
 (.Q 5 (.ext 1) [.qz 2]
 (.out (qx [1,2] [(3,.qz 4),(4,.qz 5)]))))))
 [1,2]
abbrev FV:NC:=.reg
 (.Q 1 (.eqp false) [.qq 3,.const (.pointer none)]
 (.q 3 .mv [.qq 4] (some (.qz 1,false))
 (.q 4 (.icm .neq) [.qz 3,.qj 0] (some (.qz 1,false))
 (.Q 5 .pick [.qz 1,.const (.bool true),.qz 4]
 (.out (qx [1,2,3] [(20,.qz 5)]))))))
 [1,2,3,4]
abbrev FK:NC:=.reg
 (.out [(0,.const (.slice none 0 0))])
 []
abbrev FX:NC:=.reg
 (.x 2 (.bsl 27 1 [.pointer none] [(0,1)]) [.qq 3] none []
 (.x 3 (.app 27 1 8 [.pointer none]) [.qq 1,.qz 2] none []
 (.out [(1,.qz 3),(2,.qq 2)])))
 [1,2,3]
abbrev FJ:NC:=.reg
 (.Q 1 (.iar .add) [.qq 2,.qj 1]
 (.out [(1,.qq 1),(2,.qz 1)]))
 [1,2]
abbrev Fe:NC :=
 (.seq (.seq FY
 (.cond (.qq 6)
 .skip
 (.exit 0)))
 (.seq (.block 1 (.seq FW
 (.seq (.seq FV
 (.cond (.qq 20)
 (.seq FK
 .ret)
 .skip))
 FX)))
 FJ))
abbrev FZ:NC:=.reg
 (.out [(0,.qq 1)])
 [1]
abbrev lR:NC :=
 (.seq Fc
 (.seq Fb
 (.seq (.seq Fa
 (.block 0 (.loop [1,2] Fe)))
 (.seq FZ
 .ret))))
abbrev lS:FN:=⟨lR,[.qq 0]⟩
theorem Ff:GoT 9 Tryz.f9 lR lS:=goT (F:=lS) Tryz.func9 (by kernel_rfl)
abbrev Nx:NC:=.reg
 (.x 0 (.alc [.int .i64 0,.int .i64 0,.int .i64 0,(.string ⟨#[]⟩),(.string ⟨#[]⟩),(.string ⟨#[]⟩),(.string ⟨#[]⟩)] 30) [] none []
 (.out (qx [0,1,2] [(6,.qz 0)])))
 [0,1,2]
abbrev Nj:NC:=.reg
 (.Q 3 (.bld [.int .i64 0,.int .i64 0,.int .i64 0,(.string ⟨#[]⟩),(.string ⟨#[]⟩),(.string ⟨#[]⟩),(.string ⟨#[]⟩)] [(0,1),(1,1),(2,1),(3,1)]) [.qj 2,.qq 0,.qq 1,.qq 2]
 (.x 4 (.st 7) [.qq 6,.qz 3] none []
 (.out [(6,.qq 6)])))
 [0,1,2,6]
abbrev An:NC :=
 (.seq Nx
 (.seq Nj
 .ret))
abbrev Ao:FN:=⟨An,[.cells 6 7]⟩
theorem Nk:GoT 11 Tryz.f11 An Ao:=goT (F:=Ao) Tryz.func11 (by kernel_rfl)
abbrev HL:NC:=.reg
 (.out (qx [0,1,2] []))
 [0,1,2]
abbrev HI:NC:=.reg
 (.x 1 (.call 15) [.qq 0] none []
 (.Q 3 (.ext 0) [.qz 1]
 (.Q 4 (.ext 1) [.qz 1]
 (.out (qx [1,2] [(8,.qz 4)])))))
 [0,1,2]
abbrev HH:NC:=.reg
 (.out (qx [1,2,8] [(9,.qj 0)]))
 [1,2,8]
abbrev HG:NC:=.reg
 (.Q 2 .len [.qq 8]
 (.Q 3 (.icm .lss) [.qq 9,.qz 2]
 (.out (qx [1,2,8,9] [(18,.qz 3)]))))
 [1,2,8,9]
abbrev HF:NC:=.reg
 (.Q 2 (.ixs 51) [.qq 8,.qq 9]
 (.Q 3 (.fld 2) [.qz 2]
 (.Q 4 .ld [.qz 3]
 (.Q 6 (.icm .eql) [.qz 4,.qq 2]
 (.out (qx [1,2,8,9] [(27,.qz 6)]))))))
 [1,2,8,9]
abbrev HE:NC:=.reg
 (.Q 3 (.ixs 51) [.qq 8,.qq 9]
 (.Q 4 (.lda 51) [.qz 3]
 (.x 5 (.call 20) [.qq 1,.qz 4] none []
 (.out (qx [1,2,8,9] [])))))
 [1,2,8,9]
abbrev HD:NC:=.reg
 (.Q 1 (.iar .add) [.qq 9,.qj 1]
 (.out (qx [1,2,8] [(9,.qz 1)])))
 [1,2,8,9]
abbrev HM:NC :=
 (.seq (.seq HG
 (.cond (.qq 18)
 .skip
 (.exit 0)))
 (.seq (.block 1 (.seq HF
 (.cond (.qq 27)
 HE
 .skip)))
 HD))
abbrev HC:NC:=.reg
 (.out [(6,.qq 8)])
 [8]
abbrev rJ:NC :=
 (.seq HL
 (.seq HI
 (.seq (.seq HH
 (.block 0 (.loop [1,2,8,9] HM)))
 (.seq HC
 .ret))))
abbrev rX:FN:=⟨rJ,[.qq 6]⟩
theorem lT:GoT 12 Tryz.f12 rJ rX:=goT (F:=rX) Tryz.func12 (by kernel_rfl)
abbrev Fu:NC:=.reg
 (.out [(0,.qq 0)])
 [0]
abbrev Ft:NC:=.reg
 (.Q 1 (.bld [.int .i64 0,.slice none 0 0,.slice none 0 0,.slice none 0 0] [(0,1)]) [.qq 0]
 (.x 2 (.box 57) [.qz 1] none []
 (.out [(0,.qq 0),(3,.qz 2)])))
 [0]
abbrev Fs:NC:=.reg
 (.out (qx [0,3] [(4,.qj 0)]))
 [0,3]
abbrev Fp:NC:=.reg
 (.Q 2 (.icm .lss) [.qq 4,.qq 0]
 (.out (qx [0,3,4] [(12,.qz 2)])))
 [0,3,4]
abbrev Fo:NC:=.reg
 (.Q 2 (.bld zL2 []) []
 (.x 3 (.call 24) [.qq 0,.qq 4,.qz 2,.const (.slice none 0 0)] none []
 (.Q 5 (.ext 0) [.qz 3]
 (.Q 6 (.ext 1) [.qz 3]
 (.out (qx [0,3,4] [(5,.qz 5),(6,.qz 6)]))))))
 [0,3,4]
abbrev Fm:NC:=.reg
 (.Q 1 (.eqp false) [.qq 5,.const (.pointer none)]
 (.q 3 .mv [.qq 6] (some (.qz 1,false))
 (.q 4 (.icm .neq) [.qz 3,.qj 0] (some (.qz 1,false))
 (.Q 5 .pick [.qz 1,.const (.bool true),.qz 4]
 (.out (qx [0,3,4,5] [(27,.qz 5)]))))))
 [0,3,4,5,6]
abbrev Fl:NC:=.reg
 (.out [(2,.const (.pointer none))])
 []
abbrev Fi:NC:=.reg
 (.Q 3 .nilck [.qq 3]
 (.Q 4 (.fld 1) [.qz 3]
 (.Q 5 .ld [.qz 4]
 (.Q 10 .nilck [.qq 3]
 (.Q 11 (.fld 2) [.qz 10]
 (.Q 12 .ld [.qz 11]
 (.both
 (.x 7 (.bsl 27 1 [.pointer none] [(0,1)]) [.qq 5] none [(5,.ld,[.qz 4],none),(12,.ld,[.qz 11],none)]
 (.both
 (.x 8 (.app 27 1 8 [.pointer none]) [.qz 5,.qz 7] none [(12,.ld,[.qz 11],none)]
 (.x 13 (.bsl 47 1 [.slice none 0 0] [(0,1)]) [.const (.slice none 0 0)] none [(5,.ld,[.qz 4],none),(12,.ld,[.qz 11],none)]
 (.x 14 (.app 47 1 24 [.slice none 0 0]) [.qz 12,.qz 13] none []
 (.Q 15 .nilck [.qq 3]
 (.Q 16 (.fld 1) [.qz 15]
 (.x 17 (.st 1) [.qz 16,.qz 8] none []
 (.Q 18 .nilck [.qq 3]
 (.Q 19 (.fld 2) [.qz 18]
 (.x 20 (.st 1) [.qz 19,.qz 14] none []
 (.out (qx [0,3,4] [])))))))))))
 (.x 13 (.bsl 47 1 [.slice none 0 0] [(0,1)]) [.const (.slice none 0 0)] none [(5,.ld,[.qz 4],none),(12,.ld,[.qz 11],none)]
 (.x 8 (.app 27 1 8 [.pointer none]) [.qz 5,.qz 7] none [(12,.ld,[.qz 11],none)]
 (.x 14 (.app 47 1 24 [.slice none 0 0]) [.qz 12,.qz 13] none []
 (.Q 15 .nilck [.qq 3]
 (.Q 16 (.fld 1) [.qz 15]
 (.x 17 (.st 1) [.qz 16,.qz 8] none []
 (.Q 18 .nilck [.qq 3]
 (.Q 19 (.fld 2) [.qz 18]
 (.x 20 (.st 1) [.qz 19,.qz 14] none []
 (.out (qx [0,3,4] [])))))))))))))
 (.x 13 (.bsl 47 1 [.slice none 0 0] [(0,1)]) [.const (.slice none 0 0)] none [(5,.ld,[.qz 4],none),(12,.ld,[.qz 11],none)]
 (.x 7 (.bsl 27 1 [.pointer none] [(0,1)]) [.qq 5] none [(5,.ld,[.qz 4],none),(12,.ld,[.qz 11],none)]
 (.x 8 (.app 27 1 8 [.pointer none]) [.qz 5,.qz 7] none [(12,.ld,[.qz 11],none)]
 (.x 14 (.app 47 1 24 [.slice none 0 0]) [.qz 12,.qz 13] none []
 (.Q 15 .nilck [.qq 3]
 (.Q 16 (.fld 1) [.qz 15]
 (.x 17 (.st 1) [.qz 16,.qz 8] none []
 (.Q 18 .nilck [.qq 3]
 (.Q 19 (.fld 2) [.qz 18]
 (.x 20 (.st 1) [.qz 19,.qz 14] none []
 (.out (qx [0,3,4] [])))))))))))))))))))
 [0,3,4,5]
abbrev Fh:NC:=.reg
 (.Q 1 (.iar .add) [.qq 4,.qj 1]
 (.out (qx [0,3] [(4,.qz 1)])))
 [0,3,4]
abbrev FA:NC :=
 (.seq (.seq Fp
 (.cond (.qq 12)
 .skip
 (.exit 0)))
 (.seq (.block 1 (.seq Fo
 (.seq (.seq Fm
 (.cond (.qq 27)
 (.seq Fl
 .ret)
 .skip))
 Fi)))
 Fh))
abbrev Fg:NC:=.reg
 (.out [(2,.qq 3)])
 [3]
abbrev lU:NC :=
 (.seq Fu
 (.seq Ft
 (.seq (.seq Fs
 (.block 0 (.loop [0,3,4] FA)))
 (.seq Fg
 .ret))))
abbrev mq:FN:=⟨lU,[.qq 2]⟩
theorem FB:GoT 16 Tryz.f16 lU mq:=goT (F:=mq) Tryz.func16 (by kernel_rfl)
abbrev Gc:NC:=.reg
 (.out (qx [0,1,2] []))
 [0,1,2]
abbrev Gb:NC:=.reg
 (.Q 3 (.iar .sub) [.qq 2,.qq 1]
 (.Q 4 (.iar .add) [.qz 3,.qj 1]
 (.Q 5 (.idv .rem) [.qq 0,.qz 4]
 (.out [(0,.qz 5),(1,.qq 1),(2,.qq 2)]))))
 [0,1,2]
abbrev Ga:NC:=.reg
 (.Q 1 (.icm .lss) [.qq 0,.qj 0]
 (.out (qx [0,1,2] [(14,.qz 1)])))
 [0,1,2]
abbrev GY:NC:=.reg
 (.Q 2 (.iar .add) [.qq 0,.qq 2]
 (.Q 4 (.iar .sub) [.qz 2,.qq 1]
 (.Q 5 (.iar .add) [.qz 4,.qj 1]
 (.out [(0,.qz 5),(1,.qq 1)]))))
 [0,1,2]
abbrev GW:NC:=.reg
 (.Q 2 (.iar .add) [.qq 1,.qq 0]
 (.out [(6,.qz 2)]))
 [0,1]
abbrev mJ:NC :=
 (.seq Gc
 (.seq Gb
 (.seq (.seq Ga
 (.cond (.qq 14)
 GY
 .skip))
 (.seq GW
 .ret))))
abbrev mX:FN:=⟨mJ,[.qq 6]⟩
theorem Ge:GoT 17 Tryz.f17 mJ mX:=goT (F:=mX) Tryz.func17 (by kernel_rfl)
abbrev fz:NC:=.reg
 (.Q 1 .nilck [.qq 0]
 (.Q 2 (.fld 1) [.qz 1]
 (.Q 3 .ld [.qz 2]
 (.Q 5 (.ixs 1) [.qz 3,.qq 1]
 (.Q 6 .ld [.qz 5]
 (.x 7 (.call 15) [.qz 6] none []
 (.Q 9 (.ext 0) [.qz 7]
 (.Q 10 (.ext 1) [.qz 7]
 (.out (qx [0,1,2] [(6,.qz 9),(7,.qz 10)]))))))))))
 [0,1,2]
abbrev fq:NC:=.reg
 (.Q 1 .nilck [.qq 0]
 (.Q 2 (.fld 2) [.qz 1]
 (.Q 3 .ld [.qz 2]
 (.Q 6 .nilck [.qq 0]
 (.Q 7 (.fld 2) [.qz 6]
 (.Q 8 .ld [.qz 7]
 (.Q 10 (.ixs 1) [.qz 8,.qq 1]
 (.Q 11 .ld [.qz 10]
 (.x 13 (.app 113 1 24 [.slice none 0 0]) [.qz 11,.qq 6] none [(3,.ld,[.qz 2],none)]
 (.Q 14 (.ixs 1) [.qz 3,.qq 1]
 (.x 15 (.st 1) [.qz 14,.qz 13] none []
 (.out (qx [0,2,7] [])))))))))))))
 [0,1,2,6,7]
abbrev eU:NC:=.reg
 (.Q 1 .nilck [.qq 0]
 (.Q 2 (.fld 3) [.qz 1]
 (.Q 3 .ld [.qz 2]
 (.Q 4 .len [.qz 3]
 (.Q 6 (.icm .lss) [.qz 4,.qq 2]
 (.out (qx [0,7] [(40,.qz 6)])))))))
 [0,2,7]
abbrev eT:NC:=.reg
 (.Q 2 .nilck [.qq 0]
 (.Q 3 (.fld 3) [.qz 2]
 (.Q 4 .ld [.qz 3]
 (.x 6 (.app 45 51 480 [.int .i64 0,.int .i64 0,.int .i64 0,.int .i64 0,.int .i64 0,.int .i64 0,.int .i64 0,.int .i64 0,.int .i64 0,.int .i64 0,(.string ⟨#[]⟩),(.string ⟨#[]⟩),(.string ⟨#[]⟩),(.string ⟨#[]⟩),.int .i64 0,.int .i64 0,.int .i64 0,.int .i64 0,.int .i64 0,.int .i64 0,.int .i64 0,.int .i64 0,.int .i64 0,.int .i64 0,.int .i64 0,.int .i64 0,.int .i64 0,.int .i64 0,.int .i64 0,.int .i64 0,(.string ⟨#[]⟩),(.string ⟨#[]⟩),(.string ⟨#[]⟩),(.string ⟨#[]⟩),.int .i64 0,.int .i64 0,.int .i64 0,.int .i64 0,.int .i64 0,.int .i64 0,.int .i64 0,.int .i64 0,.bool false,.int .i64 0,.int .i64 0,.int .i64 0,.int .i64 0,.int .i64 0,.int .i64 0,.int .i64 0,(.string ⟨#[]⟩)]) [.qz 4,.qq 7] none []
 (.Q 7 .nilck [.qq 0]
 (.Q 8 (.fld 3) [.qz 7]
 (.x 9 (.st 1) [.qz 8,.qz 6] none []
 (.out []))))))))
 [0,7]
abbrev KR:NC :=
 (.seq fz
 (.seq fq
 (.seq eU
 (.cond (.qq 40)
 eT
 .skip))))
abbrev KS:FN:=⟨KR,[]⟩
theorem fj:GoT 19 Tryz.f19 KR KS:=goT (F:=KS) Tryz.func19 (by kernel_rfl)
abbrev KP:NC:=.reg
 (.x 0 (.box 66) [.qq 1] none []
 (.out [(0,.qq 0),(3,.qz 0)]))
 [0,1]
abbrev KO:NC:=.reg
 (.Q 0 (.fld 1) [.qq 3]
 (.Q 1 .ld [.qz 0]
 (.Q 3 .nilck [.qq 0]
 (.Q 4 (.fld 0) [.qz 3]
 (.Q 5 .ld [.qz 4]
 (.Q 6 (.iar .sub) [.qz 5,.qj 1]
 (.x 7 (.call 17) [.qz 1,.qj 0,.qz 6] none []
 (.out (qx [0,3] [(5,.qz 7)])))))))))
 [0,3]
abbrev KN:NC:=.reg
 (.out [(0,.qq 0),(3,.qq 3),(5,.qq 5),(6,(.const (.int .i64 (-1))))])
 [0,3,5]
abbrev KM:NC:=.reg
 (.Q 1 .nilck [.qq 0]
 (.Q 2 (.fld 3) [.qz 1]
 (.Q 3 .ld [.qz 2]
 (.Q 4 .len [.qz 3]
 (.Q 5 (.icm .gtr) [.qz 4,.qj 0]
 (.out (qx [0,3,5,6] [(23,.qz 5)])))))))
 [0,3,5,6]
abbrev KL:NC:=.reg
 (.Q 0 (.fld 2) [.qq 3]
 (.Q 1 .ld [.qz 0]
 (.Q 3 .nilck [.qq 0]
 (.Q 4 (.fld 3) [.qz 3]
 (.Q 5 .ld [.qz 4]
 (.Q 6 .len [.qz 5]
 (.Q 7 (.iar .sub) [.qz 6,.qj 1]
 (.x 8 (.call 17) [.qz 1,.qj 0,.qz 7] none []
 (.out (qx [0,3,5] [(6,.qz 8)]))))))))))
 [0,3,5]
abbrev yI:NC:=.reg
 (.Q 0 (.fld 0) [.qq 3]
 (.Q 1 .ld [.qz 0]
 (.out (qx [0,3,5,6] [(34,.qz 1)]))))
 [0,3,5,6]
abbrev yH:NC:=.reg
 (.Q 0 (.icm .eql) [.qq 34,.qj 1]
 (.out (qx [0,3,5,6,34] [(35,.qz 0)])))
 [0,3,5,6,34]
abbrev jf:NC:=.reg
 (.Q 1 .nilck [.qq 0]
 (.Q 2 (.fld 1) [.qz 1]
 (.Q 3 .ld [.qz 2]
 (.Q 5 (.ixs 1) [.qz 3,.qq 5]
 (.Q 6 .ld [.qz 5]
 (.Q 7 (.fld 3) [.qq 3]
 (.Q 8 (.lda 7) [.qz 7]
 (.x 9 (.call 10) [.qz 6,.qz 8] none []
 (.out (qx [0,5] []))))))))))
 [0,3,5]
abbrev yG:NC:=.reg
 (.Q 0 (.icm .eql) [.qq 34,.qj 2]
 (.out (qx [0,3,5,6,34] [(47,.qz 0)])))
 [0,3,5,6,34]
abbrev yF:NC:=.reg
 (.Q 0 (.icm .eql) [.qq 34,.qj 3]
 (.out (qx [0,3,5,6,34] [(47,.qz 0)])))
 [0,3,5,6,34]
abbrev wJ:NC:=.reg
 (.Q 0 (.icm .eql) [.qq 34,.qj 4]
 (.out (qx [0,3,5,6,34] [(47,.qz 0)])))
 [0,3,5,6,34]
abbrev wZ:NC:=.reg
 (.Q 1 (.icm .lss) [.qq 6,.qj 0]
 (.out (qx [0,3,5,6] [(52,.qz 1)])))
 [0,3,5,6]
abbrev wQ:NC:=.reg
 (.out [(4,.const (.bool true))])
 []
abbrev wy:NC:=.reg
 (.Q 1 .nilck [.qq 0]
 (.Q 2 (.fld 3) [.qz 1]
 (.Q 3 .ld [.qz 2]
 (.Q 5 (.ixs 51) [.qz 3,.qq 6]
 (.Q 6 (.lda 51) [.qz 5]
 (.x 7 (.alc [.int .i64 0,.int .i64 0,.int .i64 0,.int .i64 0,.int .i64 0,.int .i64 0,.int .i64 0,.int .i64 0,.int .i64 0,.int .i64 0,(.string ⟨#[]⟩),(.string ⟨#[]⟩),(.string ⟨#[]⟩),(.string ⟨#[]⟩),.int .i64 0,.int .i64 0,.int .i64 0,.int .i64 0,.int .i64 0,.int .i64 0,.int .i64 0,.int .i64 0,.int .i64 0,.int .i64 0,.int .i64 0,.int .i64 0,.int .i64 0,.int .i64 0,.int .i64 0,.int .i64 0,(.string ⟨#[]⟩),(.string ⟨#[]⟩),(.string ⟨#[]⟩),(.string ⟨#[]⟩),.int .i64 0,.int .i64 0,.int .i64 0,.int .i64 0,.int .i64 0,.int .i64 0,.int .i64 0,.int .i64 0,.bool false,.int .i64 0,.int .i64 0,.int .i64 0,.int .i64 0,.int .i64 0,.int .i64 0,.int .i64 0,(.string ⟨#[]⟩)] 45) [] none []
 (.x 8 (.st 51) [.qz 7,.qz 6] none []
 (.out (qx [0,3,5,6] [(7,.qz 7)])))))))))
 [0,3,5,6]
abbrev ww:NC:=.reg
 (.Q 0 (.fld 0) [.qq 3]
 (.Q 1 .ld [.qz 0]
 (.Q 2 (.icm .neq) [.qz 1,.qj 4]
 (.out (qx [0,3,5,6,7] [(62,.qz 2)])))))
 [0,3,5,6,7]
abbrev jV:NC:=.reg
 (.Q 3 .nilck [.qq 0]
 (.Q 4 (.fld 3) [.qz 3]
 (.Q 5 .ld [.qz 4]
 (.Q 7 (.slc 51 false true) [.qz 5,.qq 6]
 (.Q 10 .nilck [.qq 0]
 (.Q 11 (.fld 3) [.qz 10]
 (.Q 12 .ld [.qz 11]
 (.Q 14 (.iar .add) [.qq 6,.qj 1]
 (.Q 15 (.slc 51 true false) [.qz 12,.qz 14]
 (.x 1 (.bsl 45 0 [] []) [] none [(5,.ld,[.qz 4],none),(12,.ld,[.qz 11],none)]
 (.x 8 (.app 45 51 480 [.int .i64 0,.int .i64 0,.int .i64 0,.int .i64 0,.int .i64 0,.int .i64 0,.int .i64 0,.int .i64 0,.int .i64 0,.int .i64 0,(.string ⟨#[]⟩),(.string ⟨#[]⟩),(.string ⟨#[]⟩),(.string ⟨#[]⟩),.int .i64 0,.int .i64 0,.int .i64 0,.int .i64 0,.int .i64 0,.int .i64 0,.int .i64 0,.int .i64 0,.int .i64 0,.int .i64 0,.int .i64 0,.int .i64 0,.int .i64 0,.int .i64 0,.int .i64 0,.int .i64 0,(.string ⟨#[]⟩),(.string ⟨#[]⟩),(.string ⟨#[]⟩),(.string ⟨#[]⟩),.int .i64 0,.int .i64 0,.int .i64 0,.int .i64 0,.int .i64 0,.int .i64 0,.int .i64 0,.int .i64 0,.bool false,.int .i64 0,.int .i64 0,.int .i64 0,.int .i64 0,.int .i64 0,.int .i64 0,.int .i64 0,(.string ⟨#[]⟩)]) [.qz 1,.qz 7] none [(12,.ld,[.qz 11],none)]
 (.x 16 (.app 45 51 480 [.int .i64 0,.int .i64 0,.int .i64 0,.int .i64 0,.int .i64 0,.int .i64 0,.int .i64 0,.int .i64 0,.int .i64 0,.int .i64 0,(.string ⟨#[]⟩),(.string ⟨#[]⟩),(.string ⟨#[]⟩),(.string ⟨#[]⟩),.int .i64 0,.int .i64 0,.int .i64 0,.int .i64 0,.int .i64 0,.int .i64 0,.int .i64 0,.int .i64 0,.int .i64 0,.int .i64 0,.int .i64 0,.int .i64 0,.int .i64 0,.int .i64 0,.int .i64 0,.int .i64 0,(.string ⟨#[]⟩),(.string ⟨#[]⟩),(.string ⟨#[]⟩),(.string ⟨#[]⟩),.int .i64 0,.int .i64 0,.int .i64 0,.int .i64 0,.int .i64 0,.int .i64 0,.int .i64 0,.int .i64 0,.bool false,.int .i64 0,.int .i64 0,.int .i64 0,.int .i64 0,.int .i64 0,.int .i64 0,.int .i64 0,(.string ⟨#[]⟩)]) [.qz 8,.qz 15] none []
 (.Q 17 .nilck [.qq 0]
 (.Q 18 (.fld 3) [.qz 17]
 (.x 19 (.st 1) [.qz 18,.qz 16] none []
 (.out (qx [0,3,5,7] [])))))))))))))))))
 [0,3,5,6,7]
abbrev jK:NC:=.reg
 (.Q 0 (.fld 0) [.qq 3]
 (.Q 1 .ld [.qz 0]
 (.Q 2 (.icm .neq) [.qz 1,.qj 3]
 (.out (qx [0,5,7] [(84,.qz 2)])))))
 [0,3,5,7]
abbrev zp:NC:=.reg
 (.Q 0 (.fld 2) [.qq 7]
 (.Q 1 .ld [.qz 0]
 (.out [(0,.qq 0),(5,.qz 1),(7,.qq 7)])))
 [0,7]
abbrev zk:NC:=.reg
 (.Q 1 .nilck [.qq 0]
 (.Q 2 (.fld 1) [.qz 1]
 (.Q 3 .ld [.qz 2]
 (.Q 5 (.ixs 1) [.qz 3,.qq 5]
 (.Q 6 .ld [.qz 5]
 (.Q 7 (.lda 51) [.qq 7]
 (.x 8 (.call 20) [.qz 6,.qz 7] none []
 (.out (qx [0,5] [])))))))))
 [0,5,7]
abbrev wk:NC:=.reg
 (.Q 0 (.icm .eql) [.qq 34,.qj 5]
 (.out (qx [0,3,5,34] [(96,.qz 0)])))
 [0,3,5,34]
abbrev jX:NC:=.reg
 (.Q 1 .nilck [.qq 0]
 (.Q 2 (.fld 1) [.qz 1]
 (.Q 3 .ld [.qz 2]
 (.Q 5 (.ixs 1) [.qz 3,.qq 5]
 (.Q 6 .ld [.qz 5]
 (.x 7 (.call 26) [.qz 6] none []
 (.out (qx [0,5] []))))))))
 [0,5]
abbrev wx:NC:=.reg
 (.Q 0 (.icm .eql) [.qq 34,.qj 6]
 (.out (qx [0,3,5,34] [(106,.qz 0)])))
 [0,3,5,34]
abbrev jJ:NC:=.reg
 (.Q 1 .nilck [.qq 0]
 (.Q 2 (.fld 1) [.qz 1]
 (.Q 3 .ld [.qz 2]
 (.Q 5 (.ixs 1) [.qz 3,.qq 5]
 (.Q 6 .ld [.qz 5]
 (.Q 7 (.fld 10) [.qq 3]
 (.Q 8 (.lda 2) [.qz 7]
 (.x 9 (.call 14) [.qz 6,.qz 8] none []
 (.out (qx [0,5] []))))))))))
 [0,3,5]
abbrev wj:NC:=.reg
 (.Q 0 (.icm .eql) [.qq 34,.qj 7]
 (.out (qx [0,5] [(118,.qz 0)])))
 [0,5,34]
abbrev wz:NC:=.reg
 (.Q 1 .nilck [.qq 0]
 (.Q 2 (.fld 0) [.qz 1]
 (.Q 3 .ld [.qz 2]
 (.Q 5 (.bld zL2 []) []
 (.Q 7 .nilck [.qq 0]
 (.Q 8 (.fld 2) [.qz 7]
 (.Q 9 .ld [.qz 8]
 (.Q 11 (.ixs 1) [.qz 9,.qq 5]
 (.Q 12 .ld [.qz 11]
 (.x 13 (.call 24) [.qz 3,.qq 5,.qz 5,.qz 12] none []
 (.Q 15 (.ext 0) [.qz 13]
 (.Q 16 (.ext 1) [.qz 13]
 (.out (qx [0,5] [(8,.qz 15),(9,.qz 16)]))))))))))))))
 [0,5]
abbrev wq:NC:=.reg
 (.Q 1 (.eqp false) [.qq 8,.const (.pointer none)]
 (.q 3 .mv [.qq 9] (some (.qz 1,false))
 (.q 4 (.icm .neq) [.qz 3,.qj 0] (some (.qz 1,false))
 (.Q 5 .pick [.qz 1,.const (.bool true),.qz 4]
 (.out (qx [0,5,8] [(142,.qz 5)]))))))
 [0,5,8,9]
abbrev vU:NC:=.reg
 (.out [(4,.const (.bool false))])
 []
abbrev vT:NC:=.reg
 (.Q 1 .nilck [.qq 0]
 (.Q 2 (.fld 1) [.qz 1]
 (.Q 3 .ld [.qz 2]
 (.Q 6 (.ixs 1) [.qz 3,.qq 5]
 (.x 7 (.st 1) [.qz 6,.qq 8] none []
 (.out (qx [0,5] [])))))))
 [0,5,8]
abbrev XR:NC:=.reg
 (.x 2 (.call 19) [.qq 0,.qq 5,.qj 300] none []
 (.out []))
 [0,5]
abbrev XP:NC:=.reg
 (.out [(4,.const (.bool true))])
 []
abbrev QT:NC :=
 (.seq KP
 (.seq KO
 (.seq KN
 (.seq (.seq KM
 (.cond (.qq 23)
 KL
 .skip))
 (.seq (.seq yI
 (.block 0 (.seq yH
 (.cond (.qq 35)
 jf
 (.seq (.seq yG
 (.cond (.qq 47)
 .skip
 (.seq yF
 (.cond (.qq 47)
 .skip
 wJ))))
 (.cond (.qq 47)
 (.seq (.seq wZ
 (.cond (.qq 52)
 (.seq wQ
 .ret)
 .skip))
 (.seq wy
 (.seq (.seq ww
 (.cond (.qq 62)
 jV
 .skip))
 (.seq jK
 (.cond (.qq 84)
 (.seq zp
 zk)
 .skip)))))
 (.seq wk
 (.cond (.qq 96)
 jX
 (.seq wx
 (.cond (.qq 106)
 jJ
 (.seq wj
 (.cond (.qq 118)
 (.seq wz
 (.seq (.seq wq
 (.cond (.qq 142)
 (.seq vU
 .ret)
 .skip))
 vT))
 .skip))))))))))))
 (.seq XR
 (.seq XP
 .ret)))))))
abbrev VS:FN:=⟨QT,[.qq 4]⟩
theorem iN:GoT 22 Tryz.f22 QT VS:=goT (F:=VS) Tryz.func22 (by kernel_rfl)
end Go.Fw
