import Derived.Test.YtimedjfpihdffaaGreatCd
set_option linter.unusedVariables false
set_option linter.unusedSimpArgs false
set_option maxHeartbeats 16000000
namespace Go.Fw
open Go.Proofs
abbrev VZ:NC:=.reg
 (.x 0 (.box 30) [.qq 1] none []
 (.x 1 (.alc [.int .i64 0,.int .i64 0] 25) [] none []
 (.out [(0,.qq 0),(3,.qz 0),(4,.qz 1)])))
 [0,1]
abbrev VQ:NC:=.reg
 (.Q 1 .nilck [.qq 0]
 (.Q 2 (.fld 1) [.qz 1]
 (.Q 3 .ld [.qz 2]
 (.Q 5 .nilck [.qq 0]
 (.Q 6 (.fld 2) [.qz 5]
 (.Q 7 .ld [.qz 6]
 (.Q 10 .nilck [.qq 0]
 (.Q 11 (.fld 1) [.qz 10]
 (.Q 12 .ld [.qz 11]
 (.both
 (.x 8 (.call 28) [.qz 7] none [(3,.ld,[.qz 2],none),(12,.ld,[.qz 11],none)]
 (.Q 13 (.idx 7 1) [.qz 8,.qz 12]
 (.Q 14 (.iar .add) [.qz 13,.qj 1]
 (.Q 15 (.bld [.int .i64 0,.int .i64 0] [(0,1),(1,1)]) [.qz 3,.qz 14]
 (.x 16 (.alc [.int .i64 0,.int .i64 0] 25) [] none [(3,.ld,[.qz 2],none),(7,.ld,[.qz 6],none),(12,.ld,[.qz 11],none)]
 (.x 17 (.st 2) [.qz 16,.qz 15] none []
 (.out (qx [0,3,4] [(6,.qz 16)]))))))))
 (.x 16 (.alc [.int .i64 0,.int .i64 0] 25) [] none [(3,.ld,[.qz 2],none),(7,.ld,[.qz 6],none),(12,.ld,[.qz 11],none)]
 (.x 8 (.call 28) [.qz 7] none [(3,.ld,[.qz 2],none),(12,.ld,[.qz 11],none)]
 (.Q 13 (.idx 7 1) [.qz 8,.qz 12]
 (.Q 14 (.iar .add) [.qz 13,.qj 1]
 (.Q 15 (.bld [.int .i64 0,.int .i64 0] [(0,1),(1,1)]) [.qz 3,.qz 14]
 (.x 17 (.st 2) [.qz 16,.qz 15] none []
 (.out (qx [0,3,4] [(6,.qz 16)]))))))))))))))))))
 [0,3,4]
abbrev wK:NC:=.reg
 (.Q 0 (.lda 7) [.qq 3]
 (.x 1 (.call 18) [.qz 0] none []
 (.Q 2 .not [.qz 1]
 (.q 4 (.fld 0) [.qq 3] (some (.qz 2,false))
 (.q 5 .ld [.qz 4] (some (.qz 2,false))
 (.q 6 (.icm .eql) [.qz 5,.qj 0] (some (.qz 2,false))
 (.Q 7 .pick [.qz 2,.const (.bool true),.qz 6]
 (.q 9 (.fld 1) [.qq 6] (some (.qz 7,false))
 (.q 10 .ld [.qz 9] (some (.qz 7,false))
 (.q 11 (.icm .gtr) [.qz 10,.qj 1073741824] (some (.qz 7,false))
 (.Q 12 .pick [.qz 7,.const (.bool true),.qz 11]
 (.q 14 .mv [.qq 0] (some (.qz 12,false))
 (.q 15 .nilck [.qz 14] (some (.qz 12,false))
 (.q 16 (.fld 4) [.qz 15] (some (.qz 12,false))
 (.q 17 .ld [.qz 16] (some (.qz 12,false))
 (.q 18 .len [.qz 17] (some (.qz 12,false))
 (.q 19 (.icm .geq) [.qz 18,.qj 256] (some (.qz 12,false))
 (.Q 20 .pick [.qz 12,.const (.bool true),.qz 19]
 (.out (qx [0,3,4,6] [(44,.qz 20)]))))))))))))))))))))
 [0,3,4,6]
abbrev wX:NC:=.reg
 (.Q 0 (.bld [.int .i64 0,.int .i64 0] []) []
 (.x 1 (.st 2) [.qq 4,.qz 0] none []
 (.out [(4,.qq 4),(5,.const (.bool false))])))
 [4]
abbrev jV:NC:=.reg
 (.Q 1 .nilck [.qq 0]
 (.Q 2 (.fld 3) [.qz 1]
 (.Q 3 .ld [.qz 2]
 (.Q 4 (.lda 2) [.qq 6]
 (.Q 5 (.lda 7) [.qq 3]
 (.both
 (.x 6 (.call 29) [.qz 3,.qz 4,.qz 5] none []
 (.x 7 (.alc zL0 39) [] none [(3,.ld,[.qz 2],none),(4,.lda 2,[.qq 6],none),(5,.lda 7,[.qq 3],none)]
 (.x 8 (.st 8) [.qz 7,.qz 6] none []
 (.out (qx [0,3,4,6] [(7,.qz 7)])))))
 (.x 7 (.alc zL0 39) [] none [(3,.ld,[.qz 2],none),(4,.lda 2,[.qq 6],none),(5,.lda 7,[.qq 3],none)]
 (.x 6 (.call 29) [.qz 3,.qz 4,.qz 5] none []
 (.x 8 (.st 8) [.qz 7,.qz 6] none []
 (.out (qx [0,3,4,6] [(7,.qz 7)])))))))))))
 [0,3,4,6]
abbrev Vy:NC:=.reg
 (.Q 0 (.lda 8) [.qq 7]
 (.x 1 (.call 30) [.qz 0] none []
 (.Q 2 .not [.qz 1]
 (.out (qx [0,3,4,6,7] [(55,.qz 2)])))))
 [0,3,4,6,7]
abbrev Vw:NC:=.reg
 (.Q 0 (.bld [.int .i64 0,.int .i64 0] []) []
 (.x 1 (.st 2) [.qq 4,.qz 0] none []
 (.out [(4,.qq 4),(5,.const (.bool false))])))
 [4]
abbrev Vv:NC:=.reg
 (.Q 1 (.lda 2) [.qq 6]
 (.Q 2 (.lda 7) [.qq 3]
 (.Q 3 (.lda 8) [.qq 7]
 (.Q 4 (.bld [.int .i64 0,.int .i64 0,.int .i64 0,.int .i64 0,.int .i64 0,.int .i64 0,.int .i64 0,.int .i64 0,(.string ⟨#[]⟩),(.string ⟨#[]⟩),(.string ⟨#[]⟩),(.string ⟨#[]⟩),.int .i64 0,.int .i64 0,.int .i64 0,.int .i64 0,.int .i64 0,.int .i64 0,.int .i64 0,.int .i64 0,.bool false] [(0,1),(5,7),(12,8),(20,1)]) [.qj 1,.qz 2,.qz 3,.const (.bool true)]
 (.x 5 (.call 31) [.qq 0,.qz 1,.qz 4] none []
 (.out (qx [0,3,4,6,7] [])))))))
 [0,3,4,6,7]
abbrev Vk:NC:=.reg
 (.Q 1 (.lda 2) [.qq 6]
 (.Q 2 (.lda 7) [.qq 3]
 (.Q 3 (.lda 8) [.qq 7]
 (.Q 4 (.bld [.int .i64 0,.int .i64 0,.int .i64 0,.int .i64 0,.int .i64 0,.bool false,.int .i64 0,.int .i64 0,.int .i64 0,(.string ⟨#[]⟩),(.string ⟨#[]⟩),(.string ⟨#[]⟩),(.string ⟨#[]⟩),.int .i64 0,.int .i64 0,.int .i64 0,.int .i64 0,.int .i64 0,.int .i64 0,.int .i64 0,.int .i64 0,.int .i64 0,.int .i64 0,.int .i64 0,.int .i64 0,.int .i64 0,.int .i64 0,.int .i64 0,.slice none 0 0,.slice none 0 0,.int .i64 0,.int .i64 0] [(0,2),(2,1),(5,1),(6,7),(13,8)]) [.qz 1,.qj 0,.const (.bool true),.qz 2,.qz 3]
 (.x 5 (.box 92) [.qz 4] none []
 (.x 6 (.call 32) [.qq 0,.qz 5] none []
 (.out (qx [4,6] []))))))))
 [0,3,4,6,7]
abbrev Vx:NC:=.reg
 (.Q 0 (.lda 2) [.qq 6]
 (.x 1 (.st 2) [.qq 4,.qz 0] none []
 (.out [(4,.qq 4),(5,.const (.bool true))])))
 [4,6]
abbrev Qz:NC :=
 (.seq VZ
 (.seq VQ
 (.seq (.seq wK
 (.cond (.qq 44)
 (.seq wX
 .ret)
 .skip))
 (.seq jV
 (.seq (.seq Vy
 (.cond (.qq 55)
 (.seq Vw
 .ret)
 .skip))
 (.seq Vv
 (.seq Vk
 (.seq Vx
 .ret))))))))
abbrev VL:FN:=⟨Qz,[.cells 4 2,.qq 5]⟩
theorem gZ:GoT 10 Tryz.f10 Qz VL:=goT (F:=VL) Tryz.func10 (by kernel_rfl)
abbrev pU:NC:=.reg
 (.x 0 (.box 25) [.qq 1] none []
 (.x 1 (.alc [.int .i64 0,.int .i64 0,.int .i64 0,.int .i64 0,.int .i64 0,.int .i64 0,.int .i64 0,.int .i64 0,(.string ⟨#[]⟩),(.string ⟨#[]⟩),(.string ⟨#[]⟩),(.string ⟨#[]⟩),.int .i64 0,.int .i64 0,.int .i64 0,.int .i64 0,.int .i64 0,.int .i64 0,.int .i64 0,.int .i64 0,.bool false] 41) [] none []
 (.out [(0,.qq 0),(3,.qz 0),(4,.qz 1)])))
 [0,1]
abbrev pT:NC:=.reg
 (.Q 1 .nilck [.qq 0]
 (.Q 2 (.fld 2) [.qz 1]
 (.Q 3 .ld [.qz 2]
 (.Q 4 (.lda 2) [.qq 3]
 (.x 5 (.call 33) [.qz 3,.qz 4] none []
 (.Q 6 (.ext 0) [.qz 5]
 (.Q 7 (.ext 1) [.qz 5]
 (.x 8 (.st 21) [.qq 4,.qz 6] none []
 (.out [(4,.qq 4),(5,.qz 7)])))))))))
 [0,3,4]
abbrev bR:NC :=
 (.seq pU
 (.seq pT
 .ret))
abbrev bS:FN:=⟨bR,[.cells 4 21,.qq 5]⟩
theorem rq:GoT 13 Tryz.f13 bR bS:=goT (F:=bS) Tryz.func13 (by kernel_rfl)
abbrev Vj:NC:=.reg
 (.x 0 (.box 25) [.qq 1] none []
 (.out [(0,.qq 0),(3,.qz 0)]))
 [0,1]
abbrev Vz:NC:=.reg
 (.Q 1 (.lda 2) [.qq 3]
 (.x 2 (.call 34) [.qq 0,.qz 1] none []
 (.Q 3 .not [.qz 2]
 (.q 5 .mv [.qq 0] (some (.qz 3,false))
 (.q 6 .nilck [.qz 5] (some (.qz 3,false))
 (.q 7 (.fld 4) [.qz 6] (some (.qz 3,false))
 (.q 8 .ld [.qz 7] (some (.qz 3,false))
 (.q 9 .len [.qz 8] (some (.qz 3,false))
 (.q 10 (.icm .geq) [.qz 9,.qj 256] (some (.qz 3,false))
 (.q 11 .mv [.qz 10] (some (.qz 3,false))
 (.q 12 .mv [.qq 0] (some (.qz 11,true))
 (.q 13 (.lda 2) [.qq 3] (some (.qz 11,true))
 (.x 14 (.call 35) [.qz 12,.qz 13] (some (.qz 11,true)) []
 (.q 15 (.eqp false) [.qz 14,.const (.pointer none)] (some (.qz 11,true))
 (.q 16 .pick [.qz 11,.qz 15,.const (.bool false)] (some (.qz 3,false))
 (.Q 17 .pick [.qz 3,.const (.bool true),.qz 16]
 (.out (qx [0,3] [(26,.qz 17)]))))))))))))))))))
 [0,3]
abbrev Vq:NC:=.reg
 (.out [(4,.const (.bool false))])
 []
abbrev xk:NC:=.reg
 (.Q 1 .nilck [.qq 0]
 (.Q 2 (.fld 2) [.qz 1]
 (.Q 3 .ld [.qz 2]
 (.Q 4 (.lda 2) [.qq 3]
 (.both
 (.x 5 (.call 33) [.qz 3,.qz 4] none []
 (.Q 7 (.ext 0) [.qz 5]
 (.Q 8 (.ext 1) [.qz 5]
 (.x 9 (.alc [.int .i64 0,.int .i64 0,.int .i64 0,.int .i64 0,.int .i64 0,.int .i64 0,.int .i64 0,.int .i64 0,(.string ⟨#[]⟩),(.string ⟨#[]⟩),(.string ⟨#[]⟩),(.string ⟨#[]⟩),.int .i64 0,.int .i64 0,.int .i64 0,.int .i64 0,.int .i64 0,.int .i64 0,.int .i64 0,.int .i64 0,.bool false] 41) [] none [(3,.ld,[.qz 2],none),(4,.lda 2,[.qq 3],none)]
 (.x 10 (.st 21) [.qz 9,.qz 7] none []
 (.out (qx [0,3] [(5,.qz 9)])))))))
 (.x 9 (.alc [.int .i64 0,.int .i64 0,.int .i64 0,.int .i64 0,.int .i64 0,.int .i64 0,.int .i64 0,.int .i64 0,(.string ⟨#[]⟩),(.string ⟨#[]⟩),(.string ⟨#[]⟩),(.string ⟨#[]⟩),.int .i64 0,.int .i64 0,.int .i64 0,.int .i64 0,.int .i64 0,.int .i64 0,.int .i64 0,.int .i64 0,.bool false] 41) [] none [(3,.ld,[.qz 2],none),(4,.lda 2,[.qq 3],none)]
 (.x 5 (.call 33) [.qz 3,.qz 4] none []
 (.Q 7 (.ext 0) [.qz 5]
 (.Q 8 (.ext 1) [.qz 5]
 (.x 10 (.st 21) [.qz 9,.qz 7] none []
 (.out (qx [0,3] [(5,.qz 9)]))))))))))))
 [0,3]
abbrev wJ:NC:=.reg
 (.Q 0 (.fld 1) [.qq 5]
 (.Q 1 (.lda 2) [.qz 0]
 (.x 2 (.alc [.int .i64 0,.int .i64 0] 35) [] none []
 (.x 3 (.st 2) [.qz 2,.qz 1] none []
 (.out (qx [0,3,5] [(7,.qz 2)]))))))
 [0,3,5]
abbrev wZ:NC:=.reg
 (.Q 1 (.lda 2) [.qq 3]
 (.x 2 (.call 36) [.qq 0,.qz 1] none []
 (.out (qx [0,3,5,7] [(8,.qz 2)]))))
 [0,3,5,7]
abbrev wQ:NC:=.reg
 (.Q 1 (.eqp true) [.qq 8,.const (.pointer none)]
 (.q 3 (.lda 2) [.qq 7] (some (.qz 1,true))
 (.q 4 .mv [.qq 8] (some (.qz 1,true))
 (.q 5 .nilck [.qz 4] (some (.qz 1,true))
 (.q 6 (.fld 3) [.qz 5] (some (.qz 1,true))
 (.q 7 (.lda 2) [.qz 6] (some (.qz 1,true))
 (.x 8 (.call 37) [.qz 3,.qz 7] (some (.qz 1,true)) []
 (.Q 9 .pick [.qz 1,.qz 8,.const (.bool false)]
 (.out (qx [0,3,5,7,8] [(50,.qz 9)]))))))))))
 [0,3,5,7,8]
abbrev wy:NC:=.reg
 (.Q 1 .nilck [.qq 8]
 (.Q 2 (.fld 3) [.qz 1]
 (.Q 3 (.lda 2) [.qz 2]
 (.x 4 (.st 2) [.qq 7,.qz 3] none []
 (.out (qx [0,3,5,7] []))))))
 [0,3,5,7,8]
abbrev KU:NC:=.reg
 (.Q 0 (.lda 2) [.qq 7]
 (.Q 2 .nilck [.qq 0]
 (.Q 3 (.fld 1) [.qz 2]
 (.Q 4 .ld [.qz 3]
 (.x 5 (.call 38) [.qz 0,.qz 4] none []
 (.Q 6 (.fld 1) [.qq 5]
 (.x 7 (.st 2) [.qz 6,.qz 5] none []
 (.out (qx [0,3,5] [])))))))))
 [0,3,5,7]
abbrev KT:NC:=.reg
 (.Q 0 (.fld 1) [.qq 5]
 (.Q 1 (.lda 2) [.qz 0]
 (.x 2 (.call 39) [.qz 1] none []
 (.Q 3 .not [.qz 2]
 (.q 5 .mv [.qq 0] (some (.qz 3,false))
 (.q 6 (.lda 2) [.qq 3] (some (.qz 3,false))
 (.q 7 (.lda 21) [.qq 5] (some (.qz 3,false))
 (.x 8 (.call 31) [.qz 5,.qz 6,.qz 7] (some (.qz 3,false)) []
 (.q 9 .not [.qz 8] (some (.qz 3,false))
 (.Q 10 .pick [.qz 3,.const (.bool true),.qz 9]
 (.out (qx [0,3,5] [(72,.qz 10)]))))))))))))
 [0,3,5]
abbrev Xf:NC:=.reg
 (.out [(4,.const (.bool false))])
 []
abbrev Xe:NC:=.reg
 (.Q 1 (.lda 2) [.qq 3]
 (.Q 2 (.fld 1) [.qq 5]
 (.Q 3 (.lda 2) [.qz 2]
 (.Q 5 .nilck [.qq 0]
 (.Q 6 (.fld 1) [.qz 5]
 (.Q 7 .ld [.qz 6]
 (.Q 8 (.lda 21) [.qq 5]
 (.Q 9 (.bld [.int .i64 0,.int .i64 0,.int .i64 0,.int .i64 0,.int .i64 0,.int .i64 0,.int .i64 0,.int .i64 0,.int .i64 0,(.string ⟨#[]⟩),(.string ⟨#[]⟩),(.string ⟨#[]⟩),(.string ⟨#[]⟩),.int .i64 0,.int .i64 0,.int .i64 0,.int .i64 0,.int .i64 0,.int .i64 0,.int .i64 0,.int .i64 0,.bool false] [(0,1),(1,21)]) [.qz 7,.qz 8]
 (.x 10 (.bsl 102 1 [.int .i64 0,.int .i64 0,.int .i64 0,.int .i64 0,.int .i64 0,.int .i64 0,.int .i64 0,.int .i64 0,.int .i64 0,(.string ⟨#[]⟩),(.string ⟨#[]⟩),(.string ⟨#[]⟩),(.string ⟨#[]⟩),.int .i64 0,.int .i64 0,.int .i64 0,.int .i64 0,.int .i64 0,.int .i64 0,.int .i64 0,.int .i64 0,.bool false] [(0,22)]) [.qz 9] none [(1,.lda 2,[.qq 3],none),(3,.lda 2,[.qz 2],none)]
 (.Q 11 (.bld [.int .i64 0,.int .i64 0,.int .i64 0,.int .i64 0,.int .i64 0,.bool false,.int .i64 0,.int .i64 0,.int .i64 0,(.string ⟨#[]⟩),(.string ⟨#[]⟩),(.string ⟨#[]⟩),(.string ⟨#[]⟩),.int .i64 0,.int .i64 0,.int .i64 0,.int .i64 0,.int .i64 0,.int .i64 0,.int .i64 0,.int .i64 0,.int .i64 0,.int .i64 0,.int .i64 0,.int .i64 0,.int .i64 0,.int .i64 0,.int .i64 0,.slice none 0 0,.slice none 0 0,.int .i64 0,.int .i64 0] [(0,2),(2,1),(3,2),(29,1)]) [.qz 1,.qj 2,.qz 3,.qz 10]
 (.x 12 (.box 92) [.qz 11] none []
 (.x 13 (.call 32) [.qq 0,.qz 12] none []
 (.out [])))))))))))))
 [0,3,5]
abbrev Xd:NC:=.reg
 (.out [(4,.const (.bool true))])
 []
abbrev Qq:NC :=
 (.seq Vj
 (.seq (.seq Vz
 (.cond (.qq 26)
 (.seq Vq
 .ret)
 .skip))
 (.seq xk
 (.seq wJ
 (.seq (.seq wZ
 (.seq wQ
 (.cond (.qq 50)
 wy
 .skip)))
 (.seq KU
 (.seq (.seq KT
 (.cond (.qq 72)
 (.seq Xf
 .ret)
 .skip))
 (.seq Xe
 (.seq Xd
 .ret)))))))))
abbrev VI:FN:=⟨Qq,[.qq 4]⟩
theorem gy:GoT 14 Tryz.f14 Qq VI:=goT (F:=VI) Tryz.func14 (by kernel_rfl)
abbrev nJ:NC:=.reg
 (.out [(0,.qq 0)])
 [0]
abbrev nZ:NC:=.reg
 (.Q 1 .nilck [.qq 0]
 (.Q 2 (.fld 6) [.qz 1]
 (.Q 3 .ld [.qz 2]
 (.Q 5 .nilck [.qq 0]
 (.Q 6 (.fld 7) [.qz 5]
 (.Q 7 .ld [.qz 6]
 (.out [(0,.qq 0),(4,.qz 3),(5,.qz 7)])))))))
 [0]
abbrev nQ:NC:=.reg
 (.Q 2 .nilck [.qq 0]
 (.Q 3 (.fld 6) [.qz 2]
 (.x 4 (.st 1) [.qz 3,.const (.slice none 0 0)] none []
 (.Q 5 .nilck [.qq 0]
 (.Q 6 (.fld 7) [.qz 5]
 (.x 7 (.st 1) [.qz 6,.const (.slice none 0 0)] none []
 (.out (qx [4,5] []))))))))
 [0,4,5]
abbrev ny:NC:=.reg
 (.out [(2,.qq 4),(3,.qq 5)])
 [4,5]
abbrev au:NC :=
 (.seq nJ
 (.seq nZ
 (.seq nQ
 (.seq ny
 .ret))))
abbrev aA:FN:=⟨au,[.qq 2,.qq 3]⟩
theorem nX:GoT 15 Tryz.f15 au aA:=goT (F:=aA) Tryz.func15 (by kernel_rfl)
abbrev ar:NC:=.reg
 (.x 0 (.box 45) [.qq 1] none []
 (.out [(0,.qq 0),(3,.qz 0)]))
 [0,1]
abbrev ao:NC:=.reg
 (.Q 0 (.lda 51) [.qq 3]
 (.x 1 (.call 42) [.qz 0] none []
 (.Q 2 .not [.qz 1]
 (.q 4 (.fld 2) [.qq 3] (some (.qz 2,false))
 (.q 5 .ld [.qz 4] (some (.qz 2,false))
 (.q 6 .mv [.qq 0] (some (.qz 2,false))
 (.q 7 .nilck [.qz 6] (some (.qz 2,false))
 (.q 8 (.fld 1) [.qz 7] (some (.qz 2,false))
 (.q 9 .ld [.qz 8] (some (.qz 2,false))
 (.q 10 (.icm .neq) [.qz 5,.qz 9] (some (.qz 2,false))
 (.Q 11 .pick [.qz 2,.const (.bool true),.qz 10]
 (.q 13 .mv [.qq 0] (some (.qz 11,false))
 (.q 14 (.fld 1) [.qq 3] (some (.qz 11,false))
 (.q 15 .ld [.qz 14] (some (.qz 11,false))
 (.x 16 (.call 43) [.qz 13,.qz 15] (some (.qz 11,false)) []
 (.q 17 .not [.qz 16] (some (.qz 11,false))
 (.Q 18 .pick [.qz 11,.const (.bool true),.qz 17]
 (.q 20 (.fld 0) [.qq 3] (some (.qz 18,false))
 (.q 21 .ld [.qz 20] (some (.qz 18,false))
 (.q 22 (.icm .geq) [.qz 21,.qj 9] (some (.qz 18,false))
 (.Q 23 .pick [.qz 18,.const (.bool true),.qz 22]
 (.q 25 .mv [.qq 0] (some (.qz 23,false))
 (.q 26 (.fld 3) [.qq 3] (some (.qz 23,false))
 (.q 27 (.fld 0) [.qz 26] (some (.qz 23,false))
 (.q 28 .ld [.qz 27] (some (.qz 23,false))
 (.x 29 (.call 43) [.qz 25,.qz 28] (some (.qz 23,false)) []
 (.q 30 .not [.qz 29] (some (.qz 23,false))
 (.Q 31 .pick [.qz 23,.const (.bool true),.qz 30]
 (.out (qx [0,3] [(37,.qz 31)]))))))))))))))))))))))))))))))
 [0,3]
abbrev an:NC:=.reg
 (.out [(4,.const (.bool false))])
 []
abbrev JC:NC:=.reg
 (.Q 0 (.fld 0) [.qq 3]
 (.Q 1 .ld [.qz 0]
 (.Q 2 (.icm .eql) [.qz 1,.qj 1]
 (.q 4 (.fld 0) [.qq 3] (some (.qz 2,false))
 (.q 5 .ld [.qz 4] (some (.qz 2,false))
 (.q 6 (.icm .eql) [.qz 5,.qj 3] (some (.qz 2,false))
 (.Q 7 .pick [.qz 2,.const (.bool true),.qz 6]
 (.q 9 (.fld 0) [.qq 3] (some (.qz 7,false))
 (.q 10 .ld [.qz 9] (some (.qz 7,false))
 (.q 11 (.icm .eql) [.qz 10,.qj 6] (some (.qz 7,false))
 (.Q 12 .pick [.qz 7,.const (.bool true),.qz 11]
 (.out (qx [0,3] [(5,.qz 12)])))))))))))))
 [0,3]
abbrev xj:NC:=.reg
 (.Q 1 .nilck [.qq 0]
 (.Q 2 (.fld 2) [.qz 1]
 (.Q 3 .ld [.qz 2]
 (.Q 4 (.fld 3) [.qq 3]
 (.Q 5 (.lda 2) [.qz 4]
 (.x 6 (.call 44) [.qz 3,.qz 5] none []
 (.out (qx [0,3,5] [(57,.qz 6)]))))))))
 [0,3,5]
abbrev xz:NC:=.reg
 (.out [(4,.qq 5)])
 [5]
abbrev al:NC:=.reg
 (.out (qx [0,3] [(62,.qq 5)]))
 [0,3,5]
abbrev ai:NC:=.reg
 (.Q 1 (.lda 51) [.qq 3]
 (.x 2 (.call 45) [.qq 0,.qz 1] none []
 (.out [])))
 [0,3]
abbrev ah:NC:=.reg
 (.Q 0 (.fld 0) [.qq 3]
 (.Q 1 .ld [.qz 0]
 (.Q 2 (.icm .eql) [.qz 1,.qj 5]
 (.out (qx [0,3] [(67,.qz 2)])))))
 [0,3]
abbrev ae:NC:=.reg
 (.Q 1 (.lda 51) [.qq 3]
 (.x 2 (.call 46) [.qq 0,.qz 1] none []
 (.out [])))
 [0,3]
abbrev Yy:NC:=.reg
 (.Q 0 (.fld 0) [.qq 3]
 (.Q 1 .ld [.qz 0]
 (.Q 2 (.icm .eql) [.qz 1,.qj 8]
 (.out (qx [0,3] [(74,.qz 2)])))))
 [0,3]
abbrev Yw:NC:=.reg
 (.Q 1 (.lda 51) [.qq 3]
 (.x 2 (.call 47) [.qq 0,.qz 1] none []
 (.out [])))
 [0,3]
abbrev Yv:NC:=.reg
 (.Q 1 (.lda 51) [.qq 3]
 (.x 2 (.call 48) [.qq 0,.qz 1] none []
 (.out [])))
 [0,3]
abbrev Yk:NC:=.reg
 (.out [(4,.const (.bool false))])
 []
abbrev XH:NC :=
 (.seq ar
 (.seq (.seq ao
 (.cond (.qq 37)
 (.seq an
 .ret)
 .skip))
 (.seq JC
 (.seq (.seq xj
 (.cond (.qq 57)
 (.seq xz
 .ret)
 .skip))
 (.seq (.block 0 (.seq al
 (.cond (.qq 62)
 ai
 (.seq ah
 (.cond (.qq 67)
 ae
 (.seq Yy
 (.cond (.qq 74)
 Yw
 Yv)))))))
 (.seq Yk
 .ret))))))
abbrev bN:FN:=⟨XH,[.qq 4]⟩
theorem pS:GoT 20 Tryz.f20 XH bN:=goT (F:=bN) Tryz.func20 (by kernel_rfl)
abbrev Ol:NC:=.reg
 (.x 0 (.box 37) [.qq 2] none []
 (.out (qx [0,1,3] [(6,.qz 0)])))
 [0,1,2,3]
abbrev Oi:NC:=.reg
 (.x 1 (.call 50) [.qq 0] none []
 (.Q 2 .not [.qz 1]
 (.q 4 .mv [.qq 1] (some (.qz 2,false))
 (.q 5 (.icm .lss) [.qz 4,.qj 0] (some (.qz 2,false))
 (.Q 6 .pick [.qz 2,.const (.bool true),.qz 5]
 (.q 8 .mv [.qq 1] (some (.qz 6,false))
 (.q 9 .mv [.qq 0] (some (.qz 6,false))
 (.q 10 (.icm .geq) [.qz 8,.qz 9] (some (.qz 6,false))
 (.Q 11 .pick [.qz 6,.const (.bool true),.qz 10]
 (.q 13 (.lda 7) [.qq 6] (some (.qz 11,false))
 (.q 14 (.bld zL0 [(1,7)]) [.qz 13] (some (.qz 11,false))
 (.x 15 (.call 30) [.qz 14] (some (.qz 11,false)) []
 (.q 16 .not [.qz 15] (some (.qz 11,false))
 (.Q 17 .pick [.qz 11,.const (.bool true),.qz 16]
 (.out (qx [0,1,3,6] [(33,.qz 17)]))))))))))))))))
 [0,1,3,6]
abbrev Oh:NC:=.reg
 (.out [(8,.const (.pointer none)),(9,.qj 1)])
 []
abbrev Og:NC:=.reg
 (.Q 2 (.lda 7) [.qq 6]
 (.x 3 (.call 51) [.qz 2] none []
 (.x 4 (.call 52) [] none []
 (.Q 5 (.bld [.int .i64 0,.int .i64 0,.pointer none,.pointer none,.slice none 0 0,.slice none 0 0,.slice none 0 0,.slice none 0 0] [(0,1),(1,1),(2,1),(3,1)]) [.qq 0,.qq 1,.qz 3,.qz 4]
 (.x 6 (.box 83) [.qz 5] none []
 (.out (qx [3,6] [(10,.qz 6)])))))))
 [0,1,3,6]
abbrev Of:NC:=.reg
 (.Q 1 .nilck [.qq 10]
 (.Q 2 (.fld 3) [.qz 1]
 (.Q 3 .ld [.qz 2]
 (.Q 4 (.lda 7) [.qq 6]
 (.x 5 (.call 53) [.qz 3,.qz 4] none []
 (.out (qx [3,10] [])))))))
 [3,6,10]
abbrev Oe:NC:=.reg
 (.Q 1 .len [.qq 3]
 (.out [(10,.qq 10),(47,.qq 3),(48,.qz 1),(49,.qj 0)]))
 [3,10]
abbrev Od:NC:=.reg
 (.Q 0 (.icm .lss) [.qq 49,.qq 48]
 (.out (qx [10,47,48,49] [(50,.qz 0)])))
 [10,47,48,49]
abbrev Oc:NC:=.reg
 (.Q 0 (.ixs 1) [.qq 47,.qq 49]
 (.Q 1 .ld [.qz 0]
 (.out [(10,.qq 10),(12,.qz 1),(47,.qq 47),(48,.qq 48),(49,.qq 49)])))
 [10,47,48,49]
abbrev Ob:NC:=.reg
 (.x 1 (.call 54) [.qq 12] none []
 (.Q 3 (.ext 0) [.qz 1]
 (.Q 4 (.ext 1) [.qz 1]
 (.Q 5 (.ext 2) [.qz 1]
 (.x 6 (.alc [.int .i64 0,.int .i64 0] 25) [] none []
 (.x 7 (.alc [.int .i64 0,.int .i64 0,.int .i64 0,.int .i64 0,.int .i64 0,.int .i64 0,.int .i64 0,.int .i64 0,(.string ⟨#[]⟩),(.string ⟨#[]⟩),(.string ⟨#[]⟩),(.string ⟨#[]⟩),.int .i64 0,.int .i64 0,.int .i64 0,.int .i64 0,.int .i64 0,.int .i64 0,.int .i64 0,.int .i64 0,.bool false] 41) [] none []
 (.x 8 (.st 2) [.qz 6,.qz 3] none []
 (.x 9 (.st 21) [.qz 7,.qz 4] none []
 (.out [(10,.qq 10),(13,.qz 6),(14,.qz 7),(15,.qz 5),(47,.qq 47),(48,.qq 48),(49,.qq 49)])))))))))
 [10,12,47,48,49]
abbrev Oa:NC:=.reg
 (.Q 1 (.icm .eql) [.qq 15,.qj 0]
 (.q 3 .mv [.qq 10] (some (.qz 1,true))
 (.q 4 .nilck [.qz 3] (some (.qz 1,true))
 (.q 5 (.fld 2) [.qz 4] (some (.qz 1,true))
 (.q 6 .ld [.qz 5] (some (.qz 1,true))
 (.q 7 (.lda 2) [.qq 13] (some (.qz 1,true))
 (.q 8 (.lda 21) [.qq 14] (some (.qz 1,true))
 (.x 9 (.call 55) [.qz 6,.qz 7,.qz 8] (some (.qz 1,true)) []
 (.Q 10 .pick [.qz 1,.qz 9,.const (.bool false)]
 (.out (qx [10,13,14,47,48,49] [(69,.qz 10)])))))))))))
 [10,13,14,15,47,48,49]
abbrev Lo:NC:=.reg
 (.Q 1 (.lda 2) [.qq 13]
 (.Q 2 (.lda 21) [.qq 14]
 (.x 3 (.call 56) [.qq 10,.qz 1,.qz 2] none []
 (.out (qx [10,47,48,49] [])))))
 [10,13,14,47,48,49]
abbrev Ln:NC:=.reg
 (.Q 0 (.iar .add) [.qq 49,.qj 1]
 (.out (qx [10,47,48] [(49,.qz 0)])))
 [10,47,48,49]
abbrev Om:NC :=
 (.seq Od
 (.seq (.cond (.qq 50)
 .skip
 (.exit 0))
 (.seq (.block 1 (.seq Oc
 (.seq Ob
 (.seq Oa
 (.cond (.qq 69)
 Lo
 .skip)))))
 Ln)))
abbrev Lm:NC:=.reg
 (.out [(8,.qq 10),(9,.qj 0)])
 [10]
abbrev EV:NC :=
 (.seq Ol
 (.seq (.seq Oi
 (.cond (.qq 33)
 (.seq Oh
 .ret)
 .skip))
 (.seq Og
 (.seq Of
 (.seq (.seq Oe
 (.block 0 (.loop [10,47,48,49] Om)))
 (.seq Lm
 .ret))))))
abbrev EW:FN:=⟨EV,[.qq 8,.qq 9]⟩
theorem On:GoT 24 Tryz.f24 EV EW:=goT (F:=EW) Tryz.func24 (by kernel_rfl)
abbrev tf:NC:=.reg
 (.x 0 (.alc zL2 37) [] none []
 (.out [(0,.qq 0),(2,.qz 0)]))
 [0]
abbrev te:NC:=.reg
 (.Q 1 .nilck [.qq 0]
 (.Q 2 (.fld 2) [.qz 1]
 (.Q 3 .ld [.qz 2]
 (.x 4 (.call 28) [.qz 3] none []
 (.x 5 (.st 7) [.qq 2,.qz 4] none []
 (.out [(2,.qq 2)]))))))
 [0,2]
abbrev dc:NC :=
 (.seq tf
 (.seq te
 .ret))
abbrev de:FN:=⟨dc,[.cells 2 7]⟩
theorem tg:GoT 25 Tryz.f25 dc de:=goT (F:=de) Tryz.func25 (by kernel_rfl)
abbrev JB:NC:=.reg
 (.Q 1 .nilck [.qq 0]
 (.Q 2 (.fld 4) [.qz 1]
 (.Q 3 .ld [.qz 2]
 (.x 4 (.call 57) [.qz 3] none []
 (.Q 5 .len [.qz 4]
 (.out [(0,.qq 0),(15,.qz 4),(16,.qz 5),(17,.qj 0)]))))))
 [0]
abbrev ab:NC:=.reg
 (.Q 0 (.icm .lss) [.qq 17,.qq 16]
 (.out (qx [0,15,16,17] [(18,.qz 0)])))
 [0,15,16,17]
abbrev aa:NC:=.reg
 (.Q 0 (.ixs 1) [.qq 15,.qq 17]
 (.Q 1 .ld [.qz 0]
 (.out [(0,.qq 0),(3,.qz 1),(15,.qq 15),(16,.qq 16),(17,.qq 17)])))
 [0,15,16,17]
abbrev aY:NC:=.reg
 (.Q 1 .nilck [.qq 3]
 (.Q 2 (.fld 31) [.qz 1]
 (.Q 3 .ld [.qz 2]
 (.Q 4 (.iar .add) [.qz 3,.qj 1]
 (.Q 5 .nilck [.qq 3]
 (.Q 6 (.fld 31) [.qz 5]
 (.x 7 (.st 1) [.qz 6,.qz 4] none []
 (.out (qx [0,3,15,16,17] [])))))))))
 [0,3,15,16,17]
abbrev aW:NC:=.reg
 (.Q 1 .nilck [.qq 3]
 (.Q 2 (.fld 31) [.qz 1]
 (.Q 3 .ld [.qz 2]
 (.Q 4 (.idv .rem) [.qz 3,.qj 4]
 (.Q 5 (.icm .neq) [.qz 4,.qj 0]
 (.q 7 .mv [.qq 3] (some (.qz 5,false))
 (.q 8 .nilck [.qz 7] (some (.qz 5,false))
 (.q 9 (.fld 2) [.qz 8] (some (.qz 5,false))
 (.q 10 .ld [.qz 9] (some (.qz 5,false))
 (.q 11 (.icm .eql) [.qz 10,.qj 0] (some (.qz 5,false))
 (.q 12 .mv [.qz 11] (some (.qz 5,false))
 (.q 13 .mv [.qq 0] (some (.qz 12,true))
 (.q 14 .mv [.qq 3] (some (.qz 12,true))
 (.x 15 (.call 58) [.qz 13,.qz 14,.const (.bool true)] (some (.qz 12,true)) []
 (.q 16 .pick [.qz 12,.qz 15,.const (.bool false)] (some (.qz 5,false))
 (.Q 17 .pick [.qz 5,.const (.bool true),.qz 16]
 (.out (qx [0,3,15,16,17] [(45,.qz 17)]))))))))))))))))))
 [0,3,15,16,17]
abbrev aV:NC:=.reg
 (.Q 4 .nilck [.qq 3]
 (.Q 5 (.fld 21) [.qz 4]
 (.Q 6 (.lda 7) [.qz 5]
 (.x 2 (.call 60) [.qq 3] none [(6,.lda 7,[.qz 5],none)]
 (.x 7 (.call 59) [.qq 0,.qz 2,.qz 6] none []
 (.out (qx [0,15,16,17] [])))))))
 [0,3,15,16,17]
abbrev aK:NC:=.reg
 (.Q 0 (.iar .add) [.qq 17,.qj 1]
 (.out (qx [0,15,16] [(17,.qz 0)])))
 [0,15,16,17]
abbrev vz:NC :=
 (.seq ab
 (.seq (.cond (.qq 18)
 .skip
 (.exit 0))
 (.seq (.block 1 (.seq aa
 (.seq aY
 (.seq (.seq aW
 (.cond (.qq 45)
 (.exit 1)
 .skip))
 aV))))
 aK)))
abbrev JA:NC:=.reg
 (.Q 1 .nilck [.qq 0]
 (.Q 2 (.fld 2) [.qz 1]
 (.Q 3 .ld [.qz 2]
 (.x 4 (.call 61) [.qz 3] none []
 (.Q 5 .len [.qz 4]
 (.out [(0,.qq 0),(59,.qz 4),(60,.qz 5),(61,.qj 0)]))))))
 [0]
abbrev aX:NC:=.reg
 (.Q 0 (.icm .lss) [.qq 61,.qq 60]
 (.out (qx [0,59,60,61] [(62,.qz 0)])))
 [0,59,60,61]
abbrev Ju:NC:=.reg
 (.Q 0 (.ixs 2) [.qq 59,.qq 61]
 (.Q 1 (.lda 2) [.qz 0]
 (.x 2 (.alc [.int .i64 0,.int .i64 0] 25) [] none []
 (.x 3 (.st 2) [.qz 2,.qz 1] none []
 (.out [(0,.qq 0),(5,.qz 2),(59,.qq 59),(60,.qq 60),(61,.qq 61)])))))
 [0,59,60,61]
abbrev Zt:NC:=.reg
 (.Q 1 .nilck [.qq 0]
 (.Q 2 (.fld 2) [.qz 1]
 (.Q 3 .ld [.qz 2]
 (.Q 4 (.lda 2) [.qq 5]
 (.both
 (.x 5 (.call 33) [.qz 3,.qz 4] none []
 (.Q 7 (.ext 0) [.qz 5]
 (.Q 8 (.ext 1) [.qz 5]
 (.x 9 (.alc [.int .i64 0,.int .i64 0,.int .i64 0,.int .i64 0,.int .i64 0,.int .i64 0,.int .i64 0,.int .i64 0,(.string ⟨#[]⟩),(.string ⟨#[]⟩),(.string ⟨#[]⟩),(.string ⟨#[]⟩),.int .i64 0,.int .i64 0,.int .i64 0,.int .i64 0,.int .i64 0,.int .i64 0,.int .i64 0,.int .i64 0,.bool false] 41) [] none [(3,.ld,[.qz 2],none),(4,.lda 2,[.qq 5],none)]
 (.x 10 (.st 21) [.qz 9,.qz 7] none []
 (.out (qx [0,5] [(6,.qz 9),(59,.qq 59),(60,.qq 60),(61,.qq 61)])))))))
 (.x 9 (.alc [.int .i64 0,.int .i64 0,.int .i64 0,.int .i64 0,.int .i64 0,.int .i64 0,.int .i64 0,.int .i64 0,(.string ⟨#[]⟩),(.string ⟨#[]⟩),(.string ⟨#[]⟩),(.string ⟨#[]⟩),.int .i64 0,.int .i64 0,.int .i64 0,.int .i64 0,.int .i64 0,.int .i64 0,.int .i64 0,.int .i64 0,.bool false] 41) [] none [(3,.ld,[.qz 2],none),(4,.lda 2,[.qq 5],none)]
 (.x 5 (.call 33) [.qz 3,.qz 4] none []
 (.Q 7 (.ext 0) [.qz 5]
 (.Q 8 (.ext 1) [.qz 5]
 (.x 10 (.st 21) [.qz 9,.qz 7] none []
 (.out (qx [0,5] [(6,.qz 9),(59,.qq 59),(60,.qq 60),(61,.qq 61)]))))))))))))
 [0,5,59,60,61]
abbrev Zs:NC:=.reg
 (.Q 0 (.fld 0) [.qq 6]
 (.Q 1 .ld [.qz 0]
 (.Q 2 (.icm .neq) [.qz 1,.qj 3]
 (.q 4 .mv [.qq 0] (some (.qz 2,true))
 (.q 5 (.lda 2) [.qq 5] (some (.qz 2,true))
 (.x 6 (.call 35) [.qz 4,.qz 5] (some (.qz 2,true)) []
 (.q 7 (.eqp false) [.qz 6,.const (.pointer none)] (some (.qz 2,true))
 (.Q 8 .pick [.qz 2,.qz 7,.const (.bool false)]
 (.out (qx [0,5,59,60,61] [(82,.qz 8)]))))))))))
 [0,5,6,59,60,61]
abbrev Zr:NC:=.reg
 (.Q 1 (.lda 2) [.qq 5]
 (.x 2 (.call 62) [.qq 0,.qz 1] none []
 (.out (qx [0,59,60,61] []))))
 [0,5,59,60,61]
abbrev Yx:NC:=.reg
 (.Q 0 (.iar .add) [.qq 61,.qj 1]
 (.out (qx [0,59,60] [(61,.qz 0)])))
 [0,59,60,61]
abbrev vq:NC :=
 (.seq aX
 (.seq (.cond (.qq 62)
 .skip
 (.exit 2))
 (.seq (.block 3 (.seq Ju
 (.seq Zt
 (.seq Zs
 (.cond (.qq 82)
 Zr
 .skip)))))
 Yx)))
abbrev Zp:NC:=.reg
 (.Q 1 .nilck [.qq 0]
 (.Q 2 (.fld 5) [.qz 1]
 (.Q 3 .ld [.qz 2]
 (.x 4 (.call 63) [.qz 3] none []
 (.Q 5 .len [.qz 4]
 (.out [(0,.qq 0),(91,.qz 4),(92,.qz 5),(93,.qj 0)]))))))
 [0]
abbrev Yj:NC:=.reg
 (.Q 0 (.icm .lss) [.qq 93,.qq 92]
 (.out (qx [0,91,92,93] [(94,.qz 0)])))
 [0,91,92,93]
abbrev Zo:NC:=.reg
 (.Q 0 (.ixs 1) [.qq 91,.qq 93]
 (.Q 1 .ld [.qz 0]
 (.x 2 (.alc [.pointer none] 94) [] none []
 (.x 3 (.st 1) [.qz 2,.qz 1] none []
 (.out [(0,.qq 0),(9,.qz 2),(91,.qq 91),(92,.qq 92),(93,.qq 93)])))))
 [0,91,92,93]
abbrev Zn:NC:=.reg
 (.Q 1 .ld [.qq 9]
 (.Q 2 .nilck [.qz 1]
 (.Q 3 (.fld 0) [.qz 2]
 (.Q 4 (.lda 2) [.qz 3]
 (.x 5 (.call 34) [.qq 0,.qz 4] none []
 (.Q 6 .not [.qz 5]
 (.out (qx [0,9,91,92,93] [(103,.qz 6)]))))))))
 [0,9,91,92,93]
abbrev jC:NC:=.reg
 (.Q 2 .nilck [.qq 0]
 (.Q 3 (.fld 5) [.qz 2]
 (.Q 4 .ld [.qz 3]
 (.Q 5 (.mkf (.func 65) 0) [.qq 9]
 (.x 6 (.call 64) [.qz 4,.qz 5] none []
 (.Q 7 .nilck [.qq 0]
 (.Q 8 (.fld 5) [.qz 7]
 (.x 9 (.st 1) [.qz 8,.qz 6] none []
 (.out (qx [0,91,92,93] []))))))))))
 [0,9,91,92,93]
abbrev Zm:NC:=.reg
 (.Q 1 .ld [.qq 9]
 (.Q 2 .nilck [.qz 1]
 (.Q 3 (.fld 0) [.qz 2]
 (.Q 4 (.lda 2) [.qz 3]
 (.x 5 (.call 35) [.qq 0,.qz 4] none []
 (.Q 6 (.eqp true) [.qz 5,.const (.pointer none)]
 (.out (qx [0,9,91,92,93] [(119,.qz 6)]))))))))
 [0,9,91,92,93]
abbrev Zl:NC:=.reg
 (.Q 0 .ld [.qq 9]
 (.Q 1 .nilck [.qz 0]
 (.Q 2 (.fld 2) [.qz 1]
 (.Q 3 .ld [.qz 2]
 (.Q 4 (.iar .add) [.qz 3,.qj 1]
 (.Q 5 .nilck [.qz 0]
 (.Q 6 (.fld 2) [.qz 5]
 (.x 7 (.st 1) [.qz 6,.qz 4] none []
 (.out (qx [0,9,91,92,93] []))))))))))
 [0,9,91,92,93]
abbrev Zi:NC:=.reg
 (.Q 1 .nilck [.qq 0]
 (.Q 2 (.fld 1) [.qz 1]
 (.Q 3 .ld [.qz 2]
 (.Q 4 .ld [.qq 9]
 (.Q 5 .nilck [.qz 4]
 (.Q 6 (.fld 0) [.qz 5]
 (.Q 7 (.fld 0) [.qz 6]
 (.Q 8 .ld [.qz 7]
 (.Q 9 (.iar .sub) [.qz 3,.qz 8]
 (.Q 11 .nilck [.qq 0]
 (.Q 12 (.fld 0) [.qz 11]
 (.Q 13 .ld [.qz 12]
 (.Q 14 (.iar .add) [.qz 9,.qz 13]
 (.Q 16 .nilck [.qq 0]
 (.Q 17 (.fld 0) [.qz 16]
 (.Q 18 .ld [.qz 17]
 (.Q 19 (.idv .rem) [.qz 14,.qz 18]
 (.out (qx [0,9] [(10,.qz 19),(91,.qq 91),(92,.qq 92),(93,.qq 93)])))))))))))))))))))
 [0,9,91,92,93]
abbrev Zh:NC:=.reg
 (.Q 0 .ld [.qq 9]
 (.Q 1 .nilck [.qz 0]
 (.Q 2 (.fld 2) [.qz 1]
 (.Q 3 .ld [.qz 2]
 (.Q 5 (.iar .mul) [.qj 6,.qq 10]
 (.Q 6 (.iar .add) [.qj 12,.qz 5]
 (.Q 7 (.icm .geq) [.qz 3,.qz 6]
 (.q 9 .mv [.qq 0] (some (.qz 7,true))
 (.q 10 .ld [.qq 9] (some (.qz 7,true))
 (.q 11 .nilck [.qz 10] (some (.qz 7,true))
 (.q 12 (.fld 0) [.qz 11] (some (.qz 7,true))
 (.q 13 (.lda 2) [.qz 12] (some (.qz 7,true))
 (.x 14 (.call 14) [.qz 9,.qz 13] (some (.qz 7,true)) []
 (.Q 15 .pick [.qz 7,.qz 14,.const (.bool false)]
 (.out (qx [0,9,91,92,93] [(162,.qz 15)]))))))))))))))))
 [0,9,10,91,92,93]
abbrev Zg:NC:=.reg
 (.Q 0 .ld [.qq 9]
 (.Q 1 .nilck [.qz 0]
 (.Q 2 (.fld 2) [.qz 1]
 (.x 3 (.st 1) [.qz 2,.qj 0] none []
 (.out (qx [0,91,92,93] []))))))
 [0,9,91,92,93]
abbrev Yz:NC:=.reg
 (.Q 0 (.iar .add) [.qq 93,.qj 1]
 (.out (qx [0,91,92] [(93,.qz 0)])))
 [0,91,92,93]
abbrev kU:NC :=
 (.seq Yj
 (.seq (.cond (.qq 94)
 .skip
 (.exit 4))
 (.seq (.block 5 (.seq Zo
 (.seq (.seq Zn
 (.cond (.qq 103)
 (.seq jC
 (.exit 5))
 .skip))
 (.seq (.seq Zm
 (.cond (.qq 119)
 (.exit 5)
 .skip))
 (.seq Zl
 (.seq Zi
 (.seq Zh
 (.cond (.qq 162)
 Zg
 .skip))))))))
 Yz)))
abbrev XG:NC :=
 (.seq (.seq JB
 (.block 0 (.loop [0,15,16,17] vz)))
 (.seq (.seq JA
 (.block 2 (.loop [0,59,60,61] vq)))
 (.seq Zp
 (.block 4 (.loop [0,91,92,93] kU)))))
abbrev bM:FN:=⟨XG,[]⟩
theorem pR:GoT 26 Tryz.f26 XG bM:=goT (F:=bM) Tryz.func26 (by kernel_rfl)
abbrev tz:NC:=.reg
 (.x 0 (.box 25) [.qq 1] none []
 (.x 1 (.box 41) [.qq 2] none []
 (.out [(0,.qq 0),(4,.qz 0),(5,.qz 1)])))
 [0,1,2]
abbrev tq:NC:=.reg
 (.Q 1 .nilck [.qq 0]
 (.Q 2 (.fld 2) [.qz 1]
 (.Q 3 .ld [.qz 2]
 (.Q 4 (.lda 2) [.qq 4]
 (.Q 5 (.lda 21) [.qq 5]
 (.x 6 (.call 55) [.qz 3,.qz 4,.qz 5] none []
 (.Q 7 .not [.qz 6]
 (.out (qx [0,4,5] [(14,.qz 7)])))))))))
 [0,4,5]
abbrev sU:NC:=.reg
 (.out [(6,.const (.bool false))])
 []
abbrev sT:NC:=.reg
 (.Q 2 .nilck [.qq 0]
 (.Q 3 (.fld 6) [.qz 2]
 (.Q 4 .ld [.qz 3]
 (.Q 5 (.lda 2) [.qq 4]
 (.Q 6 (.lda 21) [.qq 5]
 (.x 7 (.call 67) [.qz 5,.qz 6] none [(4,.ld,[.qz 3],none)]
 (.x 8 (.bsl 113 1 [.slice none 0 0] [(0,1)]) [.qz 7] none [(4,.ld,[.qz 3],none)]
 (.x 9 (.app 113 1 24 [.slice none 0 0]) [.qz 4,.qz 8] none []
 (.Q 10 .nilck [.qq 0]
 (.Q 11 (.fld 6) [.qz 10]
 (.x 12 (.st 1) [.qz 11,.qz 9] none []
 (.out (qx [0,4,5] [])))))))))))))
 [0,4,5]
abbrev sS:NC:=.reg
 (.Q 1 (.lda 2) [.qq 4]
 (.Q 2 (.lda 21) [.qq 5]
 (.x 3 (.call 56) [.qq 0,.qz 1,.qz 2] none []
 (.out []))))
 [0,4,5]
abbrev sR:NC:=.reg
 (.out [(6,.const (.bool true))])
 []
abbrev dX:NC :=
 (.seq tz
 (.seq (.seq tq
 (.cond (.qq 14)
 (.seq sU
 .ret)
 .skip))
 (.seq sT
 (.seq sS
 (.seq sR
 .ret)))))
abbrev dK:FN:=⟨dX,[.qq 6]⟩
theorem bg:GoT 31 Tryz.f31 dX dK:=goT (F:=dK) Tryz.func31 (by kernel_rfl)
abbrev mU:NC:=.reg
 (.x 2 (.call 68) [.qq 0,.qq 1] none []
 (.out (qx [0,1] [])))
 [0,1]
abbrev mT:NC:=.reg
 (.Q 4 .nilck [.qq 1]
 (.Q 5 (.fld 21) [.qz 4]
 (.Q 6 (.lda 7) [.qz 5]
 (.x 2 (.call 60) [.qq 1] none [(6,.lda 7,[.qz 5],none)]
 (.x 7 (.call 59) [.qq 0,.qz 2,.qz 6] none []
 (.out []))))))
 [0,1]
abbrev ax:NC :=
 (.seq mU
 mT)
abbrev ak:FN:=⟨ax,[]⟩
theorem nq:GoT 32 Tryz.f32 ax ak:=goT (F:=ak) Tryz.func32 (by kernel_rfl)
abbrev pg:NC:=.reg
 (.x 0 (.box 25) [.qq 1] none []
 (.out [(0,.qq 0),(3,.qz 0)]))
 [0,1]
abbrev pf:NC:=.reg
 (.Q 0 (.lda 2) [.qq 3]
 (.x 1 (.call 66) [.qz 0] none []
 (.Q 2 .not [.qz 1]
 (.q 4 .mv [.qq 0] (some (.qz 2,false))
 (.q 5 (.fld 0) [.qq 3] (some (.qz 2,false))
 (.q 6 .ld [.qz 5] (some (.qz 2,false))
 (.x 7 (.call 43) [.qz 4,.qz 6] (some (.qz 2,false)) []
 (.q 8 .not [.qz 7] (some (.qz 2,false))
 (.Q 9 .pick [.qz 2,.const (.bool true),.qz 8]
 (.q 11 .mv [.qq 0] (some (.qz 9,false))
 (.q 12 .nilck [.qz 11] (some (.qz 9,false))
 (.q 13 (.fld 2) [.qz 12] (some (.qz 9,false))
 (.q 14 .ld [.qz 13] (some (.qz 9,false))
 (.q 15 (.lda 2) [.qq 3] (some (.qz 9,false))
 (.x 16 (.call 44) [.qz 14,.qz 15] (some (.qz 9,false)) []
 (.Q 17 .pick [.qz 9,.const (.bool true),.qz 16]
 (.out (qx [0,3] [(24,.qz 17)]))))))))))))))))))
 [0,3]
abbrev pe:NC:=.reg
 (.out [(4,.const (.bool false))])
 []
abbrev pd:NC:=.reg
 (.Q 1 .nilck [.qq 0]
 (.Q 2 (.fld 2) [.qz 1]
 (.Q 3 .ld [.qz 2]
 (.Q 4 (.lda 2) [.qq 3]
 (.both
 (.x 5 (.call 33) [.qz 3,.qz 4] none []
 (.Q 7 (.ext 0) [.qz 5]
 (.Q 8 (.ext 1) [.qz 5]
 (.x 9 (.alc [.int .i64 0,.int .i64 0,.int .i64 0,.int .i64 0,.int .i64 0,.int .i64 0,.int .i64 0,.int .i64 0,(.string ⟨#[]⟩),(.string ⟨#[]⟩),(.string ⟨#[]⟩),(.string ⟨#[]⟩),.int .i64 0,.int .i64 0,.int .i64 0,.int .i64 0,.int .i64 0,.int .i64 0,.int .i64 0,.int .i64 0,.bool false] 41) [] none [(3,.ld,[.qz 2],none),(4,.lda 2,[.qq 3],none)]
 (.x 10 (.st 21) [.qz 9,.qz 7] none []
 (.out [(5,.qz 9)]))))))
 (.x 9 (.alc [.int .i64 0,.int .i64 0,.int .i64 0,.int .i64 0,.int .i64 0,.int .i64 0,.int .i64 0,.int .i64 0,(.string ⟨#[]⟩),(.string ⟨#[]⟩),(.string ⟨#[]⟩),(.string ⟨#[]⟩),.int .i64 0,.int .i64 0,.int .i64 0,.int .i64 0,.int .i64 0,.int .i64 0,.int .i64 0,.int .i64 0,.bool false] 41) [] none [(3,.ld,[.qz 2],none),(4,.lda 2,[.qq 3],none)]
 (.x 5 (.call 33) [.qz 3,.qz 4] none []
 (.Q 7 (.ext 0) [.qz 5]
 (.Q 8 (.ext 1) [.qz 5]
 (.x 10 (.st 21) [.qz 9,.qz 7] none []
 (.out [(5,.qz 9)])))))))))))
 [0,3]
abbrev pb:NC:=.reg
 (.Q 0 (.fld 0) [.qq 5]
 (.Q 1 .ld [.qz 0]
 (.Q 2 (.icm .neq) [.qz 1,.qj 3]
 (.out [(4,.qz 2)]))))
 [5]
abbrev bC:NC :=
 (.seq pg
 (.seq (.seq pf
 (.cond (.qq 24)
 (.seq pe
 .ret)
 .skip))
 (.seq pd
 (.seq pb
 .ret))))
abbrev bD:FN:=⟨bC,[.qq 4]⟩
theorem kT:GoT 34 Tryz.f34 bC bD:=goT (F:=bD) Tryz.func34 (by kernel_rfl)
abbrev pG:NC:=.reg
 (.x 0 (.box 25) [.qq 1] none []
 (.out [(0,.qq 0),(3,.qz 0)]))
 [0,1]
abbrev pF:NC:=.reg
 (.Q 1 .nilck [.qq 0]
 (.Q 2 (.fld 4) [.qz 1]
 (.Q 3 .ld [.qz 2]
 (.Q 4 .len [.qz 3]
 (.out [(3,.qq 3),(10,.qz 3),(11,.qz 4),(12,.qj 0)])))))
 [0,3]
abbrev pE:NC:=.reg
 (.Q 0 (.icm .lss) [.qq 12,.qq 11]
 (.out (qx [3,10,11,12] [(13,.qz 0)])))
 [3,10,11,12]
abbrev pD:NC:=.reg
 (.Q 0 (.ixs 1) [.qq 10,.qq 12]
 (.Q 1 .ld [.qz 0]
 (.out [(3,.qq 3),(6,.qz 1),(10,.qq 10),(11,.qq 11),(12,.qq 12)])))
 [3,10,11,12]
abbrev pC:NC:=.reg
 (.Q 1 .nilck [.qq 6]
 (.Q 2 (.fld 0) [.qz 1]
 (.Q 3 (.lda 2) [.qz 2]
 (.Q 4 (.lda 2) [.qq 3]
 (.Q 5 (.eqc false [.i .i64,.i .i64]) [.qz 3,.qz 4]
 (.out (qx [3,6,10,11,12] [(21,.qz 5)])))))))
 [3,6,10,11,12]
abbrev pB:NC:=.reg
 (.out [(4,.qq 6)])
 [6]
abbrev pA:NC:=.reg
 (.Q 0 (.iar .add) [.qq 12,.qj 1]
 (.out (qx [3,10,11] [(12,.qz 0)])))
 [3,10,11,12]
abbrev pH:NC :=
 (.seq pE
 (.seq (.cond (.qq 13)
 .skip
 (.exit 0))
 (.seq (.block 1 (.seq pD
 (.seq pC
 (.cond (.qq 21)
 (.seq pB
 .ret)
 .skip))))
 pA)))
abbrev pu:NC:=.reg
 (.out [(4,.const (.pointer none))])
 []
abbrev bG:NC :=
 (.seq pG
 (.seq (.seq pF
 (.block 0 (.loop [3,10,11,12] pH)))
 (.seq pu
 .ret)))
abbrev bH:FN:=⟨bG,[.qq 4]⟩
theorem pI:GoT 35 Tryz.f35 bG bH:=goT (F:=bH) Tryz.func35 (by kernel_rfl)
abbrev io:NC:=.reg
 (.x 0 (.box 25) [.qq 1] none []
 (.out [(0,.qq 0),(3,.qz 0)]))
 [0,1]
abbrev im:NC:=.reg
 (.Q 1 .nilck [.qq 0]
 (.Q 2 (.fld 5) [.qz 1]
 (.Q 3 .ld [.qz 2]
 (.Q 4 .len [.qz 3]
 (.out [(3,.qq 3),(10,.qz 3),(11,.qz 4),(12,.qj 0)])))))
 [0,3]
abbrev il:NC:=.reg
 (.Q 0 (.icm .lss) [.qq 12,.qq 11]
 (.out (qx [3,10,11,12] [(13,.qz 0)])))
 [3,10,11,12]
abbrev ii:NC:=.reg
 (.Q 0 (.ixs 1) [.qq 10,.qq 12]
 (.Q 1 .ld [.qz 0]
 (.out [(3,.qq 3),(6,.qz 1),(10,.qq 10),(11,.qq 11),(12,.qq 12)])))
 [3,10,11,12]
abbrev ig:NC:=.reg
 (.Q 1 .nilck [.qq 6]
 (.Q 2 (.fld 0) [.qz 1]
 (.Q 3 (.lda 2) [.qz 2]
 (.Q 4 (.lda 2) [.qq 3]
 (.Q 5 (.eqc false [.i .i64,.i .i64]) [.qz 3,.qz 4]
 (.out (qx [3,6,10,11,12] [(21,.qz 5)])))))))
 [3,6,10,11,12]
abbrev ie:NC:=.reg
 (.out [(4,.qq 6)])
 [6]
abbrev ib:NC:=.reg
 (.Q 0 (.iar .add) [.qq 12,.qj 1]
 (.out (qx [3,10,11] [(12,.qz 0)])))
 [3,10,11,12]
abbrev ir:NC :=
 (.seq il
 (.seq (.cond (.qq 13)
 .skip
 (.exit 0))
 (.seq (.block 1 (.seq ii
 (.seq ig
 (.cond (.qq 21)
 (.seq ie
 .ret)
 .skip))))
 ib)))
abbrev iY:NC:=.reg
 (.out [(4,.const (.pointer none))])
 []
abbrev Wp:NC :=
 (.seq io
 (.seq (.seq im
 (.block 0 (.loop [3,10,11,12] ir)))
 (.seq iY
 .ret)))
abbrev Wr:FN:=⟨Wp,[.qq 4]⟩
theorem iu:GoT 36 Tryz.f36 Wp Wr:=goT (F:=Wr) Tryz.func36 (by kernel_rfl)
abbrev tv:NC:=.reg
 (.out (qx [0,1] []))
 [0,1]
abbrev tj:NC:=.reg
 (.Q 1 (.icm .geq) [.qq 1,.qj 0]
 (.q 3 .mv [.qq 1] (some (.qz 1,true))
 (.q 4 .mv [.qq 0] (some (.qz 1,true))
 (.q 5 .nilck [.qz 4] (some (.qz 1,true))
 (.q 6 (.fld 0) [.qz 5] (some (.qz 1,true))
 (.q 7 .ld [.qz 6] (some (.qz 1,true))
 (.q 8 (.icm .lss) [.qz 3,.qz 7] (some (.qz 1,true))
 (.Q 9 .pick [.qz 1,.qz 8,.const (.bool false)]
 (.out [(4,.qz 9)])))))))))
 [0,1]
abbrev dW:NC :=
 (.seq tv
 (.seq tj
 .ret))
abbrev dY:FN:=⟨dW,[.qq 4]⟩
theorem tQ:GoT 43 Tryz.f43 dW dY:=goT (F:=dY) Tryz.func43 (by kernel_rfl)
abbrev WM:NC:=.reg
 (.x 0 (.box 45) [.qq 1] none []
 (.out [(0,.qq 0),(3,.qz 0)]))
 [0,1]
abbrev WI:NC:=.reg
 (.Q 1 .nilck [.qq 0]
 (.Q 2 (.fld 2) [.qz 1]
 (.Q 3 .ld [.qz 2]
 (.Q 4 (.fld 3) [.qq 3]
 (.Q 5 (.lda 2) [.qz 4]
 (.both
 (.x 6 (.call 33) [.qz 3,.qz 5] none []
 (.Q 8 (.ext 0) [.qz 6]
 (.Q 9 (.ext 1) [.qz 6]
 (.x 10 (.alc [.int .i64 0,.int .i64 0,.int .i64 0,.int .i64 0,.int .i64 0,.int .i64 0,.int .i64 0,.int .i64 0,(.string ⟨#[]⟩),(.string ⟨#[]⟩),(.string ⟨#[]⟩),(.string ⟨#[]⟩),.int .i64 0,.int .i64 0,.int .i64 0,.int .i64 0,.int .i64 0,.int .i64 0,.int .i64 0,.int .i64 0,.bool false] 41) [] none [(3,.ld,[.qz 2],none),(5,.lda 2,[.qz 4],none)]
 (.x 11 (.st 21) [.qz 10,.qz 8] none []
 (.out (qx [0,3] [(4,.qz 10)])))))))
 (.x 10 (.alc [.int .i64 0,.int .i64 0,.int .i64 0,.int .i64 0,.int .i64 0,.int .i64 0,.int .i64 0,.int .i64 0,(.string ⟨#[]⟩),(.string ⟨#[]⟩),(.string ⟨#[]⟩),(.string ⟨#[]⟩),.int .i64 0,.int .i64 0,.int .i64 0,.int .i64 0,.int .i64 0,.int .i64 0,.int .i64 0,.int .i64 0,.bool false] 41) [] none [(3,.ld,[.qz 2],none),(5,.lda 2,[.qz 4],none)]
 (.x 6 (.call 33) [.qz 3,.qz 5] none []
 (.Q 8 (.ext 0) [.qz 6]
 (.Q 9 (.ext 1) [.qz 6]
 (.x 11 (.st 21) [.qz 10,.qz 8] none []
 (.out (qx [0,3] [(4,.qz 10)])))))))))))))
 [0,3]
abbrev Zf:NC:=.reg
 (.Q 0 (.fld 0) [.qq 4]
 (.Q 1 .ld [.qz 0]
 (.Q 2 (.icm .eql) [.qz 1,.qj 3]
 (.out (qx [0,3,4] [(21,.qz 2)])))))
 [0,3,4]
abbrev Ze:NC:=.reg
 (.Q 1 (.fld 1) [.qq 3]
 (.Q 2 .ld [.qz 1]
 (.Q 3 (.fld 3) [.qq 3]
 (.Q 4 (.lda 2) [.qz 3]
 (.Q 5 (.fld 5) [.qq 4]
 (.Q 6 (.lda 7) [.qz 5]
 (.Q 7 (.fld 12) [.qq 4]
 (.Q 8 (.lda 8) [.qz 7]
 (.Q 9 (.bld [.int .i64 0,.int .i64 0,.int .i64 0,.int .i64 0,.int .i64 0,.int .i64 0,.int .i64 0,.int .i64 0,.int .i64 0,.int .i64 0,(.string ⟨#[]⟩),(.string ⟨#[]⟩),(.string ⟨#[]⟩),(.string ⟨#[]⟩),.int .i64 0,.int .i64 0,.int .i64 0,.int .i64 0,.int .i64 0,.int .i64 0,.int .i64 0,.int .i64 0,.int .i64 0,.int .i64 0,.int .i64 0,.int .i64 0,.int .i64 0,.int .i64 0,.int .i64 0,.int .i64 0,(.string ⟨#[]⟩),(.string ⟨#[]⟩),(.string ⟨#[]⟩),(.string ⟨#[]⟩),.int .i64 0,.int .i64 0,.int .i64 0,.int .i64 0,.int .i64 0,.int .i64 0,.int .i64 0,.int .i64 0,.bool false,.int .i64 0,.int .i64 0,.int .i64 0,.int .i64 0,.int .i64 0,.int .i64 0,.int .i64 0,(.string ⟨#[]⟩)] [(0,1),(3,2),(7,7),(14,8)]) [.qj 5,.qz 4,.qz 6,.qz 8]
 (.x 10 (.call 73) [.qq 0,.qz 2,.qz 9] none []
 (.out [])))))))))))
 [0,3,4]
abbrev Zd:NC:=.reg
 (.Q 0 (.fld 5) [.qq 3]
 (.Q 1 (.lda 2) [.qz 0]
 (.Q 2 (.fld 1) [.qq 4]
 (.Q 3 (.lda 2) [.qz 2]
 (.x 4 (.call 37) [.qz 1,.qz 3] none []
 (.out (qx [0,3,4] [(37,.qz 4)])))))))
 [0,3,4]
abbrev Zc:NC:=.reg
 (.Q 1 (.fld 1) [.qq 3]
 (.Q 2 .ld [.qz 1]
 (.Q 3 (.fld 3) [.qq 3]
 (.Q 4 (.lda 2) [.qz 3]
 (.Q 5 (.fld 1) [.qq 4]
 (.Q 6 (.lda 2) [.qz 5]
 (.Q 7 (.bld [.int .i64 0,.int .i64 0,.int .i64 0,.int .i64 0,.int .i64 0,.int .i64 0,.int .i64 0,.int .i64 0,.int .i64 0,.int .i64 0,(.string ⟨#[]⟩),(.string ⟨#[]⟩),(.string ⟨#[]⟩),(.string ⟨#[]⟩),.int .i64 0,.int .i64 0,.int .i64 0,.int .i64 0,.int .i64 0,.int .i64 0,.int .i64 0,.int .i64 0,.int .i64 0,.int .i64 0,.int .i64 0,.int .i64 0,.int .i64 0,.int .i64 0,.int .i64 0,.int .i64 0,(.string ⟨#[]⟩),(.string ⟨#[]⟩),(.string ⟨#[]⟩),(.string ⟨#[]⟩),.int .i64 0,.int .i64 0,.int .i64 0,.int .i64 0,.int .i64 0,.int .i64 0,.int .i64 0,.int .i64 0,.bool false,.int .i64 0,.int .i64 0,.int .i64 0,.int .i64 0,.int .i64 0,.int .i64 0,.int .i64 0,(.string ⟨#[]⟩)] [(0,1),(3,2),(5,2)]) [.qj 8,.qz 4,.qz 6]
 (.x 8 (.call 73) [.qq 0,.qz 2,.qz 7] none []
 (.out [])))))))))
 [0,3,4]
abbrev Zb:NC:=.reg
 (.Q 1 (.fld 3) [.qq 3]
 (.Q 2 (.lda 2) [.qz 1]
 (.x 3 (.call 35) [.qq 0,.qz 2] none []
 (.out (qx [0,3,4] [(6,.qz 3)])))))
 [0,3,4]
abbrev Za:NC:=.reg
 (.Q 1 (.eqp true) [.qq 6,.const (.pointer none)]
 (.q 3 .mv [.qq 6] (some (.qz 1,true))
 (.q 4 .nilck [.qz 3] (some (.qz 1,true))
 (.q 5 (.fld 3) [.qz 4] (some (.qz 1,true))
 (.q 6 (.lda 2) [.qz 5] (some (.qz 1,true))
 (.q 7 (.fld 5) [.qq 3] (some (.qz 1,true))
 (.q 8 (.lda 2) [.qz 7] (some (.qz 1,true))
 (.x 9 (.call 37) [.qz 6,.qz 8] (some (.qz 1,true)) []
 (.Q 10 .pick [.qz 1,.qz 9,.const (.bool false)]
 (.out (qx [0,3,4] [(61,.qz 10)])))))))))))
 [0,3,4,6]
abbrev ZY:NC:=.reg
 (.Q 1 (.fld 3) [.qq 3]
 (.Q 2 (.lda 2) [.qz 1]
 (.x 3 (.call 74) [.qq 0,.qz 2] none []
 (.out (qx [0,3,4] [])))))
 [0,3,4]
abbrev jB:NC:=.reg
 (.Q 0 (.fld 0) [.qq 4]
 (.Q 1 .ld [.qz 0]
 (.Q 2 (.icm .neq) [.qz 1,.qj 0]
 (.q 4 (.fld 3) [.qq 4] (some (.qz 2,true))
 (.q 5 (.lda 2) [.qz 4] (some (.qz 2,true))
 (.q 6 (.fld 5) [.qq 3] (some (.qz 2,true))
 (.q 7 (.lda 2) [.qz 6] (some (.qz 2,true))
 (.q 8 (.eqc false [.i .i64,.i .i64]) [.qz 5,.qz 7] (some (.qz 2,true))
 (.Q 9 .pick [.qz 2,.qz 8,.const (.bool false)]
 (.out (qx [0,3,4] [(7,.qz 9)])))))))))))
 [0,3,4]
abbrev yU:NC:=.reg
 (.Q 0 (.fld 0) [.qq 3]
 (.Q 1 .ld [.qz 0]
 (.out (qx [0,3,4,7] [(77,.qz 1)]))))
 [0,3,4,7]
abbrev yT:NC:=.reg
 (.Q 0 (.icm .eql) [.qq 77,.qj 1]
 (.out (qx [0,3,4,7,77] [(78,.qz 0)])))
 [0,3,4,7,77]
abbrev yS:NC:=.reg
 (.Q 1 (.lda 51) [.qq 3]
 (.Q 2 (.lda 21) [.qq 4]
 (.x 4 (.call 75) [.qq 0,.qz 1,.qz 2,.qq 7] none []
 (.out []))))
 [0,3,4,7]
abbrev yR:NC:=.reg
 (.Q 0 (.icm .eql) [.qq 77,.qj 3]
 (.out (qx [0,3,4,7,77] [(85,.qz 0)])))
 [0,3,4,7,77]
abbrev yP:NC:=.reg
 (.q 2 (.fld 0) [.qq 4] (some (.qq 7,true))
 (.q 3 .ld [.qz 2] (some (.qq 7,true))
 (.q 4 (.icm .eql) [.qz 3,.qj 2] (some (.qq 7,true))
 (.Q 5 .pick [.qq 7,.qz 4,.const (.bool false)]
 (.out (qx [0,3] [(8,.qz 5)]))))))
 [0,3,4,7]
abbrev je:NC:=.reg
 (.q 2 .mv [.qq 0] (some (.qq 8,false))
 (.q 3 (.fld 3) [.qq 3] (some (.qq 8,false))
 (.q 4 (.lda 2) [.qz 3] (some (.qq 8,false))
 (.q 5 (.fld 5) [.qq 3] (some (.qq 8,false))
 (.q 6 (.lda 2) [.qz 5] (some (.qq 8,false))
 (.q 7 (.fld 5) [.qq 3] (some (.qq 8,false))
 (.q 8 (.lda 2) [.qz 7] (some (.qq 8,false))
 (.q 9 (.fld 7) [.qq 3] (some (.qq 8,false))
 (.q 10 (.lda 7) [.qz 9] (some (.qq 8,false))
 (.q 11 (.fld 14) [.qq 3] (some (.qq 8,false))
 (.q 12 (.lda 8) [.qz 11] (some (.qq 8,false))
 (.q 13 (.bld [.int .i64 0,.int .i64 0,.int .i64 0,.int .i64 0,.int .i64 0,.int .i64 0,.int .i64 0,.int .i64 0,(.string ⟨#[]⟩),(.string ⟨#[]⟩),(.string ⟨#[]⟩),(.string ⟨#[]⟩),.int .i64 0,.int .i64 0,.int .i64 0,.int .i64 0,.int .i64 0,.int .i64 0,.int .i64 0,.int .i64 0,.bool false] [(0,1),(1,2),(3,2),(5,7),(12,8)]) [.qj 2,.qz 6,.qz 8,.qz 10,.qz 12] (some (.qq 8,false))
 (.x 14 (.call 31) [.qz 2,.qz 4,.qz 13] (some (.qq 8,false)) []
 (.Q 15 .pick [.qq 8,.const (.bool true),.qz 14]
 (.out (qx [0,3] [(108,.qz 15)]))))))))))))))))
 [0,3,8]
abbrev jd:NC:=.reg
 (.Q 1 (.fld 1) [.qq 3]
 (.Q 2 .ld [.qz 1]
 (.Q 3 (.fld 3) [.qq 3]
 (.Q 4 (.lda 2) [.qz 3]
 (.Q 5 (.fld 5) [.qq 3]
 (.Q 6 (.lda 2) [.qz 5]
 (.Q 7 (.bld [.int .i64 0,.int .i64 0,.int .i64 0,.int .i64 0,.int .i64 0,.int .i64 0,.int .i64 0,.int .i64 0,.int .i64 0,.int .i64 0,(.string ⟨#[]⟩),(.string ⟨#[]⟩),(.string ⟨#[]⟩),(.string ⟨#[]⟩),.int .i64 0,.int .i64 0,.int .i64 0,.int .i64 0,.int .i64 0,.int .i64 0,.int .i64 0,.int .i64 0,.int .i64 0,.int .i64 0,.int .i64 0,.int .i64 0,.int .i64 0,.int .i64 0,.int .i64 0,.int .i64 0,(.string ⟨#[]⟩),(.string ⟨#[]⟩),(.string ⟨#[]⟩),(.string ⟨#[]⟩),.int .i64 0,.int .i64 0,.int .i64 0,.int .i64 0,.int .i64 0,.int .i64 0,.int .i64 0,.int .i64 0,.bool false,.int .i64 0,.int .i64 0,.int .i64 0,.int .i64 0,.int .i64 0,.int .i64 0,.int .i64 0,(.string ⟨#[]⟩)] [(0,1),(3,2),(5,2)]) [.qj 4,.qz 4,.qz 6]
 (.x 8 (.call 73) [.qq 0,.qz 2,.qz 7] none []
 (.out [])))))))))
 [0,3]
abbrev yO:NC:=.reg
 (.Q 0 (.icm .eql) [.qq 77,.qj 6]
 (.out (qx [0,3,4] [(118,.qz 0)])))
 [0,3,4,77]
abbrev yN:NC:=.reg
 (.Q 0 (.fld 1) [.qq 4]
 (.Q 1 (.lda 2) [.qz 0]
 (.Q 2 (.fld 5) [.qq 3]
 (.Q 3 (.lda 2) [.qz 2]
 (.Q 4 (.eqc true [.i .i64,.i .i64]) [.qz 1,.qz 3]
 (.out (qx [0,3,4] [(124,.qz 4)])))))))
 [0,3,4]
abbrev yM:NC:=.reg
 (.Q 0 (.fld 5) [.qq 3]
 (.Q 1 (.lda 2) [.qz 0]
 (.Q 2 (.fld 1) [.qq 4]
 (.x 3 (.st 2) [.qz 2,.qz 1] none []
 (.out (qx [0,3,4] []))))))
 [0,3,4]
abbrev yL:NC:=.reg
 (.Q 1 (.fld 3) [.qq 3]
 (.Q 2 (.lda 2) [.qz 1]
 (.Q 3 (.lda 21) [.qq 4]
 (.x 4 (.call 31) [.qq 0,.qz 2,.qz 3] none []
 (.Q 5 .not [.qz 4]
 (.out (qx [0,3,4] [(133,.qz 5)])))))))
 [0,3,4]
abbrev yI:NC:=.reg
 (.Q 1 (.fld 1) [.qq 3]
 (.Q 2 .ld [.qz 1]
 (.Q 3 (.fld 3) [.qq 3]
 (.Q 4 (.lda 2) [.qz 3]
 (.Q 5 (.fld 5) [.qq 3]
 (.Q 6 (.lda 2) [.qz 5]
 (.Q 7 (.lda 21) [.qq 4]
 (.Q 8 (.bld [.int .i64 0,.int .i64 0,.int .i64 0,.int .i64 0,.int .i64 0,.int .i64 0,.int .i64 0,.int .i64 0,.int .i64 0,.int .i64 0,(.string ⟨#[]⟩),(.string ⟨#[]⟩),(.string ⟨#[]⟩),(.string ⟨#[]⟩),.int .i64 0,.int .i64 0,.int .i64 0,.int .i64 0,.int .i64 0,.int .i64 0,.int .i64 0,.int .i64 0,.int .i64 0,.int .i64 0,.int .i64 0,.int .i64 0,.int .i64 0,.int .i64 0,.int .i64 0,.int .i64 0,(.string ⟨#[]⟩),(.string ⟨#[]⟩),(.string ⟨#[]⟩),(.string ⟨#[]⟩),.int .i64 0,.int .i64 0,.int .i64 0,.int .i64 0,.int .i64 0,.int .i64 0,.int .i64 0,.int .i64 0,.bool false,.int .i64 0,.int .i64 0,.int .i64 0,.int .i64 0,.int .i64 0,.int .i64 0,.int .i64 0,(.string ⟨#[]⟩)] [(0,1),(3,2),(5,2),(22,21)]) [.qj 7,.qz 4,.qz 6,.qz 7]
 (.x 9 (.call 73) [.qq 0,.qz 2,.qz 8] none []
 (.out []))))))))))
 [0,3,4]
abbrev Ji:NC :=
 (.seq WM
 (.seq WI
 (.seq (.seq Zf
 (.cond (.qq 21)
 (.seq Ze
 .ret)
 .skip))
 (.seq (.seq Zd
 (.cond (.qq 37)
 (.seq Zc
 .ret)
 .skip))
 (.seq (.seq Zb
 (.seq Za
 (.cond (.qq 61)
 ZY
 .skip)))
 (.seq jB
 (.seq yU
 (.block 0 (.seq yT
 (.cond (.qq 78)
 yS
 (.seq yR
 (.cond (.qq 85)
 (.seq yP
 (.seq je
 (.cond (.qq 108)
 jd
 .skip)))
 (.seq yO
 (.cond (.qq 118)
 (.seq (.seq yN
 (.cond (.qq 124)
 (.seq yM
 (.seq yL
 (.cond (.qq 133)
 .ret
 .skip)))
 .skip))
 yI)
 .skip))))))))))))))
abbrev av:FN:=⟨Ji,[]⟩
theorem nj:GoT 45 Tryz.f45 Ji av:=goT (F:=av) Tryz.func45 (by kernel_rfl)
abbrev YU:NC:=.reg
 (.x 0 (.box 45) [.qq 1] none []
 (.out [(0,.qq 0),(3,.qz 0)]))
 [0,1]
abbrev YT:NC:=.reg
 (.Q 1 .nilck [.qq 0]
 (.Q 2 (.fld 2) [.qz 1]
 (.Q 3 .ld [.qz 2]
 (.Q 4 (.fld 3) [.qq 3]
 (.Q 5 (.lda 2) [.qz 4]
 (.both
 (.x 6 (.call 33) [.qz 3,.qz 5] none []
 (.Q 8 (.ext 0) [.qz 6]
 (.Q 9 (.ext 1) [.qz 6]
 (.x 10 (.alc [.int .i64 0,.int .i64 0,.int .i64 0,.int .i64 0,.int .i64 0,.int .i64 0,.int .i64 0,.int .i64 0,(.string ⟨#[]⟩),(.string ⟨#[]⟩),(.string ⟨#[]⟩),(.string ⟨#[]⟩),.int .i64 0,.int .i64 0,.int .i64 0,.int .i64 0,.int .i64 0,.int .i64 0,.int .i64 0,.int .i64 0,.bool false] 41) [] none [(3,.ld,[.qz 2],none),(5,.lda 2,[.qz 4],none)]
 (.x 11 (.st 21) [.qz 10,.qz 8] none []
 (.out (qx [0,3] [(4,.qz 10)])))))))
 (.x 10 (.alc [.int .i64 0,.int .i64 0,.int .i64 0,.int .i64 0,.int .i64 0,.int .i64 0,.int .i64 0,.int .i64 0,(.string ⟨#[]⟩),(.string ⟨#[]⟩),(.string ⟨#[]⟩),(.string ⟨#[]⟩),.int .i64 0,.int .i64 0,.int .i64 0,.int .i64 0,.int .i64 0,.int .i64 0,.int .i64 0,.int .i64 0,.bool false] 41) [] none [(3,.ld,[.qz 2],none),(5,.lda 2,[.qz 4],none)]
 (.x 6 (.call 33) [.qz 3,.qz 5] none []
 (.Q 8 (.ext 0) [.qz 6]
 (.Q 9 (.ext 1) [.qz 6]
 (.x 11 (.st 21) [.qz 10,.qz 8] none []
 (.out (qx [0,3] [(4,.qz 10)])))))))))))))
 [0,3]
abbrev YS:NC:=.reg
 (.Q 0 (.fld 0) [.qq 4]
 (.Q 1 .ld [.qz 0]
 (.Q 2 (.icm .eql) [.qz 1,.qj 3]
 (.out (qx [0,3,4] [(18,.qz 2)])))))
 [0,3,4]
abbrev YR:NC:=.reg
 (.Q 1 (.fld 3) [.qq 3]
 (.Q 2 (.lda 2) [.qz 1]
 (.x 3 (.call 74) [.qq 0,.qz 2] none []
 (.out (qx [0,3,4] [])))))
 [0,3,4]
abbrev YP:NC:=.reg
 (.Q 1 (.fld 3) [.qq 3]
 (.Q 2 (.lda 2) [.qz 1]
 (.Q 3 (.fld 1) [.qq 4]
 (.Q 4 (.lda 2) [.qz 3]
 (.Q 5 (.fld 3) [.qq 4]
 (.Q 6 (.lda 2) [.qz 5]
 (.Q 7 (.fld 7) [.qq 3]
 (.Q 8 (.lda 7) [.qz 7]
 (.Q 9 (.fld 14) [.qq 3]
 (.Q 10 (.lda 8) [.qz 9]
 (.Q 11 (.bld [.int .i64 0,.int .i64 0,.int .i64 0,.int .i64 0,.int .i64 0,.int .i64 0,.int .i64 0,.int .i64 0,(.string ⟨#[]⟩),(.string ⟨#[]⟩),(.string ⟨#[]⟩),(.string ⟨#[]⟩),.int .i64 0,.int .i64 0,.int .i64 0,.int .i64 0,.int .i64 0,.int .i64 0,.int .i64 0,.int .i64 0,.bool false] [(0,1),(1,2),(3,2),(5,7),(12,8)]) [.qj 3,.qz 4,.qz 6,.qz 8,.qz 10]
 (.x 12 (.call 31) [.qq 0,.qz 2,.qz 11] none []
 (.out [])))))))))))))
 [0,3,4]
abbrev XD:NC :=
 (.seq YU
 (.seq YT
 (.seq (.seq YS
 (.cond (.qq 18)
 .ret
 .skip))
 (.seq YR
 YP))))
abbrev ba:FN:=⟨XD,[]⟩
theorem pw:GoT 46 Tryz.f46 XD ba:=goT (F:=ba) Tryz.func46 (by kernel_rfl)
abbrev KN:NC:=.reg
 (.x 0 (.box 45) [.qq 1] none []
 (.out [(0,.qq 0),(3,.qz 0)]))
 [0,1]
abbrev KM:NC:=.reg
 (.Q 1 (.fld 3) [.qq 3]
 (.Q 2 (.lda 2) [.qz 1]
 (.x 3 (.call 35) [.qq 0,.qz 2] none []
 (.out (qx [0,3] [(4,.qz 3)])))))
 [0,3]
abbrev KL:NC:=.reg
 (.Q 1 (.eqp false) [.qq 4,.const (.pointer none)]
 (.q 3 .mv [.qq 4] (some (.qz 1,false))
 (.q 4 .nilck [.qz 3] (some (.qz 1,false))
 (.q 5 (.fld 3) [.qz 4] (some (.qz 1,false))
 (.q 6 (.lda 2) [.qz 5] (some (.qz 1,false))
 (.q 7 (.fld 5) [.qq 3] (some (.qz 1,false))
 (.q 8 (.lda 2) [.qz 7] (some (.qz 1,false))
 (.x 9 (.call 37) [.qz 6,.qz 8] (some (.qz 1,false)) []
 (.q 10 .not [.qz 9] (some (.qz 1,false))
 (.Q 11 .pick [.qz 1,.const (.bool true),.qz 10]
 (.out (qx [0,3] [(21,.qz 11)]))))))))))))
 [0,3,4]
abbrev KI:NC:=.reg
 (.Q 1 (.fld 3) [.qq 3]
 (.Q 2 (.lda 2) [.qz 1]
 (.x 3 (.call 74) [.qq 0,.qz 2] none []
 (.out (qx [0,3] [])))))
 [0,3]
abbrev KH:NC:=.reg
 (.Q 1 (.fld 3) [.qq 3]
 (.Q 2 (.lda 2) [.qz 1]
 (.x 3 (.call 62) [.qq 0,.qz 2] none []
 (.out (qx [0,3] [])))))
 [0,3]
abbrev KG:NC:=.reg
 (.Q 1 (.fld 3) [.qq 3]
 (.Q 2 (.lda 2) [.qz 1]
 (.x 3 (.call 36) [.qq 0,.qz 2] none []
 (.out [(3,.qq 3),(5,.qz 3)]))))
 [0,3]
abbrev KF:NC:=.reg
 (.Q 1 (.eqp true) [.qq 5,.const (.pointer none)]
 (.out (qx [3,5] [(35,.qz 1)])))
 [3,5]
abbrev KD:NC:=.reg
 (.Q 1 .nilck [.qq 5]
 (.Q 2 (.fld 2) [.qz 1]
 (.x 3 (.st 1) [.qz 2,.qj 0] none []
 (.out (qx [3,5] [])))))
 [3,5]
abbrev KC:NC:=.reg
 (.Q 1 .nilck [.qq 5]
 (.Q 2 (.fld 3) [.qz 1]
 (.Q 3 (.lda 2) [.qz 2]
 (.Q 4 (.fld 5) [.qq 3]
 (.Q 5 (.lda 2) [.qz 4]
 (.x 6 (.call 37) [.qz 3,.qz 5] none []
 (.out (qx [3,5] [(45,.qz 6)]))))))))
 [3,5]
abbrev KB:NC:=.reg
 (.Q 1 (.fld 5) [.qq 3]
 (.Q 2 (.lda 2) [.qz 1]
 (.Q 3 .nilck [.qq 5]
 (.Q 4 (.fld 3) [.qz 3]
 (.x 5 (.st 2) [.qz 4,.qz 2] none []
 (.out []))))))
 [3,5]
abbrev yH:NC :=
 (.seq KN
 (.seq KM
 (.seq (.seq KL
 (.cond (.qq 21)
 .ret
 .skip))
 (.seq KI
 (.seq KH
 (.seq KG
 (.seq KF
 (.cond (.qq 35)
 (.seq KD
 (.seq KC
 (.cond (.qq 45)
 KB
 .skip)))
 .skip))))))))
abbrev Vu:FN:=⟨yH,[]⟩
theorem gx:GoT 47 Tryz.f47 yH Vu:=goT (F:=Vu) Tryz.func47 (by kernel_rfl)
abbrev jH:NC:=.reg
 (.x 0 (.box 45) [.qq 1] none []
 (.out [(0,.qq 0),(3,.qz 0)]))
 [0,1]
abbrev jG:NC:=.reg
 (.Q 1 (.fld 3) [.qq 3]
 (.Q 2 (.lda 2) [.qz 1]
 (.x 3 (.call 35) [.qq 0,.qz 2] none []
 (.out (qx [0,3] [(4,.qz 3)])))))
 [0,3]
abbrev jF:NC:=.reg
 (.Q 1 (.eqp false) [.qq 4,.const (.pointer none)]
 (.q 3 .mv [.qq 4] (some (.qz 1,false))
 (.q 4 .nilck [.qz 3] (some (.qz 1,false))
 (.q 5 (.fld 3) [.qz 4] (some (.qz 1,false))
 (.q 6 (.lda 2) [.qz 5] (some (.qz 1,false))
 (.q 7 (.fld 5) [.qq 3] (some (.qz 1,false))
 (.q 8 (.lda 2) [.qz 7] (some (.qz 1,false))
 (.q 9 (.eqc true [.i .i64,.i .i64]) [.qz 6,.qz 8] (some (.qz 1,false))
 (.Q 10 .pick [.qz 1,.const (.bool true),.qz 9]
 (.q 12 .mv [.qq 4] (some (.qz 10,false))
 (.q 13 (.fld 1) [.qq 3] (some (.qz 10,false))
 (.q 14 .ld [.qz 13] (some (.qz 10,false))
 (.q 15 .nilck [.qz 12] (some (.qz 10,false))
 (.q 16 (.fld 21) [.qz 15] (some (.qz 10,false))
 (.q 17 (.ixa 7 1) [.qz 16,.qz 14] (some (.qz 10,false))
 (.q 18 .ld [.qz 17] (some (.qz 10,false))
 (.q 19 (.icm .neq) [.qz 18,.qj 0] (some (.qz 10,false))
 (.Q 20 .pick [.qz 10,.const (.bool true),.qz 19]
 (.out (qx [0,3,4] [(30,.qz 20)]))))))))))))))))))))
 [0,3,4]
abbrev za:NC:=.reg
 (.x 0 .mkm [] none []
 (.x 1 (.mup false [.i .i64]) [.qz 0,.qj 2,.qj 0] none []
 (.x 2 (.mup false [.i .i64]) [.qz 0,.qj 4,.qj 1] none []
 (.x 3 (.mup false [.i .i64]) [.qz 0,.qj 7,.qj 2] none []
 (.Q 5 (.fld 0) [.qq 3]
 (.Q 6 .ld [.qz 5]
 (.Q 7 (.lkp false [.i .i64] (.int .i64 0) false) [.qz 0,.qz 6]
 (.out (qx [0,3,4] [(5,.qz 7)])))))))))
 [0,3,4]
abbrev jE:NC:=.reg
 (.Q 1 .nilck [.qq 4]
 (.Q 2 (.fld 2) [.qz 1]
 (.Q 3 .ld [.qz 2]
 (.Q 5 (.icm .neq) [.qz 3,.qq 5]
 (.out (qx [0,3,4,5] [(41,.qz 5)]))))))
 [0,3,4,5]
abbrev Xc:NC:=.reg
 (.Q 1 (.fld 1) [.qq 3]
 (.Q 2 .ld [.qz 1]
 (.Q 3 .nilck [.qq 4]
 (.Q 4 (.fld 21) [.qz 3]
 (.Q 5 (.ixa 7 1) [.qz 4,.qz 2]
 (.x 6 (.st 1) [.qz 5,.qj 1] none []
 (.out (qx [0,3,4,5] []))))))))
 [0,3,4,5]
abbrev Xb:NC:=.reg
 (.Q 1 .nilck [.qq 4]
 (.Q 2 (.fld 30) [.qz 1]
 (.Q 3 .ld [.qz 2]
 (.Q 4 (.iar .add) [.qz 3,.qj 1]
 (.Q 5 .nilck [.qq 4]
 (.Q 6 (.fld 30) [.qz 5]
 (.x 7 (.st 1) [.qz 6,.qz 4] none []
 (.out (qx [0,3,4,5] [])))))))))
 [0,3,4,5]
abbrev Xa:NC:=.reg
 (.out (qx [0,3,4] [(55,.qq 5)]))
 [0,3,4,5]
abbrev XY:NC:=.reg
 (.Q 0 (.icm .eql) [.qq 55,.qj 0]
 (.out (qx [0,3,4,55] [(73,.qz 0)])))
 [0,3,4,55]
abbrev XW:NC:=.reg
 (.Q 2 .nilck [.qq 4]
 (.Q 3 (.fld 28) [.qz 2]
 (.Q 4 .ld [.qz 3]
 (.Q 5 (.fld 14) [.qq 3]
 (.Q 6 (.lda 8) [.qz 5]
 (.x 7 (.bsl 39 1 zL0 [(0,8)]) [.qz 6] none [(4,.ld,[.qz 3],none)]
 (.x 8 (.app 39 8 64 zL0) [.qz 4,.qz 7] none []
 (.Q 9 .nilck [.qq 4]
 (.Q 10 (.fld 28) [.qz 9]
 (.x 11 (.st 1) [.qz 10,.qz 8] none []
 (.out (qx [0,4] []))))))))))))
 [0,3,4]
abbrev Jr:NC:=.reg
 (.x 2 (.call 58) [.qq 0,.qq 4,.const (.bool false)] none []
 (.out []))
 [0,4]
abbrev Jp:NC:=.reg
 (.Q 0 (.icm .eql) [.qq 55,.qj 1]
 (.out (qx [0,3,4] [(89,.qz 0)])))
 [0,3,4,55]
abbrev Jo:NC:=.reg
 (.Q 1 .nilck [.qq 4]
 (.Q 2 (.fld 30) [.qz 1]
 (.Q 3 .ld [.qz 2]
 (.Q 4 (.iar .add) [.qz 3,.qj 1]
 (.Q 6 .nilck [.qq 0]
 (.Q 7 (.fld 0) [.qz 6]
 (.Q 8 .ld [.qz 7]
 (.x 9 (.call 76) [.qz 8] none [(3,.ld,[.qz 2],none)]
 (.Q 10 (.icm .geq) [.qz 4,.qz 9]
 (.out (qx [0,4] [(101,.qz 10)])))))))))))
 [0,4]
abbrev Jn:NC:=.reg
 (.Q 2 .nilck [.qq 4]
 (.Q 3 (.fld 0) [.qz 2]
 (.Q 4 (.lda 2) [.qz 3]
 (.Q 6 .nilck [.qq 4]
 (.Q 7 (.fld 6) [.qz 6]
 (.Q 8 (.lda 7) [.qz 7]
 (.Q 10 .nilck [.qq 4]
 (.Q 11 (.fld 13) [.qz 10]
 (.Q 12 (.lda 8) [.qz 11]
 (.x 13 (.call 77) [.qq 0,.qz 4,.qz 8,.qz 12] none []
 (.out [])))))))))))
 [0,4]
abbrev Jm:NC:=.reg
 (.Q 2 .nilck [.qq 4]
 (.Q 3 (.fld 29) [.qz 2]
 (.Q 4 .ld [.qz 3]
 (.Q 5 (.fld 1) [.qq 3]
 (.Q 6 .ld [.qz 5]
 (.Q 7 (.fld 22) [.qq 3]
 (.Q 8 (.lda 21) [.qz 7]
 (.Q 9 (.bld [.int .i64 0,.int .i64 0,.int .i64 0,.int .i64 0,.int .i64 0,.int .i64 0,.int .i64 0,.int .i64 0,.int .i64 0,(.string ⟨#[]⟩),(.string ⟨#[]⟩),(.string ⟨#[]⟩),(.string ⟨#[]⟩),.int .i64 0,.int .i64 0,.int .i64 0,.int .i64 0,.int .i64 0,.int .i64 0,.int .i64 0,.int .i64 0,.bool false] [(0,1),(1,21)]) [.qz 6,.qz 8]
 (.x 10 (.bsl 102 1 [.int .i64 0,.int .i64 0,.int .i64 0,.int .i64 0,.int .i64 0,.int .i64 0,.int .i64 0,.int .i64 0,.int .i64 0,(.string ⟨#[]⟩),(.string ⟨#[]⟩),(.string ⟨#[]⟩),(.string ⟨#[]⟩),.int .i64 0,.int .i64 0,.int .i64 0,.int .i64 0,.int .i64 0,.int .i64 0,.int .i64 0,.int .i64 0,.bool false] [(0,22)]) [.qz 9] none [(4,.ld,[.qz 3],none)]
 (.x 11 (.app 102 22 208 [.int .i64 0,.int .i64 0,.int .i64 0,.int .i64 0,.int .i64 0,.int .i64 0,.int .i64 0,.int .i64 0,.int .i64 0,(.string ⟨#[]⟩),(.string ⟨#[]⟩),(.string ⟨#[]⟩),(.string ⟨#[]⟩),.int .i64 0,.int .i64 0,.int .i64 0,.int .i64 0,.int .i64 0,.int .i64 0,.int .i64 0,.int .i64 0,.bool false]) [.qz 4,.qz 10] none []
 (.Q 12 .nilck [.qq 4]
 (.Q 13 (.fld 29) [.qz 12]
 (.x 14 (.st 1) [.qz 13,.qz 11] none []
 (.out (qx [0,4] [])))))))))))))))
 [0,3,4]
abbrev Jl:NC:=.reg
 (.x 2 (.call 78) [.qq 0,.qq 4] none []
 (.out []))
 [0,4]
abbrev ww:NC :=
 (.seq jH
 (.seq jG
 (.seq (.seq jF
 (.cond (.qq 30)
 .ret
 .skip))
 (.seq za
 (.seq (.seq jE
 (.cond (.qq 41)
 .ret
 .skip))
 (.seq Xc
 (.seq Xb
 (.seq Xa
 (.block 0 (.seq XY
 (.cond (.qq 73)
 (.seq XW
 Jr)
 (.seq Jp
 (.cond (.qq 89)
 (.seq Jo
 (.cond (.qq 101)
 Jn
 .skip))
 (.seq Jm
 Jl))))))))))))))
abbrev KS:FN:=⟨ww,[]⟩
theorem eQ:GoT 48 Tryz.f48 ww KS:=goT (F:=KS) Tryz.func48 (by kernel_rfl)
abbrev pt:NC:=.reg
 (.x 0 (.box 25) [.qq 1] none []
 (.x 1 (.box 41) [.qq 2] none []
 (.out [(0,.qq 0),(4,.qz 0),(5,.qz 1)])))
 [0,1,2]
abbrev po:NC:=.reg
 (.Q 0 (.fld 0) [.qq 5]
 (.Q 1 .ld [.qz 0]
 (.Q 2 (.icm .neq) [.qz 1,.qj 0]
 (.out (qx [0,4,5] [(8,.qz 2)])))))
 [0,4,5]
abbrev pn:NC:=.reg
 (.Q 1 .nilck [.qq 0]
 (.Q 2 (.fld 3) [.qz 1]
 (.Q 3 .ld [.qz 2]
 (.Q 4 (.lda 2) [.qq 4]
 (.Q 5 (.fld 5) [.qq 5]
 (.Q 6 (.lda 7) [.qz 5]
 (.Q 7 (.fld 12) [.qq 5]
 (.Q 8 (.fld 0) [.qz 7]
 (.Q 9 .ld [.qz 8]
 (.x 10 (.call 88) [.qz 3,.qz 4,.qz 6,.qz 9] none []
 (.out [])))))))))))
 [0,4,5]
abbrev bE:NC :=
 (.seq pt
 (.seq po
 (.cond (.qq 8)
 pn
 .skip)))
abbrev bF:FN:=⟨bE,[]⟩
theorem aq:GoT 56 Tryz.f56 bE bF:=goT (F:=bF) Tryz.func56 (by kernel_rfl)
abbrev WG:NC:=.reg
 (.out (qx [0,1,2] []))
 [0,1,2]
abbrev WE:NC:=.reg
 (.Q 1 .nilck [.qq 0]
 (.Q 2 (.fld 0) [.qz 1]
 (.Q 3 .ld [.qz 2]
 (.Q 5 .nilck [.qq 1]
 (.Q 6 (.fld 5) [.qz 5]
 (.Q 7 .ld [.qz 6]
 (.Q 9 .nilck [.qq 1]
 (.Q 10 (.fld 13) [.qz 9]
 (.Q 11 (.lda 8) [.qz 10]
 (.Q 13 .nilck [.qq 1]
 (.Q 14 (.fld 28) [.qz 13]
 (.Q 15 .ld [.qz 14]
 (.both
 (.x 17 (.call 89) [.qz 3,.qz 7,.qz 11,.qz 15,.qq 2] none []
 (.Q 19 (.ext 0) [.qz 17]
 (.Q 20 (.ext 1) [.qz 17]
 (.x 21 (.alc zL0 39) [] none [(3,.ld,[.qz 2],none),(7,.ld,[.qz 6],none),(11,.lda 8,[.qz 10],none),(15,.ld,[.qz 14],none)]
 (.x 23 (.st 8) [.qz 21,.qz 20] none []
 (.out (qx [0,1] [(7,.qz 19),(8,.qz 21)])))))))
 (.x 21 (.alc zL0 39) [] none [(3,.ld,[.qz 2],none),(7,.ld,[.qz 6],none),(11,.lda 8,[.qz 10],none),(15,.ld,[.qz 14],none)]
 (.x 17 (.call 89) [.qz 3,.qz 7,.qz 11,.qz 15,.qq 2] none []
 (.Q 19 (.ext 0) [.qz 17]
 (.Q 20 (.ext 1) [.qz 17]
 (.x 23 (.st 8) [.qz 21,.qz 20] none []
 (.out (qx [0,1] [(7,.qz 19),(8,.qz 21)]))))))))))))))))))))
 [0,1,2]
abbrev WD:NC:=.reg
 (.out (qx [0,1,8] [(30,.qq 7)]))
 [0,1,7,8]
abbrev WC:NC:=.reg
 (.Q 0 (.icm .eql) [.qq 30,.qj 1]
 (.out (qx [0,1,8,30] [(31,.qz 0)])))
 [0,1,8,30]
abbrev WB:NC:=.reg
 (.Q 2 .nilck [.qq 1]
 (.Q 3 (.fld 0) [.qz 2]
 (.Q 4 (.lda 2) [.qz 3]
 (.Q 6 .nilck [.qq 1]
 (.Q 7 (.fld 6) [.qz 6]
 (.Q 8 (.lda 7) [.qz 7]
 (.Q 9 (.lda 8) [.qq 8]
 (.x 10 (.call 77) [.qq 0,.qz 4,.qz 8,.qz 9] none []
 (.out [])))))))))
 [0,1,8]
abbrev WA:NC:=.reg
 (.Q 0 (.icm .eql) [.qq 30,.qj 2]
 (.out (qx [0,1,8] [(44,.qz 0)])))
 [0,1,8,30]
abbrev Wu:NC:=.reg
 (.Q 3 .nilck [.qq 1]
 (.Q 4 (.fld 6) [.qz 3]
 (.Q 5 (.lda 7) [.qz 4]
 (.Q 6 (.lda 8) [.qq 8]
 (.x 7 (.call 90) [.qq 0,.qq 1,.qz 5,.qz 6] none []
 (.out []))))))
 [0,1,8]
abbrev Wt:NC:=.reg
 (.out [(6,.const (.bool false))])
 []
abbrev Ws:NC:=.reg
 (.out [(6,.const (.bool true))])
 []
abbrev Jg:NC :=
 (.seq WG
 (.seq WE
 (.seq (.seq WD
 (.block 0 (.seq WC
 (.cond (.qq 31)
 WB
 (.seq WA
 (.cond (.qq 44)
 Wu
 (.seq Wt
 .ret)))))))
 (.seq Ws
 .ret))))
abbrev YO:FN:=⟨Jg,[.qq 6]⟩
theorem mN:GoT 58 Tryz.f58 Jg YO:=goT (F:=YO) Tryz.func58 (by kernel_rfl)
abbrev tY:NC:=.reg
 (.x 0 (.box 45) [.qq 1] none []
 (.x 1 (.box 36) [.qq 2] none []
 (.out [(0,.qq 0),(4,.qz 0),(5,.qz 1)])))
 [0,1,2]
abbrev tW:NC:=.reg
 (.Q 1 .nilck [.qq 0]
 (.Q 2 (.fld 0) [.qz 1]
 (.Q 3 .ld [.qz 2]
 (.out (qx [0,4,5] [(10,.qz 3),(11,.qj 0)])))))
 [0,4,5]
abbrev tV:NC:=.reg
 (.Q 0 (.icm .lss) [.qq 11,.qq 10]
 (.out (qx [0,4,5,10,11] [(12,.qz 0)])))
 [0,4,5,10,11]
abbrev tK:NC:=.reg
 (.out (qx [0,4,5] [(6,.qq 11),(10,.qq 10),(11,.qq 11)]))
 [0,4,5,10,11]
abbrev tX:NC:=.reg
 (.Q 2 .nilck [.qq 0]
 (.Q 3 (.fld 1) [.qz 2]
 (.Q 4 .ld [.qz 3]
 (.Q 5 (.icm .neq) [.qq 6,.qz 4]
 (.q 7 .mv [.qq 6] (some (.qz 5,true))
 (.q 8 (.ixa 7 1) [.qq 5,.qz 7] (some (.qz 5,true))
 (.q 9 .ld [.qz 8] (some (.qz 5,true))
 (.q 10 (.icm .eql) [.qz 9,.qj 0] (some (.qz 5,true))
 (.Q 11 .pick [.qz 5,.qz 10,.const (.bool false)]
 (.out (qx [0,4,5,6,10,11] [(25,.qz 11)])))))))))))
 [0,4,5,6,10,11]
abbrev tJ:NC:=.reg
 (.Q 2 (.lda 51) [.qq 4]
 (.x 3 (.call 73) [.qq 0,.qq 6,.qz 2] none []
 (.out (qx [0,4,5,10,11] []))))
 [0,4,5,6,10,11]
abbrev tZ:NC:=.reg
 (.Q 0 (.iar .add) [.qq 11,.qj 1]
 (.out (qx [0,4,5,10] [(11,.qz 0)])))
 [0,4,5,10,11]
abbrev tc:NC :=
 (.seq tV
 (.seq (.cond (.qq 12)
 .skip
 (.exit 0))
 (.seq (.block 1 (.seq tK
 (.seq tX
 (.cond (.qq 25)
 tJ
 .skip))))
 tZ)))
abbrev da:NC :=
 (.seq tY
 (.seq tW
 (.block 0 (.loop [0,4,5,10,11] tc))))
abbrev db:FN:=⟨da,[]⟩
theorem td:GoT 59 Tryz.f59 da db:=goT (F:=db) Tryz.func59 (by kernel_rfl)
abbrev sN:NC:=.reg
 (.x 0 (.alc [.int .i64 0,.int .i64 0,.int .i64 0,.int .i64 0,.int .i64 0,.int .i64 0,.int .i64 0,.int .i64 0,.int .i64 0,.int .i64 0,(.string ⟨#[]⟩),(.string ⟨#[]⟩),(.string ⟨#[]⟩),(.string ⟨#[]⟩),.int .i64 0,.int .i64 0,.int .i64 0,.int .i64 0,.int .i64 0,.int .i64 0,.int .i64 0,.int .i64 0,.int .i64 0,.int .i64 0,.int .i64 0,.int .i64 0,.int .i64 0,.int .i64 0,.int .i64 0,.int .i64 0,(.string ⟨#[]⟩),(.string ⟨#[]⟩),(.string ⟨#[]⟩),(.string ⟨#[]⟩),.int .i64 0,.int .i64 0,.int .i64 0,.int .i64 0,.int .i64 0,.int .i64 0,.int .i64 0,.int .i64 0,.bool false,.int .i64 0,.int .i64 0,.int .i64 0,.int .i64 0,.int .i64 0,.int .i64 0,.int .i64 0,(.string ⟨#[]⟩)] 45) [] none []
 (.out [(0,.qq 0),(2,.qz 0)]))
 [0]
abbrev sM:NC:=.reg
 (.Q 1 .nilck [.qq 0]
 (.Q 2 (.fld 0) [.qz 1]
 (.Q 3 (.lda 2) [.qz 2]
 (.Q 5 .nilck [.qq 0]
 (.Q 6 (.fld 3) [.qz 5]
 (.Q 7 (.lda 2) [.qz 6]
 (.Q 8 (.bld [.int .i64 0,.int .i64 0,.int .i64 0,.int .i64 0,.int .i64 0,.int .i64 0,.int .i64 0,.int .i64 0,.int .i64 0,.int .i64 0,(.string ⟨#[]⟩),(.string ⟨#[]⟩),(.string ⟨#[]⟩),(.string ⟨#[]⟩),.int .i64 0,.int .i64 0,.int .i64 0,.int .i64 0,.int .i64 0,.int .i64 0,.int .i64 0,.int .i64 0,.int .i64 0,.int .i64 0,.int .i64 0,.int .i64 0,.int .i64 0,.int .i64 0,.int .i64 0,.int .i64 0,(.string ⟨#[]⟩),(.string ⟨#[]⟩),(.string ⟨#[]⟩),(.string ⟨#[]⟩),.int .i64 0,.int .i64 0,.int .i64 0,.int .i64 0,.int .i64 0,.int .i64 0,.int .i64 0,.int .i64 0,.bool false,.int .i64 0,.int .i64 0,.int .i64 0,.int .i64 0,.int .i64 0,.int .i64 0,.int .i64 0,(.string ⟨#[]⟩)] [(3,2),(5,2)]) [.qz 3,.qz 7]
 (.x 9 (.alc [.int .i64 0,.int .i64 0,.int .i64 0,.int .i64 0,.int .i64 0,.int .i64 0,.int .i64 0,.int .i64 0,.int .i64 0,.int .i64 0,(.string ⟨#[]⟩),(.string ⟨#[]⟩),(.string ⟨#[]⟩),(.string ⟨#[]⟩),.int .i64 0,.int .i64 0,.int .i64 0,.int .i64 0,.int .i64 0,.int .i64 0,.int .i64 0,.int .i64 0,.int .i64 0,.int .i64 0,.int .i64 0,.int .i64 0,.int .i64 0,.int .i64 0,.int .i64 0,.int .i64 0,(.string ⟨#[]⟩),(.string ⟨#[]⟩),(.string ⟨#[]⟩),(.string ⟨#[]⟩),.int .i64 0,.int .i64 0,.int .i64 0,.int .i64 0,.int .i64 0,.int .i64 0,.int .i64 0,.int .i64 0,.bool false,.int .i64 0,.int .i64 0,.int .i64 0,.int .i64 0,.int .i64 0,.int .i64 0,.int .i64 0,(.string ⟨#[]⟩)] 45) [] none [(3,.lda 2,[.qz 2],none),(7,.lda 2,[.qz 6],none)]
 (.x 10 (.st 51) [.qz 9,.qz 8] none []
 (.out (qx [0,2] [(3,.qz 9)])))))))))))
 [0,2]
abbrev sL:NC:=.reg
 (.Q 1 .nilck [.qq 0]
 (.Q 2 (.fld 2) [.qz 1]
 (.Q 3 .ld [.qz 2]
 (.out (qx [0,2,3] [(16,.qz 3)])))))
 [0,2,3]
abbrev sI:NC:=.reg
 (.Q 0 (.icm .eql) [.qq 16,.qj 0]
 (.out (qx [0,2,3,16] [(18,.qz 0)])))
 [0,2,3,16]
abbrev sH:NC:=.reg
 (.Q 1 .nilck [.qq 0]
 (.Q 2 (.fld 6) [.qz 1]
 (.Q 3 (.lda 7) [.qz 2]
 (.Q 5 .nilck [.qq 0]
 (.Q 6 (.fld 13) [.qz 5]
 (.Q 7 (.lda 8) [.qz 6]
 (.Q 8 (.fld 0) [.qq 3]
 (.x 9 (.st 1) [.qz 8,.qj 1] none [(3,.lda 7,[.qz 2],none),(7,.lda 8,[.qz 6],none)]
 (.Q 10 (.fld 7) [.qq 3]
 (.x 11 (.st 7) [.qz 10,.qz 3] none [(7,.lda 8,[.qz 6],none)]
 (.Q 12 (.fld 14) [.qq 3]
 (.x 13 (.st 8) [.qz 12,.qz 7] none []
 (.out (qx [2,3] []))))))))))))))
 [0,2,3]
abbrev sG:NC:=.reg
 (.Q 0 (.icm .eql) [.qq 16,.qj 1]
 (.out (qx [0,2,3] [(31,.qz 0)])))
 [0,2,3,16]
abbrev sF:NC:=.reg
 (.Q 1 .nilck [.qq 0]
 (.Q 2 (.fld 6) [.qz 1]
 (.Q 3 (.lda 7) [.qz 2]
 (.Q 5 .nilck [.qq 0]
 (.Q 6 (.fld 13) [.qz 5]
 (.Q 7 (.lda 8) [.qz 6]
 (.Q 8 (.fld 0) [.qq 3]
 (.x 9 (.st 1) [.qz 8,.qj 3] none [(3,.lda 7,[.qz 2],none),(7,.lda 8,[.qz 6],none)]
 (.Q 10 (.fld 7) [.qq 3]
 (.x 11 (.st 7) [.qz 10,.qz 3] none [(7,.lda 8,[.qz 6],none)]
 (.Q 12 (.fld 14) [.qq 3]
 (.x 13 (.st 8) [.qz 12,.qz 7] none []
 (.out (qx [2,3] []))))))))))))))
 [0,2,3]
abbrev sE:NC:=.reg
 (.Q 0 (.fld 0) [.qq 3]
 (.x 1 (.st 1) [.qz 0,.qj 6] none []
 (.out (qx [2,3] []))))
 [2,3]
abbrev sD:NC:=.reg
 (.Q 0 (.lda 51) [.qq 3]
 (.x 1 (.st 51) [.qq 2,.qz 0] none []
 (.out [(2,.qq 2)])))
 [2,3]
abbrev dZ:NC :=
 (.seq sN
 (.seq sM
 (.seq (.seq sL
 (.block 0 (.seq sI
 (.cond (.qq 18)
 sH
 (.seq sG
 (.cond (.qq 31)
 sF
 sE))))))
 (.seq sD
 .ret))))
abbrev dJ:FN:=⟨dZ,[.cells 2 51]⟩
theorem sO:GoT 60 Tryz.f60 dZ dJ:=goT (F:=dJ) Tryz.func60 (by kernel_rfl)
abbrev aJ:NC:=.reg
 (.x 0 (.box 25) [.qq 1] none []
 (.out [(0,.qq 0),(3,.qz 0)]))
 [0,1]
abbrev aZ:NC:=.reg
 (.Q 1 (.lda 2) [.qq 3]
 (.x 2 (.call 34) [.qq 0,.qz 1] none []
 (.Q 3 .not [.qz 2]
 (.q 5 .mv [.qq 0] (some (.qz 3,false))
 (.q 6 (.lda 2) [.qq 3] (some (.qz 3,false))
 (.x 7 (.call 36) [.qz 5,.qz 6] (some (.qz 3,false)) []
 (.q 8 (.eqp true) [.qz 7,.const (.pointer none)] (some (.qz 3,false))
 (.Q 9 .pick [.qz 3,.const (.bool true),.qz 8]
 (.q 11 .mv [.qq 0] (some (.qz 9,false))
 (.q 12 .nilck [.qz 11] (some (.qz 9,false))
 (.q 13 (.fld 5) [.qz 12] (some (.qz 9,false))
 (.q 14 .ld [.qz 13] (some (.qz 9,false))
 (.q 15 .len [.qz 14] (some (.qz 9,false))
 (.q 16 (.icm .geq) [.qz 15,.qj 256] (some (.qz 9,false))
 (.Q 17 .pick [.qz 9,.const (.bool true),.qz 16]
 (.out (qx [0,3] [(23,.qz 17)])))))))))))))))))
 [0,3]
abbrev aQ:NC:=.reg
 (.out [(4,.const (.bool false))])
 []
abbrev ay:NC:=.reg
 (.out (qx [0,3] [(5,.qj 0)]))
 [0,3]
abbrev pN:NC:=.reg
 (.Q 2 .nilck [.qq 0]
 (.Q 3 (.fld 5) [.qz 2]
 (.Q 4 .ld [.qz 3]
 (.Q 5 .len [.qz 4]
 (.Q 6 (.icm .lss) [.qq 5,.qz 5]
 (.q 8 .mv [.qq 0] (some (.qz 6,true))
 (.q 9 .nilck [.qz 8] (some (.qz 6,true))
 (.q 10 (.fld 5) [.qz 9] (some (.qz 6,true))
 (.q 11 .ld [.qz 10] (some (.qz 6,true))
 (.q 12 .mv [.qq 5] (some (.qz 6,true))
 (.q 13 (.ixs 1) [.qz 11,.qz 12] (some (.qz 6,true))
 (.q 14 .ld [.qz 13] (some (.qz 6,true))
 (.q 15 .nilck [.qz 14] (some (.qz 6,true))
 (.q 16 (.fld 0) [.qz 15] (some (.qz 6,true))
 (.q 17 (.lda 2) [.qz 16] (some (.qz 6,true))
 (.q 18 (.lda 2) [.qq 3] (some (.qz 6,true))
 (.x 19 (.call 93) [.qz 17,.qz 18] (some (.qz 6,true)) []
 (.Q 20 .pick [.qz 6,.qz 19,.const (.bool false)]
 (.out (qx [0,3,5] [(44,.qz 20)]))))))))))))))))))))
 [0,3,5]
abbrev pM:NC:=.reg
 (.Q 1 (.iar .add) [.qq 5,.qj 1]
 (.out (qx [0,3] [(5,.qz 1)])))
 [0,3,5]
abbrev Jt:NC :=
 (.seq (.seq pN
 (.cond (.qq 44)
 .skip
 (.exit 0)))
 (.block 1 pM))
abbrev xq:NC:=.reg
 (.Q 2 .nilck [.qq 0]
 (.Q 3 (.fld 5) [.qz 2]
 (.Q 4 .ld [.qz 3]
 (.Q 6 (.lda 2) [.qq 3]
 (.Q 7 (.bld zL3 [(0,2)]) [.qz 6]
 (.x 8 (.box 98) [.qz 7] none [(4,.ld,[.qz 3],none)]
 (.x 9 (.bsl 94 1 [.pointer none] [(0,1)]) [.qz 8] none [(4,.ld,[.qz 3],none)]
 (.x 10 (.call 94) [.qz 4,.qq 5,.qz 9] none []
 (.Q 11 .nilck [.qq 0]
 (.Q 12 (.fld 5) [.qz 11]
 (.x 13 (.st 1) [.qz 12,.qz 10] none []
 (.out []))))))))))))
 [0,3,5]
abbrev jU:NC:=.reg
 (.out [(4,.const (.bool true))])
 []
abbrev XF:NC :=
 (.seq aJ
 (.seq (.seq aZ
 (.cond (.qq 23)
 (.seq aQ
 .ret)
 .skip))
 (.seq ay
 (.seq (.block 0 (.loop [0,3,5] Jt))
 (.seq xq
 (.seq jU
 .ret))))))
abbrev bI:FN:=⟨XF,[.qq 4]⟩
theorem pO:GoT 62 Tryz.f62 XF bI:=goT (F:=bI) Tryz.func62 (by kernel_rfl)
abbrev gv:NC:=.reg
 (.out (qx [0,1] []))
 [0,1]
abbrev gk:NC:=.reg
 (.Q 1 .ld [.qq 1]
 (.Q 2 (.eqq false) [.qq 0,.qz 1]
 (.out [(3,.qz 2)])))
 [0,1]
abbrev VG:NC :=
 (.seq gv
 (.seq gk
 .ret))
abbrev VH:FN:=⟨VG,[.qq 3]⟩
theorem gw:GoT 65 Tryz.f65 VG VH:=goT (F:=VH) Tryz.func65 (by kernel_rfl)
abbrev pJ:NC:=.reg
 (.Q 2 .nilck [.qq 1]
 (.Q 3 (.fld 0) [.qz 2]
 (.Q 4 (.lda 2) [.qz 3]
 (.x 5 (.call 74) [.qq 0,.qz 4] none []
 (.out (qx [0,1] []))))))
 [0,1]
abbrev pZ:NC:=.reg
 (.out (qx [0,1] [(4,.qj 0)]))
 [0,1]
abbrev pQ:NC:=.reg
 (.Q 2 .nilck [.qq 0]
 (.Q 3 (.fld 4) [.qz 2]
 (.Q 4 .ld [.qz 3]
 (.Q 5 .len [.qz 4]
 (.Q 6 (.icm .lss) [.qq 4,.qz 5]
 (.q 8 .mv [.qq 0] (some (.qz 6,true))
 (.q 9 .nilck [.qz 8] (some (.qz 6,true))
 (.q 10 (.fld 4) [.qz 9] (some (.qz 6,true))
 (.q 11 .ld [.qz 10] (some (.qz 6,true))
 (.q 12 .mv [.qq 4] (some (.qz 6,true))
 (.q 13 (.ixs 1) [.qz 11,.qz 12] (some (.qz 6,true))
 (.q 14 .ld [.qz 13] (some (.qz 6,true))
 (.q 15 .nilck [.qz 14] (some (.qz 6,true))
 (.q 16 (.fld 0) [.qz 15] (some (.qz 6,true))
 (.q 17 (.lda 2) [.qz 16] (some (.qz 6,true))
 (.q 18 .mv [.qq 1] (some (.qz 6,true))
 (.q 19 .nilck [.qz 18] (some (.qz 6,true))
 (.q 20 (.fld 0) [.qz 19] (some (.qz 6,true))
 (.q 21 (.lda 2) [.qz 20] (some (.qz 6,true))
 (.x 22 (.call 93) [.qz 17,.qz 21] (some (.qz 6,true)) []
 (.Q 23 .pick [.qz 6,.qz 22,.const (.bool false)]
 (.out (qx [0,1,4] [(34,.qz 23)])))))))))))))))))))))))
 [0,1,4]
abbrev py:NC:=.reg
 (.Q 1 (.iar .add) [.qq 4,.qj 1]
 (.out (qx [0,1] [(4,.qz 1)])))
 [0,1,4]
abbrev pX:NC :=
 (.seq (.seq pQ
 (.cond (.qq 34)
 .skip
 (.exit 0)))
 (.block 1 py))
abbrev Jh:NC:=.reg
 (.Q 2 .nilck [.qq 0]
 (.Q 3 (.fld 4) [.qz 2]
 (.Q 4 .ld [.qz 3]
 (.x 7 (.bsl 88 1 [.pointer none] [(0,1)]) [.qq 1] none []
 (.x 8 (.call 98) [.qz 4,.qq 4,.qz 7] none []
 (.Q 9 .nilck [.qq 0]
 (.Q 10 (.fld 4) [.qz 9]
 (.x 11 (.st 1) [.qz 10,.qz 8] none []
 (.out [])))))))))
 [0,1,4]
abbrev be:NC :=
 (.seq pJ
 (.seq pZ
 (.seq (.block 0 (.loop [0,1,4] pX))
 Jh)))
abbrev bf:FN:=⟨be,[]⟩
theorem pK:GoT 68 Tryz.f68 be bf:=goT (F:=bf) Tryz.func68 (by kernel_rfl)
abbrev pY:NC:=.reg
 (.x 0 (.box 45) [.qq 2] none []
 (.out (qx [0,1] [(5,.qz 0)])))
 [0,1,2]
abbrev pW:NC:=.reg
 (.Q 1 .nilck [.qq 0]
 (.Q 2 (.fld 1) [.qz 1]
 (.Q 3 .ld [.qz 2]
 (.Q 5 (.fld 1) [.qq 5]
 (.x 6 (.st 1) [.qz 5,.qz 3] none []
 (.Q 7 (.fld 2) [.qq 5]
 (.x 8 (.st 1) [.qz 7,.qq 1] none []
 (.out (qx [0,5] [])))))))))
 [0,1,5]
abbrev pV:NC:=.reg
 (.Q 2 .nilck [.qq 0]
 (.Q 3 (.fld 7) [.qz 2]
 (.Q 4 .ld [.qz 3]
 (.Q 5 (.lda 51) [.qq 5]
 (.x 6 (.bsl 45 1 [.int .i64 0,.int .i64 0,.int .i64 0,.int .i64 0,.int .i64 0,.int .i64 0,.int .i64 0,.int .i64 0,.int .i64 0,.int .i64 0,(.string ⟨#[]⟩),(.string ⟨#[]⟩),(.string ⟨#[]⟩),(.string ⟨#[]⟩),.int .i64 0,.int .i64 0,.int .i64 0,.int .i64 0,.int .i64 0,.int .i64 0,.int .i64 0,.int .i64 0,.int .i64 0,.int .i64 0,.int .i64 0,.int .i64 0,.int .i64 0,.int .i64 0,.int .i64 0,.int .i64 0,(.string ⟨#[]⟩),(.string ⟨#[]⟩),(.string ⟨#[]⟩),(.string ⟨#[]⟩),.int .i64 0,.int .i64 0,.int .i64 0,.int .i64 0,.int .i64 0,.int .i64 0,.int .i64 0,.int .i64 0,.bool false,.int .i64 0,.int .i64 0,.int .i64 0,.int .i64 0,.int .i64 0,.int .i64 0,.int .i64 0,(.string ⟨#[]⟩)] [(0,51)]) [.qz 5] none [(4,.ld,[.qz 3],none)]
 (.x 7 (.app 45 51 480 [.int .i64 0,.int .i64 0,.int .i64 0,.int .i64 0,.int .i64 0,.int .i64 0,.int .i64 0,.int .i64 0,.int .i64 0,.int .i64 0,(.string ⟨#[]⟩),(.string ⟨#[]⟩),(.string ⟨#[]⟩),(.string ⟨#[]⟩),.int .i64 0,.int .i64 0,.int .i64 0,.int .i64 0,.int .i64 0,.int .i64 0,.int .i64 0,.int .i64 0,.int .i64 0,.int .i64 0,.int .i64 0,.int .i64 0,.int .i64 0,.int .i64 0,.int .i64 0,.int .i64 0,(.string ⟨#[]⟩),(.string ⟨#[]⟩),(.string ⟨#[]⟩),(.string ⟨#[]⟩),.int .i64 0,.int .i64 0,.int .i64 0,.int .i64 0,.int .i64 0,.int .i64 0,.int .i64 0,.int .i64 0,.bool false,.int .i64 0,.int .i64 0,.int .i64 0,.int .i64 0,.int .i64 0,.int .i64 0,.int .i64 0,(.string ⟨#[]⟩)]) [.qz 4,.qz 6] none []
 (.Q 8 .nilck [.qq 0]
 (.Q 9 (.fld 7) [.qz 8]
 (.x 10 (.st 1) [.qz 9,.qz 7] none []
 (.out []))))))))))
 [0,5]
abbrev bh:NC :=
 (.seq pY
 (.seq pW
 pV))
abbrev bi:FN:=⟨bh,[]⟩
theorem pa:GoT 73 Tryz.f73 bh bi:=goT (F:=bi) Tryz.func73 (by kernel_rfl)
abbrev mR:NC:=.reg
 (.x 0 (.box 25) [.qq 1] none []
 (.out [(0,.qq 0),(3,.qz 0)]))
 [0,1]
abbrev mO:NC:=.reg
 (.Q 2 .nilck [.qq 0]
 (.Q 3 (.fld 4) [.qz 2]
 (.Q 4 .ld [.qz 3]
 (.Q 5 (.mkf (.func 100) 0) [.qq 3]
 (.x 6 (.call 99) [.qz 4,.qz 5] none []
 (.Q 7 .nilck [.qq 0]
 (.Q 8 (.fld 4) [.qz 7]
 (.x 9 (.st 1) [.qz 8,.qz 6] none []
 (.out [])))))))))
 [0,3]
abbrev az:NC :=
 (.seq mR
 mO)
abbrev aj:FN:=⟨az,[]⟩
theorem mS:GoT 74 Tryz.f74 az aj:=goT (F:=aj) Tryz.func74 (by kernel_rfl)
abbrev bA:NC:=.reg
 (.x 0 (.box 45) [.qq 1] none []
 (.x 1 (.box 41) [.qq 2] none []
 (.out (qx [0,3] [(5,.qz 0),(6,.qz 1)]))))
 [0,1,2,3]
abbrev bu:NC:=.reg
 (.Q 0 (.fld 3) [.qq 5]
 (.Q 1 (.lda 2) [.qz 0]
 (.Q 2 (.fld 5) [.qq 5]
 (.Q 3 (.lda 2) [.qz 2]
 (.Q 4 (.fld 12) [.qq 6]
 (.Q 5 (.lda 8) [.qz 4]
 (.Q 6 (.bld [.int .i64 0,.int .i64 0,.int .i64 0,.int .i64 0,.int .i64 0,.int .i64 0,.int .i64 0,.int .i64 0,.int .i64 0,.int .i64 0,(.string ⟨#[]⟩),(.string ⟨#[]⟩),(.string ⟨#[]⟩),(.string ⟨#[]⟩),.int .i64 0,.int .i64 0,.int .i64 0,.int .i64 0,.int .i64 0,.int .i64 0,.int .i64 0,.int .i64 0,.int .i64 0,.int .i64 0,.int .i64 0,.int .i64 0,.int .i64 0,.int .i64 0,.int .i64 0,.int .i64 0,(.string ⟨#[]⟩),(.string ⟨#[]⟩),(.string ⟨#[]⟩),(.string ⟨#[]⟩),.int .i64 0,.int .i64 0,.int .i64 0,.int .i64 0,.int .i64 0,.int .i64 0,.int .i64 0,.int .i64 0,.bool false,.int .i64 0,.int .i64 0,.int .i64 0,.int .i64 0,.int .i64 0,.int .i64 0,.int .i64 0,(.string ⟨#[]⟩)] [(0,1),(3,2),(5,2),(14,8)]) [.qj 2,.qz 1,.qz 3,.qz 5]
 (.x 7 (.alc [.int .i64 0,.int .i64 0,.int .i64 0,.int .i64 0,.int .i64 0,.int .i64 0,.int .i64 0,.int .i64 0,.int .i64 0,.int .i64 0,(.string ⟨#[]⟩),(.string ⟨#[]⟩),(.string ⟨#[]⟩),(.string ⟨#[]⟩),.int .i64 0,.int .i64 0,.int .i64 0,.int .i64 0,.int .i64 0,.int .i64 0,.int .i64 0,.int .i64 0,.int .i64 0,.int .i64 0,.int .i64 0,.int .i64 0,.int .i64 0,.int .i64 0,.int .i64 0,.int .i64 0,(.string ⟨#[]⟩),(.string ⟨#[]⟩),(.string ⟨#[]⟩),(.string ⟨#[]⟩),.int .i64 0,.int .i64 0,.int .i64 0,.int .i64 0,.int .i64 0,.int .i64 0,.int .i64 0,.int .i64 0,.bool false,.int .i64 0,.int .i64 0,.int .i64 0,.int .i64 0,.int .i64 0,.int .i64 0,.int .i64 0,(.string ⟨#[]⟩)] 45) [] none []
 (.x 8 (.st 51) [.qz 7,.qz 6] none []
 (.out (qx [0,3,5,6] [(8,.qz 7)])))))))))))
 [0,3,5,6]
abbrev br:NC:=.reg
 (.out (qx [0,5,6,8] [(18,.qq 3)]))
 [0,3,5,6,8]
abbrev bp:NC:=.reg
 (.Q 0 (.fld 0) [.qq 6]
 (.Q 1 .ld [.qz 0]
 (.Q 2 (.icm .eql) [.qz 1,.qj 1]
 (.out (qx [0,5,8] [(21,.qz 2)])))))
 [0,5,6,8]
abbrev bo:NC:=.reg
 (.Q 1 (.fld 1) [.qq 5]
 (.Q 2 .ld [.qz 1]
 (.Q 3 (.lda 51) [.qq 8]
 (.x 4 (.call 73) [.qq 0,.qz 2,.qz 3] none []
 (.out [])))))
 [0,5,8]
abbrev bm:NC:=.reg
 (.Q 0 (.fld 14) [.qq 5]
 (.Q 1 (.lda 8) [.qz 0]
 (.Q 3 .nilck [.qq 0]
 (.Q 4 (.fld 3) [.qz 3]
 (.Q 5 .ld [.qz 4]
 (.Q 6 (.fld 3) [.qq 5]
 (.Q 7 (.lda 2) [.qz 6]
 (.Q 8 (.fld 7) [.qq 5]
 (.Q 9 (.lda 7) [.qz 8]
 (.both
 (.x 10 (.call 29) [.qz 5,.qz 7,.qz 9] none [(1,.lda 8,[.qz 0],none)]
 (.both
 (.x 11 (.bsl 39 2 zL4 [(0,8),(8,8)]) [.qz 1,.qz 10] none []
 (.both
 (.x 12 (.call 101) [.qz 11] none []
 (.x 13 (.alc zL0 39) [] none [(1,.lda 8,[.qz 0],none),(5,.ld,[.qz 4],none),(7,.lda 2,[.qz 6],none),(9,.lda 7,[.qz 8],none)]
 (.x 14 (.st 8) [.qz 13,.qz 12] none []
 (.out (qx [0,5,8] [(9,.qz 13)])))))
 (.x 13 (.alc zL0 39) [] none [(1,.lda 8,[.qz 0],none),(5,.ld,[.qz 4],none),(7,.lda 2,[.qz 6],none),(9,.lda 7,[.qz 8],none)]
 (.x 12 (.call 101) [.qz 11] none []
 (.x 14 (.st 8) [.qz 13,.qz 12] none []
 (.out (qx [0,5,8] [(9,.qz 13)])))))))
 (.x 13 (.alc zL0 39) [] none [(1,.lda 8,[.qz 0],none),(5,.ld,[.qz 4],none),(7,.lda 2,[.qz 6],none),(9,.lda 7,[.qz 8],none)]
 (.x 11 (.bsl 39 2 zL4 [(0,8),(8,8)]) [.qz 1,.qz 10] none []
 (.x 12 (.call 101) [.qz 11] none []
 (.x 14 (.st 8) [.qz 13,.qz 12] none []
 (.out (qx [0,5,8] [(9,.qz 13)]))))))))
 (.x 13 (.alc zL0 39) [] none [(1,.lda 8,[.qz 0],none),(5,.ld,[.qz 4],none),(7,.lda 2,[.qz 6],none),(9,.lda 7,[.qz 8],none)]
 (.x 10 (.call 29) [.qz 5,.qz 7,.qz 9] none [(1,.lda 8,[.qz 0],none)]
 (.x 11 (.bsl 39 2 zL4 [(0,8),(8,8)]) [.qz 1,.qz 10] none []
 (.x 12 (.call 101) [.qz 11] none []
 (.x 14 (.st 8) [.qz 13,.qz 12] none []
 (.out (qx [0,5,8] [(9,.qz 13)])))))))))))))))))
 [0,5,8]
abbrev XE:NC:=.reg
 (.Q 0 (.fld 5) [.qq 5]
 (.Q 1 (.lda 2) [.qz 0]
 (.Q 2 (.bld [.int .i64 0,.int .i64 0] []) []
 (.Q 3 (.eqc false [.i .i64,.i .i64]) [.qz 1,.qz 2]
 (.q 5 (.lda 8) [.qq 9] (some (.qz 3,true))
 (.q 6 (.fld 14) [.qq 5] (some (.qz 3,true))
 (.q 7 (.lda 8) [.qz 6] (some (.qz 3,true))
 (.q 8 (.eqc false [.i .i64,.i .i64,.i .i64,.i .i64,.i .i64,.i .i64,.i .i64,.i .i64]) [.qz 5,.qz 7] (some (.qz 3,true))
 (.Q 9 .pick [.qz 3,.qz 8,.const (.bool false)]
 (.out (qx [0,5,8,9] [(10,.qz 9)])))))))))))
 [0,5,8,9]
abbrev xn:NC:=.reg
 (.Q 0 (.lda 8) [.qq 9]
 (.x 1 (.call 30) [.qz 0] none []
 (.Q 2 .not [.qz 1]
 (.q 4 .mv [.qq 0] (some (.qz 2,false))
 (.q 5 (.fld 3) [.qq 5] (some (.qz 2,false))
 (.q 6 (.lda 2) [.qz 5] (some (.qz 2,false))
 (.q 7 (.fld 5) [.qq 5] (some (.qz 2,false))
 (.q 8 (.lda 2) [.qz 7] (some (.qz 2,false))
 (.q 9 (.fld 5) [.qq 5] (some (.qz 2,false))
 (.q 10 (.lda 2) [.qz 9] (some (.qz 2,false))
 (.q 11 (.fld 7) [.qq 5] (some (.qz 2,false))
 (.q 12 (.lda 7) [.qz 11] (some (.qz 2,false))
 (.q 13 (.lda 8) [.qq 9] (some (.qz 2,false))
 (.q 14 .mv [.qq 10] (some (.qz 2,false))
 (.q 15 (.bld [.int .i64 0,.int .i64 0,.int .i64 0,.int .i64 0,.int .i64 0,.int .i64 0,.int .i64 0,.int .i64 0,(.string ⟨#[]⟩),(.string ⟨#[]⟩),(.string ⟨#[]⟩),(.string ⟨#[]⟩),.int .i64 0,.int .i64 0,.int .i64 0,.int .i64 0,.int .i64 0,.int .i64 0,.int .i64 0,.int .i64 0,.bool false] [(0,1),(1,2),(3,2),(5,7),(12,8),(20,1)]) [.qj 1,.qz 8,.qz 10,.qz 12,.qz 13,.qz 14] (some (.qz 2,false))
 (.x 16 (.call 31) [.qz 4,.qz 6,.qz 15] (some (.qz 2,false)) []
 (.q 17 .not [.qz 16] (some (.qz 2,false))
 (.Q 18 .pick [.qz 2,.const (.bool true),.qz 17]
 (.out (qx [0,5,8,9] [(68,.qz 18)]))))))))))))))))))))
 [0,5,8,9,10]
abbrev xm:NC:=.reg
 (.Q 0 (.lda 8) [.qq 9]
 (.Q 1 (.fld 14) [.qq 8]
 (.x 2 (.st 8) [.qz 1,.qz 0] none []
 (.out (qx [0,5,8] [])))))
 [0,5,8,9]
abbrev xi:NC:=.reg
 (.Q 1 (.fld 1) [.qq 5]
 (.Q 2 .ld [.qz 1]
 (.Q 3 (.lda 51) [.qq 8]
 (.x 4 (.call 73) [.qq 0,.qz 2,.qz 3] none []
 (.out [])))))
 [0,5,8]
abbrev Vb:NC :=
 (.seq bA
 (.seq bu
 (.seq (.seq br
 (.cond (.qq 18)
 (.seq (.seq bp
 (.cond (.qq 21)
 bo
 .skip))
 .ret)
 .skip))
 (.seq bm
 (.seq XE
 (.seq (.seq xn
 (.cond (.qq 68)
 .ret
 .skip))
 (.seq xm
 xi)))))))
abbrev dV:FN:=⟨Vb,[]⟩
theorem bB:GoT 75 Tryz.f75 Vb dV:=goT (F:=dV) Tryz.func75 (by kernel_rfl)
abbrev VE:NC:=.reg
 (.x 0 (.box 25) [.qq 1] none []
 (.x 1 (.box 30) [.qq 2] none []
 (.x 2 (.box 39) [.qq 3] none []
 (.out [(0,.qq 0),(5,.qz 0),(6,.qz 1),(7,.qz 2)]))))
 [0,1,2,3]
abbrev VD:NC:=.reg
 (.Q 1 (.lda 2) [.qq 5]
 (.x 2 (.call 74) [.qq 0,.qz 1] none []
 (.out (qx [0,5,6,7] []))))
 [0,5,6,7]
abbrev VC:NC:=.reg
 (.Q 1 .nilck [.qq 0]
 (.Q 2 (.fld 2) [.qz 1]
 (.Q 3 .ld [.qz 2]
 (.Q 4 (.lda 2) [.qq 5]
 (.both
 (.x 5 (.call 33) [.qz 3,.qz 4] none []
 (.Q 7 (.ext 0) [.qz 5]
 (.Q 8 (.ext 1) [.qz 5]
 (.x 9 (.alc [.int .i64 0,.int .i64 0,.int .i64 0,.int .i64 0,.int .i64 0,.int .i64 0,.int .i64 0,.int .i64 0,(.string ⟨#[]⟩),(.string ⟨#[]⟩),(.string ⟨#[]⟩),(.string ⟨#[]⟩),.int .i64 0,.int .i64 0,.int .i64 0,.int .i64 0,.int .i64 0,.int .i64 0,.int .i64 0,.int .i64 0,.bool false] 41) [] none [(3,.ld,[.qz 2],none),(4,.lda 2,[.qq 5],none)]
 (.x 10 (.st 21) [.qz 9,.qz 7] none []
 (.out (qx [0,5,6,7] [(8,.qz 9)])))))))
 (.x 9 (.alc [.int .i64 0,.int .i64 0,.int .i64 0,.int .i64 0,.int .i64 0,.int .i64 0,.int .i64 0,.int .i64 0,(.string ⟨#[]⟩),(.string ⟨#[]⟩),(.string ⟨#[]⟩),(.string ⟨#[]⟩),.int .i64 0,.int .i64 0,.int .i64 0,.int .i64 0,.int .i64 0,.int .i64 0,.int .i64 0,.int .i64 0,.bool false] 41) [] none [(3,.ld,[.qz 2],none),(4,.lda 2,[.qq 5],none)]
 (.x 5 (.call 33) [.qz 3,.qz 4] none []
 (.Q 7 (.ext 0) [.qz 5]
 (.Q 8 (.ext 1) [.qz 5]
 (.x 10 (.st 21) [.qz 9,.qz 7] none []
 (.out (qx [0,5,6,7] [(8,.qz 9)]))))))))))))
 [0,5,6,7]
abbrev VB:NC:=.reg
 (.Q 1 (.lda 2) [.qq 5]
 (.Q 2 (.fld 1) [.qq 8]
 (.Q 3 (.lda 2) [.qz 2]
 (.Q 4 (.fld 3) [.qq 8]
 (.Q 5 (.lda 2) [.qz 4]
 (.Q 6 (.lda 7) [.qq 6]
 (.Q 7 (.lda 8) [.qq 7]
 (.Q 8 (.bld [.int .i64 0,.int .i64 0,.int .i64 0,.int .i64 0,.int .i64 0,.int .i64 0,.int .i64 0,.int .i64 0,(.string ⟨#[]⟩),(.string ⟨#[]⟩),(.string ⟨#[]⟩),(.string ⟨#[]⟩),.int .i64 0,.int .i64 0,.int .i64 0,.int .i64 0,.int .i64 0,.int .i64 0,.int .i64 0,.int .i64 0,.bool false] [(0,1),(1,2),(3,2),(5,7),(12,8)]) [.qj 3,.qz 3,.qz 5,.qz 6,.qz 7]
 (.x 9 (.call 31) [.qq 0,.qz 1,.qz 8] none []
 (.out (qx [0,5,6,7] [(31,.qz 9)])))))))))))
 [0,5,6,7,8]
abbrev VA:NC:=.reg
 (.Q 1 (.lda 2) [.qq 5]
 (.Q 2 (.lda 7) [.qq 6]
 (.Q 3 (.lda 8) [.qq 7]
 (.Q 4 (.bld [.int .i64 0,.int .i64 0,.int .i64 0,.int .i64 0,.int .i64 0,.int .i64 0,.int .i64 0,.int .i64 0,.int .i64 0,.int .i64 0,(.string ⟨#[]⟩),(.string ⟨#[]⟩),(.string ⟨#[]⟩),(.string ⟨#[]⟩),.int .i64 0,.int .i64 0,.int .i64 0,.int .i64 0,.int .i64 0,.int .i64 0,.int .i64 0,.int .i64 0,.int .i64 0,.int .i64 0,.int .i64 0,.int .i64 0,.int .i64 0,.int .i64 0,.int .i64 0,.int .i64 0,(.string ⟨#[]⟩),(.string ⟨#[]⟩),(.string ⟨#[]⟩),(.string ⟨#[]⟩),.int .i64 0,.int .i64 0,.int .i64 0,.int .i64 0,.int .i64 0,.int .i64 0,.int .i64 0,.int .i64 0,.bool false,.int .i64 0,.int .i64 0,.int .i64 0,.int .i64 0,.int .i64 0,.int .i64 0,.int .i64 0,(.string ⟨#[]⟩)] [(0,1),(3,2),(7,7),(14,8)]) [.qj 5,.qz 1,.qz 2,.qz 3]
 (.Q 5 (.bld zL2 []) []
 (.x 6 (.call 59) [.qq 0,.qz 4,.qz 5] none []
 (.out [])))))))
 [0,5,6,7]
abbrev ZW:NC :=
 (.seq VE
 (.seq VD
 (.seq VC
 (.seq VB
 (.cond (.qq 31)
 VA
 .skip)))))
abbrev WH:FN:=⟨ZW,[]⟩
theorem iA:GoT 77 Tryz.f77 ZW WH:=goT (F:=WH) Tryz.func77 (by kernel_rfl)
abbrev XV:NC:=.reg
 (.Q 1 .nilck [.qq 0]
 (.Q 2 (.fld 0) [.qz 1]
 (.Q 3 .ld [.qz 2]
 (.Q 5 .nilck [.qq 1]
 (.Q 6 (.fld 0) [.qz 5]
 (.Q 7 (.fld 0) [.qz 6]
 (.Q 8 .ld [.qz 7]
 (.Q 10 .nilck [.qq 1]
 (.Q 11 (.fld 29) [.qz 10]
 (.Q 12 .ld [.qz 11]
 (.both
 (.x 13 (.call 102) [.qz 3,.qz 8,.qz 12] none []
 (.Q 15 (.ext 0) [.qz 13]
 (.Q 16 (.ext 1) [.qz 13]
 (.Q 17 (.ext 2) [.qz 13]
 (.both
 (.x 18 (.alc [.int .i64 0,.int .i64 0,.int .i64 0,(.string ⟨#[]⟩),(.string ⟨#[]⟩),(.string ⟨#[]⟩),(.string ⟨#[]⟩)] 30) [] none [(3,.ld,[.qz 2],none),(8,.ld,[.qz 7],none),(12,.ld,[.qz 11],none)]
 (.x 19 (.alc zL0 39) [] none [(3,.ld,[.qz 2],none),(8,.ld,[.qz 7],none),(12,.ld,[.qz 11],none)]
 (.x 21 (.st 7) [.qz 18,.qz 16] none []
 (.x 22 (.st 8) [.qz 19,.qz 17] none []
 (.out (qx [0,1] [(4,.qz 15),(5,.qz 18),(6,.qz 19)]))))))
 (.x 19 (.alc zL0 39) [] none [(3,.ld,[.qz 2],none),(8,.ld,[.qz 7],none),(12,.ld,[.qz 11],none)]
 (.x 18 (.alc [.int .i64 0,.int .i64 0,.int .i64 0,(.string ⟨#[]⟩),(.string ⟨#[]⟩),(.string ⟨#[]⟩),(.string ⟨#[]⟩)] 30) [] none [(3,.ld,[.qz 2],none),(8,.ld,[.qz 7],none),(12,.ld,[.qz 11],none)]
 (.x 21 (.st 7) [.qz 18,.qz 16] none []
 (.x 22 (.st 8) [.qz 19,.qz 17] none []
 (.out (qx [0,1] [(4,.qz 15),(5,.qz 18),(6,.qz 19)])))))))))))
 (.both
 (.x 18 (.alc [.int .i64 0,.int .i64 0,.int .i64 0,(.string ⟨#[]⟩),(.string ⟨#[]⟩),(.string ⟨#[]⟩),(.string ⟨#[]⟩)] 30) [] none [(3,.ld,[.qz 2],none),(8,.ld,[.qz 7],none),(12,.ld,[.qz 11],none)]
 (.both
 (.x 13 (.call 102) [.qz 3,.qz 8,.qz 12] none []
 (.Q 15 (.ext 0) [.qz 13]
 (.Q 16 (.ext 1) [.qz 13]
 (.Q 17 (.ext 2) [.qz 13]
 (.x 19 (.alc zL0 39) [] none [(3,.ld,[.qz 2],none),(8,.ld,[.qz 7],none),(12,.ld,[.qz 11],none)]
 (.x 21 (.st 7) [.qz 18,.qz 16] none []
 (.x 22 (.st 8) [.qz 19,.qz 17] none []
 (.out (qx [0,1] [(4,.qz 15),(5,.qz 18),(6,.qz 19)])))))))))
 (.x 19 (.alc zL0 39) [] none [(3,.ld,[.qz 2],none),(8,.ld,[.qz 7],none),(12,.ld,[.qz 11],none)]
 (.x 13 (.call 102) [.qz 3,.qz 8,.qz 12] none []
 (.Q 15 (.ext 0) [.qz 13]
 (.Q 16 (.ext 1) [.qz 13]
 (.Q 17 (.ext 2) [.qz 13]
 (.x 21 (.st 7) [.qz 18,.qz 16] none []
 (.x 22 (.st 8) [.qz 19,.qz 17] none []
 (.out (qx [0,1] [(4,.qz 15),(5,.qz 18),(6,.qz 19)])))))))))))
 (.x 19 (.alc zL0 39) [] none [(3,.ld,[.qz 2],none),(8,.ld,[.qz 7],none),(12,.ld,[.qz 11],none)]
 (.both
 (.x 13 (.call 102) [.qz 3,.qz 8,.qz 12] none []
 (.Q 15 (.ext 0) [.qz 13]
 (.Q 16 (.ext 1) [.qz 13]
 (.Q 17 (.ext 2) [.qz 13]
 (.x 18 (.alc [.int .i64 0,.int .i64 0,.int .i64 0,(.string ⟨#[]⟩),(.string ⟨#[]⟩),(.string ⟨#[]⟩),(.string ⟨#[]⟩)] 30) [] none [(3,.ld,[.qz 2],none),(8,.ld,[.qz 7],none),(12,.ld,[.qz 11],none)]
 (.x 21 (.st 7) [.qz 18,.qz 16] none []
 (.x 22 (.st 8) [.qz 19,.qz 17] none []
 (.out (qx [0,1] [(4,.qz 15),(5,.qz 18),(6,.qz 19)])))))))))
 (.x 18 (.alc [.int .i64 0,.int .i64 0,.int .i64 0,(.string ⟨#[]⟩),(.string ⟨#[]⟩),(.string ⟨#[]⟩),(.string ⟨#[]⟩)] 30) [] none [(3,.ld,[.qz 2],none),(8,.ld,[.qz 7],none),(12,.ld,[.qz 11],none)]
 (.x 13 (.call 102) [.qz 3,.qz 8,.qz 12] none []
 (.Q 15 (.ext 0) [.qz 13]
 (.Q 16 (.ext 1) [.qz 13]
 (.Q 17 (.ext 2) [.qz 13]
 (.x 21 (.st 7) [.qz 18,.qz 16] none []
 (.x 22 (.st 8) [.qz 19,.qz 17] none []
 (.out (qx [0,1] [(4,.qz 15),(5,.qz 18),(6,.qz 19)])))))))))))))))))))))))
 [0,1]
abbrev XK:NC:=.reg
 (.out (qx [0,1,5,6] [(25,.qq 4)]))
 [0,1,4,5,6]
abbrev XX:NC:=.reg
 (.Q 0 (.icm .eql) [.qq 25,.qj 1]
 (.out (qx [0,1,5,6,25] [(26,.qz 0)])))
 [0,1,5,6,25]
abbrev XJ:NC:=.reg
 (.Q 2 .nilck [.qq 1]
 (.Q 3 (.fld 0) [.qz 2]
 (.Q 4 (.lda 2) [.qz 3]
 (.Q 5 (.lda 7) [.qq 5]
 (.Q 6 (.lda 8) [.qq 6]
 (.x 7 (.call 77) [.qq 0,.qz 4,.qz 5,.qz 6] none []
 (.out [])))))))
 [0,1,5,6]
abbrev XZ:NC:=.reg
 (.Q 0 (.icm .eql) [.qq 25,.qj 2]
 (.out (qx [0,1,5,6,25] [(36,.qz 0)])))
 [0,1,5,6,25]
abbrev XQ:NC:=.reg
 (.Q 2 (.lda 7) [.qq 5]
 (.Q 3 (.lda 8) [.qq 6]
 (.x 4 (.call 90) [.qq 0,.qq 1,.qz 2,.qz 3] none []
 (.out []))))
 [0,1,5,6]
abbrev Xy:NC:=.reg
 (.Q 0 (.icm .eql) [.qq 25,.qj 4]
 (.out (qx [0,1,5,6,25] [(43,.qz 0)])))
 [0,1,5,6,25]
abbrev Xw:NC:=.reg
 (.Q 2 (.bld [.int .i64 0,.int .i64 0,.int .i64 0,(.string ⟨#[]⟩),(.string ⟨#[]⟩),(.string ⟨#[]⟩),(.string ⟨#[]⟩)] []) []
 (.Q 4 .nilck [.qq 1]
 (.Q 5 (.fld 0) [.qz 4]
 (.Q 6 (.lda 2) [.qz 5]
 (.x 7 (.call 103) [.qz 6] none []
 (.x 8 (.call 90) [.qq 0,.qq 1,.qz 2,.qz 7] none []
 (.out [])))))))
 [0,1]
abbrev Xv:NC:=.reg
 (.Q 0 (.icm .eql) [.qq 25,.qj 3]
 (.out (qx [0,1,5,6] [(54,.qz 0)])))
 [0,1,5,6,25]
abbrev Xk:NC:=.reg
 (.Q 2 (.lda 7) [.qq 5]
 (.Q 3 (.lda 8) [.qq 6]
 (.x 4 (.call 104) [.qq 0,.qq 1,.qz 2,.qz 3] none []
 (.out []))))
 [0,1,5,6]
abbrev wk:NC :=
 (.seq XV
 (.seq XK
 (.block 0 (.seq XX
 (.cond (.qq 26)
 XJ
 (.seq XZ
 (.cond (.qq 36)
 XQ
 (.seq Xy
 (.cond (.qq 43)
 Xw
 (.seq Xv
 (.cond (.qq 54)
 Xk
 .skip)))))))))))
abbrev KO:FN:=⟨wk,[]⟩
theorem dT:GoT 78 Tryz.f78 wk KO:=goT (F:=KO) Tryz.func78 (by kernel_rfl)
abbrev iE:NC:=.reg
 (.x 0 (.box 30) [.qq 2] none []
 (.x 1 (.box 39) [.qq 3] none []
 (.out (qx [0,1] [(6,.qz 0),(7,.qz 1)]))))
 [0,1,2,3]
abbrev iD:NC:=.reg
 (.Q 0 (.lda 8) [.qq 7]
 (.x 1 (.call 30) [.qz 0] none []
 (.Q 2 .not [.qz 1]
 (.q 4 .mv [.qq 0] (some (.qz 2,false))
 (.q 5 .mv [.qq 1] (some (.qz 2,false))
 (.q 6 .nilck [.qz 5] (some (.qz 2,false))
 (.q 7 (.fld 0) [.qz 6] (some (.qz 2,false))
 (.q 8 (.lda 2) [.qz 7] (some (.qz 2,false))
 (.q 9 .mv [.qq 1] (some (.qz 2,false))
 (.q 10 .nilck [.qz 9] (some (.qz 2,false))
 (.q 11 (.fld 3) [.qz 10] (some (.qz 2,false))
 (.q 12 (.lda 2) [.qz 11] (some (.qz 2,false))
 (.q 13 .mv [.qq 1] (some (.qz 2,false))
 (.q 14 .nilck [.qz 13] (some (.qz 2,false))
 (.q 15 (.fld 3) [.qz 14] (some (.qz 2,false))
 (.q 16 (.lda 2) [.qz 15] (some (.qz 2,false))
 (.q 17 (.lda 7) [.qq 6] (some (.qz 2,false))
 (.q 18 (.lda 8) [.qq 7] (some (.qz 2,false))
 (.q 19 (.bld [.int .i64 0,.int .i64 0,.int .i64 0,.int .i64 0,.int .i64 0,.int .i64 0,.int .i64 0,.int .i64 0,(.string ⟨#[]⟩),(.string ⟨#[]⟩),(.string ⟨#[]⟩),(.string ⟨#[]⟩),.int .i64 0,.int .i64 0,.int .i64 0,.int .i64 0,.int .i64 0,.int .i64 0,.int .i64 0,.int .i64 0,.bool false] [(0,1),(1,2),(3,2),(5,7),(12,8)]) [.qj 2,.qz 12,.qz 16,.qz 17,.qz 18] (some (.qz 2,false))
 (.x 20 (.call 31) [.qz 4,.qz 8,.qz 19] (some (.qz 2,false)) []
 (.q 21 .not [.qz 20] (some (.qz 2,false))
 (.Q 22 .pick [.qz 2,.const (.bool true),.qz 21]
 (.out (qx [0,1,6,7] [(30,.qz 22)]))))))))))))))))))))))))
 [0,1,6,7]
abbrev iC:NC:=.reg
 (.Q 2 .nilck [.qq 1]
 (.Q 3 (.fld 0) [.qz 2]
 (.Q 4 (.lda 2) [.qz 3]
 (.x 5 (.call 74) [.qq 0,.qz 4] none []
 (.out [])))))
 [0,1]
abbrev iB:NC:=.reg
 (.Q 2 .nilck [.qq 1]
 (.Q 3 (.fld 0) [.qz 2]
 (.Q 4 (.lda 2) [.qz 3]
 (.Q 6 .nilck [.qq 1]
 (.Q 7 (.fld 3) [.qz 6]
 (.Q 8 (.lda 2) [.qz 7]
 (.Q 9 (.lda 7) [.qq 6]
 (.Q 10 (.lda 8) [.qq 7]
 (.Q 11 (.bld [.int .i64 0,.int .i64 0,.int .i64 0,.int .i64 0,.int .i64 0,.bool false,.int .i64 0,.int .i64 0,.int .i64 0,(.string ⟨#[]⟩),(.string ⟨#[]⟩),(.string ⟨#[]⟩),(.string ⟨#[]⟩),.int .i64 0,.int .i64 0,.int .i64 0,.int .i64 0,.int .i64 0,.int .i64 0,.int .i64 0,.int .i64 0,.int .i64 0,.int .i64 0,.int .i64 0,.int .i64 0,.int .i64 0,.int .i64 0,.int .i64 0,.slice none 0 0,.slice none 0 0,.int .i64 0,.int .i64 0] [(0,2),(2,1),(3,2),(6,7),(13,8)]) [.qz 4,.qj 1,.qz 8,.qz 9,.qz 10]
 (.x 12 (.box 92) [.qz 11] none []
 (.x 13 (.call 32) [.qq 0,.qz 12] none []
 (.out []))))))))))))
 [0,1,6,7]
abbrev WU:NC :=
 (.seq iE
 (.seq (.seq iD
 (.cond (.qq 30)
 (.seq iC
 .ret)
 .skip))
 iB))
abbrev Yq:FN:=⟨WU,[]⟩
theorem VF:GoT 90 Tryz.f90 WU Yq:=goT (F:=Yq) Tryz.func90 (by kernel_rfl)
abbrev ez:NC:=.reg
 (.out (qx [0,1] []))
 [0,1]
abbrev dU:NC:=.reg
 (.Q 1 .nilck [.qq 0]
 (.Q 2 (.fld 0) [.qz 1]
 (.Q 3 (.lda 2) [.qz 2]
 (.Q 4 (.lda 2) [.qq 1]
 (.Q 5 (.eqc false [.i .i64,.i .i64]) [.qz 3,.qz 4]
 (.out [(3,.qz 5)]))))))
 [0,1]
abbrev KP:NC :=
 (.seq ez
 (.seq dU
 .ret))
abbrev KR:FN:=⟨KP,[.qq 3]⟩
theorem ej:GoT 100 Tryz.f100 KP KR:=goT (F:=KR) Tryz.func100 (by kernel_rfl)
abbrev WT:NC:=.reg
 (.x 0 (.box 30) [.qq 2] none []
 (.x 1 (.box 39) [.qq 3] none []
 (.out (qx [0,1] [(6,.qz 0),(7,.qz 1)]))))
 [0,1,2,3]
abbrev WS:NC:=.reg
 (.Q 0 (.lda 8) [.qq 7]
 (.Q 2 .nilck [.qq 0]
 (.Q 3 (.fld 3) [.qz 2]
 (.Q 4 .ld [.qz 3]
 (.Q 6 .nilck [.qq 1]
 (.Q 7 (.fld 0) [.qz 6]
 (.Q 8 (.lda 2) [.qz 7]
 (.Q 9 (.lda 7) [.qq 6]
 (.both
 (.x 10 (.call 29) [.qz 4,.qz 8,.qz 9] none [(0,.lda 8,[.qq 7],none)]
 (.both
 (.x 11 (.bsl 39 2 zL4 [(0,8),(8,8)]) [.qz 0,.qz 10] none []
 (.both
 (.x 12 (.call 101) [.qz 11] none []
 (.x 13 (.alc zL0 39) [] none [(0,.lda 8,[.qq 7],none),(4,.ld,[.qz 3],none),(8,.lda 2,[.qz 7],none),(9,.lda 7,[.qq 6],none)]
 (.x 14 (.st 8) [.qz 13,.qz 12] none []
 (.out (qx [0,1,6] [(8,.qz 13)])))))
 (.x 13 (.alc zL0 39) [] none [(0,.lda 8,[.qq 7],none),(4,.ld,[.qz 3],none),(8,.lda 2,[.qz 7],none),(9,.lda 7,[.qq 6],none)]
 (.x 12 (.call 101) [.qz 11] none []
 (.x 14 (.st 8) [.qz 13,.qz 12] none []
 (.out (qx [0,1,6] [(8,.qz 13)])))))))
 (.x 13 (.alc zL0 39) [] none [(0,.lda 8,[.qq 7],none),(4,.ld,[.qz 3],none),(8,.lda 2,[.qz 7],none),(9,.lda 7,[.qq 6],none)]
 (.x 11 (.bsl 39 2 zL4 [(0,8),(8,8)]) [.qz 0,.qz 10] none []
 (.x 12 (.call 101) [.qz 11] none []
 (.x 14 (.st 8) [.qz 13,.qz 12] none []
 (.out (qx [0,1,6] [(8,.qz 13)]))))))))
 (.x 13 (.alc zL0 39) [] none [(0,.lda 8,[.qq 7],none),(4,.ld,[.qz 3],none),(8,.lda 2,[.qz 7],none),(9,.lda 7,[.qq 6],none)]
 (.x 10 (.call 29) [.qz 4,.qz 8,.qz 9] none [(0,.lda 8,[.qq 7],none)]
 (.x 11 (.bsl 39 2 zL4 [(0,8),(8,8)]) [.qz 0,.qz 10] none []
 (.x 12 (.call 101) [.qz 11] none []
 (.x 14 (.st 8) [.qz 13,.qz 12] none []
 (.out (qx [0,1,6] [(8,.qz 13)]))))))))))))))))
 [0,1,6,7]
abbrev WR:NC:=.reg
 (.Q 0 (.lda 8) [.qq 8]
 (.x 1 (.call 30) [.qz 0] none []
 (.Q 2 .not [.qz 1]
 (.q 4 .mv [.qq 0] (some (.qz 2,false))
 (.q 5 .mv [.qq 1] (some (.qz 2,false))
 (.q 6 .nilck [.qz 5] (some (.qz 2,false))
 (.q 7 (.fld 0) [.qz 6] (some (.qz 2,false))
 (.q 8 (.lda 2) [.qz 7] (some (.qz 2,false))
 (.q 9 .mv [.qq 1] (some (.qz 2,false))
 (.q 10 .nilck [.qz 9] (some (.qz 2,false))
 (.q 11 (.fld 3) [.qz 10] (some (.qz 2,false))
 (.q 12 (.lda 2) [.qz 11] (some (.qz 2,false))
 (.q 13 .mv [.qq 1] (some (.qz 2,false))
 (.q 14 .nilck [.qz 13] (some (.qz 2,false))
 (.q 15 (.fld 3) [.qz 14] (some (.qz 2,false))
 (.q 16 (.lda 2) [.qz 15] (some (.qz 2,false))
 (.q 17 (.lda 7) [.qq 6] (some (.qz 2,false))
 (.q 18 (.lda 8) [.qq 8] (some (.qz 2,false))
 (.q 19 (.bld [.int .i64 0,.int .i64 0,.int .i64 0,.int .i64 0,.int .i64 0,.int .i64 0,.int .i64 0,.int .i64 0,(.string ⟨#[]⟩),(.string ⟨#[]⟩),(.string ⟨#[]⟩),(.string ⟨#[]⟩),.int .i64 0,.int .i64 0,.int .i64 0,.int .i64 0,.int .i64 0,.int .i64 0,.int .i64 0,.int .i64 0,.bool false] [(0,1),(1,2),(3,2),(5,7),(12,8)]) [.qj 1,.qz 12,.qz 16,.qz 17,.qz 18] (some (.qz 2,false))
 (.x 20 (.call 31) [.qz 4,.qz 8,.qz 19] (some (.qz 2,false)) []
 (.q 21 .not [.qz 20] (some (.qz 2,false))
 (.Q 22 .pick [.qz 2,.const (.bool true),.qz 21]
 (.out (qx [0,1,6,8] [(44,.qz 22)]))))))))))))))))))))))))
 [0,1,6,8]
abbrev WO:NC:=.reg
 (.Q 2 .nilck [.qq 1]
 (.Q 3 (.fld 0) [.qz 2]
 (.Q 4 (.lda 2) [.qz 3]
 (.x 5 (.call 74) [.qq 0,.qz 4] none []
 (.out [])))))
 [0,1]
abbrev WN:NC:=.reg
 (.Q 2 .nilck [.qq 1]
 (.Q 3 (.fld 0) [.qz 2]
 (.Q 4 (.lda 2) [.qz 3]
 (.Q 6 .nilck [.qq 1]
 (.Q 7 (.fld 3) [.qz 6]
 (.Q 8 (.lda 2) [.qz 7]
 (.Q 9 (.lda 7) [.qq 6]
 (.Q 10 (.lda 8) [.qq 8]
 (.Q 11 (.bld [.int .i64 0,.int .i64 0,.int .i64 0,.int .i64 0,.int .i64 0,.bool false,.int .i64 0,.int .i64 0,.int .i64 0,(.string ⟨#[]⟩),(.string ⟨#[]⟩),(.string ⟨#[]⟩),(.string ⟨#[]⟩),.int .i64 0,.int .i64 0,.int .i64 0,.int .i64 0,.int .i64 0,.int .i64 0,.int .i64 0,.int .i64 0,.int .i64 0,.int .i64 0,.int .i64 0,.int .i64 0,.int .i64 0,.int .i64 0,.int .i64 0,.slice none 0 0,.slice none 0 0,.int .i64 0,.int .i64 0] [(0,2),(2,1),(3,2),(6,7),(13,8)]) [.qz 4,.qj 0,.qz 8,.qz 9,.qz 10]
 (.x 12 (.box 92) [.qz 11] none []
 (.x 13 (.call 32) [.qq 0,.qz 12] none []
 (.out []))))))))))))
 [0,1,6,8]
abbrev Js:NC :=
 (.seq WT
 (.seq WS
 (.seq (.seq WR
 (.cond (.qq 44)
 (.seq WO
 .ret)
 .skip))
 WN)))
abbrev aw:FN:=⟨Js,[]⟩
theorem nk:GoT 104 Tryz.f104 Js aw:=goT (F:=aw) Tryz.func104 (by kernel_rfl)
end Go.Fw
