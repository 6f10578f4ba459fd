import Derived.Test.YtimedjfpihdffaaGreatCd
set_option linter.unusedVariables false
set_option linter.unusedSimpArgs false
set_option maxHeartbeats 16000000
namespace Go.Fw
open Go.Proofs
abbrev Kr:NC:=.reg
 (.x 0 (.box 30) [.qq 1] none []
 (.x 1 (.alc [.int .i64 0,.int .i64 0] 25) [] none []
 (.out [(0,.qq 0),(3,.qz 0),(4,.qz 1)])))
 [0,1]
abbrev Ko:NC:=.reg
 (.Q 1 .nilck [.qq 0]
 (.Q 2 (.fld 1) [.qz 1]
 (.Q 3 .ld [.qz 2]
 (.Q 5 .nilck [.qq 0]
 (.Q 6 (.fld 2) [.qz 5]
 (.Q 7 .ld [.qz 6]
 (.Q 10 .nilck [.qq 0]
 (.Q 11 (.fld 1) [.qz 10]
 (.Q 12 .ld [.qz 11]
 (.both
 (.x 8 (.call 28) [.qz 7] none [(3,.ld,[.qz 2],none),(12,.ld,[.qz 11],none)]
 (.Q 13 (.idx 7 1) [.qz 8,.qz 12]
 (.Q 14 (.iar .add) [.qz 13,.qj 1]
 (.Q 15 (.bld [.int .i64 0,.int .i64 0] [(0,1),(1,1)]) [.qz 3,.qz 14]
 (.x 16 (.alc [.int .i64 0,.int .i64 0] 25) [] none [(3,.ld,[.qz 2],none),(7,.ld,[.qz 6],none),(12,.ld,[.qz 11],none)]
 (.x 17 (.st 2) [.qz 16,.qz 15] none []
 (.out (qx [0,3,4] [(6,.qz 16)]))))))))
 (.x 16 (.alc [.int .i64 0,.int .i64 0] 25) [] none [(3,.ld,[.qz 2],none),(7,.ld,[.qz 6],none),(12,.ld,[.qz 11],none)]
 (.x 8 (.call 28) [.qz 7] none [(3,.ld,[.qz 2],none),(12,.ld,[.qz 11],none)]
 (.Q 13 (.idx 7 1) [.qz 8,.qz 12]
 (.Q 14 (.iar .add) [.qz 13,.qj 1]
 (.Q 15 (.bld [.int .i64 0,.int .i64 0] [(0,1),(1,1)]) [.qz 3,.qz 14]
 (.x 17 (.st 2) [.qz 16,.qz 15] none []
 (.out (qx [0,3,4] [(6,.qz 16)]))))))))))))))))))
 [0,3,4]
abbrev wh:NC:=.reg
 (.Q 0 (.lda 7) [.qq 3]
 (.x 1 (.call 18) [.qz 0] none []
 (.Q 2 .not [.qz 1]
 (.q 4 (.fld 0) [.qq 3] (some (.qz 2,false))
 (.q 5 .ld [.qz 4] (some (.qz 2,false))
 (.q 6 (.icm .eql) [.qz 5,.qj 0] (some (.qz 2,false))
 (.Q 7 .pick [.qz 2,.const (.bool true),.qz 6]
 (.q 9 (.fld 1) [.qq 6] (some (.qz 7,false))
 (.q 10 .ld [.qz 9] (some (.qz 7,false))
 (.q 11 (.icm .gtr) [.qz 10,.qj 1073741824] (some (.qz 7,false))
 (.Q 12 .pick [.qz 7,.const (.bool true),.qz 11]
 (.q 14 .mv [.qq 0] (some (.qz 12,false))
 (.q 15 .nilck [.qz 14] (some (.qz 12,false))
 (.q 16 (.fld 4) [.qz 15] (some (.qz 12,false))
 (.q 17 .ld [.qz 16] (some (.qz 12,false))
 (.q 18 .len [.qz 17] (some (.qz 12,false))
 (.q 19 (.icm .geq) [.qz 18,.qj 256] (some (.qz 12,false))
 (.Q 20 .pick [.qz 12,.const (.bool true),.qz 19]
 (.out (qx [0,3,4,6] [(44,.qz 20)]))))))))))))))))))))
 [0,3,4,6]
abbrev wg:NC:=.reg
 (.Q 0 (.bld [.int .i64 0,.int .i64 0] []) []
 (.x 1 (.st 2) [.qq 4,.qz 0] none []
 (.out [(4,.qq 4),(5,.const (.bool false))])))
 [4]
abbrev ja:NC:=.reg
 (.Q 1 .nilck [.qq 0]
 (.Q 2 (.fld 3) [.qz 1]
 (.Q 3 .ld [.qz 2]
 (.Q 4 (.lda 2) [.qq 6]
 (.Q 5 (.lda 7) [.qq 3]
 (.both
 (.x 6 (.call 29) [.qz 3,.qz 4,.qz 5] none []
 (.x 7 (.alc zL0 39) [] none [(3,.ld,[.qz 2],none),(4,.lda 2,[.qq 6],none),(5,.lda 7,[.qq 3],none)]
 (.x 8 (.st 8) [.qz 7,.qz 6] none []
 (.out (qx [0,3,4,6] [(7,.qz 7)])))))
 (.x 7 (.alc zL0 39) [] none [(3,.ld,[.qz 2],none),(4,.lda 2,[.qq 6],none),(5,.lda 7,[.qq 3],none)]
 (.x 6 (.call 29) [.qz 3,.qz 4,.qz 5] none []
 (.x 8 (.st 8) [.qz 7,.qz 6] none []
 (.out (qx [0,3,4,6] [(7,.qz 7)])))))))))))
 [0,3,4,6]
abbrev Kn:NC:=.reg
 (.Q 0 (.lda 8) [.qq 7]
 (.x 1 (.call 30) [.qz 0] none []
 (.Q 2 .not [.qz 1]
 (.out (qx [0,3,4,6,7] [(55,.qz 2)])))))
 [0,3,4,6,7]
abbrev Km:NC:=.reg
 (.Q 0 (.bld [.int .i64 0,.int .i64 0] []) []
 (.x 1 (.st 2) [.qq 4,.qz 0] none []
 (.out [(4,.qq 4),(5,.const (.bool false))])))
 [4]
abbrev Kl:NC:=.reg
 (.Q 1 (.lda 2) [.qq 6]
 (.Q 2 (.lda 7) [.qq 3]
 (.Q 3 (.lda 8) [.qq 7]
 (.Q 4 (.bld [.int .i64 0,.int .i64 0,.int .i64 0,.int .i64 0,.int .i64 0,.int .i64 0,.int .i64 0,.int .i64 0,(.string ⟨#[]⟩),(.string ⟨#[]⟩),(.string ⟨#[]⟩),(.string ⟨#[]⟩),.int .i64 0,.int .i64 0,.int .i64 0,.int .i64 0,.int .i64 0,.int .i64 0,.int .i64 0,.int .i64 0,.bool false] [(0,1),(5,7),(12,8),(20,1)]) [.qj 1,.qz 2,.qz 3,.const (.bool true)]
 (.x 5 (.call 31) [.qq 0,.qz 1,.qz 4] none []
 (.out (qx [0,3,4,6,7] [])))))))
 [0,3,4,6,7]
abbrev Ki:NC:=.reg
 (.Q 1 (.lda 2) [.qq 6]
 (.Q 2 (.lda 7) [.qq 3]
 (.Q 3 (.lda 8) [.qq 7]
 (.Q 4 (.bld [.int .i64 0,.int .i64 0,.int .i64 0,.int .i64 0,.int .i64 0,.bool false,.int .i64 0,.int .i64 0,.int .i64 0,(.string ⟨#[]⟩),(.string ⟨#[]⟩),(.string ⟨#[]⟩),(.string ⟨#[]⟩),.int .i64 0,.int .i64 0,.int .i64 0,.int .i64 0,.int .i64 0,.int .i64 0,.int .i64 0,.int .i64 0,.int .i64 0,.int .i64 0,.int .i64 0,.int .i64 0,.int .i64 0,.int .i64 0,.int .i64 0,.slice none 0 0,.slice none 0 0,.int .i64 0,.int .i64 0] [(0,2),(2,1),(5,1),(6,7),(13,8)]) [.qz 1,.qj 0,.const (.bool true),.qz 2,.qz 3]
 (.x 5 (.box 92) [.qz 4] none []
 (.x 6 (.call 32) [.qq 0,.qz 5] none []
 (.out (qx [4,6] []))))))))
 [0,3,4,6,7]
abbrev Kh:NC:=.reg
 (.Q 0 (.lda 2) [.qq 6]
 (.x 1 (.st 2) [.qq 4,.qz 0] none []
 (.out [(4,.qq 4),(5,.const (.bool true))])))
 [4,6]
abbrev Qx:NC :=
 (.seq Kr
 (.seq Ko
 (.seq (.seq wh
 (.cond (.qq 44)
 (.seq wg
 .ret)
 .skip))
 (.seq ja
 (.seq (.seq Kn
 (.cond (.qq 55)
 (.seq Km
 .ret)
 .skip))
 (.seq Kl
 (.seq Ki
 (.seq Kh
 .ret))))))))
abbrev VV:FN:=⟨Qx,[.cells 4 2,.qq 5]⟩
theorem fH:GoT 10 Tryz.f10 Qx VV:=goT (F:=VV) Tryz.func10 (by kernel_rfl)
abbrev sI:NC:=.reg
 (.x 0 (.box 25) [.qq 1] none []
 (.x 1 (.alc [.int .i64 0,.int .i64 0,.int .i64 0,.int .i64 0,.int .i64 0,.int .i64 0,.int .i64 0,.int .i64 0,(.string ⟨#[]⟩),(.string ⟨#[]⟩),(.string ⟨#[]⟩),(.string ⟨#[]⟩),.int .i64 0,.int .i64 0,.int .i64 0,.int .i64 0,.int .i64 0,.int .i64 0,.int .i64 0,.int .i64 0,.bool false] 41) [] none []
 (.out [(0,.qq 0),(3,.qz 0),(4,.qz 1)])))
 [0,1]
abbrev sH:NC:=.reg
 (.Q 1 .nilck [.qq 0]
 (.Q 2 (.fld 2) [.qz 1]
 (.Q 3 .ld [.qz 2]
 (.Q 4 (.lda 2) [.qq 3]
 (.x 5 (.call 33) [.qz 3,.qz 4] none []
 (.Q 6 (.ext 0) [.qz 5]
 (.Q 7 (.ext 1) [.qz 5]
 (.x 8 (.st 21) [.qq 4,.qz 6] none []
 (.out [(4,.qq 4),(5,.qz 7)])))))))))
 [0,3,4]
abbrev br:NC :=
 (.seq sI
 (.seq sH
 .ret))
abbrev bu:FN:=⟨br,[.cells 4 21,.qq 5]⟩
theorem sL:GoT 13 Tryz.f13 br bu:=goT (F:=bu) Tryz.func13 (by kernel_rfl)
abbrev Kg:NC:=.reg
 (.x 0 (.box 25) [.qq 1] none []
 (.out [(0,.qq 0),(3,.qz 0)]))
 [0,1]
abbrev Kf:NC:=.reg
 (.Q 1 (.lda 2) [.qq 3]
 (.x 2 (.call 34) [.qq 0,.qz 1] none []
 (.Q 3 .not [.qz 2]
 (.q 5 .mv [.qq 0] (some (.qz 3,false))
 (.q 6 .nilck [.qz 5] (some (.qz 3,false))
 (.q 7 (.fld 4) [.qz 6] (some (.qz 3,false))
 (.q 8 .ld [.qz 7] (some (.qz 3,false))
 (.q 9 .len [.qz 8] (some (.qz 3,false))
 (.q 10 (.icm .geq) [.qz 9,.qj 256] (some (.qz 3,false))
 (.q 11 .mv [.qz 10] (some (.qz 3,false))
 (.q 12 .mv [.qq 0] (some (.qz 11,true))
 (.q 13 (.lda 2) [.qq 3] (some (.qz 11,true))
 (.x 14 (.call 35) [.qz 12,.qz 13] (some (.qz 11,true)) []
 (.q 15 (.eqp false) [.qz 14,.const (.pointer none)] (some (.qz 11,true))
 (.q 16 .pick [.qz 11,.qz 15,.const (.bool false)] (some (.qz 3,false))
 (.Q 17 .pick [.qz 3,.const (.bool true),.qz 16]
 (.out (qx [0,3] [(26,.qz 17)]))))))))))))))))))
 [0,3]
abbrev Ke:NC:=.reg
 (.out [(4,.const (.bool false))])
 []
abbrev xV:NC:=.reg
 (.Q 1 .nilck [.qq 0]
 (.Q 2 (.fld 2) [.qz 1]
 (.Q 3 .ld [.qz 2]
 (.Q 4 (.lda 2) [.qq 3]
 (.both
 (.x 5 (.call 33) [.qz 3,.qz 4] none []
 (.Q 7 (.ext 0) [.qz 5]
 (.Q 8 (.ext 1) [.qz 5]
 (.x 9 (.alc [.int .i64 0,.int .i64 0,.int .i64 0,.int .i64 0,.int .i64 0,.int .i64 0,.int .i64 0,.int .i64 0,(.string ⟨#[]⟩),(.string ⟨#[]⟩),(.string ⟨#[]⟩),(.string ⟨#[]⟩),.int .i64 0,.int .i64 0,.int .i64 0,.int .i64 0,.int .i64 0,.int .i64 0,.int .i64 0,.int .i64 0,.bool false] 41) [] none [(3,.ld,[.qz 2],none),(4,.lda 2,[.qq 3],none)]
 (.x 10 (.st 21) [.qz 9,.qz 7] none []
 (.out (qx [0,3] [(5,.qz 9)])))))))
 (.x 9 (.alc [.int .i64 0,.int .i64 0,.int .i64 0,.int .i64 0,.int .i64 0,.int .i64 0,.int .i64 0,.int .i64 0,(.string ⟨#[]⟩),(.string ⟨#[]⟩),(.string ⟨#[]⟩),(.string ⟨#[]⟩),.int .i64 0,.int .i64 0,.int .i64 0,.int .i64 0,.int .i64 0,.int .i64 0,.int .i64 0,.int .i64 0,.bool false] 41) [] none [(3,.ld,[.qz 2],none),(4,.lda 2,[.qq 3],none)]
 (.x 5 (.call 33) [.qz 3,.qz 4] none []
 (.Q 7 (.ext 0) [.qz 5]
 (.Q 8 (.ext 1) [.qz 5]
 (.x 10 (.st 21) [.qz 9,.qz 7] none []
 (.out (qx [0,3] [(5,.qz 9)]))))))))))))
 [0,3]
abbrev we:NC:=.reg
 (.Q 0 (.fld 1) [.qq 5]
 (.Q 1 (.lda 2) [.qz 0]
 (.x 2 (.alc [.int .i64 0,.int .i64 0] 35) [] none []
 (.x 3 (.st 2) [.qz 2,.qz 1] none []
 (.out (qx [0,3,5] [(7,.qz 2)]))))))
 [0,3,5]
abbrev wY:NC:=.reg
 (.Q 1 (.lda 2) [.qq 3]
 (.x 2 (.call 36) [.qq 0,.qz 1] none []
 (.out (qx [0,3,5,7] [(8,.qz 2)]))))
 [0,3,5,7]
abbrev wW:NC:=.reg
 (.Q 1 (.eqp true) [.qq 8,.const (.pointer none)]
 (.q 3 (.lda 2) [.qq 7] (some (.qz 1,true))
 (.q 4 .mv [.qq 8] (some (.qz 1,true))
 (.q 5 .nilck [.qz 4] (some (.qz 1,true))
 (.q 6 (.fld 3) [.qz 5] (some (.qz 1,true))
 (.q 7 (.lda 2) [.qz 6] (some (.qz 1,true))
 (.x 8 (.call 37) [.qz 3,.qz 7] (some (.qz 1,true)) []
 (.Q 9 .pick [.qz 1,.qz 8,.const (.bool false)]
 (.out (qx [0,3,5,7,8] [(50,.qz 9)]))))))))))
 [0,3,5,7,8]
abbrev wV:NC:=.reg
 (.Q 1 .nilck [.qq 8]
 (.Q 2 (.fld 3) [.qz 1]
 (.Q 3 (.lda 2) [.qz 2]
 (.x 4 (.st 2) [.qq 7,.qz 3] none []
 (.out (qx [0,3,5,7] []))))))
 [0,3,5,7,8]
abbrev Kd:NC:=.reg
 (.Q 0 (.lda 2) [.qq 7]
 (.Q 2 .nilck [.qq 0]
 (.Q 3 (.fld 1) [.qz 2]
 (.Q 4 .ld [.qz 3]
 (.x 5 (.call 38) [.qz 0,.qz 4] none []
 (.Q 6 (.fld 1) [.qq 5]
 (.x 7 (.st 2) [.qz 6,.qz 5] none []
 (.out (qx [0,3,5] [])))))))))
 [0,3,5,7]
abbrev Kc:NC:=.reg
 (.Q 0 (.fld 1) [.qq 5]
 (.Q 1 (.lda 2) [.qz 0]
 (.x 2 (.call 39) [.qz 1] none []
 (.Q 3 .not [.qz 2]
 (.q 5 .mv [.qq 0] (some (.qz 3,false))
 (.q 6 (.lda 2) [.qq 3] (some (.qz 3,false))
 (.q 7 (.lda 21) [.qq 5] (some (.qz 3,false))
 (.x 8 (.call 31) [.qz 5,.qz 6,.qz 7] (some (.qz 3,false)) []
 (.q 9 .not [.qz 8] (some (.qz 3,false))
 (.Q 10 .pick [.qz 3,.const (.bool true),.qz 9]
 (.out (qx [0,3,5] [(72,.qz 10)]))))))))))))
 [0,3,5]
abbrev XV:NC:=.reg
 (.out [(4,.const (.bool false))])
 []
abbrev XK:NC:=.reg
 (.Q 1 (.lda 2) [.qq 3]
 (.Q 2 (.fld 1) [.qq 5]
 (.Q 3 (.lda 2) [.qz 2]
 (.Q 5 .nilck [.qq 0]
 (.Q 6 (.fld 1) [.qz 5]
 (.Q 7 .ld [.qz 6]
 (.Q 8 (.lda 21) [.qq 5]
 (.Q 9 (.bld [.int .i64 0,.int .i64 0,.int .i64 0,.int .i64 0,.int .i64 0,.int .i64 0,.int .i64 0,.int .i64 0,.int .i64 0,(.string ⟨#[]⟩),(.string ⟨#[]⟩),(.string ⟨#[]⟩),(.string ⟨#[]⟩),.int .i64 0,.int .i64 0,.int .i64 0,.int .i64 0,.int .i64 0,.int .i64 0,.int .i64 0,.int .i64 0,.bool false] [(0,1),(1,21)]) [.qz 7,.qz 8]
 (.x 10 (.bsl 102 1 [.int .i64 0,.int .i64 0,.int .i64 0,.int .i64 0,.int .i64 0,.int .i64 0,.int .i64 0,.int .i64 0,.int .i64 0,(.string ⟨#[]⟩),(.string ⟨#[]⟩),(.string ⟨#[]⟩),(.string ⟨#[]⟩),.int .i64 0,.int .i64 0,.int .i64 0,.int .i64 0,.int .i64 0,.int .i64 0,.int .i64 0,.int .i64 0,.bool false] [(0,22)]) [.qz 9] none [(1,.lda 2,[.qq 3],none),(3,.lda 2,[.qz 2],none)]
 (.Q 11 (.bld [.int .i64 0,.int .i64 0,.int .i64 0,.int .i64 0,.int .i64 0,.bool false,.int .i64 0,.int .i64 0,.int .i64 0,(.string ⟨#[]⟩),(.string ⟨#[]⟩),(.string ⟨#[]⟩),(.string ⟨#[]⟩),.int .i64 0,.int .i64 0,.int .i64 0,.int .i64 0,.int .i64 0,.int .i64 0,.int .i64 0,.int .i64 0,.int .i64 0,.int .i64 0,.int .i64 0,.int .i64 0,.int .i64 0,.int .i64 0,.int .i64 0,.slice none 0 0,.slice none 0 0,.int .i64 0,.int .i64 0] [(0,2),(2,1),(3,2),(29,1)]) [.qz 1,.qj 2,.qz 3,.qz 10]
 (.x 12 (.box 92) [.qz 11] none []
 (.x 13 (.call 32) [.qq 0,.qz 12] none []
 (.out [])))))))))))))
 [0,3,5]
abbrev XX:NC:=.reg
 (.out [(4,.const (.bool true))])
 []
abbrev Qj:NC :=
 (.seq Kg
 (.seq (.seq Kf
 (.cond (.qq 26)
 (.seq Ke
 .ret)
 .skip))
 (.seq xV
 (.seq we
 (.seq (.seq wY
 (.seq wW
 (.cond (.qq 50)
 wV
 .skip)))
 (.seq Kd
 (.seq (.seq Kc
 (.cond (.qq 72)
 (.seq XV
 .ret)
 .skip))
 (.seq XK
 (.seq XX
 .ret)))))))))
abbrev VK:FN:=⟨Qj,[.qq 4]⟩
theorem fG:GoT 14 Tryz.f14 Qj VK:=goT (F:=VK) Tryz.func14 (by kernel_rfl)
abbrev om:NC:=.reg
 (.out [(0,.qq 0)])
 [0]
abbrev oh:NC:=.reg
 (.Q 1 .nilck [.qq 0]
 (.Q 2 (.fld 6) [.qz 1]
 (.Q 3 .ld [.qz 2]
 (.Q 5 .nilck [.qq 0]
 (.Q 6 (.fld 7) [.qz 5]
 (.Q 7 .ld [.qz 6]
 (.out [(0,.qq 0),(4,.qz 3),(5,.qz 7)])))))))
 [0]
abbrev og:NC:=.reg
 (.Q 2 .nilck [.qq 0]
 (.Q 3 (.fld 6) [.qz 2]
 (.x 4 (.st 1) [.qz 3,.const (.slice none 0 0)] none []
 (.Q 5 .nilck [.qq 0]
 (.Q 6 (.fld 7) [.qz 5]
 (.x 7 (.st 1) [.qz 6,.const (.slice none 0 0)] none []
 (.out (qx [4,5] []))))))))
 [0,4,5]
abbrev oe:NC:=.reg
 (.out [(2,.qq 4),(3,.qq 5)])
 [4,5]
abbrev aV:NC :=
 (.seq om
 (.seq oh
 (.seq og
 (.seq oe
 .ret))))
abbrev aW:FN:=⟨aV,[.qq 2,.qq 3]⟩
theorem oo:GoT 15 Tryz.f15 aV aW:=goT (F:=aW) Tryz.func15 (by kernel_rfl)
abbrev aK:NC:=.reg
 (.x 0 (.box 45) [.qq 1] none []
 (.out [(0,.qq 0),(3,.qz 0)]))
 [0,1]
abbrev aX:NC:=.reg
 (.Q 0 (.lda 51) [.qq 3]
 (.x 1 (.call 42) [.qz 0] none []
 (.Q 2 .not [.qz 1]
 (.q 4 (.fld 2) [.qq 3] (some (.qz 2,false))
 (.q 5 .ld [.qz 4] (some (.qz 2,false))
 (.q 6 .mv [.qq 0] (some (.qz 2,false))
 (.q 7 .nilck [.qz 6] (some (.qz 2,false))
 (.q 8 (.fld 1) [.qz 7] (some (.qz 2,false))
 (.q 9 .ld [.qz 8] (some (.qz 2,false))
 (.q 10 (.icm .neq) [.qz 5,.qz 9] (some (.qz 2,false))
 (.Q 11 .pick [.qz 2,.const (.bool true),.qz 10]
 (.q 13 .mv [.qq 0] (some (.qz 11,false))
 (.q 14 (.fld 1) [.qq 3] (some (.qz 11,false))
 (.q 15 .ld [.qz 14] (some (.qz 11,false))
 (.x 16 (.call 43) [.qz 13,.qz 15] (some (.qz 11,false)) []
 (.q 17 .not [.qz 16] (some (.qz 11,false))
 (.Q 18 .pick [.qz 11,.const (.bool true),.qz 17]
 (.q 20 (.fld 0) [.qq 3] (some (.qz 18,false))
 (.q 21 .ld [.qz 20] (some (.qz 18,false))
 (.q 22 (.icm .geq) [.qz 21,.qj 9] (some (.qz 18,false))
 (.Q 23 .pick [.qz 18,.const (.bool true),.qz 22]
 (.q 25 .mv [.qq 0] (some (.qz 23,false))
 (.q 26 (.fld 3) [.qq 3] (some (.qz 23,false))
 (.q 27 (.fld 0) [.qz 26] (some (.qz 23,false))
 (.q 28 .ld [.qz 27] (some (.qz 23,false))
 (.x 29 (.call 43) [.qz 25,.qz 28] (some (.qz 23,false)) []
 (.q 30 .not [.qz 29] (some (.qz 23,false))
 (.Q 31 .pick [.qz 23,.const (.bool true),.qz 30]
 (.out (qx [0,3] [(37,.qz 31)]))))))))))))))))))))))))))))))
 [0,3]
abbrev aJ:NC:=.reg
 (.out [(4,.const (.bool false))])
 []
abbrev JH:NC:=.reg
 (.Q 0 (.fld 0) [.qq 3]
 (.Q 1 .ld [.qz 0]
 (.Q 2 (.icm .eql) [.qz 1,.qj 1]
 (.q 4 (.fld 0) [.qq 3] (some (.qz 2,false))
 (.q 5 .ld [.qz 4] (some (.qz 2,false))
 (.q 6 (.icm .eql) [.qz 5,.qj 3] (some (.qz 2,false))
 (.Q 7 .pick [.qz 2,.const (.bool true),.qz 6]
 (.q 9 (.fld 0) [.qq 3] (some (.qz 7,false))
 (.q 10 .ld [.qz 9] (some (.qz 7,false))
 (.q 11 (.icm .eql) [.qz 10,.qj 6] (some (.qz 7,false))
 (.Q 12 .pick [.qz 7,.const (.bool true),.qz 11]
 (.out (qx [0,3] [(5,.qz 12)])))))))))))))
 [0,3]
abbrev xK:NC:=.reg
 (.Q 1 .nilck [.qq 0]
 (.Q 2 (.fld 2) [.qz 1]
 (.Q 3 .ld [.qz 2]
 (.Q 4 (.fld 3) [.qq 3]
 (.Q 5 (.lda 2) [.qz 4]
 (.x 6 (.call 44) [.qz 3,.qz 5] none []
 (.out (qx [0,3,5] [(57,.qz 6)]))))))))
 [0,3,5]
abbrev xX:NC:=.reg
 (.out [(4,.qq 5)])
 [5]
abbrev aZ:NC:=.reg
 (.out (qx [0,3] [(62,.qq 5)]))
 [0,3,5]
abbrev aQ:NC:=.reg
 (.Q 1 (.lda 51) [.qq 3]
 (.x 2 (.call 45) [.qq 0,.qz 1] none []
 (.out [])))
 [0,3]
abbrev ay:NC:=.reg
 (.Q 0 (.fld 0) [.qq 3]
 (.Q 1 .ld [.qz 0]
 (.Q 2 (.icm .eql) [.qz 1,.qj 5]
 (.out (qx [0,3] [(67,.qz 2)])))))
 [0,3]
abbrev aw:NC:=.reg
 (.Q 1 (.lda 51) [.qq 3]
 (.x 2 (.call 46) [.qq 0,.qz 1] none []
 (.out [])))
 [0,3]
abbrev WU:NC:=.reg
 (.Q 0 (.fld 0) [.qq 3]
 (.Q 1 .ld [.qz 0]
 (.Q 2 (.icm .eql) [.qz 1,.qj 8]
 (.out (qx [0,3] [(74,.qz 2)])))))
 [0,3]
abbrev WT:NC:=.reg
 (.Q 1 (.lda 51) [.qq 3]
 (.x 2 (.call 47) [.qq 0,.qz 1] none []
 (.out [])))
 [0,3]
abbrev WS:NC:=.reg
 (.Q 1 (.lda 51) [.qq 3]
 (.x 2 (.call 48) [.qq 0,.qz 1] none []
 (.out [])))
 [0,3]
abbrev WR:NC:=.reg
 (.out [(4,.const (.bool false))])
 []
abbrev XA:NC :=
 (.seq aK
 (.seq (.seq aX
 (.cond (.qq 37)
 (.seq aJ
 .ret)
 .skip))
 (.seq JH
 (.seq (.seq xK
 (.cond (.qq 57)
 (.seq xX
 .ret)
 .skip))
 (.seq (.block 0 (.seq aZ
 (.cond (.qq 62)
 aQ
 (.seq ay
 (.cond (.qq 67)
 aw
 (.seq WU
 (.cond (.qq 74)
 WT
 WS)))))))
 (.seq WR
 .ret))))))
abbrev bp:FN:=⟨XA,[.qq 4]⟩
theorem sG:GoT 20 Tryz.f20 XA bp:=goT (F:=bp) Tryz.func20 (by kernel_rfl)
abbrev sN:NC:=.reg
 (.out [(0,.qq 0)])
 [0]
abbrev sM:NC:=.reg
 (.Q 1 .nilck [.qq 0]
 (.Q 2 (.fld 4) [.qz 1]
 (.Q 3 .ld [.qz 2]
 (.Q 4 .len [.qz 3]
 (.Q 6 .nilck [.qq 0]
 (.Q 7 (.fld 5) [.qz 6]
 (.Q 8 .ld [.qz 7]
 (.Q 9 .len [.qz 8]
 (.out [(2,.qz 4),(3,.qz 9)])))))))))
 [0]
abbrev bA:NC :=
 (.seq sN
 (.seq sM
 .ret))
abbrev bB:FN:=⟨bA,[.qq 2,.qq 3]⟩
theorem sO:GoT 21 Tryz.f21 bA bB:=goT (F:=bB) Tryz.func21 (by kernel_rfl)
abbrev SJ:NC:=.reg
 (.x 0 (.box 37) [.qq 2] none []
 (.out (qx [0,1,3] [(6,.qz 0)])))
 [0,1,2,3]
abbrev SZ:NC:=.reg
 (.x 1 (.call 50) [.qq 0] none []
 (.Q 2 .not [.qz 1]
 (.q 4 .mv [.qq 1] (some (.qz 2,false))
 (.q 5 (.icm .lss) [.qz 4,.qj 0] (some (.qz 2,false))
 (.Q 6 .pick [.qz 2,.const (.bool true),.qz 5]
 (.q 8 .mv [.qq 1] (some (.qz 6,false))
 (.q 9 .mv [.qq 0] (some (.qz 6,false))
 (.q 10 (.icm .geq) [.qz 8,.qz 9] (some (.qz 6,false))
 (.Q 11 .pick [.qz 6,.const (.bool true),.qz 10]
 (.q 13 (.lda 7) [.qq 6] (some (.qz 11,false))
 (.q 14 (.bld zL0 [(1,7)]) [.qz 13] (some (.qz 11,false))
 (.x 15 (.call 30) [.qz 14] (some (.qz 11,false)) []
 (.q 16 .not [.qz 15] (some (.qz 11,false))
 (.Q 17 .pick [.qz 11,.const (.bool true),.qz 16]
 (.out (qx [0,1,3,6] [(33,.qz 17)]))))))))))))))))
 [0,1,3,6]
abbrev SQ:NC:=.reg
 (.out [(8,.const (.pointer none)),(9,.qj 1)])
 []
abbrev Sy:NC:=.reg
 (.Q 2 (.lda 7) [.qq 6]
 (.x 3 (.call 51) [.qz 2] none []
 (.x 4 (.call 52) [] none []
 (.Q 5 (.bld [.int .i64 0,.int .i64 0,.pointer none,.pointer none,.slice none 0 0,.slice none 0 0,.slice none 0 0,.slice none 0 0] [(0,1),(1,1),(2,1),(3,1)]) [.qq 0,.qq 1,.qz 3,.qz 4]
 (.x 6 (.box 83) [.qz 5] none []
 (.out (qx [3,6] [(10,.qz 6)])))))))
 [0,1,3,6]
abbrev Sw:NC:=.reg
 (.Q 1 .nilck [.qq 10]
 (.Q 2 (.fld 3) [.qz 1]
 (.Q 3 .ld [.qz 2]
 (.Q 4 (.lda 7) [.qq 6]
 (.x 5 (.call 53) [.qz 3,.qz 4] none []
 (.out (qx [3,10] [])))))))
 [3,6,10]
abbrev Sv:NC:=.reg
 (.Q 1 .len [.qq 3]
 (.out [(10,.qq 10),(47,.qq 3),(48,.qz 1),(49,.qj 0)]))
 [3,10]
abbrev Sk:NC:=.reg
 (.Q 0 (.icm .lss) [.qq 49,.qq 48]
 (.out (qx [10,47,48,49] [(50,.qz 0)])))
 [10,47,48,49]
abbrev Sx:NC:=.reg
 (.Q 0 (.ixs 1) [.qq 47,.qq 49]
 (.Q 1 .ld [.qz 0]
 (.out [(10,.qq 10),(12,.qz 1),(47,.qq 47),(48,.qq 48),(49,.qq 49)])))
 [10,47,48,49]
abbrev Sj:NC:=.reg
 (.x 1 (.call 54) [.qq 12] none []
 (.Q 3 (.ext 0) [.qz 1]
 (.Q 4 (.ext 1) [.qz 1]
 (.Q 5 (.ext 2) [.qz 1]
 (.x 6 (.alc [.int .i64 0,.int .i64 0] 25) [] none []
 (.x 7 (.alc [.int .i64 0,.int .i64 0,.int .i64 0,.int .i64 0,.int .i64 0,.int .i64 0,.int .i64 0,.int .i64 0,(.string ⟨#[]⟩),(.string ⟨#[]⟩),(.string ⟨#[]⟩),(.string ⟨#[]⟩),.int .i64 0,.int .i64 0,.int .i64 0,.int .i64 0,.int .i64 0,.int .i64 0,.int .i64 0,.int .i64 0,.bool false] 41) [] none []
 (.x 8 (.st 2) [.qz 6,.qz 3] none []
 (.x 9 (.st 21) [.qz 7,.qz 4] none []
 (.out [(10,.qq 10),(13,.qz 6),(14,.qz 7),(15,.qz 5),(47,.qq 47),(48,.qq 48),(49,.qq 49)])))))))))
 [10,12,47,48,49]
abbrev Sq:NC:=.reg
 (.Q 1 (.icm .eql) [.qq 15,.qj 0]
 (.q 3 .mv [.qq 10] (some (.qz 1,true))
 (.q 4 .nilck [.qz 3] (some (.qz 1,true))
 (.q 5 (.fld 2) [.qz 4] (some (.qz 1,true))
 (.q 6 .ld [.qz 5] (some (.qz 1,true))
 (.q 7 (.lda 2) [.qq 13] (some (.qz 1,true))
 (.q 8 (.lda 21) [.qq 14] (some (.qz 1,true))
 (.x 9 (.call 55) [.qz 6,.qz 7,.qz 8] (some (.qz 1,true)) []
 (.Q 10 .pick [.qz 1,.qz 9,.const (.bool false)]
 (.out (qx [10,13,14,47,48,49] [(69,.qz 10)])))))))))))
 [10,13,14,15,47,48,49]
abbrev NR:NC:=.reg
 (.Q 1 (.lda 2) [.qq 13]
 (.Q 2 (.lda 21) [.qq 14]
 (.x 3 (.call 56) [.qq 10,.qz 1,.qz 2] none []
 (.out (qx [10,47,48,49] [])))))
 [10,13,14,47,48,49]
abbrev NP:NC:=.reg
 (.Q 0 (.iar .add) [.qq 49,.qj 1]
 (.out (qx [10,47,48] [(49,.qz 0)])))
 [10,47,48,49]
abbrev SX:NC :=
 (.seq Sk
 (.seq (.cond (.qq 50)
 .skip
 (.exit 0))
 (.seq (.block 1 (.seq Sx
 (.seq Sj
 (.seq Sq
 (.cond (.qq 69)
 NR
 .skip)))))
 NP)))
abbrev NO:NC:=.reg
 (.out [(8,.qq 10),(9,.qj 0)])
 [10]
abbrev Gw:NC :=
 (.seq SJ
 (.seq (.seq SZ
 (.cond (.qq 33)
 (.seq SQ
 .ret)
 .skip))
 (.seq Sy
 (.seq Sw
 (.seq (.seq Sv
 (.block 0 (.loop [10,47,48,49] SX)))
 (.seq NO
 .ret))))))
abbrev Gy:FN:=⟨Gw,[.qq 8,.qq 9]⟩
theorem AO:GoT 24 Tryz.f24 Gw Gy:=goT (F:=Gy) Tryz.func24 (by kernel_rfl)
abbrev Az:NC:=.reg
 (.x 0 (.alc zL2 37) [] none []
 (.out [(0,.qq 0),(2,.qz 0)]))
 [0]
abbrev Aq:NC:=.reg
 (.Q 1 .nilck [.qq 0]
 (.Q 2 (.fld 2) [.qz 1]
 (.Q 3 .ld [.qz 2]
 (.x 4 (.call 28) [.qz 3] none []
 (.x 5 (.st 7) [.qq 2,.qz 4] none []
 (.out [(2,.qq 2)]))))))
 [0,2]
abbrev dz:NC :=
 (.seq Az
 (.seq Aq
 .ret))
abbrev dx:FN:=⟨dz,[.cells 2 7]⟩
theorem Aj:GoT 25 Tryz.f25 dz dx:=goT (F:=dx) Tryz.func25 (by kernel_rfl)
abbrev JG:NC:=.reg
 (.Q 1 .nilck [.qq 0]
 (.Q 2 (.fld 4) [.qz 1]
 (.Q 3 .ld [.qz 2]
 (.x 4 (.call 57) [.qz 3] none []
 (.Q 5 .len [.qz 4]
 (.out [(0,.qq 0),(15,.qz 4),(16,.qz 5),(17,.qj 0)]))))))
 [0]
abbrev av:NC:=.reg
 (.Q 0 (.icm .lss) [.qq 17,.qq 16]
 (.out (qx [0,15,16,17] [(18,.qz 0)])))
 [0,15,16,17]
abbrev ak:NC:=.reg
 (.Q 0 (.ixs 1) [.qq 15,.qq 17]
 (.Q 1 .ld [.qz 0]
 (.out [(0,.qq 0),(3,.qz 1),(15,.qq 15),(16,.qq 16),(17,.qq 17)])))
 [0,15,16,17]
abbrev ax:NC:=.reg
 (.Q 1 .nilck [.qq 3]
 (.Q 2 (.fld 31) [.qz 1]
 (.Q 3 .ld [.qz 2]
 (.Q 4 (.iar .add) [.qz 3,.qj 1]
 (.Q 5 .nilck [.qq 3]
 (.Q 6 (.fld 31) [.qz 5]
 (.x 7 (.st 1) [.qz 6,.qz 4] none []
 (.out (qx [0,3,15,16,17] [])))))))))
 [0,3,15,16,17]
abbrev aj:NC:=.reg
 (.Q 1 .nilck [.qq 3]
 (.Q 2 (.fld 31) [.qz 1]
 (.Q 3 .ld [.qz 2]
 (.Q 4 (.idv .rem) [.qz 3,.qj 4]
 (.Q 5 (.icm .neq) [.qz 4,.qj 0]
 (.q 7 .mv [.qq 3] (some (.qz 5,false))
 (.q 8 .nilck [.qz 7] (some (.qz 5,false))
 (.q 9 (.fld 2) [.qz 8] (some (.qz 5,false))
 (.q 10 .ld [.qz 9] (some (.qz 5,false))
 (.q 11 (.icm .eql) [.qz 10,.qj 0] (some (.qz 5,false))
 (.q 12 .mv [.qz 11] (some (.qz 5,false))
 (.q 13 .mv [.qq 0] (some (.qz 12,true))
 (.q 14 .mv [.qq 3] (some (.qz 12,true))
 (.x 15 (.call 58) [.qz 13,.qz 14,.const (.bool true)] (some (.qz 12,true)) []
 (.q 16 .pick [.qz 12,.qz 15,.const (.bool false)] (some (.qz 5,false))
 (.Q 17 .pick [.qz 5,.const (.bool true),.qz 16]
 (.out (qx [0,3,15,16,17] [(45,.qz 17)]))))))))))))))))))
 [0,3,15,16,17]
abbrev az:NC:=.reg
 (.Q 4 .nilck [.qq 3]
 (.Q 5 (.fld 21) [.qz 4]
 (.Q 6 (.lda 7) [.qz 5]
 (.x 2 (.call 60) [.qq 3] none [(6,.lda 7,[.qz 5],none)]
 (.x 7 (.call 59) [.qq 0,.qz 2,.qz 6] none []
 (.out (qx [0,15,16,17] [])))))))
 [0,3,15,16,17]
abbrev aq:NC:=.reg
 (.Q 0 (.iar .add) [.qq 17,.qj 1]
 (.out (qx [0,15,16] [(17,.qz 0)])))
 [0,15,16,17]
abbrev vj:NC :=
 (.seq av
 (.seq (.cond (.qq 18)
 .skip
 (.exit 0))
 (.seq (.block 1 (.seq ak
 (.seq ax
 (.seq (.seq aj
 (.cond (.qq 45)
 (.exit 1)
 .skip))
 az))))
 aq)))
abbrev JF:NC:=.reg
 (.Q 1 .nilck [.qq 0]
 (.Q 2 (.fld 2) [.qz 1]
 (.Q 3 .ld [.qz 2]
 (.x 4 (.call 61) [.qz 3] none []
 (.Q 5 .len [.qz 4]
 (.out [(0,.qq 0),(59,.qz 4),(60,.qz 5),(61,.qj 0)]))))))
 [0]
abbrev YU:NC:=.reg
 (.Q 0 (.icm .lss) [.qq 61,.qq 60]
 (.out (qx [0,59,60,61] [(62,.qz 0)])))
 [0,59,60,61]
abbrev JE:NC:=.reg
 (.Q 0 (.ixs 2) [.qq 59,.qq 61]
 (.Q 1 (.lda 2) [.qz 0]
 (.x 2 (.alc [.int .i64 0,.int .i64 0] 25) [] none []
 (.x 3 (.st 2) [.qz 2,.qz 1] none []
 (.out [(0,.qq 0),(5,.qz 2),(59,.qq 59),(60,.qq 60),(61,.qq 61)])))))
 [0,59,60,61]
abbrev ZD:NC:=.reg
 (.Q 1 .nilck [.qq 0]
 (.Q 2 (.fld 2) [.qz 1]
 (.Q 3 .ld [.qz 2]
 (.Q 4 (.lda 2) [.qq 5]
 (.both
 (.x 5 (.call 33) [.qz 3,.qz 4] none []
 (.Q 7 (.ext 0) [.qz 5]
 (.Q 8 (.ext 1) [.qz 5]
 (.x 9 (.alc [.int .i64 0,.int .i64 0,.int .i64 0,.int .i64 0,.int .i64 0,.int .i64 0,.int .i64 0,.int .i64 0,(.string ⟨#[]⟩),(.string ⟨#[]⟩),(.string ⟨#[]⟩),(.string ⟨#[]⟩),.int .i64 0,.int .i64 0,.int .i64 0,.int .i64 0,.int .i64 0,.int .i64 0,.int .i64 0,.int .i64 0,.bool false] 41) [] none [(3,.ld,[.qz 2],none),(4,.lda 2,[.qq 5],none)]
 (.x 10 (.st 21) [.qz 9,.qz 7] none []
 (.out (qx [0,5] [(6,.qz 9),(59,.qq 59),(60,.qq 60),(61,.qq 61)])))))))
 (.x 9 (.alc [.int .i64 0,.int .i64 0,.int .i64 0,.int .i64 0,.int .i64 0,.int .i64 0,.int .i64 0,.int .i64 0,(.string ⟨#[]⟩),(.string ⟨#[]⟩),(.string ⟨#[]⟩),(.string ⟨#[]⟩),.int .i64 0,.int .i64 0,.int .i64 0,.int .i64 0,.int .i64 0,.int .i64 0,.int .i64 0,.int .i64 0,.bool false] 41) [] none [(3,.ld,[.qz 2],none),(4,.lda 2,[.qq 5],none)]
 (.x 5 (.call 33) [.qz 3,.qz 4] none []
 (.Q 7 (.ext 0) [.qz 5]
 (.Q 8 (.ext 1) [.qz 5]
 (.x 10 (.st 21) [.qz 9,.qz 7] none []
 (.out (qx [0,5] [(6,.qz 9),(59,.qq 59),(60,.qq 60),(61,.qq 61)]))))))))))))
 [0,5,59,60,61]
abbrev ZC:NC:=.reg
 (.Q 0 (.fld 0) [.qq 6]
 (.Q 1 .ld [.qz 0]
 (.Q 2 (.icm .neq) [.qz 1,.qj 3]
 (.q 4 .mv [.qq 0] (some (.qz 2,true))
 (.q 5 (.lda 2) [.qq 5] (some (.qz 2,true))
 (.x 6 (.call 35) [.qz 4,.qz 5] (some (.qz 2,true)) []
 (.q 7 (.eqp false) [.qz 6,.const (.pointer none)] (some (.qz 2,true))
 (.Q 8 .pick [.qz 2,.qz 7,.const (.bool false)]
 (.out (qx [0,5,59,60,61] [(82,.qz 8)]))))))))))
 [0,5,6,59,60,61]
abbrev ZB:NC:=.reg
 (.Q 1 (.lda 2) [.qq 5]
 (.x 2 (.call 62) [.qq 0,.qz 1] none []
 (.out (qx [0,59,60,61] []))))
 [0,5,59,60,61]
abbrev WO:NC:=.reg
 (.Q 0 (.iar .add) [.qq 61,.qj 1]
 (.out (qx [0,59,60] [(61,.qz 0)])))
 [0,59,60,61]
abbrev vz:NC :=
 (.seq YU
 (.seq (.cond (.qq 62)
 .skip
 (.exit 2))
 (.seq (.block 3 (.seq JE
 (.seq ZD
 (.seq ZC
 (.cond (.qq 82)
 ZB
 .skip)))))
 WO)))
abbrev ZA:NC:=.reg
 (.Q 1 .nilck [.qq 0]
 (.Q 2 (.fld 5) [.qz 1]
 (.Q 3 .ld [.qz 2]
 (.x 4 (.call 63) [.qz 3] none []
 (.Q 5 .len [.qz 4]
 (.out [(0,.qq 0),(91,.qz 4),(92,.qz 5),(93,.qj 0)]))))))
 [0]
abbrev WN:NC:=.reg
 (.Q 0 (.icm .lss) [.qq 93,.qq 92]
 (.out (qx [0,91,92,93] [(94,.qz 0)])))
 [0,91,92,93]
abbrev Zu:NC:=.reg
 (.Q 0 (.ixs 1) [.qq 91,.qq 93]
 (.Q 1 .ld [.qz 0]
 (.x 2 (.alc [.pointer none] 94) [] none []
 (.x 3 (.st 1) [.qz 2,.qz 1] none []
 (.out [(0,.qq 0),(9,.qz 2),(91,.qq 91),(92,.qq 92),(93,.qq 93)])))))
 [0,91,92,93]
abbrev Zt:NC:=.reg
 (.Q 1 .ld [.qq 9]
 (.Q 2 .nilck [.qz 1]
 (.Q 3 (.fld 0) [.qz 2]
 (.Q 4 (.lda 2) [.qz 3]
 (.x 5 (.call 34) [.qq 0,.qz 4] none []
 (.Q 6 .not [.qz 5]
 (.out (qx [0,9,91,92,93] [(103,.qz 6)]))))))))
 [0,9,91,92,93]
abbrev jM:NC:=.reg
 (.Q 2 .nilck [.qq 0]
 (.Q 3 (.fld 5) [.qz 2]
 (.Q 4 .ld [.qz 3]
 (.Q 5 (.mkf (.func 65) 0) [.qq 9]
 (.x 6 (.call 64) [.qz 4,.qz 5] none []
 (.Q 7 .nilck [.qq 0]
 (.Q 8 (.fld 5) [.qz 7]
 (.x 9 (.st 1) [.qz 8,.qz 6] none []
 (.out (qx [0,91,92,93] []))))))))))
 [0,9,91,92,93]
abbrev Zs:NC:=.reg
 (.Q 1 .ld [.qq 9]
 (.Q 2 .nilck [.qz 1]
 (.Q 3 (.fld 0) [.qz 2]
 (.Q 4 (.lda 2) [.qz 3]
 (.x 5 (.call 35) [.qq 0,.qz 4] none []
 (.Q 6 (.eqp true) [.qz 5,.const (.pointer none)]
 (.out (qx [0,9,91,92,93] [(119,.qz 6)]))))))))
 [0,9,91,92,93]
abbrev Zr:NC:=.reg
 (.Q 0 .ld [.qq 9]
 (.Q 1 .nilck [.qz 0]
 (.Q 2 (.fld 2) [.qz 1]
 (.Q 3 .ld [.qz 2]
 (.Q 4 (.iar .add) [.qz 3,.qj 1]
 (.Q 5 .nilck [.qz 0]
 (.Q 6 (.fld 2) [.qz 5]
 (.x 7 (.st 1) [.qz 6,.qz 4] none []
 (.out (qx [0,9,91,92,93] []))))))))))
 [0,9,91,92,93]
abbrev Zp:NC:=.reg
 (.Q 1 .nilck [.qq 0]
 (.Q 2 (.fld 1) [.qz 1]
 (.Q 3 .ld [.qz 2]
 (.Q 4 .ld [.qq 9]
 (.Q 5 .nilck [.qz 4]
 (.Q 6 (.fld 0) [.qz 5]
 (.Q 7 (.fld 0) [.qz 6]
 (.Q 8 .ld [.qz 7]
 (.Q 9 (.iar .sub) [.qz 3,.qz 8]
 (.Q 11 .nilck [.qq 0]
 (.Q 12 (.fld 0) [.qz 11]
 (.Q 13 .ld [.qz 12]
 (.Q 14 (.iar .add) [.qz 9,.qz 13]
 (.Q 16 .nilck [.qq 0]
 (.Q 17 (.fld 0) [.qz 16]
 (.Q 18 .ld [.qz 17]
 (.Q 19 (.idv .rem) [.qz 14,.qz 18]
 (.out (qx [0,9] [(10,.qz 19),(91,.qq 91),(92,.qq 92),(93,.qq 93)])))))))))))))))))))
 [0,9,91,92,93]
abbrev Zo:NC:=.reg
 (.Q 0 .ld [.qq 9]
 (.Q 1 .nilck [.qz 0]
 (.Q 2 (.fld 2) [.qz 1]
 (.Q 3 .ld [.qz 2]
 (.Q 5 (.iar .mul) [.qj 6,.qq 10]
 (.Q 6 (.iar .add) [.qj 12,.qz 5]
 (.Q 7 (.icm .geq) [.qz 3,.qz 6]
 (.q 9 .mv [.qq 0] (some (.qz 7,true))
 (.q 10 .ld [.qq 9] (some (.qz 7,true))
 (.q 11 .nilck [.qz 10] (some (.qz 7,true))
 (.q 12 (.fld 0) [.qz 11] (some (.qz 7,true))
 (.q 13 (.lda 2) [.qz 12] (some (.qz 7,true))
 (.x 14 (.call 14) [.qz 9,.qz 13] (some (.qz 7,true)) []
 (.Q 15 .pick [.qz 7,.qz 14,.const (.bool false)]
 (.out (qx [0,9,91,92,93] [(162,.qz 15)]))))))))))))))))
 [0,9,10,91,92,93]
abbrev Zn:NC:=.reg
 (.Q 0 .ld [.qq 9]
 (.Q 1 .nilck [.qz 0]
 (.Q 2 (.fld 2) [.qz 1]
 (.x 3 (.st 1) [.qz 2,.qj 0] none []
 (.out (qx [0,91,92,93] []))))))
 [0,9,91,92,93]
abbrev WM:NC:=.reg
 (.Q 0 (.iar .add) [.qq 93,.qj 1]
 (.out (qx [0,91,92] [(93,.qz 0)])))
 [0,91,92,93]
abbrev vq:NC :=
 (.seq WN
 (.seq (.cond (.qq 94)
 .skip
 (.exit 4))
 (.seq (.block 5 (.seq Zu
 (.seq (.seq Zt
 (.cond (.qq 103)
 (.seq jM
 (.exit 5))
 .skip))
 (.seq (.seq Zs
 (.cond (.qq 119)
 (.exit 5)
 .skip))
 (.seq Zr
 (.seq Zp
 (.seq Zo
 (.cond (.qq 162)
 Zn
 .skip))))))))
 WM)))
abbrev Xu:NC :=
 (.seq (.seq JG
 (.block 0 (.loop [0,15,16,17] vj)))
 (.seq (.seq JF
 (.block 2 (.loop [0,59,60,61] vz)))
 (.seq ZA
 (.block 4 (.loop [0,91,92,93] vq)))))
abbrev bo:FN:=⟨Xu,[]⟩
theorem sF:GoT 26 Tryz.f26 Xu bo:=goT (F:=bo) Tryz.func26 (by kernel_rfl)
abbrev uF:NC:=.reg
 (.x 0 (.box 25) [.qq 1] none []
 (.x 1 (.box 41) [.qq 2] none []
 (.out [(0,.qq 0),(4,.qz 0),(5,.qz 1)])))
 [0,1,2]
abbrev uE:NC:=.reg
 (.Q 1 .nilck [.qq 0]
 (.Q 2 (.fld 2) [.qz 1]
 (.Q 3 .ld [.qz 2]
 (.Q 4 (.lda 2) [.qq 4]
 (.Q 5 (.lda 21) [.qq 5]
 (.x 6 (.call 55) [.qz 3,.qz 4,.qz 5] none []
 (.Q 7 .not [.qz 6]
 (.out (qx [0,4,5] [(14,.qz 7)])))))))))
 [0,4,5]
abbrev uD:NC:=.reg
 (.out [(6,.const (.bool false))])
 []
abbrev uC:NC:=.reg
 (.Q 2 .nilck [.qq 0]
 (.Q 3 (.fld 6) [.qz 2]
 (.Q 4 .ld [.qz 3]
 (.Q 5 (.lda 2) [.qq 4]
 (.Q 6 (.lda 21) [.qq 5]
 (.x 7 (.call 67) [.qz 5,.qz 6] none [(4,.ld,[.qz 3],none)]
 (.x 8 (.bsl 113 1 [.slice none 0 0] [(0,1)]) [.qz 7] none [(4,.ld,[.qz 3],none)]
 (.x 9 (.app 113 1 24 [.slice none 0 0]) [.qz 4,.qz 8] none []
 (.Q 10 .nilck [.qq 0]
 (.Q 11 (.fld 6) [.qz 10]
 (.x 12 (.st 1) [.qz 11,.qz 9] none []
 (.out (qx [0,4,5] [])))))))))))))
 [0,4,5]
abbrev uB:NC:=.reg
 (.Q 1 (.lda 2) [.qq 4]
 (.Q 2 (.lda 21) [.qq 5]
 (.x 3 (.call 56) [.qq 0,.qz 1,.qz 2] none []
 (.out []))))
 [0,4,5]
abbrev uA:NC:=.reg
 (.out [(6,.const (.bool true))])
 []
abbrev cO:NC :=
 (.seq uF
 (.seq (.seq uE
 (.cond (.qq 14)
 (.seq uD
 .ret)
 .skip))
 (.seq uC
 (.seq uB
 (.seq uA
 .ret)))))
abbrev cP:FN:=⟨cO,[.qq 6]⟩
theorem bz:GoT 31 Tryz.f31 cO cP:=goT (F:=cP) Tryz.func31 (by kernel_rfl)
abbrev oW:NC:=.reg
 (.x 2 (.call 68) [.qq 0,.qq 1] none []
 (.out (qx [0,1] [])))
 [0,1]
abbrev oV:NC:=.reg
 (.Q 4 .nilck [.qq 1]
 (.Q 5 (.fld 21) [.qz 4]
 (.Q 6 (.lda 7) [.qz 5]
 (.x 2 (.call 60) [.qq 1] none [(6,.lda 7,[.qz 5],none)]
 (.x 7 (.call 59) [.qq 0,.qz 2,.qz 6] none []
 (.out []))))))
 [0,1]
abbrev YI:NC :=
 (.seq oW
 oV)
abbrev YL:FN:=⟨YI,[]⟩
theorem oY:GoT 32 Tryz.f32 YI YL:=goT (F:=YL) Tryz.func32 (by kernel_rfl)
abbrev sW:NC:=.reg
 (.x 0 (.box 25) [.qq 1] none []
 (.out [(0,.qq 0),(3,.qz 0)]))
 [0,1]
abbrev sV:NC:=.reg
 (.Q 0 (.lda 2) [.qq 3]
 (.x 1 (.call 66) [.qz 0] none []
 (.Q 2 .not [.qz 1]
 (.q 4 .mv [.qq 0] (some (.qz 2,false))
 (.q 5 (.fld 0) [.qq 3] (some (.qz 2,false))
 (.q 6 .ld [.qz 5] (some (.qz 2,false))
 (.x 7 (.call 43) [.qz 4,.qz 6] (some (.qz 2,false)) []
 (.q 8 .not [.qz 7] (some (.qz 2,false))
 (.Q 9 .pick [.qz 2,.const (.bool true),.qz 8]
 (.q 11 .mv [.qq 0] (some (.qz 9,false))
 (.q 12 .nilck [.qz 11] (some (.qz 9,false))
 (.q 13 (.fld 2) [.qz 12] (some (.qz 9,false))
 (.q 14 .ld [.qz 13] (some (.qz 9,false))
 (.q 15 (.lda 2) [.qq 3] (some (.qz 9,false))
 (.x 16 (.call 44) [.qz 14,.qz 15] (some (.qz 9,false)) []
 (.Q 17 .pick [.qz 9,.const (.bool true),.qz 16]
 (.out (qx [0,3] [(24,.qz 17)]))))))))))))))))))
 [0,3]
abbrev sK:NC:=.reg
 (.out [(4,.const (.bool false))])
 []
abbrev sX:NC:=.reg
 (.Q 1 .nilck [.qq 0]
 (.Q 2 (.fld 2) [.qz 1]
 (.Q 3 .ld [.qz 2]
 (.Q 4 (.lda 2) [.qq 3]
 (.both
 (.x 5 (.call 33) [.qz 3,.qz 4] none []
 (.Q 7 (.ext 0) [.qz 5]
 (.Q 8 (.ext 1) [.qz 5]
 (.x 9 (.alc [.int .i64 0,.int .i64 0,.int .i64 0,.int .i64 0,.int .i64 0,.int .i64 0,.int .i64 0,.int .i64 0,(.string ⟨#[]⟩),(.string ⟨#[]⟩),(.string ⟨#[]⟩),(.string ⟨#[]⟩),.int .i64 0,.int .i64 0,.int .i64 0,.int .i64 0,.int .i64 0,.int .i64 0,.int .i64 0,.int .i64 0,.bool false] 41) [] none [(3,.ld,[.qz 2],none),(4,.lda 2,[.qq 3],none)]
 (.x 10 (.st 21) [.qz 9,.qz 7] none []
 (.out [(5,.qz 9)]))))))
 (.x 9 (.alc [.int .i64 0,.int .i64 0,.int .i64 0,.int .i64 0,.int .i64 0,.int .i64 0,.int .i64 0,.int .i64 0,(.string ⟨#[]⟩),(.string ⟨#[]⟩),(.string ⟨#[]⟩),(.string ⟨#[]⟩),.int .i64 0,.int .i64 0,.int .i64 0,.int .i64 0,.int .i64 0,.int .i64 0,.int .i64 0,.int .i64 0,.bool false] 41) [] none [(3,.ld,[.qz 2],none),(4,.lda 2,[.qq 3],none)]
 (.x 5 (.call 33) [.qz 3,.qz 4] none []
 (.Q 7 (.ext 0) [.qz 5]
 (.Q 8 (.ext 1) [.qz 5]
 (.x 10 (.st 21) [.qz 9,.qz 7] none []
 (.out [(5,.qz 9)])))))))))))
 [0,3]
abbrev sJ:NC:=.reg
 (.Q 0 (.fld 0) [.qq 5]
 (.Q 1 .ld [.qz 0]
 (.Q 2 (.icm .neq) [.qz 1,.qj 3]
 (.out [(4,.qz 2)]))))
 [5]
abbrev ba:NC :=
 (.seq sW
 (.seq (.seq sV
 (.cond (.qq 24)
 (.seq sK
 .ret)
 .skip))
 (.seq sX
 (.seq sJ
 .ret))))
abbrev be:FN:=⟨ba,[.qq 4]⟩
theorem kU:GoT 34 Tryz.f34 ba be:=goT (F:=be) Tryz.func34 (by kernel_rfl)
abbrev su:NC:=.reg
 (.x 0 (.box 25) [.qq 1] none []
 (.out [(0,.qq 0),(3,.qz 0)]))
 [0,1]
abbrev ss:NC:=.reg
 (.Q 1 .nilck [.qq 0]
 (.Q 2 (.fld 4) [.qz 1]
 (.Q 3 .ld [.qz 2]
 (.Q 4 .len [.qz 3]
 (.out [(3,.qq 3),(10,.qz 3),(11,.qz 4),(12,.qj 0)])))))
 [0,3]
abbrev sr:NC:=.reg
 (.Q 0 (.icm .lss) [.qq 12,.qq 11]
 (.out (qx [3,10,11,12] [(13,.qz 0)])))
 [3,10,11,12]
abbrev so:NC:=.reg
 (.Q 0 (.ixs 1) [.qq 10,.qq 12]
 (.Q 1 .ld [.qz 0]
 (.out [(3,.qq 3),(6,.qz 1),(10,.qq 10),(11,.qq 11),(12,.qq 12)])))
 [3,10,11,12]
abbrev sn:NC:=.reg
 (.Q 1 .nilck [.qq 6]
 (.Q 2 (.fld 0) [.qz 1]
 (.Q 3 (.lda 2) [.qz 2]
 (.Q 4 (.lda 2) [.qq 3]
 (.Q 5 (.eqc false [.i .i64,.i .i64]) [.qz 3,.qz 4]
 (.out (qx [3,6,10,11,12] [(21,.qz 5)])))))))
 [3,6,10,11,12]
abbrev sm:NC:=.reg
 (.out [(4,.qq 6)])
 [6]
abbrev si:NC:=.reg
 (.Q 0 (.iar .add) [.qq 12,.qj 1]
 (.out (qx [3,10,11] [(12,.qz 0)])))
 [3,10,11,12]
abbrev sA:NC :=
 (.seq sr
 (.seq (.cond (.qq 13)
 .skip
 (.exit 0))
 (.seq (.block 1 (.seq so
 (.seq sn
 (.cond (.qq 21)
 (.seq sm
 .ret)
 .skip))))
 si)))
abbrev sh:NC:=.reg
 (.out [(4,.const (.pointer none))])
 []
abbrev bh:NC :=
 (.seq su
 (.seq (.seq ss
 (.block 0 (.loop [3,10,11,12] sA)))
 (.seq sh
 .ret)))
abbrev bi:FN:=⟨bh,[.qq 4]⟩
theorem sB:GoT 35 Tryz.f35 bh bi:=goT (F:=bi) Tryz.func35 (by kernel_rfl)
abbrev lZ:NC:=.reg
 (.x 0 (.box 25) [.qq 1] none []
 (.out [(0,.qq 0),(3,.qz 0)]))
 [0,1]
abbrev lQ:NC:=.reg
 (.Q 1 .nilck [.qq 0]
 (.Q 2 (.fld 5) [.qz 1]
 (.Q 3 .ld [.qz 2]
 (.Q 4 .len [.qz 3]
 (.out [(3,.qq 3),(10,.qz 3),(11,.qz 4),(12,.qj 0)])))))
 [0,3]
abbrev ly:NC:=.reg
 (.Q 0 (.icm .lss) [.qq 12,.qq 11]
 (.out (qx [3,10,11,12] [(13,.qz 0)])))
 [3,10,11,12]
abbrev lx:NC:=.reg
 (.Q 0 (.ixs 1) [.qq 10,.qq 12]
 (.Q 1 .ld [.qz 0]
 (.out [(3,.qq 3),(6,.qz 1),(10,.qq 10),(11,.qq 11),(12,.qq 12)])))
 [3,10,11,12]
abbrev lj:NC:=.reg
 (.Q 1 .nilck [.qq 6]
 (.Q 2 (.fld 0) [.qz 1]
 (.Q 3 (.lda 2) [.qz 2]
 (.Q 4 (.lda 2) [.qq 3]
 (.Q 5 (.eqc false [.i .i64,.i .i64]) [.qz 3,.qz 4]
 (.out (qx [3,6,10,11,12] [(21,.qz 5)])))))))
 [3,6,10,11,12]
abbrev lz:NC:=.reg
 (.out [(4,.qq 6)])
 [6]
abbrev lq:NC:=.reg
 (.Q 0 (.iar .add) [.qq 12,.qj 1]
 (.out (qx [3,10,11] [(12,.qz 0)])))
 [3,10,11,12]
abbrev lJ:NC :=
 (.seq ly
 (.seq (.cond (.qq 13)
 .skip
 (.exit 0))
 (.seq (.block 1 (.seq lx
 (.seq lj
 (.cond (.qq 21)
 (.seq lz
 .ret)
 .skip))))
 lq)))
abbrev iU:NC:=.reg
 (.out [(4,.const (.pointer none))])
 []
abbrev Wf:NC :=
 (.seq lZ
 (.seq (.seq lQ
 (.block 0 (.loop [3,10,11,12] lJ)))
 (.seq iU
 .ret)))
abbrev Wg:FN:=⟨Wf,[.qq 4]⟩
theorem lX:GoT 36 Tryz.f36 Wf Wg:=goT (F:=Wg) Tryz.func36 (by kernel_rfl)
abbrev uH:NC:=.reg
 (.out (qx [0,1] []))
 [0,1]
abbrev uG:NC:=.reg
 (.Q 1 (.icm .geq) [.qq 1,.qj 0]
 (.q 3 .mv [.qq 1] (some (.qz 1,true))
 (.q 4 .mv [.qq 0] (some (.qz 1,true))
 (.q 5 .nilck [.qz 4] (some (.qz 1,true))
 (.q 6 (.fld 0) [.qz 5] (some (.qz 1,true))
 (.q 7 .ld [.qz 6] (some (.qz 1,true))
 (.q 8 (.icm .lss) [.qz 3,.qz 7] (some (.qz 1,true))
 (.Q 9 .pick [.qz 1,.qz 8,.const (.bool false)]
 (.out [(4,.qz 9)])))))))))
 [0,1]
abbrev cS:NC :=
 (.seq uH
 (.seq uG
 .ret))
abbrev cT:FN:=⟨cS,[.qq 4]⟩
theorem uI:GoT 43 Tryz.f43 cS cT:=goT (F:=cT) Tryz.func43 (by kernel_rfl)
abbrev WA:NC:=.reg
 (.x 0 (.box 45) [.qq 1] none []
 (.out [(0,.qq 0),(3,.qz 0)]))
 [0,1]
abbrev Wu:NC:=.reg
 (.Q 1 .nilck [.qq 0]
 (.Q 2 (.fld 2) [.qz 1]
 (.Q 3 .ld [.qz 2]
 (.Q 4 (.fld 3) [.qq 3]
 (.Q 5 (.lda 2) [.qz 4]
 (.both
 (.x 6 (.call 33) [.qz 3,.qz 5] none []
 (.Q 8 (.ext 0) [.qz 6]
 (.Q 9 (.ext 1) [.qz 6]
 (.x 10 (.alc [.int .i64 0,.int .i64 0,.int .i64 0,.int .i64 0,.int .i64 0,.int .i64 0,.int .i64 0,.int .i64 0,(.string ⟨#[]⟩),(.string ⟨#[]⟩),(.string ⟨#[]⟩),(.string ⟨#[]⟩),.int .i64 0,.int .i64 0,.int .i64 0,.int .i64 0,.int .i64 0,.int .i64 0,.int .i64 0,.int .i64 0,.bool false] 41) [] none [(3,.ld,[.qz 2],none),(5,.lda 2,[.qz 4],none)]
 (.x 11 (.st 21) [.qz 10,.qz 8] none []
 (.out (qx [0,3] [(4,.qz 10)])))))))
 (.x 10 (.alc [.int .i64 0,.int .i64 0,.int .i64 0,.int .i64 0,.int .i64 0,.int .i64 0,.int .i64 0,.int .i64 0,(.string ⟨#[]⟩),(.string ⟨#[]⟩),(.string ⟨#[]⟩),(.string ⟨#[]⟩),.int .i64 0,.int .i64 0,.int .i64 0,.int .i64 0,.int .i64 0,.int .i64 0,.int .i64 0,.int .i64 0,.bool false] 41) [] none [(3,.ld,[.qz 2],none),(5,.lda 2,[.qz 4],none)]
 (.x 6 (.call 33) [.qz 3,.qz 5] none []
 (.Q 8 (.ext 0) [.qz 6]
 (.Q 9 (.ext 1) [.qz 6]
 (.x 11 (.st 21) [.qz 10,.qz 8] none []
 (.out (qx [0,3] [(4,.qz 10)])))))))))))))
 [0,3]
abbrev Zm:NC:=.reg
 (.Q 0 (.fld 0) [.qq 4]
 (.Q 1 .ld [.qz 0]
 (.Q 2 (.icm .eql) [.qz 1,.qj 3]
 (.out (qx [0,3,4] [(21,.qz 2)])))))
 [0,3,4]
abbrev Zl:NC:=.reg
 (.Q 1 (.fld 1) [.qq 3]
 (.Q 2 .ld [.qz 1]
 (.Q 3 (.fld 3) [.qq 3]
 (.Q 4 (.lda 2) [.qz 3]
 (.Q 5 (.fld 5) [.qq 4]
 (.Q 6 (.lda 7) [.qz 5]
 (.Q 7 (.fld 12) [.qq 4]
 (.Q 8 (.lda 8) [.qz 7]
 (.Q 9 (.bld [.int .i64 0,.int .i64 0,.int .i64 0,.int .i64 0,.int .i64 0,.int .i64 0,.int .i64 0,.int .i64 0,.int .i64 0,.int .i64 0,(.string ⟨#[]⟩),(.string ⟨#[]⟩),(.string ⟨#[]⟩),(.string ⟨#[]⟩),.int .i64 0,.int .i64 0,.int .i64 0,.int .i64 0,.int .i64 0,.int .i64 0,.int .i64 0,.int .i64 0,.int .i64 0,.int .i64 0,.int .i64 0,.int .i64 0,.int .i64 0,.int .i64 0,.int .i64 0,.int .i64 0,(.string ⟨#[]⟩),(.string ⟨#[]⟩),(.string ⟨#[]⟩),(.string ⟨#[]⟩),.int .i64 0,.int .i64 0,.int .i64 0,.int .i64 0,.int .i64 0,.int .i64 0,.int .i64 0,.int .i64 0,.bool false,.int .i64 0,.int .i64 0,.int .i64 0,.int .i64 0,.int .i64 0,.int .i64 0,.int .i64 0,(.string ⟨#[]⟩)] [(0,1),(3,2),(7,7),(14,8)]) [.qj 5,.qz 4,.qz 6,.qz 8]
 (.x 10 (.call 73) [.qq 0,.qz 2,.qz 9] none []
 (.out [])))))))))))
 [0,3,4]
abbrev Zi:NC:=.reg
 (.Q 0 (.fld 5) [.qq 3]
 (.Q 1 (.lda 2) [.qz 0]
 (.Q 2 (.fld 1) [.qq 4]
 (.Q 3 (.lda 2) [.qz 2]
 (.x 4 (.call 37) [.qz 1,.qz 3] none []
 (.out (qx [0,3,4] [(37,.qz 4)])))))))
 [0,3,4]
abbrev Zh:NC:=.reg
 (.Q 1 (.fld 1) [.qq 3]
 (.Q 2 .ld [.qz 1]
 (.Q 3 (.fld 3) [.qq 3]
 (.Q 4 (.lda 2) [.qz 3]
 (.Q 5 (.fld 1) [.qq 4]
 (.Q 6 (.lda 2) [.qz 5]
 (.Q 7 (.bld [.int .i64 0,.int .i64 0,.int .i64 0,.int .i64 0,.int .i64 0,.int .i64 0,.int .i64 0,.int .i64 0,.int .i64 0,.int .i64 0,(.string ⟨#[]⟩),(.string ⟨#[]⟩),(.string ⟨#[]⟩),(.string ⟨#[]⟩),.int .i64 0,.int .i64 0,.int .i64 0,.int .i64 0,.int .i64 0,.int .i64 0,.int .i64 0,.int .i64 0,.int .i64 0,.int .i64 0,.int .i64 0,.int .i64 0,.int .i64 0,.int .i64 0,.int .i64 0,.int .i64 0,(.string ⟨#[]⟩),(.string ⟨#[]⟩),(.string ⟨#[]⟩),(.string ⟨#[]⟩),.int .i64 0,.int .i64 0,.int .i64 0,.int .i64 0,.int .i64 0,.int .i64 0,.int .i64 0,.int .i64 0,.bool false,.int .i64 0,.int .i64 0,.int .i64 0,.int .i64 0,.int .i64 0,.int .i64 0,.int .i64 0,(.string ⟨#[]⟩)] [(0,1),(3,2),(5,2)]) [.qj 8,.qz 4,.qz 6]
 (.x 8 (.call 73) [.qq 0,.qz 2,.qz 7] none []
 (.out [])))))))))
 [0,3,4]
abbrev Zg:NC:=.reg
 (.Q 1 (.fld 3) [.qq 3]
 (.Q 2 (.lda 2) [.qz 1]
 (.x 3 (.call 35) [.qq 0,.qz 2] none []
 (.out (qx [0,3,4] [(6,.qz 3)])))))
 [0,3,4]
abbrev Zf:NC:=.reg
 (.Q 1 (.eqp true) [.qq 6,.const (.pointer none)]
 (.q 3 .mv [.qq 6] (some (.qz 1,true))
 (.q 4 .nilck [.qz 3] (some (.qz 1,true))
 (.q 5 (.fld 3) [.qz 4] (some (.qz 1,true))
 (.q 6 (.lda 2) [.qz 5] (some (.qz 1,true))
 (.q 7 (.fld 5) [.qq 3] (some (.qz 1,true))
 (.q 8 (.lda 2) [.qz 7] (some (.qz 1,true))
 (.x 9 (.call 37) [.qz 6,.qz 8] (some (.qz 1,true)) []
 (.Q 10 .pick [.qz 1,.qz 9,.const (.bool false)]
 (.out (qx [0,3,4] [(61,.qz 10)])))))))))))
 [0,3,4,6]
abbrev Ze:NC:=.reg
 (.Q 1 (.fld 3) [.qq 3]
 (.Q 2 (.lda 2) [.qz 1]
 (.x 3 (.call 74) [.qq 0,.qz 2] none []
 (.out (qx [0,3,4] [])))))
 [0,3,4]
abbrev jL:NC:=.reg
 (.Q 0 (.fld 0) [.qq 4]
 (.Q 1 .ld [.qz 0]
 (.Q 2 (.icm .neq) [.qz 1,.qj 0]
 (.q 4 (.fld 3) [.qq 4] (some (.qz 2,true))
 (.q 5 (.lda 2) [.qz 4] (some (.qz 2,true))
 (.q 6 (.fld 5) [.qq 3] (some (.qz 2,true))
 (.q 7 (.lda 2) [.qz 6] (some (.qz 2,true))
 (.q 8 (.eqc false [.i .i64,.i .i64]) [.qz 5,.qz 7] (some (.qz 2,true))
 (.Q 9 .pick [.qz 2,.qz 8,.const (.bool false)]
 (.out (qx [0,3,4] [(7,.qz 9)])))))))))))
 [0,3,4]
abbrev Qz:NC:=.reg
 (.Q 0 (.fld 0) [.qq 3]
 (.Q 1 .ld [.qz 0]
 (.out (qx [0,3,4,7] [(77,.qz 1)]))))
 [0,3,4,7]
abbrev Qq:NC:=.reg
 (.Q 0 (.icm .eql) [.qq 77,.qj 1]
 (.out (qx [0,3,4,7,77] [(78,.qz 0)])))
 [0,3,4,7,77]
abbrev yU:NC:=.reg
 (.Q 1 (.lda 51) [.qq 3]
 (.Q 2 (.lda 21) [.qq 4]
 (.x 4 (.call 75) [.qq 0,.qz 1,.qz 2,.qq 7] none []
 (.out []))))
 [0,3,4,7]
abbrev yT:NC:=.reg
 (.Q 0 (.icm .eql) [.qq 77,.qj 3]
 (.out (qx [0,3,4,7,77] [(85,.qz 0)])))
 [0,3,4,7,77]
abbrev yS:NC:=.reg
 (.q 2 (.fld 0) [.qq 4] (some (.qq 7,true))
 (.q 3 .ld [.qz 2] (some (.qq 7,true))
 (.q 4 (.icm .eql) [.qz 3,.qj 2] (some (.qq 7,true))
 (.Q 5 .pick [.qq 7,.qz 4,.const (.bool false)]
 (.out (qx [0,3] [(8,.qz 5)]))))))
 [0,3,4,7]
abbrev jh:NC:=.reg
 (.q 2 .mv [.qq 0] (some (.qq 8,false))
 (.q 3 (.fld 3) [.qq 3] (some (.qq 8,false))
 (.q 4 (.lda 2) [.qz 3] (some (.qq 8,false))
 (.q 5 (.fld 5) [.qq 3] (some (.qq 8,false))
 (.q 6 (.lda 2) [.qz 5] (some (.qq 8,false))
 (.q 7 (.fld 5) [.qq 3] (some (.qq 8,false))
 (.q 8 (.lda 2) [.qz 7] (some (.qq 8,false))
 (.q 9 (.fld 7) [.qq 3] (some (.qq 8,false))
 (.q 10 (.lda 7) [.qz 9] (some (.qq 8,false))
 (.q 11 (.fld 14) [.qq 3] (some (.qq 8,false))
 (.q 12 (.lda 8) [.qz 11] (some (.qq 8,false))
 (.q 13 (.bld [.int .i64 0,.int .i64 0,.int .i64 0,.int .i64 0,.int .i64 0,.int .i64 0,.int .i64 0,.int .i64 0,(.string ⟨#[]⟩),(.string ⟨#[]⟩),(.string ⟨#[]⟩),(.string ⟨#[]⟩),.int .i64 0,.int .i64 0,.int .i64 0,.int .i64 0,.int .i64 0,.int .i64 0,.int .i64 0,.int .i64 0,.bool false] [(0,1),(1,2),(3,2),(5,7),(12,8)]) [.qj 2,.qz 6,.qz 8,.qz 10,.qz 12] (some (.qq 8,false))
 (.x 14 (.call 31) [.qz 2,.qz 4,.qz 13] (some (.qq 8,false)) []
 (.Q 15 .pick [.qq 8,.const (.bool true),.qz 14]
 (.out (qx [0,3] [(108,.qz 15)]))))))))))))))))
 [0,3,8]
abbrev jg:NC:=.reg
 (.Q 1 (.fld 1) [.qq 3]
 (.Q 2 .ld [.qz 1]
 (.Q 3 (.fld 3) [.qq 3]
 (.Q 4 (.lda 2) [.qz 3]
 (.Q 5 (.fld 5) [.qq 3]
 (.Q 6 (.lda 2) [.qz 5]
 (.Q 7 (.bld [.int .i64 0,.int .i64 0,.int .i64 0,.int .i64 0,.int .i64 0,.int .i64 0,.int .i64 0,.int .i64 0,.int .i64 0,.int .i64 0,(.string ⟨#[]⟩),(.string ⟨#[]⟩),(.string ⟨#[]⟩),(.string ⟨#[]⟩),.int .i64 0,.int .i64 0,.int .i64 0,.int .i64 0,.int .i64 0,.int .i64 0,.int .i64 0,.int .i64 0,.int .i64 0,.int .i64 0,.int .i64 0,.int .i64 0,.int .i64 0,.int .i64 0,.int .i64 0,.int .i64 0,(.string ⟨#[]⟩),(.string ⟨#[]⟩),(.string ⟨#[]⟩),(.string ⟨#[]⟩),.int .i64 0,.int .i64 0,.int .i64 0,.int .i64 0,.int .i64 0,.int .i64 0,.int .i64 0,.int .i64 0,.bool false,.int .i64 0,.int .i64 0,.int .i64 0,.int .i64 0,.int .i64 0,.int .i64 0,.int .i64 0,(.string ⟨#[]⟩)] [(0,1),(3,2),(5,2)]) [.qj 4,.qz 4,.qz 6]
 (.x 8 (.call 73) [.qq 0,.qz 2,.qz 7] none []
 (.out [])))))))))
 [0,3]
abbrev yR:NC:=.reg
 (.Q 0 (.icm .eql) [.qq 77,.qj 6]
 (.out (qx [0,3,4] [(118,.qz 0)])))
 [0,3,4,77]
abbrev yP:NC:=.reg
 (.Q 0 (.fld 1) [.qq 4]
 (.Q 1 (.lda 2) [.qz 0]
 (.Q 2 (.fld 5) [.qq 3]
 (.Q 3 (.lda 2) [.qz 2]
 (.Q 4 (.eqc true [.i .i64,.i .i64]) [.qz 1,.qz 3]
 (.out (qx [0,3,4] [(124,.qz 4)])))))))
 [0,3,4]
abbrev yO:NC:=.reg
 (.Q 0 (.fld 5) [.qq 3]
 (.Q 1 (.lda 2) [.qz 0]
 (.Q 2 (.fld 1) [.qq 4]
 (.x 3 (.st 2) [.qz 2,.qz 1] none []
 (.out (qx [0,3,4] []))))))
 [0,3,4]
abbrev yN:NC:=.reg
 (.Q 1 (.fld 3) [.qq 3]
 (.Q 2 (.lda 2) [.qz 1]
 (.Q 3 (.lda 21) [.qq 4]
 (.x 4 (.call 31) [.qq 0,.qz 2,.qz 3] none []
 (.Q 5 .not [.qz 4]
 (.out (qx [0,3,4] [(133,.qz 5)])))))))
 [0,3,4]
abbrev yM:NC:=.reg
 (.Q 1 (.fld 1) [.qq 3]
 (.Q 2 .ld [.qz 1]
 (.Q 3 (.fld 3) [.qq 3]
 (.Q 4 (.lda 2) [.qz 3]
 (.Q 5 (.fld 5) [.qq 3]
 (.Q 6 (.lda 2) [.qz 5]
 (.Q 7 (.lda 21) [.qq 4]
 (.Q 8 (.bld [.int .i64 0,.int .i64 0,.int .i64 0,.int .i64 0,.int .i64 0,.int .i64 0,.int .i64 0,.int .i64 0,.int .i64 0,.int .i64 0,(.string ⟨#[]⟩),(.string ⟨#[]⟩),(.string ⟨#[]⟩),(.string ⟨#[]⟩),.int .i64 0,.int .i64 0,.int .i64 0,.int .i64 0,.int .i64 0,.int .i64 0,.int .i64 0,.int .i64 0,.int .i64 0,.int .i64 0,.int .i64 0,.int .i64 0,.int .i64 0,.int .i64 0,.int .i64 0,.int .i64 0,(.string ⟨#[]⟩),(.string ⟨#[]⟩),(.string ⟨#[]⟩),(.string ⟨#[]⟩),.int .i64 0,.int .i64 0,.int .i64 0,.int .i64 0,.int .i64 0,.int .i64 0,.int .i64 0,.int .i64 0,.bool false,.int .i64 0,.int .i64 0,.int .i64 0,.int .i64 0,.int .i64 0,.int .i64 0,.int .i64 0,(.string ⟨#[]⟩)] [(0,1),(3,2),(5,2),(22,21)]) [.qj 7,.qz 4,.qz 6,.qz 7]
 (.x 9 (.call 73) [.qq 0,.qz 2,.qz 8] none []
 (.out []))))))))))
 [0,3,4]
abbrev Jp:NC :=
 (.seq WA
 (.seq Wu
 (.seq (.seq Zm
 (.cond (.qq 21)
 (.seq Zl
 .ret)
 .skip))
 (.seq (.seq Zi
 (.cond (.qq 37)
 (.seq Zh
 .ret)
 .skip))
 (.seq (.seq Zg
 (.seq Zf
 (.cond (.qq 61)
 Ze
 .skip)))
 (.seq jL
 (.seq Qz
 (.block 0 (.seq Qq
 (.cond (.qq 78)
 yU
 (.seq yT
 (.cond (.qq 85)
 (.seq yS
 (.seq jh
 (.cond (.qq 108)
 jg
 .skip)))
 (.seq yR
 (.cond (.qq 118)
 (.seq (.seq yP
 (.cond (.qq 124)
 (.seq yO
 (.seq yN
 (.cond (.qq 133)
 .ret
 .skip)))
 .skip))
 yM)
 .skip))))))))))))))
abbrev YM:FN:=⟨Jp,[]⟩
theorem ob:GoT 45 Tryz.f45 Jp YM:=goT (F:=YM) Tryz.func45 (by kernel_rfl)
abbrev YE:NC:=.reg
 (.x 0 (.box 45) [.qq 1] none []
 (.out [(0,.qq 0),(3,.qz 0)]))
 [0,1]
abbrev YD:NC:=.reg
 (.Q 1 .nilck [.qq 0]
 (.Q 2 (.fld 2) [.qz 1]
 (.Q 3 .ld [.qz 2]
 (.Q 4 (.fld 3) [.qq 3]
 (.Q 5 (.lda 2) [.qz 4]
 (.both
 (.x 6 (.call 33) [.qz 3,.qz 5] none []
 (.Q 8 (.ext 0) [.qz 6]
 (.Q 9 (.ext 1) [.qz 6]
 (.x 10 (.alc [.int .i64 0,.int .i64 0,.int .i64 0,.int .i64 0,.int .i64 0,.int .i64 0,.int .i64 0,.int .i64 0,(.string ⟨#[]⟩),(.string ⟨#[]⟩),(.string ⟨#[]⟩),(.string ⟨#[]⟩),.int .i64 0,.int .i64 0,.int .i64 0,.int .i64 0,.int .i64 0,.int .i64 0,.int .i64 0,.int .i64 0,.bool false] 41) [] none [(3,.ld,[.qz 2],none),(5,.lda 2,[.qz 4],none)]
 (.x 11 (.st 21) [.qz 10,.qz 8] none []
 (.out (qx [0,3] [(4,.qz 10)])))))))
 (.x 10 (.alc [.int .i64 0,.int .i64 0,.int .i64 0,.int .i64 0,.int .i64 0,.int .i64 0,.int .i64 0,.int .i64 0,(.string ⟨#[]⟩),(.string ⟨#[]⟩),(.string ⟨#[]⟩),(.string ⟨#[]⟩),.int .i64 0,.int .i64 0,.int .i64 0,.int .i64 0,.int .i64 0,.int .i64 0,.int .i64 0,.int .i64 0,.bool false] 41) [] none [(3,.ld,[.qz 2],none),(5,.lda 2,[.qz 4],none)]
 (.x 6 (.call 33) [.qz 3,.qz 5] none []
 (.Q 8 (.ext 0) [.qz 6]
 (.Q 9 (.ext 1) [.qz 6]
 (.x 11 (.st 21) [.qz 10,.qz 8] none []
 (.out (qx [0,3] [(4,.qz 10)])))))))))))))
 [0,3]
abbrev YC:NC:=.reg
 (.Q 0 (.fld 0) [.qq 4]
 (.Q 1 .ld [.qz 0]
 (.Q 2 (.icm .eql) [.qz 1,.qj 3]
 (.out (qx [0,3,4] [(18,.qz 2)])))))
 [0,3,4]
abbrev YB:NC:=.reg
 (.Q 1 (.fld 3) [.qq 3]
 (.Q 2 (.lda 2) [.qz 1]
 (.x 3 (.call 74) [.qq 0,.qz 2] none []
 (.out (qx [0,3,4] [])))))
 [0,3,4]
abbrev YA:NC:=.reg
 (.Q 1 (.fld 3) [.qq 3]
 (.Q 2 (.lda 2) [.qz 1]
 (.Q 3 (.fld 1) [.qq 4]
 (.Q 4 (.lda 2) [.qz 3]
 (.Q 5 (.fld 3) [.qq 4]
 (.Q 6 (.lda 2) [.qz 5]
 (.Q 7 (.fld 7) [.qq 3]
 (.Q 8 (.lda 7) [.qz 7]
 (.Q 9 (.fld 14) [.qq 3]
 (.Q 10 (.lda 8) [.qz 9]
 (.Q 11 (.bld [.int .i64 0,.int .i64 0,.int .i64 0,.int .i64 0,.int .i64 0,.int .i64 0,.int .i64 0,.int .i64 0,(.string ⟨#[]⟩),(.string ⟨#[]⟩),(.string ⟨#[]⟩),(.string ⟨#[]⟩),.int .i64 0,.int .i64 0,.int .i64 0,.int .i64 0,.int .i64 0,.int .i64 0,.int .i64 0,.int .i64 0,.bool false] [(0,1),(1,2),(3,2),(5,7),(12,8)]) [.qj 3,.qz 4,.qz 6,.qz 8,.qz 10]
 (.x 12 (.call 31) [.qq 0,.qz 2,.qz 11] none []
 (.out [])))))))))))))
 [0,3,4]
abbrev Xr:NC :=
 (.seq YE
 (.seq YD
 (.seq (.seq YC
 (.cond (.qq 18)
 .ret
 .skip))
 (.seq YB
 YA))))
abbrev aT:FN:=⟨Xr,[]⟩
theorem rT:GoT 46 Tryz.f46 Xr aT:=goT (F:=aT) Tryz.func46 (by kernel_rfl)
abbrev KV:NC:=.reg
 (.x 0 (.box 45) [.qq 1] none []
 (.out [(0,.qq 0),(3,.qz 0)]))
 [0,1]
abbrev KK:NC:=.reg
 (.Q 1 (.fld 3) [.qq 3]
 (.Q 2 (.lda 2) [.qz 1]
 (.x 3 (.call 35) [.qq 0,.qz 2] none []
 (.out (qx [0,3] [(4,.qz 3)])))))
 [0,3]
abbrev KX:NC:=.reg
 (.Q 1 (.eqp false) [.qq 4,.const (.pointer none)]
 (.q 3 .mv [.qq 4] (some (.qz 1,false))
 (.q 4 .nilck [.qz 3] (some (.qz 1,false))
 (.q 5 (.fld 3) [.qz 4] (some (.qz 1,false))
 (.q 6 (.lda 2) [.qz 5] (some (.qz 1,false))
 (.q 7 (.fld 5) [.qq 3] (some (.qz 1,false))
 (.q 8 (.lda 2) [.qz 7] (some (.qz 1,false))
 (.x 9 (.call 37) [.qz 6,.qz 8] (some (.qz 1,false)) []
 (.q 10 .not [.qz 9] (some (.qz 1,false))
 (.Q 11 .pick [.qz 1,.const (.bool true),.qz 10]
 (.out (qx [0,3] [(21,.qz 11)]))))))))))))
 [0,3,4]
abbrev KJ:NC:=.reg
 (.Q 1 (.fld 3) [.qq 3]
 (.Q 2 (.lda 2) [.qz 1]
 (.x 3 (.call 74) [.qq 0,.qz 2] none []
 (.out (qx [0,3] [])))))
 [0,3]
abbrev KZ:NC:=.reg
 (.Q 1 (.fld 3) [.qq 3]
 (.Q 2 (.lda 2) [.qz 1]
 (.x 3 (.call 62) [.qq 0,.qz 2] none []
 (.out (qx [0,3] [])))))
 [0,3]
abbrev KQ:NC:=.reg
 (.Q 1 (.fld 3) [.qq 3]
 (.Q 2 (.lda 2) [.qz 1]
 (.x 3 (.call 36) [.qq 0,.qz 2] none []
 (.out [(3,.qq 3),(5,.qz 3)]))))
 [0,3]
abbrev Ky:NC:=.reg
 (.Q 1 (.eqp true) [.qq 5,.const (.pointer none)]
 (.out (qx [3,5] [(35,.qz 1)])))
 [3,5]
abbrev Kw:NC:=.reg
 (.Q 1 .nilck [.qq 5]
 (.Q 2 (.fld 2) [.qz 1]
 (.x 3 (.st 1) [.qz 2,.qj 0] none []
 (.out (qx [3,5] [])))))
 [3,5]
abbrev Kv:NC:=.reg
 (.Q 1 .nilck [.qq 5]
 (.Q 2 (.fld 3) [.qz 1]
 (.Q 3 (.lda 2) [.qz 2]
 (.Q 4 (.fld 5) [.qq 3]
 (.Q 5 (.lda 2) [.qz 4]
 (.x 6 (.call 37) [.qz 3,.qz 5] none []
 (.out (qx [3,5] [(45,.qz 6)]))))))))
 [3,5]
abbrev Kk:NC:=.reg
 (.Q 1 (.fld 5) [.qq 3]
 (.Q 2 (.lda 2) [.qz 1]
 (.Q 3 .nilck [.qq 5]
 (.Q 4 (.fld 3) [.qz 3]
 (.x 5 (.st 2) [.qz 4,.qz 2] none []
 (.out []))))))
 [3,5]
abbrev yL:NC :=
 (.seq KV
 (.seq KK
 (.seq (.seq KX
 (.cond (.qq 21)
 .ret
 .skip))
 (.seq KJ
 (.seq KZ
 (.seq KQ
 (.seq Ky
 (.cond (.qq 35)
 (.seq Kw
 (.seq Kv
 (.cond (.qq 45)
 Kk
 .skip)))
 .skip))))))))
abbrev Vx:FN:=⟨yL,[]⟩
theorem fC:GoT 47 Tryz.f47 yL Vx:=goT (F:=Vx) Tryz.func47 (by kernel_rfl)
abbrev jS:NC:=.reg
 (.x 0 (.box 45) [.qq 1] none []
 (.out [(0,.qq 0),(3,.qz 0)]))
 [0,1]
abbrev jR:NC:=.reg
 (.Q 1 (.fld 3) [.qq 3]
 (.Q 2 (.lda 2) [.qz 1]
 (.x 3 (.call 35) [.qq 0,.qz 2] none []
 (.out (qx [0,3] [(4,.qz 3)])))))
 [0,3]
abbrev jP:NC:=.reg
 (.Q 1 (.eqp false) [.qq 4,.const (.pointer none)]
 (.q 3 .mv [.qq 4] (some (.qz 1,false))
 (.q 4 .nilck [.qz 3] (some (.qz 1,false))
 (.q 5 (.fld 3) [.qz 4] (some (.qz 1,false))
 (.q 6 (.lda 2) [.qz 5] (some (.qz 1,false))
 (.q 7 (.fld 5) [.qq 3] (some (.qz 1,false))
 (.q 8 (.lda 2) [.qz 7] (some (.qz 1,false))
 (.q 9 (.eqc true [.i .i64,.i .i64]) [.qz 6,.qz 8] (some (.qz 1,false))
 (.Q 10 .pick [.qz 1,.const (.bool true),.qz 9]
 (.q 12 .mv [.qq 4] (some (.qz 10,false))
 (.q 13 (.fld 1) [.qq 3] (some (.qz 10,false))
 (.q 14 .ld [.qz 13] (some (.qz 10,false))
 (.q 15 .nilck [.qz 12] (some (.qz 10,false))
 (.q 16 (.fld 21) [.qz 15] (some (.qz 10,false))
 (.q 17 (.ixa 7 1) [.qz 16,.qz 14] (some (.qz 10,false))
 (.q 18 .ld [.qz 17] (some (.qz 10,false))
 (.q 19 (.icm .neq) [.qz 18,.qj 0] (some (.qz 10,false))
 (.Q 20 .pick [.qz 10,.const (.bool true),.qz 19]
 (.out (qx [0,3,4] [(30,.qz 20)]))))))))))))))))))))
 [0,3,4]
abbrev zc:NC:=.reg
 (.x 0 .mkm [] none []
 (.x 1 (.mup false [.i .i64]) [.qz 0,.qj 2,.qj 0] none []
 (.x 2 (.mup false [.i .i64]) [.qz 0,.qj 4,.qj 1] none []
 (.x 3 (.mup false [.i .i64]) [.qz 0,.qj 7,.qj 2] none []
 (.Q 5 (.fld 0) [.qq 3]
 (.Q 6 .ld [.qz 5]
 (.Q 7 (.lkp false [.i .i64] (.int .i64 0) false) [.qz 0,.qz 6]
 (.out (qx [0,3,4] [(5,.qz 7)])))))))))
 [0,3,4]
abbrev jO:NC:=.reg
 (.Q 1 .nilck [.qq 4]
 (.Q 2 (.fld 2) [.qz 1]
 (.Q 3 .ld [.qz 2]
 (.Q 5 (.icm .neq) [.qz 3,.qq 5]
 (.out (qx [0,3,4,5] [(41,.qz 5)]))))))
 [0,3,4,5]
abbrev XJ:NC:=.reg
 (.Q 1 (.fld 1) [.qq 3]
 (.Q 2 .ld [.qz 1]
 (.Q 3 .nilck [.qq 4]
 (.Q 4 (.fld 21) [.qz 3]
 (.Q 5 (.ixa 7 1) [.qz 4,.qz 2]
 (.x 6 (.st 1) [.qz 5,.qj 1] none []
 (.out (qx [0,3,4,5] []))))))))
 [0,3,4,5]
abbrev XZ:NC:=.reg
 (.Q 1 .nilck [.qq 4]
 (.Q 2 (.fld 30) [.qz 1]
 (.Q 3 .ld [.qz 2]
 (.Q 4 (.iar .add) [.qz 3,.qj 1]
 (.Q 5 .nilck [.qq 4]
 (.Q 6 (.fld 30) [.qz 5]
 (.x 7 (.st 1) [.qz 6,.qz 4] none []
 (.out (qx [0,3,4,5] [])))))))))
 [0,3,4,5]
abbrev XQ:NC:=.reg
 (.out (qx [0,3,4] [(55,.qq 5)]))
 [0,3,4,5]
abbrev Xy:NC:=.reg
 (.Q 0 (.icm .eql) [.qq 55,.qj 0]
 (.out (qx [0,3,4,55] [(73,.qz 0)])))
 [0,3,4,55]
abbrev Xw:NC:=.reg
 (.Q 2 .nilck [.qq 4]
 (.Q 3 (.fld 28) [.qz 2]
 (.Q 4 .ld [.qz 3]
 (.Q 5 (.fld 14) [.qq 3]
 (.Q 6 (.lda 8) [.qz 5]
 (.x 7 (.bsl 39 1 zL0 [(0,8)]) [.qz 6] none [(4,.ld,[.qz 3],none)]
 (.x 8 (.app 39 8 64 zL0) [.qz 4,.qz 7] none []
 (.Q 9 .nilck [.qq 4]
 (.Q 10 (.fld 28) [.qz 9]
 (.x 11 (.st 1) [.qz 10,.qz 8] none []
 (.out (qx [0,4] []))))))))))))
 [0,3,4]
abbrev JB:NC:=.reg
 (.x 2 (.call 58) [.qq 0,.qq 4,.const (.bool false)] none []
 (.out []))
 [0,4]
abbrev JA:NC:=.reg
 (.Q 0 (.icm .eql) [.qq 55,.qj 1]
 (.out (qx [0,3,4] [(89,.qz 0)])))
 [0,3,4,55]
abbrev Ju:NC:=.reg
 (.Q 1 .nilck [.qq 4]
 (.Q 2 (.fld 30) [.qz 1]
 (.Q 3 .ld [.qz 2]
 (.Q 4 (.iar .add) [.qz 3,.qj 1]
 (.Q 6 .nilck [.qq 0]
 (.Q 7 (.fld 0) [.qz 6]
 (.Q 8 .ld [.qz 7]
 (.x 9 (.call 76) [.qz 8] none [(3,.ld,[.qz 2],none)]
 (.Q 10 (.icm .geq) [.qz 4,.qz 9]
 (.out (qx [0,4] [(101,.qz 10)])))))))))))
 [0,4]
abbrev Jt:NC:=.reg
 (.Q 2 .nilck [.qq 4]
 (.Q 3 (.fld 0) [.qz 2]
 (.Q 4 (.lda 2) [.qz 3]
 (.Q 6 .nilck [.qq 4]
 (.Q 7 (.fld 6) [.qz 6]
 (.Q 8 (.lda 7) [.qz 7]
 (.Q 10 .nilck [.qq 4]
 (.Q 11 (.fld 13) [.qz 10]
 (.Q 12 (.lda 8) [.qz 11]
 (.x 13 (.call 77) [.qq 0,.qz 4,.qz 8,.qz 12] none []
 (.out [])))))))))))
 [0,4]
abbrev Js:NC:=.reg
 (.Q 2 .nilck [.qq 4]
 (.Q 3 (.fld 29) [.qz 2]
 (.Q 4 .ld [.qz 3]
 (.Q 5 (.fld 1) [.qq 3]
 (.Q 6 .ld [.qz 5]
 (.Q 7 (.fld 22) [.qq 3]
 (.Q 8 (.lda 21) [.qz 7]
 (.Q 9 (.bld [.int .i64 0,.int .i64 0,.int .i64 0,.int .i64 0,.int .i64 0,.int .i64 0,.int .i64 0,.int .i64 0,.int .i64 0,(.string ⟨#[]⟩),(.string ⟨#[]⟩),(.string ⟨#[]⟩),(.string ⟨#[]⟩),.int .i64 0,.int .i64 0,.int .i64 0,.int .i64 0,.int .i64 0,.int .i64 0,.int .i64 0,.int .i64 0,.bool false] [(0,1),(1,21)]) [.qz 6,.qz 8]
 (.x 10 (.bsl 102 1 [.int .i64 0,.int .i64 0,.int .i64 0,.int .i64 0,.int .i64 0,.int .i64 0,.int .i64 0,.int .i64 0,.int .i64 0,(.string ⟨#[]⟩),(.string ⟨#[]⟩),(.string ⟨#[]⟩),(.string ⟨#[]⟩),.int .i64 0,.int .i64 0,.int .i64 0,.int .i64 0,.int .i64 0,.int .i64 0,.int .i64 0,.int .i64 0,.bool false] [(0,22)]) [.qz 9] none [(4,.ld,[.qz 3],none)]
 (.x 11 (.app 102 22 208 [.int .i64 0,.int .i64 0,.int .i64 0,.int .i64 0,.int .i64 0,.int .i64 0,.int .i64 0,.int .i64 0,.int .i64 0,(.string ⟨#[]⟩),(.string ⟨#[]⟩),(.string ⟨#[]⟩),(.string ⟨#[]⟩),.int .i64 0,.int .i64 0,.int .i64 0,.int .i64 0,.int .i64 0,.int .i64 0,.int .i64 0,.int .i64 0,.bool false]) [.qz 4,.qz 10] none []
 (.Q 12 .nilck [.qq 4]
 (.Q 13 (.fld 29) [.qz 12]
 (.x 14 (.st 1) [.qz 13,.qz 11] none []
 (.out (qx [0,4] [])))))))))))))))
 [0,3,4]
abbrev Jr:NC:=.reg
 (.x 2 (.call 78) [.qq 0,.qq 4] none []
 (.out []))
 [0,4]
abbrev wK:NC :=
 (.seq jS
 (.seq jR
 (.seq (.seq jP
 (.cond (.qq 30)
 .ret
 .skip))
 (.seq zc
 (.seq (.seq jO
 (.cond (.qq 41)
 .ret
 .skip))
 (.seq XJ
 (.seq XZ
 (.seq XQ
 (.block 0 (.seq Xy
 (.cond (.qq 73)
 (.seq Xw
 JB)
 (.seq JA
 (.cond (.qq 89)
 (.seq Ju
 (.cond (.qq 101)
 Jt
 .skip))
 (.seq Js
 Jr))))))))))))))
abbrev Kb:FN:=⟨wK,[]⟩
theorem dC:GoT 48 Tryz.f48 wK Kb:=goT (F:=Kb) Tryz.func48 (by kernel_rfl)
abbrev sf:NC:=.reg
 (.x 0 (.box 25) [.qq 1] none []
 (.x 1 (.box 41) [.qq 2] none []
 (.out [(0,.qq 0),(4,.qz 0),(5,.qz 1)])))
 [0,1,2]
abbrev sb:NC:=.reg
 (.Q 0 (.fld 0) [.qq 5]
 (.Q 1 .ld [.qz 0]
 (.Q 2 (.icm .neq) [.qz 1,.qj 0]
 (.out (qx [0,4,5] [(8,.qz 2)])))))
 [0,4,5]
abbrev sY:NC:=.reg
 (.Q 1 .nilck [.qq 0]
 (.Q 2 (.fld 3) [.qz 1]
 (.Q 3 .ld [.qz 2]
 (.Q 4 (.lda 2) [.qq 4]
 (.Q 5 (.fld 5) [.qq 5]
 (.Q 6 (.lda 7) [.qz 5]
 (.Q 7 (.fld 12) [.qq 5]
 (.Q 8 (.fld 0) [.qz 7]
 (.Q 9 .ld [.qz 8]
 (.x 10 (.call 88) [.qz 3,.qz 4,.qz 6,.qz 9] none []
 (.out [])))))))))))
 [0,4,5]
abbrev bf:NC :=
 (.seq sf
 (.seq sb
 (.cond (.qq 8)
 sY
 .skip)))
abbrev bg:FN:=⟨bf,[]⟩
theorem YF:GoT 56 Tryz.f56 bf bg:=goT (F:=bg) Tryz.func56 (by kernel_rfl)
abbrev Ws:NC:=.reg
 (.out (qx [0,1,2] []))
 [0,1,2]
abbrev Wr:NC:=.reg
 (.Q 1 .nilck [.qq 0]
 (.Q 2 (.fld 0) [.qz 1]
 (.Q 3 .ld [.qz 2]
 (.Q 5 .nilck [.qq 1]
 (.Q 6 (.fld 5) [.qz 5]
 (.Q 7 .ld [.qz 6]
 (.Q 9 .nilck [.qq 1]
 (.Q 10 (.fld 13) [.qz 9]
 (.Q 11 (.lda 8) [.qz 10]
 (.Q 13 .nilck [.qq 1]
 (.Q 14 (.fld 28) [.qz 13]
 (.Q 15 .ld [.qz 14]
 (.both
 (.x 17 (.call 89) [.qz 3,.qz 7,.qz 11,.qz 15,.qq 2] none []
 (.Q 19 (.ext 0) [.qz 17]
 (.Q 20 (.ext 1) [.qz 17]
 (.x 21 (.alc zL0 39) [] none [(3,.ld,[.qz 2],none),(7,.ld,[.qz 6],none),(11,.lda 8,[.qz 10],none),(15,.ld,[.qz 14],none)]
 (.x 23 (.st 8) [.qz 21,.qz 20] none []
 (.out (qx [0,1] [(7,.qz 19),(8,.qz 21)])))))))
 (.x 21 (.alc zL0 39) [] none [(3,.ld,[.qz 2],none),(7,.ld,[.qz 6],none),(11,.lda 8,[.qz 10],none),(15,.ld,[.qz 14],none)]
 (.x 17 (.call 89) [.qz 3,.qz 7,.qz 11,.qz 15,.qq 2] none []
 (.Q 19 (.ext 0) [.qz 17]
 (.Q 20 (.ext 1) [.qz 17]
 (.x 23 (.st 8) [.qz 21,.qz 20] none []
 (.out (qx [0,1] [(7,.qz 19),(8,.qz 21)]))))))))))))))))))))
 [0,1,2]
abbrev Wp:NC:=.reg
 (.out (qx [0,1,8] [(30,.qq 7)]))
 [0,1,7,8]
abbrev Wo:NC:=.reg
 (.Q 0 (.icm .eql) [.qq 30,.qj 1]
 (.out (qx [0,1,8,30] [(31,.qz 0)])))
 [0,1,8,30]
abbrev Wn:NC:=.reg
 (.Q 2 .nilck [.qq 1]
 (.Q 3 (.fld 0) [.qz 2]
 (.Q 4 (.lda 2) [.qz 3]
 (.Q 6 .nilck [.qq 1]
 (.Q 7 (.fld 6) [.qz 6]
 (.Q 8 (.lda 7) [.qz 7]
 (.Q 9 (.lda 8) [.qq 8]
 (.x 10 (.call 77) [.qq 0,.qz 4,.qz 8,.qz 9] none []
 (.out [])))))))))
 [0,1,8]
abbrev Wm:NC:=.reg
 (.Q 0 (.icm .eql) [.qq 30,.qj 2]
 (.out (qx [0,1,8] [(44,.qz 0)])))
 [0,1,8,30]
abbrev Wl:NC:=.reg
 (.Q 3 .nilck [.qq 1]
 (.Q 4 (.fld 6) [.qz 3]
 (.Q 5 (.lda 7) [.qz 4]
 (.Q 6 (.lda 8) [.qq 8]
 (.x 7 (.call 90) [.qq 0,.qq 1,.qz 5,.qz 6] none []
 (.out []))))))
 [0,1,8]
abbrev Wi:NC:=.reg
 (.out [(6,.const (.bool false))])
 []
abbrev Wh:NC:=.reg
 (.out [(6,.const (.bool true))])
 []
abbrev Jn:NC :=
 (.seq Ws
 (.seq Wr
 (.seq (.seq Wp
 (.block 0 (.seq Wo
 (.cond (.qq 31)
 Wn
 (.seq Wm
 (.cond (.qq 44)
 Wl
 (.seq Wi
 .ret)))))))
 (.seq Wh
 .ret))))
abbrev Yu:FN:=⟨Jn,[.qq 6]⟩
theorem oZ:GoT 58 Tryz.f58 Jn Yu:=goT (F:=Yu) Tryz.func58 (by kernel_rfl)
abbrev uS:NC:=.reg
 (.x 0 (.box 45) [.qq 1] none []
 (.x 1 (.box 36) [.qq 2] none []
 (.out [(0,.qq 0),(4,.qz 0),(5,.qz 1)])))
 [0,1,2]
abbrev uR:NC:=.reg
 (.Q 1 .nilck [.qq 0]
 (.Q 2 (.fld 0) [.qz 1]
 (.Q 3 .ld [.qz 2]
 (.out (qx [0,4,5] [(10,.qz 3),(11,.qj 0)])))))
 [0,4,5]
abbrev uP:NC:=.reg
 (.Q 0 (.icm .lss) [.qq 11,.qq 10]
 (.out (qx [0,4,5,10,11] [(12,.qz 0)])))
 [0,4,5,10,11]
abbrev uO:NC:=.reg
 (.out (qx [0,4,5] [(6,.qq 11),(10,.qq 10),(11,.qq 11)]))
 [0,4,5,10,11]
abbrev uN:NC:=.reg
 (.Q 2 .nilck [.qq 0]
 (.Q 3 (.fld 1) [.qz 2]
 (.Q 4 .ld [.qz 3]
 (.Q 5 (.icm .neq) [.qq 6,.qz 4]
 (.q 7 .mv [.qq 6] (some (.qz 5,true))
 (.q 8 (.ixa 7 1) [.qq 5,.qz 7] (some (.qz 5,true))
 (.q 9 .ld [.qz 8] (some (.qz 5,true))
 (.q 10 (.icm .eql) [.qz 9,.qj 0] (some (.qz 5,true))
 (.Q 11 .pick [.qz 5,.qz 10,.const (.bool false)]
 (.out (qx [0,4,5,6,10,11] [(25,.qz 11)])))))))))))
 [0,4,5,6,10,11]
abbrev uM:NC:=.reg
 (.Q 2 (.lda 51) [.qq 4]
 (.x 3 (.call 73) [.qq 0,.qq 6,.qz 2] none []
 (.out (qx [0,4,5,10,11] []))))
 [0,4,5,6,10,11]
abbrev uL:NC:=.reg
 (.Q 0 (.iar .add) [.qq 11,.qj 1]
 (.out (qx [0,4,5,10] [(11,.qz 0)])))
 [0,4,5,10,11]
abbrev uT:NC :=
 (.seq uP
 (.seq (.cond (.qq 12)
 .skip
 (.exit 0))
 (.seq (.block 1 (.seq uO
 (.seq uN
 (.cond (.qq 25)
 uM
 .skip))))
 uL)))
abbrev cU:NC :=
 (.seq uS
 (.seq uR
 (.block 0 (.loop [0,4,5,10,11] uT))))
abbrev dq:FN:=⟨cU,[]⟩
theorem uU:GoT 59 Tryz.f59 cU dq:=goT (F:=dq) Tryz.func59 (by kernel_rfl)
abbrev us:NC:=.reg
 (.x 0 (.alc [.int .i64 0,.int .i64 0,.int .i64 0,.int .i64 0,.int .i64 0,.int .i64 0,.int .i64 0,.int .i64 0,.int .i64 0,.int .i64 0,(.string ⟨#[]⟩),(.string ⟨#[]⟩),(.string ⟨#[]⟩),(.string ⟨#[]⟩),.int .i64 0,.int .i64 0,.int .i64 0,.int .i64 0,.int .i64 0,.int .i64 0,.int .i64 0,.int .i64 0,.int .i64 0,.int .i64 0,.int .i64 0,.int .i64 0,.int .i64 0,.int .i64 0,.int .i64 0,.int .i64 0,(.string ⟨#[]⟩),(.string ⟨#[]⟩),(.string ⟨#[]⟩),(.string ⟨#[]⟩),.int .i64 0,.int .i64 0,.int .i64 0,.int .i64 0,.int .i64 0,.int .i64 0,.int .i64 0,.int .i64 0,.bool false,.int .i64 0,.int .i64 0,.int .i64 0,.int .i64 0,.int .i64 0,.int .i64 0,.int .i64 0,(.string ⟨#[]⟩)] 45) [] none []
 (.out [(0,.qq 0),(2,.qz 0)]))
 [0]
abbrev ur:NC:=.reg
 (.Q 1 .nilck [.qq 0]
 (.Q 2 (.fld 0) [.qz 1]
 (.Q 3 (.lda 2) [.qz 2]
 (.Q 5 .nilck [.qq 0]
 (.Q 6 (.fld 3) [.qz 5]
 (.Q 7 (.lda 2) [.qz 6]
 (.Q 8 (.bld [.int .i64 0,.int .i64 0,.int .i64 0,.int .i64 0,.int .i64 0,.int .i64 0,.int .i64 0,.int .i64 0,.int .i64 0,.int .i64 0,(.string ⟨#[]⟩),(.string ⟨#[]⟩),(.string ⟨#[]⟩),(.string ⟨#[]⟩),.int .i64 0,.int .i64 0,.int .i64 0,.int .i64 0,.int .i64 0,.int .i64 0,.int .i64 0,.int .i64 0,.int .i64 0,.int .i64 0,.int .i64 0,.int .i64 0,.int .i64 0,.int .i64 0,.int .i64 0,.int .i64 0,(.string ⟨#[]⟩),(.string ⟨#[]⟩),(.string ⟨#[]⟩),(.string ⟨#[]⟩),.int .i64 0,.int .i64 0,.int .i64 0,.int .i64 0,.int .i64 0,.int .i64 0,.int .i64 0,.int .i64 0,.bool false,.int .i64 0,.int .i64 0,.int .i64 0,.int .i64 0,.int .i64 0,.int .i64 0,.int .i64 0,(.string ⟨#[]⟩)] [(3,2),(5,2)]) [.qz 3,.qz 7]
 (.x 9 (.alc [.int .i64 0,.int .i64 0,.int .i64 0,.int .i64 0,.int .i64 0,.int .i64 0,.int .i64 0,.int .i64 0,.int .i64 0,.int .i64 0,(.string ⟨#[]⟩),(.string ⟨#[]⟩),(.string ⟨#[]⟩),(.string ⟨#[]⟩),.int .i64 0,.int .i64 0,.int .i64 0,.int .i64 0,.int .i64 0,.int .i64 0,.int .i64 0,.int .i64 0,.int .i64 0,.int .i64 0,.int .i64 0,.int .i64 0,.int .i64 0,.int .i64 0,.int .i64 0,.int .i64 0,(.string ⟨#[]⟩),(.string ⟨#[]⟩),(.string ⟨#[]⟩),(.string ⟨#[]⟩),.int .i64 0,.int .i64 0,.int .i64 0,.int .i64 0,.int .i64 0,.int .i64 0,.int .i64 0,.int .i64 0,.bool false,.int .i64 0,.int .i64 0,.int .i64 0,.int .i64 0,.int .i64 0,.int .i64 0,.int .i64 0,(.string ⟨#[]⟩)] 45) [] none [(3,.lda 2,[.qz 2],none),(7,.lda 2,[.qz 6],none)]
 (.x 10 (.st 51) [.qz 9,.qz 8] none []
 (.out (qx [0,2] [(3,.qz 9)])))))))))))
 [0,2]
abbrev uo:NC:=.reg
 (.Q 1 .nilck [.qq 0]
 (.Q 2 (.fld 2) [.qz 1]
 (.Q 3 .ld [.qz 2]
 (.out (qx [0,2,3] [(16,.qz 3)])))))
 [0,2,3]
abbrev um:NC:=.reg
 (.Q 0 (.icm .eql) [.qq 16,.qj 0]
 (.out (qx [0,2,3,16] [(18,.qz 0)])))
 [0,2,3,16]
abbrev ul:NC:=.reg
 (.Q 1 .nilck [.qq 0]
 (.Q 2 (.fld 6) [.qz 1]
 (.Q 3 (.lda 7) [.qz 2]
 (.Q 5 .nilck [.qq 0]
 (.Q 6 (.fld 13) [.qz 5]
 (.Q 7 (.lda 8) [.qz 6]
 (.Q 8 (.fld 0) [.qq 3]
 (.x 9 (.st 1) [.qz 8,.qj 1] none [(3,.lda 7,[.qz 2],none),(7,.lda 8,[.qz 6],none)]
 (.Q 10 (.fld 7) [.qq 3]
 (.x 11 (.st 7) [.qz 10,.qz 3] none [(7,.lda 8,[.qz 6],none)]
 (.Q 12 (.fld 14) [.qq 3]
 (.x 13 (.st 8) [.qz 12,.qz 7] none []
 (.out (qx [2,3] []))))))))))))))
 [0,2,3]
abbrev ui:NC:=.reg
 (.Q 0 (.icm .eql) [.qq 16,.qj 1]
 (.out (qx [0,2,3] [(31,.qz 0)])))
 [0,2,3,16]
abbrev uh:NC:=.reg
 (.Q 1 .nilck [.qq 0]
 (.Q 2 (.fld 6) [.qz 1]
 (.Q 3 (.lda 7) [.qz 2]
 (.Q 5 .nilck [.qq 0]
 (.Q 6 (.fld 13) [.qz 5]
 (.Q 7 (.lda 8) [.qz 6]
 (.Q 8 (.fld 0) [.qq 3]
 (.x 9 (.st 1) [.qz 8,.qj 3] none [(3,.lda 7,[.qz 2],none),(7,.lda 8,[.qz 6],none)]
 (.Q 10 (.fld 7) [.qq 3]
 (.x 11 (.st 7) [.qz 10,.qz 3] none [(7,.lda 8,[.qz 6],none)]
 (.Q 12 (.fld 14) [.qq 3]
 (.x 13 (.st 8) [.qz 12,.qz 7] none []
 (.out (qx [2,3] []))))))))))))))
 [0,2,3]
abbrev ug:NC:=.reg
 (.Q 0 (.fld 0) [.qq 3]
 (.x 1 (.st 1) [.qz 0,.qj 6] none []
 (.out (qx [2,3] []))))
 [2,3]
abbrev uf:NC:=.reg
 (.Q 0 (.lda 51) [.qq 3]
 (.x 1 (.st 51) [.qq 2,.qz 0] none []
 (.out [(2,.qq 2)])))
 [2,3]
abbrev cM:NC :=
 (.seq us
 (.seq ur
 (.seq (.seq uo
 (.block 0 (.seq um
 (.cond (.qq 18)
 ul
 (.seq ui
 (.cond (.qq 31)
 uh
 ug))))))
 (.seq uf
 .ret))))
abbrev cN:FN:=⟨cM,[.cells 2 51]⟩
theorem uu:GoT 60 Tryz.f60 cM cN:=goT (F:=cN) Tryz.func60 (by kernel_rfl)
abbrev YT:NC:=.reg
 (.x 0 (.box 25) [.qq 1] none []
 (.out [(0,.qq 0),(3,.qz 0)]))
 [0,1]
abbrev YS:NC:=.reg
 (.Q 1 (.lda 2) [.qq 3]
 (.x 2 (.call 34) [.qq 0,.qz 1] none []
 (.Q 3 .not [.qz 2]
 (.q 5 .mv [.qq 0] (some (.qz 3,false))
 (.q 6 (.lda 2) [.qq 3] (some (.qz 3,false))
 (.x 7 (.call 36) [.qz 5,.qz 6] (some (.qz 3,false)) []
 (.q 8 (.eqp true) [.qz 7,.const (.pointer none)] (some (.qz 3,false))
 (.Q 9 .pick [.qz 3,.const (.bool true),.qz 8]
 (.q 11 .mv [.qq 0] (some (.qz 9,false))
 (.q 12 .nilck [.qz 11] (some (.qz 9,false))
 (.q 13 (.fld 5) [.qz 12] (some (.qz 9,false))
 (.q 14 .ld [.qz 13] (some (.qz 9,false))
 (.q 15 .len [.qz 14] (some (.qz 9,false))
 (.q 16 (.icm .geq) [.qz 15,.qj 256] (some (.qz 9,false))
 (.Q 17 .pick [.qz 9,.const (.bool true),.qz 16]
 (.out (qx [0,3] [(23,.qz 17)])))))))))))))))))
 [0,3]
abbrev YR:NC:=.reg
 (.out [(4,.const (.bool false))])
 []
abbrev YP:NC:=.reg
 (.out (qx [0,3] [(5,.qj 0)]))
 [0,3]
abbrev sD:NC:=.reg
 (.Q 2 .nilck [.qq 0]
 (.Q 3 (.fld 5) [.qz 2]
 (.Q 4 .ld [.qz 3]
 (.Q 5 .len [.qz 4]
 (.Q 6 (.icm .lss) [.qq 5,.qz 5]
 (.q 8 .mv [.qq 0] (some (.qz 6,true))
 (.q 9 .nilck [.qz 8] (some (.qz 6,true))
 (.q 10 (.fld 5) [.qz 9] (some (.qz 6,true))
 (.q 11 .ld [.qz 10] (some (.qz 6,true))
 (.q 12 .mv [.qq 5] (some (.qz 6,true))
 (.q 13 (.ixs 1) [.qz 11,.qz 12] (some (.qz 6,true))
 (.q 14 .ld [.qz 13] (some (.qz 6,true))
 (.q 15 .nilck [.qz 14] (some (.qz 6,true))
 (.q 16 (.fld 0) [.qz 15] (some (.qz 6,true))
 (.q 17 (.lda 2) [.qz 16] (some (.qz 6,true))
 (.q 18 (.lda 2) [.qq 3] (some (.qz 6,true))
 (.x 19 (.call 93) [.qz 17,.qz 18] (some (.qz 6,true)) []
 (.Q 20 .pick [.qz 6,.qz 19,.const (.bool false)]
 (.out (qx [0,3,5] [(44,.qz 20)]))))))))))))))))))))
 [0,3,5]
abbrev sC:NC:=.reg
 (.Q 1 (.iar .add) [.qq 5,.qj 1]
 (.out (qx [0,3] [(5,.qz 1)])))
 [0,3,5]
abbrev JD:NC :=
 (.seq (.seq sD
 (.cond (.qq 44)
 .skip
 (.exit 0)))
 (.block 1 sC))
abbrev xJ:NC:=.reg
 (.Q 2 .nilck [.qq 0]
 (.Q 3 (.fld 5) [.qz 2]
 (.Q 4 .ld [.qz 3]
 (.Q 6 (.lda 2) [.qq 3]
 (.Q 7 (.bld zL3 [(0,2)]) [.qz 6]
 (.x 8 (.box 98) [.qz 7] none [(4,.ld,[.qz 3],none)]
 (.x 9 (.bsl 94 1 [.pointer none] [(0,1)]) [.qz 8] none [(4,.ld,[.qz 3],none)]
 (.x 10 (.call 94) [.qz 4,.qq 5,.qz 9] none []
 (.Q 11 .nilck [.qq 0]
 (.Q 12 (.fld 5) [.qz 11]
 (.x 13 (.st 1) [.qz 12,.qz 10] none []
 (.out []))))))))))))
 [0,3,5]
abbrev xZ:NC:=.reg
 (.out [(4,.const (.bool true))])
 []
abbrev Xt:NC :=
 (.seq YT
 (.seq (.seq YS
 (.cond (.qq 23)
 (.seq YR
 .ret)
 .skip))
 (.seq YP
 (.seq (.block 0 (.loop [0,3,5] JD))
 (.seq xJ
 (.seq xZ
 .ret))))))
abbrev bm:FN:=⟨Xt,[.qq 4]⟩
theorem sE:GoT 62 Tryz.f62 Xt bm:=goT (F:=bm) Tryz.func62 (by kernel_rfl)
abbrev fE:NC:=.reg
 (.out (qx [0,1] []))
 [0,1]
abbrev fD:NC:=.reg
 (.Q 1 .ld [.qq 1]
 (.Q 2 (.eqq false) [.qq 0,.qz 1]
 (.out [(3,.qz 2)])))
 [0,1]
abbrev VJ:NC :=
 (.seq fE
 (.seq fD
 .ret))
abbrev VX:FN:=⟨VJ,[.qq 3]⟩
theorem fF:GoT 65 Tryz.f65 VJ VX:=goT (F:=VX) Tryz.func65 (by kernel_rfl)
abbrev sx:NC:=.reg
 (.Q 2 .nilck [.qq 1]
 (.Q 3 (.fld 0) [.qz 2]
 (.Q 4 (.lda 2) [.qz 3]
 (.x 5 (.call 74) [.qq 0,.qz 4] none []
 (.out (qx [0,1] []))))))
 [0,1]
abbrev sj:NC:=.reg
 (.out (qx [0,1] [(4,.qj 0)]))
 [0,1]
abbrev sq:NC:=.reg
 (.Q 2 .nilck [.qq 0]
 (.Q 3 (.fld 4) [.qz 2]
 (.Q 4 .ld [.qz 3]
 (.Q 5 .len [.qz 4]
 (.Q 6 (.icm .lss) [.qq 4,.qz 5]
 (.q 8 .mv [.qq 0] (some (.qz 6,true))
 (.q 9 .nilck [.qz 8] (some (.qz 6,true))
 (.q 10 (.fld 4) [.qz 9] (some (.qz 6,true))
 (.q 11 .ld [.qz 10] (some (.qz 6,true))
 (.q 12 .mv [.qq 4] (some (.qz 6,true))
 (.q 13 (.ixs 1) [.qz 11,.qz 12] (some (.qz 6,true))
 (.q 14 .ld [.qz 13] (some (.qz 6,true))
 (.q 15 .nilck [.qz 14] (some (.qz 6,true))
 (.q 16 (.fld 0) [.qz 15] (some (.qz 6,true))
 (.q 17 (.lda 2) [.qz 16] (some (.qz 6,true))
 (.q 18 .mv [.qq 1] (some (.qz 6,true))
 (.q 19 .nilck [.qz 18] (some (.qz 6,true))
 (.q 20 (.fld 0) [.qz 19] (some (.qz 6,true))
 (.q 21 (.lda 2) [.qz 20] (some (.qz 6,true))
 (.x 22 (.call 93) [.qz 17,.qz 21] (some (.qz 6,true)) []
 (.Q 23 .pick [.qz 6,.qz 22,.const (.bool false)]
 (.out (qx [0,1,4] [(34,.qz 23)])))))))))))))))))))))))
 [0,1,4]
abbrev rU:NC:=.reg
 (.Q 1 (.iar .add) [.qq 4,.qj 1]
 (.out (qx [0,1] [(4,.qz 1)])))
 [0,1,4]
abbrev sk:NC :=
 (.seq (.seq sq
 (.cond (.qq 34)
 .skip
 (.exit 0)))
 (.block 1 rU))
abbrev Jo:NC:=.reg
 (.Q 2 .nilck [.qq 0]
 (.Q 3 (.fld 4) [.qz 2]
 (.Q 4 .ld [.qz 3]
 (.x 7 (.bsl 88 1 [.pointer none] [(0,1)]) [.qq 1] none []
 (.x 8 (.call 98) [.qz 4,.qq 4,.qz 7] none []
 (.Q 9 .nilck [.qq 0]
 (.Q 10 (.fld 4) [.qz 9]
 (.x 11 (.st 1) [.qz 10,.qz 8] none []
 (.out [])))))))))
 [0,1,4]
abbrev aU:NC :=
 (.seq sx
 (.seq sj
 (.seq (.block 0 (.loop [0,1,4] sk))
 Jo)))
abbrev bq:FN:=⟨aU,[]⟩
theorem sv:GoT 68 Tryz.f68 aU bq:=goT (F:=bq) Tryz.func68 (by kernel_rfl)
abbrev sQ:NC:=.reg
 (.x 0 (.box 45) [.qq 2] none []
 (.out (qx [0,1] [(5,.qz 0)])))
 [0,1,2]
abbrev sy:NC:=.reg
 (.Q 1 .nilck [.qq 0]
 (.Q 2 (.fld 1) [.qz 1]
 (.Q 3 .ld [.qz 2]
 (.Q 5 (.fld 1) [.qq 5]
 (.x 6 (.st 1) [.qz 5,.qz 3] none []
 (.Q 7 (.fld 2) [.qq 5]
 (.x 8 (.st 1) [.qz 7,.qq 1] none []
 (.out (qx [0,5] [])))))))))
 [0,1,5]
abbrev sw:NC:=.reg
 (.Q 2 .nilck [.qq 0]
 (.Q 3 (.fld 7) [.qz 2]
 (.Q 4 .ld [.qz 3]
 (.Q 5 (.lda 51) [.qq 5]
 (.x 6 (.bsl 45 1 [.int .i64 0,.int .i64 0,.int .i64 0,.int .i64 0,.int .i64 0,.int .i64 0,.int .i64 0,.int .i64 0,.int .i64 0,.int .i64 0,(.string ⟨#[]⟩),(.string ⟨#[]⟩),(.string ⟨#[]⟩),(.string ⟨#[]⟩),.int .i64 0,.int .i64 0,.int .i64 0,.int .i64 0,.int .i64 0,.int .i64 0,.int .i64 0,.int .i64 0,.int .i64 0,.int .i64 0,.int .i64 0,.int .i64 0,.int .i64 0,.int .i64 0,.int .i64 0,.int .i64 0,(.string ⟨#[]⟩),(.string ⟨#[]⟩),(.string ⟨#[]⟩),(.string ⟨#[]⟩),.int .i64 0,.int .i64 0,.int .i64 0,.int .i64 0,.int .i64 0,.int .i64 0,.int .i64 0,.int .i64 0,.bool false,.int .i64 0,.int .i64 0,.int .i64 0,.int .i64 0,.int .i64 0,.int .i64 0,.int .i64 0,(.string ⟨#[]⟩)] [(0,51)]) [.qz 5] none [(4,.ld,[.qz 3],none)]
 (.x 7 (.app 45 51 480 [.int .i64 0,.int .i64 0,.int .i64 0,.int .i64 0,.int .i64 0,.int .i64 0,.int .i64 0,.int .i64 0,.int .i64 0,.int .i64 0,(.string ⟨#[]⟩),(.string ⟨#[]⟩),(.string ⟨#[]⟩),(.string ⟨#[]⟩),.int .i64 0,.int .i64 0,.int .i64 0,.int .i64 0,.int .i64 0,.int .i64 0,.int .i64 0,.int .i64 0,.int .i64 0,.int .i64 0,.int .i64 0,.int .i64 0,.int .i64 0,.int .i64 0,.int .i64 0,.int .i64 0,(.string ⟨#[]⟩),(.string ⟨#[]⟩),(.string ⟨#[]⟩),(.string ⟨#[]⟩),.int .i64 0,.int .i64 0,.int .i64 0,.int .i64 0,.int .i64 0,.int .i64 0,.int .i64 0,.int .i64 0,.bool false,.int .i64 0,.int .i64 0,.int .i64 0,.int .i64 0,.int .i64 0,.int .i64 0,.int .i64 0,(.string ⟨#[]⟩)]) [.qz 4,.qz 6] none []
 (.Q 8 .nilck [.qq 0]
 (.Q 9 (.fld 7) [.qz 8]
 (.x 10 (.st 1) [.qz 9,.qz 7] none []
 (.out []))))))))))
 [0,5]
abbrev bj:NC :=
 (.seq sQ
 (.seq sy
 sw))
abbrev bQ:FN:=⟨bj,[]⟩
theorem sZ:GoT 73 Tryz.f73 bj bQ:=goT (F:=bQ) Tryz.func73 (by kernel_rfl)
abbrev oX:NC:=.reg
 (.x 0 (.box 25) [.qq 1] none []
 (.out [(0,.qq 0),(3,.qz 0)]))
 [0,1]
abbrev oJ:NC:=.reg
 (.Q 2 .nilck [.qq 0]
 (.Q 3 (.fld 4) [.qz 2]
 (.Q 4 .ld [.qz 3]
 (.Q 5 (.mkf (.func 100) 0) [.qq 3]
 (.x 6 (.call 99) [.qz 4,.qz 5] none []
 (.Q 7 .nilck [.qq 0]
 (.Q 8 (.fld 4) [.qz 7]
 (.x 9 (.st 1) [.qz 8,.qz 6] none []
 (.out [])))))))))
 [0,3]
abbrev YG:NC :=
 (.seq oX
 oJ)
abbrev YH:FN:=⟨YG,[]⟩
theorem oK:GoT 74 Tryz.f74 YG YH:=goT (F:=YH) Tryz.func74 (by kernel_rfl)
abbrev bW:NC:=.reg
 (.x 0 (.box 45) [.qq 1] none []
 (.x 1 (.box 41) [.qq 2] none []
 (.out (qx [0,3] [(5,.qz 0),(6,.qz 1)]))))
 [0,1,2,3]
abbrev bV:NC:=.reg
 (.Q 0 (.fld 3) [.qq 5]
 (.Q 1 (.lda 2) [.qz 0]
 (.Q 2 (.fld 5) [.qq 5]
 (.Q 3 (.lda 2) [.qz 2]
 (.Q 4 (.fld 12) [.qq 6]
 (.Q 5 (.lda 8) [.qz 4]
 (.Q 6 (.bld [.int .i64 0,.int .i64 0,.int .i64 0,.int .i64 0,.int .i64 0,.int .i64 0,.int .i64 0,.int .i64 0,.int .i64 0,.int .i64 0,(.string ⟨#[]⟩),(.string ⟨#[]⟩),(.string ⟨#[]⟩),(.string ⟨#[]⟩),.int .i64 0,.int .i64 0,.int .i64 0,.int .i64 0,.int .i64 0,.int .i64 0,.int .i64 0,.int .i64 0,.int .i64 0,.int .i64 0,.int .i64 0,.int .i64 0,.int .i64 0,.int .i64 0,.int .i64 0,.int .i64 0,(.string ⟨#[]⟩),(.string ⟨#[]⟩),(.string ⟨#[]⟩),(.string ⟨#[]⟩),.int .i64 0,.int .i64 0,.int .i64 0,.int .i64 0,.int .i64 0,.int .i64 0,.int .i64 0,.int .i64 0,.bool false,.int .i64 0,.int .i64 0,.int .i64 0,.int .i64 0,.int .i64 0,.int .i64 0,.int .i64 0,(.string ⟨#[]⟩)] [(0,1),(3,2),(5,2),(14,8)]) [.qj 2,.qz 1,.qz 3,.qz 5]
 (.x 7 (.alc [.int .i64 0,.int .i64 0,.int .i64 0,.int .i64 0,.int .i64 0,.int .i64 0,.int .i64 0,.int .i64 0,.int .i64 0,.int .i64 0,(.string ⟨#[]⟩),(.string ⟨#[]⟩),(.string ⟨#[]⟩),(.string ⟨#[]⟩),.int .i64 0,.int .i64 0,.int .i64 0,.int .i64 0,.int .i64 0,.int .i64 0,.int .i64 0,.int .i64 0,.int .i64 0,.int .i64 0,.int .i64 0,.int .i64 0,.int .i64 0,.int .i64 0,.int .i64 0,.int .i64 0,(.string ⟨#[]⟩),(.string ⟨#[]⟩),(.string ⟨#[]⟩),(.string ⟨#[]⟩),.int .i64 0,.int .i64 0,.int .i64 0,.int .i64 0,.int .i64 0,.int .i64 0,.int .i64 0,.int .i64 0,.bool false,.int .i64 0,.int .i64 0,.int .i64 0,.int .i64 0,.int .i64 0,.int .i64 0,.int .i64 0,(.string ⟨#[]⟩)] 45) [] none []
 (.x 8 (.st 51) [.qz 7,.qz 6] none []
 (.out (qx [0,3,5,6] [(8,.qz 7)])))))))))))
 [0,3,5,6]
abbrev bK:NC:=.reg
 (.out (qx [0,5,6,8] [(18,.qq 3)]))
 [0,3,5,6,8]
abbrev bX:NC:=.reg
 (.Q 0 (.fld 0) [.qq 6]
 (.Q 1 .ld [.qz 0]
 (.Q 2 (.icm .eql) [.qz 1,.qj 1]
 (.out (qx [0,5,8] [(21,.qz 2)])))))
 [0,5,6,8]
abbrev bJ:NC:=.reg
 (.Q 1 (.fld 1) [.qq 5]
 (.Q 2 .ld [.qz 1]
 (.Q 3 (.lda 51) [.qq 8]
 (.x 4 (.call 73) [.qq 0,.qz 2,.qz 3] none []
 (.out [])))))
 [0,5,8]
abbrev bZ:NC:=.reg
 (.Q 0 (.fld 14) [.qq 5]
 (.Q 1 (.lda 8) [.qz 0]
 (.Q 3 .nilck [.qq 0]
 (.Q 4 (.fld 3) [.qz 3]
 (.Q 5 .ld [.qz 4]
 (.Q 6 (.fld 3) [.qq 5]
 (.Q 7 (.lda 2) [.qz 6]
 (.Q 8 (.fld 7) [.qq 5]
 (.Q 9 (.lda 7) [.qz 8]
 (.both
 (.x 10 (.call 29) [.qz 5,.qz 7,.qz 9] none [(1,.lda 8,[.qz 0],none)]
 (.both
 (.x 11 (.bsl 39 2 zL4 [(0,8),(8,8)]) [.qz 1,.qz 10] none []
 (.both
 (.x 12 (.call 101) [.qz 11] none []
 (.x 13 (.alc zL0 39) [] none [(1,.lda 8,[.qz 0],none),(5,.ld,[.qz 4],none),(7,.lda 2,[.qz 6],none),(9,.lda 7,[.qz 8],none)]
 (.x 14 (.st 8) [.qz 13,.qz 12] none []
 (.out (qx [0,5,8] [(9,.qz 13)])))))
 (.x 13 (.alc zL0 39) [] none [(1,.lda 8,[.qz 0],none),(5,.ld,[.qz 4],none),(7,.lda 2,[.qz 6],none),(9,.lda 7,[.qz 8],none)]
 (.x 12 (.call 101) [.qz 11] none []
 (.x 14 (.st 8) [.qz 13,.qz 12] none []
 (.out (qx [0,5,8] [(9,.qz 13)])))))))
 (.x 13 (.alc zL0 39) [] none [(1,.lda 8,[.qz 0],none),(5,.ld,[.qz 4],none),(7,.lda 2,[.qz 6],none),(9,.lda 7,[.qz 8],none)]
 (.x 11 (.bsl 39 2 zL4 [(0,8),(8,8)]) [.qz 1,.qz 10] none []
 (.x 12 (.call 101) [.qz 11] none []
 (.x 14 (.st 8) [.qz 13,.qz 12] none []
 (.out (qx [0,5,8] [(9,.qz 13)]))))))))
 (.x 13 (.alc zL0 39) [] none [(1,.lda 8,[.qz 0],none),(5,.ld,[.qz 4],none),(7,.lda 2,[.qz 6],none),(9,.lda 7,[.qz 8],none)]
 (.x 10 (.call 29) [.qz 5,.qz 7,.qz 9] none [(1,.lda 8,[.qz 0],none)]
 (.x 11 (.bsl 39 2 zL4 [(0,8),(8,8)]) [.qz 1,.qz 10] none []
 (.x 12 (.call 101) [.qz 11] none []
 (.x 14 (.st 8) [.qz 13,.qz 12] none []
 (.out (qx [0,5,8] [(9,.qz 13)])))))))))))))))))
 [0,5,8]
abbrev Xs:NC:=.reg
 (.Q 0 (.fld 5) [.qq 5]
 (.Q 1 (.lda 2) [.qz 0]
 (.Q 2 (.bld [.int .i64 0,.int .i64 0] []) []
 (.Q 3 (.eqc false [.i .i64,.i .i64]) [.qz 1,.qz 2]
 (.q 5 (.lda 8) [.qq 9] (some (.qz 3,true))
 (.q 6 (.fld 14) [.qq 5] (some (.qz 3,true))
 (.q 7 (.lda 8) [.qz 6] (some (.qz 3,true))
 (.q 8 (.eqc false [.i .i64,.i .i64,.i .i64,.i .i64,.i .i64,.i .i64,.i .i64,.i .i64]) [.qz 5,.qz 7] (some (.qz 3,true))
 (.Q 9 .pick [.qz 3,.qz 8,.const (.bool false)]
 (.out (qx [0,5,8,9] [(10,.qz 9)])))))))))))
 [0,5,8,9]
abbrev xF:NC:=.reg
 (.Q 0 (.lda 8) [.qq 9]
 (.x 1 (.call 30) [.qz 0] none []
 (.Q 2 .not [.qz 1]
 (.q 4 .mv [.qq 0] (some (.qz 2,false))
 (.q 5 (.fld 3) [.qq 5] (some (.qz 2,false))
 (.q 6 (.lda 2) [.qz 5] (some (.qz 2,false))
 (.q 7 (.fld 5) [.qq 5] (some (.qz 2,false))
 (.q 8 (.lda 2) [.qz 7] (some (.qz 2,false))
 (.q 9 (.fld 5) [.qq 5] (some (.qz 2,false))
 (.q 10 (.lda 2) [.qz 9] (some (.qz 2,false))
 (.q 11 (.fld 7) [.qq 5] (some (.qz 2,false))
 (.q 12 (.lda 7) [.qz 11] (some (.qz 2,false))
 (.q 13 (.lda 8) [.qq 9] (some (.qz 2,false))
 (.q 14 .mv [.qq 10] (some (.qz 2,false))
 (.q 15 (.bld [.int .i64 0,.int .i64 0,.int .i64 0,.int .i64 0,.int .i64 0,.int .i64 0,.int .i64 0,.int .i64 0,(.string ⟨#[]⟩),(.string ⟨#[]⟩),(.string ⟨#[]⟩),(.string ⟨#[]⟩),.int .i64 0,.int .i64 0,.int .i64 0,.int .i64 0,.int .i64 0,.int .i64 0,.int .i64 0,.int .i64 0,.bool false] [(0,1),(1,2),(3,2),(5,7),(12,8),(20,1)]) [.qj 1,.qz 8,.qz 10,.qz 12,.qz 13,.qz 14] (some (.qz 2,false))
 (.x 16 (.call 31) [.qz 4,.qz 6,.qz 15] (some (.qz 2,false)) []
 (.q 17 .not [.qz 16] (some (.qz 2,false))
 (.Q 18 .pick [.qz 2,.const (.bool true),.qz 17]
 (.out (qx [0,5,8,9] [(68,.qz 18)]))))))))))))))))))))
 [0,5,8,9,10]
abbrev xE:NC:=.reg
 (.Q 0 (.lda 8) [.qq 9]
 (.Q 1 (.fld 14) [.qq 8]
 (.x 2 (.st 8) [.qz 1,.qz 0] none []
 (.out (qx [0,5,8] [])))))
 [0,5,8,9]
abbrev xD:NC:=.reg
 (.Q 1 (.fld 1) [.qq 5]
 (.Q 2 .ld [.qz 1]
 (.Q 3 (.lda 51) [.qq 8]
 (.x 4 (.call 73) [.qq 0,.qz 2,.qz 3] none []
 (.out [])))))
 [0,5,8]
abbrev KB:NC :=
 (.seq bW
 (.seq bV
 (.seq (.seq bK
 (.cond (.qq 18)
 (.seq (.seq bX
 (.cond (.qq 21)
 bJ
 .skip))
 .ret)
 .skip))
 (.seq bZ
 (.seq Xs
 (.seq (.seq xF
 (.cond (.qq 68)
 .ret
 .skip))
 (.seq xE
 xD)))))))
abbrev cR:FN:=⟨KB,[]⟩
theorem bY:GoT 75 Tryz.f75 KB cR:=goT (F:=cR) Tryz.func75 (by kernel_rfl)
abbrev VQ:NC:=.reg
 (.x 0 (.box 25) [.qq 1] none []
 (.x 1 (.box 30) [.qq 2] none []
 (.x 2 (.box 39) [.qq 3] none []
 (.out [(0,.qq 0),(5,.qz 0),(6,.qz 1),(7,.qz 2)]))))
 [0,1,2,3]
abbrev Vy:NC:=.reg
 (.Q 1 (.lda 2) [.qq 5]
 (.x 2 (.call 74) [.qq 0,.qz 1] none []
 (.out (qx [0,5,6,7] []))))
 [0,5,6,7]
abbrev Vw:NC:=.reg
 (.Q 1 .nilck [.qq 0]
 (.Q 2 (.fld 2) [.qz 1]
 (.Q 3 .ld [.qz 2]
 (.Q 4 (.lda 2) [.qq 5]
 (.both
 (.x 5 (.call 33) [.qz 3,.qz 4] none []
 (.Q 7 (.ext 0) [.qz 5]
 (.Q 8 (.ext 1) [.qz 5]
 (.x 9 (.alc [.int .i64 0,.int .i64 0,.int .i64 0,.int .i64 0,.int .i64 0,.int .i64 0,.int .i64 0,.int .i64 0,(.string ⟨#[]⟩),(.string ⟨#[]⟩),(.string ⟨#[]⟩),(.string ⟨#[]⟩),.int .i64 0,.int .i64 0,.int .i64 0,.int .i64 0,.int .i64 0,.int .i64 0,.int .i64 0,.int .i64 0,.bool false] 41) [] none [(3,.ld,[.qz 2],none),(4,.lda 2,[.qq 5],none)]
 (.x 10 (.st 21) [.qz 9,.qz 7] none []
 (.out (qx [0,5,6,7] [(8,.qz 9)])))))))
 (.x 9 (.alc [.int .i64 0,.int .i64 0,.int .i64 0,.int .i64 0,.int .i64 0,.int .i64 0,.int .i64 0,.int .i64 0,(.string ⟨#[]⟩),(.string ⟨#[]⟩),(.string ⟨#[]⟩),(.string ⟨#[]⟩),.int .i64 0,.int .i64 0,.int .i64 0,.int .i64 0,.int .i64 0,.int .i64 0,.int .i64 0,.int .i64 0,.bool false] 41) [] none [(3,.ld,[.qz 2],none),(4,.lda 2,[.qq 5],none)]
 (.x 5 (.call 33) [.qz 3,.qz 4] none []
 (.Q 7 (.ext 0) [.qz 5]
 (.Q 8 (.ext 1) [.qz 5]
 (.x 10 (.st 21) [.qz 9,.qz 7] none []
 (.out (qx [0,5,6,7] [(8,.qz 9)]))))))))))))
 [0,5,6,7]
abbrev Vv:NC:=.reg
 (.Q 1 (.lda 2) [.qq 5]
 (.Q 2 (.fld 1) [.qq 8]
 (.Q 3 (.lda 2) [.qz 2]
 (.Q 4 (.fld 3) [.qq 8]
 (.Q 5 (.lda 2) [.qz 4]
 (.Q 6 (.lda 7) [.qq 6]
 (.Q 7 (.lda 8) [.qq 7]
 (.Q 8 (.bld [.int .i64 0,.int .i64 0,.int .i64 0,.int .i64 0,.int .i64 0,.int .i64 0,.int .i64 0,.int .i64 0,(.string ⟨#[]⟩),(.string ⟨#[]⟩),(.string ⟨#[]⟩),(.string ⟨#[]⟩),.int .i64 0,.int .i64 0,.int .i64 0,.int .i64 0,.int .i64 0,.int .i64 0,.int .i64 0,.int .i64 0,.bool false] [(0,1),(1,2),(3,2),(5,7),(12,8)]) [.qj 3,.qz 3,.qz 5,.qz 6,.qz 7]
 (.x 9 (.call 31) [.qq 0,.qz 1,.qz 8] none []
 (.out (qx [0,5,6,7] [(31,.qz 9)])))))))))))
 [0,5,6,7,8]
abbrev Vk:NC:=.reg
 (.Q 1 (.lda 2) [.qq 5]
 (.Q 2 (.lda 7) [.qq 6]
 (.Q 3 (.lda 8) [.qq 7]
 (.Q 4 (.bld [.int .i64 0,.int .i64 0,.int .i64 0,.int .i64 0,.int .i64 0,.int .i64 0,.int .i64 0,.int .i64 0,.int .i64 0,.int .i64 0,(.string ⟨#[]⟩),(.string ⟨#[]⟩),(.string ⟨#[]⟩),(.string ⟨#[]⟩),.int .i64 0,.int .i64 0,.int .i64 0,.int .i64 0,.int .i64 0,.int .i64 0,.int .i64 0,.int .i64 0,.int .i64 0,.int .i64 0,.int .i64 0,.int .i64 0,.int .i64 0,.int .i64 0,.int .i64 0,.int .i64 0,(.string ⟨#[]⟩),(.string ⟨#[]⟩),(.string ⟨#[]⟩),(.string ⟨#[]⟩),.int .i64 0,.int .i64 0,.int .i64 0,.int .i64 0,.int .i64 0,.int .i64 0,.int .i64 0,.int .i64 0,.bool false,.int .i64 0,.int .i64 0,.int .i64 0,.int .i64 0,.int .i64 0,.int .i64 0,.int .i64 0,(.string ⟨#[]⟩)] [(0,1),(3,2),(7,7),(14,8)]) [.qj 5,.qz 1,.qz 2,.qz 3]
 (.Q 5 (.bld zL2 []) []
 (.x 6 (.call 59) [.qq 0,.qz 4,.qz 5] none []
 (.out [])))))))
 [0,5,6,7]
abbrev Zd:NC :=
 (.seq VQ
 (.seq Vy
 (.seq Vw
 (.seq Vv
 (.cond (.qq 31)
 Vk
 .skip)))))
abbrev Wt:FN:=⟨Zd,[]⟩
theorem lK:GoT 77 Tryz.f77 Zd Wt:=goT (F:=Wt) Tryz.func77 (by kernel_rfl)
abbrev Xv:NC:=.reg
 (.Q 1 .nilck [.qq 0]
 (.Q 2 (.fld 0) [.qz 1]
 (.Q 3 .ld [.qz 2]
 (.Q 5 .nilck [.qq 1]
 (.Q 6 (.fld 0) [.qz 5]
 (.Q 7 (.fld 0) [.qz 6]
 (.Q 8 .ld [.qz 7]
 (.Q 10 .nilck [.qq 1]
 (.Q 11 (.fld 29) [.qz 10]
 (.Q 12 .ld [.qz 11]
 (.both
 (.x 13 (.call 102) [.qz 3,.qz 8,.qz 12] none []
 (.Q 15 (.ext 0) [.qz 13]
 (.Q 16 (.ext 1) [.qz 13]
 (.Q 17 (.ext 2) [.qz 13]
 (.both
 (.x 18 (.alc [.int .i64 0,.int .i64 0,.int .i64 0,(.string ⟨#[]⟩),(.string ⟨#[]⟩),(.string ⟨#[]⟩),(.string ⟨#[]⟩)] 30) [] none [(3,.ld,[.qz 2],none),(8,.ld,[.qz 7],none),(12,.ld,[.qz 11],none)]
 (.x 19 (.alc zL0 39) [] none [(3,.ld,[.qz 2],none),(8,.ld,[.qz 7],none),(12,.ld,[.qz 11],none)]
 (.x 21 (.st 7) [.qz 18,.qz 16] none []
 (.x 22 (.st 8) [.qz 19,.qz 17] none []
 (.out (qx [0,1] [(4,.qz 15),(5,.qz 18),(6,.qz 19)]))))))
 (.x 19 (.alc zL0 39) [] none [(3,.ld,[.qz 2],none),(8,.ld,[.qz 7],none),(12,.ld,[.qz 11],none)]
 (.x 18 (.alc [.int .i64 0,.int .i64 0,.int .i64 0,(.string ⟨#[]⟩),(.string ⟨#[]⟩),(.string ⟨#[]⟩),(.string ⟨#[]⟩)] 30) [] none [(3,.ld,[.qz 2],none),(8,.ld,[.qz 7],none),(12,.ld,[.qz 11],none)]
 (.x 21 (.st 7) [.qz 18,.qz 16] none []
 (.x 22 (.st 8) [.qz 19,.qz 17] none []
 (.out (qx [0,1] [(4,.qz 15),(5,.qz 18),(6,.qz 19)])))))))))))
 (.both
 (.x 18 (.alc [.int .i64 0,.int .i64 0,.int .i64 0,(.string ⟨#[]⟩),(.string ⟨#[]⟩),(.string ⟨#[]⟩),(.string ⟨#[]⟩)] 30) [] none [(3,.ld,[.qz 2],none),(8,.ld,[.qz 7],none),(12,.ld,[.qz 11],none)]
 (.both
 (.x 13 (.call 102) [.qz 3,.qz 8,.qz 12] none []
 (.Q 15 (.ext 0) [.qz 13]
 (.Q 16 (.ext 1) [.qz 13]
 (.Q 17 (.ext 2) [.qz 13]
 (.x 19 (.alc zL0 39) [] none [(3,.ld,[.qz 2],none),(8,.ld,[.qz 7],none),(12,.ld,[.qz 11],none)]
 (.x 21 (.st 7) [.qz 18,.qz 16] none []
 (.x 22 (.st 8) [.qz 19,.qz 17] none []
 (.out (qx [0,1] [(4,.qz 15),(5,.qz 18),(6,.qz 19)])))))))))
 (.x 19 (.alc zL0 39) [] none [(3,.ld,[.qz 2],none),(8,.ld,[.qz 7],none),(12,.ld,[.qz 11],none)]
 (.x 13 (.call 102) [.qz 3,.qz 8,.qz 12] none []
 (.Q 15 (.ext 0) [.qz 13]
 (.Q 16 (.ext 1) [.qz 13]
 (.Q 17 (.ext 2) [.qz 13]
 (.x 21 (.st 7) [.qz 18,.qz 16] none []
 (.x 22 (.st 8) [.qz 19,.qz 17] none []
 (.out (qx [0,1] [(4,.qz 15),(5,.qz 18),(6,.qz 19)])))))))))))
 (.x 19 (.alc zL0 39) [] none [(3,.ld,[.qz 2],none),(8,.ld,[.qz 7],none),(12,.ld,[.qz 11],none)]
 (.both
 (.x 13 (.call 102) [.qz 3,.qz 8,.qz 12] none []
 (.Q 15 (.ext 0) [.qz 13]
 (.Q 16 (.ext 1) [.qz 13]
 (.Q 17 (.ext 2) [.qz 13]
 (.x 18 (.alc [.int .i64 0,.int .i64 0,.int .i64 0,(.string ⟨#[]⟩),(.string ⟨#[]⟩),(.string ⟨#[]⟩),(.string ⟨#[]⟩)] 30) [] none [(3,.ld,[.qz 2],none),(8,.ld,[.qz 7],none),(12,.ld,[.qz 11],none)]
 (.x 21 (.st 7) [.qz 18,.qz 16] none []
 (.x 22 (.st 8) [.qz 19,.qz 17] none []
 (.out (qx [0,1] [(4,.qz 15),(5,.qz 18),(6,.qz 19)])))))))))
 (.x 18 (.alc [.int .i64 0,.int .i64 0,.int .i64 0,(.string ⟨#[]⟩),(.string ⟨#[]⟩),(.string ⟨#[]⟩),(.string ⟨#[]⟩)] 30) [] none [(3,.ld,[.qz 2],none),(8,.ld,[.qz 7],none),(12,.ld,[.qz 11],none)]
 (.x 13 (.call 102) [.qz 3,.qz 8,.qz 12] none []
 (.Q 15 (.ext 0) [.qz 13]
 (.Q 16 (.ext 1) [.qz 13]
 (.Q 17 (.ext 2) [.qz 13]
 (.x 21 (.st 7) [.qz 18,.qz 16] none []
 (.x 22 (.st 8) [.qz 19,.qz 17] none []
 (.out (qx [0,1] [(4,.qz 15),(5,.qz 18),(6,.qz 19)])))))))))))))))))))))))
 [0,1]
abbrev Xk:NC:=.reg
 (.out (qx [0,1,5,6] [(25,.qq 4)]))
 [0,1,4,5,6]
abbrev Xx:NC:=.reg
 (.Q 0 (.icm .eql) [.qq 25,.qj 1]
 (.out (qx [0,1,5,6,25] [(26,.qz 0)])))
 [0,1,5,6,25]
abbrev Xj:NC:=.reg
 (.Q 2 .nilck [.qq 1]
 (.Q 3 (.fld 0) [.qz 2]
 (.Q 4 (.lda 2) [.qz 3]
 (.Q 5 (.lda 7) [.qq 5]
 (.Q 6 (.lda 8) [.qq 6]
 (.x 7 (.call 77) [.qq 0,.qz 4,.qz 5,.qz 6] none []
 (.out [])))))))
 [0,1,5,6]
abbrev Xz:NC:=.reg
 (.Q 0 (.icm .eql) [.qq 25,.qj 2]
 (.out (qx [0,1,5,6,25] [(36,.qz 0)])))
 [0,1,5,6,25]
abbrev Xq:NC:=.reg
 (.Q 2 (.lda 7) [.qq 5]
 (.Q 3 (.lda 8) [.qq 6]
 (.x 4 (.call 90) [.qq 0,.qq 1,.qz 2,.qz 3] none []
 (.out []))))
 [0,1,5,6]
abbrev JU:NC:=.reg
 (.Q 0 (.icm .eql) [.qq 25,.qj 4]
 (.out (qx [0,1,5,6,25] [(43,.qz 0)])))
 [0,1,5,6,25]
abbrev JT:NC:=.reg
 (.Q 2 (.bld [.int .i64 0,.int .i64 0,.int .i64 0,(.string ⟨#[]⟩),(.string ⟨#[]⟩),(.string ⟨#[]⟩),(.string ⟨#[]⟩)] []) []
 (.Q 4 .nilck [.qq 1]
 (.Q 5 (.fld 0) [.qz 4]
 (.Q 6 (.lda 2) [.qz 5]
 (.x 7 (.call 103) [.qz 6] none []
 (.x 8 (.call 90) [.qq 0,.qq 1,.qz 2,.qz 7] none []
 (.out [])))))))
 [0,1]
abbrev JS:NC:=.reg
 (.Q 0 (.icm .eql) [.qq 25,.qj 3]
 (.out (qx [0,1,5,6] [(54,.qz 0)])))
 [0,1,5,6,25]
abbrev JR:NC:=.reg
 (.Q 2 (.lda 7) [.qq 5]
 (.Q 3 (.lda 8) [.qq 6]
 (.x 4 (.call 104) [.qq 0,.qq 1,.qz 2,.qz 3] none []
 (.out []))))
 [0,1,5,6]
abbrev wX:NC :=
 (.seq Xv
 (.seq Xk
 (.block 0 (.seq Xx
 (.cond (.qq 26)
 Xj
 (.seq Xz
 (.cond (.qq 36)
 Xq
 (.seq JU
 (.cond (.qq 43)
 JT
 (.seq JS
 (.cond (.qq 54)
 JR
 .skip)))))))))))
abbrev KW:FN:=⟨wX,[]⟩
theorem dt:GoT 78 Tryz.f78 wX KW:=goT (F:=KW) Tryz.func78 (by kernel_rfl)
abbrev lc:NC:=.reg
 (.x 0 (.box 30) [.qq 2] none []
 (.x 1 (.box 39) [.qq 3] none []
 (.out (qx [0,1] [(6,.qz 0),(7,.qz 1)]))))
 [0,1,2,3]
abbrev lY:NC:=.reg
 (.Q 0 (.lda 8) [.qq 7]
 (.x 1 (.call 30) [.qz 0] none []
 (.Q 2 .not [.qz 1]
 (.q 4 .mv [.qq 0] (some (.qz 2,false))
 (.q 5 .mv [.qq 1] (some (.qz 2,false))
 (.q 6 .nilck [.qz 5] (some (.qz 2,false))
 (.q 7 (.fld 0) [.qz 6] (some (.qz 2,false))
 (.q 8 (.lda 2) [.qz 7] (some (.qz 2,false))
 (.q 9 .mv [.qq 1] (some (.qz 2,false))
 (.q 10 .nilck [.qz 9] (some (.qz 2,false))
 (.q 11 (.fld 3) [.qz 10] (some (.qz 2,false))
 (.q 12 (.lda 2) [.qz 11] (some (.qz 2,false))
 (.q 13 .mv [.qq 1] (some (.qz 2,false))
 (.q 14 .nilck [.qz 13] (some (.qz 2,false))
 (.q 15 (.fld 3) [.qz 14] (some (.qz 2,false))
 (.q 16 (.lda 2) [.qz 15] (some (.qz 2,false))
 (.q 17 (.lda 7) [.qq 6] (some (.qz 2,false))
 (.q 18 (.lda 8) [.qq 7] (some (.qz 2,false))
 (.q 19 (.bld [.int .i64 0,.int .i64 0,.int .i64 0,.int .i64 0,.int .i64 0,.int .i64 0,.int .i64 0,.int .i64 0,(.string ⟨#[]⟩),(.string ⟨#[]⟩),(.string ⟨#[]⟩),(.string ⟨#[]⟩),.int .i64 0,.int .i64 0,.int .i64 0,.int .i64 0,.int .i64 0,.int .i64 0,.int .i64 0,.int .i64 0,.bool false] [(0,1),(1,2),(3,2),(5,7),(12,8)]) [.qj 2,.qz 12,.qz 16,.qz 17,.qz 18] (some (.qz 2,false))
 (.x 20 (.call 31) [.qz 4,.qz 8,.qz 19] (some (.qz 2,false)) []
 (.q 21 .not [.qz 20] (some (.qz 2,false))
 (.Q 22 .pick [.qz 2,.const (.bool true),.qz 21]
 (.out (qx [0,1,6,7] [(30,.qz 22)]))))))))))))))))))))))))
 [0,1,6,7]
abbrev lW:NC:=.reg
 (.Q 2 .nilck [.qq 1]
 (.Q 3 (.fld 0) [.qz 2]
 (.Q 4 (.lda 2) [.qz 3]
 (.x 5 (.call 74) [.qq 0,.qz 4] none []
 (.out [])))))
 [0,1]
abbrev lV:NC:=.reg
 (.Q 2 .nilck [.qq 1]
 (.Q 3 (.fld 0) [.qz 2]
 (.Q 4 (.lda 2) [.qz 3]
 (.Q 6 .nilck [.qq 1]
 (.Q 7 (.fld 3) [.qz 6]
 (.Q 8 (.lda 2) [.qz 7]
 (.Q 9 (.lda 7) [.qq 6]
 (.Q 10 (.lda 8) [.qq 7]
 (.Q 11 (.bld [.int .i64 0,.int .i64 0,.int .i64 0,.int .i64 0,.int .i64 0,.bool false,.int .i64 0,.int .i64 0,.int .i64 0,(.string ⟨#[]⟩),(.string ⟨#[]⟩),(.string ⟨#[]⟩),(.string ⟨#[]⟩),.int .i64 0,.int .i64 0,.int .i64 0,.int .i64 0,.int .i64 0,.int .i64 0,.int .i64 0,.int .i64 0,.int .i64 0,.int .i64 0,.int .i64 0,.int .i64 0,.int .i64 0,.int .i64 0,.int .i64 0,.slice none 0 0,.slice none 0 0,.int .i64 0,.int .i64 0] [(0,2),(2,1),(3,2),(6,7),(13,8)]) [.qz 4,.qj 1,.qz 8,.qz 9,.qz 10]
 (.x 12 (.box 92) [.qz 11] none []
 (.x 13 (.call 32) [.qq 0,.qz 12] none []
 (.out []))))))))))))
 [0,1,6,7]
abbrev WH:NC :=
 (.seq lc
 (.seq (.seq lY
 (.cond (.qq 30)
 (.seq lW
 .ret)
 .skip))
 lV))
abbrev WL:FN:=⟨WH,[]⟩
theorem VZ:GoT 90 Tryz.f90 WH WL:=goT (F:=WL) Tryz.func90 (by kernel_rfl)
abbrev dA:NC:=.reg
 (.out (qx [0,1] []))
 [0,1]
abbrev du:NC:=.reg
 (.Q 1 .nilck [.qq 0]
 (.Q 2 (.fld 0) [.qz 1]
 (.Q 3 (.lda 2) [.qz 2]
 (.Q 4 (.lda 2) [.qq 1]
 (.Q 5 (.eqc false [.i .i64,.i .i64]) [.qz 3,.qz 4]
 (.out [(3,.qz 5)]))))))
 [0,1]
abbrev KY:NC :=
 (.seq dA
 (.seq du
 .ret))
abbrev Ka:FN:=⟨KY,[.qq 3]⟩
theorem dB:GoT 100 Tryz.f100 KY Ka:=goT (F:=Ka) Tryz.func100 (by kernel_rfl)
abbrev WG:NC:=.reg
 (.x 0 (.box 30) [.qq 2] none []
 (.x 1 (.box 39) [.qq 3] none []
 (.out (qx [0,1] [(6,.qz 0),(7,.qz 1)]))))
 [0,1,2,3]
abbrev WE:NC:=.reg
 (.Q 0 (.lda 8) [.qq 7]
 (.Q 2 .nilck [.qq 0]
 (.Q 3 (.fld 3) [.qz 2]
 (.Q 4 .ld [.qz 3]
 (.Q 6 .nilck [.qq 1]
 (.Q 7 (.fld 0) [.qz 6]
 (.Q 8 (.lda 2) [.qz 7]
 (.Q 9 (.lda 7) [.qq 6]
 (.both
 (.x 10 (.call 29) [.qz 4,.qz 8,.qz 9] none [(0,.lda 8,[.qq 7],none)]
 (.both
 (.x 11 (.bsl 39 2 zL4 [(0,8),(8,8)]) [.qz 0,.qz 10] none []
 (.both
 (.x 12 (.call 101) [.qz 11] none []
 (.x 13 (.alc zL0 39) [] none [(0,.lda 8,[.qq 7],none),(4,.ld,[.qz 3],none),(8,.lda 2,[.qz 7],none),(9,.lda 7,[.qq 6],none)]
 (.x 14 (.st 8) [.qz 13,.qz 12] none []
 (.out (qx [0,1,6] [(8,.qz 13)])))))
 (.x 13 (.alc zL0 39) [] none [(0,.lda 8,[.qq 7],none),(4,.ld,[.qz 3],none),(8,.lda 2,[.qz 7],none),(9,.lda 7,[.qq 6],none)]
 (.x 12 (.call 101) [.qz 11] none []
 (.x 14 (.st 8) [.qz 13,.qz 12] none []
 (.out (qx [0,1,6] [(8,.qz 13)])))))))
 (.x 13 (.alc zL0 39) [] none [(0,.lda 8,[.qq 7],none),(4,.ld,[.qz 3],none),(8,.lda 2,[.qz 7],none),(9,.lda 7,[.qq 6],none)]
 (.x 11 (.bsl 39 2 zL4 [(0,8),(8,8)]) [.qz 0,.qz 10] none []
 (.x 12 (.call 101) [.qz 11] none []
 (.x 14 (.st 8) [.qz 13,.qz 12] none []
 (.out (qx [0,1,6] [(8,.qz 13)]))))))))
 (.x 13 (.alc zL0 39) [] none [(0,.lda 8,[.qq 7],none),(4,.ld,[.qz 3],none),(8,.lda 2,[.qz 7],none),(9,.lda 7,[.qq 6],none)]
 (.x 10 (.call 29) [.qz 4,.qz 8,.qz 9] none [(0,.lda 8,[.qq 7],none)]
 (.x 11 (.bsl 39 2 zL4 [(0,8),(8,8)]) [.qz 0,.qz 10] none []
 (.x 12 (.call 101) [.qz 11] none []
 (.x 14 (.st 8) [.qz 13,.qz 12] none []
 (.out (qx [0,1,6] [(8,.qz 13)]))))))))))))))))
 [0,1,6,7]
abbrev WD:NC:=.reg
 (.Q 0 (.lda 8) [.qq 8]
 (.x 1 (.call 30) [.qz 0] none []
 (.Q 2 .not [.qz 1]
 (.q 4 .mv [.qq 0] (some (.qz 2,false))
 (.q 5 .mv [.qq 1] (some (.qz 2,false))
 (.q 6 .nilck [.qz 5] (some (.qz 2,false))
 (.q 7 (.fld 0) [.qz 6] (some (.qz 2,false))
 (.q 8 (.lda 2) [.qz 7] (some (.qz 2,false))
 (.q 9 .mv [.qq 1] (some (.qz 2,false))
 (.q 10 .nilck [.qz 9] (some (.qz 2,false))
 (.q 11 (.fld 3) [.qz 10] (some (.qz 2,false))
 (.q 12 (.lda 2) [.qz 11] (some (.qz 2,false))
 (.q 13 .mv [.qq 1] (some (.qz 2,false))
 (.q 14 .nilck [.qz 13] (some (.qz 2,false))
 (.q 15 (.fld 3) [.qz 14] (some (.qz 2,false))
 (.q 16 (.lda 2) [.qz 15] (some (.qz 2,false))
 (.q 17 (.lda 7) [.qq 6] (some (.qz 2,false))
 (.q 18 (.lda 8) [.qq 8] (some (.qz 2,false))
 (.q 19 (.bld [.int .i64 0,.int .i64 0,.int .i64 0,.int .i64 0,.int .i64 0,.int .i64 0,.int .i64 0,.int .i64 0,(.string ⟨#[]⟩),(.string ⟨#[]⟩),(.string ⟨#[]⟩),(.string ⟨#[]⟩),.int .i64 0,.int .i64 0,.int .i64 0,.int .i64 0,.int .i64 0,.int .i64 0,.int .i64 0,.int .i64 0,.bool false] [(0,1),(1,2),(3,2),(5,7),(12,8)]) [.qj 1,.qz 12,.qz 16,.qz 17,.qz 18] (some (.qz 2,false))
 (.x 20 (.call 31) [.qz 4,.qz 8,.qz 19] (some (.qz 2,false)) []
 (.q 21 .not [.qz 20] (some (.qz 2,false))
 (.Q 22 .pick [.qz 2,.const (.bool true),.qz 21]
 (.out (qx [0,1,6,8] [(44,.qz 22)]))))))))))))))))))))))))
 [0,1,6,8]
abbrev WC:NC:=.reg
 (.Q 2 .nilck [.qq 1]
 (.Q 3 (.fld 0) [.qz 2]
 (.Q 4 (.lda 2) [.qz 3]
 (.x 5 (.call 74) [.qq 0,.qz 4] none []
 (.out [])))))
 [0,1]
abbrev WB:NC:=.reg
 (.Q 2 .nilck [.qq 1]
 (.Q 3 (.fld 0) [.qz 2]
 (.Q 4 (.lda 2) [.qz 3]
 (.Q 6 .nilck [.qq 1]
 (.Q 7 (.fld 3) [.qz 6]
 (.Q 8 (.lda 2) [.qz 7]
 (.Q 9 (.lda 7) [.qq 6]
 (.Q 10 (.lda 8) [.qq 8]
 (.Q 11 (.bld [.int .i64 0,.int .i64 0,.int .i64 0,.int .i64 0,.int .i64 0,.bool false,.int .i64 0,.int .i64 0,.int .i64 0,(.string ⟨#[]⟩),(.string ⟨#[]⟩),(.string ⟨#[]⟩),(.string ⟨#[]⟩),.int .i64 0,.int .i64 0,.int .i64 0,.int .i64 0,.int .i64 0,.int .i64 0,.int .i64 0,.int .i64 0,.int .i64 0,.int .i64 0,.int .i64 0,.int .i64 0,.int .i64 0,.int .i64 0,.int .i64 0,.slice none 0 0,.slice none 0 0,.int .i64 0,.int .i64 0] [(0,2),(2,1),(3,2),(6,7),(13,8)]) [.qz 4,.qj 0,.qz 8,.qz 9,.qz 10]
 (.x 12 (.box 92) [.qz 11] none []
 (.x 13 (.call 32) [.qq 0,.qz 12] none []
 (.out []))))))))))))
 [0,1,6,8]
abbrev JC:NC :=
 (.seq WG
 (.seq WE
 (.seq (.seq WD
 (.cond (.qq 44)
 (.seq WC
 .ret)
 .skip))
 WB)))
abbrev YO:FN:=⟨JC,[]⟩
theorem od:GoT 104 Tryz.f104 JC YO:=goT (F:=YO) Tryz.func104 (by kernel_rfl)
end Go.Fw
