import Derived.Test.YtimedjfpihdffaaGreatCd
set_option linter.unusedVariables false
set_option linter.unusedSimpArgs false
set_option maxHeartbeats 16000000
namespace Go.Fw
open Go.Proofs
abbrev Yp:NC:=.reg
 (.out (qx [0,1,2] []))
 [0,1,2]
abbrev Yo:NC:=.reg
 (.x 0 (.bsl 3 3 [.int .i64 0,.int .i64 0,.int .i64 0] [(0,1),(1,1),(2,1)]) [.qj 3,.qj 5,.qj 7] none []
 (.x 2 (.call 17) [.qq 0,.qj 0,.qj 2] none []
 (.Q 3 (.ixs 1) [.qz 0,.qz 2]
 (.Q 4 .ld [.qz 3]
 (.x 5 (.call 16) [.qz 4] none []
 (.out (qx [1,2] [(7,.qz 5)])))))))
 [0,1,2]
abbrev Yn:NC:=.reg
 (.Q 1 (.eqp false) [.qq 7,.const (.pointer none)]
 (.out (qx [1,2,7] [(31,.qz 1)])))
 [1,2,7]
abbrev Ym:NC:=.reg
 (.out [(6,.const (.bool false))])
 []
abbrev Jh:NC:=.reg
 (.out (qx [1,2,7] [(8,.qj 0)]))
 [1,2,7]
abbrev Yl:NC:=.reg
 (.Q 2 .len [.qq 1]
 (.Q 3 (.icm .lss) [.qq 8,.qz 2]
 (.q 5 .mv [.qq 8] (some (.qz 3,true))
 (.q 6 (.icm .lss) [.qz 5,.qj 80] (some (.qz 3,true))
 (.Q 7 .pick [.qz 3,.qz 6,.const (.bool false)]
 (.out (qx [1,2,7,8] [(39,.qz 7)])))))))
 [1,2,7,8]
abbrev Jg:NC:=.reg
 (.Q 2 (.ixs 12) [.qq 1,.qq 8]
 (.Q 3 (.lda 12) [.qz 2]
 (.x 4 (.alc [.int .i64 0,.int .i64 0,.int .i64 0,.int .i64 0,.int .i64 0,.int .i64 0,(.string ⟨#[]⟩),(.string ⟨#[]⟩),(.string ⟨#[]⟩),(.string ⟨#[]⟩),.int .i64 0,.int .i64 0] 66) [] none []
 (.x 5 (.st 12) [.qz 4,.qz 3] none []
 (.out (qx [1,2,7,8] [(9,.qz 4)]))))))
 [1,2,7,8]
abbrev Jf:NC:=.reg
 (.Q 0 (.fld 3) [.qq 9]
 (.Q 1 (.fld 3) [.qz 0]
 (.Q 2 .ld [.qz 1]
 (.Q 3 .lenz [.qz 2]
 (.Q 4 (.fld 3) [.qq 9]
 (.Q 5 (.fld 4) [.qz 4]
 (.Q 6 .ld [.qz 5]
 (.Q 7 .lenz [.qz 6]
 (.Q 8 (.iar .add) [.qz 3,.qz 7]
 (.Q 9 (.fld 3) [.qq 9]
 (.Q 10 (.fld 5) [.qz 9]
 (.Q 11 .ld [.qz 10]
 (.Q 12 .lenz [.qz 11]
 (.Q 13 (.iar .add) [.qz 8,.qz 12]
 (.Q 14 (.fld 3) [.qq 9]
 (.Q 15 (.fld 6) [.qz 14]
 (.Q 16 .ld [.qz 15]
 (.Q 17 .lenz [.qz 16]
 (.Q 18 (.iar .add) [.qz 13,.qz 17]
 (.Q 19 (.icm .gtr) [.qz 18,.qj 200]
 (.out (qx [1,2,7,8,9] [(65,.qz 19)]))))))))))))))))))))))
 [1,2,7,8,9]
abbrev xv:NC:=.reg
 (.Q 0 (.fld 10) [.qq 9]
 (.Q 1 (.fld 0) [.qz 0]
 (.Q 2 .ld [.qz 1]
 (.Q 4 .nilck [.qq 7]
 (.Q 5 (.fld 0) [.qz 4]
 (.Q 6 .ld [.qz 5]
 (.Q 7 (.iar .sub) [.qz 6,.qj 1]
 (.Q 9 (.fld 10) [.qq 9]
 (.Q 10 (.fld 1) [.qz 9]
 (.Q 11 .ld [.qz 10]
 (.x 8 (.call 17) [.qz 2,.qj 0,.qz 7] none [(11,.ld,[.qz 10],none)]
 (.Q 13 (.fld 10) [.qq 9]
 (.Q 14 (.fld 0) [.qz 13]
 (.x 12 (.call 17) [.qz 11,.qj 1,.qj 9] none []
 (.x 15 (.st 1) [.qz 14,.qz 8] none []
 (.Q 16 (.fld 10) [.qq 9]
 (.Q 17 (.fld 1) [.qz 16]
 (.x 18 (.st 1) [.qz 17,.qz 12] none []
 (.out (qx [1,2,7,8,9] []))))))))))))))))))))
 [1,2,7,8,9]
abbrev Yi:NC:=.reg
 (.Q 1 (.lda 12) [.qq 9]
 (.x 2 (.call 22) [.qq 7,.qz 1] none []
 (.Q 3 .not [.qz 2]
 (.out (qx [1,2,7,8] [(86,.qz 3)])))))
 [1,2,7,8,9]
abbrev WK:NC:=.reg
 (.out [(6,.const (.bool false))])
 []
abbrev WX:NC:=.reg
 (.Q 1 (.iar .add) [.qq 8,.qj 1]
 (.out (qx [1,2,7] [(8,.qz 1)])))
 [1,2,7,8]
abbrev kT:NC :=
 (.seq (.seq Yl
 (.cond (.qq 39)
 .skip
 (.exit 0)))
 (.seq (.block 1 (.seq Jg
 (.seq (.seq Jf
 (.cond (.qq 65)
 (.exit 1)
 .skip))
 (.seq xv
 (.seq Yi
 (.cond (.qq 86)
 (.seq WK
 .ret)
 .skip))))))
 WX))
abbrev ZY:NC:=.reg
 (.Q 2 .nilck [.qq 7]
 (.Q 3 (.fld 0) [.qz 2]
 (.Q 4 .ld [.qz 3]
 (.Q 5 (.iar .sub) [.qz 4,.qj 1]
 (.x 6 (.call 17) [.qq 2,.qj 0,.qz 5] none []
 (.out [(7,.qq 7),(10,.qz 6)]))))))
 [2,7]
abbrev ZW:NC:=.reg
 (.Q 1 .nilck [.qq 7]
 (.Q 2 (.fld 0) [.qz 1]
 (.Q 3 .ld [.qz 2]
 (.Q 5 (.bld zL2 []) []
 (.Q 7 .nilck [.qq 7]
 (.Q 8 (.fld 2) [.qz 7]
 (.Q 9 .ld [.qz 8]
 (.Q 11 (.ixs 1) [.qz 9,.qq 10]
 (.Q 12 .ld [.qz 11]
 (.x 13 (.call 24) [.qz 3,.qq 10,.qz 5,.qz 12] none []
 (.Q 15 (.ext 0) [.qz 13]
 (.Q 16 (.ext 1) [.qz 13]
 (.out (qx [7,10] [(11,.qz 15),(12,.qz 16)]))))))))))))))
 [7,10]
abbrev ZV:NC:=.reg
 (.Q 1 (.eqp false) [.qq 11,.const (.pointer none)]
 (.q 3 .mv [.qq 12] (some (.qz 1,false))
 (.q 4 (.icm .neq) [.qz 3,.qj 0] (some (.qz 1,false))
 (.Q 5 .pick [.qz 1,.const (.bool true),.qz 4]
 (.q 7 .mv [.qq 11] (some (.qz 5,false))
 (.q 9 .mv [.qq 7] (some (.qz 5,false))
 (.q 10 .nilck [.qz 9] (some (.qz 5,false))
 (.q 11 (.fld 1) [.qz 10] (some (.qz 5,false))
 (.q 12 .ld [.qz 11] (some (.qz 5,false))
 (.q 13 .mv [.qq 10] (some (.qz 5,false))
 (.q 14 (.ixs 1) [.qz 12,.qz 13] (some (.qz 5,false))
 (.q 15 .ld [.qz 14] (some (.qz 5,false))
 (.x 8 (.call 25) [.qz 7] (some (.qz 5,false)) [(12,.ld,[.qz 11],(some (.qz 5,false))),(15,.ld,[.qz 14],(some (.qz 5,false)))]
 (.x 16 (.call 25) [.qz 15] (some (.qz 5,false)) []
 (.q 17 (.eqc true [.i .i64,.i .i64,.i .i64,.i .i64,.i .i64,.i .i64,.i .i64]) [.qz 8,.qz 16] (some (.qz 5,false))
 (.Q 18 .pick [.qz 5,.const (.bool true),.qz 17]
 (.out (qx [7,10,11] [(129,.qz 18)]))))))))))))))))))
 [7,10,11,12]
abbrev ZK:NC:=.reg
 (.out [(6,.const (.bool false))])
 []
abbrev ZX:NC:=.reg
 (.x 1 (.call 25) [.qq 11] none []
 (.x 2 (.alc zL2 37) [] none []
 (.x 3 (.st 7) [.qz 2,.qz 1] none []
 (.out (qx [7,10,11] [(13,.qz 2)])))))
 [7,10,11]
abbrev ZJ:NC:=.reg
 (.out (qx [7,10,11,13] [(14,.qj 0)]))
 [7,10,11,13]
abbrev WJ:NC:=.reg
 (.Q 2 .nilck [.qq 7]
 (.Q 3 (.fld 0) [.qz 2]
 (.Q 4 .ld [.qz 3]
 (.Q 5 (.icm .lss) [.qq 14,.qz 4]
 (.out (qx [7,10,11,13,14] [(137,.qz 5)]))))))
 [7,10,11,13,14]
abbrev WZ:NC:=.reg
 (.out (qx [7,10,11,13,14] [(15,.qj 1)]))
 [7,10,11,13,14]
abbrev WQ:NC:=.reg
 (.Q 2 (.ixa 7 1) [.qq 13,.qq 14]
 (.Q 3 .ld [.qz 2]
 (.Q 4 (.icm .leq) [.qq 15,.qz 3]
 (.out (qx [7,10,11,13,14,15] [(144,.qz 4)])))))
 [7,10,11,13,14,15]
abbrev Wy:NC:=.reg
 (.Q 3 (.bld [.int .i64 0,.int .i64 0] [(0,1),(1,1)]) [.qq 14,.qq 15]
 (.x 4 (.call 13) [.qq 11,.qz 3] none []
 (.Q 6 (.ext 0) [.qz 4]
 (.Q 7 (.ext 1) [.qz 4]
 (.x 8 (.alc [.int .i64 0,.int .i64 0,.int .i64 0,.int .i64 0,.int .i64 0,.int .i64 0,.int .i64 0,.int .i64 0,(.string ⟨#[]⟩),(.string ⟨#[]⟩),(.string ⟨#[]⟩),(.string ⟨#[]⟩),.int .i64 0,.int .i64 0,.int .i64 0,.int .i64 0,.int .i64 0,.int .i64 0,.int .i64 0,.int .i64 0,.bool false] 41) [] none []
 (.x 9 (.st 21) [.qz 8,.qz 6] none []
 (.out (qx [7,10,11,13,14,15] [(16,.qz 8),(17,.qz 7)]))))))))
 [7,10,11,13,14,15]
abbrev Ww:NC:=.reg
 (.Q 1 .nilck [.qq 7]
 (.Q 2 (.fld 1) [.qz 1]
 (.Q 3 .ld [.qz 2]
 (.Q 5 (.ixs 1) [.qz 3,.qq 10]
 (.Q 6 .ld [.qz 5]
 (.Q 9 (.bld [.int .i64 0,.int .i64 0] [(0,1),(1,1)]) [.qq 14,.qq 15]
 (.x 10 (.call 13) [.qz 6,.qz 9] none []
 (.Q 12 (.ext 0) [.qz 10]
 (.Q 13 (.ext 1) [.qz 10]
 (.x 14 (.alc [.int .i64 0,.int .i64 0,.int .i64 0,.int .i64 0,.int .i64 0,.int .i64 0,.int .i64 0,.int .i64 0,(.string ⟨#[]⟩),(.string ⟨#[]⟩),(.string ⟨#[]⟩),(.string ⟨#[]⟩),.int .i64 0,.int .i64 0,.int .i64 0,.int .i64 0,.int .i64 0,.int .i64 0,.int .i64 0,.int .i64 0,.bool false] 41) [] none []
 (.x 15 (.st 21) [.qz 14,.qz 12] none []
 (.out (qx [7,10,11,13,14,15,16,17] [(18,.qz 14),(19,.qz 13)])))))))))))))
 [7,10,11,13,14,15,16,17]
abbrev Wk:NC:=.reg
 (.Q 0 (.lda 21) [.qq 16]
 (.Q 1 (.lda 21) [.qq 18]
 (.Q 2 (.eqc true [.i .i64,.i .i64,.i .i64,.i .i64,.i .i64,.i .i64,.i .i64,.i .i64,.s,.s,.s,.s,.i .i64,.i .i64,.i .i64,.i .i64,.i .i64,.i .i64,.i .i64,.i .i64,.b]) [.qz 0,.qz 1]
 (.q 4 .mv [.qq 17] (some (.qz 2,false))
 (.q 5 .mv [.qq 19] (some (.qz 2,false))
 (.q 6 (.beq true) [.qz 4,.qz 5] (some (.qz 2,false))
 (.Q 7 .pick [.qz 2,.const (.bool true),.qz 6]
 (.out (qx [7,10,11,13,14,15] [(176,.qz 7)])))))))))
 [7,10,11,13,14,15,16,17,18,19]
abbrev Wx:NC:=.reg
 (.out [(6,.const (.bool false))])
 []
abbrev Wj:NC:=.reg
 (.Q 1 (.iar .add) [.qq 15,.qj 1]
 (.out (qx [7,10,11,13,14] [(15,.qz 1)])))
 [7,10,11,13,14,15]
abbrev rV:NC :=
 (.seq (.seq WQ
 (.cond (.qq 144)
 .skip
 (.exit 4)))
 (.seq (.block 5 (.seq Wy
 (.seq Ww
 (.seq Wk
 (.cond (.qq 176)
 (.seq Wx
 .ret)
 .skip)))))
 Wj))
abbrev Wz:NC:=.reg
 (.Q 1 (.iar .add) [.qq 14,.qj 1]
 (.out (qx [7,10,11,13] [(14,.qz 1)])))
 [7,10,11,13,14]
abbrev Yr:NC :=
 (.seq (.seq WJ
 (.cond (.qq 137)
 .skip
 (.exit 2)))
 (.seq (.block 3 (.seq WZ
 (.block 4 (.loop [7,10,11,13,14,15] rV))))
 Wz))
abbrev Wq:NC:=.reg
 (.x 1 (.call 11) [.qj 1,.qj 1,.const (.string ⟨#[107]⟩)] none []
 (.x 2 (.call 10) [.qq 11,.qz 1] none []
 (.Q 4 (.ext 0) [.qz 2]
 (.Q 5 (.ext 1) [.qz 2]
 (.x 6 (.alc [.int .i64 0,.int .i64 0] 25) [] none []
 (.x 7 (.st 2) [.qz 6,.qz 4] none []
 (.out (qx [10,11,13] [(20,.qz 6),(21,.qz 5)]))))))))
 [10,11,13]
abbrev VU:NC:=.reg
 (.x 1 (.call 21) [.qq 11] none []
 (.Q 3 (.ext 0) [.qz 1]
 (.Q 4 (.ext 1) [.qz 1]
 (.out (qx [10,13,20,21] [(22,.qz 3),(23,.qz 4)])))))
 [10,11,13,20,21]
abbrev VT:NC:=.reg
 (.q 2 (.lda 2) [.qq 20] (some (.qq 21,true))
 (.q 3 .mv [.qq 10] (some (.qq 21,true))
 (.q 4 .mv [.qq 10] (some (.qq 21,true))
 (.q 5 (.ixa 7 1) [.qq 13,.qz 4] (some (.qq 21,true))
 (.q 6 .ld [.qz 5] (some (.qq 21,true))
 (.q 7 (.iar .add) [.qz 6,.qj 1] (some (.qq 21,true))
 (.q 8 (.bld [.int .i64 0,.int .i64 0] [(0,1),(1,1)]) [.qz 3,.qz 7] (some (.qq 21,true))
 (.q 9 (.eqc false [.i .i64,.i .i64]) [.qz 2,.qz 8] (some (.qq 21,true))
 (.Q 10 .pick [.qq 21,.qz 9,.const (.bool false)]
 (.q 12 .mv [.qq 22] (some (.qz 10,true))
 (.q 13 (.icm .eql) [.qz 12,.qj 1] (some (.qz 10,true))
 (.Q 14 .pick [.qz 10,.qz 13,.const (.bool false)]
 (.q 16 .mv [.qq 23] (some (.qz 14,true))
 (.q 17 (.icm .eql) [.qz 16,.qj 0] (some (.qz 14,true))
 (.Q 18 .pick [.qz 14,.qz 17,.const (.bool false)]
 (.x 20 (.call 3) [] (some (.qz 18,true)) []
 (.Q 21 .pick [.qz 18,.qz 20,.const (.bool false)]
 (.out [(6,.qz 21)]))))))))))))))))))
 [10,13,20,21,22,23]
abbrev Xl:NC :=
 (.seq Yp
 (.seq Yo
 (.seq (.seq Yn
 (.cond (.qq 31)
 (.seq Ym
 .ret)
 .skip))
 (.seq (.seq Jh
 (.block 0 (.loop [1,2,7,8] kT)))
 (.seq ZY
 (.seq ZW
 (.seq (.seq ZV
 (.cond (.qq 129)
 (.seq ZK
 .ret)
 .skip))
 (.seq ZX
 (.seq (.seq ZJ
 (.block 2 (.loop [7,10,11,13,14] Yr)))
 (.seq Wq
 (.seq VU
 (.seq VT
 .ret))))))))))))
abbrev aN:FN:=⟨Xl,[.qq 6]⟩
theorem rW:GoT 6 Tryz.f6 Xl aN:=goT (F:=aN) Tryz.func6 (by kernel_rfl)
end Go.Fw
