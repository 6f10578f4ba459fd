import Derived.Test.YtimedjfpihdffaaGreatCd
set_option linter.unusedVariables false
set_option linter.unusedSimpArgs false
set_option maxHeartbeats 16000000
namespace Go.Fw
open Go.Proofs
abbrev fM:NC:=.reg
 (.x 0 (.box 25) [.qq 1] none []
 (.x 1 (.box 30) [.qq 2] none []
 (.x 2 (.alc zL0 39) [] none []
 (.out [(0,.qq 0),(4,.qz 0),(5,.qz 1),(6,.qz 2)]))))
 [0,1,2]
abbrev fI:NC:=.reg
 (.x 0 (.alc zL0 39) [] none []
 (.out (qx [0,4,5,6] [(7,.qz 0)])))
 [0,4,5,6]
abbrev fH:NC:=.reg
 (.Q 1 .nilck [.qq 0]
 (.Q 2 (.fld 0) [.qz 1]
 (.Q 3 .ld [.qz 2]
 (.x 4 .rng [.qz 3] none []
 (.out (qx [0,4,5,6,7] [(15,.qz 4)]))))))
 [0,4,5,6,7]
abbrev fG:NC:=.reg
 (.x 0 .nxt [.qq 15] none []
 (.Q 1 (.ext 0) [.qz 0]
 (.out (qx [0,4,5,6,7,15] [(17,.qz 1)]))))
 [0,4,5,6,7,15]
abbrev fF:NC:=.reg
 (.Q 0 .ent [.qq 15]
 (.Q 1 (.ext 0) [.qz 0]
 (.Q 2 (.ext 1) [.qz 0]
 (.x 3 (.alc [.int .i64 0,.int .i64 0] 25) [] none []
 (.x 4 (.alc [.int .i64 0,.int .i64 0,.int .i64 0,(.string ⟨#[]⟩),(.string ⟨#[]⟩),(.string ⟨#[]⟩),(.string ⟨#[]⟩),.int .i64 0] 132) [] none []
 (.x 5 (.st 2) [.qz 3,.qz 1] none []
 (.x 6 (.st 8) [.qz 4,.qz 2] none []
 (.out (qx [0,4,5,6,7] [(8,.qz 3),(9,.qz 4),(15,.qq 15)])))))))))
 [0,4,5,6,7,15]
abbrev fE:NC:=.reg
 (.Q 0 (.fld 0) [.qq 8]
 (.Q 1 .ld [.qz 0]
 (.Q 2 (.fld 0) [.qq 4]
 (.Q 3 .ld [.qz 2]
 (.Q 4 (.icm .eql) [.qz 1,.qz 3]
 (.q 6 (.fld 1) [.qq 8] (some (.qz 4,true))
 (.q 7 .ld [.qz 6] (some (.qz 4,true))
 (.q 8 (.fld 1) [.qq 4] (some (.qz 4,true))
 (.q 9 .ld [.qz 8] (some (.qz 4,true))
 (.q 10 (.icm .geq) [.qz 7,.qz 9] (some (.qz 4,true))
 (.Q 11 .pick [.qz 4,.qz 10,.const (.bool false)]
 (.q 13 (.fld 0) [.qq 9] (some (.qz 11,false))
 (.q 14 (.lda 7) [.qz 13] (some (.qz 11,false))
 (.q 15 (.lda 7) [.qq 5] (some (.qz 11,false))
 (.x 16 (.call 49) [.qz 14,.qz 15] (some (.qz 11,false)) []
 (.q 17 .not [.qz 16] (some (.qz 11,false))
 (.Q 18 .pick [.qz 11,.const (.bool true),.qz 17]
 (.out (qx [0,4,5,6,7,8,9,15] [(39,.qz 18)])))))))))))))))))))
 [0,4,5,6,7,8,9,15]
abbrev fD:NC:=.reg
 (.Q 0 (.fld 0) [.qq 7]
 (.Q 1 .ld [.qz 0]
 (.Q 2 (.fld 7) [.qq 9]
 (.Q 3 .ld [.qz 2]
 (.Q 4 (.iar .add) [.qz 3,.qj 1]
 (.Q 5 .mx [.qz 1,.qz 4]
 (.Q 6 (.fld 0) [.qq 7]
 (.x 7 (.st 1) [.qz 6,.qz 5] none []
 (.out (qx [0,4,5,6,7,8,15] []))))))))))
 [0,4,5,6,7,8,9,15]
abbrev fC:NC:=.reg
 (.Q 0 (.fld 0) [.qq 8]
 (.Q 1 .ld [.qz 0]
 (.Q 2 (.fld 0) [.qq 8]
 (.Q 3 .ld [.qz 2]
 (.Q 4 (.fld 1) [.qq 7]
 (.Q 5 (.ixa 7 1) [.qz 4,.qz 3]
 (.Q 6 .ld [.qz 5]
 (.Q 7 (.fld 1) [.qq 8]
 (.Q 8 .ld [.qz 7]
 (.Q 9 .mx [.qz 6,.qz 8]
 (.Q 10 (.fld 1) [.qq 7]
 (.Q 11 (.ixa 7 1) [.qz 10,.qz 1]
 (.x 12 (.st 1) [.qz 11,.qz 9] none []
 (.out (qx [0,4,5,6,7,15] [])))))))))))))))
 [0,4,5,6,7,8,15]
abbrev fO:NC :=
 (.seq fG
 (.seq (.cond (.qq 17)
 .skip
 (.exit 0))
 (.block 1 (.seq fF
 (.seq (.seq fE
 (.cond (.qq 39)
 (.exit 1)
 .skip))
 (.seq fD
 fC))))))
abbrev fB:NC:=.reg
 (.out (qx [0,4,6,7] [(59,.qj 0)]))
 [0,4,6,7]
abbrev fA:NC:=.reg
 (.Q 0 (.icm .lss) [.qq 59,.qj 7]
 (.out (qx [0,4,6,7,59] [(60,.qz 0)])))
 [0,4,6,7,59]
abbrev dR:NC:=.reg
 (.out (qx [0,4,6,7] [(10,.qq 59),(59,.qq 59)]))
 [0,4,6,7,59]
abbrev dP:NC:=.reg
 (.Q 1 (.fld 0) [.qq 4]
 (.Q 2 .ld [.qz 1]
 (.Q 3 (.icm .neq) [.qq 10,.qz 2]
 (.out (qx [0,4,6,7,10,59] [(62,.qz 3)])))))
 [0,4,6,7,10,59]
abbrev dO:NC:=.reg
 (.Q 2 (.fld 1) [.qq 7]
 (.Q 3 (.ixa 7 1) [.qz 2,.qq 10]
 (.Q 4 .ld [.qz 3]
 (.Q 7 .nilck [.qq 0]
 (.Q 8 (.fld 1) [.qz 7]
 (.Q 9 (.ixa 7 1) [.qz 8,.qq 10]
 (.Q 10 .ld [.qz 9]
 (.Q 11 .mx [.qz 4,.qz 10]
 (.Q 12 (.fld 1) [.qq 7]
 (.Q 13 (.ixa 7 1) [.qz 12,.qq 10]
 (.x 14 (.st 1) [.qz 13,.qz 11] none []
 (.out (qx [0,4,6,7,59] [])))))))))))))
 [0,4,6,7,10,59]
abbrev dN:NC:=.reg
 (.Q 0 (.lda 2) [.qq 4]
 (.x 1 (.call 66) [.qz 0] none []
 (.out (qx [0,4,6,7,10,59] [(81,.qz 1)]))))
 [0,4,6,7,10,59]
abbrev dM:NC:=.reg
 (.Q 2 (.fld 1) [.qq 7]
 (.Q 3 (.ixa 7 1) [.qz 2,.qq 10]
 (.Q 4 .ld [.qz 3]
 (.Q 5 (.fld 1) [.qq 4]
 (.Q 6 .ld [.qz 5]
 (.Q 7 (.iar .sub) [.qz 6,.qj 1]
 (.Q 8 .mx [.qz 4,.qz 7]
 (.Q 9 (.fld 1) [.qq 7]
 (.Q 10 (.ixa 7 1) [.qz 9,.qq 10]
 (.x 11 (.st 1) [.qz 10,.qz 8] none []
 (.out (qx [0,4,6,7,59] []))))))))))))
 [0,4,6,7,10,59]
abbrev dL:NC:=.reg
 (.Q 0 (.iar .add) [.qq 59,.qj 1]
 (.out (qx [0,4,6,7] [(59,.qz 0)])))
 [0,4,6,7,59]
abbrev fN:NC :=
 (.seq fA
 (.seq (.cond (.qq 60)
 .skip
 (.exit 2))
 (.seq (.block 3 (.seq dR
 (.block 4 (.seq dP
 (.cond (.qq 62)
 dO
 (.seq dN
 (.cond (.qq 81)
 dM
 .skip)))))))
 dL)))
abbrev dI:NC:=.reg
 (.Q 0 (.lda 8) [.qq 7]
 (.x 1 (.st 8) [.qq 6,.qz 0] none []
 (.out [(6,.qq 6)])))
 [6,7]
abbrev Vr:NC :=
 (.seq fM
 (.seq fI
 (.seq (.seq fH
 (.block 0 (.loop [0,4,5,6,7,15] fO)))
 (.seq (.seq fB
 (.block 2 (.loop [0,4,6,7,59] fN)))
 (.seq dI
 .ret)))))
abbrev Vs:FN:=⟨Vr,[.cells 6 8]⟩
theorem fR:GoT 29 Tryz.f29 Vr Vs:=goT (F:=Vs) Tryz.func29 (by kernel_rfl)
abbrev CJ:NC:=.reg
 (.out [(0,.qq 0)])
 [0]
abbrev CZ:NC:=.reg
 (.Q 1 (.icm .eql) [.qq 0,.qj 3]
 (.q 3 .mv [.qq 0] (some (.qz 1,false))
 (.q 4 (.icm .eql) [.qz 3,.qj 5] (some (.qz 1,false))
 (.Q 5 .pick [.qz 1,.const (.bool true),.qz 4]
 (.q 7 .mv [.qq 0] (some (.qz 5,false))
 (.q 8 (.icm .eql) [.qz 7,.qj 7] (some (.qz 5,false))
 (.Q 9 .pick [.qz 5,.const (.bool true),.qz 8]
 (.out [(2,.qz 9)]))))))))
 [0]
abbrev iS:NC :=
 (.seq CJ
 (.seq CZ
 .ret))
abbrev iT:FN:=⟨iS,[.qq 2]⟩
theorem CX:GoT 50 Tryz.f50 iS iT:=goT (F:=iT) Tryz.func50 (by kernel_rfl)
abbrev FB:NC:=.reg
 (.out [])
 []
abbrev FA:NC:=.reg
 (.x 0 .mkm [] none []
 (.Q 1 (.bld [.map none,.int .i64 0,.int .i64 0,.int .i64 0,.int .i64 0,.int .i64 0,.int .i64 0,.int .i64 0] [(0,1)]) [.qz 0]
 (.x 2 (.box 130) [.qz 1] none []
 (.out [(0,.qz 2)]))))
 []
abbrev oA:NC :=
 (.seq FB
 (.seq FA
 .ret))
abbrev oB:FN:=⟨oA,[.qq 0]⟩
theorem FC:GoT 52 Tryz.f52 oA oB:=goT (F:=oB) Tryz.func52 (by kernel_rfl)
abbrev dE:NC:=.reg
 (.x 0 (.box 37) [.qq 1] none []
 (.out [(0,.qq 0),(3,.qz 0)]))
 [0,1]
abbrev dD:NC:=.reg
 (.Q 0 (.lda 7) [.qq 3]
 (.out [(0,.qq 0),(7,.qz 0),(8,.qj 0)]))
 [0,3]
abbrev dC:NC:=.reg
 (.Q 0 (.icm .lss) [.qq 8,.qj 7]
 (.out (qx [0,7,8] [(9,.qz 0)])))
 [0,7,8]
abbrev dB:NC:=.reg
 (.Q 1 (.idx 7 1) [.qq 7,.qq 8]
 (.out [(0,.qq 0),(4,.qq 8),(5,.qz 1),(7,.qq 7),(8,.qq 8)]))
 [0,7,8]
abbrev dA:NC:=.reg
 (.Q 4 .nilck [.qq 0]
 (.Q 5 (.fld 1) [.qz 4]
 (.Q 6 (.ixa 7 1) [.qz 5,.qq 4]
 (.Q 7 .ld [.qz 6]
 (.Q 9 .mx [.qq 5,.qj 0]
 (.Q 10 .mn [.qz 9,.qj 1073741824]
 (.Q 11 .mx [.qz 7,.qz 10]
 (.Q 12 .nilck [.qq 0]
 (.Q 13 (.fld 1) [.qz 12]
 (.Q 14 (.ixa 7 1) [.qz 13,.qq 4]
 (.x 15 (.st 1) [.qz 14,.qz 11] none []
 (.out (qx [0,7,8] [])))))))))))))
 [0,4,5,7,8]
abbrev du:NC:=.reg
 (.Q 0 (.iar .add) [.qq 8,.qj 1]
 (.out (qx [0,7] [(8,.qz 0)])))
 [0,7,8]
abbrev dG:NC :=
 (.seq dC
 (.seq (.cond (.qq 9)
 .skip
 (.exit 0))
 (.seq (.block 1 (.seq dB
 dA))
 du)))
abbrev dt:NC:=.reg
 (.Q 1 .nilck [.qq 0]
 (.Q 2 (.fld 0) [.qz 1]
 (.Q 3 .ld [.qz 2]
 (.x 4 .rng [.qz 3] none []
 (.out [(0,.qq 0),(32,.qz 4)])))))
 [0]
abbrev dp:NC:=.reg
 (.x 0 .nxt [.qq 32] none []
 (.Q 1 (.ext 0) [.qz 0]
 (.out (qx [0,32] [(34,.qz 1)]))))
 [0,32]
abbrev dn:NC:=.reg
 (.Q 0 .ent [.qq 32]
 (.Q 1 (.ext 0) [.qz 0]
 (.x 2 (.alc [.int .i64 0,.int .i64 0] 25) [] none []
 (.x 3 (.st 2) [.qz 2,.qz 1] none []
 (.out [(0,.qq 0),(6,.qz 2),(32,.qq 32)])))))
 [0,32]
abbrev dm:NC:=.reg
 (.Q 0 (.fld 1) [.qq 6]
 (.Q 1 .ld [.qz 0]
 (.Q 3 (.fld 0) [.qq 6]
 (.Q 4 .ld [.qz 3]
 (.Q 5 .nilck [.qq 0]
 (.Q 6 (.fld 1) [.qz 5]
 (.Q 7 (.ixa 7 1) [.qz 6,.qz 4]
 (.Q 8 .ld [.qz 7]
 (.Q 9 (.icm .leq) [.qz 1,.qz 8]
 (.out (qx [0,6,32] [(46,.qz 9)])))))))))))
 [0,6,32]
abbrev cE:NC:=.reg
 (.Q 1 .nilck [.qq 0]
 (.Q 2 (.fld 0) [.qz 1]
 (.Q 3 .ld [.qz 2]
 (.Q 4 (.lda 2) [.qq 6]
 (.x 5 (.dlt true [.i .i64,.i .i64]) [.qz 3,.qz 4] none []
 (.out (qx [0,32] [])))))))
 [0,6,32]
abbrev dF:NC :=
 (.seq dp
 (.seq (.cond (.qq 34)
 .skip
 (.exit 2))
 (.block 3 (.seq dn
 (.seq dm
 (.cond (.qq 46)
 cE
 .skip))))))
abbrev Kr:NC :=
 (.seq dE
 (.seq (.seq dD
 (.block 0 (.loop [0,7,8] dG)))
 (.seq dt
 (.block 2 (.loop [0,32] dF)))))
abbrev Ks:FN:=⟨Kr,[]⟩
theorem dH:GoT 53 Tryz.f53 Kr Ks:=goT (F:=Ks) Tryz.func53 (by kernel_rfl)
abbrev BU:NC:=.reg
 (.out [(0,.qq 0)])
 [0]
abbrev BT:NC:=.reg
 (.Q 1 (.idv .quo) [.qq 0,.qj 2]
 (.Q 2 (.iar .add) [.qz 1,.qj 1]
 (.out [(2,.qz 2)])))
 [0]
abbrev iM:NC :=
 (.seq BU
 (.seq BT
 .ret))
abbrev iN:FN:=⟨iM,[.qq 2]⟩
theorem Cq:GoT 76 Tryz.f76 iM iN:=goT (F:=iN) Tryz.func76 (by kernel_rfl)
abbrev ft:NC:=.reg
 (.x 0 (.box 25) [.qq 1] none []
 (.x 1 (.box 30) [.qq 2] none []
 (.out (qx [0,3] [(5,.qz 0),(6,.qz 1)]))))
 [0,1,2,3]
abbrev fo:NC:=.reg
 (.Q 0 (.lda 2) [.qq 5]
 (.x 1 (.call 66) [.qz 0] none []
 (.Q 2 .not [.qz 1]
 (.q 4 (.fld 1) [.qq 5] (some (.qz 2,false))
 (.q 5 .ld [.qz 4] (some (.qz 2,false))
 (.q 6 .mv [.qq 0] (some (.qz 2,false))
 (.q 7 (.fld 0) [.qq 5] (some (.qz 2,false))
 (.q 8 .ld [.qz 7] (some (.qz 2,false))
 (.q 9 .nilck [.qz 6] (some (.qz 2,false))
 (.q 10 (.fld 1) [.qz 9] (some (.qz 2,false))
 (.q 11 (.ixa 7 1) [.qz 10,.qz 8] (some (.qz 2,false))
 (.q 12 .ld [.qz 11] (some (.qz 2,false))
 (.q 13 (.icm .leq) [.qz 5,.qz 12] (some (.qz 2,false))
 (.Q 14 .pick [.qz 2,.const (.bool true),.qz 13]
 (.q 16 (.lda 7) [.qq 6] (some (.qz 14,false))
 (.x 17 (.call 18) [.qz 16] (some (.qz 14,false)) []
 (.q 18 .not [.qz 17] (some (.qz 14,false))
 (.Q 19 .pick [.qz 14,.const (.bool true),.qz 18]
 (.q 21 .mv [.qq 3] (some (.qz 19,false))
 (.q 22 (.icm .lss) [.qz 21,.qj 0] (some (.qz 19,false))
 (.Q 23 .pick [.qz 19,.const (.bool true),.qz 22]
 (.q 25 .mv [.qq 3] (some (.qz 23,false))
 (.q 26 (.icm .gtr) [.qz 25,.qj 1099511627776] (some (.qz 23,false))
 (.Q 27 .pick [.qz 23,.const (.bool true),.qz 26]
 (.out (qx [0,3,5,6] [(36,.qz 27)]))))))))))))))))))))))))))
 [0,3,5,6]
abbrev fi:NC:=.reg
 (.out [(8,.const (.bool false))])
 []
abbrev fh:NC:=.reg
 (.Q 1 .nilck [.qq 0]
 (.Q 2 (.fld 0) [.qz 1]
 (.Q 3 .ld [.qz 2]
 (.Q 4 (.lda 2) [.qq 5]
 (.Q 5 (.lda 7) [.qq 6]
 (.Q 7 (.bld [.int .i64 0,.int .i64 0,.int .i64 0,(.string ⟨#[]⟩),(.string ⟨#[]⟩),(.string ⟨#[]⟩),(.string ⟨#[]⟩),.int .i64 0] [(0,7),(7,1)]) [.qz 5,.qq 3]
 (.x 8 (.mup true [.i .i64,.i .i64]) [.qz 3,.qz 4,.qz 7] none []
 (.out []))))))))
 [0,3,5,6]
abbrev fg:NC:=.reg
 (.out [(8,.const (.bool true))])
 []
abbrev Vo:NC :=
 (.seq ft
 (.seq (.seq fo
 (.cond (.qq 36)
 (.seq fi
 .ret)
 .skip))
 (.seq fh
 (.seq fg
 .ret))))
abbrev Vp:FN:=⟨Vo,[.qq 8]⟩
theorem fu:GoT 88 Tryz.f88 Vo Vp:=goT (F:=Vp) Tryz.func88 (by kernel_rfl)
abbrev Fj:NC:=.reg
 (.x 0 (.box 39) [.qq 2] none []
 (.x 2 (.alc zL0 39) [] none []
 (.out (qx [0,1,3,4] [(7,.qz 0),(11,.qz 2)]))))
 [0,1,2,3,4]
abbrev Fz:NC:=.reg
 (.out (qx [0,1,3,4,7,11] [(12,.qj 0)]))
 [0,1,3,4,7,11]
abbrev Fq:NC:=.reg
 (.Q 1 .len [.qq 3]
 (.out (qx [0,1,3,4,7,11,12] [(15,.qq 3),(16,.qz 1),(17,.qj 0)])))
 [0,1,3,4,7,11,12]
abbrev EU:NC:=.reg
 (.Q 0 (.icm .lss) [.qq 17,.qq 16]
 (.out (qx [0,1,3,4,7,11,12,15,16,17] [(18,.qz 0)])))
 [0,1,3,4,7,11,12,15,16,17]
abbrev ES:NC:=.reg
 (.Q 0 (.ixs 8) [.qq 15,.qq 17]
 (.Q 1 (.lda 8) [.qz 0]
 (.x 2 (.alc zL0 39) [] none []
 (.x 3 (.st 8) [.qz 2,.qz 1] none []
 (.out (qx [0,1,3,4,7,11,12] [(14,.qz 2),(15,.qq 15),(16,.qq 16),(17,.qq 17)]))))))
 [0,1,3,4,7,11,12,15,16,17]
abbrev ER:NC:=.reg
 (.Q 0 (.lda 8) [.qq 14]
 (.Q 1 (.lda 8) [.qq 7]
 (.Q 2 (.eqc false [.i .i64,.i .i64,.i .i64,.i .i64,.i .i64,.i .i64,.i .i64,.i .i64]) [.qz 0,.qz 1]
 (.out (qx [0,1,3,4,7,11,12,15,16,17] [(23,.qz 2)])))))
 [0,1,3,4,7,11,12,14,15,16,17]
abbrev EP:NC:=.reg
 (.Q 1 (.iar .add) [.qq 12,.qj 1]
 (.out (qx [0,1,3,4,7,11] [(12,.qz 1),(15,.qq 15),(16,.qq 16),(17,.qq 17)])))
 [0,1,3,4,7,11,12,15,16,17]
abbrev EO:NC:=.reg
 (.Q 0 (.iar .add) [.qq 17,.qj 1]
 (.out (qx [0,1,3,4,7,11,12,15,16] [(17,.qz 0)])))
 [0,1,3,4,7,11,12,15,16,17]
abbrev Fx:NC :=
 (.seq EU
 (.seq (.cond (.qq 18)
 .skip
 (.exit 0))
 (.seq (.block 1 (.seq ES
 (.seq ER
 (.cond (.qq 23)
 EP
 .skip))))
 EO)))
abbrev EN:NC:=.reg
 (.q 2 .mv [.qq 12] (some (.qq 1,true))
 (.q 3 .mv [.qq 0] (some (.qq 1,true))
 (.x 4 (.call 117) [.qz 3] (some (.qq 1,true)) []
 (.q 5 (.iar .sub) [.qz 4,.qj 1] (some (.qq 1,true))
 (.q 6 (.icm .geq) [.qz 2,.qz 5] (some (.qq 1,true))
 (.Q 7 .pick [.qq 1,.qz 6,.const (.bool false)]
 (.out (qx [0,1,3,4,7,11,12] [(34,.qz 7)]))))))))
 [0,1,3,4,7,11,12]
abbrev EM:NC:=.reg
 (.Q 0 (.lda 8) [.qq 7]
 (.x 2 (.st 8) [.qq 11,.qz 0] none []
 (.out [(10,.qj 1),(11,.qq 11)])))
 [7,11]
abbrev Cx:NC:=.reg
 (.Q 1 .len [.qq 3]
 (.x 3 (.call 76) [.qq 0] none []
 (.Q 4 (.iar .sub) [.qz 3,.qj 1]
 (.Q 5 (.icm .lss) [.qz 1,.qz 4]
 (.q 7 .mv [.qq 1] (some (.qz 5,false))
 (.q 8 .mv [.qz 7] (some (.qz 5,false))
 (.q 9 .mv [.qq 4] (some (.qz 8,true))
 (.q 10 .not [.qz 9] (some (.qz 8,true))
 (.q 11 .pick [.qz 8,.qz 10,.const (.bool false)] (some (.qz 5,false))
 (.q 12 .mv [.qz 11] (some (.qz 5,false))
 (.q 13 .mv [.qq 3] (some (.qz 12,true))
 (.q 14 .len [.qz 13] (some (.qz 12,true))
 (.q 15 .mv [.qq 12] (some (.qz 12,true))
 (.q 16 (.iar .sub) [.qz 14,.qz 15] (some (.qz 12,true))
 (.q 17 (.icm .lss) [.qz 16,.qj 2] (some (.qz 12,true))
 (.q 18 .pick [.qz 12,.qz 17,.const (.bool false)] (some (.qz 5,false))
 (.Q 19 .pick [.qz 5,.const (.bool true),.qz 18]
 (.out (qx [3,7,11] [(55,.qz 19)])))))))))))))))))))
 [0,1,3,4,7,11,12]
abbrev Cj:NC:=.reg
 (.Q 0 (.bld zL0 []) []
 (.x 2 (.st 8) [.qq 11,.qz 0] none []
 (.out [(10,.qj 0),(11,.qq 11)])))
 [11]
abbrev Cz:NC:=.reg
 (.Q 0 (.lda 8) [.qq 7]
 (.x 1 (.bsl 39 1 zL0 [(0,8)]) [.qz 0] none []
 (.x 3 (.app 39 8 64 zL0) [.qz 1,.qq 3] none []
 (.x 4 (.call 101) [.qz 3] none []
 (.x 6 (.st 8) [.qq 11,.qz 4] none []
 (.out [(10,.qj 2),(11,.qq 11)]))))))
 [3,7,11]
abbrev nI:NC :=
 (.seq Fj
 (.seq Fz
 (.seq (.seq Fq
 (.block 0 (.loop [0,1,3,4,7,11,12,15,16,17] Fx)))
 (.seq (.seq EN
 (.cond (.qq 34)
 (.seq EM
 .ret)
 .skip))
 (.seq (.seq Cx
 (.cond (.qq 55)
 (.seq Cj
 .ret)
 .skip))
 (.seq Cz
 .ret))))))
abbrev nL:FN:=⟨nI,[.qq 10,.cells 11 8]⟩
theorem Fk:GoT 89 Tryz.f89 nI nL:=goT (F:=nL) Tryz.func89 (by kernel_rfl)
abbrev mz:NC:=.reg
 (.x 1 (.alc [.int .i64 0,.int .i64 0,.int .i64 0,(.string ⟨#[]⟩),(.string ⟨#[]⟩),(.string ⟨#[]⟩),(.string ⟨#[]⟩)] 30) [] none []
 (.x 2 (.alc zL0 39) [] none []
 (.out (qx [0,1,2] [(7,.qz 1),(8,.qz 2)]))))
 [0,1,2]
abbrev mq:NC:=.reg
 (.Q 1 .len [.qq 2]
 (.x 3 (.call 76) [.qq 0] none []
 (.Q 4 (.icm .lss) [.qz 1,.qz 3]
 (.out (qx [0,1,2,7,8] [(20,.qz 4)])))))
 [0,1,2,7,8]
abbrev lU:NC:=.reg
 (.Q 0 (.bld [.int .i64 0,.int .i64 0,.int .i64 0,(.string ⟨#[]⟩),(.string ⟨#[]⟩),(.string ⟨#[]⟩),(.string ⟨#[]⟩)] []) []
 (.Q 1 (.bld zL0 []) []
 (.x 3 (.st 7) [.qq 7,.qz 0] none []
 (.x 4 (.st 8) [.qq 8,.qz 1] none []
 (.out [(6,.qj 0),(7,.qq 7),(8,.qq 8)])))))
 [7,8]
abbrev lT:NC:=.reg
 (.out [(0,.qq 0),(1,.qq 1),(2,.qq 2),(7,.qq 7),(8,.qq 8),(9,.qj 0),(10,(.const (.int .i64 (-1))))])
 [0,1,2,7,8]
abbrev lS:NC:=.reg
 (.out (qx [0,1,2,7,8,9,10] [(11,.const (.bool false))]))
 [0,1,2,7,8,9,10]
abbrev lR:NC:=.reg
 (.Q 1 .len [.qq 2]
 (.out (qx [0,1,2,7,8,9,10,11] [(23,.qq 2),(24,.qz 1),(25,.qj 0)])))
 [0,1,2,7,8,9,10,11]
abbrev lP:NC:=.reg
 (.Q 0 (.icm .lss) [.qq 25,.qq 24]
 (.out (qx [0,1,2,7,8,9,10,11,23,24,25] [(26,.qz 0)])))
 [0,1,2,7,8,9,10,11,23,24,25]
abbrev lO:NC:=.reg
 (.Q 1 (.ixs 22) [.qq 23,.qq 25]
 (.Q 2 (.lda 22) [.qz 1]
 (.x 3 (.alc [.int .i64 0,.int .i64 0,.int .i64 0,.int .i64 0,.int .i64 0,.int .i64 0,.int .i64 0,.int .i64 0,.int .i64 0,(.string ⟨#[]⟩),(.string ⟨#[]⟩),(.string ⟨#[]⟩),(.string ⟨#[]⟩),.int .i64 0,.int .i64 0,.int .i64 0,.int .i64 0,.int .i64 0,.int .i64 0,.int .i64 0,.int .i64 0,.bool false] 102) [] none []
 (.x 5 (.st 22) [.qz 3,.qz 2] none []
 (.out (qx [0,1,2,7,8,9,10,11] [(12,.qq 25),(13,.qz 3),(23,.qq 23),(24,.qq 24),(25,.qq 25)]))))))
 [0,1,2,7,8,9,10,11,23,24,25]
abbrev lN:NC:=.reg
 (.Q 0 (.fld 1) [.qq 13]
 (.Q 1 (.fld 0) [.qz 0]
 (.Q 2 .ld [.qz 1]
 (.Q 3 (.icm .eql) [.qz 2,.qj 3]
 (.out (qx [0,1,2,7,8,9,10,11,12,13,23,24,25] [(33,.qz 3)]))))))
 [0,1,2,7,8,9,10,11,12,13,23,24,25]
abbrev lM:NC:=.reg
 (.Q 0 (.fld 1) [.qq 13]
 (.Q 1 (.fld 5) [.qz 0]
 (.Q 2 (.lda 7) [.qz 1]
 (.Q 3 (.fld 1) [.qq 13]
 (.Q 4 (.fld 12) [.qz 3]
 (.Q 5 (.lda 8) [.qz 4]
 (.x 7 (.st 7) [.qq 7,.qz 2] none [(5,.lda 8,[.qz 4],none)]
 (.x 8 (.st 8) [.qq 8,.qz 5] none []
 (.out [(6,.qj 1),(7,.qq 7),(8,.qq 8)])))))))))
 [7,8,13]
abbrev gN:NC:=.reg
 (.Q 0 (.fld 0) [.qq 13]
 (.Q 1 .ld [.qz 0]
 (.Q 3 (.icm .eql) [.qz 1,.qq 1]
 (.out (qx [0,1,2,7,8,9,10,11,12,13,23,24,25] [(43,.qz 3)])))))
 [0,1,2,7,8,9,10,11,12,13,23,24,25]
abbrev gM:NC:=.reg
 (.out (qx [0,1,2,7,8,9,10] [(11,.const (.bool true)),(23,.qq 23),(24,.qq 24),(25,.qq 25)]))
 [0,1,2,7,8,9,10,23,24,25]
abbrev gL:NC:=.reg
 (.Q 0 (.fld 1) [.qq 13]
 (.Q 1 (.fld 0) [.qz 0]
 (.Q 2 .ld [.qz 1]
 (.Q 3 (.icm .eql) [.qz 2,.qj 1]
 (.q 5 (.fld 1) [.qq 13] (some (.qz 3,true))
 (.q 6 (.fld 20) [.qz 5] (some (.qz 3,true))
 (.q 7 .ld [.qz 6] (some (.qz 3,true))
 (.Q 8 .pick [.qz 3,.qz 7,.const (.bool false)]
 (.out (qx [0,1,2,7,8,9,10,11,12,23,24,25] [(52,.qz 8)]))))))))))
 [0,1,2,7,8,9,10,11,12,13,23,24,25]
abbrev gI:NC:=.reg
 (.Q 1 (.iar .add) [.qq 9,.qj 1]
 (.out (qx [0,1,2,7,8] [(9,.qz 1),(10,.qq 10),(11,.qq 11),(12,.qq 12),(23,.qq 23),(24,.qq 24),(25,.qq 25)])))
 [0,1,2,7,8,9,10,11,12,23,24,25]
abbrev gH:NC:=.reg
 (.Q 1 (.icm .lss) [.qq 10,.qj 0]
 (.out (qx [0,1,2,7,8,9,10,11,12,23,24,25] [(56,.qz 1)])))
 [0,1,2,7,8,9,10,11,12,23,24,25]
abbrev gG:NC:=.reg
 (.out (qx [0,1,2,7,8,9] [(10,.qq 12),(11,.qq 11),(23,.qq 23),(24,.qq 24),(25,.qq 25)]))
 [0,1,2,7,8,9,11,12,23,24,25]
abbrev gF:NC:=.reg
 (.Q 0 (.iar .add) [.qq 25,.qj 1]
 (.out (qx [0,1,2,7,8,9,10,11,23,24] [(25,.qz 0)])))
 [0,1,2,7,8,9,10,11,23,24,25]
abbrev mj:NC :=
 (.seq lP
 (.seq (.cond (.qq 26)
 .skip
 (.exit 0))
 (.seq (.block 1 (.seq lO
 (.seq (.seq lN
 (.cond (.qq 33)
 (.seq lM
 .ret)
 .skip))
 (.seq gN
 (.cond (.qq 43)
 gM
 (.seq gL
 (.cond (.qq 52)
 (.seq gI
 (.seq gH
 (.cond (.qq 56)
 gG
 .skip)))
 .skip)))))))
 gF)))
abbrev gE:NC:=.reg
 (.x 1 (.call 130) [.qq 2,.qj 2] none []
 (.out (qx [0,2,7,8,9,10,11] [(14,.qz 1)])))
 [0,2,7,8,9,10,11]
abbrev gD:NC:=.reg
 (.Q 1 (.icm .geq) [.qq 14,.qj 0]
 (.out (qx [0,2,7,8,9,10,11,14] [(62,.qz 1)])))
 [0,2,7,8,9,10,11,14]
abbrev gC:NC:=.reg
 (.Q 2 (.ixs 22) [.qq 2,.qq 14]
 (.Q 3 (.fld 1) [.qz 2]
 (.Q 4 (.fld 5) [.qz 3]
 (.Q 5 (.lda 7) [.qz 4]
 (.Q 8 (.ixs 22) [.qq 2,.qq 14]
 (.Q 9 (.fld 1) [.qz 8]
 (.Q 10 (.fld 12) [.qz 9]
 (.Q 11 (.lda 8) [.qz 10]
 (.x 13 (.st 7) [.qq 7,.qz 5] none [(11,.lda 8,[.qz 10],none)]
 (.x 14 (.st 8) [.qq 8,.qz 11] none []
 (.out [(6,.qj 2),(7,.qq 7),(8,.qq 8)])))))))))))
 [2,7,8,14]
abbrev gB:NC:=.reg
 (.x 1 (.call 130) [.qq 2,.qj 1] none []
 (.out (qx [0,2,7,8,9,10,11] [(15,.qz 1)])))
 [0,2,7,8,9,10,11]
abbrev gA:NC:=.reg
 (.Q 1 (.icm .lss) [.qq 15,.qj 0]
 (.out (qx [0,2,7,8,9,10,11,15] [(78,.qz 1)])))
 [0,2,7,8,9,10,11,15]
abbrev gu:NC:=.reg
 (.Q 0 (.bld [.int .i64 0,.int .i64 0,.int .i64 0,(.string ⟨#[]⟩),(.string ⟨#[]⟩),(.string ⟨#[]⟩),(.string ⟨#[]⟩)] []) []
 (.Q 1 (.bld zL0 []) []
 (.x 3 (.st 7) [.qq 7,.qz 0] none []
 (.x 4 (.st 8) [.qq 8,.qz 1] none []
 (.out [(6,.qj 4),(7,.qq 7),(8,.qq 8)])))))
 [7,8]
abbrev gr:NC:=.reg
 (.Q 1 .not [.qq 11]
 (.q 3 .mv [.qq 9] (some (.qz 1,true))
 (.q 4 .mv [.qq 0] (some (.qz 1,true))
 (.q 5 (.idv .quo) [.qz 4,.qj 2] (some (.qz 1,true))
 (.q 6 (.icm .geq) [.qz 3,.qz 5] (some (.qz 1,true))
 (.Q 7 .pick [.qz 1,.qz 6,.const (.bool false)]
 (.out (qx [2,7,8,10,15] [(88,.qz 7)]))))))))
 [0,2,7,8,9,10,11,15]
abbrev gp:NC:=.reg
 (.Q 2 (.ixs 22) [.qq 2,.qq 10]
 (.Q 3 (.fld 1) [.qz 2]
 (.Q 4 (.fld 5) [.qz 3]
 (.Q 5 (.lda 7) [.qz 4]
 (.Q 8 (.ixs 22) [.qq 2,.qq 10]
 (.Q 9 (.fld 1) [.qz 8]
 (.Q 10 (.fld 12) [.qz 9]
 (.Q 11 (.lda 8) [.qz 10]
 (.x 13 (.st 7) [.qq 7,.qz 5] none [(11,.lda 8,[.qz 10],none)]
 (.x 14 (.st 8) [.qq 8,.qz 11] none []
 (.out [(6,.qj 2),(7,.qq 7),(8,.qq 8)])))))))))))
 [2,7,8,10]
abbrev gn:NC:=.reg
 (.Q 2 (.ixs 22) [.qq 2,.qq 15]
 (.Q 3 (.fld 1) [.qz 2]
 (.Q 4 (.fld 5) [.qz 3]
 (.Q 5 (.lda 7) [.qz 4]
 (.Q 8 (.ixs 22) [.qq 2,.qq 15]
 (.Q 9 (.fld 1) [.qz 8]
 (.Q 10 (.fld 12) [.qz 9]
 (.Q 11 (.lda 8) [.qz 10]
 (.x 13 (.st 7) [.qq 7,.qz 5] none [(11,.lda 8,[.qz 10],none)]
 (.x 14 (.st 8) [.qq 8,.qz 11] none []
 (.out [(6,.qj 3),(7,.qq 7),(8,.qq 8)])))))))))))
 [2,7,8,15]
abbrev Yc:NC :=
 (.seq mz
 (.seq (.seq mq
 (.cond (.qq 20)
 (.seq lU
 .ret)
 .skip))
 (.seq lT
 (.seq lS
 (.seq (.seq lR
 (.block 0 (.loop [0,1,2,7,8,9,10,11,23,24,25] mj)))
 (.seq (.seq gE
 (.seq gD
 (.cond (.qq 62)
 (.seq gC
 .ret)
 .skip)))
 (.seq gB
 (.seq (.seq gA
 (.cond (.qq 78)
 (.seq gu
 .ret)
 .skip))
 (.seq (.seq gr
 (.cond (.qq 88)
 (.seq gp
 .ret)
 .skip))
 (.seq gn
 .ret))))))))))
abbrev Yd:FN:=⟨Yc,[.qq 6,.cells 7 7,.cells 8 8]⟩
theorem WV:GoT 102 Tryz.f102 Yc Yd:=goT (F:=Yd) Tryz.func102 (by kernel_rfl)
abbrev CQ:NC:=.reg
 (.x 0 (.box 25) [.qq 0] none []
 (.x 1 (.alc zL0 39) [] none []
 (.out [(1,.qz 0),(2,.qz 1)])))
 [0]
abbrev Cy:NC:=.reg
 (.x 0 (.alc zL0 39) [] none []
 (.out (qx [1,2] [(3,.qz 0)])))
 [1,2]
abbrev Cw:NC:=.reg
 (.Q 0 (.lda 2) [.qq 1]
 (.x 1 (.call 66) [.qz 0] none []
 (.out (qx [1,2,3] [(5,.qz 1)]))))
 [1,2,3]
abbrev Cv:NC:=.reg
 (.Q 0 (.fld 0) [.qq 1]
 (.Q 1 .ld [.qz 0]
 (.Q 2 (.fld 1) [.qq 1]
 (.Q 3 .ld [.qz 2]
 (.Q 4 (.iar .sub) [.qz 3,.qj 1]
 (.Q 5 (.fld 1) [.qq 3]
 (.Q 6 (.ixa 7 1) [.qz 5,.qz 1]
 (.x 7 (.st 1) [.qz 6,.qz 4] none []
 (.out (qx [2,3] []))))))))))
 [1,2,3]
abbrev Ck:NC:=.reg
 (.Q 0 (.lda 8) [.qq 3]
 (.x 1 (.st 8) [.qq 2,.qz 0] none []
 (.out [(2,.qq 2)])))
 [2,3]
abbrev iO:NC :=
 (.seq CQ
 (.seq Cy
 (.seq (.seq Cw
 (.cond (.qq 5)
 Cv
 .skip))
 (.seq Ck
 .ret))))
abbrev iR:FN:=⟨iO,[.cells 2 8]⟩
theorem ef:GoT 103 Tryz.f103 iO iR:=goT (F:=iR) Tryz.func103 (by kernel_rfl)
abbrev CV:NC:=.reg
 (.out [(0,.qq 0)])
 [0]
abbrev CK:NC:=.reg
 (.Q 1 (.iar .sub) [.qq 0,.qj 1]
 (.out [(2,.qz 1)]))
 [0]
abbrev iU:NC :=
 (.seq CV
 (.seq CK
 .ret))
abbrev lq:FN:=⟨iU,[.qq 2]⟩
theorem CW:GoT 117 Tryz.f117 iU lq:=goT (F:=lq) Tryz.func117 (by kernel_rfl)
abbrev BP:NC:=.reg
 (.out (qx [0,1] []))
 [0,1]
abbrev BO:NC:=.reg
 (.out [(0,.qq 0),(1,.qq 1),(5,(.const (.int .i64 (-1))))])
 [0,1]
abbrev BN:NC:=.reg
 (.Q 1 .len [.qq 0]
 (.out (qx [0,1,5] [(8,.qq 0),(9,.qz 1),(10,.qj 0)])))
 [0,1,5]
abbrev BM:NC:=.reg
 (.Q 0 (.icm .lss) [.qq 10,.qq 9]
 (.out (qx [0,1,5,8,9,10] [(11,.qz 0)])))
 [0,1,5,8,9,10]
abbrev BL:NC:=.reg
 (.Q 1 (.ixs 22) [.qq 8,.qq 10]
 (.Q 2 (.lda 22) [.qz 1]
 (.x 3 (.alc [.int .i64 0,.int .i64 0,.int .i64 0,.int .i64 0,.int .i64 0,.int .i64 0,.int .i64 0,.int .i64 0,.int .i64 0,(.string ⟨#[]⟩),(.string ⟨#[]⟩),(.string ⟨#[]⟩),(.string ⟨#[]⟩),.int .i64 0,.int .i64 0,.int .i64 0,.int .i64 0,.int .i64 0,.int .i64 0,.int .i64 0,.int .i64 0,.bool false] 102) [] none []
 (.x 5 (.st 22) [.qz 3,.qz 2] none []
 (.out (qx [0,1,5] [(6,.qq 10),(7,.qz 3),(8,.qq 8),(9,.qq 9),(10,.qq 10)]))))))
 [0,1,5,8,9,10]
abbrev BI:NC:=.reg
 (.Q 0 (.fld 1) [.qq 7]
 (.Q 1 (.fld 0) [.qz 0]
 (.Q 2 .ld [.qz 1]
 (.Q 4 (.icm .eql) [.qz 2,.qq 1]
 (.q 6 .mv [.qq 5] (some (.qz 4,true))
 (.q 7 (.icm .lss) [.qz 6,.qj 0] (some (.qz 4,true))
 (.q 8 .mv [.qz 7] (some (.qz 4,true))
 (.q 9 .mv [.qq 0] (some (.qz 8,false))
 (.q 10 .mv [.qq 5] (some (.qz 8,false))
 (.q 11 (.ixs 22) [.qz 9,.qz 10] (some (.qz 8,false))
 (.q 12 (.fld 1) [.qz 11] (some (.qz 8,false))
 (.q 13 (.fld 3) [.qz 12] (some (.qz 8,false))
 (.q 14 (.lda 2) [.qz 13] (some (.qz 8,false))
 (.q 15 (.fld 1) [.qq 7] (some (.qz 8,false))
 (.q 16 (.fld 3) [.qz 15] (some (.qz 8,false))
 (.q 17 (.lda 2) [.qz 16] (some (.qz 8,false))
 (.x 18 (.call 37) [.qz 14,.qz 17] (some (.qz 8,false)) []
 (.q 19 .pick [.qz 8,.const (.bool true),.qz 18] (some (.qz 4,true))
 (.Q 20 .pick [.qz 4,.qz 19,.const (.bool false)]
 (.out (qx [0,1,5,6,8,9,10] [(35,.qz 20)])))))))))))))))))))))
 [0,1,5,6,7,8,9,10]
abbrev BH:NC:=.reg
 (.out (qx [0,1] [(5,.qq 6),(8,.qq 8),(9,.qq 9),(10,.qq 10)]))
 [0,1,6,8,9,10]
abbrev BG:NC:=.reg
 (.Q 0 (.iar .add) [.qq 10,.qj 1]
 (.out (qx [0,1,5,8,9] [(10,.qz 0)])))
 [0,1,5,8,9,10]
abbrev BR:NC :=
 (.seq BM
 (.seq (.cond (.qq 11)
 .skip
 (.exit 0))
 (.seq (.block 1 (.seq BL
 (.seq BI
 (.cond (.qq 35)
 BH
 .skip))))
 BG)))
abbrev BF:NC:=.reg
 (.out [(4,.qq 5)])
 [5]
abbrev iI:NC :=
 (.seq BP
 (.seq BO
 (.seq (.seq BN
 (.block 0 (.loop [0,1,5,8,9,10] BR)))
 (.seq BF
 .ret))))
abbrev iL:FN:=⟨iI,[.qq 4]⟩
theorem BS:GoT 130 Tryz.f130 iI iL:=goT (F:=iL) Tryz.func130 (by kernel_rfl)
end Go.Fw
