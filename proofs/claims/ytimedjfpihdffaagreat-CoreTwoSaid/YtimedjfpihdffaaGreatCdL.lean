import Derived.Test.YtimedjfpihdffaaGreatCd
set_option linter.unusedVariables false
set_option linter.unusedSimpArgs false
set_option maxHeartbeats 16000000
namespace Go.Fw
open Go.Proofs
abbrev CT:NC:=.reg
 (.x 0 (.alc zL2 37) [] none []
 (.out [(0,.qq 0),(2,.qz 0)]))
 [0]
abbrev CS:NC:=.reg
 (.Q 1 .nilck [.qq 0]
 (.Q 2 (.fld 1) [.qz 1]
 (.Q 3 (.lda 7) [.qz 2]
 (.x 4 (.alc zL2 37) [] none []
 (.x 5 (.st 7) [.qz 4,.qz 3] none []
 (.out (qx [0,2] [(3,.qz 4)])))))))
 [0,2]
abbrev CR:NC:=.reg
 (.Q 1 .nilck [.qq 0]
 (.Q 2 (.fld 0) [.qz 1]
 (.Q 3 .ld [.qz 2]
 (.x 4 .rng [.qz 3] none []
 (.out (qx [2,3] [(13,.qz 4)]))))))
 [0,2,3]
abbrev CP:NC:=.reg
 (.x 0 .nxt [.qq 13] none []
 (.Q 1 (.ext 0) [.qz 0]
 (.out (qx [2,3,13] [(15,.qz 1)]))))
 [2,3,13]
abbrev CO:NC:=.reg
 (.Q 0 .ent [.qq 13]
 (.Q 1 (.ext 0) [.qz 0]
 (.x 2 (.alc [.int .i64 0,.int .i64 0] 25) [] none []
 (.x 3 (.st 2) [.qz 2,.qz 1] none []
 (.out (qx [2,3] [(4,.qz 2),(13,.qq 13)]))))))
 [2,3,13]
abbrev CL:NC:=.reg
 (.Q 0 (.fld 0) [.qq 4]
 (.Q 1 .ld [.qz 0]
 (.Q 2 (.fld 0) [.qq 4]
 (.Q 3 .ld [.qz 2]
 (.Q 4 (.ixa 7 1) [.qq 3,.qz 3]
 (.Q 5 .ld [.qz 4]
 (.Q 6 (.fld 1) [.qq 4]
 (.Q 7 .ld [.qz 6]
 (.Q 8 .mx [.qz 5,.qz 7]
 (.Q 9 (.ixa 7 1) [.qq 3,.qz 1]
 (.x 10 (.st 1) [.qz 9,.qz 8] none []
 (.out (qx [2,3,13] [])))))))))))))
 [2,3,4,13]
abbrev CU:NC :=
 (.seq CP
 (.seq (.cond (.qq 15)
 .skip
 (.exit 0))
 (.block 1 (.seq CO
 CL))))
abbrev CI:NC:=.reg
 (.Q 0 (.lda 7) [.qq 3]
 (.x 1 (.st 7) [.qq 2,.qz 0] none []
 (.out [(2,.qq 2)])))
 [2,3]
abbrev ly:NC :=
 (.seq CT
 (.seq CS
 (.seq (.seq CR
 (.block 0 (.loop [2,3,13] CU)))
 (.seq CI
 .ret))))
abbrev lQ:FN:=⟨ly,[.cells 2 7]⟩
theorem Dq:GoT 28 Tryz.f28 ly lQ:=goT (F:=lQ) Tryz.func28 (by kernel_rfl)
abbrev AX:NC:=.reg
 (.x 0 (.box 25) [.qq 1] none []
 (.x 1 (.alc [.int .i64 0,.int .i64 0,.int .i64 0,.int .i64 0,.int .i64 0,.int .i64 0,.int .i64 0,.int .i64 0,(.string ⟨#[]⟩),(.string ⟨#[]⟩),(.string ⟨#[]⟩),(.string ⟨#[]⟩),.int .i64 0,.int .i64 0,.int .i64 0,.int .i64 0,.int .i64 0,.int .i64 0,.int .i64 0,.int .i64 0,.bool false] 41) [] none []
 (.out [(0,.qq 0),(3,.qz 0),(4,.qz 1)])))
 [0,1]
abbrev AJ:NC:=.reg
 (.Q 1 .nilck [.qq 0]
 (.Q 2 (.fld 0) [.qz 1]
 (.Q 3 .ld [.qz 2]
 (.Q 4 (.lda 2) [.qq 3]
 (.Q 5 (.lkp true [.i .i64,.i .i64] (.agg #[.int .i64 0,.int .i64 0,.int .i64 0,.int .i64 0,.int .i64 0,.int .i64 0,.int .i64 0,.int .i64 0,(.string ⟨#[]⟩),(.string ⟨#[]⟩),(.string ⟨#[]⟩),(.string ⟨#[]⟩),.int .i64 0,.int .i64 0,.int .i64 0,.int .i64 0,.int .i64 0,.int .i64 0,.int .i64 0,.int .i64 0,.bool false]) true) [.qz 3,.qz 4]
 (.Q 7 (.ext 0) [.qz 5]
 (.Q 8 (.ext 1) [.qz 5]
 (.x 9 (.alc [.int .i64 0,.int .i64 0,.int .i64 0,.int .i64 0,.int .i64 0,.int .i64 0,.int .i64 0,.int .i64 0,(.string ⟨#[]⟩),(.string ⟨#[]⟩),(.string ⟨#[]⟩),(.string ⟨#[]⟩),.int .i64 0,.int .i64 0,.int .i64 0,.int .i64 0,.int .i64 0,.int .i64 0,.int .i64 0,.int .i64 0,.bool false] 41) [] none [(3,.ld,[.qz 2],none),(4,.lda 2,[.qq 3],none),(5,(.lkp true [.i .i64,.i .i64] (.agg #[.int .i64 0,.int .i64 0,.int .i64 0,.int .i64 0,.int .i64 0,.int .i64 0,.int .i64 0,.int .i64 0,(.string ⟨#[]⟩),(.string ⟨#[]⟩),(.string ⟨#[]⟩),(.string ⟨#[]⟩),.int .i64 0,.int .i64 0,.int .i64 0,.int .i64 0,.int .i64 0,.int .i64 0,.int .i64 0,.int .i64 0,.bool false]) true),[.qz 3,.qz 4],none)]
 (.x 10 (.st 21) [.qz 9,.qz 7] none []
 (.out [(4,.qq 4),(6,.qz 9),(7,.qz 8)]))))))))))
 [0,3,4]
abbrev AZ:NC:=.reg
 (.Q 1 .not [.qq 7]
 (.out (qx [4,6] [(18,.qz 1)])))
 [4,6,7]
abbrev AQ:NC:=.reg
 (.Q 0 (.bld [.int .i64 0,.int .i64 0,.int .i64 0,.int .i64 0,.int .i64 0,.int .i64 0,.int .i64 0,.int .i64 0,(.string ⟨#[]⟩),(.string ⟨#[]⟩),(.string ⟨#[]⟩),(.string ⟨#[]⟩),.int .i64 0,.int .i64 0,.int .i64 0,.int .i64 0,.int .i64 0,.int .i64 0,.int .i64 0,.int .i64 0,.bool false] []) []
 (.x 1 (.st 21) [.qq 4,.qz 0] none []
 (.out [(4,.qq 4),(5,.const (.bool false))])))
 [4]
abbrev Ay:NC:=.reg
 (.Q 0 (.lda 21) [.qq 6]
 (.x 1 (.st 21) [.qq 4,.qz 0] none []
 (.out [(4,.qq 4),(5,.const (.bool true))])))
 [4,6]
abbrev eU:NC :=
 (.seq AX
 (.seq AJ
 (.seq (.seq AZ
 (.cond (.qq 18)
 (.seq AQ
 .ret)
 .skip))
 (.seq Ay
 .ret))))
abbrev fq:FN:=⟨eU,[.cells 4 21,.qq 5]⟩
theorem AK:GoT 33 Tryz.f33 eU fq:=goT (F:=fq) Tryz.func33 (by kernel_rfl)
abbrev Av:NC:=.reg
 (.x 0 (.box 25) [.qq 1] none []
 (.out [(0,.qq 0),(3,.qz 0)]))
 [0,1]
abbrev Ak:NC:=.reg
 (.Q 0 (.lda 2) [.qq 3]
 (.x 1 (.call 66) [.qz 0] none []
 (.q 3 (.fld 1) [.qq 3] (some (.qz 1,true))
 (.q 4 .ld [.qz 3] (some (.qz 1,true))
 (.q 5 .mv [.qq 0] (some (.qz 1,true))
 (.q 6 (.fld 0) [.qq 3] (some (.qz 1,true))
 (.q 7 .ld [.qz 6] (some (.qz 1,true))
 (.q 8 .nilck [.qz 5] (some (.qz 1,true))
 (.q 9 (.fld 1) [.qz 8] (some (.qz 1,true))
 (.q 10 (.ixa 7 1) [.qz 9,.qz 7] (some (.qz 1,true))
 (.q 11 .ld [.qz 10] (some (.qz 1,true))
 (.q 12 (.icm .leq) [.qz 4,.qz 11] (some (.qz 1,true))
 (.Q 13 .pick [.qz 1,.qz 12,.const (.bool false)]
 (.out [(4,.qz 13)]))))))))))))))
 [0,3]
abbrev eS:NC :=
 (.seq Av
 (.seq Ak
 .ret))
abbrev eT:FN:=⟨eS,[.qq 4]⟩
theorem Aw:GoT 44 Tryz.f44 eS eT:=goT (F:=eT) Tryz.func44 (by kernel_rfl)
abbrev Rt:NC:=.reg
 (.x 0 (.box 37) [.qq 0] none []
 (.out [(1,.qz 0)]))
 [0]
abbrev Rs:NC:=.reg
 (.x 0 .mkm [] none []
 (.Q 1 (.bld [.map none,.int .i64 0,.int .i64 0,.int .i64 0,.int .i64 0,.int .i64 0,.int .i64 0,.int .i64 0] [(0,1)]) [.qz 0]
 (.x 2 (.box 127) [.qz 1] none []
 (.out [(1,.qq 1),(3,.qz 2)]))))
 [1]
abbrev Rr:NC:=.reg
 (.Q 1 (.lda 7) [.qq 1]
 (.x 2 (.call 82) [.qq 3,.qz 1] none []
 (.out [(3,.qq 3)])))
 [1,3]
abbrev Rp:NC:=.reg
 (.out [(2,.qq 3)])
 [3]
abbrev GR:NC :=
 (.seq Rt
 (.seq Rs
 (.seq Rr
 (.seq Rp
 .ret))))
abbrev GS:FN:=⟨GR,[.qq 2]⟩
theorem Ru:GoT 51 Tryz.f51 GR GS:=goT (F:=GS) Tryz.func51 (by kernel_rfl)
abbrev DQ:NC:=.reg
 (.x 0 (.box 25) [.qq 1] none []
 (.x 1 (.box 41) [.qq 2] none []
 (.out [(0,.qq 0),(4,.qz 0),(5,.qz 1)])))
 [0,1,2]
abbrev Dy:NC:=.reg
 (.Q 0 (.lda 2) [.qq 4]
 (.x 1 (.call 66) [.qz 0] none []
 (.Q 2 .not [.qz 1]
 (.q 4 .mv [.qq 0] (some (.qz 2,false))
 (.q 5 (.lda 2) [.qq 4] (some (.qz 2,false))
 (.x 6 (.call 44) [.qz 4,.qz 5] (some (.qz 2,false)) []
 (.Q 7 .pick [.qz 2,.const (.bool true),.qz 6]
 (.q 9 (.lda 21) [.qq 5] (some (.qz 7,false))
 (.x 10 (.call 72) [.qz 9] (some (.qz 7,false)) []
 (.q 11 .not [.qz 10] (some (.qz 7,false))
 (.Q 12 .pick [.qz 7,.const (.bool true),.qz 11]
 (.out (qx [0,4,5] [(21,.qz 12)])))))))))))))
 [0,4,5]
abbrev Dw:NC:=.reg
 (.out [(6,.const (.bool false))])
 []
abbrev Dv:NC:=.reg
 (.Q 1 .nilck [.qq 0]
 (.Q 2 (.fld 0) [.qz 1]
 (.Q 3 .ld [.qz 2]
 (.Q 4 (.lda 2) [.qq 4]
 (.Q 5 (.lkp true [.i .i64,.i .i64] (.agg #[.int .i64 0,.int .i64 0,.int .i64 0,.int .i64 0,.int .i64 0,.int .i64 0,.int .i64 0,.int .i64 0,(.string ⟨#[]⟩),(.string ⟨#[]⟩),(.string ⟨#[]⟩),(.string ⟨#[]⟩),.int .i64 0,.int .i64 0,.int .i64 0,.int .i64 0,.int .i64 0,.int .i64 0,.int .i64 0,.int .i64 0,.bool false]) true) [.qz 3,.qz 4]
 (.Q 7 (.ext 0) [.qz 5]
 (.Q 8 (.ext 1) [.qz 5]
 (.x 9 (.alc [.int .i64 0,.int .i64 0,.int .i64 0,.int .i64 0,.int .i64 0,.int .i64 0,.int .i64 0,.int .i64 0,(.string ⟨#[]⟩),(.string ⟨#[]⟩),(.string ⟨#[]⟩),(.string ⟨#[]⟩),.int .i64 0,.int .i64 0,.int .i64 0,.int .i64 0,.int .i64 0,.int .i64 0,.int .i64 0,.int .i64 0,.bool false] 41) [] none [(3,.ld,[.qz 2],none),(4,.lda 2,[.qq 4],none),(5,(.lkp true [.i .i64,.i .i64] (.agg #[.int .i64 0,.int .i64 0,.int .i64 0,.int .i64 0,.int .i64 0,.int .i64 0,.int .i64 0,.int .i64 0,(.string ⟨#[]⟩),(.string ⟨#[]⟩),(.string ⟨#[]⟩),(.string ⟨#[]⟩),.int .i64 0,.int .i64 0,.int .i64 0,.int .i64 0,.int .i64 0,.int .i64 0,.int .i64 0,.int .i64 0,.bool false]) true),[.qz 3,.qz 4],none)]
 (.x 10 (.st 21) [.qz 9,.qz 7] none []
 (.out (qx [0,4,5] [(7,.qz 9),(8,.qz 8)])))))))))))
 [0,4,5]
abbrev Dk:NC:=.reg
 (.q 2 (.lda 21) [.qq 7] (some (.qq 8,true))
 (.q 3 (.lda 21) [.qq 5] (some (.qq 8,true))
 (.x 4 (.call 87) [.qz 2,.qz 3] (some (.qq 8,true)) []
 (.q 5 .not [.qz 4] (some (.qq 8,true))
 (.Q 6 .pick [.qq 8,.qz 5,.const (.bool false)]
 (.out (qx [0,4,5] [(37,.qz 6)])))))))
 [0,4,5,7,8]
abbrev Dx:NC:=.reg
 (.out [(6,.const (.bool false))])
 []
abbrev Dj:NC:=.reg
 (.Q 1 .nilck [.qq 0]
 (.Q 2 (.fld 0) [.qz 1]
 (.Q 3 .ld [.qz 2]
 (.Q 4 (.lda 2) [.qq 4]
 (.Q 5 (.lda 21) [.qq 5]
 (.x 6 (.mup true [.i .i64,.i .i64]) [.qz 3,.qz 4,.qz 5] none []
 (.out [])))))))
 [0,4,5]
abbrev Dz:NC:=.reg
 (.out [(6,.const (.bool true))])
 []
abbrev lZ:NC :=
 (.seq DQ
 (.seq (.seq Dy
 (.cond (.qq 21)
 (.seq Dw
 .ret)
 .skip))
 (.seq (.seq Dv
 (.seq Dk
 (.cond (.qq 37)
 (.seq Dx
 .ret)
 .skip)))
 (.seq Dj
 (.seq Dz
 .ret)))))
abbrev lJ:FN:=⟨lZ,[.qq 6]⟩
theorem DZ:GoT 55 Tryz.f55 lZ lJ:=goT (F:=lJ) Tryz.func55 (by kernel_rfl)
abbrev QV:NC:=.reg
 (.out [(0,.qq 0)])
 [0]
abbrev QK:NC:=.reg
 (.Q 1 (.eqs false) [.qq 0,.const (.slice none 0 0)]
 (.out [(0,.qq 0),(4,.qz 1)]))
 [0]
abbrev QX:NC:=.reg
 (.out [(2,.const (.slice none 0 0))])
 []
abbrev QJ:NC:=.reg
 (.x 0 (.bsl 88 0 [] []) [] none []
 (.x 2 (.app 88 1 8 [.pointer none]) [.qz 0,.qq 0] none []
 (.out [(2,.qz 2)])))
 [0]
abbrev jt:NC :=
 (.seq QV
 (.seq (.seq QK
 (.cond (.qq 4)
 (.seq QX
 .ret)
 .skip))
 (.seq QJ
 .ret)))
abbrev ju:FN:=⟨jt,[.qq 2]⟩
theorem QW:GoT 57 Tryz.f57 jt ju:=goT (F:=ju) Tryz.func57 (by kernel_rfl)
abbrev Az:NC:=.reg
 (.out [(0,.qq 0)])
 [0]
abbrev Aq:NC:=.reg
 (.out [(0,.qq 0),(3,.const (.slice none 0 0))])
 [0]
abbrev uU:NC:=.reg
 (.Q 1 .nilck [.qq 0]
 (.Q 2 (.fld 0) [.qz 1]
 (.Q 3 .ld [.qz 2]
 (.x 4 .rng [.qz 3] none []
 (.out [(3,.qq 3),(9,.qz 4)])))))
 [0,3]
abbrev uT:NC:=.reg
 (.x 0 .nxt [.qq 9] none []
 (.Q 1 (.ext 0) [.qz 0]
 (.out (qx [3,9] [(11,.qz 1)]))))
 [3,9]
abbrev uS:NC:=.reg
 (.Q 0 .ent [.qq 9]
 (.Q 1 (.ext 0) [.qz 0]
 (.x 2 (.alc [.int .i64 0,.int .i64 0] 25) [] none []
 (.x 3 (.st 2) [.qz 2,.qz 1] none []
 (.out [(3,.qq 3),(4,.qz 2),(9,.qq 9)])))))
 [3,9]
abbrev uR:NC:=.reg
 (.Q 1 (.lda 2) [.qq 4]
 (.x 2 (.bsl 25 1 [.int .i64 0,.int .i64 0] [(0,2)]) [.qz 1] none []
 (.x 3 (.app 25 2 16 [.int .i64 0,.int .i64 0]) [.qq 3,.qz 2] none []
 (.out [(3,.qz 3),(9,.qq 9)]))))
 [3,4,9]
abbrev Aj:NC :=
 (.seq uT
 (.seq (.cond (.qq 11)
 .skip
 (.exit 0))
 (.block 1 (.seq uS
 uR))))
abbrev uP:NC:=.reg
 (.x 1 (.call 91) [.qq 3,.fn 92] none []
 (.out [(3,.qq 3)]))
 [3]
abbrev uO:NC:=.reg
 (.out [(2,.qq 3)])
 [3]
abbrev eP:NC :=
 (.seq Az
 (.seq Aq
 (.seq (.seq uU
 (.block 0 (.loop [3,9] Aj)))
 (.seq uP
 (.seq uO
 .ret)))))
abbrev eR:FN:=⟨eP,[.qq 2]⟩
theorem Ax:GoT 61 Tryz.f61 eP eR:=goT (F:=eR) Tryz.func61 (by kernel_rfl)
abbrev Qy:NC:=.reg
 (.out [(0,.qq 0)])
 [0]
abbrev Qw:NC:=.reg
 (.Q 1 (.eqs false) [.qq 0,.const (.slice none 0 0)]
 (.out [(0,.qq 0),(4,.qz 1)]))
 [0]
abbrev Qv:NC:=.reg
 (.out [(2,.const (.slice none 0 0))])
 []
abbrev Qk:NC:=.reg
 (.x 0 (.bsl 94 0 [] []) [] none []
 (.x 2 (.app 94 1 8 [.pointer none]) [.qz 0,.qq 0] none []
 (.out [(2,.qz 2)])))
 [0]
abbrev jr:NC :=
 (.seq Qy
 (.seq (.seq Qw
 (.cond (.qq 4)
 (.seq Qv
 .ret)
 .skip))
 (.seq Qk
 .ret)))
abbrev js:FN:=⟨jr,[.qq 2]⟩
theorem QZ:GoT 63 Tryz.f63 jr js:=goT (F:=js) Tryz.func63 (by kernel_rfl)
abbrev kY:NC:=.reg
 (.out (qx [0,1] []))
 [0,1]
abbrev kW:NC:=.reg
 (.x 2 (.call 95) [.qq 0,.qq 1] none []
 (.out (qx [0,1] [(5,.qz 2)])))
 [0,1]
abbrev kV:NC:=.reg
 (.Q 1 (.icm .eql) [.qq 5,(.const (.int .i64 (-1)))]
 (.out (qx [0,1,5] [(12,.qz 1)])))
 [0,1,5]
abbrev kK:NC:=.reg
 (.out [(4,.qq 0)])
 [0]
abbrev kX:NC:=.reg
 (.Q 1 (.iar .add) [.qq 5,.qj 1]
 (.out (qx [0,1,5] [(6,.qz 1)])))
 [0,1,5]
abbrev kJ:NC:=.reg
 (.Q 2 .len [.qq 0]
 (.Q 3 (.icm .lss) [.qq 6,.qz 2]
 (.out (qx [0,1,5,6] [(19,.qz 3)]))))
 [0,1,5,6]
abbrev kZ:NC:=.reg
 (.Q 2 (.ixs 1) [.qq 0,.qq 6]
 (.Q 3 .ld [.qz 2]
 (.out (qx [0,1,5,6] [(7,.qz 3)]))))
 [0,1,5,6]
abbrev kQ:NC:=.reg
 (.x 2 .callv [.qq 1,.qq 7] none []
 (.Q 3 .not [.qz 2]
 (.out (qx [0,1,5,6,7] [(29,.qz 3)]))))
 [0,1,5,6,7]
abbrev kw:NC:=.reg
 (.Q 3 (.ixs 1) [.qq 0,.qq 5]
 (.x 4 (.st 1) [.qz 3,.qq 7] none []
 (.out (qx [0,1,5,6] []))))
 [0,1,5,6,7]
abbrev kx:NC:=.reg
 (.Q 1 (.iar .add) [.qq 5,.qj 1]
 (.out (qx [0,1] [(5,.qz 1),(6,.qq 6)])))
 [0,1,5,6]
abbrev xN:NC:=.reg
 (.Q 1 (.iar .add) [.qq 6,.qj 1]
 (.out (qx [0,1,5] [(6,.qz 1)])))
 [0,1,5,6]
abbrev ka:NC :=
 (.seq (.seq kJ
 (.cond (.qq 19)
 .skip
 (.exit 0)))
 (.seq (.block 1 (.seq kZ
 (.seq kQ
 (.cond (.qq 29)
 (.seq kw
 kx)
 .skip))))
 xN))
abbrev xM:NC:=.reg
 (.Q 2 (.slc 1 true false) [.qq 0,.qq 5]
 (.x 3 (.clr [.pointer none]) [.qz 2] none []
 (.out (qx [0,5] []))))
 [0,5]
abbrev xL:NC:=.reg
 (.Q 2 (.slc 1 false true) [.qq 0,.qq 5]
 (.out [(4,.qz 2)]))
 [0,5]
abbrev zS:NC :=
 (.seq kY
 (.seq kW
 (.seq (.seq kV
 (.cond (.qq 12)
 (.seq kK
 .ret)
 .skip))
 (.seq (.seq kX
 (.block 0 (.loop [0,1,5,6] ka)))
 (.seq xM
 (.seq xL
 .ret))))))
abbrev zT:FN:=⟨zS,[.qq 4]⟩
theorem zI:GoT 64 Tryz.f64 zS zT:=goT (F:=zT) Tryz.func64 (by kernel_rfl)
abbrev Ff:NC:=.reg
 (.x 0 (.box 25) [.qq 0] none []
 (.x 1 (.box 41) [.qq 1] none []
 (.out [(2,.qz 0),(3,.qz 1)])))
 [0,1]
abbrev Fe:NC:=.reg
 (.Q 0 (.fld 0) [.qq 2]
 (.Q 1 .ld [.qz 0]
 (.Q 3 (.fld 1) [.qq 2]
 (.Q 4 .ld [.qz 3]
 (.Q 6 (.lda 21) [.qq 3]
 (.x 2 (.call 97) [.const (.slice none 0 0),.qz 1] none [(4,.ld,[.qz 3],none),(6,.lda 21,[.qq 3],none)]
 (.x 5 (.call 97) [.qz 2,.qz 4] none [(6,.lda 21,[.qq 3],none)]
 (.x 7 (.call 96) [.qz 5,.qz 6] none []
 (.out [(4,.qz 7)])))))))))
 [2,3]
abbrev oZ:NC :=
 (.seq Ff
 (.seq Fe
 .ret))
abbrev oJ:FN:=⟨oZ,[.qq 4]⟩
theorem Fg:GoT 67 Tryz.f67 oZ oJ:=goT (F:=oJ) Tryz.func67 (by kernel_rfl)
abbrev uI:NC:=.reg
 (.x 0 (.box 37) [.qq 1] none []
 (.out [(0,.qq 0),(3,.qz 0)]))
 [0,1]
abbrev uH:NC:=.reg
 (.Q 0 (.lda 7) [.qq 3]
 (.out [(0,.qq 0),(7,.qz 0),(8,.qj 0)]))
 [0,3]
abbrev uG:NC:=.reg
 (.Q 0 (.icm .lss) [.qq 8,.qj 7]
 (.out (qx [0,7,8] [(9,.qz 0)])))
 [0,7,8]
abbrev uF:NC:=.reg
 (.Q 1 (.idx 7 1) [.qq 7,.qq 8]
 (.out [(0,.qq 0),(4,.qq 8),(5,.qz 1),(7,.qq 7),(8,.qq 8)]))
 [0,7,8]
abbrev uE:NC:=.reg
 (.Q 4 .nilck [.qq 0]
 (.Q 5 (.fld 1) [.qz 4]
 (.Q 6 (.ixa 7 1) [.qz 5,.qq 4]
 (.Q 7 .ld [.qz 6]
 (.Q 9 .mx [.qq 5,.qj 0]
 (.Q 10 .mn [.qz 9,.qj 1073741824]
 (.Q 11 .mx [.qz 7,.qz 10]
 (.Q 12 .nilck [.qq 0]
 (.Q 13 (.fld 1) [.qz 12]
 (.Q 14 (.ixa 7 1) [.qz 13,.qq 4]
 (.x 15 (.st 1) [.qz 14,.qz 11] none []
 (.out (qx [0,7,8] [])))))))))))))
 [0,4,5,7,8]
abbrev uD:NC:=.reg
 (.Q 0 (.iar .add) [.qq 8,.qj 1]
 (.out (qx [0,7] [(8,.qz 0)])))
 [0,7,8]
abbrev uM:NC :=
 (.seq uG
 (.seq (.cond (.qq 9)
 .skip
 (.exit 0))
 (.seq (.block 1 (.seq uF
 uE))
 uD)))
abbrev uC:NC:=.reg
 (.Q 1 .nilck [.qq 0]
 (.Q 2 (.fld 0) [.qz 1]
 (.Q 3 .ld [.qz 2]
 (.x 4 .rng [.qz 3] none []
 (.out [(0,.qq 0),(32,.qz 4)])))))
 [0]
abbrev uB:NC:=.reg
 (.x 0 .nxt [.qq 32] none []
 (.Q 1 (.ext 0) [.qz 0]
 (.out (qx [0,32] [(34,.qz 1)]))))
 [0,32]
abbrev uA:NC:=.reg
 (.Q 0 .ent [.qq 32]
 (.Q 1 (.ext 0) [.qz 0]
 (.x 2 (.alc [.int .i64 0,.int .i64 0] 25) [] none []
 (.x 3 (.st 2) [.qz 2,.qz 1] none []
 (.out [(0,.qq 0),(6,.qz 2),(32,.qq 32)])))))
 [0,32]
abbrev uu:NC:=.reg
 (.Q 1 (.lda 2) [.qq 6]
 (.x 2 (.call 44) [.qq 0,.qz 1] none []
 (.out (qx [0,6,32] [(39,.qz 2)]))))
 [0,6,32]
abbrev sx:NC:=.reg
 (.Q 1 .nilck [.qq 0]
 (.Q 2 (.fld 0) [.qz 1]
 (.Q 3 .ld [.qz 2]
 (.Q 4 (.lda 2) [.qq 6]
 (.x 5 (.dlt true [.i .i64,.i .i64]) [.qz 3,.qz 4] none []
 (.out (qx [0,32] [])))))))
 [0,6,32]
abbrev uL:NC :=
 (.seq uB
 (.seq (.cond (.qq 34)
 .skip
 (.exit 2))
 (.block 3 (.seq uA
 (.seq uu
 (.cond (.qq 39)
 sx
 .skip))))))
abbrev eM:NC :=
 (.seq uI
 (.seq (.seq uH
 (.block 0 (.loop [0,7,8] uM)))
 (.seq uC
 (.block 2 (.loop [0,32] uL)))))
abbrev eO:FN:=⟨eM,[]⟩
theorem uN:GoT 82 Tryz.f82 eM eO:=goT (F:=eO) Tryz.func82 (by kernel_rfl)
abbrev Rm:NC:=.reg
 (.x 0 (.box 41) [.qq 0] none []
 (.x 1 (.box 41) [.qq 1] none []
 (.out [(2,.qz 0),(3,.qz 1)])))
 [0,1]
abbrev Rl:NC:=.reg
 (.Q 0 (.fld 0) [.qq 2]
 (.Q 1 .ld [.qz 0]
 (.Q 2 (.icm .eql) [.qz 1,.qj 3]
 (.q 4 (.fld 0) [.qq 3] (some (.qz 2,true))
 (.q 5 .ld [.qz 4] (some (.qz 2,true))
 (.q 6 (.icm .neq) [.qz 5,.qj 3] (some (.qz 2,true))
 (.q 7 .mv [.qz 6] (some (.qz 2,true))
 (.q 8 (.fld 5) [.qq 3] (some (.qz 7,false))
 (.q 9 (.lda 7) [.qz 8] (some (.qz 7,false))
 (.q 10 (.fld 5) [.qq 2] (some (.qz 7,false))
 (.q 11 (.lda 7) [.qz 10] (some (.qz 7,false))
 (.q 12 (.eqc true [.i .i64,.i .i64,.i .i64,.s,.s,.s,.s]) [.qz 9,.qz 11] (some (.qz 7,false))
 (.q 13 .pick [.qz 7,.const (.bool true),.qz 12] (some (.qz 2,true))
 (.q 14 .mv [.qz 13] (some (.qz 2,true))
 (.q 15 (.fld 12) [.qq 3] (some (.qz 14,false))
 (.q 16 (.lda 8) [.qz 15] (some (.qz 14,false))
 (.q 17 (.fld 12) [.qq 2] (some (.qz 14,false))
 (.q 18 (.lda 8) [.qz 17] (some (.qz 14,false))
 (.q 19 (.eqc true [.i .i64,.i .i64,.i .i64,.i .i64,.i .i64,.i .i64,.i .i64,.i .i64]) [.qz 16,.qz 18] (some (.qz 14,false))
 (.q 20 .pick [.qz 14,.const (.bool true),.qz 19] (some (.qz 2,true))
 (.Q 21 .pick [.qz 2,.qz 20,.const (.bool false)]
 (.out (qx [2,3] [(26,.qz 21)])))))))))))))))))))))))
 [2,3]
abbrev Ri:NC:=.reg
 (.out [(4,.const (.bool false))])
 []
abbrev Rh:NC:=.reg
 (.Q 0 (.fld 1) [.qq 3]
 (.Q 1 (.lda 2) [.qz 0]
 (.Q 2 (.fld 1) [.qq 2]
 (.Q 3 (.lda 2) [.qz 2]
 (.x 4 (.call 37) [.qz 1,.qz 3] none []
 (.q 6 (.fld 3) [.qq 3] (some (.qz 4,false))
 (.q 7 (.lda 2) [.qz 6] (some (.qz 4,false))
 (.q 8 (.fld 3) [.qq 2] (some (.qz 4,false))
 (.q 9 (.lda 2) [.qz 8] (some (.qz 4,false))
 (.x 10 (.call 37) [.qz 7,.qz 9] (some (.qz 4,false)) []
 (.Q 11 .pick [.qz 4,.const (.bool true),.qz 10]
 (.out (qx [2,3] [(38,.qz 11)])))))))))))))
 [2,3]
abbrev Rg:NC:=.reg
 (.out [(4,.const (.bool false))])
 []
abbrev Rf:NC:=.reg
 (.Q 0 (.fld 0) [.qq 3]
 (.Q 1 .ld [.qz 0]
 (.Q 2 (.fld 0) [.qq 2]
 (.Q 3 .ld [.qz 2]
 (.Q 4 (.icm .geq) [.qz 1,.qz 3]
 (.q 6 (.fld 3) [.qq 3] (some (.qz 4,false))
 (.q 7 (.lda 2) [.qz 6] (some (.qz 4,false))
 (.q 8 (.fld 3) [.qq 2] (some (.qz 4,false))
 (.q 9 (.lda 2) [.qz 8] (some (.qz 4,false))
 (.q 10 (.eqc true [.i .i64,.i .i64]) [.qz 7,.qz 9] (some (.qz 4,false))
 (.Q 11 .pick [.qz 4,.const (.bool true),.qz 10]
 (.out [(4,.qz 11)]))))))))))))
 [2,3]
abbrev GN:NC :=
 (.seq Rm
 (.seq (.seq Rl
 (.cond (.qq 26)
 (.seq Ri
 .ret)
 .skip))
 (.seq (.seq Rh
 (.cond (.qq 38)
 (.seq Rg
 .ret)
 .skip))
 (.seq Rf
 .ret))))
abbrev GO:FN:=⟨GN,[.qq 4]⟩
theorem Rn:GoT 87 Tryz.f87 GN GO:=goT (F:=GO) Tryz.func87 (by kernel_rfl)
abbrev yZ:NC:=.reg
 (.Q 1 .len [.qq 0]
 (.out (qx [0,1] [(4,.qz 1)])))
 [0,1]
abbrev yQ:NC:=.reg
 (.Q 3 (.conv .u64) [.qq 4]
 (.x 4 (.call 119) [.qz 3] none []
 (.x 6 (.call 118) [.qq 0,.qj 0,.qq 4,.qz 4,.qq 1] none []
 (.out []))))
 [0,1,4]
abbrev jh:NC :=
 (.seq yZ
 yQ)
abbrev ji:FN:=⟨jh,[]⟩
theorem yJ:GoT 91 Tryz.f91 jh ji:=goT (F:=ji) Tryz.func91 (by kernel_rfl)
abbrev mA:NC:=.reg
 (.x 0 (.box 25) [.qq 0] none []
 (.x 1 (.box 25) [.qq 1] none []
 (.out [(2,.qz 0),(3,.qz 1)])))
 [0,1]
abbrev mu:NC:=.reg
 (.Q 0 (.lda 2) [.qq 2]
 (.Q 1 (.lda 2) [.qq 3]
 (.x 2 (.call 93) [.qz 0,.qz 1] none []
 (.out [(7,.qz 2)]))))
 [2,3]
abbrev ms:NC:=.reg
 (.out [(4,(.const (.int .i64 (-1))))])
 []
abbrev mr:NC:=.reg
 (.out [(4,.qj 1)])
 []
abbrev Yl:NC :=
 (.seq mA
 (.seq (.seq mu
 (.cond (.qq 7)
 (.seq ms
 .ret)
 .skip))
 (.seq mr
 .ret)))
abbrev Ym:FN:=⟨Yl,[.qq 4]⟩
theorem mB:GoT 92 Tryz.f92 Yl Ym:=goT (F:=Ym) Tryz.func92 (by kernel_rfl)
abbrev ye:NC:=.reg
 (.out (qx [0,1,2] []))
 [0,1,2]
abbrev yd:NC:=.reg
 (.Q 2 (.slc 1 true false) [.qq 0,.qq 1]
 (.out (qx [0,1,2] [])))
 [0,1,2]
abbrev yc:NC:=.reg
 (.Q 1 .len [.qq 2]
 (.out (qx [0,1,2] [(7,.qz 1)])))
 [0,1,2]
abbrev yb:NC:=.reg
 (.Q 1 (.icm .eql) [.qq 7,.qj 0]
 (.out (qx [0,1,2,7] [(16,.qz 1)])))
 [0,1,2,7]
abbrev ya:NC:=.reg
 (.out [(6,.qq 0)])
 [0]
abbrev yY:NC:=.reg
 (.Q 1 .len [.qq 0]
 (.out (qx [0,1,2,7] [(8,.qz 1)])))
 [0,1,2,7]
abbrev yW:NC:=.reg
 (.Q 2 (.icm .eql) [.qq 1,.qq 8]
 (.out (qx [0,1,2,7,8] [(22,.qz 2)])))
 [0,1,2,7,8]
abbrev yV:NC:=.reg
 (.x 2 (.app 94 1 8 [.pointer none]) [.qq 0,.qq 2] none []
 (.out [(6,.qz 2)]))
 [0,2]
abbrev yK:NC:=.reg
 (.Q 2 (.iar .add) [.qq 8,.qq 7]
 (.Q 4 .cap [.qq 0]
 (.Q 5 (.icm .gtr) [.qz 2,.qz 4]
 (.out (qx [0,1,2,7,8] [(31,.qz 5)])))))
 [0,1,2,7,8]
abbrev yX:NC:=.reg
 (.Q 2 (.slc 1 false true) [.qq 0,.qq 1]
 (.Q 5 (.iar .add) [.qq 8,.qq 7]
 (.Q 7 (.iar .sub) [.qz 5,.qq 1]
 (.x 8 (.appn 94 1 8 [.pointer none]) [.qz 2,.qz 7] none []
 (.out (qx [0,1,2,7] [(9,.qz 8)]))))))
 [0,1,2,7,8]
abbrev wF:NC:=.reg
 (.Q 2 (.slc 1 true false) [.qq 9,.qq 1]
 (.x 4 (.cpy 1) [.qz 2,.qq 2] none []
 (.out (qx [0,1,7,9] []))))
 [0,1,2,7,9]
abbrev wE:NC:=.reg
 (.Q 3 (.iar .add) [.qq 1,.qq 7]
 (.Q 4 (.slc 1 true false) [.qq 9,.qz 3]
 (.Q 7 (.slc 1 true false) [.qq 0,.qq 1]
 (.x 8 (.cpy 1) [.qz 4,.qz 7] none []
 (.out [(9,.qq 9)])))))
 [0,1,7,9]
abbrev wD:NC:=.reg
 (.out [(6,.qq 9)])
 [9]
abbrev wC:NC:=.reg
 (.Q 3 (.iar .add) [.qq 8,.qq 7]
 (.Q 4 (.slc 1 false true) [.qq 0,.qz 3]
 (.out [(0,.qz 4),(1,.qq 1),(2,.qq 2),(7,.qq 7),(8,.qq 8)])))
 [0,1,2,7,8]
abbrev wB:NC:=.reg
 (.Q 4 (.iar .add) [.qq 1,.qq 7]
 (.Q 5 (.slc 1 true false) [.qq 0,.qz 4]
 (.Q 6 (.ovl 1) [.qq 2,.qz 5]
 (.Q 7 .not [.qz 6]
 (.out (qx [0,1,2,7,8] [(68,.qz 7)]))))))
 [0,1,2,7,8]
abbrev wA:NC:=.reg
 (.Q 3 (.iar .add) [.qq 1,.qq 7]
 (.Q 4 (.slc 1 true false) [.qq 0,.qz 3]
 (.Q 7 (.slc 1 true false) [.qq 0,.qq 1]
 (.x 8 (.cpy 1) [.qz 4,.qz 7] none []
 (.out (qx [0,1,2] []))))))
 [0,1,2,7]
abbrev wu:NC:=.reg
 (.Q 2 (.slc 1 true false) [.qq 0,.qq 1]
 (.x 4 (.cpy 1) [.qz 2,.qq 2] none []
 (.out [(0,.qq 0)])))
 [0,1,2]
abbrev wo:NC:=.reg
 (.out [(6,.qq 0)])
 [0]
abbrev wm:NC:=.reg
 (.Q 2 (.slc 1 true false) [.qq 0,.qq 8]
 (.x 4 (.cpy 1) [.qz 2,.qq 2] none []
 (.out (qx [0,1,7] []))))
 [0,1,2,7,8]
abbrev wi:NC:=.reg
 (.Q 2 (.slc 1 true false) [.qq 0,.qq 1]
 (.x 4 (.call 121) [.qz 2,.qq 7] none []
 (.out [(0,.qq 0)])))
 [0,1,7]
abbrev wg:NC:=.reg
 (.out [(6,.qq 0)])
 [0]
abbrev zd:NC :=
 (.seq ye
 (.seq yd
 (.seq yc
 (.seq (.seq yb
 (.cond (.qq 16)
 (.seq ya
 .ret)
 .skip))
 (.seq yY
 (.seq (.seq yW
 (.cond (.qq 22)
 (.seq yV
 .ret)
 .skip))
 (.seq (.seq yK
 (.cond (.qq 31)
 (.seq yX
 (.seq wF
 (.seq wE
 (.seq wD
 .ret))))
 .skip))
 (.seq wC
 (.seq (.seq wB
 (.cond (.qq 68)
 (.seq wA
 (.seq wu
 (.seq wo
 .ret)))
 .skip))
 (.seq wm
 (.seq wi
 (.seq wg
 .ret))))))))))))
abbrev ze:FN:=⟨zd,[.qq 6]⟩
theorem yf:GoT 94 Tryz.f94 zd ze:=goT (F:=ze) Tryz.func94 (by kernel_rfl)
abbrev vd:NC:=.reg
 (.out (qx [0,1] []))
 [0,1]
abbrev vc:NC:=.reg
 (.Q 1 .len [.qq 0]
 (.out (qx [0,1] [(7,.qz 1),(8,.qj 0)])))
 [0,1]
abbrev vb:NC:=.reg
 (.Q 0 (.icm .lss) [.qq 8,.qq 7]
 (.out (qx [0,1,7,8] [(9,.qz 0)])))
 [0,1,7,8]
abbrev va:NC:=.reg
 (.out (qx [0,1] [(5,.qq 8),(7,.qq 7),(8,.qq 8)]))
 [0,1,7,8]
abbrev vY:NC:=.reg
 (.Q 3 (.ixs 1) [.qq 0,.qq 5]
 (.Q 4 .ld [.qz 3]
 (.x 5 .callv [.qq 1,.qz 4] none []
 (.out (qx [0,1,5,7,8] [(16,.qz 5)])))))
 [0,1,5,7,8]
abbrev vW:NC:=.reg
 (.out [(4,.qq 5)])
 [5]
abbrev vV:NC:=.reg
 (.Q 0 (.iar .add) [.qq 8,.qj 1]
 (.out (qx [0,1,7] [(8,.qz 0)])))
 [0,1,7,8]
abbrev ve:NC :=
 (.seq vb
 (.seq (.cond (.qq 9)
 .skip
 (.exit 0))
 (.seq (.block 1 (.seq va
 (.seq vY
 (.cond (.qq 16)
 (.seq vW
 .ret)
 .skip))))
 vV)))
abbrev vK:NC:=.reg
 (.out [(4,(.const (.int .i64 (-1))))])
 []
abbrev jy:NC :=
 (.seq vd
 (.seq (.seq vc
 (.block 0 (.loop [0,1,7,8] ve)))
 (.seq vK
 .ret)))
abbrev jQ:FN:=⟨jy,[.qq 4]⟩
theorem vf:GoT 95 Tryz.f95 jy jQ:=goT (F:=jQ) Tryz.func95 (by kernel_rfl)
abbrev yt:NC:=.reg
 (.out (qx [0,1,2] []))
 [0,1,2]
abbrev yr:NC:=.reg
 (.Q 2 (.slc 1 true false) [.qq 0,.qq 1]
 (.out (qx [0,1,2] [])))
 [0,1,2]
abbrev yp:NC:=.reg
 (.Q 1 .len [.qq 2]
 (.out (qx [0,1,2] [(7,.qz 1)])))
 [0,1,2]
abbrev yo:NC:=.reg
 (.Q 1 (.icm .eql) [.qq 7,.qj 0]
 (.out (qx [0,1,2,7] [(16,.qz 1)])))
 [0,1,2,7]
abbrev yn:NC:=.reg
 (.out [(6,.qq 0)])
 [0]
abbrev ym:NC:=.reg
 (.Q 1 .len [.qq 0]
 (.out (qx [0,1,2,7] [(8,.qz 1)])))
 [0,1,2,7]
abbrev yl:NC:=.reg
 (.Q 2 (.icm .eql) [.qq 1,.qq 8]
 (.out (qx [0,1,2,7,8] [(22,.qz 2)])))
 [0,1,2,7,8]
abbrev yi:NC:=.reg
 (.x 2 (.app 88 1 8 [.pointer none]) [.qq 0,.qq 2] none []
 (.out [(6,.qz 2)]))
 [0,2]
abbrev yh:NC:=.reg
 (.Q 2 (.iar .add) [.qq 8,.qq 7]
 (.Q 4 .cap [.qq 0]
 (.Q 5 (.icm .gtr) [.qz 2,.qz 4]
 (.out (qx [0,1,2,7,8] [(31,.qz 5)])))))
 [0,1,2,7,8]
abbrev yg:NC:=.reg
 (.Q 2 (.slc 1 false true) [.qq 0,.qq 1]
 (.Q 5 (.iar .add) [.qq 8,.qq 7]
 (.Q 7 (.iar .sub) [.qz 5,.qq 1]
 (.x 8 (.appn 88 1 8 [.pointer none]) [.qz 2,.qz 7] none []
 (.out (qx [0,1,2,7] [(9,.qz 8)]))))))
 [0,1,2,7,8]
abbrev wT:NC:=.reg
 (.Q 2 (.slc 1 true false) [.qq 9,.qq 1]
 (.x 4 (.cpy 1) [.qz 2,.qq 2] none []
 (.out (qx [0,1,7,9] []))))
 [0,1,2,7,9]
abbrev wS:NC:=.reg
 (.Q 3 (.iar .add) [.qq 1,.qq 7]
 (.Q 4 (.slc 1 true false) [.qq 9,.qz 3]
 (.Q 7 (.slc 1 true false) [.qq 0,.qq 1]
 (.x 8 (.cpy 1) [.qz 4,.qz 7] none []
 (.out [(9,.qq 9)])))))
 [0,1,7,9]
abbrev wR:NC:=.reg
 (.out [(6,.qq 9)])
 [9]
abbrev wP:NC:=.reg
 (.Q 3 (.iar .add) [.qq 8,.qq 7]
 (.Q 4 (.slc 1 false true) [.qq 0,.qz 3]
 (.out [(0,.qz 4),(1,.qq 1),(2,.qq 2),(7,.qq 7),(8,.qq 8)])))
 [0,1,2,7,8]
abbrev wO:NC:=.reg
 (.Q 4 (.iar .add) [.qq 1,.qq 7]
 (.Q 5 (.slc 1 true false) [.qq 0,.qz 4]
 (.Q 6 (.ovl 1) [.qq 2,.qz 5]
 (.Q 7 .not [.qz 6]
 (.out (qx [0,1,2,7,8] [(68,.qz 7)]))))))
 [0,1,2,7,8]
abbrev wN:NC:=.reg
 (.Q 3 (.iar .add) [.qq 1,.qq 7]
 (.Q 4 (.slc 1 true false) [.qq 0,.qz 3]
 (.Q 7 (.slc 1 true false) [.qq 0,.qq 1]
 (.x 8 (.cpy 1) [.qz 4,.qz 7] none []
 (.out (qx [0,1,2] []))))))
 [0,1,2,7]
abbrev wM:NC:=.reg
 (.Q 2 (.slc 1 true false) [.qq 0,.qq 1]
 (.x 4 (.cpy 1) [.qz 2,.qq 2] none []
 (.out [(0,.qq 0)])))
 [0,1,2]
abbrev wL:NC:=.reg
 (.out [(6,.qq 0)])
 [0]
abbrev wI:NC:=.reg
 (.Q 2 (.slc 1 true false) [.qq 0,.qq 8]
 (.x 4 (.cpy 1) [.qz 2,.qq 2] none []
 (.out (qx [0,1,7] []))))
 [0,1,2,7,8]
abbrev wH:NC:=.reg
 (.Q 2 (.slc 1 true false) [.qq 0,.qq 1]
 (.x 4 (.call 128) [.qz 2,.qq 7] none []
 (.out [(0,.qq 0)])))
 [0,1,7]
abbrev wG:NC:=.reg
 (.out [(6,.qq 0)])
 [0]
abbrev zf:NC :=
 (.seq yt
 (.seq yr
 (.seq yp
 (.seq (.seq yo
 (.cond (.qq 16)
 (.seq yn
 .ret)
 .skip))
 (.seq ym
 (.seq (.seq yl
 (.cond (.qq 22)
 (.seq yi
 .ret)
 .skip))
 (.seq (.seq yh
 (.cond (.qq 31)
 (.seq yg
 (.seq wT
 (.seq wS
 (.seq wR
 .ret))))
 .skip))
 (.seq wP
 (.seq (.seq wO
 (.cond (.qq 68)
 (.seq wN
 (.seq wM
 (.seq wL
 .ret)))
 .skip))
 (.seq wI
 (.seq wH
 (.seq wG
 .ret))))))))))))
abbrev zg:FN:=⟨zf,[.qq 6]⟩
theorem yu:GoT 98 Tryz.f98 zf zg:=goT (F:=zg) Tryz.func98 (by kernel_rfl)
abbrev kA:NC:=.reg
 (.out (qx [0,1] []))
 [0,1]
abbrev ku:NC:=.reg
 (.x 2 (.call 129) [.qq 0,.qq 1] none []
 (.out (qx [0,1] [(5,.qz 2)])))
 [0,1]
abbrev kr:NC:=.reg
 (.Q 1 (.icm .eql) [.qq 5,(.const (.int .i64 (-1)))]
 (.out (qx [0,1,5] [(12,.qz 1)])))
 [0,1,5]
abbrev kp:NC:=.reg
 (.out [(4,.qq 0)])
 [0]
abbrev ko:NC:=.reg
 (.Q 1 (.iar .add) [.qq 5,.qj 1]
 (.out (qx [0,1,5] [(6,.qz 1)])))
 [0,1,5]
abbrev km:NC:=.reg
 (.Q 2 .len [.qq 0]
 (.Q 3 (.icm .lss) [.qq 6,.qz 2]
 (.out (qx [0,1,5,6] [(19,.qz 3)]))))
 [0,1,5,6]
abbrev ki:NC:=.reg
 (.Q 2 (.ixs 1) [.qq 0,.qq 6]
 (.Q 3 .ld [.qz 2]
 (.out (qx [0,1,5,6] [(7,.qz 3)]))))
 [0,1,5,6]
abbrev kh:NC:=.reg
 (.x 2 .callv [.qq 1,.qq 7] none []
 (.Q 3 .not [.qz 2]
 (.out (qx [0,1,5,6,7] [(29,.qz 3)]))))
 [0,1,5,6,7]
abbrev kg:NC:=.reg
 (.Q 3 (.ixs 1) [.qq 0,.qq 5]
 (.x 4 (.st 1) [.qz 3,.qq 7] none []
 (.out (qx [0,1,5,6] []))))
 [0,1,5,6,7]
abbrev kf:NC:=.reg
 (.Q 1 (.iar .add) [.qq 5,.qj 1]
 (.out (qx [0,1] [(5,.qz 1),(6,.qq 6)])))
 [0,1,5,6]
abbrev xR:NC:=.reg
 (.Q 1 (.iar .add) [.qq 6,.qj 1]
 (.out (qx [0,1,5] [(6,.qz 1)])))
 [0,1,5,6]
abbrev kB:NC :=
 (.seq (.seq km
 (.cond (.qq 19)
 .skip
 (.exit 0)))
 (.seq (.block 1 (.seq ki
 (.seq kh
 (.cond (.qq 29)
 (.seq kg
 kf)
 .skip))))
 xR))
abbrev xP:NC:=.reg
 (.Q 2 (.slc 1 true false) [.qq 0,.qq 5]
 (.x 3 (.clr [.pointer none]) [.qz 2] none []
 (.out (qx [0,5] []))))
 [0,5]
abbrev xO:NC:=.reg
 (.Q 2 (.slc 1 false true) [.qq 0,.qq 5]
 (.out [(4,.qz 2)]))
 [0,5]
abbrev zU:NC :=
 (.seq kA
 (.seq ku
 (.seq (.seq kr
 (.cond (.qq 12)
 (.seq kp
 .ret)
 .skip))
 (.seq (.seq ko
 (.block 0 (.loop [0,1,5,6] kB)))
 (.seq xP
 (.seq xO
 .ret))))))
abbrev jq:FN:=⟨zU,[.qq 4]⟩
theorem zL:GoT 99 Tryz.f99 zU jq:=goT (F:=jq) Tryz.func99 (by kernel_rfl)
abbrev ZO:NC:=.reg
 (.out (qx [0,1,2,3,4] [(10,.const (.bool true))]))
 [0,1,2,3,4]
abbrev ZN:NC:=.reg
 (.out (qx [0,1,2,3,4,10] [(11,.const (.bool true))]))
 [0,1,2,3,4,10]
abbrev ZM:NC:=.reg
 (.Q 2 (.iar .sub) [.qq 2,.qq 1]
 (.out (qx [0,1,2,3,4,10,11] [(12,.qz 2)])))
 [0,1,2,3,4,10,11]
abbrev ZL:NC:=.reg
 (.Q 1 (.icm .leq) [.qq 12,.qj 12]
 (.out (qx [0,1,2,3,4,10,11,12] [(25,.qz 1)])))
 [0,1,2,3,4,10,11,12]
abbrev ZI:NC:=.reg
 (.x 4 (.call 132) [.qq 0,.qq 1,.qq 2,.qq 4] none []
 (.out []))
 [0,1,2,4]
abbrev ZH:NC:=.reg
 (.Q 1 (.icm .eql) [.qq 3,.qj 0]
 (.out (qx [0,1,2,3,4,10,11,12] [(32,.qz 1)])))
 [0,1,2,3,4,10,11,12]
abbrev ZG:NC:=.reg
 (.x 4 (.call 133) [.qq 0,.qq 1,.qq 2,.qq 4] none []
 (.out []))
 [0,1,2,4]
abbrev ZF:NC:=.reg
 (.Q 1 .not [.qq 10]
 (.out (qx [0,1,2,3,4,10,11,12] [(39,.qz 1)])))
 [0,1,2,3,4,10,11,12]
abbrev ZE:NC:=.reg
 (.x 4 (.call 134) [.qq 0,.qq 1,.qq 2,.qq 4] none []
 (.out (qx [0,1,2,3,4,10,11,12] [])))
 [0,1,2,3,4,10,11,12]
abbrev ZD:NC:=.reg
 (.Q 1 (.iar .sub) [.qq 3,.qj 1]
 (.out (qx [0,1,2] [(3,.qz 1),(4,.qq 4),(10,.qq 10),(11,.qq 11),(12,.qq 12)])))
 [0,1,2,3,4,10,11,12]
abbrev QN:NC:=.reg
 (.x 4 (.call 135) [.qq 0,.qq 1,.qq 2,.qq 4] none []
 (.Q 6 (.ext 0) [.qz 4]
 (.Q 7 (.ext 1) [.qz 4]
 (.out (qx [0,1,2,3,4,10,11,12] [(13,.qz 6),(14,.qz 7)])))))
 [0,1,2,3,4,10,11,12]
abbrev QM:NC:=.reg
 (.Q 1 (.icm .eql) [.qq 14,.qj 2]
 (.out (qx [0,1,2,3,4,10,11,12,13,14] [(56,.qz 1)])))
 [0,1,2,3,4,10,11,12,13,14]
abbrev QL:NC:=.reg
 (.x 4 (.call 136) [.qq 0,.qq 1,.qq 2,.qq 4] none []
 (.out (qx [0,1,2,3,4,10,11,12,13] [])))
 [0,1,2,3,4,10,11,12,13]
abbrev QI:NC:=.reg
 (.Q 1 (.iar .sub) [.qq 2,.qj 1]
 (.Q 4 (.iar .sub) [.qq 13,.qq 1]
 (.Q 5 (.iar .sub) [.qz 1,.qz 4]
 (.out (qx [0,1,2,3,4,10,11,12] [(13,.qz 5)])))))
 [0,1,2,3,4,10,11,12,13]
abbrev QH:NC:=.reg
 (.out (qx [0,1,2,3,4,10,11,12,13] [(14,.qj 1)]))
 [0,1,2,3,4,10,11,12,13]
abbrev QG:NC:=.reg
 (.q 2 .mv [.qq 11] (some (.qq 10,true))
 (.Q 3 .pick [.qq 10,.qz 2,.const (.bool false)]
 (.q 5 .mv [.qq 14] (some (.qz 3,true))
 (.q 6 (.icm .eql) [.qz 5,.qj 1] (some (.qz 3,true))
 (.Q 7 .pick [.qz 3,.qz 6,.const (.bool false)]
 (.out (qx [0,1,2,3,4,10,11,12,13] [(75,.qz 7)])))))))
 [0,1,2,3,4,10,11,12,13,14]
abbrev QE:NC:=.reg
 (.x 4 (.call 137) [.qq 0,.qq 1,.qq 2,.qq 4] none []
 (.out (qx [0,1,2,3,4,10,11,12,13] [(80,.qz 4)])))
 [0,1,2,3,4,10,11,12,13]
abbrev QD:NC:=.reg
 (.Q 1 (.icm .gtr) [.qq 1,.qj 0]
 (.q 3 .mv [.qq 4] (some (.qz 1,true))
 (.q 4 .mv [.qq 0] (some (.qz 1,true))
 (.q 5 .mv [.qq 1] (some (.qz 1,true))
 (.q 6 (.iar .sub) [.qz 5,.qj 1] (some (.qz 1,true))
 (.q 7 (.ixs 2) [.qz 4,.qz 6] (some (.qz 1,true))
 (.q 8 (.lda 2) [.qz 7] (some (.qz 1,true))
 (.q 9 .mv [.qq 0] (some (.qz 1,true))
 (.q 10 .mv [.qq 13] (some (.qz 1,true))
 (.q 11 (.ixs 2) [.qz 9,.qz 10] (some (.qz 1,true))
 (.q 12 (.lda 2) [.qz 11] (some (.qz 1,true))
 (.x 13 .callv [.qz 3,.qz 8,.qz 12] (some (.qz 1,true)) []
 (.q 14 (.icm .lss) [.qz 13,.qj 0] (some (.qz 1,true))
 (.q 15 .not [.qz 14] (some (.qz 1,true))
 (.Q 16 .pick [.qz 1,.qz 15,.const (.bool false)]
 (.out (qx [0,1,2,3,4,10,11,12,13] [(97,.qz 16)])))))))))))))))))
 [0,1,2,3,4,10,11,12,13]
abbrev QC:NC:=.reg
 (.x 5 (.call 138) [.qq 0,.qq 1,.qq 2,.qq 13,.qq 4] none []
 (.out (qx [0,2,3,4,10,11] [(15,.qz 5)])))
 [0,1,2,3,4,10,11,13]
abbrev QB:NC:=.reg
 (.out [(0,.qq 0),(1,.qq 15),(2,.qq 2),(3,.qq 3),(4,.qq 4),(10,.qq 10),(11,.qq 11)])
 [0,2,3,4,10,11,15]
abbrev QA:NC:=.reg
 (.x 5 (.call 139) [.qq 0,.qq 1,.qq 2,.qq 13,.qq 4] none []
 (.Q 7 (.ext 0) [.qz 5]
 (.Q 8 (.ext 1) [.qz 5]
 (.out (qx [0,1,2,3,4,12] [(16,.qz 7),(17,.qz 8)])))))
 [0,1,2,3,4,12,13]
abbrev Qu:NC:=.reg
 (.out (qx [0,1,2,3,4] [(11,.qq 17),(12,.qq 12),(16,.qq 16)]))
 [0,1,2,3,4,12,16,17]
abbrev Qt:NC:=.reg
 (.Q 2 (.iar .sub) [.qq 16,.qq 1]
 (.Q 5 (.iar .sub) [.qq 2,.qq 16]
 (.out (qx [0,1,2,3,4,11,12,16] [(18,.qz 2),(19,.qz 5)]))))
 [0,1,2,3,4,11,12,16]
abbrev Qs:NC:=.reg
 (.Q 1 (.idv .quo) [.qq 12,.qj 8]
 (.out (qx [0,1,2,3,4,11,16,18,19] [(20,.qz 1)])))
 [0,1,2,3,4,11,12,16,18,19]
abbrev Qr:NC:=.reg
 (.Q 2 (.icm .lss) [.qq 18,.qq 19]
 (.out (qx [0,1,2,3,4,11,16,18,19,20] [(125,.qz 2)])))
 [0,1,2,3,4,11,16,18,19,20]
abbrev Qp:NC:=.reg
 (.Q 2 (.icm .geq) [.qq 18,.qq 20]
 (.out (qx [0,1,2,3,4] [(10,.qz 2),(11,.qq 11),(16,.qq 16)])))
 [0,1,2,3,4,11,16,18,20]
abbrev Qo:NC:=.reg
 (.x 5 (.call 118) [.qq 0,.qq 1,.qq 16,.qq 3,.qq 4] none []
 (.out (qx [0,2,3,4,10,11,16] [])))
 [0,1,2,3,4,10,11,16]
abbrev Qn:NC:=.reg
 (.Q 1 (.iar .add) [.qq 16,.qj 1]
 (.out [(0,.qq 0),(1,.qz 1),(2,.qq 2),(3,.qq 3),(4,.qq 4),(10,.qq 10),(11,.qq 11)]))
 [0,2,3,4,10,11,16]
abbrev Qm:NC:=.reg
 (.Q 2 (.icm .geq) [.qq 19,.qq 20]
 (.out (qx [0,1,2,3,4] [(10,.qz 2),(11,.qq 11),(16,.qq 16)])))
 [0,1,2,3,4,11,16,19,20]
abbrev Ql:NC:=.reg
 (.Q 2 (.iar .add) [.qq 16,.qj 1]
 (.x 6 (.call 118) [.qq 0,.qz 2,.qq 2,.qq 3,.qq 4] none []
 (.out (qx [0,1,3,4,10,11,16] []))))
 [0,1,2,3,4,10,11,16]
abbrev Qi:NC:=.reg
 (.out (qx [0,1] [(2,.qq 16),(3,.qq 3),(4,.qq 4),(10,.qq 10),(11,.qq 11)]))
 [0,1,3,4,10,11,16]
abbrev ZP:NC :=
 (.block 1 (.seq ZM
 (.seq (.seq ZL
 (.cond (.qq 25)
 (.seq ZI
 .ret)
 .skip))
 (.seq (.seq ZH
 (.cond (.qq 32)
 (.seq ZG
 .ret)
 .skip))
 (.seq (.seq ZF
 (.cond (.qq 39)
 (.seq ZE
 ZD)
 .skip))
 (.seq QN
 (.seq (.seq QM
 (.cond (.qq 56)
 (.seq QL
 (.seq QI
 QH))
 .skip))
 (.seq (.seq QG
 (.cond (.qq 75)
 (.seq QE
 (.cond (.qq 80)
 .ret
 .skip))
 .skip))
 (.seq (.seq QD
 (.cond (.qq 97)
 (.seq QC
 (.seq QB
 (.exit 1)))
 .skip))
 (.seq QA
 (.seq Qu
 (.seq Qt
 (.seq Qs
 (.seq Qr
 (.cond (.qq 125)
 (.seq Qp
 (.seq Qo
 Qn))
 (.seq Qm
 (.seq Ql
 Qi)))))))))))))))))
abbrev jM:NC :=
 (.seq ZO
 (.seq ZN
 (.block 0 (.loop [0,1,2,3,4,10,11] ZP))))
abbrev jN:FN:=⟨jM,[]⟩
theorem ZR:GoT 118 Tryz.f118 jM jN:=goT (F:=jN) Tryz.func118 (by kernel_rfl)
abbrev rU:NC:=.reg
 (.out [(0,.qq 0)])
 [0]
abbrev rT:NC:=.reg
 (.Q 1 (.conv .u32) [.qq 0]
 (.x 2 (.call 140) [.qz 1] none []
 (.out [(2,.qz 2)])))
 [0]
abbrev rS:NC:=.reg
 (.x 1 (.call 141) [.qq 0] none []
 (.out [(2,.qz 1)]))
 [0]
abbrev dq:NC :=
 (.seq rU
 (.seq (.cond (.const (.bool false))
 (.seq rT
 .ret)
 .skip)
 (.seq rS
 .ret)))
abbrev dz:FN:=⟨dq,[.qq 2]⟩
theorem sq:GoT 119 Tryz.f119 dq dz:=goT (F:=dz) Tryz.func119 (by kernel_rfl)
abbrev vt:NC:=.reg
 (.out (qx [0,1] []))
 [0,1]
abbrev vr:NC:=.reg
 (.Q 1 .len [.qq 0]
 (.out (qx [0,1] [(7,.qz 1),(8,.qj 0)])))
 [0,1]
abbrev vp:NC:=.reg
 (.Q 0 (.icm .lss) [.qq 8,.qq 7]
 (.out (qx [0,1,7,8] [(9,.qz 0)])))
 [0,1,7,8]
abbrev vn:NC:=.reg
 (.out (qx [0,1] [(5,.qq 8),(7,.qq 7),(8,.qq 8)]))
 [0,1,7,8]
abbrev vm:NC:=.reg
 (.Q 3 (.ixs 1) [.qq 0,.qq 5]
 (.Q 4 .ld [.qz 3]
 (.x 5 .callv [.qq 1,.qz 4] none []
 (.out (qx [0,1,5,7,8] [(16,.qz 5)])))))
 [0,1,5,7,8]
abbrev vi:NC:=.reg
 (.out [(4,.qq 5)])
 [5]
abbrev vh:NC:=.reg
 (.Q 0 (.iar .add) [.qq 8,.qj 1]
 (.out (qx [0,1,7] [(8,.qz 0)])))
 [0,1,7,8]
abbrev vu:NC :=
 (.seq vp
 (.seq (.cond (.qq 9)
 .skip
 (.exit 0))
 (.seq (.block 1 (.seq vn
 (.seq vm
 (.cond (.qq 16)
 (.seq vi
 .ret)
 .skip))))
 vh)))
abbrev vg:NC:=.reg
 (.out [(4,(.const (.int .i64 (-1))))])
 []
abbrev jZ:NC :=
 (.seq vt
 (.seq (.seq vr
 (.block 0 (.loop [0,1,7,8] vu)))
 (.seq vg
 .ret)))
abbrev jJ:FN:=⟨jZ,[.qq 4]⟩
theorem vA:GoT 129 Tryz.f129 jZ jJ:=goT (F:=jJ) Tryz.func129 (by kernel_rfl)
abbrev vQ:NC:=.reg
 (.Q 1 (.iar .add) [.qq 1,.qj 1]
 (.out (qx [0,1,2,3] [(8,.qz 1)])))
 [0,1,2,3]
abbrev vy:NC:=.reg
 (.Q 2 (.icm .lss) [.qq 8,.qq 2]
 (.out (qx [0,1,2,3,8] [(14,.qz 2)])))
 [0,1,2,3,8]
abbrev vw:NC:=.reg
 (.out (qx [0,1,2,3,8] [(9,.qq 8)]))
 [0,1,2,3,8]
abbrev vv:NC:=.reg
 (.Q 2 (.icm .gtr) [.qq 9,.qq 1]
 (.q 4 .mv [.qq 3] (some (.qz 2,true))
 (.q 5 .mv [.qq 0] (some (.qz 2,true))
 (.q 6 .mv [.qq 9] (some (.qz 2,true))
 (.q 7 (.ixs 2) [.qz 5,.qz 6] (some (.qz 2,true))
 (.q 8 (.lda 2) [.qz 7] (some (.qz 2,true))
 (.q 9 .mv [.qq 0] (some (.qz 2,true))
 (.q 10 .mv [.qq 9] (some (.qz 2,true))
 (.q 11 (.iar .sub) [.qz 10,.qj 1] (some (.qz 2,true))
 (.q 12 (.ixs 2) [.qz 9,.qz 11] (some (.qz 2,true))
 (.q 13 (.lda 2) [.qz 12] (some (.qz 2,true))
 (.x 14 .callv [.qz 4,.qz 8,.qz 13] (some (.qz 2,true)) []
 (.q 15 (.icm .lss) [.qz 14,.qj 0] (some (.qz 2,true))
 (.Q 16 .pick [.qz 2,.qz 15,.const (.bool false)]
 (.out (qx [0,1,2,3,8,9] [(34,.qz 16)]))))))))))))))))
 [0,1,2,3,8,9]
abbrev vk:NC:=.reg
 (.Q 4 (.iar .sub) [.qq 9,.qj 1]
 (.Q 7 (.iar .sub) [.qq 9,.qj 1]
 (.Q 8 (.ixs 2) [.qq 0,.qz 7]
 (.Q 9 (.lda 2) [.qz 8]
 (.Q 12 (.ixs 2) [.qq 0,.qq 9]
 (.Q 13 (.lda 2) [.qz 12]
 (.Q 14 (.ixs 2) [.qq 0,.qq 9]
 (.x 15 (.st 2) [.qz 14,.qz 9] none []
 (.Q 16 (.ixs 2) [.qq 0,.qz 4]
 (.x 17 (.st 2) [.qz 16,.qz 13] none []
 (.out (qx [0,1,2,3,8,9] []))))))))))))
 [0,1,2,3,8,9]
abbrev vx:NC:=.reg
 (.Q 1 (.iar .sub) [.qq 9,.qj 1]
 (.out (qx [0,1,2,3,8] [(9,.qz 1)])))
 [0,1,2,3,8,9]
abbrev vJ:NC :=
 (.seq (.seq vv
 (.cond (.qq 34)
 .skip
 (.exit 2)))
 (.seq (.block 3 vk)
 vx))
abbrev vj:NC:=.reg
 (.Q 1 (.iar .add) [.qq 8,.qj 1]
 (.out (qx [0,1,2,3] [(8,.qz 1)])))
 [0,1,2,3,8]
abbrev vZ:NC :=
 (.seq (.seq vy
 (.cond (.qq 14)
 .skip
 (.exit 0)))
 (.seq (.block 1 (.seq vw
 (.block 2 (.loop [0,1,2,3,8,9] vJ))))
 vj))
abbrev jx:NC :=
 (.seq vQ
 (.block 0 (.loop [0,1,2,3,8] vZ)))
abbrev jk:FN:=⟨jx,[]⟩
theorem vX:GoT 132 Tryz.f132 jx jk:=goT (F:=jk) Tryz.func132 (by kernel_rfl)
abbrev mi:NC:=.reg
 (.out [(0,.qq 0),(2,.qj 0)])
 [0]
abbrev mh:NC:=.reg
 (.Q 1 (.icm .geq) [.qq 0,.const (.int .u64 4294967296)]
 (.out (qx [0,2] [(4,.qz 1)])))
 [0,2]
abbrev mg:NC:=.reg
 (.Q 1 (.ish .shr) [.qq 0,.const (.int .u64 32)]
 (.out [(0,.qz 1)]))
 [0]
abbrev mf:NC:=.reg
 (.out [(0,.qq 0),(2,.qj 32)])
 [0]
abbrev mc:NC:=.reg
 (.Q 1 (.icm .geq) [.qq 0,.const (.int .u64 65536)]
 (.out (qx [0,2] [(8,.qz 1)])))
 [0,2]
abbrev ma:NC:=.reg
 (.Q 1 (.ish .shr) [.qq 0,.const (.int .u64 16)]
 (.out [(0,.qz 1),(2,.qq 2)]))
 [0,2]
abbrev mY:NC:=.reg
 (.Q 1 (.iar .add) [.qq 2,.qj 16]
 (.out [(0,.qq 0),(2,.qz 1)]))
 [0,2]
abbrev mW:NC:=.reg
 (.Q 1 (.icm .geq) [.qq 0,.const (.int .u64 256)]
 (.out (qx [0,2] [(14,.qz 1)])))
 [0,2]
abbrev mV:NC:=.reg
 (.Q 1 (.ish .shr) [.qq 0,.const (.int .u64 8)]
 (.out [(0,.qz 1),(2,.qq 2)]))
 [0,2]
abbrev mK:NC:=.reg
 (.Q 1 (.iar .add) [.qq 2,.qj 8]
 (.out [(0,.qq 0),(2,.qz 1)]))
 [0,2]
abbrev hX:NC:=.reg
 (.Q 2 (.conv .u8) [.qq 0]
 (.Q 3 .idxs [.const (.string ⟨#[0,1,2,2,3,3,3,3,4,4,4,4,4,4,4,4,5,5,5,5,5,5,5,5,5,5,5,5,5,5,5,5,6,6,6,6,6,6,6,6,6,6,6,6,6,6,6,6,6,6,6,6,6,6,6,6,6,6,6,6,6,6,6,6,7,7,7,7,7,7,7,7,7,7,7,7,7,7,7,7,7,7,7,7,7,7,7,7,7,7,7,7,7,7,7,7,7,7,7,7,7,7,7,7,7,7,7,7,7,7,7,7,7,7,7,7,7,7,7,7,7,7,7,7,7,7,7,7,8,8,8,8,8,8,8,8,8,8,8,8,8,8,8,8,8,8,8,8,8,8,8,8,8,8,8,8,8,8,8,8,8,8,8,8,8,8,8,8,8,8,8,8,8,8,8,8,8,8,8,8,8,8,8,8,8,8,8,8,8,8,8,8,8,8,8,8,8,8,8,8,8,8,8,8,8,8,8,8,8,8,8,8,8,8,8,8,8,8,8,8,8,8,8,8,8,8,8,8,8,8,8,8,8,8,8,8,8,8,8,8,8,8,8,8,8,8,8,8,8,8,8,8,8,8,8,8]⟩),.qz 2]
 (.Q 4 (.conv .i64) [.qz 3]
 (.Q 5 (.iar .add) [.qq 2,.qz 4]
 (.out [(2,.qz 5)])))))
 [0,2]
abbrev Yh:NC :=
 (.seq mi
 (.seq (.seq mh
 (.cond (.qq 4)
 (.seq mg
 mf)
 .skip))
 (.seq (.seq mc
 (.cond (.qq 8)
 (.seq ma
 mY)
 .skip))
 (.seq (.seq mW
 (.cond (.qq 14)
 (.seq mV
 mK)
 .skip))
 (.seq hX
 .ret)))))
abbrev Yi:FN:=⟨Yh,[.qq 2]⟩
theorem ml:GoT 141 Tryz.f141 Yh Yi:=goT (F:=Yi) Tryz.func141 (by kernel_rfl)
end Go.Fw
