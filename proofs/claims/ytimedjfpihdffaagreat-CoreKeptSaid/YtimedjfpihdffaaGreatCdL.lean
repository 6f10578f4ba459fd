import Derived.Test.YtimedjfpihdffaaGreatCd
set_option linter.unusedVariables false
set_option linter.unusedSimpArgs false
set_option maxHeartbeats 16000000
namespace Go.Fw
open Go.Proofs
abbrev EA:NC:=.reg
 (.x 0 (.alc zL2 37) [] none []
 (.out [(0,.qq 0),(2,.qz 0)]))
 [0]
abbrev Eu:NC:=.reg
 (.Q 1 .nilck [.qq 0]
 (.Q 2 (.fld 1) [.qz 1]
 (.Q 3 (.lda 7) [.qz 2]
 (.x 4 (.alc zL2 37) [] none []
 (.x 5 (.st 7) [.qz 4,.qz 3] none []
 (.out (qx [0,2] [(3,.qz 4)])))))))
 [0,2]
abbrev Et:NC:=.reg
 (.Q 1 .nilck [.qq 0]
 (.Q 2 (.fld 0) [.qz 1]
 (.Q 3 .ld [.qz 2]
 (.x 4 .rng [.qz 3] none []
 (.out (qx [2,3] [(13,.qz 4)]))))))
 [0,2,3]
abbrev Es:NC:=.reg
 (.x 0 .nxt [.qq 13] none []
 (.Q 1 (.ext 0) [.qz 0]
 (.out (qx [2,3,13] [(15,.qz 1)]))))
 [2,3,13]
abbrev Er:NC:=.reg
 (.Q 0 .ent [.qq 13]
 (.Q 1 (.ext 0) [.qz 0]
 (.x 2 (.alc [.int .i64 0,.int .i64 0] 25) [] none []
 (.x 3 (.st 2) [.qz 2,.qz 1] none []
 (.out (qx [2,3] [(4,.qz 2),(13,.qq 13)]))))))
 [2,3,13]
abbrev Ep:NC:=.reg
 (.Q 0 (.fld 0) [.qq 4]
 (.Q 1 .ld [.qz 0]
 (.Q 2 (.fld 0) [.qq 4]
 (.Q 3 .ld [.qz 2]
 (.Q 4 (.ixa 7 1) [.qq 3,.qz 3]
 (.Q 5 .ld [.qz 4]
 (.Q 6 (.fld 1) [.qq 4]
 (.Q 7 .ld [.qz 6]
 (.Q 8 .mx [.qz 5,.qz 7]
 (.Q 9 (.ixa 7 1) [.qq 3,.qz 1]
 (.x 10 (.st 1) [.qz 9,.qz 8] none []
 (.out (qx [2,3,13] [])))))))))))))
 [2,3,4,13]
abbrev EB:NC :=
 (.seq Es
 (.seq (.cond (.qq 15)
 .skip
 (.exit 0))
 (.block 1 (.seq Er
 Ep))))
abbrev Eo:NC:=.reg
 (.Q 0 (.lda 7) [.qq 3]
 (.x 1 (.st 7) [.qq 2,.qz 0] none []
 (.out [(2,.qq 2)])))
 [2,3]
abbrev lI:NC :=
 (.seq EA
 (.seq Eu
 (.seq (.seq Et
 (.block 0 (.loop [2,3,13] EB)))
 (.seq Eo
 .ret))))
abbrev lL:FN:=⟨lI,[.cells 2 7]⟩
theorem EC:GoT 28 Tryz.f28 lI lL:=goT (F:=lL) Tryz.func28 (by kernel_rfl)
abbrev BL:NC:=.reg
 (.x 0 (.box 25) [.qq 1] none []
 (.x 1 (.alc [.int .i64 0,.int .i64 0,.int .i64 0,.int .i64 0,.int .i64 0,.int .i64 0,.int .i64 0,.int .i64 0,(.string ⟨#[]⟩),(.string ⟨#[]⟩),(.string ⟨#[]⟩),(.string ⟨#[]⟩),.int .i64 0,.int .i64 0,.int .i64 0,.int .i64 0,.int .i64 0,.int .i64 0,.int .i64 0,.int .i64 0,.bool false] 41) [] none []
 (.out [(0,.qq 0),(3,.qz 0),(4,.qz 1)])))
 [0,1]
abbrev BI:NC:=.reg
 (.Q 1 .nilck [.qq 0]
 (.Q 2 (.fld 0) [.qz 1]
 (.Q 3 .ld [.qz 2]
 (.Q 4 (.lda 2) [.qq 3]
 (.Q 5 (.lkp true [.i .i64,.i .i64] (.agg #[.int .i64 0,.int .i64 0,.int .i64 0,.int .i64 0,.int .i64 0,.int .i64 0,.int .i64 0,.int .i64 0,(.string ⟨#[]⟩),(.string ⟨#[]⟩),(.string ⟨#[]⟩),(.string ⟨#[]⟩),.int .i64 0,.int .i64 0,.int .i64 0,.int .i64 0,.int .i64 0,.int .i64 0,.int .i64 0,.int .i64 0,.bool false]) true) [.qz 3,.qz 4]
 (.Q 7 (.ext 0) [.qz 5]
 (.Q 8 (.ext 1) [.qz 5]
 (.x 9 (.alc [.int .i64 0,.int .i64 0,.int .i64 0,.int .i64 0,.int .i64 0,.int .i64 0,.int .i64 0,.int .i64 0,(.string ⟨#[]⟩),(.string ⟨#[]⟩),(.string ⟨#[]⟩),(.string ⟨#[]⟩),.int .i64 0,.int .i64 0,.int .i64 0,.int .i64 0,.int .i64 0,.int .i64 0,.int .i64 0,.int .i64 0,.bool false] 41) [] none [(3,.ld,[.qz 2],none),(4,.lda 2,[.qq 3],none),(5,(.lkp true [.i .i64,.i .i64] (.agg #[.int .i64 0,.int .i64 0,.int .i64 0,.int .i64 0,.int .i64 0,.int .i64 0,.int .i64 0,.int .i64 0,(.string ⟨#[]⟩),(.string ⟨#[]⟩),(.string ⟨#[]⟩),(.string ⟨#[]⟩),.int .i64 0,.int .i64 0,.int .i64 0,.int .i64 0,.int .i64 0,.int .i64 0,.int .i64 0,.int .i64 0,.bool false]) true),[.qz 3,.qz 4],none)]
 (.x 10 (.st 21) [.qz 9,.qz 7] none []
 (.out [(4,.qq 4),(6,.qz 9),(7,.qz 8)]))))))))))
 [0,3,4]
abbrev BH:NC:=.reg
 (.Q 1 .not [.qq 7]
 (.out (qx [4,6] [(18,.qz 1)])))
 [4,6,7]
abbrev BG:NC:=.reg
 (.Q 0 (.bld [.int .i64 0,.int .i64 0,.int .i64 0,.int .i64 0,.int .i64 0,.int .i64 0,.int .i64 0,.int .i64 0,(.string ⟨#[]⟩),(.string ⟨#[]⟩),(.string ⟨#[]⟩),(.string ⟨#[]⟩),.int .i64 0,.int .i64 0,.int .i64 0,.int .i64 0,.int .i64 0,.int .i64 0,.int .i64 0,.int .i64 0,.bool false] []) []
 (.x 1 (.st 21) [.qq 4,.qz 0] none []
 (.out [(4,.qq 4),(5,.const (.bool false))])))
 [4]
abbrev BF:NC:=.reg
 (.Q 0 (.lda 21) [.qq 6]
 (.x 1 (.st 21) [.qq 4,.qz 0] none []
 (.out [(4,.qq 4),(5,.const (.bool true))])))
 [4,6]
abbrev eE:NC :=
 (.seq BL
 (.seq BI
 (.seq (.seq BH
 (.cond (.qq 18)
 (.seq BG
 .ret)
 .skip))
 (.seq BF
 .ret))))
abbrev eF:FN:=⟨eE,[.cells 4 21,.qq 5]⟩
theorem BM:GoT 33 Tryz.f33 eE eF:=goT (F:=eF) Tryz.func33 (by kernel_rfl)
abbrev BD:NC:=.reg
 (.x 0 (.box 25) [.qq 1] none []
 (.out [(0,.qq 0),(3,.qz 0)]))
 [0,1]
abbrev BC:NC:=.reg
 (.Q 0 (.lda 2) [.qq 3]
 (.x 1 (.call 66) [.qz 0] none []
 (.q 3 (.fld 1) [.qq 3] (some (.qz 1,true))
 (.q 4 .ld [.qz 3] (some (.qz 1,true))
 (.q 5 .mv [.qq 0] (some (.qz 1,true))
 (.q 6 (.fld 0) [.qq 3] (some (.qz 1,true))
 (.q 7 .ld [.qz 6] (some (.qz 1,true))
 (.q 8 .nilck [.qz 5] (some (.qz 1,true))
 (.q 9 (.fld 1) [.qz 8] (some (.qz 1,true))
 (.q 10 (.ixa 7 1) [.qz 9,.qz 7] (some (.qz 1,true))
 (.q 11 .ld [.qz 10] (some (.qz 1,true))
 (.q 12 (.icm .leq) [.qz 4,.qz 11] (some (.qz 1,true))
 (.Q 13 .pick [.qz 1,.qz 12,.const (.bool false)]
 (.out [(4,.qz 13)]))))))))))))))
 [0,3]
abbrev ep:NC :=
 (.seq BD
 (.seq BC
 .ret))
abbrev eC:FN:=⟨ep,[.qq 4]⟩
theorem BE:GoT 44 Tryz.f44 ep eC:=goT (F:=eC) Tryz.func44 (by kernel_rfl)
abbrev UB:NC:=.reg
 (.x 0 (.box 37) [.qq 0] none []
 (.out [(1,.qz 0)]))
 [0]
abbrev UA:NC:=.reg
 (.x 0 .mkm [] none []
 (.Q 1 (.bld [.map none,.int .i64 0,.int .i64 0,.int .i64 0,.int .i64 0,.int .i64 0,.int .i64 0,.int .i64 0] [(0,1)]) [.qz 0]
 (.x 2 (.box 127) [.qz 1] none []
 (.out [(1,.qq 1),(3,.qz 2)]))))
 [1]
abbrev Uu:NC:=.reg
 (.Q 1 (.lda 7) [.qq 1]
 (.x 2 (.call 82) [.qq 3,.qz 1] none []
 (.out [(3,.qq 3)])))
 [1,3]
abbrev Ut:NC:=.reg
 (.out [(2,.qq 3)])
 [3]
abbrev Lx:NC :=
 (.seq UB
 (.seq UA
 (.seq Uu
 (.seq Ut
 .ret))))
abbrev Lv:FN:=⟨Lx,[.qq 2]⟩
theorem UC:GoT 51 Tryz.f51 Lx Lv:=goT (F:=Lv) Tryz.func51 (by kernel_rfl)
abbrev Ho:NC:=.reg
 (.x 0 (.alc [.int .i64 0,.int .i64 0] 25) [] none []
 (.x 1 (.alc [.int .i64 0,.int .i64 0,.int .i64 0,.int .i64 0,.int .i64 0,.int .i64 0,.int .i64 0,.int .i64 0,(.string ⟨#[]⟩),(.string ⟨#[]⟩),(.string ⟨#[]⟩),(.string ⟨#[]⟩),.int .i64 0,.int .i64 0,.int .i64 0,.int .i64 0,.int .i64 0,.int .i64 0,.int .i64 0,.int .i64 0,.bool false] 41) [] none []
 (.out [(0,.qq 0),(2,.qz 0),(3,.qz 1)])))
 [0]
abbrev Hm:NC:=.reg
 (.x 1 (.call 83) [.qq 0] none []
 (.out (qx [2,3] [(5,.qz 1)])))
 [0,2,3]
abbrev Hl:NC:=.reg
 (.x 0 (.alc [.int .i64 0,.int .i64 0] 25) [] none []
 (.out (qx [2,3,5] [(6,.qz 0)])))
 [2,3,5]
abbrev Hi:NC:=.reg
 (.x 1 (.call 84) [.qq 5] none []
 (.Q 2 (.fld 0) [.qq 6]
 (.x 3 (.st 1) [.qz 2,.qz 1] none []
 (.out (qx [2,3,5,6] [])))))
 [2,3,5,6]
abbrev Hh:NC:=.reg
 (.x 1 (.call 84) [.qq 5] none []
 (.Q 2 (.fld 1) [.qq 6]
 (.x 3 (.st 1) [.qz 2,.qz 1] none []
 (.out (qx [2,3,5,6] [])))))
 [2,3,5,6]
abbrev Hg:NC:=.reg
 (.x 1 (.call 85) [.qq 5] none []
 (.x 2 (.alc [.int .i64 0,.int .i64 0,.int .i64 0,.int .i64 0,.int .i64 0,.int .i64 0,.int .i64 0,.int .i64 0,(.string ⟨#[]⟩),(.string ⟨#[]⟩),(.string ⟨#[]⟩),(.string ⟨#[]⟩),.int .i64 0,.int .i64 0,.int .i64 0,.int .i64 0,.int .i64 0,.int .i64 0,.int .i64 0,.int .i64 0,.bool false] 41) [] none []
 (.x 3 (.st 21) [.qz 2,.qz 1] none []
 (.out (qx [2,3,5,6] [(7,.qz 2)])))))
 [2,3,5,6]
abbrev Hf:NC:=.reg
 (.x 1 (.call 86) [.qq 5] none []
 (.out (qx [2,3,6,7] [(8,.qz 1)])))
 [2,3,5,6,7]
abbrev He:NC:=.reg
 (.Q 1 (.icm .neq) [.qq 8,.qj 0]
 (.out (qx [2,3,6,7,8] [(22,.qz 1)])))
 [2,3,6,7,8]
abbrev Hd:NC:=.reg
 (.Q 0 (.bld [.int .i64 0,.int .i64 0] []) []
 (.Q 1 (.bld [.int .i64 0,.int .i64 0,.int .i64 0,.int .i64 0,.int .i64 0,.int .i64 0,.int .i64 0,.int .i64 0,(.string ⟨#[]⟩),(.string ⟨#[]⟩),(.string ⟨#[]⟩),(.string ⟨#[]⟩),.int .i64 0,.int .i64 0,.int .i64 0,.int .i64 0,.int .i64 0,.int .i64 0,.int .i64 0,.int .i64 0,.bool false] []) []
 (.x 3 (.st 2) [.qq 2,.qz 0] none []
 (.x 4 (.st 21) [.qq 3,.qz 1] none []
 (.out (qx [2,3] [(4,.qq 8)]))))))
 [2,3,8]
abbrev Hc:NC:=.reg
 (.Q 0 (.lda 2) [.qq 6]
 (.x 1 (.call 66) [.qz 0] none []
 (.Q 2 .not [.qz 1]
 (.out (qx [2,3,6,7] [(28,.qz 2)])))))
 [2,3,6,7]
abbrev En:NC:=.reg
 (.Q 0 (.bld [.int .i64 0,.int .i64 0] []) []
 (.Q 1 (.bld [.int .i64 0,.int .i64 0,.int .i64 0,.int .i64 0,.int .i64 0,.int .i64 0,.int .i64 0,.int .i64 0,(.string ⟨#[]⟩),(.string ⟨#[]⟩),(.string ⟨#[]⟩),(.string ⟨#[]⟩),.int .i64 0,.int .i64 0,.int .i64 0,.int .i64 0,.int .i64 0,.int .i64 0,.int .i64 0,.int .i64 0,.bool false] []) []
 (.x 2 (.st 2) [.qq 2,.qz 0] none []
 (.x 3 (.st 21) [.qq 3,.qz 1] none []
 (.out (qx [2,3] [(4,.qj 4)]))))))
 [2,3]
abbrev Em:NC:=.reg
 (.Q 0 (.lda 2) [.qq 6]
 (.Q 1 (.lda 21) [.qq 7]
 (.x 2 (.st 2) [.qq 2,.qz 0] none [(1,.lda 21,[.qq 7],none)]
 (.x 3 (.st 21) [.qq 3,.qz 1] none []
 (.out (qx [2,3] [(4,.qj 0)]))))))
 [2,3,6,7]
abbrev pu:NC :=
 (.seq Ho
 (.seq Hm
 (.seq Hl
 (.seq Hi
 (.seq Hh
 (.seq Hg
 (.seq (.seq Hf
 (.seq He
 (.cond (.qq 22)
 (.seq Hd
 .ret)
 .skip)))
 (.seq (.seq Hc
 (.cond (.qq 28)
 (.seq En
 .ret)
 .skip))
 (.seq Em
 .ret)))))))))
abbrev pA:FN:=⟨pu,[.cells 2 2,.cells 3 21,.qq 4]⟩
theorem Hr:GoT 54 Tryz.f54 pu pA:=goT (F:=pA) Tryz.func54 (by kernel_rfl)
abbrev EM:NC:=.reg
 (.x 0 (.box 25) [.qq 1] none []
 (.x 1 (.box 41) [.qq 2] none []
 (.out [(0,.qq 0),(4,.qz 0),(5,.qz 1)])))
 [0,1,2]
abbrev EL:NC:=.reg
 (.Q 0 (.lda 2) [.qq 4]
 (.x 1 (.call 66) [.qz 0] none []
 (.Q 2 .not [.qz 1]
 (.q 4 .mv [.qq 0] (some (.qz 2,false))
 (.q 5 (.lda 2) [.qq 4] (some (.qz 2,false))
 (.x 6 (.call 44) [.qz 4,.qz 5] (some (.qz 2,false)) []
 (.Q 7 .pick [.qz 2,.const (.bool true),.qz 6]
 (.q 9 (.lda 21) [.qq 5] (some (.qz 7,false))
 (.x 10 (.call 72) [.qz 9] (some (.qz 7,false)) []
 (.q 11 .not [.qz 10] (some (.qz 7,false))
 (.Q 12 .pick [.qz 7,.const (.bool true),.qz 11]
 (.out (qx [0,4,5] [(21,.qz 12)])))))))))))))
 [0,4,5]
abbrev EI:NC:=.reg
 (.out [(6,.const (.bool false))])
 []
abbrev EH:NC:=.reg
 (.Q 1 .nilck [.qq 0]
 (.Q 2 (.fld 0) [.qz 1]
 (.Q 3 .ld [.qz 2]
 (.Q 4 (.lda 2) [.qq 4]
 (.Q 5 (.lkp true [.i .i64,.i .i64] (.agg #[.int .i64 0,.int .i64 0,.int .i64 0,.int .i64 0,.int .i64 0,.int .i64 0,.int .i64 0,.int .i64 0,(.string ⟨#[]⟩),(.string ⟨#[]⟩),(.string ⟨#[]⟩),(.string ⟨#[]⟩),.int .i64 0,.int .i64 0,.int .i64 0,.int .i64 0,.int .i64 0,.int .i64 0,.int .i64 0,.int .i64 0,.bool false]) true) [.qz 3,.qz 4]
 (.Q 7 (.ext 0) [.qz 5]
 (.Q 8 (.ext 1) [.qz 5]
 (.x 9 (.alc [.int .i64 0,.int .i64 0,.int .i64 0,.int .i64 0,.int .i64 0,.int .i64 0,.int .i64 0,.int .i64 0,(.string ⟨#[]⟩),(.string ⟨#[]⟩),(.string ⟨#[]⟩),(.string ⟨#[]⟩),.int .i64 0,.int .i64 0,.int .i64 0,.int .i64 0,.int .i64 0,.int .i64 0,.int .i64 0,.int .i64 0,.bool false] 41) [] none [(3,.ld,[.qz 2],none),(4,.lda 2,[.qq 4],none),(5,(.lkp true [.i .i64,.i .i64] (.agg #[.int .i64 0,.int .i64 0,.int .i64 0,.int .i64 0,.int .i64 0,.int .i64 0,.int .i64 0,.int .i64 0,(.string ⟨#[]⟩),(.string ⟨#[]⟩),(.string ⟨#[]⟩),(.string ⟨#[]⟩),.int .i64 0,.int .i64 0,.int .i64 0,.int .i64 0,.int .i64 0,.int .i64 0,.int .i64 0,.int .i64 0,.bool false]) true),[.qz 3,.qz 4],none)]
 (.x 10 (.st 21) [.qz 9,.qz 7] none []
 (.out (qx [0,4,5] [(7,.qz 9),(8,.qz 8)])))))))))))
 [0,4,5]
abbrev EG:NC:=.reg
 (.q 2 (.lda 21) [.qq 7] (some (.qq 8,true))
 (.q 3 (.lda 21) [.qq 5] (some (.qq 8,true))
 (.x 4 (.call 87) [.qz 2,.qz 3] (some (.qq 8,true)) []
 (.q 5 .not [.qz 4] (some (.qq 8,true))
 (.Q 6 .pick [.qq 8,.qz 5,.const (.bool false)]
 (.out (qx [0,4,5] [(37,.qz 6)])))))))
 [0,4,5,7,8]
abbrev EF:NC:=.reg
 (.out [(6,.const (.bool false))])
 []
abbrev EE:NC:=.reg
 (.Q 1 .nilck [.qq 0]
 (.Q 2 (.fld 0) [.qz 1]
 (.Q 3 .ld [.qz 2]
 (.Q 4 (.lda 2) [.qq 4]
 (.Q 5 (.lda 21) [.qq 5]
 (.x 6 (.mup true [.i .i64,.i .i64]) [.qz 3,.qz 4,.qz 5] none []
 (.out [])))))))
 [0,4,5]
abbrev ED:NC:=.reg
 (.out [(6,.const (.bool true))])
 []
abbrev lM:NC :=
 (.seq EM
 (.seq (.seq EL
 (.cond (.qq 21)
 (.seq EI
 .ret)
 .skip))
 (.seq (.seq EH
 (.seq EG
 (.cond (.qq 37)
 (.seq EF
 .ret)
 .skip)))
 (.seq EE
 (.seq ED
 .ret)))))
abbrev lN:FN:=⟨lM,[.qq 6]⟩
theorem EN:GoT 55 Tryz.f55 lM lN:=goT (F:=lN) Tryz.func55 (by kernel_rfl)
abbrev Qb:NC:=.reg
 (.out [(0,.qq 0)])
 [0]
abbrev Qa:NC:=.reg
 (.Q 1 (.eqs false) [.qq 0,.const (.slice none 0 0)]
 (.out [(0,.qq 0),(4,.qz 1)]))
 [0]
abbrev QY:NC:=.reg
 (.out [(2,.const (.slice none 0 0))])
 []
abbrev QW:NC:=.reg
 (.x 0 (.bsl 88 0 [] []) [] none []
 (.x 2 (.app 88 1 8 [.pointer none]) [.qz 0,.qq 0] none []
 (.out [(2,.qz 2)])))
 [0]
abbrev jE:NC :=
 (.seq Qb
 (.seq (.seq Qa
 (.cond (.qq 4)
 (.seq QY
 .ret)
 .skip))
 (.seq QW
 .ret)))
abbrev jF:FN:=⟨jE,[.qq 2]⟩
theorem Qc:GoT 57 Tryz.f57 jE jF:=goT (F:=jF) Tryz.func57 (by kernel_rfl)
abbrev Bu:NC:=.reg
 (.out [(0,.qq 0)])
 [0]
abbrev Bt:NC:=.reg
 (.out [(0,.qq 0),(3,.const (.slice none 0 0))])
 [0]
abbrev Bs:NC:=.reg
 (.Q 1 .nilck [.qq 0]
 (.Q 2 (.fld 0) [.qz 1]
 (.Q 3 .ld [.qz 2]
 (.x 4 .rng [.qz 3] none []
 (.out [(3,.qq 3),(9,.qz 4)])))))
 [0,3]
abbrev Br:NC:=.reg
 (.x 0 .nxt [.qq 9] none []
 (.Q 1 (.ext 0) [.qz 0]
 (.out (qx [3,9] [(11,.qz 1)]))))
 [3,9]
abbrev Bp:NC:=.reg
 (.Q 0 .ent [.qq 9]
 (.Q 1 (.ext 0) [.qz 0]
 (.x 2 (.alc [.int .i64 0,.int .i64 0] 25) [] none []
 (.x 3 (.st 2) [.qz 2,.qz 1] none []
 (.out [(3,.qq 3),(4,.qz 2),(9,.qq 9)])))))
 [3,9]
abbrev Bo:NC:=.reg
 (.Q 1 (.lda 2) [.qq 4]
 (.x 2 (.bsl 25 1 [.int .i64 0,.int .i64 0] [(0,2)]) [.qz 1] none []
 (.x 3 (.app 25 2 16 [.int .i64 0,.int .i64 0]) [.qq 3,.qz 2] none []
 (.out [(3,.qz 3),(9,.qq 9)]))))
 [3,4,9]
abbrev BA:NC :=
 (.seq Br
 (.seq (.cond (.qq 11)
 .skip
 (.exit 0))
 (.block 1 (.seq Bp
 Bo))))
abbrev Bn:NC:=.reg
 (.x 1 (.call 91) [.qq 3,.fn 92] none []
 (.out [(3,.qq 3)]))
 [3]
abbrev Bm:NC:=.reg
 (.out [(2,.qq 3)])
 [3]
abbrev ei:NC :=
 (.seq Bu
 (.seq Bt
 (.seq (.seq Bs
 (.block 0 (.loop [3,9] BA)))
 (.seq Bn
 (.seq Bm
 .ret)))))
abbrev eo:FN:=⟨ei,[.qq 2]⟩
theorem BB:GoT 61 Tryz.f61 ei eo:=goT (F:=eo) Tryz.func61 (by kernel_rfl)
abbrev QK:NC:=.reg
 (.out [(0,.qq 0)])
 [0]
abbrev QX:NC:=.reg
 (.Q 1 (.eqs false) [.qq 0,.const (.slice none 0 0)]
 (.out [(0,.qq 0),(4,.qz 1)]))
 [0]
abbrev QJ:NC:=.reg
 (.out [(2,.const (.slice none 0 0))])
 []
abbrev QZ:NC:=.reg
 (.x 0 (.bsl 94 0 [] []) [] none []
 (.x 2 (.app 94 1 8 [.pointer none]) [.qz 0,.qq 0] none []
 (.out [(2,.qz 2)])))
 [0]
abbrev jC:NC :=
 (.seq QK
 (.seq (.seq QX
 (.cond (.qq 4)
 (.seq QJ
 .ret)
 .skip))
 (.seq QZ
 .ret)))
abbrev jD:FN:=⟨jC,[.qq 2]⟩
theorem QV:GoT 63 Tryz.f63 jC jD:=goT (F:=jD) Tryz.func63 (by kernel_rfl)
abbrev kr:NC:=.reg
 (.out (qx [0,1] []))
 [0,1]
abbrev ko:NC:=.reg
 (.x 2 (.call 95) [.qq 0,.qq 1] none []
 (.out (qx [0,1] [(5,.qz 2)])))
 [0,1]
abbrev kn:NC:=.reg
 (.Q 1 (.icm .eql) [.qq 5,(.const (.int .i64 (-1)))]
 (.out (qx [0,1,5] [(12,.qz 1)])))
 [0,1,5]
abbrev km:NC:=.reg
 (.out [(4,.qq 0)])
 [0]
abbrev ki:NC:=.reg
 (.Q 1 (.iar .add) [.qq 5,.qj 1]
 (.out (qx [0,1,5] [(6,.qz 1)])))
 [0,1,5]
abbrev kh:NC:=.reg
 (.Q 2 .len [.qq 0]
 (.Q 3 (.icm .lss) [.qq 6,.qz 2]
 (.out (qx [0,1,5,6] [(19,.qz 3)]))))
 [0,1,5,6]
abbrev kg:NC:=.reg
 (.Q 2 (.ixs 1) [.qq 0,.qq 6]
 (.Q 3 .ld [.qz 2]
 (.out (qx [0,1,5,6] [(7,.qz 3)]))))
 [0,1,5,6]
abbrev kf:NC:=.reg
 (.x 2 .callv [.qq 1,.qq 7] none []
 (.Q 3 .not [.qz 2]
 (.out (qx [0,1,5,6,7] [(29,.qz 3)]))))
 [0,1,5,6,7]
abbrev kY:NC:=.reg
 (.Q 3 (.ixs 1) [.qq 0,.qq 5]
 (.x 4 (.st 1) [.qz 3,.qq 7] none []
 (.out (qx [0,1,5,6] []))))
 [0,1,5,6,7]
abbrev kW:NC:=.reg
 (.Q 1 (.iar .add) [.qq 5,.qj 1]
 (.out (qx [0,1] [(5,.qz 1),(6,.qq 6)])))
 [0,1,5,6]
abbrev kz:NC:=.reg
 (.Q 1 (.iar .add) [.qq 6,.qj 1]
 (.out (qx [0,1,5] [(6,.qz 1)])))
 [0,1,5,6]
abbrev ku:NC :=
 (.seq (.seq kh
 (.cond (.qq 19)
 .skip
 (.exit 0)))
 (.seq (.block 1 (.seq kg
 (.seq kf
 (.cond (.qq 29)
 (.seq kY
 kW)
 .skip))))
 kz))
abbrev kq:NC:=.reg
 (.Q 2 (.slc 1 true false) [.qq 0,.qq 5]
 (.x 3 (.clr [.pointer none]) [.qz 2] none []
 (.out (qx [0,5] []))))
 [0,5]
abbrev xU:NC:=.reg
 (.Q 2 (.slc 1 false true) [.qq 0,.qq 5]
 (.out [(4,.qz 2)]))
 [0,5]
abbrev zL:NC :=
 (.seq kr
 (.seq ko
 (.seq (.seq kn
 (.cond (.qq 12)
 (.seq km
 .ret)
 .skip))
 (.seq (.seq ki
 (.block 0 (.loop [0,1,5,6] ku)))
 (.seq kq
 (.seq xU
 .ret))))))
abbrev zM:FN:=⟨zL,[.qq 4]⟩
theorem zC:GoT 64 Tryz.f64 zL zM:=goT (F:=zM) Tryz.func64 (by kernel_rfl)
abbrev Hu:NC:=.reg
 (.x 0 (.box 25) [.qq 0] none []
 (.x 1 (.box 41) [.qq 1] none []
 (.out [(2,.qz 0),(3,.qz 1)])))
 [0,1]
abbrev Ht:NC:=.reg
 (.Q 0 (.fld 0) [.qq 2]
 (.Q 1 .ld [.qz 0]
 (.Q 3 (.fld 1) [.qq 2]
 (.Q 4 .ld [.qz 3]
 (.Q 6 (.lda 21) [.qq 3]
 (.x 2 (.call 97) [.const (.slice none 0 0),.qz 1] none [(4,.ld,[.qz 3],none),(6,.lda 21,[.qq 3],none)]
 (.x 5 (.call 97) [.qz 2,.qz 4] none [(6,.lda 21,[.qq 3],none)]
 (.x 7 (.call 96) [.qz 5,.qz 6] none []
 (.out [(4,.qz 7)])))))))))
 [2,3]
abbrev pB:NC :=
 (.seq Hu
 (.seq Ht
 .ret))
abbrev pC:FN:=⟨pB,[.qq 4]⟩
theorem HA:GoT 67 Tryz.f67 pB pC:=goT (F:=pC) Tryz.func67 (by kernel_rfl)
abbrev Bg:NC:=.reg
 (.x 0 (.box 37) [.qq 1] none []
 (.out [(0,.qq 0),(3,.qz 0)]))
 [0,1]
abbrev Bf:NC:=.reg
 (.Q 0 (.lda 7) [.qq 3]
 (.out [(0,.qq 0),(7,.qz 0),(8,.qj 0)]))
 [0,3]
abbrev Be:NC:=.reg
 (.Q 0 (.icm .lss) [.qq 8,.qj 7]
 (.out (qx [0,7,8] [(9,.qz 0)])))
 [0,7,8]
abbrev Bd:NC:=.reg
 (.Q 1 (.idx 7 1) [.qq 7,.qq 8]
 (.out [(0,.qq 0),(4,.qq 8),(5,.qz 1),(7,.qq 7),(8,.qq 8)]))
 [0,7,8]
abbrev Bc:NC:=.reg
 (.Q 4 .nilck [.qq 0]
 (.Q 5 (.fld 1) [.qz 4]
 (.Q 6 (.ixa 7 1) [.qz 5,.qq 4]
 (.Q 7 .ld [.qz 6]
 (.Q 9 .mx [.qq 5,.qj 0]
 (.Q 10 .mn [.qz 9,.qj 1073741824]
 (.Q 11 .mx [.qz 7,.qz 10]
 (.Q 12 .nilck [.qq 0]
 (.Q 13 (.fld 1) [.qz 12]
 (.Q 14 (.ixa 7 1) [.qz 13,.qq 4]
 (.x 15 (.st 1) [.qz 14,.qz 11] none []
 (.out (qx [0,7,8] [])))))))))))))
 [0,4,5,7,8]
abbrev Bb:NC:=.reg
 (.Q 0 (.iar .add) [.qq 8,.qj 1]
 (.out (qx [0,7] [(8,.qz 0)])))
 [0,7,8]
abbrev Bi:NC :=
 (.seq Be
 (.seq (.cond (.qq 9)
 .skip
 (.exit 0))
 (.seq (.block 1 (.seq Bd
 Bc))
 Bb)))
abbrev Ba:NC:=.reg
 (.Q 1 .nilck [.qq 0]
 (.Q 2 (.fld 0) [.qz 1]
 (.Q 3 .ld [.qz 2]
 (.x 4 .rng [.qz 3] none []
 (.out [(0,.qq 0),(32,.qz 4)])))))
 [0]
abbrev BY:NC:=.reg
 (.x 0 .nxt [.qq 32] none []
 (.Q 1 (.ext 0) [.qz 0]
 (.out (qx [0,32] [(34,.qz 1)]))))
 [0,32]
abbrev BW:NC:=.reg
 (.Q 0 .ent [.qq 32]
 (.Q 1 (.ext 0) [.qz 0]
 (.x 2 (.alc [.int .i64 0,.int .i64 0] 25) [] none []
 (.x 3 (.st 2) [.qz 2,.qz 1] none []
 (.out [(0,.qq 0),(6,.qz 2),(32,.qq 32)])))))
 [0,32]
abbrev BV:NC:=.reg
 (.Q 1 (.lda 2) [.qq 6]
 (.x 2 (.call 44) [.qq 0,.qz 1] none []
 (.out (qx [0,6,32] [(39,.qz 2)]))))
 [0,6,32]
abbrev tO:NC:=.reg
 (.Q 1 .nilck [.qq 0]
 (.Q 2 (.fld 0) [.qz 1]
 (.Q 3 .ld [.qz 2]
 (.Q 4 (.lda 2) [.qq 6]
 (.x 5 (.dlt true [.i .i64,.i .i64]) [.qz 3,.qz 4] none []
 (.out (qx [0,32] [])))))))
 [0,6,32]
abbrev Bh:NC :=
 (.seq BY
 (.seq (.cond (.qq 34)
 .skip
 (.exit 2))
 (.block 3 (.seq BW
 (.seq BV
 (.cond (.qq 39)
 tO
 .skip))))))
abbrev ef:NC :=
 (.seq Bg
 (.seq (.seq Bf
 (.block 0 (.loop [0,7,8] Bi)))
 (.seq Ba
 (.block 2 (.loop [0,32] Bh)))))
abbrev eh:FN:=⟨ef,[]⟩
theorem Bl:GoT 82 Tryz.f82 ef eh:=goT (F:=eh) Tryz.func82 (by kernel_rfl)
abbrev Uo:NC:=.reg
 (.x 0 (.box 41) [.qq 0] none []
 (.x 1 (.box 41) [.qq 1] none []
 (.out [(2,.qz 0),(3,.qz 1)])))
 [0,1]
abbrev Un:NC:=.reg
 (.Q 0 (.fld 0) [.qq 2]
 (.Q 1 .ld [.qz 0]
 (.Q 2 (.icm .eql) [.qz 1,.qj 3]
 (.q 4 (.fld 0) [.qq 3] (some (.qz 2,true))
 (.q 5 .ld [.qz 4] (some (.qz 2,true))
 (.q 6 (.icm .neq) [.qz 5,.qj 3] (some (.qz 2,true))
 (.q 7 .mv [.qz 6] (some (.qz 2,true))
 (.q 8 (.fld 5) [.qq 3] (some (.qz 7,false))
 (.q 9 (.lda 7) [.qz 8] (some (.qz 7,false))
 (.q 10 (.fld 5) [.qq 2] (some (.qz 7,false))
 (.q 11 (.lda 7) [.qz 10] (some (.qz 7,false))
 (.q 12 (.eqc true [.i .i64,.i .i64,.i .i64,.s,.s,.s,.s]) [.qz 9,.qz 11] (some (.qz 7,false))
 (.q 13 .pick [.qz 7,.const (.bool true),.qz 12] (some (.qz 2,true))
 (.q 14 .mv [.qz 13] (some (.qz 2,true))
 (.q 15 (.fld 12) [.qq 3] (some (.qz 14,false))
 (.q 16 (.lda 8) [.qz 15] (some (.qz 14,false))
 (.q 17 (.fld 12) [.qq 2] (some (.qz 14,false))
 (.q 18 (.lda 8) [.qz 17] (some (.qz 14,false))
 (.q 19 (.eqc true [.i .i64,.i .i64,.i .i64,.i .i64,.i .i64,.i .i64,.i .i64,.i .i64]) [.qz 16,.qz 18] (some (.qz 14,false))
 (.q 20 .pick [.qz 14,.const (.bool true),.qz 19] (some (.qz 2,true))
 (.Q 21 .pick [.qz 2,.qz 20,.const (.bool false)]
 (.out (qx [2,3] [(26,.qz 21)])))))))))))))))))))))))
 [2,3]
abbrev Um:NC:=.reg
 (.out [(4,.const (.bool false))])
 []
abbrev Ul:NC:=.reg
 (.Q 0 (.fld 1) [.qq 3]
 (.Q 1 (.lda 2) [.qz 0]
 (.Q 2 (.fld 1) [.qq 2]
 (.Q 3 (.lda 2) [.qz 2]
 (.x 4 (.call 37) [.qz 1,.qz 3] none []
 (.q 6 (.fld 3) [.qq 3] (some (.qz 4,false))
 (.q 7 (.lda 2) [.qz 6] (some (.qz 4,false))
 (.q 8 (.fld 3) [.qq 2] (some (.qz 4,false))
 (.q 9 (.lda 2) [.qz 8] (some (.qz 4,false))
 (.x 10 (.call 37) [.qz 7,.qz 9] (some (.qz 4,false)) []
 (.Q 11 .pick [.qz 4,.const (.bool true),.qz 10]
 (.out (qx [2,3] [(38,.qz 11)])))))))))))))
 [2,3]
abbrev Ui:NC:=.reg
 (.out [(4,.const (.bool false))])
 []
abbrev Uh:NC:=.reg
 (.Q 0 (.fld 0) [.qq 3]
 (.Q 1 .ld [.qz 0]
 (.Q 2 (.fld 0) [.qq 2]
 (.Q 3 .ld [.qz 2]
 (.Q 4 (.icm .geq) [.qz 1,.qz 3]
 (.q 6 (.fld 3) [.qq 3] (some (.qz 4,false))
 (.q 7 (.lda 2) [.qz 6] (some (.qz 4,false))
 (.q 8 (.fld 3) [.qq 2] (some (.qz 4,false))
 (.q 9 (.lda 2) [.qz 8] (some (.qz 4,false))
 (.q 10 (.eqc true [.i .i64,.i .i64]) [.qz 7,.qz 9] (some (.qz 4,false))
 (.Q 11 .pick [.qz 4,.const (.bool true),.qz 10]
 (.out [(4,.qz 11)]))))))))))))
 [2,3]
abbrev Lq:NC :=
 (.seq Uo
 (.seq (.seq Un
 (.cond (.qq 26)
 (.seq Um
 .ret)
 .skip))
 (.seq (.seq Ul
 (.cond (.qq 38)
 (.seq Ui
 .ret)
 .skip))
 (.seq Uh
 .ret))))
abbrev Lz:FN:=⟨Lq,[.qq 4]⟩
theorem Ur:GoT 87 Tryz.f87 Lq Lz:=goT (F:=Lz) Tryz.func87 (by kernel_rfl)
abbrev yK:NC:=.reg
 (.Q 1 .len [.qq 0]
 (.out (qx [0,1] [(4,.qz 1)])))
 [0,1]
abbrev yX:NC:=.reg
 (.Q 3 (.conv .u64) [.qq 4]
 (.x 4 (.call 119) [.qz 3] none []
 (.x 6 (.call 118) [.qq 0,.qj 0,.qq 4,.qz 4,.qq 1] none []
 (.out []))))
 [0,1,4]
abbrev jo:NC :=
 (.seq yK
 yX)
abbrev jp:FN:=⟨jo,[]⟩
theorem yV:GoT 91 Tryz.f91 jo jp:=goT (F:=jp) Tryz.func91 (by kernel_rfl)
abbrev nM:NC:=.reg
 (.x 0 (.box 25) [.qq 0] none []
 (.x 1 (.box 25) [.qq 1] none []
 (.out [(2,.qz 0),(3,.qz 1)])))
 [0,1]
abbrev nL:NC:=.reg
 (.Q 0 (.lda 2) [.qq 2]
 (.Q 1 (.lda 2) [.qq 3]
 (.x 2 (.call 93) [.qz 0,.qz 1] none []
 (.out [(7,.qz 2)]))))
 [2,3]
abbrev nI:NC:=.reg
 (.out [(4,(.const (.int .i64 (-1))))])
 []
abbrev nH:NC:=.reg
 (.out [(4,.qj 1)])
 []
abbrev Yc:NC :=
 (.seq nM
 (.seq (.seq nL
 (.cond (.qq 7)
 (.seq nI
 .ret)
 .skip))
 (.seq nH
 .ret)))
abbrev Yd:FN:=⟨Yc,[.qq 4]⟩
theorem nN:GoT 92 Tryz.f92 Yc Yd:=goT (F:=Yd) Tryz.func92 (by kernel_rfl)
abbrev yh:NC:=.reg
 (.out (qx [0,1,2] []))
 [0,1,2]
abbrev yg:NC:=.reg
 (.Q 2 (.slc 1 true false) [.qq 0,.qq 1]
 (.out (qx [0,1,2] [])))
 [0,1,2]
abbrev yf:NC:=.reg
 (.Q 1 .len [.qq 2]
 (.out (qx [0,1,2] [(7,.qz 1)])))
 [0,1,2]
abbrev ye:NC:=.reg
 (.Q 1 (.icm .eql) [.qq 7,.qj 0]
 (.out (qx [0,1,2,7] [(16,.qz 1)])))
 [0,1,2,7]
abbrev yd:NC:=.reg
 (.out [(6,.qq 0)])
 [0]
abbrev yc:NC:=.reg
 (.Q 1 .len [.qq 0]
 (.out (qx [0,1,2,7] [(8,.qz 1)])))
 [0,1,2,7]
abbrev yb:NC:=.reg
 (.Q 2 (.icm .eql) [.qq 1,.qq 8]
 (.out (qx [0,1,2,7,8] [(22,.qz 2)])))
 [0,1,2,7,8]
abbrev ya:NC:=.reg
 (.x 2 (.app 94 1 8 [.pointer none]) [.qq 0,.qq 2] none []
 (.out [(6,.qz 2)]))
 [0,2]
abbrev yY:NC:=.reg
 (.Q 2 (.iar .add) [.qq 8,.qq 7]
 (.Q 4 .cap [.qq 0]
 (.Q 5 (.icm .gtr) [.qz 2,.qz 4]
 (.out (qx [0,1,2,7,8] [(31,.qz 5)])))))
 [0,1,2,7,8]
abbrev yW:NC:=.reg
 (.Q 2 (.slc 1 false true) [.qq 0,.qq 1]
 (.Q 5 (.iar .add) [.qq 8,.qq 7]
 (.Q 7 (.iar .sub) [.qz 5,.qq 1]
 (.x 8 (.appn 94 1 8 [.pointer none]) [.qz 2,.qz 7] none []
 (.out (qx [0,1,2,7] [(9,.qz 8)]))))))
 [0,1,2,7,8]
abbrev wM:NC:=.reg
 (.Q 2 (.slc 1 true false) [.qq 9,.qq 1]
 (.x 4 (.cpy 1) [.qz 2,.qq 2] none []
 (.out (qx [0,1,7,9] []))))
 [0,1,2,7,9]
abbrev wL:NC:=.reg
 (.Q 3 (.iar .add) [.qq 1,.qq 7]
 (.Q 4 (.slc 1 true false) [.qq 9,.qz 3]
 (.Q 7 (.slc 1 true false) [.qq 0,.qq 1]
 (.x 8 (.cpy 1) [.qz 4,.qz 7] none []
 (.out [(9,.qq 9)])))))
 [0,1,7,9]
abbrev wI:NC:=.reg
 (.out [(6,.qq 9)])
 [9]
abbrev wH:NC:=.reg
 (.Q 3 (.iar .add) [.qq 8,.qq 7]
 (.Q 4 (.slc 1 false true) [.qq 0,.qz 3]
 (.out [(0,.qz 4),(1,.qq 1),(2,.qq 2),(7,.qq 7),(8,.qq 8)])))
 [0,1,2,7,8]
abbrev wG:NC:=.reg
 (.Q 4 (.iar .add) [.qq 1,.qq 7]
 (.Q 5 (.slc 1 true false) [.qq 0,.qz 4]
 (.Q 6 (.ovl 1) [.qq 2,.qz 5]
 (.Q 7 .not [.qz 6]
 (.out (qx [0,1,2,7,8] [(68,.qz 7)]))))))
 [0,1,2,7,8]
abbrev wF:NC:=.reg
 (.Q 3 (.iar .add) [.qq 1,.qq 7]
 (.Q 4 (.slc 1 true false) [.qq 0,.qz 3]
 (.Q 7 (.slc 1 true false) [.qq 0,.qq 1]
 (.x 8 (.cpy 1) [.qz 4,.qz 7] none []
 (.out (qx [0,1,2] []))))))
 [0,1,2,7]
abbrev wE:NC:=.reg
 (.Q 2 (.slc 1 true false) [.qq 0,.qq 1]
 (.x 4 (.cpy 1) [.qz 2,.qq 2] none []
 (.out [(0,.qq 0)])))
 [0,1,2]
abbrev wD:NC:=.reg
 (.out [(6,.qq 0)])
 [0]
abbrev wC:NC:=.reg
 (.Q 2 (.slc 1 true false) [.qq 0,.qq 8]
 (.x 4 (.cpy 1) [.qz 2,.qq 2] none []
 (.out (qx [0,1,7] []))))
 [0,1,2,7,8]
abbrev wB:NC:=.reg
 (.Q 2 (.slc 1 true false) [.qq 0,.qq 1]
 (.x 4 (.call 121) [.qz 2,.qq 7] none []
 (.out [(0,.qq 0)])))
 [0,1,7]
abbrev wA:NC:=.reg
 (.out [(6,.qq 0)])
 [0]
abbrev zf:NC :=
 (.seq yh
 (.seq yg
 (.seq yf
 (.seq (.seq ye
 (.cond (.qq 16)
 (.seq yd
 .ret)
 .skip))
 (.seq yc
 (.seq (.seq yb
 (.cond (.qq 22)
 (.seq ya
 .ret)
 .skip))
 (.seq (.seq yY
 (.cond (.qq 31)
 (.seq yW
 (.seq wM
 (.seq wL
 (.seq wI
 .ret))))
 .skip))
 (.seq wH
 (.seq (.seq wG
 (.cond (.qq 68)
 (.seq wF
 (.seq wE
 (.seq wD
 .ret)))
 .skip))
 (.seq wC
 (.seq wB
 (.seq wA
 .ret))))))))))))
abbrev zg:FN:=⟨zf,[.qq 6]⟩
theorem yi:GoT 94 Tryz.f94 zf zg:=goT (F:=zg) Tryz.func94 (by kernel_rfl)
abbrev vg:NC:=.reg
 (.out (qx [0,1] []))
 [0,1]
abbrev vf:NC:=.reg
 (.Q 1 .len [.qq 0]
 (.out (qx [0,1] [(7,.qz 1),(8,.qj 0)])))
 [0,1]
abbrev ve:NC:=.reg
 (.Q 0 (.icm .lss) [.qq 8,.qq 7]
 (.out (qx [0,1,7,8] [(9,.qz 0)])))
 [0,1,7,8]
abbrev vd:NC:=.reg
 (.out (qx [0,1] [(5,.qq 8),(7,.qq 7),(8,.qq 8)]))
 [0,1,7,8]
abbrev vb:NC:=.reg
 (.Q 3 (.ixs 1) [.qq 0,.qq 5]
 (.Q 4 .ld [.qz 3]
 (.x 5 .callv [.qq 1,.qz 4] none []
 (.out (qx [0,1,5,7,8] [(16,.qz 5)])))))
 [0,1,5,7,8]
abbrev vY:NC:=.reg
 (.out [(4,.qq 5)])
 [5]
abbrev vW:NC:=.reg
 (.Q 0 (.iar .add) [.qq 8,.qj 1]
 (.out (qx [0,1,7] [(8,.qz 0)])))
 [0,1,7,8]
abbrev vh:NC :=
 (.seq ve
 (.seq (.cond (.qq 9)
 .skip
 (.exit 0))
 (.seq (.block 1 (.seq vd
 (.seq vb
 (.cond (.qq 16)
 (.seq vY
 .ret)
 .skip))))
 vW)))
abbrev vV:NC:=.reg
 (.out [(4,(.const (.int .i64 (-1))))])
 []
abbrev jx:NC :=
 (.seq vg
 (.seq (.seq vf
 (.block 0 (.loop [0,1,7,8] vh)))
 (.seq vV
 .ret)))
abbrev jk:FN:=⟨jx,[.qq 4]⟩
theorem vi:GoT 95 Tryz.f95 jx jk:=goT (F:=jk) Tryz.func95 (by kernel_rfl)
abbrev yB:NC:=.reg
 (.out (qx [0,1,2] []))
 [0,1,2]
abbrev yA:NC:=.reg
 (.Q 2 (.slc 1 true false) [.qq 0,.qq 1]
 (.out (qx [0,1,2] [])))
 [0,1,2]
abbrev yu:NC:=.reg
 (.Q 1 .len [.qq 2]
 (.out (qx [0,1,2] [(7,.qz 1)])))
 [0,1,2]
abbrev yt:NC:=.reg
 (.Q 1 (.icm .eql) [.qq 7,.qj 0]
 (.out (qx [0,1,2,7] [(16,.qz 1)])))
 [0,1,2,7]
abbrev yr:NC:=.reg
 (.out [(6,.qq 0)])
 [0]
abbrev yp:NC:=.reg
 (.Q 1 .len [.qq 0]
 (.out (qx [0,1,2,7] [(8,.qz 1)])))
 [0,1,2,7]
abbrev yo:NC:=.reg
 (.Q 2 (.icm .eql) [.qq 1,.qq 8]
 (.out (qx [0,1,2,7,8] [(22,.qz 2)])))
 [0,1,2,7,8]
abbrev yn:NC:=.reg
 (.x 2 (.app 88 1 8 [.pointer none]) [.qq 0,.qq 2] none []
 (.out [(6,.qz 2)]))
 [0,2]
abbrev ym:NC:=.reg
 (.Q 2 (.iar .add) [.qq 8,.qq 7]
 (.Q 4 .cap [.qq 0]
 (.Q 5 (.icm .gtr) [.qz 2,.qz 4]
 (.out (qx [0,1,2,7,8] [(31,.qz 5)])))))
 [0,1,2,7,8]
abbrev yl:NC:=.reg
 (.Q 2 (.slc 1 false true) [.qq 0,.qq 1]
 (.Q 5 (.iar .add) [.qq 8,.qq 7]
 (.Q 7 (.iar .sub) [.qz 5,.qq 1]
 (.x 8 (.appn 88 1 8 [.pointer none]) [.qz 2,.qz 7] none []
 (.out (qx [0,1,2,7] [(9,.qz 8)]))))))
 [0,1,2,7,8]
abbrev yx:NC:=.reg
 (.Q 2 (.slc 1 true false) [.qq 9,.qq 1]
 (.x 4 (.cpy 1) [.qz 2,.qq 2] none []
 (.out (qx [0,1,7,9] []))))
 [0,1,2,7,9]
abbrev yj:NC:=.reg
 (.Q 3 (.iar .add) [.qq 1,.qq 7]
 (.Q 4 (.slc 1 true false) [.qq 9,.qz 3]
 (.Q 7 (.slc 1 true false) [.qq 0,.qq 1]
 (.x 8 (.cpy 1) [.qz 4,.qz 7] none []
 (.out [(9,.qq 9)])))))
 [0,1,7,9]
abbrev yz:NC:=.reg
 (.out [(6,.qq 9)])
 [9]
abbrev yq:NC:=.reg
 (.Q 3 (.iar .add) [.qq 8,.qq 7]
 (.Q 4 (.slc 1 false true) [.qq 0,.qz 3]
 (.out [(0,.qz 4),(1,.qq 1),(2,.qq 2),(7,.qq 7),(8,.qq 8)])))
 [0,1,2,7,8]
abbrev wU:NC:=.reg
 (.Q 4 (.iar .add) [.qq 1,.qq 7]
 (.Q 5 (.slc 1 true false) [.qq 0,.qz 4]
 (.Q 6 (.ovl 1) [.qq 2,.qz 5]
 (.Q 7 .not [.qz 6]
 (.out (qx [0,1,2,7,8] [(68,.qz 7)]))))))
 [0,1,2,7,8]
abbrev wT:NC:=.reg
 (.Q 3 (.iar .add) [.qq 1,.qq 7]
 (.Q 4 (.slc 1 true false) [.qq 0,.qz 3]
 (.Q 7 (.slc 1 true false) [.qq 0,.qq 1]
 (.x 8 (.cpy 1) [.qz 4,.qz 7] none []
 (.out (qx [0,1,2] []))))))
 [0,1,2,7]
abbrev wS:NC:=.reg
 (.Q 2 (.slc 1 true false) [.qq 0,.qq 1]
 (.x 4 (.cpy 1) [.qz 2,.qq 2] none []
 (.out [(0,.qq 0)])))
 [0,1,2]
abbrev wR:NC:=.reg
 (.out [(6,.qq 0)])
 [0]
abbrev wP:NC:=.reg
 (.Q 2 (.slc 1 true false) [.qq 0,.qq 8]
 (.x 4 (.cpy 1) [.qz 2,.qq 2] none []
 (.out (qx [0,1,7] []))))
 [0,1,2,7,8]
abbrev wO:NC:=.reg
 (.Q 2 (.slc 1 true false) [.qq 0,.qq 1]
 (.x 4 (.call 128) [.qz 2,.qq 7] none []
 (.out [(0,.qq 0)])))
 [0,1,7]
abbrev wN:NC:=.reg
 (.out [(6,.qq 0)])
 [0]
abbrev zh:NC :=
 (.seq yB
 (.seq yA
 (.seq yu
 (.seq (.seq yt
 (.cond (.qq 16)
 (.seq yr
 .ret)
 .skip))
 (.seq yp
 (.seq (.seq yo
 (.cond (.qq 22)
 (.seq yn
 .ret)
 .skip))
 (.seq (.seq ym
 (.cond (.qq 31)
 (.seq yl
 (.seq yx
 (.seq yj
 (.seq yz
 .ret))))
 .skip))
 (.seq yq
 (.seq (.seq wU
 (.cond (.qq 68)
 (.seq wT
 (.seq wS
 (.seq wR
 .ret)))
 .skip))
 (.seq wP
 (.seq wO
 (.seq wN
 .ret))))))))))))
abbrev zi:FN:=⟨zh,[.qq 6]⟩
theorem yC:GoT 98 Tryz.f98 zh zi:=goT (F:=zi) Tryz.func98 (by kernel_rfl)
abbrev kM:NC:=.reg
 (.out (qx [0,1] []))
 [0,1]
abbrev kL:NC:=.reg
 (.x 2 (.call 129) [.qq 0,.qq 1] none []
 (.out (qx [0,1] [(5,.qz 2)])))
 [0,1]
abbrev kH:NC:=.reg
 (.Q 1 (.icm .eql) [.qq 5,(.const (.int .i64 (-1)))]
 (.out (qx [0,1,5] [(12,.qz 1)])))
 [0,1,5]
abbrev kG:NC:=.reg
 (.out [(4,.qq 0)])
 [0]
abbrev kF:NC:=.reg
 (.Q 1 (.iar .add) [.qq 5,.qj 1]
 (.out (qx [0,1,5] [(6,.qz 1)])))
 [0,1,5]
abbrev kE:NC:=.reg
 (.Q 2 .len [.qq 0]
 (.Q 3 (.icm .lss) [.qq 6,.qz 2]
 (.out (qx [0,1,5,6] [(19,.qz 3)]))))
 [0,1,5,6]
abbrev kD:NC:=.reg
 (.Q 2 (.ixs 1) [.qq 0,.qq 6]
 (.Q 3 .ld [.qz 2]
 (.out (qx [0,1,5,6] [(7,.qz 3)]))))
 [0,1,5,6]
abbrev kC:NC:=.reg
 (.x 2 .callv [.qq 1,.qq 7] none []
 (.Q 3 .not [.qz 2]
 (.out (qx [0,1,5,6,7] [(29,.qz 3)]))))
 [0,1,5,6,7]
abbrev kB:NC:=.reg
 (.Q 3 (.ixs 1) [.qq 0,.qq 5]
 (.x 4 (.st 1) [.qz 3,.qq 7] none []
 (.out (qx [0,1,5,6] []))))
 [0,1,5,6,7]
abbrev kA:NC:=.reg
 (.Q 1 (.iar .add) [.qq 5,.qj 1]
 (.out (qx [0,1] [(5,.qz 1),(6,.qq 6)])))
 [0,1,5,6]
abbrev kw:NC:=.reg
 (.Q 1 (.iar .add) [.qq 6,.qj 1]
 (.out (qx [0,1,5] [(6,.qz 1)])))
 [0,1,5,6]
abbrev kN:NC :=
 (.seq (.seq kE
 (.cond (.qq 19)
 .skip
 (.exit 0)))
 (.seq (.block 1 (.seq kD
 (.seq kC
 (.cond (.qq 29)
 (.seq kB
 kA)
 .skip))))
 kw))
abbrev kx:NC:=.reg
 (.Q 2 (.slc 1 true false) [.qq 0,.qq 5]
 (.x 3 (.clr [.pointer none]) [.qz 2] none []
 (.out (qx [0,5] []))))
 [0,5]
abbrev kj:NC:=.reg
 (.Q 2 (.slc 1 false true) [.qq 0,.qq 5]
 (.out [(4,.qz 2)]))
 [0,5]
abbrev zN:NC :=
 (.seq kM
 (.seq kL
 (.seq (.seq kH
 (.cond (.qq 12)
 (.seq kG
 .ret)
 .skip))
 (.seq (.seq kF
 (.block 0 (.loop [0,1,5,6] kN)))
 (.seq kx
 (.seq kj
 .ret))))))
abbrev zO:FN:=⟨zN,[.qq 4]⟩
theorem zD:GoT 99 Tryz.f99 zN zO:=goT (F:=zO) Tryz.func99 (by kernel_rfl)
abbrev Jj:NC:=.reg
 (.out (qx [0,1,2,3,4] [(10,.const (.bool true))]))
 [0,1,2,3,4]
abbrev Jz:NC:=.reg
 (.out (qx [0,1,2,3,4,10] [(11,.const (.bool true))]))
 [0,1,2,3,4,10]
abbrev Jq:NC:=.reg
 (.Q 2 (.iar .sub) [.qq 2,.qq 1]
 (.out (qx [0,1,2,3,4,10,11] [(12,.qz 2)])))
 [0,1,2,3,4,10,11]
abbrev ZU:NC:=.reg
 (.Q 1 (.icm .leq) [.qq 12,.qj 12]
 (.out (qx [0,1,2,3,4,10,11,12] [(25,.qz 1)])))
 [0,1,2,3,4,10,11,12]
abbrev ZT:NC:=.reg
 (.x 4 (.call 132) [.qq 0,.qq 1,.qq 2,.qq 4] none []
 (.out []))
 [0,1,2,4]
abbrev ZS:NC:=.reg
 (.Q 1 (.icm .eql) [.qq 3,.qj 0]
 (.out (qx [0,1,2,3,4,10,11,12] [(32,.qz 1)])))
 [0,1,2,3,4,10,11,12]
abbrev ZR:NC:=.reg
 (.x 4 (.call 133) [.qq 0,.qq 1,.qq 2,.qq 4] none []
 (.out []))
 [0,1,2,4]
abbrev ZP:NC:=.reg
 (.Q 1 .not [.qq 10]
 (.out (qx [0,1,2,3,4,10,11,12] [(39,.qz 1)])))
 [0,1,2,3,4,10,11,12]
abbrev ZO:NC:=.reg
 (.x 4 (.call 134) [.qq 0,.qq 1,.qq 2,.qq 4] none []
 (.out (qx [0,1,2,3,4,10,11,12] [])))
 [0,1,2,3,4,10,11,12]
abbrev ZN:NC:=.reg
 (.Q 1 (.iar .sub) [.qq 3,.qj 1]
 (.out (qx [0,1,2] [(3,.qz 1),(4,.qq 4),(10,.qq 10),(11,.qq 11),(12,.qq 12)])))
 [0,1,2,3,4,10,11,12]
abbrev QO:NC:=.reg
 (.x 4 (.call 135) [.qq 0,.qq 1,.qq 2,.qq 4] none []
 (.Q 6 (.ext 0) [.qz 4]
 (.Q 7 (.ext 1) [.qz 4]
 (.out (qx [0,1,2,3,4,10,11,12] [(13,.qz 6),(14,.qz 7)])))))
 [0,1,2,3,4,10,11,12]
abbrev QN:NC:=.reg
 (.Q 1 (.icm .eql) [.qq 14,.qj 2]
 (.out (qx [0,1,2,3,4,10,11,12,13,14] [(56,.qz 1)])))
 [0,1,2,3,4,10,11,12,13,14]
abbrev QM:NC:=.reg
 (.x 4 (.call 136) [.qq 0,.qq 1,.qq 2,.qq 4] none []
 (.out (qx [0,1,2,3,4,10,11,12,13] [])))
 [0,1,2,3,4,10,11,12,13]
abbrev QL:NC:=.reg
 (.Q 1 (.iar .sub) [.qq 2,.qj 1]
 (.Q 4 (.iar .sub) [.qq 13,.qq 1]
 (.Q 5 (.iar .sub) [.qz 1,.qz 4]
 (.out (qx [0,1,2,3,4,10,11,12] [(13,.qz 5)])))))
 [0,1,2,3,4,10,11,12,13]
abbrev QI:NC:=.reg
 (.out (qx [0,1,2,3,4,10,11,12,13] [(14,.qj 1)]))
 [0,1,2,3,4,10,11,12,13]
abbrev QH:NC:=.reg
 (.q 2 .mv [.qq 11] (some (.qq 10,true))
 (.Q 3 .pick [.qq 10,.qz 2,.const (.bool false)]
 (.q 5 .mv [.qq 14] (some (.qz 3,true))
 (.q 6 (.icm .eql) [.qz 5,.qj 1] (some (.qz 3,true))
 (.Q 7 .pick [.qz 3,.qz 6,.const (.bool false)]
 (.out (qx [0,1,2,3,4,10,11,12,13] [(75,.qz 7)])))))))
 [0,1,2,3,4,10,11,12,13,14]
abbrev QG:NC:=.reg
 (.x 4 (.call 137) [.qq 0,.qq 1,.qq 2,.qq 4] none []
 (.out (qx [0,1,2,3,4,10,11,12,13] [(80,.qz 4)])))
 [0,1,2,3,4,10,11,12,13]
abbrev QE:NC:=.reg
 (.Q 1 (.icm .gtr) [.qq 1,.qj 0]
 (.q 3 .mv [.qq 4] (some (.qz 1,true))
 (.q 4 .mv [.qq 0] (some (.qz 1,true))
 (.q 5 .mv [.qq 1] (some (.qz 1,true))
 (.q 6 (.iar .sub) [.qz 5,.qj 1] (some (.qz 1,true))
 (.q 7 (.ixs 2) [.qz 4,.qz 6] (some (.qz 1,true))
 (.q 8 (.lda 2) [.qz 7] (some (.qz 1,true))
 (.q 9 .mv [.qq 0] (some (.qz 1,true))
 (.q 10 .mv [.qq 13] (some (.qz 1,true))
 (.q 11 (.ixs 2) [.qz 9,.qz 10] (some (.qz 1,true))
 (.q 12 (.lda 2) [.qz 11] (some (.qz 1,true))
 (.x 13 .callv [.qz 3,.qz 8,.qz 12] (some (.qz 1,true)) []
 (.q 14 (.icm .lss) [.qz 13,.qj 0] (some (.qz 1,true))
 (.q 15 .not [.qz 14] (some (.qz 1,true))
 (.Q 16 .pick [.qz 1,.qz 15,.const (.bool false)]
 (.out (qx [0,1,2,3,4,10,11,12,13] [(97,.qz 16)])))))))))))))))))
 [0,1,2,3,4,10,11,12,13]
abbrev QD:NC:=.reg
 (.x 5 (.call 138) [.qq 0,.qq 1,.qq 2,.qq 13,.qq 4] none []
 (.out (qx [0,2,3,4,10,11] [(15,.qz 5)])))
 [0,1,2,3,4,10,11,13]
abbrev QC:NC:=.reg
 (.out [(0,.qq 0),(1,.qq 15),(2,.qq 2),(3,.qq 3),(4,.qq 4),(10,.qq 10),(11,.qq 11)])
 [0,2,3,4,10,11,15]
abbrev QB:NC:=.reg
 (.x 5 (.call 139) [.qq 0,.qq 1,.qq 2,.qq 13,.qq 4] none []
 (.Q 7 (.ext 0) [.qz 5]
 (.Q 8 (.ext 1) [.qz 5]
 (.out (qx [0,1,2,3,4,12] [(16,.qz 7),(17,.qz 8)])))))
 [0,1,2,3,4,12,13]
abbrev QA:NC:=.reg
 (.out (qx [0,1,2,3,4] [(11,.qq 17),(12,.qq 12),(16,.qq 16)]))
 [0,1,2,3,4,12,16,17]
abbrev Qu:NC:=.reg
 (.Q 2 (.iar .sub) [.qq 16,.qq 1]
 (.Q 5 (.iar .sub) [.qq 2,.qq 16]
 (.out (qx [0,1,2,3,4,11,12,16] [(18,.qz 2),(19,.qz 5)]))))
 [0,1,2,3,4,11,12,16]
abbrev Qt:NC:=.reg
 (.Q 1 (.idv .quo) [.qq 12,.qj 8]
 (.out (qx [0,1,2,3,4,11,16,18,19] [(20,.qz 1)])))
 [0,1,2,3,4,11,12,16,18,19]
abbrev Qs:NC:=.reg
 (.Q 2 (.icm .lss) [.qq 18,.qq 19]
 (.out (qx [0,1,2,3,4,11,16,18,19,20] [(125,.qz 2)])))
 [0,1,2,3,4,11,16,18,19,20]
abbrev Qr:NC:=.reg
 (.Q 2 (.icm .geq) [.qq 18,.qq 20]
 (.out (qx [0,1,2,3,4] [(10,.qz 2),(11,.qq 11),(16,.qq 16)])))
 [0,1,2,3,4,11,16,18,20]
abbrev Qp:NC:=.reg
 (.x 5 (.call 118) [.qq 0,.qq 1,.qq 16,.qq 3,.qq 4] none []
 (.out (qx [0,2,3,4,10,11,16] [])))
 [0,1,2,3,4,10,11,16]
abbrev Qo:NC:=.reg
 (.Q 1 (.iar .add) [.qq 16,.qj 1]
 (.out [(0,.qq 0),(1,.qz 1),(2,.qq 2),(3,.qq 3),(4,.qq 4),(10,.qq 10),(11,.qq 11)]))
 [0,2,3,4,10,11,16]
abbrev Qn:NC:=.reg
 (.Q 2 (.icm .geq) [.qq 19,.qq 20]
 (.out (qx [0,1,2,3,4] [(10,.qz 2),(11,.qq 11),(16,.qq 16)])))
 [0,1,2,3,4,11,16,19,20]
abbrev Qm:NC:=.reg
 (.Q 2 (.iar .add) [.qq 16,.qj 1]
 (.x 6 (.call 118) [.qq 0,.qz 2,.qq 2,.qq 3,.qq 4] none []
 (.out (qx [0,1,3,4,10,11,16] []))))
 [0,1,2,3,4,10,11,16]
abbrev Ql:NC:=.reg
 (.out (qx [0,1] [(2,.qq 16),(3,.qq 3),(4,.qq 4),(10,.qq 10),(11,.qq 11)]))
 [0,1,3,4,10,11,16]
abbrev Jx:NC :=
 (.block 1 (.seq Jq
 (.seq (.seq ZU
 (.cond (.qq 25)
 (.seq ZT
 .ret)
 .skip))
 (.seq (.seq ZS
 (.cond (.qq 32)
 (.seq ZR
 .ret)
 .skip))
 (.seq (.seq ZP
 (.cond (.qq 39)
 (.seq ZO
 ZN)
 .skip))
 (.seq QO
 (.seq (.seq QN
 (.cond (.qq 56)
 (.seq QM
 (.seq QL
 QI))
 .skip))
 (.seq (.seq QH
 (.cond (.qq 75)
 (.seq QG
 (.cond (.qq 80)
 .ret
 .skip))
 .skip))
 (.seq (.seq QE
 (.cond (.qq 97)
 (.seq QD
 (.seq QC
 (.exit 1)))
 .skip))
 (.seq QB
 (.seq QA
 (.seq Qu
 (.seq Qt
 (.seq Qs
 (.cond (.qq 125)
 (.seq Qr
 (.seq Qp
 Qo))
 (.seq Qn
 (.seq Qm
 Ql)))))))))))))))))
abbrev xj:NC :=
 (.seq Jj
 (.seq Jz
 (.block 0 (.loop [0,1,2,3,4,10,11] Jx))))
abbrev xk:FN:=⟨xj,[]⟩
theorem Jk:GoT 118 Tryz.f118 xj xk:=goT (F:=xk) Tryz.func118 (by kernel_rfl)
abbrev tL:NC:=.reg
 (.out [(0,.qq 0)])
 [0]
abbrev tI:NC:=.reg
 (.Q 1 (.conv .u32) [.qq 0]
 (.x 2 (.call 140) [.qz 1] none []
 (.out [(2,.qz 2)])))
 [0]
abbrev tH:NC:=.reg
 (.x 1 (.call 141) [.qq 0] none []
 (.out [(2,.qz 1)]))
 [0]
abbrev cF:NC :=
 (.seq tL
 (.seq (.cond (.const (.bool false))
 (.seq tI
 .ret)
 .skip)
 (.seq tH
 .ret)))
abbrev cG:FN:=⟨cF,[.qq 2]⟩
theorem tM:GoT 119 Tryz.f119 cF cG:=goT (F:=cG) Tryz.func119 (by kernel_rfl)
abbrev vB:NC:=.reg
 (.out (qx [0,1] []))
 [0,1]
abbrev vA:NC:=.reg
 (.Q 1 .len [.qq 0]
 (.out (qx [0,1] [(7,.qz 1),(8,.qj 0)])))
 [0,1]
abbrev vu:NC:=.reg
 (.Q 0 (.icm .lss) [.qq 8,.qq 7]
 (.out (qx [0,1,7,8] [(9,.qz 0)])))
 [0,1,7,8]
abbrev vt:NC:=.reg
 (.out (qx [0,1] [(5,.qq 8),(7,.qq 7),(8,.qq 8)]))
 [0,1,7,8]
abbrev vr:NC:=.reg
 (.Q 3 (.ixs 1) [.qq 0,.qq 5]
 (.Q 4 .ld [.qz 3]
 (.x 5 .callv [.qq 1,.qz 4] none []
 (.out (qx [0,1,5,7,8] [(16,.qz 5)])))))
 [0,1,5,7,8]
abbrev vp:NC:=.reg
 (.out [(4,.qq 5)])
 [5]
abbrev vn:NC:=.reg
 (.Q 0 (.iar .add) [.qq 8,.qj 1]
 (.out (qx [0,1,7] [(8,.qz 0)])))
 [0,1,7,8]
abbrev vC:NC :=
 (.seq vu
 (.seq (.cond (.qq 9)
 .skip
 (.exit 0))
 (.seq (.block 1 (.seq vt
 (.seq vr
 (.cond (.qq 16)
 (.seq vp
 .ret)
 .skip))))
 vn)))
abbrev vm:NC:=.reg
 (.out [(4,(.const (.int .i64 (-1))))])
 []
abbrev jy:NC :=
 (.seq vB
 (.seq (.seq vA
 (.block 0 (.loop [0,1,7,8] vC)))
 (.seq vm
 .ret)))
abbrev jQ:FN:=⟨jy,[.qq 4]⟩
theorem vD:GoT 129 Tryz.f129 jy jQ:=goT (F:=jQ) Tryz.func129 (by kernel_rfl)
abbrev vZ:NC:=.reg
 (.Q 1 (.iar .add) [.qq 1,.qj 1]
 (.out (qx [0,1,2,3] [(8,.qz 1)])))
 [0,1,2,3]
abbrev vQ:NC:=.reg
 (.Q 2 (.icm .lss) [.qq 8,.qq 2]
 (.out (qx [0,1,2,3,8] [(14,.qz 2)])))
 [0,1,2,3,8]
abbrev vy:NC:=.reg
 (.out (qx [0,1,2,3,8] [(9,.qq 8)]))
 [0,1,2,3,8]
abbrev vw:NC:=.reg
 (.Q 2 (.icm .gtr) [.qq 9,.qq 1]
 (.q 4 .mv [.qq 3] (some (.qz 2,true))
 (.q 5 .mv [.qq 0] (some (.qz 2,true))
 (.q 6 .mv [.qq 9] (some (.qz 2,true))
 (.q 7 (.ixs 2) [.qz 5,.qz 6] (some (.qz 2,true))
 (.q 8 (.lda 2) [.qz 7] (some (.qz 2,true))
 (.q 9 .mv [.qq 0] (some (.qz 2,true))
 (.q 10 .mv [.qq 9] (some (.qz 2,true))
 (.q 11 (.iar .sub) [.qz 10,.qj 1] (some (.qz 2,true))
 (.q 12 (.ixs 2) [.qz 9,.qz 11] (some (.qz 2,true))
 (.q 13 (.lda 2) [.qz 12] (some (.qz 2,true))
 (.x 14 .callv [.qz 4,.qz 8,.qz 13] (some (.qz 2,true)) []
 (.q 15 (.icm .lss) [.qz 14,.qj 0] (some (.qz 2,true))
 (.Q 16 .pick [.qz 2,.qz 15,.const (.bool false)]
 (.out (qx [0,1,2,3,8,9] [(34,.qz 16)]))))))))))))))))
 [0,1,2,3,8,9]
abbrev vv:NC:=.reg
 (.Q 4 (.iar .sub) [.qq 9,.qj 1]
 (.Q 7 (.iar .sub) [.qq 9,.qj 1]
 (.Q 8 (.ixs 2) [.qq 0,.qz 7]
 (.Q 9 (.lda 2) [.qz 8]
 (.Q 12 (.ixs 2) [.qq 0,.qq 9]
 (.Q 13 (.lda 2) [.qz 12]
 (.Q 14 (.ixs 2) [.qq 0,.qq 9]
 (.x 15 (.st 2) [.qz 14,.qz 9] none []
 (.Q 16 (.ixs 2) [.qq 0,.qz 4]
 (.x 17 (.st 2) [.qz 16,.qz 13] none []
 (.out (qx [0,1,2,3,8,9] []))))))))))))
 [0,1,2,3,8,9]
abbrev vk:NC:=.reg
 (.Q 1 (.iar .sub) [.qq 9,.qj 1]
 (.out (qx [0,1,2,3,8] [(9,.qz 1)])))
 [0,1,2,3,8,9]
abbrev vX:NC :=
 (.seq (.seq vw
 (.cond (.qq 34)
 .skip
 (.exit 2)))
 (.seq (.block 3 vv)
 vk))
abbrev vx:NC:=.reg
 (.Q 1 (.iar .add) [.qq 8,.qj 1]
 (.out (qx [0,1,2,3] [(8,.qz 1)])))
 [0,1,2,3,8]
abbrev vJ:NC :=
 (.seq (.seq vQ
 (.cond (.qq 14)
 .skip
 (.exit 0)))
 (.seq (.block 1 (.seq vy
 (.block 2 (.loop [0,1,2,3,8,9] vX))))
 vx))
abbrev jz:NC :=
 (.seq vZ
 (.block 0 (.loop [0,1,2,3,8] vJ)))
abbrev jj:FN:=⟨jz,[]⟩
theorem vK:GoT 132 Tryz.f132 jz jj:=goT (F:=jj) Tryz.func132 (by kernel_rfl)
abbrev nE:NC:=.reg
 (.out [(0,.qq 0),(2,.qj 0)])
 [0]
abbrev nD:NC:=.reg
 (.Q 1 (.icm .geq) [.qq 0,.const (.int .u64 4294967296)]
 (.out (qx [0,2] [(4,.qz 1)])))
 [0,2]
abbrev nC:NC:=.reg
 (.Q 1 (.ish .shr) [.qq 0,.const (.int .u64 32)]
 (.out [(0,.qz 1)]))
 [0]
abbrev nB:NC:=.reg
 (.out [(0,.qq 0),(2,.qj 32)])
 [0]
abbrev nA:NC:=.reg
 (.Q 1 (.icm .geq) [.qq 0,.const (.int .u64 65536)]
 (.out (qx [0,2] [(8,.qz 1)])))
 [0,2]
abbrev nu:NC:=.reg
 (.Q 1 (.ish .shr) [.qq 0,.const (.int .u64 16)]
 (.out [(0,.qz 1),(2,.qq 2)]))
 [0,2]
abbrev nt:NC:=.reg
 (.Q 1 (.iar .add) [.qq 2,.qj 16]
 (.out [(0,.qq 0),(2,.qz 1)]))
 [0,2]
abbrev nr:NC:=.reg
 (.Q 1 (.icm .geq) [.qq 0,.const (.int .u64 256)]
 (.out (qx [0,2] [(14,.qz 1)])))
 [0,2]
abbrev np:NC:=.reg
 (.Q 1 (.ish .shr) [.qq 0,.const (.int .u64 8)]
 (.out [(0,.qz 1),(2,.qq 2)]))
 [0,2]
abbrev nm:NC:=.reg
 (.Q 1 (.iar .add) [.qq 2,.qj 8]
 (.out [(0,.qq 0),(2,.qz 1)]))
 [0,2]
abbrev iu:NC:=.reg
 (.Q 2 (.conv .u8) [.qq 0]
 (.Q 3 .idxs [.const (.string ⟨#[0,1,2,2,3,3,3,3,4,4,4,4,4,4,4,4,5,5,5,5,5,5,5,5,5,5,5,5,5,5,5,5,6,6,6,6,6,6,6,6,6,6,6,6,6,6,6,6,6,6,6,6,6,6,6,6,6,6,6,6,6,6,6,6,7,7,7,7,7,7,7,7,7,7,7,7,7,7,7,7,7,7,7,7,7,7,7,7,7,7,7,7,7,7,7,7,7,7,7,7,7,7,7,7,7,7,7,7,7,7,7,7,7,7,7,7,7,7,7,7,7,7,7,7,7,7,7,7,8,8,8,8,8,8,8,8,8,8,8,8,8,8,8,8,8,8,8,8,8,8,8,8,8,8,8,8,8,8,8,8,8,8,8,8,8,8,8,8,8,8,8,8,8,8,8,8,8,8,8,8,8,8,8,8,8,8,8,8,8,8,8,8,8,8,8,8,8,8,8,8,8,8,8,8,8,8,8,8,8,8,8,8,8,8,8,8,8,8,8,8,8,8,8,8,8,8,8,8,8,8,8,8,8,8,8,8,8,8,8,8,8,8,8,8,8,8,8,8,8,8,8,8,8,8,8,8]⟩),.qz 2]
 (.Q 4 (.conv .i64) [.qz 3]
 (.Q 5 (.iar .add) [.qq 2,.qz 4]
 (.out [(2,.qz 5)])))))
 [0,2]
abbrev Ya:NC :=
 (.seq nE
 (.seq (.seq nD
 (.cond (.qq 4)
 (.seq nC
 nB)
 .skip))
 (.seq (.seq nA
 (.cond (.qq 8)
 (.seq nu
 nt)
 .skip))
 (.seq (.seq nr
 (.cond (.qq 14)
 (.seq np
 nm)
 .skip))
 (.seq iu
 .ret)))))
abbrev Yb:FN:=⟨Ya,[.qq 2]⟩
theorem nF:GoT 141 Tryz.f141 Ya Yb:=goT (F:=Yb) Tryz.func141 (by kernel_rfl)
end Go.Fw
