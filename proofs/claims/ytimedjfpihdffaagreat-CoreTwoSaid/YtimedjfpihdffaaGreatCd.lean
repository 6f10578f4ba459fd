import Derived.Test.YtimedjfpihdffaaGreatFxA
import Derived.Test.YtimedjfpihdffaaGreatProg
set_option linter.unusedVariables false
set_option linter.unusedSimpArgs false
set_option maxHeartbeats 16000000
namespace Go.Fw
open Go.Proofs
abbrev jf:Nat:=5
abbrev qW:Nat:=25
abbrev qY:Nat:=27
abbrev qA:Nat:=30
abbrev cS:Nat:=35
abbrev qka:Nat:=36
abbrev cR:Nat:=37
abbrev qb:Nat:=39
abbrev qc:Nat:=41
abbrev qv:Nat:=45
abbrev qi:Nat:=47
abbrev qn:Nat:=57
abbrev Mw:Nat:=66
abbrev qH:Nat:=83
abbrev qd:Nat:=88
abbrev qN:Nat:=92
abbrev qQ:Nat:=94
abbrev VV:Nat:=98
abbrev qD:Nat:=102
abbrev qB:Nat:=113
abbrev tD:Nat:=127
abbrev wW:Nat:=130
abbrev rF:Nat:=3
abbrev ui:Nat:=7
abbrev Fa:Nat:=9
abbrev hZ:Nat:=10
abbrev NK:Nat:=11
abbrev nU:Nat:=12
abbrev Xi:Nat:=13
abbrev gU:Nat:=14
abbrev oy:Nat:=15
abbrev Fb:Nat:=16
abbrev Fc:Nat:=17
abbrev Na:Nat:=18
abbrev gO:Nat:=19
abbrev rP:Nat:=20
abbrev mZ:Nat:=22
abbrev gR:Nat:=23
abbrev Ra:Nat:=24
abbrev us:Nat:=25
abbrev rO:Nat:=26
abbrev Io:Nat:=27
abbrev FY:Nat:=28
abbrev gS:Nat:=29
abbrev Im:Nat:=30
abbrev cU:Nat:=31
abbrev Yg:Nat:=32
abbrev CA:Nat:=33
abbrev rI:Nat:=34
abbrev rM:Nat:=35
abbrev mX:Nat:=36
abbrev Il:Nat:=37
abbrev NV:Nat:=38
abbrev mJ:Nat:=39
abbrev Ip:Nat:=40
abbrev Rb:Nat:=41
abbrev CE:Nat:=42
abbrev uo:Nat:=43
abbrev Cu:Nat:=44
abbrev oz:Nat:=45
abbrev rG:Nat:=46
abbrev gT:Nat:=47
abbrev eH:Nat:=48
abbrev Nb:Nat:=49
abbrev FV:Nat:=50
abbrev GM:Nat:=51
abbrev oq:Nat:=52
abbrev Kj:Nat:=53
abbrev lj:Nat:=55
abbrev rL:Nat:=56
abbrev QS:Nat:=57
abbrev Ye:Nat:=58
abbrev ur:Nat:=59
abbrev ul:Nat:=60
abbrev eF:Nat:=61
abbrev rN:Nat:=62
abbrev QR:Nat:=63
abbrev jz:Nat:=64
abbrev yB:Nat:=65
abbrev Ii:Nat:=66
abbrev Ih:Nat:=67
abbrev rH:Nat:=68
abbrev CD:Nat:=69
abbrev CC:Nat:=70
abbrev lx:Nat:=71
abbrev mQ:Nat:=72
abbrev aT:Nat:=73
abbrev Yf:Nat:=74
abbrev um:Nat:=75
abbrev FX:Nat:=76
abbrev Wa:Nat:=77
abbrev eG:Nat:=78
abbrev Rc:Nat:=79
abbrev Ir:Nat:=80
abbrev Ic:Nat:=81
abbrev Ct:Nat:=82
abbrev qqW:Nat:=87
abbrev Vd:Nat:=88
abbrev If:Nat:=89
abbrev Wb:Nat:=90
abbrev jl:Nat:=91
abbrev nT:Nat:=92
abbrev NW:Nat:=93
abbrev jm:Nat:=94
abbrev vL:Nat:=95
abbrev rE:Nat:=96
abbrev RW:Nat:=97
abbrev jn:Nat:=98
abbrev vC:Nat:=99
abbrev Kk:Nat:=100
abbrev NY:Nat:=101
abbrev nR:Nat:=102
abbrev FK:Nat:=103
abbrev ow:Nat:=104
abbrev qqV:Nat:=105
abbrev Ie:Nat:=106
abbrev Ib:Nat:=107
abbrev Ig:Nat:=108
abbrev FW:Nat:=117
abbrev Jj:Nat:=118
abbrev ug:Nat:=119
abbrev uh:Nat:=122
abbrev qqY:Nat:=123
abbrev NX:Nat:=124
abbrev RY:Nat:=125
abbrev RK:Nat:=126
abbrev vM:Nat:=129
abbrev FJ:Nat:=130
abbrev vI:Nat:=132
abbrev nS:Nat:=141
abbrev NJ:Nat:=143
abbrev RX:Nat:=144
theorem qjO:Tryz.prog.follows .mixedOrders=true:=by kernel_rfl
abbrev GoT(i:Nat)(f:Func)(c:NC)(F:FN):Prop:=∀ {args:List Value} {m:Mem} {R:Value→Mem→Prop},args.length≤f.ntmps→wpN Tryz.prog c (vB F.rvs R) (lC 0 args) m→MC Tryz.prog i args m R
theorem goT{i:Nat}{f:Func}{F:FN}(hf:Tryz.prog.funcs[i]?=some f)(hc:TO Tryz.prog f=some F):GoT i f F.code F:=λhn h=>qke hf hc qjO hn h
def qx:List Nat→List (Nat×X)→List (Nat×X)
 | [],r=>r
 | k::l,r=>(k,.qq k)::qx l r
theorem qyX(r:List (Nat×X)):qx [] r=r:=rfl
theorem qxD(k:Nat)(l:List Nat)(r:List (Nat×X)):qx (k::l) r=(k,.qq k)::qx l r:=rfl
attribute [go_sem] qyX qxD
abbrev ET.Q(i:Nat)(o:RO)(a:List X)(k:ET):ET:=.q i o a none k
abbrev X.qj(n:Int):X:=.const (.int .i64 n)
abbrev zL0:List Value:=[.int .i64 0,.int .i64 0,.int .i64 0,.int .i64 0,.int .i64 0,.int .i64 0,.int .i64 0,.int .i64 0]
abbrev zL1:List Value:=[.bool false,.bool false,.bool false,.bool false,.bool false,.bool false,.bool false]
abbrev zL2:List Value:=[.int .i64 0,.int .i64 0,.int .i64 0,.int .i64 0,.int .i64 0,.int .i64 0,.int .i64 0]
abbrev zL3:List Value:=[.int .i64 0,.int .i64 0,.int .i64 0,.int .i64 0,.int .i64 0]
abbrev zL4:List Value:=[.int .i64 0,.int .i64 0,.int .i64 0,.int .i64 0,.int .i64 0,.int .i64 0,.int .i64 0,.int .i64 0,.int .i64 0,.int .i64 0,.int .i64 0,.int .i64 0,.int .i64 0,.int .i64 0,.int .i64 0,.int .i64 0]
end Go.Fw
namespace Go.Fw
open Go.Proofs
abbrev LF:NC:=.reg
 (.x 0 (.box 30) [.qq 0] none []
 (.out [(1,.qz 0)]))
 [0]
abbrev LD:NC:=.reg
 (.Q 0 (.lda 7) [.qq 1]
 (.Q 1 (.bld [.int .i64 0,.int .i64 0,.int .i64 0,(.string ⟨#[]⟩),(.string ⟨#[]⟩),(.string ⟨#[]⟩),(.string ⟨#[]⟩)] []) []
 (.Q 2 (.eqc false [.i .i64,.i .i64,.i .i64,.s,.s,.s,.s]) [.qz 0,.qz 1]
 (.out [(1,.qq 1),(6,.qz 2)]))))
 [1]
abbrev LC:NC:=.reg
 (.out [(2,.const (.bool true))])
 []
abbrev LB:NC:=.reg
 (.Q 0 (.fld 0) [.qq 1]
 (.Q 1 .ld [.qz 0]
 (.x 2 (.call 40) [.qz 1,.qj 5] none []
 (.Q 3 .not [.qz 2]
 (.q 5 (.fld 1) [.qq 1] (some (.qz 3,false))
 (.q 6 .ld [.qz 5] (some (.qz 3,false))
 (.x 7 (.call 40) [.qz 6,.qj 8] (some (.qz 3,false)) []
 (.q 8 .not [.qz 7] (some (.qz 3,false))
 (.Q 9 .pick [.qz 3,.const (.bool true),.qz 8]
 (.q 11 (.fld 2) [.qq 1] (some (.qz 9,false))
 (.q 12 .ld [.qz 11] (some (.qz 9,false))
 (.x 13 (.call 40) [.qz 12,.qj 1099511627776] (some (.qz 9,false)) []
 (.q 14 .not [.qz 13] (some (.qz 9,false))
 (.Q 15 .pick [.qz 9,.const (.bool true),.qz 14]
 (.q 17 (.lda 7) [.qq 1] (some (.qz 15,false))
 (.q 18 (.lda 7) [.qq 1] (some (.qz 15,false))
 (.x 19 (.call 41) [.qz 18] (some (.qz 15,false)) [(17,.lda 7,[.qq 1],(some (.qz 15,false)))]
 (.q 20 (.eqc true [.i .i64,.i .i64,.i .i64,.s,.s,.s,.s]) [.qz 17,.qz 19] (some (.qz 15,false))
 (.Q 21 .pick [.qz 15,.const (.bool true),.qz 20]
 (.out [(1,.qq 1),(28,.qz 21)]))))))))))))))))))))
 [1]
abbrev LA:NC:=.reg
 (.out [(2,.const (.bool false))])
 []
abbrev Lu:NC:=.reg
 (.Q 0 (.fld 3) [.qq 1]
 (.Q 1 .ld [.qz 0]
 (.Q 2 .lenz [.qz 1]
 (.Q 3 (.icm .gtr) [.qz 2,.qj 16]
 (.q 5 (.fld 4) [.qq 1] (some (.qz 3,false))
 (.q 6 .ld [.qz 5] (some (.qz 3,false))
 (.q 7 .lenz [.qz 6] (some (.qz 3,false))
 (.q 8 (.icm .gtr) [.qz 7,.qj 16] (some (.qz 3,false))
 (.Q 9 .pick [.qz 3,.const (.bool true),.qz 8]
 (.q 11 (.fld 5) [.qq 1] (some (.qz 9,false))
 (.q 12 .ld [.qz 11] (some (.qz 9,false))
 (.q 13 .lenz [.qz 12] (some (.qz 9,false))
 (.q 14 (.icm .gtr) [.qz 13,.qj 64] (some (.qz 9,false))
 (.Q 15 .pick [.qz 9,.const (.bool true),.qz 14]
 (.q 17 (.fld 6) [.qq 1] (some (.qz 15,false))
 (.q 18 .ld [.qz 17] (some (.qz 15,false))
 (.q 19 .lenz [.qz 18] (some (.qz 15,false))
 (.q 20 (.icm .gtr) [.qz 19,.qj 64] (some (.qz 15,false))
 (.Q 21 .pick [.qz 15,.const (.bool true),.qz 20]
 (.out [(1,.qq 1),(3,.qz 21)]))))))))))))))))))))
 [1]
abbrev Ls:NC:=.reg
 (.Q 1 .not [.qq 3]
 (.q 3 (.fld 3) [.qq 1] (some (.qz 1,true))
 (.q 4 .ld [.qz 3] (some (.qz 1,true))
 (.q 5 (.str .neq) [.qz 4,.const (.string ⟨#[]⟩)] (some (.qz 1,true))
 (.q 6 .mv [.qz 5] (some (.qz 1,true))
 (.q 7 (.fld 0) [.qq 1] (some (.qz 6,false))
 (.q 8 .ld [.qz 7] (some (.qz 6,false))
 (.q 9 (.icm .eql) [.qz 8,.qj 5] (some (.qz 6,false))
 (.q 10 .pick [.qz 6,.const (.bool true),.qz 9] (some (.qz 1,true))
 (.Q 11 .pick [.qz 1,.qz 10,.const (.bool false)]
 (.out [(2,.qz 11)])))))))))))
 [1,3]
abbrev uV:NC :=
 (.seq LF
 (.seq (.seq LD
 (.cond (.qq 6)
 (.seq LC
 .ret)
 .skip))
 (.seq (.seq LB
 (.cond (.qq 28)
 (.seq LA
 .ret)
 .skip))
 (.seq Lu
 (.seq Ls
 .ret)))))
abbrev uW:FN:=⟨uV,[.qq 2]⟩
theorem LG:GoT 18 Tryz.f18 uV uW:=goT (F:=uW) Tryz.func18 (by kernel_rfl)
abbrev Gw:NC:=.reg
 (.x 0 (.box 37) [.qq 0] none []
 (.x 1 (.box 25) [.qq 1] none []
 (.out [(2,.qz 0),(3,.qz 1)])))
 [0,1]
abbrev Gk:NC:=.reg
 (.Q 0 (.lda 2) [.qq 3]
 (.x 1 (.call 66) [.qz 0] none []
 (.q 3 (.fld 0) [.qq 3] (some (.qz 1,true))
 (.q 4 .ld [.qz 3] (some (.qz 1,true))
 (.q 5 (.ixa 7 1) [.qq 2,.qz 4] (some (.qz 1,true))
 (.q 6 .ld [.qz 5] (some (.qz 1,true))
 (.q 7 (.fld 1) [.qq 3] (some (.qz 1,true))
 (.q 8 .ld [.qz 7] (some (.qz 1,true))
 (.q 9 (.icm .geq) [.qz 6,.qz 8] (some (.qz 1,true))
 (.Q 10 .pick [.qz 1,.qz 9,.const (.bool false)]
 (.out [(4,.qz 10)])))))))))))
 [2,3]
abbrev oT:NC :=
 (.seq Gw
 (.seq Gk
 .ret))
abbrev oU:FN:=⟨oT,[.qq 4]⟩
theorem Gy:GoT 27 Tryz.f27 oT oU:=goT (F:=oU) Tryz.func27 (by kernel_rfl)
abbrev Gz:NC:=.reg
 (.x 0 (.box 39) [.qq 0] none []
 (.out [(1,.qz 0)]))
 [0]
abbrev Gq:NC:=.reg
 (.Q 0 (.fld 1) [.qq 1]
 (.Q 1 (.lda 7) [.qz 0]
 (.out [(1,.qq 1),(6,.qz 1),(7,.qj 0)])))
 [1]
abbrev FU:NC:=.reg
 (.Q 0 (.icm .lss) [.qq 7,.qj 7]
 (.out (qx [1,6,7] [(8,.qz 0)])))
 [1,6,7]
abbrev FT:NC:=.reg
 (.Q 0 (.idx 7 1) [.qq 6,.qq 7]
 (.out [(1,.qq 1),(4,.qz 0),(6,.qq 6),(7,.qq 7)]))
 [1,6,7]
abbrev FR:NC:=.reg
 (.Q 1 (.icm .lss) [.qq 4,.qj 0]
 (.q 3 .mv [.qq 4] (some (.qz 1,false))
 (.q 4 (.icm .gtr) [.qz 3,.qj 1073741824] (some (.qz 1,false))
 (.Q 5 .pick [.qz 1,.const (.bool true),.qz 4]
 (.out (qx [1,6,7] [(15,.qz 5)]))))))
 [1,4,6,7]
abbrev FP:NC:=.reg
 (.out [(2,.const (.bool false))])
 []
abbrev FO:NC:=.reg
 (.Q 0 (.iar .add) [.qq 7,.qj 1]
 (.out (qx [1,6] [(7,.qz 0)])))
 [1,6,7]
abbrev Gj:NC :=
 (.seq FU
 (.seq (.cond (.qq 8)
 .skip
 (.exit 0))
 (.seq (.block 1 (.seq FT
 (.seq FR
 (.cond (.qq 15)
 (.seq FP
 .ret)
 .skip))))
 FO)))
abbrev FM:NC:=.reg
 (.Q 0 (.fld 0) [.qq 1]
 (.Q 1 .ld [.qz 0]
 (.Q 2 (.icm .geq) [.qz 1,.qj 0]
 (.q 4 (.fld 0) [.qq 1] (some (.qz 2,true))
 (.q 5 .ld [.qz 4] (some (.qz 2,true))
 (.q 6 (.icm .leq) [.qz 5,.qj 1099511627776] (some (.qz 2,true))
 (.Q 7 .pick [.qz 2,.qz 6,.const (.bool false)]
 (.out [(2,.qz 7)]))))))))
 [1]
abbrev oR:NC :=
 (.seq Gz
 (.seq (.seq Gq
 (.block 0 (.loop [1,6,7] Gj)))
 (.seq FM
 .ret)))
abbrev oS:FN:=⟨oR,[.qq 2]⟩
theorem Gx:GoT 30 Tryz.f30 oR oS:=goT (F:=oS) Tryz.func30 (by kernel_rfl)
abbrev FH:NC:=.reg
 (.x 0 (.box 35) [.qq 0] none []
 (.x 1 (.box 35) [.qq 1] none []
 (.out [(2,.qz 0),(3,.qz 1)])))
 [0,1]
abbrev FG:NC:=.reg
 (.Q 0 (.fld 0) [.qq 2]
 (.Q 1 .ld [.qz 0]
 (.Q 2 (.fld 0) [.qq 3]
 (.Q 3 .ld [.qz 2]
 (.Q 4 (.icm .lss) [.qz 1,.qz 3]
 (.q 6 (.fld 0) [.qq 2] (some (.qz 4,false))
 (.q 7 .ld [.qz 6] (some (.qz 4,false))
 (.q 8 (.fld 0) [.qq 3] (some (.qz 4,false))
 (.q 9 .ld [.qz 8] (some (.qz 4,false))
 (.q 10 (.icm .eql) [.qz 7,.qz 9] (some (.qz 4,false))
 (.q 11 .mv [.qz 10] (some (.qz 4,false))
 (.q 12 (.fld 1) [.qq 2] (some (.qz 11,true))
 (.q 13 .ld [.qz 12] (some (.qz 11,true))
 (.q 14 (.fld 1) [.qq 3] (some (.qz 11,true))
 (.q 15 .ld [.qz 14] (some (.qz 11,true))
 (.q 16 (.icm .lss) [.qz 13,.qz 15] (some (.qz 11,true))
 (.q 17 .pick [.qz 11,.qz 16,.const (.bool false)] (some (.qz 4,false))
 (.Q 18 .pick [.qz 4,.const (.bool true),.qz 17]
 (.out [(4,.qz 18)])))))))))))))))))))
 [2,3]
abbrev oE:NC :=
 (.seq FH
 (.seq FG
 .ret))
abbrev oF:FN:=⟨oE,[.qq 4]⟩
theorem FI:GoT 37 Tryz.f37 oE oF:=goT (F:=oF) Tryz.func37 (by kernel_rfl)
abbrev IL:NC:=.reg
 (.x 0 (.box 35) [.qq 0] none []
 (.x 1 (.alc [.int .i64 0,.int .i64 0] 35) [] none []
 (.out [(1,.qq 1),(2,.qz 0),(4,.qz 1)])))
 [0,1]
abbrev II:NC:=.reg
 (.Q 0 (.fld 0) [.qq 2]
 (.Q 1 .ld [.qz 0]
 (.Q 2 (.iar .add) [.qz 1,.qj 1]
 (.Q 4 (.bld [.int .i64 0,.int .i64 0] [(0,1),(1,1)]) [.qz 2,.qq 1]
 (.x 5 (.st 2) [.qq 4,.qz 4] none []
 (.out [(4,.qq 4)]))))))
 [1,2,4]
abbrev tU:NC :=
 (.seq IL
 (.seq II
 .ret))
abbrev uq:FN:=⟨tU,[.cells 4 2]⟩
theorem IM:GoT 38 Tryz.f38 tU uq:=goT (F:=uq) Tryz.func38 (by kernel_rfl)
abbrev iJ:NC:=.reg
 (.x 0 (.box 35) [.qq 0] none []
 (.out [(1,.qz 0)]))
 [0]
abbrev iZ:NC:=.reg
 (.Q 0 (.fld 0) [.qq 1]
 (.Q 1 .ld [.qz 0]
 (.Q 2 (.icm .geq) [.qz 1,.qj 0]
 (.q 4 (.fld 0) [.qq 1] (some (.qz 2,true))
 (.q 5 .ld [.qz 4] (some (.qz 2,true))
 (.q 6 (.icm .leq) [.qz 5,.qj 1073741824] (some (.qz 2,true))
 (.Q 7 .pick [.qz 2,.qz 6,.const (.bool false)]
 (.q 9 (.fld 1) [.qq 1] (some (.qz 7,true))
 (.q 10 .ld [.qz 9] (some (.qz 7,true))
 (.q 11 (.icm .geq) [.qz 10,.qj 0] (some (.qz 7,true))
 (.Q 12 .pick [.qz 7,.qz 11,.const (.bool false)]
 (.q 14 (.fld 1) [.qq 1] (some (.qz 12,true))
 (.q 15 .ld [.qz 14] (some (.qz 12,true))
 (.q 16 (.icm .lss) [.qz 15,.qj 7] (some (.qz 12,true))
 (.Q 17 .pick [.qz 12,.qz 16,.const (.bool false)]
 (.out [(2,.qz 17)]))))))))))))))))
 [1]
abbrev Wl:NC :=
 (.seq iJ
 (.seq iZ
 .ret))
abbrev Wm:FN:=⟨Wl,[.qq 2]⟩
theorem iX:GoT 39 Tryz.f39 Wl Wm:=goT (F:=Wm) Tryz.func39 (by kernel_rfl)
abbrev GY:NC:=.reg
 (.out (qx [0,1] []))
 [0,1]
abbrev GW:NC:=.reg
 (.Q 1 (.icm .geq) [.qq 0,.qj 1]
 (.q 3 .mv [.qq 0] (some (.qz 1,true))
 (.q 4 .mv [.qq 1] (some (.qz 1,true))
 (.q 5 (.icm .leq) [.qz 3,.qz 4] (some (.qz 1,true))
 (.Q 6 .pick [.qz 1,.qz 5,.const (.bool false)]
 (.out [(4,.qz 6)]))))))
 [0,1]
abbrev rk:NC :=
 (.seq GY
 (.seq GW
 .ret))
abbrev ry:FN:=⟨rk,[.qq 4]⟩
theorem Ga:GoT 40 Tryz.f40 rk ry:=goT (F:=ry) Tryz.func40 (by kernel_rfl)
abbrev OL:NC:=.reg
 (.x 0 (.box 30) [.qq 0] none []
 (.x 1 (.alc [.int .i64 0,.int .i64 0,.int .i64 0,(.string ⟨#[]⟩),(.string ⟨#[]⟩),(.string ⟨#[]⟩),(.string ⟨#[]⟩)] 30) [] none []
 (.out [(1,.qz 0),(2,.qz 1)])))
 [0]
abbrev OI:NC:=.reg
 (.Q 0 (.fld 0) [.qq 1]
 (.Q 1 .ld [.qz 0]
 (.Q 2 (.fld 1) [.qq 1]
 (.Q 3 .ld [.qz 2]
 (.Q 4 (.fld 2) [.qq 1]
 (.Q 5 .ld [.qz 4]
 (.Q 6 (.fld 3) [.qq 1]
 (.Q 7 .ld [.qz 6]
 (.Q 8 (.bld [.int .i64 0,.int .i64 0,.int .i64 0,(.string ⟨#[]⟩),(.string ⟨#[]⟩),(.string ⟨#[]⟩),(.string ⟨#[]⟩)] [(0,1),(1,1),(2,1),(3,1)]) [.qz 1,.qz 3,.qz 5,.qz 7]
 (.x 9 (.alc [.int .i64 0,.int .i64 0,.int .i64 0,(.string ⟨#[]⟩),(.string ⟨#[]⟩),(.string ⟨#[]⟩),(.string ⟨#[]⟩)] 30) [] none []
 (.x 10 (.st 7) [.qz 9,.qz 8] none []
 (.out (qx [1,2] [(3,.qz 9)])))))))))))))
 [1,2]
abbrev OH:NC:=.reg
 (.Q 0 (.fld 0) [.qq 1]
 (.Q 1 .ld [.qz 0]
 (.out (qx [1,2,3] [(14,.qz 1)]))))
 [1,2,3]
abbrev OG:NC:=.reg
 (.Q 0 (.icm .eql) [.qq 14,.qj 2]
 (.out (qx [1,2,3,14] [(15,.qz 0)])))
 [1,2,3,14]
abbrev OF:NC:=.reg
 (.Q 0 (.fld 6) [.qq 1]
 (.Q 1 .ld [.qz 0]
 (.Q 2 (.fld 6) [.qq 3]
 (.x 3 (.st 1) [.qz 2,.qz 1] none []
 (.out (qx [2,3] []))))))
 [1,2,3]
abbrev OE:NC:=.reg
 (.Q 0 (.icm .eql) [.qq 14,.qj 4]
 (.out (qx [1,2,3,14] [(20,.qz 0)])))
 [1,2,3,14]
abbrev OD:NC:=.reg
 (.Q 0 (.fld 5) [.qq 1]
 (.Q 1 .ld [.qz 0]
 (.Q 2 (.fld 6) [.qq 1]
 (.Q 3 .ld [.qz 2]
 (.Q 4 (.fld 5) [.qq 3]
 (.x 5 (.st 1) [.qz 4,.qz 1] none [(3,.ld,[.qz 2],none)]
 (.Q 6 (.fld 6) [.qq 3]
 (.x 7 (.st 1) [.qz 6,.qz 3] none []
 (.out (qx [2,3] []))))))))))
 [1,2,3]
abbrev OC:NC:=.reg
 (.Q 0 (.icm .eql) [.qq 14,.qj 5]
 (.out (qx [1,2,3] [(28,.qz 0)])))
 [1,2,3,14]
abbrev OB:NC:=.reg
 (.Q 0 (.fld 4) [.qq 1]
 (.Q 1 .ld [.qz 0]
 (.Q 2 (.fld 4) [.qq 3]
 (.x 3 (.st 1) [.qz 2,.qz 1] none []
 (.out (qx [2,3] []))))))
 [1,2,3]
abbrev OA:NC:=.reg
 (.Q 0 (.lda 7) [.qq 3]
 (.x 1 (.st 7) [.qq 2,.qz 0] none []
 (.out [(2,.qq 2)])))
 [2,3]
abbrev Ec:NC :=
 (.seq OL
 (.seq OI
 (.seq (.seq OH
 (.block 0 (.seq OG
 (.cond (.qq 15)
 OF
 (.seq OE
 (.cond (.qq 20)
 OD
 (.seq OC
 (.cond (.qq 28)
 OB
 .skip))))))))
 (.seq OA
 .ret))))
abbrev Ed:FN:=⟨Ec,[.cells 2 7]⟩
theorem OM:GoT 41 Tryz.f41 Ec Ed:=goT (F:=Ed) Tryz.func41 (by kernel_rfl)
abbrev LO:NC:=.reg
 (.x 0 (.box 30) [.qq 0] none []
 (.x 1 (.box 30) [.qq 1] none []
 (.out [(2,.qz 0),(3,.qz 1)])))
 [0,1]
abbrev LN:NC:=.reg
 (.Q 0 (.lda 7) [.qq 2]
 (.x 1 (.call 79) [.qz 0] none []
 (.Q 3 (.ext 0) [.qz 1]
 (.Q 4 (.ext 1) [.qz 1]
 (.x 5 (.alc [(.string ⟨#[]⟩),(.string ⟨#[]⟩)] 147) [] none []
 (.x 6 (.st 2) [.qz 5,.qz 3] none []
 (.out (qx [2,3] [(5,.qz 5),(6,.qz 4)]))))))))
 [2,3]
abbrev LM:NC:=.reg
 (.Q 0 (.lda 7) [.qq 3]
 (.x 1 (.call 79) [.qz 0] none []
 (.Q 3 (.ext 0) [.qz 1]
 (.Q 4 (.ext 1) [.qz 1]
 (.x 5 (.alc [(.string ⟨#[]⟩),(.string ⟨#[]⟩)] 147) [] none []
 (.x 6 (.st 2) [.qz 5,.qz 3] none []
 (.out (qx [2,3,5,6] [(7,.qz 5),(8,.qz 4)]))))))))
 [2,3,5,6]
abbrev LL:NC:=.reg
 (.Q 1 .not [.qq 6]
 (.q 3 .mv [.qq 8] (some (.qz 1,false))
 (.q 4 .not [.qz 3] (some (.qz 1,false))
 (.Q 5 .pick [.qz 1,.const (.bool true),.qz 4]
 (.out (qx [2,3,5,7] [(24,.qz 5)]))))))
 [2,3,5,6,7,8]
abbrev LI:NC:=.reg
 (.out [(4,.const (.bool false))])
 []
abbrev LH:NC:=.reg
 (.Q 0 (.fld 1) [.qq 2]
 (.Q 1 .ld [.qz 0]
 (.Q 2 (.fld 1) [.qq 3]
 (.Q 3 .ld [.qz 2]
 (.Q 4 (.icm .eql) [.qz 1,.qz 3]
 (.q 6 (.lda 7) [.qq 2] (some (.qz 4,false))
 (.x 7 (.call 80) [.qz 6] (some (.qz 4,false)) []
 (.q 8 .mv [.qz 7] (some (.qz 4,false))
 (.q 9 (.lda 7) [.qq 3] (some (.qz 8,false))
 (.x 10 (.call 80) [.qz 9] (some (.qz 8,false)) []
 (.q 11 .pick [.qz 8,.const (.bool true),.qz 10] (some (.qz 4,false))
 (.q 12 .mv [.qz 11] (some (.qz 4,false))
 (.q 13 (.lda 2) [.qq 5] (some (.qz 12,true))
 (.q 14 (.lda 2) [.qq 7] (some (.qz 12,true))
 (.x 15 (.call 81) [.qz 13,.qz 14] (some (.qz 12,true)) []
 (.q 16 .pick [.qz 12,.qz 15,.const (.bool false)] (some (.qz 4,false))
 (.Q 17 .pick [.qz 4,.const (.bool true),.qz 16]
 (.out [(4,.qz 17)]))))))))))))))))))
 [2,3,5,7]
abbrev uY:NC :=
 (.seq LO
 (.seq LN
 (.seq LM
 (.seq (.seq LL
 (.cond (.qq 24)
 (.seq LI
 .ret)
 .skip))
 (.seq LH
 .ret)))))
abbrev ua:FN:=⟨uY,[.qq 4]⟩
theorem LP:GoT 49 Tryz.f49 uY ua:=goT (F:=ua) Tryz.func49 (by kernel_rfl)
abbrev FE:NC:=.reg
 (.x 0 (.box 25) [.qq 0] none []
 (.out [(1,.qz 0)]))
 [0]
abbrev FD:NC:=.reg
 (.Q 0 (.fld 0) [.qq 1]
 (.Q 1 .ld [.qz 0]
 (.Q 2 (.icm .geq) [.qz 1,.qj 0]
 (.q 4 (.fld 0) [.qq 1] (some (.qz 2,true))
 (.q 5 .ld [.qz 4] (some (.qz 2,true))
 (.q 6 (.icm .lss) [.qz 5,.qj 7] (some (.qz 2,true))
 (.Q 7 .pick [.qz 2,.qz 6,.const (.bool false)]
 (.q 9 (.fld 1) [.qq 1] (some (.qz 7,true))
 (.q 10 .ld [.qz 9] (some (.qz 7,true))
 (.q 11 (.icm .geq) [.qz 10,.qj 1] (some (.qz 7,true))
 (.Q 12 .pick [.qz 7,.qz 11,.const (.bool false)]
 (.q 14 (.fld 1) [.qq 1] (some (.qz 12,true))
 (.q 15 .ld [.qz 14] (some (.qz 12,true))
 (.q 16 (.icm .leq) [.qz 15,.qj 1073741824] (some (.qz 12,true))
 (.Q 17 .pick [.qz 12,.qz 16,.const (.bool false)]
 (.out [(2,.qz 17)]))))))))))))))))
 [1]
abbrev oC:NC :=
 (.seq FE
 (.seq FD
 .ret))
abbrev oD:FN:=⟨oC,[.qq 2]⟩
theorem FF:GoT 66 Tryz.f66 oC oD:=goT (F:=oD) Tryz.func66 (by kernel_rfl)
abbrev Py:NC:=.reg
 (.x 0 (.box 30) [.qq 0] none []
 (.x 1 (.alc [(.string ⟨#[]⟩),(.string ⟨#[]⟩)] 147) [] none []
 (.out [(1,.qz 0),(2,.qz 1)])))
 [0]
abbrev Pw:NC:=.reg
 (.Q 0 (.fld 0) [.qq 1]
 (.Q 1 .ld [.qz 0]
 (.out (qx [1,2] [(5,.qz 1)]))))
 [1,2]
abbrev Pv:NC:=.reg
 (.Q 0 (.icm .eql) [.qq 5,.qj 1]
 (.out (qx [1,2,5] [(6,.qz 0)])))
 [1,2,5]
abbrev Pk:NC:=.reg
 (.Q 0 (.icm .eql) [.qq 5,.qj 2]
 (.out (qx [1,2,5] [(6,.qz 0)])))
 [1,2,5]
abbrev Px:NC:=.reg
 (.Q 0 (.icm .eql) [.qq 5,.qj 3]
 (.out (qx [1,2,5] [(6,.qz 0)])))
 [1,2,5]
abbrev Pj:NC:=.reg
 (.Q 0 (.icm .eql) [.qq 5,.qj 4]
 (.out (qx [1,2,5] [(6,.qz 0)])))
 [1,2,5]
abbrev Pz:NC:=.reg
 (.Q 0 (.fld 3) [.qq 1]
 (.Q 1 .ld [.qz 0]
 (.x 2 (.call 105) [.qz 1] none []
 (.x 3 (.st 2) [.qq 2,.qz 2] none []
 (.out [(2,.qq 2),(3,.const (.bool true))])))))
 [1,2]
abbrev Pq:NC:=.reg
 (.Q 0 (.icm .eql) [.qq 5,.qj 5]
 (.out (qx [1,2] [(14,.qz 0)])))
 [1,2,5]
abbrev OU:NC:=.reg
 (.Q 0 (.fld 3) [.qq 1]
 (.Q 1 .ld [.qz 0]
 (.Q 2 (.fld 4) [.qq 1]
 (.Q 3 .ld [.qz 2]
 (.Q 4 (.bld [(.string ⟨#[]⟩),(.string ⟨#[]⟩)] [(0,1),(1,1)]) [.qz 1,.qz 3]
 (.x 5 (.st 2) [.qq 2,.qz 4] none []
 (.out [(2,.qq 2),(3,.const (.bool true))])))))))
 [1,2]
abbrev OT:NC:=.reg
 (.Q 0 (.bld [(.string ⟨#[]⟩),(.string ⟨#[]⟩)] []) []
 (.x 1 (.st 2) [.qq 2,.qz 0] none []
 (.out [(2,.qq 2),(3,.const (.bool false))])))
 [2]
abbrev Ee:NC :=
 (.seq Py
 (.seq (.seq Pw
 (.block 0 (.seq (.seq Pv
 (.cond (.qq 6)
 .skip
 (.seq Pk
 (.cond (.qq 6)
 .skip
 (.seq Px
 (.cond (.qq 6)
 .skip
 Pj))))))
 (.cond (.qq 6)
 (.seq Pz
 .ret)
 (.seq Pq
 (.cond (.qq 14)
 (.seq OU
 .ret)
 .skip))))))
 (.seq OT
 .ret)))
abbrev Ef:FN:=⟨Ee,[.cells 2 2,.qq 3]⟩
theorem PQ:GoT 79 Tryz.f79 Ee Ef:=goT (F:=Ef) Tryz.func79 (by kernel_rfl)
abbrev Gc:NC:=.reg
 (.x 0 (.box 30) [.qq 0] none []
 (.out [(1,.qz 0)]))
 [0]
abbrev Gb:NC:=.reg
 (.Q 0 (.fld 0) [.qq 1]
 (.Q 1 .ld [.qz 0]
 (.Q 2 (.icm .eql) [.qz 1,.qj 2]
 (.q 4 (.fld 0) [.qq 1] (some (.qz 2,false))
 (.q 5 .ld [.qz 4] (some (.qz 2,false))
 (.q 6 (.icm .eql) [.qz 5,.qj 3] (some (.qz 2,false))
 (.Q 7 .pick [.qz 2,.const (.bool true),.qz 6]
 (.q 9 (.fld 0) [.qq 1] (some (.qz 7,false))
 (.q 10 .ld [.qz 9] (some (.qz 7,false))
 (.q 11 (.icm .eql) [.qz 10,.qj 4] (some (.qz 7,false))
 (.Q 12 .pick [.qz 7,.const (.bool true),.qz 11]
 (.out [(2,.qz 12)]))))))))))))
 [1]
abbrev rQ:NC :=
 (.seq Gc
 (.seq Gb
 .ret))
abbrev rZ:FN:=⟨rQ,[.qq 2]⟩
theorem Ge:GoT 80 Tryz.f80 rQ rZ:=goT (F:=rZ) Tryz.func80 (by kernel_rfl)
abbrev EE:NC:=.reg
 (.x 0 (.box 147) [.qq 0] none []
 (.x 1 (.box 147) [.qq 1] none []
 (.out [(2,.qz 0),(3,.qz 1)])))
 [0,1]
abbrev ED:NC:=.reg
 (.Q 0 (.lda 2) [.qq 2]
 (.x 1 (.call 106) [.qz 0] none []
 (.Q 2 .not [.qz 1]
 (.q 4 (.lda 2) [.qq 3] (some (.qz 2,true))
 (.x 5 (.call 106) [.qz 4] (some (.qz 2,true)) []
 (.q 6 .not [.qz 5] (some (.qz 2,true))
 (.Q 7 .pick [.qz 2,.qz 6,.const (.bool false)]
 (.q 9 (.fld 0) [.qq 2] (some (.qz 7,true))
 (.q 10 .ld [.qz 9] (some (.qz 7,true))
 (.q 11 (.fld 1) [.qq 3] (some (.qz 7,true))
 (.q 12 .ld [.qz 11] (some (.qz 7,true))
 (.x 13 (.call 107) [.qz 10,.qz 12] (some (.qz 7,true)) []
 (.Q 14 .pick [.qz 7,.qz 13,.const (.bool false)]
 (.q 16 (.fld 0) [.qq 3] (some (.qz 14,true))
 (.q 17 .ld [.qz 16] (some (.qz 14,true))
 (.q 18 (.fld 1) [.qq 2] (some (.qz 14,true))
 (.q 19 .ld [.qz 18] (some (.qz 14,true))
 (.x 20 (.call 107) [.qz 17,.qz 19] (some (.qz 14,true)) []
 (.Q 21 .pick [.qz 14,.qz 20,.const (.bool false)]
 (.out [(4,.qz 21)]))))))))))))))))))))
 [2,3]
abbrev np:NC :=
 (.seq EE
 (.seq ED
 .ret))
abbrev nr:FN:=⟨np,[.qq 4]⟩
theorem EF:GoT 81 Tryz.f81 np nr:=goT (F:=nr) Tryz.func81 (by kernel_rfl)
abbrev IP:NC:=.reg
 (.x 0 (.box 25) [.qq 0] none []
 (.x 1 (.box 25) [.qq 1] none []
 (.out [(2,.qz 0),(3,.qz 1)])))
 [0,1]
abbrev IN:NC:=.reg
 (.Q 0 (.fld 0) [.qq 2]
 (.Q 1 .ld [.qz 0]
 (.Q 2 (.fld 0) [.qq 3]
 (.Q 3 .ld [.qz 2]
 (.Q 4 (.icm .lss) [.qz 1,.qz 3]
 (.q 6 (.fld 0) [.qq 2] (some (.qz 4,false))
 (.q 7 .ld [.qz 6] (some (.qz 4,false))
 (.q 8 (.fld 0) [.qq 3] (some (.qz 4,false))
 (.q 9 .ld [.qz 8] (some (.qz 4,false))
 (.q 10 (.icm .eql) [.qz 7,.qz 9] (some (.qz 4,false))
 (.q 11 .mv [.qz 10] (some (.qz 4,false))
 (.q 12 (.fld 1) [.qq 2] (some (.qz 11,true))
 (.q 13 .ld [.qz 12] (some (.qz 11,true))
 (.q 14 (.fld 1) [.qq 3] (some (.qz 11,true))
 (.q 15 .ld [.qz 14] (some (.qz 11,true))
 (.q 16 (.icm .lss) [.qz 13,.qz 15] (some (.qz 11,true))
 (.q 17 .pick [.qz 11,.qz 16,.const (.bool false)] (some (.qz 4,false))
 (.Q 18 .pick [.qz 4,.const (.bool true),.qz 17]
 (.out [(4,.qz 18)])))))))))))))))))))
 [2,3]
abbrev uz:NC :=
 (.seq IP
 (.seq IN
 .ret))
abbrev uj:FN:=⟨uz,[.qq 4]⟩
theorem IR:GoT 93 Tryz.f93 uz uj:=goT (F:=uj) Tryz.func93 (by kernel_rfl)
abbrev Lc:NC:=.reg
 (.x 0 (.alc zL0 39) [] none []
 (.out [(0,.qq 0),(2,.qz 0)]))
 [0]
abbrev Lb:NC:=.reg
 (.Q 1 .len [.qq 0]
 (.Q 2 (.icm .eql) [.qz 1,.qj 0]
 (.out (qx [0,2] [(10,.qz 2)]))))
 [0,2]
abbrev La:NC:=.reg
 (.Q 0 (.bld zL0 []) []
 (.x 1 (.st 8) [.qq 2,.qz 0] none []
 (.out [(2,.qq 2)])))
 [2]
abbrev LY:NC:=.reg
 (.Q 1 (.ixs 8) [.qq 0,.qj 0]
 (.Q 2 (.lda 8) [.qz 1]
 (.x 3 (.alc zL0 39) [] none []
 (.x 4 (.st 8) [.qz 3,.qz 2] none []
 (.out (qx [0,2] [(3,.qz 3)]))))))
 [0,2]
abbrev LW:NC:=.reg
 (.Q 1 (.slc 8 true false) [.qq 0,.qj 1]
 (.Q 2 .len [.qz 1]
 (.out (qx [2,3] [(16,.qz 1),(17,.qz 2),(18,.qj 0)]))))
 [0,2,3]
abbrev LV:NC:=.reg
 (.Q 0 (.icm .lss) [.qq 18,.qq 17]
 (.out (qx [2,3,16,17,18] [(19,.qz 0)])))
 [2,3,16,17,18]
abbrev LX:NC:=.reg
 (.Q 0 (.ixs 8) [.qq 16,.qq 18]
 (.Q 1 (.lda 8) [.qz 0]
 (.x 2 (.alc zL0 39) [] none []
 (.x 3 (.st 8) [.qz 2,.qz 1] none []
 (.out (qx [2,3] [(5,.qz 2),(16,.qq 16),(17,.qq 17),(18,.qq 18)]))))))
 [2,3,16,17,18]
abbrev LJ:NC:=.reg
 (.Q 0 (.fld 0) [.qq 3]
 (.Q 1 .ld [.qz 0]
 (.Q 2 (.fld 0) [.qq 5]
 (.Q 3 .ld [.qz 2]
 (.Q 4 .mx [.qz 1,.qz 3]
 (.Q 5 (.fld 0) [.qq 3]
 (.x 6 (.st 1) [.qz 5,.qz 4] none []
 (.out (qx [2,3,5,16,17,18] [])))))))))
 [2,3,5,16,17,18]
abbrev LZ:NC:=.reg
 (.Q 0 (.fld 1) [.qq 5]
 (.Q 1 (.lda 7) [.qz 0]
 (.out (qx [2,3,16,17,18] [(29,.qz 1),(30,.qj 0)]))))
 [2,3,5,16,17,18]
abbrev LQ:NC:=.reg
 (.Q 0 (.icm .lss) [.qq 30,.qj 7]
 (.out (qx [2,3,16,17,18,29,30] [(31,.qz 0)])))
 [2,3,16,17,18,29,30]
abbrev GK:NC:=.reg
 (.Q 1 (.idx 7 1) [.qq 29,.qq 30]
 (.out (qx [2,3] [(6,.qq 30),(7,.qz 1),(16,.qq 16),(17,.qq 17),(18,.qq 18),(29,.qq 29),(30,.qq 30)])))
 [2,3,16,17,18,29,30]
abbrev GX:NC:=.reg
 (.Q 2 (.fld 1) [.qq 3]
 (.Q 3 (.ixa 7 1) [.qz 2,.qq 6]
 (.Q 4 .ld [.qz 3]
 (.Q 6 .mx [.qz 4,.qq 7]
 (.Q 7 (.fld 1) [.qq 3]
 (.Q 8 (.ixa 7 1) [.qz 7,.qq 6]
 (.x 9 (.st 1) [.qz 8,.qz 6] none []
 (.out (qx [2,3,16,17,18,29,30] [])))))))))
 [2,3,6,7,16,17,18,29,30]
abbrev GJ:NC:=.reg
 (.Q 0 (.iar .add) [.qq 30,.qj 1]
 (.out (qx [2,3,16,17,18,29] [(30,.qz 0)])))
 [2,3,16,17,18,29,30]
abbrev Lf:NC :=
 (.seq LQ
 (.seq (.cond (.qq 31)
 .skip
 (.exit 2))
 (.seq (.block 3 (.seq GK
 GX))
 GJ)))
abbrev GZ:NC:=.reg
 (.Q 0 (.iar .add) [.qq 18,.qj 1]
 (.out (qx [2,3,16,17] [(18,.qz 0)])))
 [2,3,16,17,18]
abbrev Le:NC :=
 (.seq LV
 (.seq (.cond (.qq 19)
 .skip
 (.exit 0))
 (.seq (.block 1 (.seq LX
 (.seq LJ
 (.seq LZ
 (.block 2 (.loop [2,3,16,17,18,29,30] Lf))))))
 GZ)))
abbrev GQ:NC:=.reg
 (.Q 0 (.lda 8) [.qq 3]
 (.x 1 (.st 8) [.qq 2,.qz 0] none []
 (.out [(2,.qq 2)])))
 [2,3]
abbrev uw:NC :=
 (.seq Lc
 (.seq (.seq Lb
 (.cond (.qq 10)
 (.seq La
 .ret)
 .skip))
 (.seq LY
 (.seq (.seq LW
 (.block 0 (.loop [2,3,16,17,18] Le)))
 (.seq GQ
 .ret)))))
abbrev uy:FN:=⟨uw,[.cells 2 8]⟩
theorem Lg:GoT 101 Tryz.f101 uw uy:=goT (F:=uy) Tryz.func101 (by kernel_rfl)
abbrev PF:NC:=.reg
 (.x 0 (.alc [(.string ⟨#[]⟩),(.string ⟨#[]⟩)] 147) [] none []
 (.out [(0,.qq 0),(2,.qz 0)]))
 [0]
abbrev PE:NC:=.reg
 (.Q 2 (.str .add) [.qq 0,.const (.string ⟨#[0]⟩)]
 (.Q 3 (.bld [(.string ⟨#[]⟩),(.string ⟨#[]⟩)] [(0,1),(1,1)]) [.qq 0,.qz 2]
 (.x 4 (.st 2) [.qq 2,.qz 3] none []
 (.out [(2,.qq 2)]))))
 [0,2]
abbrev Gs:NC :=
 (.seq PF
 (.seq PE
 .ret))
abbrev Gt:FN:=⟨Gs,[.cells 2 2]⟩
theorem PG:GoT 105 Tryz.f105 Gs Gt:=goT (F:=Gt) Tryz.func105 (by kernel_rfl)
abbrev EH:NC:=.reg
 (.x 0 (.box 147) [.qq 0] none []
 (.out [(1,.qz 0)]))
 [0]
abbrev EG:NC:=.reg
 (.Q 0 (.fld 0) [.qq 1]
 (.Q 1 .ld [.qz 0]
 (.Q 2 (.fld 1) [.qq 1]
 (.Q 3 .ld [.qz 2]
 (.x 4 (.call 107) [.qz 1,.qz 3] none []
 (.Q 5 .not [.qz 4]
 (.out [(2,.qz 5)])))))))
 [1]
abbrev nt:NC :=
 (.seq EH
 (.seq EG
 .ret))
abbrev nu:FN:=⟨nt,[.qq 2]⟩
theorem EI:GoT 106 Tryz.f106 nt nu:=goT (F:=nu) Tryz.func106 (by kernel_rfl)
abbrev EB:NC:=.reg
 (.out (qx [0,1] []))
 [0,1]
abbrev EA:NC:=.reg
 (.Q 1 (.str .eql) [.qq 1,.const (.string ⟨#[]⟩)]
 (.q 3 .mv [.qq 0] (some (.qz 1,false))
 (.q 4 .mv [.qq 1] (some (.qz 1,false))
 (.q 5 (.str .lss) [.qz 3,.qz 4] (some (.qz 1,false))
 (.Q 6 .pick [.qz 1,.const (.bool true),.qz 5]
 (.out [(4,.qz 6)]))))))
 [0,1]
abbrev nl:NC :=
 (.seq EB
 (.seq EA
 .ret))
abbrev nm:FN:=⟨nl,[.qq 4]⟩
theorem EC:GoT 107 Tryz.f107 nl nm:=goT (F:=nm) Tryz.func107 (by kernel_rfl)
abbrev Sf:NC:=.reg
 (.x 0 (.box 30) [.qq 1] none []
 (.out [(0,.qq 0),(3,.qz 0)]))
 [0,1]
abbrev Se:NC:=.reg
 (.Q 0 (.lda 7) [.qq 3]
 (.x 1 (.call 18) [.qz 0] none []
 (.Q 2 .not [.qz 1]
 (.out (qx [0,3] [(7,.qz 2)])))))
 [0,3]
abbrev Sc:NC:=.reg
 (.x 1 (.app 5 1 1 [.int .u8 0]) [.const (.slice none 0 0),.qq 0] none []
 (.out [(4,.qz 1)]))
 [0]
abbrev Sb:NC:=.reg
 (.Q 1 (.fld 0) [.qq 3]
 (.Q 2 .ld [.qz 1]
 (.x 3 (.call 97) [.qq 0,.qz 2] none []
 (.out [(0,.qz 3),(3,.qq 3)]))))
 [0,3]
abbrev Sa:NC:=.reg
 (.Q 0 (.fld 0) [.qq 3]
 (.Q 1 .ld [.qz 0]
 (.Q 2 (.icm .eql) [.qz 1,.qj 0]
 (.out (qx [0,3] [(16,.qz 2)])))))
 [0,3]
abbrev SY:NC:=.reg
 (.out [(4,.qq 0)])
 [0]
abbrev SV:NC:=.reg
 (.Q 1 (.fld 1) [.qq 3]
 (.Q 2 .ld [.qz 1]
 (.Q 4 (.fld 2) [.qq 3]
 (.Q 5 .ld [.qz 4]
 (.Q 7 (.fld 3) [.qq 3]
 (.Q 8 .ld [.qz 7]
 (.x 3 (.call 97) [.qq 0,.qz 2] none [(5,.ld,[.qz 4],none),(8,.ld,[.qz 7],none)]
 (.x 6 (.call 97) [.qz 3,.qz 5] none [(8,.ld,[.qz 7],none)]
 (.x 9 (.call 143) [.qz 6,.qz 8] none []
 (.out [(0,.qz 9),(3,.qq 3)]))))))))))
 [0,3]
abbrev SK:NC:=.reg
 (.Q 0 (.fld 0) [.qq 3]
 (.Q 1 .ld [.qz 0]
 (.out (qx [0,3] [(29,.qz 1)]))))
 [0,3]
abbrev SX:NC:=.reg
 (.Q 0 (.icm .eql) [.qq 29,.qj 2]
 (.out (qx [0,3,29] [(30,.qz 0)])))
 [0,3,29]
abbrev SJ:NC:=.reg
 (.Q 1 (.fld 6) [.qq 3]
 (.Q 2 .ld [.qz 1]
 (.x 3 (.call 143) [.qq 0,.qz 2] none []
 (.out [(0,.qz 3)]))))
 [0,3]
abbrev OS:NC:=.reg
 (.Q 0 (.icm .eql) [.qq 29,.qj 4]
 (.out (qx [0,3,29] [(36,.qz 0)])))
 [0,3,29]
abbrev OR:NC:=.reg
 (.Q 1 (.fld 5) [.qq 3]
 (.Q 2 .ld [.qz 1]
 (.Q 4 (.fld 6) [.qq 3]
 (.Q 5 .ld [.qz 4]
 (.x 3 (.call 143) [.qq 0,.qz 2] none [(5,.ld,[.qz 4],none)]
 (.x 6 (.call 143) [.qz 3,.qz 5] none []
 (.out [(0,.qz 6)])))))))
 [0,3]
abbrev OP:NC:=.reg
 (.Q 0 (.icm .eql) [.qq 29,.qj 5]
 (.out (qx [0,3] [(45,.qz 0)])))
 [0,3,29]
abbrev OO:NC:=.reg
 (.Q 1 (.fld 4) [.qq 3]
 (.Q 2 .ld [.qz 1]
 (.x 3 (.call 143) [.qq 0,.qz 2] none []
 (.out [(0,.qz 3)]))))
 [0,3]
abbrev ON:NC:=.reg
 (.out [(4,.qq 0)])
 [0]
abbrev HY:NC :=
 (.seq Sf
 (.seq (.seq Se
 (.cond (.qq 7)
 (.seq Sc
 .ret)
 .skip))
 (.seq Sb
 (.seq (.seq Sa
 (.cond (.qq 16)
 (.seq SY
 .ret)
 .skip))
 (.seq SV
 (.seq (.seq SK
 (.block 0 (.seq SX
 (.cond (.qq 30)
 SJ
 (.seq OS
 (.cond (.qq 36)
 OR
 (.seq OP
 (.cond (.qq 45)
 OO
 .skip))))))))
 (.seq ON
 .ret)))))))
abbrev Ha:FN:=⟨HY,[.qq 4]⟩
theorem Sg:GoT 123 Tryz.f123 HY Ha:=goT (F:=Ha) Tryz.func123 (by kernel_rfl)
abbrev Ov:NC:=.reg
 (.x 0 (.box 39) [.qq 1] none []
 (.out [(0,.qq 0),(3,.qz 0)]))
 [0,1]
abbrev Ox:NC:=.reg
 (.Q 1 (.fld 0) [.qq 3]
 (.Q 2 .ld [.qz 1]
 (.x 3 (.call 97) [.qq 0,.qz 2] none []
 (.out [(0,.qz 3),(3,.qq 3)]))))
 [0,3]
abbrev Oj:NC:=.reg
 (.Q 0 (.fld 1) [.qq 3]
 (.Q 1 (.lda 7) [.qz 0]
 (.out [(0,.qq 0),(12,.qz 1),(13,.qj 0)])))
 [0,3]
abbrev Oz:NC:=.reg
 (.Q 0 (.icm .lss) [.qq 13,.qj 7]
 (.out (qx [0,12,13] [(14,.qz 0)])))
 [0,12,13]
abbrev Oq:NC:=.reg
 (.Q 0 (.idx 7 1) [.qq 12,.qq 13]
 (.out [(0,.qq 0),(6,.qz 0),(12,.qq 12),(13,.qq 13)]))
 [0,12,13]
abbrev NU:NC:=.reg
 (.x 2 (.call 97) [.qq 0,.qq 6] none []
 (.out [(0,.qz 2),(12,.qq 12),(13,.qq 13)]))
 [0,6,12,13]
abbrev NT:NC:=.reg
 (.Q 0 (.iar .add) [.qq 13,.qj 1]
 (.out (qx [0,12] [(13,.qz 0)])))
 [0,12,13]
abbrev Ow:NC :=
 (.seq Oz
 (.seq (.cond (.qq 14)
 .skip
 (.exit 0))
 (.seq (.block 1 (.seq Oq
 NU))
 NT)))
abbrev NS:NC:=.reg
 (.out [(4,.qq 0)])
 [0]
abbrev EZ:NC :=
 (.seq Ov
 (.seq Ox
 (.seq (.seq Oj
 (.block 0 (.loop [0,12,13] Ow)))
 (.seq NS
 .ret))))
abbrev EJ:FN:=⟨EZ,[.qq 4]⟩
theorem Oy:GoT 125 Tryz.f125 EZ EJ:=goT (F:=EJ) Tryz.func125 (by kernel_rfl)
end Go.Fw
namespace Go.Fw
open Go.Proofs
abbrev AI:NC:=.reg
 (.x 0 (.box 45) [.qq 0] none []
 (.out [(1,.qz 0)]))
 [0]
abbrev AH:NC:=.reg
 (.Q 0 (.fld 0) [.qq 1]
 (.Q 1 .ld [.qz 0]
 (.x 2 (.call 69) [.qz 1] none []
 (.Q 4 (.ext 0) [.qz 2]
 (.Q 5 (.ext 1) [.qz 2]
 (.x 6 (.alc zL1 135) [] none []
 (.x 7 (.st 7) [.qz 6,.qz 4] none []
 (.out [(1,.qq 1),(3,.qz 6),(4,.qz 5)]))))))))
 [1]
abbrev AG:NC:=.reg
 (.Q 1 .not [.qq 4]
 (.q 3 (.fld 1) [.qq 1] (some (.qz 1,false))
 (.q 4 .ld [.qz 3] (some (.qz 1,false))
 (.x 5 (.call 70) [.qz 4] (some (.qz 1,false)) []
 (.q 6 .not [.qz 5] (some (.qz 1,false))
 (.Q 7 .pick [.qz 1,.const (.bool true),.qz 6]
 (.q 9 (.fld 2) [.qq 1] (some (.qz 7,false))
 (.q 10 .ld [.qz 9] (some (.qz 7,false))
 (.x 11 (.call 70) [.qz 10] (some (.qz 7,false)) []
 (.q 12 .not [.qz 11] (some (.qz 7,false))
 (.Q 13 .pick [.qz 7,.const (.bool true),.qz 12]
 (.q 15 (.fld 1) [.qq 1] (some (.qz 13,false))
 (.q 16 .ld [.qz 15] (some (.qz 13,false))
 (.q 17 (.fld 2) [.qq 1] (some (.qz 13,false))
 (.q 18 .ld [.qz 17] (some (.qz 13,false))
 (.q 19 (.icm .eql) [.qz 16,.qz 18] (some (.qz 13,false))
 (.Q 20 .pick [.qz 13,.const (.bool true),.qz 19]
 (.q 22 (.lda 51) [.qq 1] (some (.qz 20,false))
 (.q 23 (.lda 51) [.qq 1] (some (.qz 20,false))
 (.q 24 (.lda 7) [.qq 3] (some (.qz 20,false))
 (.x 25 (.call 71) [.qz 23,.qz 24] (some (.qz 20,false)) [(22,.lda 51,[.qq 1],(some (.qz 20,false)))]
 (.q 26 (.eqc true [.i .i64,.i .i64,.i .i64,.i .i64,.i .i64,.i .i64,.i .i64,.i .i64,.i .i64,.i .i64,.s,.s,.s,.s,.i .i64,.i .i64,.i .i64,.i .i64,.i .i64,.i .i64,.i .i64,.i .i64,.i .i64,.i .i64,.i .i64,.i .i64,.i .i64,.i .i64,.i .i64,.i .i64,.s,.s,.s,.s,.i .i64,.i .i64,.i .i64,.i .i64,.i .i64,.i .i64,.i .i64,.i .i64,.b,.i .i64,.i .i64,.i .i64,.i .i64,.i .i64,.i .i64,.i .i64,.s]) [.qz 22,.qz 25] (some (.qz 20,false))
 (.Q 27 .pick [.qz 20,.const (.bool true),.qz 26]
 (.out (qx [1,3] [(38,.qz 27)])))))))))))))))))))))))))
 [1,3,4]
abbrev AF:NC:=.reg
 (.out [(2,.const (.bool false))])
 []
abbrev AE:NC:=.reg
 (.Q 0 (.fld 0) [.qq 3]
 (.Q 1 .ld [.qz 0]
 (.q 3 (.fld 3) [.qq 1] (some (.qz 1,true))
 (.q 4 (.lda 2) [.qz 3] (some (.qz 1,true))
 (.x 5 (.call 66) [.qz 4] (some (.qz 1,true)) []
 (.q 6 .not [.qz 5] (some (.qz 1,true))
 (.Q 7 .pick [.qz 1,.qz 6,.const (.bool false)]
 (.q 9 (.fld 5) [.qq 1] (some (.qz 7,false))
 (.q 10 (.lda 2) [.qz 9] (some (.qz 7,false))
 (.x 11 (.call 39) [.qz 10] (some (.qz 7,false)) []
 (.q 12 .not [.qz 11] (some (.qz 7,false))
 (.Q 13 .pick [.qz 7,.const (.bool true),.qz 12]
 (.q 15 (.fld 7) [.qq 1] (some (.qz 13,false))
 (.q 16 (.lda 7) [.qz 15] (some (.qz 13,false))
 (.x 17 (.call 18) [.qz 16] (some (.qz 13,false)) []
 (.q 18 .not [.qz 17] (some (.qz 13,false))
 (.Q 19 .pick [.qz 13,.const (.bool true),.qz 18]
 (.q 21 (.fld 14) [.qq 1] (some (.qz 19,false))
 (.q 22 (.lda 8) [.qz 21] (some (.qz 19,false))
 (.x 23 (.call 30) [.qz 22] (some (.qz 19,false)) []
 (.q 24 .not [.qz 23] (some (.qz 19,false))
 (.Q 25 .pick [.qz 19,.const (.bool true),.qz 24]
 (.q 27 (.fld 22) [.qq 1] (some (.qz 25,false))
 (.q 28 (.lda 21) [.qz 27] (some (.qz 25,false))
 (.x 29 (.call 72) [.qz 28] (some (.qz 25,false)) []
 (.q 30 .not [.qz 29] (some (.qz 25,false))
 (.Q 31 .pick [.qz 25,.const (.bool true),.qz 30]
 (.out [(1,.qq 1),(70,.qz 31)]))))))))))))))))))))))))))))
 [1,3]
abbrev AD:NC:=.reg
 (.out [(2,.const (.bool false))])
 []
abbrev AC:NC:=.reg
 (.Q 0 (.fld 43) [.qq 1]
 (.Q 1 (.lda 7) [.qz 0]
 (.Q 2 (.bld zL0 [(1,7)]) [.qz 1]
 (.x 3 (.call 30) [.qz 2] none []
 (.q 5 (.fld 50) [.qq 1] (some (.qz 3,true))
 (.q 6 .ld [.qz 5] (some (.qz 3,true))
 (.q 7 .lenz [.qz 6] (some (.qz 3,true))
 (.q 8 (.icm .leq) [.qz 7,.qj 16384] (some (.qz 3,true))
 (.Q 9 .pick [.qz 3,.qz 8,.const (.bool false)]
 (.out [(2,.qz 9)]))))))))))
 [1]
abbrev fy:NC :=
 (.seq AI
 (.seq AH
 (.seq (.seq AG
 (.cond (.qq 38)
 (.seq AF
 .ret)
 .skip))
 (.seq (.seq AE
 (.cond (.qq 70)
 (.seq AD
 .ret)
 .skip))
 (.seq AC
 .ret)))))
abbrev fQ:FN:=⟨fy,[.qq 2]⟩
theorem AL:GoT 42 Tryz.f42 fy fQ:=goT (F:=fQ) Tryz.func42 (by kernel_rfl)
abbrev Al:NC:=.reg
 (.x 0 (.alc zL1 135) [] none []
 (.out [(0,.qq 0),(2,.qz 0)]))
 [0]
abbrev Ai:NC:=.reg
 (.out [(2,.qq 2),(4,.qq 0)])
 [0,2]
abbrev Ah:NC:=.reg
 (.Q 0 (.icm .eql) [.qq 4,.qj 1]
 (.out (qx [2,4] [(5,.qz 0)])))
 [2,4]
abbrev Ag:NC:=.reg
 (.Q 0 (.icm .eql) [.qq 4,.qj 3]
 (.out (qx [2,4] [(5,.qz 0)])))
 [2,4]
abbrev Af:NC:=.reg
 (.Q 0 (.bld zL1 [(0,1),(1,1),(2,1),(3,1)]) [.const (.bool true),.const (.bool true),.const (.bool true),.const (.bool true)]
 (.x 1 (.st 7) [.qq 2,.qz 0] none []
 (.out [(2,.qq 2),(3,.const (.bool true))])))
 [2]
abbrev Ae:NC:=.reg
 (.Q 0 (.icm .eql) [.qq 4,.qj 2]
 (.out (qx [2,4] [(9,.qz 0)])))
 [2,4]
abbrev Ad:NC:=.reg
 (.Q 0 (.bld zL1 [(0,1),(1,1),(3,1)]) [.const (.bool true),.const (.bool true),.const (.bool true)]
 (.x 1 (.st 7) [.qq 2,.qz 0] none []
 (.out [(2,.qq 2),(3,.const (.bool true))])))
 [2]
abbrev Ac:NC:=.reg
 (.Q 0 (.icm .eql) [.qq 4,.qj 4]
 (.out (qx [2,4] [(12,.qz 0)])))
 [2,4]
abbrev Ab:NC:=.reg
 (.Q 0 (.icm .eql) [.qq 4,.qj 6]
 (.out (qx [2,4] [(12,.qz 0)])))
 [2,4]
abbrev Aa:NC:=.reg
 (.Q 0 (.icm .eql) [.qq 4,.qj 8]
 (.out (qx [2,4] [(12,.qz 0)])))
 [2,4]
abbrev sW:NC:=.reg
 (.Q 0 (.bld zL1 [(0,1),(1,1)]) [.const (.bool true),.const (.bool true)]
 (.x 1 (.st 7) [.qq 2,.qz 0] none []
 (.out [(2,.qq 2),(3,.const (.bool true))])))
 [2]
abbrev sV:NC:=.reg
 (.Q 0 (.icm .eql) [.qq 4,.qj 5]
 (.out (qx [2,4] [(17,.qz 0)])))
 [2,4]
abbrev sK:NC:=.reg
 (.Q 0 (.bld zL1 [(0,1),(2,1),(3,1)]) [.const (.bool true),.const (.bool true),.const (.bool true)]
 (.x 1 (.st 7) [.qq 2,.qz 0] none []
 (.out [(2,.qq 2),(3,.const (.bool true))])))
 [2]
abbrev sX:NC:=.reg
 (.Q 0 (.icm .eql) [.qq 4,.qj 7]
 (.out (qx [2,4] [(20,.qz 0)])))
 [2,4]
abbrev sJ:NC:=.reg
 (.Q 0 (.bld zL1 [(0,1),(1,1),(4,1)]) [.const (.bool true),.const (.bool true),.const (.bool true)]
 (.x 1 (.st 7) [.qq 2,.qz 0] none []
 (.out [(2,.qq 2),(3,.const (.bool true))])))
 [2]
abbrev sZ:NC:=.reg
 (.Q 0 (.icm .eql) [.qq 4,.qj 9]
 (.out (qx [2,4] [(23,.qz 0)])))
 [2,4]
abbrev sQ:NC:=.reg
 (.Q 0 (.icm .eql) [.qq 4,.qj 11]
 (.out (qx [2,4] [(23,.qz 0)])))
 [2,4]
abbrev sy:NC:=.reg
 (.Q 0 (.bld zL1 [(5,1)]) [.const (.bool true)]
 (.x 1 (.st 7) [.qq 2,.qz 0] none []
 (.out [(2,.qq 2),(3,.const (.bool true))])))
 [2]
abbrev sw:NC:=.reg
 (.Q 0 (.icm .eql) [.qq 4,.qj 10]
 (.out [(2,.qq 2),(27,.qz 0)]))
 [2,4]
abbrev sv:NC:=.reg
 (.Q 0 (.bld zL1 [(6,1)]) [.const (.bool true)]
 (.x 1 (.st 7) [.qq 2,.qz 0] none []
 (.out [(2,.qq 2),(3,.const (.bool true))])))
 [2]
abbrev sk:NC:=.reg
 (.Q 0 (.bld zL1 []) []
 (.x 1 (.st 7) [.qq 2,.qz 0] none []
 (.out [(2,.qq 2),(3,.const (.bool false))])))
 [2]
abbrev fx:NC :=
 (.seq Al
 (.seq (.seq Ai
 (.block 0 (.seq (.seq Ah
 (.cond (.qq 5)
 .skip
 Ag))
 (.cond (.qq 5)
 (.seq Af
 .ret)
 (.seq Ae
 (.cond (.qq 9)
 (.seq Ad
 .ret)
 (.seq (.seq Ac
 (.cond (.qq 12)
 .skip
 (.seq Ab
 (.cond (.qq 12)
 .skip
 Aa))))
 (.cond (.qq 12)
 (.seq sW
 .ret)
 (.seq sV
 (.cond (.qq 17)
 (.seq sK
 .ret)
 (.seq sX
 (.cond (.qq 20)
 (.seq sJ
 .ret)
 (.seq (.seq sZ
 (.cond (.qq 23)
 .skip
 sQ))
 (.cond (.qq 23)
 (.seq sy
 .ret)
 (.seq sw
 (.cond (.qq 27)
 (.seq sv
 .ret)
 .skip))))))))))))))))
 (.seq sk
 .ret)))
abbrev fk:FN:=⟨fx,[.cells 2 7,.qq 3]⟩
theorem Am:GoT 69 Tryz.f69 fx fk:=goT (F:=fk) Tryz.func69 (by kernel_rfl)
abbrev AW:NC:=.reg
 (.out [(0,.qq 0)])
 [0]
abbrev AV:NC:=.reg
 (.Q 1 (.icm .geq) [.qq 0,.qj 0]
 (.q 3 .mv [.qq 0] (some (.qz 1,true))
 (.q 4 (.icm .lss) [.qz 3,.qj 7] (some (.qz 1,true))
 (.Q 5 .pick [.qz 1,.qz 4,.const (.bool false)]
 (.out [(2,.qz 5)])))))
 [0]
abbrev fz:NC :=
 (.seq AW
 (.seq AV
 .ret))
abbrev fj:FN:=⟨fz,[.qq 2]⟩
theorem AY:GoT 70 Tryz.f70 fz fj:=goT (F:=fj) Tryz.func70 (by kernel_rfl)
abbrev Df:NC:=.reg
 (.x 0 (.box 45) [.qq 0] none []
 (.x 1 (.box 135) [.qq 1] none []
 (.x 2 (.alc [.int .i64 0,.int .i64 0,.int .i64 0,.int .i64 0,.int .i64 0,.int .i64 0,.int .i64 0,.int .i64 0,.int .i64 0,.int .i64 0,(.string ⟨#[]⟩),(.string ⟨#[]⟩),(.string ⟨#[]⟩),(.string ⟨#[]⟩),.int .i64 0,.int .i64 0,.int .i64 0,.int .i64 0,.int .i64 0,.int .i64 0,.int .i64 0,.int .i64 0,.int .i64 0,.int .i64 0,.int .i64 0,.int .i64 0,.int .i64 0,.int .i64 0,.int .i64 0,.int .i64 0,(.string ⟨#[]⟩),(.string ⟨#[]⟩),(.string ⟨#[]⟩),(.string ⟨#[]⟩),.int .i64 0,.int .i64 0,.int .i64 0,.int .i64 0,.int .i64 0,.int .i64 0,.int .i64 0,.int .i64 0,.bool false,.int .i64 0,.int .i64 0,.int .i64 0,.int .i64 0,.int .i64 0,.int .i64 0,.int .i64 0,(.string ⟨#[]⟩)] 45) [] none []
 (.out [(2,.qz 0),(3,.qz 1),(4,.qz 2)]))))
 [0,1]
abbrev De:NC:=.reg
 (.Q 0 (.fld 0) [.qq 2]
 (.Q 1 .ld [.qz 0]
 (.Q 2 (.fld 1) [.qq 2]
 (.Q 3 .ld [.qz 2]
 (.Q 4 (.fld 2) [.qq 2]
 (.Q 5 .ld [.qz 4]
 (.Q 6 (.bld [.int .i64 0,.int .i64 0,.int .i64 0,.int .i64 0,.int .i64 0,.int .i64 0,.int .i64 0,.int .i64 0,.int .i64 0,.int .i64 0,(.string ⟨#[]⟩),(.string ⟨#[]⟩),(.string ⟨#[]⟩),(.string ⟨#[]⟩),.int .i64 0,.int .i64 0,.int .i64 0,.int .i64 0,.int .i64 0,.int .i64 0,.int .i64 0,.int .i64 0,.int .i64 0,.int .i64 0,.int .i64 0,.int .i64 0,.int .i64 0,.int .i64 0,.int .i64 0,.int .i64 0,(.string ⟨#[]⟩),(.string ⟨#[]⟩),(.string ⟨#[]⟩),(.string ⟨#[]⟩),.int .i64 0,.int .i64 0,.int .i64 0,.int .i64 0,.int .i64 0,.int .i64 0,.int .i64 0,.int .i64 0,.bool false,.int .i64 0,.int .i64 0,.int .i64 0,.int .i64 0,.int .i64 0,.int .i64 0,.int .i64 0,(.string ⟨#[]⟩)] [(0,1),(1,1),(2,1)]) [.qz 1,.qz 3,.qz 5]
 (.x 7 (.alc [.int .i64 0,.int .i64 0,.int .i64 0,.int .i64 0,.int .i64 0,.int .i64 0,.int .i64 0,.int .i64 0,.int .i64 0,.int .i64 0,(.string ⟨#[]⟩),(.string ⟨#[]⟩),(.string ⟨#[]⟩),(.string ⟨#[]⟩),.int .i64 0,.int .i64 0,.int .i64 0,.int .i64 0,.int .i64 0,.int .i64 0,.int .i64 0,.int .i64 0,.int .i64 0,.int .i64 0,.int .i64 0,.int .i64 0,.int .i64 0,.int .i64 0,.int .i64 0,.int .i64 0,(.string ⟨#[]⟩),(.string ⟨#[]⟩),(.string ⟨#[]⟩),(.string ⟨#[]⟩),.int .i64 0,.int .i64 0,.int .i64 0,.int .i64 0,.int .i64 0,.int .i64 0,.int .i64 0,.int .i64 0,.bool false,.int .i64 0,.int .i64 0,.int .i64 0,.int .i64 0,.int .i64 0,.int .i64 0,.int .i64 0,(.string ⟨#[]⟩)] 45) [] none []
 (.x 8 (.st 51) [.qz 7,.qz 6] none []
 (.out (qx [2,3,4] [(5,.qz 7)])))))))))))
 [2,3,4]
abbrev Dd:NC:=.reg
 (.Q 0 (.fld 0) [.qq 3]
 (.Q 1 .ld [.qz 0]
 (.out (qx [2,3,4,5] [(14,.qz 1)]))))
 [2,3,4,5]
abbrev Dc:NC:=.reg
 (.Q 0 (.fld 3) [.qq 2]
 (.Q 1 (.lda 2) [.qz 0]
 (.Q 2 (.fld 3) [.qq 5]
 (.x 3 (.st 2) [.qz 2,.qz 1] none []
 (.out (qx [2,3,4,5] []))))))
 [2,3,4,5]
abbrev Db:NC:=.reg
 (.Q 0 (.fld 1) [.qq 3]
 (.Q 1 .ld [.qz 0]
 (.out (qx [2,3,4,5] [(19,.qz 1)]))))
 [2,3,4,5]
abbrev Da:NC:=.reg
 (.Q 0 (.fld 5) [.qq 2]
 (.Q 1 (.lda 2) [.qz 0]
 (.Q 2 (.fld 5) [.qq 5]
 (.x 3 (.st 2) [.qz 2,.qz 1] none []
 (.out (qx [2,3,4,5] []))))))
 [2,3,4,5]
abbrev DY:NC:=.reg
 (.Q 0 (.fld 2) [.qq 3]
 (.Q 1 .ld [.qz 0]
 (.out (qx [2,3,4,5] [(24,.qz 1)]))))
 [2,3,4,5]
abbrev DW:NC:=.reg
 (.Q 0 (.fld 7) [.qq 2]
 (.Q 1 (.lda 7) [.qz 0]
 (.Q 2 (.fld 7) [.qq 5]
 (.x 3 (.st 7) [.qz 2,.qz 1] none []
 (.out (qx [2,3,4,5] []))))))
 [2,3,4,5]
abbrev DV:NC:=.reg
 (.Q 0 (.fld 3) [.qq 3]
 (.Q 1 .ld [.qz 0]
 (.out (qx [2,3,4,5] [(29,.qz 1)]))))
 [2,3,4,5]
abbrev DK:NC:=.reg
 (.Q 0 (.fld 14) [.qq 2]
 (.Q 1 (.lda 8) [.qz 0]
 (.Q 2 (.fld 14) [.qq 5]
 (.x 3 (.st 8) [.qz 2,.qz 1] none []
 (.out (qx [2,3,4,5] []))))))
 [2,3,4,5]
abbrev AB:NC:=.reg
 (.Q 0 (.fld 4) [.qq 3]
 (.Q 1 .ld [.qz 0]
 (.out (qx [2,3,4,5] [(34,.qz 1)]))))
 [2,3,4,5]
abbrev AA:NC:=.reg
 (.Q 0 (.fld 22) [.qq 2]
 (.Q 1 (.lda 21) [.qz 0]
 (.Q 2 (.fld 22) [.qq 5]
 (.x 3 (.st 21) [.qz 2,.qz 1] none []
 (.out (qx [2,3,4,5] []))))))
 [2,3,4,5]
abbrev Au:NC:=.reg
 (.Q 0 (.fld 5) [.qq 3]
 (.Q 1 .ld [.qz 0]
 (.out (qx [2,3,4,5] [(39,.qz 1)]))))
 [2,3,4,5]
abbrev Ar:NC:=.reg
 (.Q 0 (.fld 43) [.qq 2]
 (.Q 1 (.lda 7) [.qz 0]
 (.Q 2 (.fld 43) [.qq 5]
 (.x 3 (.st 7) [.qz 2,.qz 1] none []
 (.out (qx [2,3,4,5] []))))))
 [2,3,4,5]
abbrev Ap:NC:=.reg
 (.Q 0 (.fld 6) [.qq 3]
 (.Q 1 .ld [.qz 0]
 (.out (qx [2,4,5] [(44,.qz 1)]))))
 [2,3,4,5]
abbrev Ao:NC:=.reg
 (.Q 0 (.fld 50) [.qq 2]
 (.Q 1 .ld [.qz 0]
 (.Q 2 (.fld 50) [.qq 5]
 (.x 3 (.st 1) [.qz 2,.qz 1] none []
 (.out (qx [4,5] []))))))
 [2,4,5]
abbrev An:NC:=.reg
 (.Q 0 (.lda 51) [.qq 5]
 (.x 1 (.st 51) [.qq 4,.qz 0] none []
 (.out [(4,.qq 4)])))
 [4,5]
abbrev lX:NC :=
 (.seq Df
 (.seq De
 (.seq (.seq Dd
 (.cond (.qq 14)
 Dc
 .skip))
 (.seq (.seq Db
 (.cond (.qq 19)
 Da
 .skip))
 (.seq (.seq DY
 (.cond (.qq 24)
 DW
 .skip))
 (.seq (.seq DV
 (.cond (.qq 29)
 DK
 .skip))
 (.seq (.seq AB
 (.cond (.qq 34)
 AA
 .skip))
 (.seq (.seq Au
 (.cond (.qq 39)
 Ar
 .skip))
 (.seq (.seq Ap
 (.cond (.qq 44)
 Ao
 .skip))
 (.seq An
 .ret))))))))))
abbrev lK:FN:=⟨lX,[.cells 4 51]⟩
theorem Dg:GoT 71 Tryz.f71 lX lK:=goT (F:=lK) Tryz.func71 (by kernel_rfl)
abbrev iw:NC:=.reg
 (.x 0 (.box 41) [.qq 0] none []
 (.out [(1,.qz 0)]))
 [0]
abbrev ik:NC:=.reg
 (.Q 0 (.fld 0) [.qq 1]
 (.Q 1 .ld [.qz 0]
 (.Q 2 (.icm .lss) [.qz 1,.qj 0]
 (.q 4 (.fld 0) [.qq 1] (some (.qz 2,false))
 (.q 5 .ld [.qz 4] (some (.qz 2,false))
 (.q 6 (.icm .gtr) [.qz 5,.qj 3] (some (.qz 2,false))
 (.Q 7 .pick [.qz 2,.const (.bool true),.qz 6]
 (.q 9 (.fld 1) [.qq 1] (some (.qz 7,false))
 (.q 10 (.lda 2) [.qz 9] (some (.qz 7,false))
 (.x 11 (.call 39) [.qz 10] (some (.qz 7,false)) []
 (.q 12 .not [.qz 11] (some (.qz 7,false))
 (.Q 13 .pick [.qz 7,.const (.bool true),.qz 12]
 (.q 15 (.fld 3) [.qq 1] (some (.qz 13,false))
 (.q 16 (.lda 2) [.qz 15] (some (.qz 13,false))
 (.x 17 (.call 39) [.qz 16] (some (.qz 13,false)) []
 (.q 18 .not [.qz 17] (some (.qz 13,false))
 (.Q 19 .pick [.qz 13,.const (.bool true),.qz 18]
 (.q 21 (.fld 1) [.qq 1] (some (.qz 19,false))
 (.q 22 (.lda 2) [.qz 21] (some (.qz 19,false))
 (.q 23 (.fld 3) [.qq 1] (some (.qz 19,false))
 (.q 24 (.lda 2) [.qz 23] (some (.qz 19,false))
 (.x 25 (.call 37) [.qz 22,.qz 24] (some (.qz 19,false)) []
 (.Q 26 .pick [.qz 19,.const (.bool true),.qz 25]
 (.out [(1,.qq 1),(29,.qz 26)]))))))))))))))))))))))))
 [1]
abbrev ij:NC:=.reg
 (.out [(2,.const (.bool false))])
 []
abbrev iz:NC:=.reg
 (.Q 0 (.fld 20) [.qq 1]
 (.Q 1 .ld [.qz 0]
 (.q 3 (.fld 0) [.qq 1] (some (.qz 1,true))
 (.q 4 .ld [.qz 3] (some (.qz 1,true))
 (.q 5 (.icm .neq) [.qz 4,.qj 1] (some (.qz 1,true))
 (.q 6 .mv [.qz 5] (some (.qz 1,true))
 (.q 7 (.fld 3) [.qq 1] (some (.qz 6,false))
 (.q 8 (.lda 2) [.qz 7] (some (.qz 6,false))
 (.q 9 (.bld [.int .i64 0,.int .i64 0] []) [] (some (.qz 6,false))
 (.q 10 (.eqc true [.i .i64,.i .i64]) [.qz 8,.qz 9] (some (.qz 6,false))
 (.q 11 .pick [.qz 6,.const (.bool true),.qz 10] (some (.qz 1,true))
 (.Q 12 .pick [.qz 1,.qz 11,.const (.bool false)]
 (.q 14 (.fld 0) [.qq 1] (some (.qz 12,false))
 (.q 15 .ld [.qz 14] (some (.qz 12,false))
 (.q 16 (.icm .eql) [.qz 15,.qj 0] (some (.qz 12,false))
 (.q 17 .mv [.qz 16] (some (.qz 12,false))
 (.q 18 (.lda 21) [.qq 1] (some (.qz 17,true))
 (.q 19 (.fld 1) [.qq 1] (some (.qz 17,true))
 (.q 20 (.lda 2) [.qz 19] (some (.qz 17,true))
 (.q 21 (.bld [.int .i64 0,.int .i64 0,.int .i64 0,.int .i64 0,.int .i64 0,.int .i64 0,.int .i64 0,.int .i64 0,(.string ⟨#[]⟩),(.string ⟨#[]⟩),(.string ⟨#[]⟩),(.string ⟨#[]⟩),.int .i64 0,.int .i64 0,.int .i64 0,.int .i64 0,.int .i64 0,.int .i64 0,.int .i64 0,.int .i64 0,.bool false] [(1,2)]) [.qz 20] (some (.qz 17,true))
 (.q 22 (.eqc true [.i .i64,.i .i64,.i .i64,.i .i64,.i .i64,.i .i64,.i .i64,.i .i64,.s,.s,.s,.s,.i .i64,.i .i64,.i .i64,.i .i64,.i .i64,.i .i64,.i .i64,.i .i64,.b]) [.qz 18,.qz 21] (some (.qz 17,true))
 (.q 23 .pick [.qz 17,.qz 22,.const (.bool false)] (some (.qz 12,false))
 (.Q 24 .pick [.qz 12,.const (.bool true),.qz 23]
 (.out [(1,.qq 1),(54,.qz 24)]))))))))))))))))))))))))
 [1]
abbrev iq:NC:=.reg
 (.out [(2,.const (.bool false))])
 []
abbrev hU:NC:=.reg
 (.Q 0 (.fld 5) [.qq 1]
 (.Q 1 (.lda 7) [.qz 0]
 (.x 2 (.call 18) [.qz 1] none []
 (.q 4 (.fld 12) [.qq 1] (some (.qz 2,true))
 (.q 5 (.lda 8) [.qz 4] (some (.qz 2,true))
 (.x 6 (.call 30) [.qz 5] (some (.qz 2,true)) []
 (.Q 7 .pick [.qz 2,.qz 6,.const (.bool false)]
 (.out [(2,.qz 7)]))))))))
 [1]
abbrev We:NC :=
 (.seq iw
 (.seq (.seq ik
 (.cond (.qq 29)
 (.seq ij
 .ret)
 .skip))
 (.seq (.seq iz
 (.cond (.qq 54)
 (.seq iq
 .ret)
 .skip))
 (.seq hU
 .ret))))
abbrev Wf:FN:=⟨We,[.qq 2]⟩
theorem iy:GoT 72 Tryz.f72 We Wf:=goT (F:=Wf) Tryz.func72 (by kernel_rfl)
abbrev oe:NC:=.reg
 (.x 0 (.box 41) [.qq 1] none []
 (.out [(0,.qq 0),(3,.qz 0)]))
 [0,1]
abbrev od:NC:=.reg
 (.Q 0 (.lda 21) [.qq 3]
 (.x 1 (.call 72) [.qz 0] none []
 (.Q 2 .not [.qz 1]
 (.out (qx [0,3] [(7,.qz 2)])))))
 [0,3]
abbrev ob:NC:=.reg
 (.x 1 (.app 5 1 1 [.int .u8 0]) [.const (.slice none 0 0),.qq 0] none []
 (.out [(4,.qz 1)]))
 [0]
abbrev oY:NC:=.reg
 (.Q 1 (.fld 0) [.qq 3]
 (.Q 2 .ld [.qz 1]
 (.Q 4 (.fld 1) [.qq 3]
 (.Q 5 (.lda 2) [.qz 4]
 (.x 3 (.call 97) [.qq 0,.qz 2] none [(5,.lda 2,[.qz 4],none)]
 (.x 6 (.call 122) [.qz 3,.qz 5] none []
 (.out [(0,.qz 6),(3,.qq 3)])))))))
 [0,3]
abbrev oW:NC:=.reg
 (.Q 0 (.fld 0) [.qq 3]
 (.Q 1 .ld [.qz 0]
 (.Q 2 (.icm .eql) [.qz 1,.qj 0]
 (.out (qx [0,3] [(19,.qz 2)])))))
 [0,3]
abbrev oV:NC:=.reg
 (.out [(4,.qq 0)])
 [0]
abbrev oK:NC:=.reg
 (.Q 1 (.fld 3) [.qq 3]
 (.Q 2 (.lda 2) [.qz 1]
 (.Q 4 (.fld 5) [.qq 3]
 (.Q 5 (.lda 7) [.qz 4]
 (.x 3 (.call 122) [.qq 0,.qz 2] none [(5,.lda 7,[.qz 4],none)]
 (.x 6 (.call 123) [.qz 3,.qz 5] none []
 (.out [(0,.qz 6),(3,.qq 3)])))))))
 [0,3]
abbrev oX:NC:=.reg
 (.Q 1 (.fld 12) [.qq 3]
 (.Q 2 (.lda 8) [.qz 1]
 (.Q 4 (.fld 20) [.qq 3]
 (.Q 5 .ld [.qz 4]
 (.x 3 (.call 125) [.qq 0,.qz 2] none [(5,.ld,[.qz 4],none)]
 (.x 6 (.call 124) [.qz 3,.qz 5] none []
 (.out [(4,.qz 6)])))))))
 [0,3]
abbrev aU:NC :=
 (.seq oe
 (.seq (.seq od
 (.cond (.qq 7)
 (.seq ob
 .ret)
 .skip))
 (.seq oY
 (.seq (.seq oW
 (.cond (.qq 19)
 (.seq oV
 .ret)
 .skip))
 (.seq oK
 (.seq oX
 .ret))))))
abbrev bq:FN:=⟨aU,[.qq 4]⟩
theorem og:GoT 96 Tryz.f96 aU bq:=goT (F:=bq) Tryz.func96 (by kernel_rfl)
abbrev sb:NC:=.reg
 (.x 0 (.box 35) [.qq 1] none []
 (.out [(0,.qq 0),(3,.qz 0)]))
 [0,1]
abbrev sY:NC:=.reg
 (.Q 1 (.fld 0) [.qq 3]
 (.Q 2 .ld [.qz 1]
 (.Q 4 (.fld 1) [.qq 3]
 (.Q 5 .ld [.qz 4]
 (.x 3 (.call 97) [.qq 0,.qz 2] none [(5,.ld,[.qz 4],none)]
 (.x 6 (.call 97) [.qz 3,.qz 5] none []
 (.out [(4,.qz 6)])))))))
 [0,3]
abbrev dx:NC :=
 (.seq sb
 (.seq sY
 .ret))
abbrev dw:FN:=⟨dx,[.qq 4]⟩
theorem sf:GoT 122 Tryz.f122 dx dw:=goT (F:=dw) Tryz.func122 (by kernel_rfl)
end Go.Fw
namespace Go.Fw
open Go.Proofs
abbrev Nj:NC:=.reg
 (.out (qx [0,1] []))
 [0,1]
abbrev Nz:NC:=.reg
 (.x 1 (.call 108) [.qq 0,.qj 10] none []
 (.x 3 (.call 126) [.qz 1,.qq 1] none []
 (.out [(4,.qz 3)])))
 [0,1]
abbrev Cg:NC :=
 (.seq Nj
 (.seq Nz
 .ret))
abbrev Ch:FN:=⟨Cg,[.qq 4]⟩
theorem Nk:GoT 97 Tryz.f97 Cg Ch:=goT (F:=Ch) Tryz.func97 (by kernel_rfl)
abbrev FQ:NC:=.reg
 (.out (qx [0,1] []))
 [0,1]
abbrev Fy:NC:=.reg
 (.Q 1 .len [.qq 0]
 (.Q 3 (.iar .add) [.qz 1,.qq 1]
 (.x 4 (.mks 5 1 [.int .u8 0]) [.qj 0,.qz 3] none []
 (.x 6 (.app 5 1 1 [.int .u8 0]) [.qz 4,.qq 0] none []
 (.out [(4,.qz 6)])))))
 [0,1]
abbrev nO:NC :=
 (.seq FQ
 (.seq Fy
 .ret))
abbrev nP:FN:=⟨nO,[.qq 4]⟩
theorem FZ:GoT 108 Tryz.f108 nO nP:=goT (F:=nP) Tryz.func108 (by kernel_rfl)
abbrev IW:NC:=.reg
 (.out (qx [0,1] []))
 [0,1]
abbrev IV:NC:=.reg
 (.out [(0,.qq 0),(5,.qq 1)])
 [0,1]
abbrev IK:NC:=.reg
 (.x 1 (.call 108) [.qq 0,.qj 1] none []
 (.x 2 (.bsl 5 1 [.int .u8 0] [(0,1)]) [.const (.int .u8 1)] none []
 (.x 3 (.app 5 1 1 [.int .u8 0]) [.qz 1,.qz 2] none []
 (.out [(4,.qz 3)]))))
 [0]
abbrev IX:NC:=.reg
 (.x 1 (.call 108) [.qq 0,.qj 1] none []
 (.x 2 (.bsl 5 1 [.int .u8 0] [(0,1)]) [.const (.int .u8 0)] none []
 (.x 3 (.app 5 1 1 [.int .u8 0]) [.qz 1,.qz 2] none []
 (.out [(4,.qz 3)]))))
 [0]
abbrev tM:NC :=
 (.seq IW
 (.seq (.seq IV
 (.cond (.qq 5)
 (.seq IK
 .ret)
 .skip))
 (.seq IX
 .ret)))
abbrev tN:FN:=⟨tM,[.qq 4]⟩
theorem IY:GoT 124 Tryz.f124 tM tN:=goT (F:=tN) Tryz.func124 (by kernel_rfl)
abbrev MT:NC:=.reg
 (.out (qx [0,1] []))
 [0,1]
abbrev MS:NC:=.reg
 (.x 1 (.call 144) [.qq 1] none []
 (.out [(0,.qq 0),(5,.qz 1)]))
 [0,1]
abbrev MR:NC:=.reg
 (.Q 1 (.icm .geq) [.qq 5,.const (.int .u64 128)]
 (.out (qx [0,5] [(9,.qz 1)])))
 [0,5]
abbrev MP:NC:=.reg
 (.Q 2 (.conv .u8) [.qq 5]
 (.Q 3 (.ibt .or) [.qz 2,.const (.int .u8 128)]
 (.x 4 (.bsl 5 1 [.int .u8 0] [(0,1)]) [.qz 3] none []
 (.x 5 (.app 5 1 1 [.int .u8 0]) [.qq 0,.qz 4] none []
 (.out [(0,.qz 5),(5,.qq 5)])))))
 [0,5]
abbrev MO:NC:=.reg
 (.Q 1 (.ish .shr) [.qq 5,.const (.int .u64 7)]
 (.out [(0,.qq 0),(5,.qz 1)]))
 [0,5]
abbrev MU:NC :=
 (.seq (.seq MR
 (.cond (.qq 9)
 .skip
 (.exit 0)))
 (.block 1 (.seq MP
 MO)))
abbrev MN:NC:=.reg
 (.Q 2 (.conv .u8) [.qq 5]
 (.x 3 (.bsl 5 1 [.int .u8 0] [(0,1)]) [.qz 2] none []
 (.x 4 (.app 5 1 1 [.int .u8 0]) [.qq 0,.qz 3] none []
 (.out [(4,.qz 4)]))))
 [0,5]
abbrev Ce:NC :=
 (.seq MT
 (.seq MS
 (.seq (.block 0 (.loop [0,5] MU))
 (.seq MN
 .ret))))
abbrev Cf:FN:=⟨Ce,[.qq 4]⟩
theorem Nq:GoT 126 Tryz.f126 Ce Cf:=goT (F:=Cf) Tryz.func126 (by kernel_rfl)
abbrev IZ:NC:=.reg
 (.out (qx [0,1] []))
 [0,1]
abbrev IQ:NC:=.reg
 (.Q 2 .lenz [.qq 1]
 (.Q 3 (.iar .add) [.qj 10,.qz 2]
 (.x 4 (.call 108) [.qq 0,.qz 3] none []
 (.Q 6 .lenz [.qq 1]
 (.x 7 (.call 126) [.qz 4,.qz 6] none []
 (.x 9 (.apps 5) [.qz 7,.qq 1] none []
 (.out [(4,.qz 9)])))))))
 [0,1]
abbrev tI:NC :=
 (.seq IZ
 (.seq IQ
 .ret))
abbrev tL:FN:=⟨tI,[.qq 4]⟩
theorem IJ:GoT 143 Tryz.f143 tI tL:=goT (F:=tL) Tryz.func143 (by kernel_rfl)
abbrev MX:NC:=.reg
 (.out [(0,.qq 0)])
 [0]
abbrev MJ:NC:=.reg
 (.Q 1 (.conv .u64) [.qq 0]
 (.Q 2 (.ish .shl) [.qz 1,.const (.int .u64 1)]
 (.Q 4 (.ish .shr) [.qq 0,.const (.int .u64 63)]
 (.Q 5 (.conv .u64) [.qz 4]
 (.Q 6 (.ibt .xor) [.qz 2,.qz 5]
 (.out [(2,.qz 6)]))))))
 [0]
abbrev Bf:NC :=
 (.seq MX
 (.seq MJ
 .ret))
abbrev Bg:FN:=⟨Bf,[.qq 2]⟩
theorem MK:GoT 144 Tryz.f144 Bf Bg:=goT (F:=Bg) Tryz.func144 (by kernel_rfl)
end Go.Fw
