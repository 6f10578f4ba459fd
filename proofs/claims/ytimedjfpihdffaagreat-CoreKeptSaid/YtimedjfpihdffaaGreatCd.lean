import Derived.Test.YtimedjfpihdffaaGreatFxA
import Derived.Test.YtimedjfpihdffaaGreatProg
set_option linter.unusedVariables false
set_option linter.unusedSimpArgs false
set_option maxHeartbeats 16000000
namespace Go.Fw
open Go.Proofs
abbrev jm:Nat:=5
abbrev qa:Nat:=25
abbrev qW:Nat:=27
abbrev qB:Nat:=30
abbrev cB:Nat:=35
abbrev qwI:Nat:=36
abbrev wm:Nat:=37
abbrev qb:Nat:=39
abbrev qd:Nat:=41
abbrev qw:Nat:=45
abbrev qg:Nat:=47
abbrev qm:Nat:=57
abbrev Oi:Nat:=66
abbrev qG:Nat:=83
abbrev qc:Nat:=88
abbrev qM:Nat:=92
abbrev qQ:Nat:=94
abbrev Kt:Nat:=98
abbrev qE:Nat:=102
abbrev qC:Nat:=113
abbrev AZ:Nat:=127
abbrev wi:Nat:=130
abbrev Is:Nat:=179
abbrev tm:Nat:=3
abbrev tn:Nat:=6
abbrev HY:Nat:=9
abbrev ir:Nat:=10
abbrev PG:Nat:=11
abbrev pe:Nat:=12
abbrev tF:Nat:=13
abbrev io:Nat:=14
abbrev po:Nat:=15
abbrev Ha:Nat:=16
abbrev Hb:Nat:=17
abbrev PM:Nat:=18
abbrev ii:Nat:=19
abbrev tE:Nat:=20
abbrev tG:Nat:=21
abbrev nh:Nat:=22
abbrev Ee:Nat:=24
abbrev BK:Nat:=25
abbrev tD:Nat:=26
abbrev HW:Nat:=28
abbrev il:Nat:=29
abbrev pg:Nat:=30
abbrev cE:Nat:=31
abbrev YY:Nat:=32
abbrev Ea:Nat:=33
abbrev tA:Nat:=34
abbrev tB:Nat:=35
abbrev nl:Nat:=36
abbrev MN:Nat:=37
abbrev PH:Nat:=38
abbrev ni:Nat:=39
abbrev MO:Nat:=40
abbrev Ue:Nat:=41
abbrev Ed:Nat:=42
abbrev BJ:Nat:=43
abbrev EY:Nat:=44
abbrev ph:Nat:=45
abbrev tr:Nat:=46
abbrev im:Nat:=47
abbrev ed:Nat:=48
abbrev PN:Nat:=49
abbrev HK:Nat:=50
abbrev IU:Nat:=51
abbrev pf:Nat:=52
abbrev XI:Nat:=53
abbrev MI:Nat:=54
abbrev lG:Nat:=55
abbrev aD:Nat:=56
abbrev QS:Nat:=57
abbrev YV:Nat:=58
abbrev BX:Nat:=59
abbrev BQ:Nat:=60
abbrev eW:Nat:=61
abbrev tC:Nat:=62
abbrev QR:Nat:=63
abbrev zR:Nat:=64
abbrev yE:Nat:=65
abbrev MM:Nat:=66
abbrev ML:Nat:=67
abbrev tu:Nat:=68
abbrev Ec:Nat:=69
abbrev Eb:Nat:=70
abbrev lH:Nat:=71
abbrev nY:Nat:=72
abbrev aC:Nat:=73
abbrev YW:Nat:=74
abbrev BZ:Nat:=75
abbrev HJ:Nat:=76
abbrev VH:Nat:=77
abbrev eY:Nat:=78
abbrev Uf:Nat:=79
abbrev MP:Nat:=80
abbrev ME:Nat:=81
abbrev EW:Nat:=82
abbrev PE:Nat:=83
abbrev pY:Nat:=84
abbrev ti:Nat:=85
abbrev pa:Nat:=86
abbrev qxQ:Nat:=87
abbrev KI:Nat:=88
abbrev MG:Nat:=89
abbrev VI:Nat:=90
abbrev jr:Nat:=91
abbrev pd:Nat:=92
abbrev PI:Nat:=93
abbrev js:Nat:=94
abbrev vN:Nat:=95
abbrev tg:Nat:=96
abbrev Ub:Nat:=97
abbrev jt:Nat:=98
abbrev vE:Nat:=99
abbrev XL:Nat:=100
abbrev PL:Nat:=101
abbrev pW:Nat:=102
abbrev HX:Nat:=103
abbrev pn:Nat:=104
abbrev qxy:Nat:=105
abbrev MF:Nat:=106
abbrev MD:Nat:=107
abbrev MH:Nat:=108
abbrev nJ:Nat:=109
abbrev UY:Nat:=110
abbrev nW:Nat:=111
abbrev qxJ:Nat:=112
abbrev Ud:Nat:=113
abbrev nK:Nat:=114
abbrev ie:Nat:=115
abbrev nV:Nat:=116
abbrev HV:Nat:=117
abbrev JK:Nat:=118
abbrev Bw:Nat:=119
abbrev By:Nat:=122
abbrev qxZ:Nat:=123
abbrev PF:Nat:=124
abbrev Uc:Nat:=125
abbrev Ua:Nat:=126
abbrev vO:Nat:=129
abbrev HZ:Nat:=130
abbrev nX:Nat:=131
abbrev vM:Nat:=132
abbrev pb:Nat:=141
abbrev PD:Nat:=143
abbrev UW:Nat:=144
abbrev ig:Nat:=146
theorem qvm:Tryz.prog.follows .mixedOrders=true:=by kernel_rfl
abbrev GoT (i:Nat) (f:Func) (c:NC) (F:FN):Prop:=∀ {args:List Value} {m:Mem} {R:Value→Mem→Prop},args.length≤f.ntmps→wpN Tryz.prog c (vL F.rvs R) (mK 0 args) m→MC Tryz.prog i args m R
theorem goT {i:Nat} {f:Func} {F:FN} (hf:Tryz.prog.funcs[i]?=some f) (hc:qjj Tryz.prog f=some F):GoT i f F.code F:=fun hn h=>qwO hf hc qvm hn h
def qx:List Nat→List (Nat×X)→List (Nat×X)
 | [],r=>r
 | k::l,r=>(k,.qq k)::qx l r
theorem qZg (r:List (Nat×X)):qx [] r=r:=rfl
theorem qwe (k:Nat) (l:List Nat) (r:List (Nat×X)):qx (k::l) r=(k,.qq k)::qx l r:=rfl
attribute [go_sem] qZg qwe
abbrev ET.Q (i:Nat) (o:RO) (a:List X) (k:ET):ET:=.q i o a none k
abbrev X.qj (n:Int):X:=.const (.int .i64 n)
abbrev zL0:List Value:=[.int .i64 0,.int .i64 0,.int .i64 0,.int .i64 0,.int .i64 0,.int .i64 0,.int .i64 0,.int .i64 0]
abbrev zL1:List Value:=[.bool false,.bool false,.bool false,.bool false,.bool false,.bool false,.bool false]
abbrev zL2:List Value:=[.int .i64 0,.int .i64 0,.int .i64 0,.int .i64 0,.int .i64 0,.int .i64 0,.int .i64 0]
abbrev zL3:List Value:=[.int .i64 0,.int .i64 0,.int .i64 0,.int .i64 0,.int .i64 0]
abbrev zL4:List Value:=[.int .i64 0,.int .i64 0,.int .i64 0,.int .i64 0,.int .i64 0,.int .i64 0,.int .i64 0,.int .i64 0,.int .i64 0,.int .i64 0,.int .i64 0,.int .i64 0,.int .i64 0,.int .i64 0,.int .i64 0,.int .i64 0]
end Go.Fw
namespace Go.Fw
open Go.Proofs
abbrev Ow:NC:=.reg
 (.x 0 (.box 30) [.qq 0] none []
 (.out [(1,.qz 0)]))
 [0]
abbrev Ov:NC:=.reg
 (.Q 0 (.lda 7) [.qq 1]
 (.Q 1 (.bld [.int .i64 0,.int .i64 0,.int .i64 0,(.string ⟨#[]⟩),(.string ⟨#[]⟩),(.string ⟨#[]⟩),(.string ⟨#[]⟩)] []) []
 (.Q 2 (.eqc false [.i .i64,.i .i64,.i .i64,.s,.s,.s,.s]) [.qz 0,.qz 1]
 (.out [(1,.qq 1),(6,.qz 2)]))))
 [1]
abbrev Ox:NC:=.reg
 (.out [(2,.const (.bool true))])
 []
abbrev Oj:NC:=.reg
 (.Q 0 (.fld 0) [.qq 1]
 (.Q 1 .ld [.qz 0]
 (.x 2 (.call 40) [.qz 1,.qj 5] none []
 (.Q 3 .not [.qz 2]
 (.q 5 (.fld 1) [.qq 1] (some (.qz 3,false))
 (.q 6 .ld [.qz 5] (some (.qz 3,false))
 (.x 7 (.call 40) [.qz 6,.qj 8] (some (.qz 3,false)) []
 (.q 8 .not [.qz 7] (some (.qz 3,false))
 (.Q 9 .pick [.qz 3,.const (.bool true),.qz 8]
 (.q 11 (.fld 2) [.qq 1] (some (.qz 9,false))
 (.q 12 .ld [.qz 11] (some (.qz 9,false))
 (.x 13 (.call 40) [.qz 12,.qj 1099511627776] (some (.qz 9,false)) []
 (.q 14 .not [.qz 13] (some (.qz 9,false))
 (.Q 15 .pick [.qz 9,.const (.bool true),.qz 14]
 (.q 17 (.lda 7) [.qq 1] (some (.qz 15,false))
 (.q 18 (.lda 7) [.qq 1] (some (.qz 15,false))
 (.x 19 (.call 41) [.qz 18] (some (.qz 15,false)) [(17,.lda 7,[.qq 1],(some (.qz 15,false)))]
 (.q 20 (.eqc true [.i .i64,.i .i64,.i .i64,.s,.s,.s,.s]) [.qz 17,.qz 19] (some (.qz 15,false))
 (.Q 21 .pick [.qz 15,.const (.bool true),.qz 20]
 (.out [(1,.qq 1),(28,.qz 21)]))))))))))))))))))))
 [1]
abbrev Oz:NC:=.reg
 (.out [(2,.const (.bool false))])
 []
abbrev Oq:NC:=.reg
 (.Q 0 (.fld 3) [.qq 1]
 (.Q 1 .ld [.qz 0]
 (.Q 2 .lenz [.qz 1]
 (.Q 3 (.icm .gtr) [.qz 2,.qj 16]
 (.q 5 (.fld 4) [.qq 1] (some (.qz 3,false))
 (.q 6 .ld [.qz 5] (some (.qz 3,false))
 (.q 7 .lenz [.qz 6] (some (.qz 3,false))
 (.q 8 (.icm .gtr) [.qz 7,.qj 16] (some (.qz 3,false))
 (.Q 9 .pick [.qz 3,.const (.bool true),.qz 8]
 (.q 11 (.fld 5) [.qq 1] (some (.qz 9,false))
 (.q 12 .ld [.qz 11] (some (.qz 9,false))
 (.q 13 .lenz [.qz 12] (some (.qz 9,false))
 (.q 14 (.icm .gtr) [.qz 13,.qj 64] (some (.qz 9,false))
 (.Q 15 .pick [.qz 9,.const (.bool true),.qz 14]
 (.q 17 (.fld 6) [.qq 1] (some (.qz 15,false))
 (.q 18 .ld [.qz 17] (some (.qz 15,false))
 (.q 19 .lenz [.qz 18] (some (.qz 15,false))
 (.q 20 (.icm .gtr) [.qz 19,.qj 64] (some (.qz 15,false))
 (.Q 21 .pick [.qz 15,.const (.bool true),.qz 20]
 (.out [(1,.qq 1),(3,.qz 21)]))))))))))))))))))))
 [1]
abbrev NU:NC:=.reg
 (.Q 1 .not [.qq 3]
 (.q 3 (.fld 3) [.qq 1] (some (.qz 1,true))
 (.q 4 .ld [.qz 3] (some (.qz 1,true))
 (.q 5 (.str .neq) [.qz 4,.const (.string ⟨#[]⟩)] (some (.qz 1,true))
 (.q 6 .mv [.qz 5] (some (.qz 1,true))
 (.q 7 (.fld 0) [.qq 1] (some (.qz 6,false))
 (.q 8 .ld [.qz 7] (some (.qz 6,false))
 (.q 9 (.icm .eql) [.qz 8,.qj 5] (some (.qz 6,false))
 (.q 10 .pick [.qz 6,.const (.bool true),.qz 9] (some (.qz 1,true))
 (.Q 11 .pick [.qz 1,.qz 10,.const (.bool false)]
 (.out [(2,.qz 11)])))))))))))
 [1,3]
abbrev AS:NC :=
 (.seq Ow
 (.seq (.seq Ov
 (.cond (.qq 6)
 (.seq Ox
 .ret)
 .skip))
 (.seq (.seq Oj
 (.cond (.qq 28)
 (.seq Oz
 .ret)
 .skip))
 (.seq Oq
 (.seq NU
 .ret)))))
abbrev AT:FN:=⟨AS,[.qq 2]⟩
theorem Oy:GoT 18 Tryz.f18 AS AT:=goT (F:=AT) Tryz.func18 (by kernel_rfl)
abbrev IJ:NC:=.reg
 (.x 0 (.box 39) [.qq 0] none []
 (.out [(1,.qz 0)]))
 [0]
abbrev IZ:NC:=.reg
 (.Q 0 (.fld 1) [.qq 1]
 (.Q 1 (.lda 7) [.qz 0]
 (.out [(1,.qq 1),(6,.qz 1),(7,.qj 0)])))
 [1]
abbrev IQ:NC:=.reg
 (.Q 0 (.icm .lss) [.qq 7,.qj 7]
 (.out (qx [1,6,7] [(8,.qz 0)])))
 [1,6,7]
abbrev Iy:NC:=.reg
 (.Q 0 (.idx 7 1) [.qq 6,.qq 7]
 (.out [(1,.qq 1),(4,.qz 0),(6,.qq 6),(7,.qq 7)]))
 [1,6,7]
abbrev Iw:NC:=.reg
 (.Q 1 (.icm .lss) [.qq 4,.qj 0]
 (.q 3 .mv [.qq 4] (some (.qz 1,false))
 (.q 4 (.icm .gtr) [.qz 3,.qj 1073741824] (some (.qz 1,false))
 (.Q 5 .pick [.qz 1,.const (.bool true),.qz 4]
 (.out (qx [1,6,7] [(15,.qz 5)]))))))
 [1,4,6,7]
abbrev Iv:NC:=.reg
 (.out [(2,.const (.bool false))])
 []
abbrev Ik:NC:=.reg
 (.Q 0 (.iar .add) [.qq 7,.qj 1]
 (.out (qx [1,6] [(7,.qz 0)])))
 [1,6,7]
abbrev IX:NC :=
 (.seq IQ
 (.seq (.cond (.qq 8)
 .skip
 (.exit 0))
 (.seq (.block 1 (.seq Iy
 (.seq Iw
 (.cond (.qq 15)
 (.seq Iv
 .ret)
 .skip))))
 Ik)))
abbrev Ix:NC:=.reg
 (.Q 0 (.fld 0) [.qq 1]
 (.Q 1 .ld [.qz 0]
 (.Q 2 (.icm .geq) [.qz 1,.qj 0]
 (.q 4 (.fld 0) [.qq 1] (some (.qz 2,true))
 (.q 5 .ld [.qz 4] (some (.qz 2,true))
 (.q 6 (.icm .leq) [.qz 5,.qj 1099511627776] (some (.qz 2,true))
 (.Q 7 .pick [.qz 2,.qz 6,.const (.bool false)]
 (.out [(2,.qz 7)]))))))))
 [1]
abbrev rL:NC :=
 (.seq IJ
 (.seq (.seq IZ
 (.block 0 (.loop [1,6,7] IX)))
 (.seq Ix
 .ret)))
abbrev rM:FN:=⟨rL,[.qq 2]⟩
theorem IK:GoT 30 Tryz.f30 rL rM:=goT (F:=rM) Tryz.func30 (by kernel_rfl)
abbrev Iq:NC:=.reg
 (.x 0 (.box 35) [.qq 0] none []
 (.x 1 (.box 35) [.qq 1] none []
 (.out [(2,.qz 0),(3,.qz 1)])))
 [0,1]
abbrev HU:NC:=.reg
 (.Q 0 (.fld 0) [.qq 2]
 (.Q 1 .ld [.qz 0]
 (.Q 2 (.fld 0) [.qq 3]
 (.Q 3 .ld [.qz 2]
 (.Q 4 (.icm .lss) [.qz 1,.qz 3]
 (.q 6 (.fld 0) [.qq 2] (some (.qz 4,false))
 (.q 7 .ld [.qz 6] (some (.qz 4,false))
 (.q 8 (.fld 0) [.qq 3] (some (.qz 4,false))
 (.q 9 .ld [.qz 8] (some (.qz 4,false))
 (.q 10 (.icm .eql) [.qz 7,.qz 9] (some (.qz 4,false))
 (.q 11 .mv [.qz 10] (some (.qz 4,false))
 (.q 12 (.fld 1) [.qq 2] (some (.qz 11,true))
 (.q 13 .ld [.qz 12] (some (.qz 11,true))
 (.q 14 (.fld 1) [.qq 3] (some (.qz 11,true))
 (.q 15 .ld [.qz 14] (some (.qz 11,true))
 (.q 16 (.icm .lss) [.qz 13,.qz 15] (some (.qz 11,true))
 (.q 17 .pick [.qz 11,.qz 16,.const (.bool false)] (some (.qz 4,false))
 (.Q 18 .pick [.qz 4,.const (.bool true),.qz 17]
 (.out [(4,.qz 18)])))))))))))))))))))
 [2,3]
abbrev ru:NC :=
 (.seq Iq
 (.seq HU
 .ret))
abbrev rA:FN:=⟨ru,[.qq 4]⟩
theorem Iz:GoT 37 Tryz.f37 ru rA:=goT (F:=rA) Tryz.func37 (by kernel_rfl)
abbrev Ny:NC:=.reg
 (.x 0 (.box 35) [.qq 0] none []
 (.x 1 (.alc [.int .i64 0,.int .i64 0] 35) [] none []
 (.out [(1,.qq 1),(2,.qz 0),(4,.qz 1)])))
 [0,1]
abbrev Nw:NC:=.reg
 (.Q 0 (.fld 0) [.qq 2]
 (.Q 1 .ld [.qz 0]
 (.Q 2 (.iar .add) [.qz 1,.qj 1]
 (.Q 4 (.bld [.int .i64 0,.int .i64 0] [(0,1),(1,1)]) [.qz 2,.qq 1]
 (.x 5 (.st 2) [.qq 4,.qz 4] none []
 (.out [(4,.qq 4)]))))))
 [1,2,4]
abbrev Ar:NC :=
 (.seq Ny
 (.seq Nw
 .ret))
abbrev Au:FN:=⟨Ar,[.cells 4 2]⟩
theorem NQ:GoT 38 Tryz.f38 Ar Au:=goT (F:=Au) Tryz.func38 (by kernel_rfl)
abbrev iR:NC:=.reg
 (.x 0 (.box 35) [.qq 0] none []
 (.out [(1,.qz 0)]))
 [0]
abbrev iO:NC:=.reg
 (.Q 0 (.fld 0) [.qq 1]
 (.Q 1 .ld [.qz 0]
 (.Q 2 (.icm .geq) [.qz 1,.qj 0]
 (.q 4 (.fld 0) [.qq 1] (some (.qz 2,true))
 (.q 5 .ld [.qz 4] (some (.qz 2,true))
 (.q 6 (.icm .leq) [.qz 5,.qj 1073741824] (some (.qz 2,true))
 (.Q 7 .pick [.qz 2,.qz 6,.const (.bool false)]
 (.q 9 (.fld 1) [.qq 1] (some (.qz 7,true))
 (.q 10 .ld [.qz 9] (some (.qz 7,true))
 (.q 11 (.icm .geq) [.qz 10,.qj 0] (some (.qz 7,true))
 (.Q 12 .pick [.qz 7,.qz 11,.const (.bool false)]
 (.q 14 (.fld 1) [.qq 1] (some (.qz 12,true))
 (.q 15 .ld [.qz 14] (some (.qz 12,true))
 (.q 16 (.icm .lss) [.qz 15,.qj 7] (some (.qz 12,true))
 (.Q 17 .pick [.qz 12,.qz 16,.const (.bool false)]
 (.out [(2,.qz 17)]))))))))))))))))
 [1]
abbrev WW:NC :=
 (.seq iR
 (.seq iO
 .ret))
abbrev WY:FN:=⟨WW,[.qq 2]⟩
theorem iS:GoT 39 Tryz.f39 WW WY:=goT (F:=WY) Tryz.func39 (by kernel_rfl)
abbrev Ie:NC:=.reg
 (.out (qx [0,1] []))
 [0,1]
abbrev Ic:NC:=.reg
 (.Q 1 (.icm .geq) [.qq 0,.qj 1]
 (.q 3 .mv [.qq 0] (some (.qz 1,true))
 (.q 4 .mv [.qq 1] (some (.qz 1,true))
 (.q 5 (.icm .leq) [.qz 3,.qz 4] (some (.qz 1,true))
 (.Q 6 .pick [.qz 1,.qz 5,.const (.bool false)]
 (.out [(4,.qz 6)]))))))
 [0,1]
abbrev sS:NC :=
 (.seq Ie
 (.seq Ic
 .ret))
abbrev sT:FN:=⟨sS,[.qq 4]⟩
theorem If:GoT 40 Tryz.f40 sS sT:=goT (F:=sT) Tryz.func40 (by kernel_rfl)
abbrev Sm:NC:=.reg
 (.x 0 (.box 30) [.qq 0] none []
 (.x 1 (.alc [.int .i64 0,.int .i64 0,.int .i64 0,(.string ⟨#[]⟩),(.string ⟨#[]⟩),(.string ⟨#[]⟩),(.string ⟨#[]⟩)] 30) [] none []
 (.out [(1,.qz 0),(2,.qz 1)])))
 [0]
abbrev Sl:NC:=.reg
 (.Q 0 (.fld 0) [.qq 1]
 (.Q 1 .ld [.qz 0]
 (.Q 2 (.fld 1) [.qq 1]
 (.Q 3 .ld [.qz 2]
 (.Q 4 (.fld 2) [.qq 1]
 (.Q 5 .ld [.qz 4]
 (.Q 6 (.fld 3) [.qq 1]
 (.Q 7 .ld [.qz 6]
 (.Q 8 (.bld [.int .i64 0,.int .i64 0,.int .i64 0,(.string ⟨#[]⟩),(.string ⟨#[]⟩),(.string ⟨#[]⟩),(.string ⟨#[]⟩)] [(0,1),(1,1),(2,1),(3,1)]) [.qz 1,.qz 3,.qz 5,.qz 7]
 (.x 9 (.alc [.int .i64 0,.int .i64 0,.int .i64 0,(.string ⟨#[]⟩),(.string ⟨#[]⟩),(.string ⟨#[]⟩),(.string ⟨#[]⟩)] 30) [] none []
 (.x 10 (.st 7) [.qz 9,.qz 8] none []
 (.out (qx [1,2] [(3,.qz 9)])))))))))))))
 [1,2]
abbrev Si:NC:=.reg
 (.Q 0 (.fld 0) [.qq 1]
 (.Q 1 .ld [.qz 0]
 (.out (qx [1,2,3] [(14,.qz 1)]))))
 [1,2,3]
abbrev Sh:NC:=.reg
 (.Q 0 (.icm .eql) [.qq 14,.qj 2]
 (.out (qx [1,2,3,14] [(15,.qz 0)])))
 [1,2,3,14]
abbrev Sg:NC:=.reg
 (.Q 0 (.fld 6) [.qq 1]
 (.Q 1 .ld [.qz 0]
 (.Q 2 (.fld 6) [.qq 3]
 (.x 3 (.st 1) [.qz 2,.qz 1] none []
 (.out (qx [2,3] []))))))
 [1,2,3]
abbrev Sf:NC:=.reg
 (.Q 0 (.icm .eql) [.qq 14,.qj 4]
 (.out (qx [1,2,3,14] [(20,.qz 0)])))
 [1,2,3,14]
abbrev Se:NC:=.reg
 (.Q 0 (.fld 5) [.qq 1]
 (.Q 1 .ld [.qz 0]
 (.Q 2 (.fld 6) [.qq 1]
 (.Q 3 .ld [.qz 2]
 (.Q 4 (.fld 5) [.qq 3]
 (.x 5 (.st 1) [.qz 4,.qz 1] none [(3,.ld,[.qz 2],none)]
 (.Q 6 (.fld 6) [.qq 3]
 (.x 7 (.st 1) [.qz 6,.qz 3] none []
 (.out (qx [2,3] []))))))))))
 [1,2,3]
abbrev Sc:NC:=.reg
 (.Q 0 (.icm .eql) [.qq 14,.qj 5]
 (.out (qx [1,2,3] [(28,.qz 0)])))
 [1,2,3,14]
abbrev Sb:NC:=.reg
 (.Q 0 (.fld 4) [.qq 1]
 (.Q 1 .ld [.qz 0]
 (.Q 2 (.fld 4) [.qq 3]
 (.x 3 (.st 1) [.qz 2,.qz 1] none []
 (.out (qx [2,3] []))))))
 [1,2,3]
abbrev Sa:NC:=.reg
 (.Q 0 (.lda 7) [.qq 3]
 (.x 1 (.st 7) [.qq 2,.qz 0] none []
 (.out [(2,.qq 2)])))
 [2,3]
abbrev GZ:NC :=
 (.seq Sm
 (.seq Sl
 (.seq (.seq Si
 (.block 0 (.seq Sh
 (.cond (.qq 15)
 Sg
 (.seq Sf
 (.cond (.qq 20)
 Se
 (.seq Sc
 (.cond (.qq 28)
 Sb
 .skip))))))))
 (.seq Sa
 .ret))))
abbrev GJ:FN:=⟨GZ,[.cells 2 7]⟩
theorem Sn:GoT 41 Tryz.f41 GZ GJ:=goT (F:=GJ) Tryz.func41 (by kernel_rfl)
abbrev OV:NC:=.reg
 (.x 0 (.box 30) [.qq 0] none []
 (.x 1 (.box 30) [.qq 1] none []
 (.out [(2,.qz 0),(3,.qz 1)])))
 [0,1]
abbrev OK:NC:=.reg
 (.Q 0 (.lda 7) [.qq 2]
 (.x 1 (.call 79) [.qz 0] none []
 (.Q 3 (.ext 0) [.qz 1]
 (.Q 4 (.ext 1) [.qz 1]
 (.x 5 (.alc [(.string ⟨#[]⟩),(.string ⟨#[]⟩)] 147) [] none []
 (.x 6 (.st 2) [.qz 5,.qz 3] none []
 (.out (qx [2,3] [(5,.qz 5),(6,.qz 4)]))))))))
 [2,3]
abbrev OX:NC:=.reg
 (.Q 0 (.lda 7) [.qq 3]
 (.x 1 (.call 79) [.qz 0] none []
 (.Q 3 (.ext 0) [.qz 1]
 (.Q 4 (.ext 1) [.qz 1]
 (.x 5 (.alc [(.string ⟨#[]⟩),(.string ⟨#[]⟩)] 147) [] none []
 (.x 6 (.st 2) [.qz 5,.qz 3] none []
 (.out (qx [2,3,5,6] [(7,.qz 5),(8,.qz 4)]))))))))
 [2,3,5,6]
abbrev OJ:NC:=.reg
 (.Q 1 .not [.qq 6]
 (.q 3 .mv [.qq 8] (some (.qz 1,false))
 (.q 4 .not [.qz 3] (some (.qz 1,false))
 (.Q 5 .pick [.qz 1,.const (.bool true),.qz 4]
 (.out (qx [2,3,5,7] [(24,.qz 5)]))))))
 [2,3,5,6,7,8]
abbrev OZ:NC:=.reg
 (.out [(4,.const (.bool false))])
 []
abbrev OQ:NC:=.reg
 (.Q 0 (.fld 1) [.qq 2]
 (.Q 1 .ld [.qz 0]
 (.Q 2 (.fld 1) [.qq 3]
 (.Q 3 .ld [.qz 2]
 (.Q 4 (.icm .eql) [.qz 1,.qz 3]
 (.q 6 (.lda 7) [.qq 2] (some (.qz 4,false))
 (.x 7 (.call 80) [.qz 6] (some (.qz 4,false)) []
 (.q 8 .mv [.qz 7] (some (.qz 4,false))
 (.q 9 (.lda 7) [.qq 3] (some (.qz 8,false))
 (.x 10 (.call 80) [.qz 9] (some (.qz 8,false)) []
 (.q 11 .pick [.qz 8,.const (.bool true),.qz 10] (some (.qz 4,false))
 (.q 12 .mv [.qz 11] (some (.qz 4,false))
 (.q 13 (.lda 2) [.qq 5] (some (.qz 12,true))
 (.q 14 (.lda 2) [.qq 7] (some (.qz 12,true))
 (.x 15 (.call 81) [.qz 13,.qz 14] (some (.qz 12,true)) []
 (.q 16 .pick [.qz 12,.qz 15,.const (.bool false)] (some (.qz 4,false))
 (.Q 17 .pick [.qz 4,.const (.bool true),.qz 16]
 (.out [(4,.qz 17)]))))))))))))))))))
 [2,3,5,7]
abbrev AU:NC :=
 (.seq OV
 (.seq OK
 (.seq OX
 (.seq (.seq OJ
 (.cond (.qq 24)
 (.seq OZ
 .ret)
 .skip))
 (.seq OQ
 .ret)))))
abbrev Bq:FN:=⟨AU,[.qq 4]⟩
theorem OW:GoT 49 Tryz.f49 AU Bq:=goT (F:=Bq) Tryz.func49 (by kernel_rfl)
abbrev HS:NC:=.reg
 (.x 0 (.box 25) [.qq 0] none []
 (.out [(1,.qz 0)]))
 [0]
abbrev HR:NC:=.reg
 (.Q 0 (.fld 0) [.qq 1]
 (.Q 1 .ld [.qz 0]
 (.Q 2 (.icm .geq) [.qz 1,.qj 0]
 (.q 4 (.fld 0) [.qq 1] (some (.qz 2,true))
 (.q 5 .ld [.qz 4] (some (.qz 2,true))
 (.q 6 (.icm .lss) [.qz 5,.qj 7] (some (.qz 2,true))
 (.Q 7 .pick [.qz 2,.qz 6,.const (.bool false)]
 (.q 9 (.fld 1) [.qq 1] (some (.qz 7,true))
 (.q 10 .ld [.qz 9] (some (.qz 7,true))
 (.q 11 (.icm .geq) [.qz 10,.qj 1] (some (.qz 7,true))
 (.Q 12 .pick [.qz 7,.qz 11,.const (.bool false)]
 (.q 14 (.fld 1) [.qq 1] (some (.qz 12,true))
 (.q 15 .ld [.qz 14] (some (.qz 12,true))
 (.q 16 (.icm .leq) [.qz 15,.qj 1073741824] (some (.qz 12,true))
 (.Q 17 .pick [.qz 12,.qz 16,.const (.bool false)]
 (.out [(2,.qz 17)]))))))))))))))))
 [1]
abbrev rm:NC :=
 (.seq HS
 (.seq HR
 .ret))
abbrev rn:FN:=⟨rm,[.qq 2]⟩
theorem HT:GoT 66 Tryz.f66 rm rn:=goT (F:=rn) Tryz.func66 (by kernel_rfl)
abbrev SM:NC:=.reg
 (.x 0 (.box 30) [.qq 0] none []
 (.x 1 (.alc [(.string ⟨#[]⟩),(.string ⟨#[]⟩)] 147) [] none []
 (.out [(1,.qz 0),(2,.qz 1)])))
 [0]
abbrev SL:NC:=.reg
 (.Q 0 (.fld 0) [.qq 1]
 (.Q 1 .ld [.qz 0]
 (.out (qx [1,2] [(5,.qz 1)]))))
 [1,2]
abbrev SI:NC:=.reg
 (.Q 0 (.icm .eql) [.qq 5,.qj 1]
 (.out (qx [1,2,5] [(6,.qz 0)])))
 [1,2,5]
abbrev SH:NC:=.reg
 (.Q 0 (.icm .eql) [.qq 5,.qj 2]
 (.out (qx [1,2,5] [(6,.qz 0)])))
 [1,2,5]
abbrev SG:NC:=.reg
 (.Q 0 (.icm .eql) [.qq 5,.qj 3]
 (.out (qx [1,2,5] [(6,.qz 0)])))
 [1,2,5]
abbrev SF:NC:=.reg
 (.Q 0 (.icm .eql) [.qq 5,.qj 4]
 (.out (qx [1,2,5] [(6,.qz 0)])))
 [1,2,5]
abbrev SE:NC:=.reg
 (.Q 0 (.fld 3) [.qq 1]
 (.Q 1 .ld [.qz 0]
 (.x 2 (.call 105) [.qz 1] none []
 (.x 3 (.st 2) [.qq 2,.qz 2] none []
 (.out [(2,.qq 2),(3,.const (.bool true))])))))
 [1,2]
abbrev SD:NC:=.reg
 (.Q 0 (.icm .eql) [.qq 5,.qj 5]
 (.out (qx [1,2] [(14,.qz 0)])))
 [1,2,5]
abbrev SC:NC:=.reg
 (.Q 0 (.fld 3) [.qq 1]
 (.Q 1 .ld [.qz 0]
 (.Q 2 (.fld 4) [.qq 1]
 (.Q 3 .ld [.qz 2]
 (.Q 4 (.bld [(.string ⟨#[]⟩),(.string ⟨#[]⟩)] [(0,1),(1,1)]) [.qz 1,.qz 3]
 (.x 5 (.st 2) [.qq 2,.qz 4] none []
 (.out [(2,.qq 2),(3,.const (.bool true))])))))))
 [1,2]
abbrev SB:NC:=.reg
 (.Q 0 (.bld [(.string ⟨#[]⟩),(.string ⟨#[]⟩)] []) []
 (.x 1 (.st 2) [.qq 2,.qz 0] none []
 (.out [(2,.qq 2),(3,.const (.bool false))])))
 [2]
abbrev GX:NC :=
 (.seq SM
 (.seq (.seq SL
 (.block 0 (.seq (.seq SI
 (.cond (.qq 6)
 .skip
 (.seq SH
 (.cond (.qq 6)
 .skip
 (.seq SG
 (.cond (.qq 6)
 .skip
 SF))))))
 (.cond (.qq 6)
 (.seq SE
 .ret)
 (.seq SD
 (.cond (.qq 14)
 (.seq SC
 .ret)
 .skip))))))
 (.seq SB
 .ret)))
abbrev GK:FN:=⟨GX,[.cells 2 2,.qq 3]⟩
theorem SN:GoT 79 Tryz.f79 GX GK:=goT (F:=GK) Tryz.func79 (by kernel_rfl)
abbrev Ih:NC:=.reg
 (.x 0 (.box 30) [.qq 0] none []
 (.out [(1,.qz 0)]))
 [0]
abbrev Ig:NC:=.reg
 (.Q 0 (.fld 0) [.qq 1]
 (.Q 1 .ld [.qz 0]
 (.Q 2 (.icm .eql) [.qz 1,.qj 2]
 (.q 4 (.fld 0) [.qq 1] (some (.qz 2,false))
 (.q 5 .ld [.qz 4] (some (.qz 2,false))
 (.q 6 (.icm .eql) [.qz 5,.qj 3] (some (.qz 2,false))
 (.Q 7 .pick [.qz 2,.const (.bool true),.qz 6]
 (.q 9 (.fld 0) [.qq 1] (some (.qz 7,false))
 (.q 10 .ld [.qz 9] (some (.qz 7,false))
 (.q 11 (.icm .eql) [.qz 10,.qj 4] (some (.qz 7,false))
 (.Q 12 .pick [.qz 7,.const (.bool true),.qz 11]
 (.out [(2,.qz 12)]))))))))))))
 [1]
abbrev sU:NC :=
 (.seq Ih
 (.seq Ig
 .ret))
abbrev tq:FN:=⟨sU,[.qq 2]⟩
theorem Ii:GoT 80 Tryz.f80 sU tq:=goT (F:=tq) Tryz.func80 (by kernel_rfl)
abbrev Gu:NC:=.reg
 (.x 0 (.box 147) [.qq 0] none []
 (.x 1 (.box 147) [.qq 1] none []
 (.out [(2,.qz 0),(3,.qz 1)])))
 [0,1]
abbrev Gt:NC:=.reg
 (.Q 0 (.lda 2) [.qq 2]
 (.x 1 (.call 106) [.qz 0] none []
 (.Q 2 .not [.qz 1]
 (.q 4 (.lda 2) [.qq 3] (some (.qz 2,true))
 (.x 5 (.call 106) [.qz 4] (some (.qz 2,true)) []
 (.q 6 .not [.qz 5] (some (.qz 2,true))
 (.Q 7 .pick [.qz 2,.qz 6,.const (.bool false)]
 (.q 9 (.fld 0) [.qq 2] (some (.qz 7,true))
 (.q 10 .ld [.qz 9] (some (.qz 7,true))
 (.q 11 (.fld 1) [.qq 3] (some (.qz 7,true))
 (.q 12 .ld [.qz 11] (some (.qz 7,true))
 (.x 13 (.call 107) [.qz 10,.qz 12] (some (.qz 7,true)) []
 (.Q 14 .pick [.qz 7,.qz 13,.const (.bool false)]
 (.q 16 (.fld 0) [.qq 3] (some (.qz 14,true))
 (.q 17 .ld [.qz 16] (some (.qz 14,true))
 (.q 18 (.fld 1) [.qq 2] (some (.qz 14,true))
 (.q 19 .ld [.qz 18] (some (.qz 14,true))
 (.x 20 (.call 107) [.qz 17,.qz 19] (some (.qz 14,true)) []
 (.Q 21 .pick [.qz 14,.qz 20,.const (.bool false)]
 (.out [(4,.qz 21)]))))))))))))))))))))
 [2,3]
abbrev oO:NC :=
 (.seq Gu
 (.seq Gt
 .ret))
abbrev oP:FN:=⟨oO,[.qq 4]⟩
theorem GA:GoT 81 Tryz.f81 oO oP:=goT (F:=oP) Tryz.func81 (by kernel_rfl)
abbrev NJ:NC:=.reg
 (.x 0 (.box 25) [.qq 0] none []
 (.x 1 (.box 25) [.qq 1] none []
 (.out [(2,.qz 0),(3,.qz 1)])))
 [0,1]
abbrev NZ:NC:=.reg
 (.Q 0 (.fld 0) [.qq 2]
 (.Q 1 .ld [.qz 0]
 (.Q 2 (.fld 0) [.qq 3]
 (.Q 3 .ld [.qz 2]
 (.Q 4 (.icm .lss) [.qz 1,.qz 3]
 (.q 6 (.fld 0) [.qq 2] (some (.qz 4,false))
 (.q 7 .ld [.qz 6] (some (.qz 4,false))
 (.q 8 (.fld 0) [.qq 3] (some (.qz 4,false))
 (.q 9 .ld [.qz 8] (some (.qz 4,false))
 (.q 10 (.icm .eql) [.qz 7,.qz 9] (some (.qz 4,false))
 (.q 11 .mv [.qz 10] (some (.qz 4,false))
 (.q 12 (.fld 1) [.qq 2] (some (.qz 11,true))
 (.q 13 .ld [.qz 12] (some (.qz 11,true))
 (.q 14 (.fld 1) [.qq 3] (some (.qz 11,true))
 (.q 15 .ld [.qz 14] (some (.qz 11,true))
 (.q 16 (.icm .lss) [.qz 13,.qz 15] (some (.qz 11,true))
 (.q 17 .pick [.qz 11,.qz 16,.const (.bool false)] (some (.qz 4,false))
 (.Q 18 .pick [.qz 4,.const (.bool true),.qz 17]
 (.out [(4,.qz 18)])))))))))))))))))))
 [2,3]
abbrev AA:NC :=
 (.seq NJ
 (.seq NZ
 .ret))
abbrev AB:FN:=⟨AA,[.qq 4]⟩
theorem NX:GoT 93 Tryz.f93 AA AB:=goT (F:=AB) Tryz.func93 (by kernel_rfl)
abbrev NB:NC:=.reg
 (.x 0 (.alc zL0 39) [] none []
 (.out [(0,.qq 0),(2,.qz 0)]))
 [0]
abbrev NA:NC:=.reg
 (.Q 1 .len [.qq 0]
 (.Q 2 (.icm .eql) [.qz 1,.qj 0]
 (.out (qx [0,2] [(10,.qz 2)]))))
 [0,2]
abbrev Nu:NC:=.reg
 (.Q 0 (.bld zL0 []) []
 (.x 1 (.st 8) [.qq 2,.qz 0] none []
 (.out [(2,.qq 2)])))
 [2]
abbrev Nt:NC:=.reg
 (.Q 1 (.ixs 8) [.qq 0,.qj 0]
 (.Q 2 (.lda 8) [.qz 1]
 (.x 3 (.alc zL0 39) [] none []
 (.x 4 (.st 8) [.qz 3,.qz 2] none []
 (.out (qx [0,2] [(3,.qz 3)]))))))
 [0,2]
abbrev Ns:NC:=.reg
 (.Q 1 (.slc 8 true false) [.qq 0,.qj 1]
 (.Q 2 .len [.qz 1]
 (.out (qx [2,3] [(16,.qz 1),(17,.qz 2),(18,.qj 0)]))))
 [0,2,3]
abbrev Nr:NC:=.reg
 (.Q 0 (.icm .lss) [.qq 18,.qq 17]
 (.out (qx [2,3,16,17,18] [(19,.qz 0)])))
 [2,3,16,17,18]
abbrev Np:NC:=.reg
 (.Q 0 (.ixs 8) [.qq 16,.qq 18]
 (.Q 1 (.lda 8) [.qz 0]
 (.x 2 (.alc zL0 39) [] none []
 (.x 3 (.st 8) [.qz 2,.qz 1] none []
 (.out (qx [2,3] [(5,.qz 2),(16,.qq 16),(17,.qq 17),(18,.qq 18)]))))))
 [2,3,16,17,18]
abbrev Nn:NC:=.reg
 (.Q 0 (.fld 0) [.qq 3]
 (.Q 1 .ld [.qz 0]
 (.Q 2 (.fld 0) [.qq 5]
 (.Q 3 .ld [.qz 2]
 (.Q 4 .mx [.qz 1,.qz 3]
 (.Q 5 (.fld 0) [.qq 3]
 (.x 6 (.st 1) [.qz 5,.qz 4] none []
 (.out (qx [2,3,5,16,17,18] [])))))))))
 [2,3,5,16,17,18]
abbrev Nl:NC:=.reg
 (.Q 0 (.fld 1) [.qq 5]
 (.Q 1 (.lda 7) [.qz 0]
 (.out (qx [2,3,16,17,18] [(29,.qz 1),(30,.qj 0)]))))
 [2,3,5,16,17,18]
abbrev Ni:NC:=.reg
 (.Q 0 (.icm .lss) [.qq 30,.qj 7]
 (.out (qx [2,3,16,17,18,29,30] [(31,.qz 0)])))
 [2,3,16,17,18,29,30]
abbrev Ib:NC:=.reg
 (.Q 1 (.idx 7 1) [.qq 29,.qq 30]
 (.out (qx [2,3] [(6,.qq 30),(7,.qz 1),(16,.qq 16),(17,.qq 17),(18,.qq 18),(29,.qq 29),(30,.qq 30)])))
 [2,3,16,17,18,29,30]
abbrev Ia:NC:=.reg
 (.Q 2 (.fld 1) [.qq 3]
 (.Q 3 (.ixa 7 1) [.qz 2,.qq 6]
 (.Q 4 .ld [.qz 3]
 (.Q 6 .mx [.qz 4,.qq 7]
 (.Q 7 (.fld 1) [.qq 3]
 (.Q 8 (.ixa 7 1) [.qz 7,.qq 6]
 (.x 9 (.st 1) [.qz 8,.qz 6] none []
 (.out (qx [2,3,16,17,18,29,30] [])))))))))
 [2,3,6,7,16,17,18,29,30]
abbrev IY:NC:=.reg
 (.Q 0 (.iar .add) [.qq 30,.qj 1]
 (.out (qx [2,3,16,17,18,29] [(30,.qz 0)])))
 [2,3,16,17,18,29,30]
abbrev NE:NC :=
 (.seq Ni
 (.seq (.cond (.qq 31)
 .skip
 (.exit 2))
 (.seq (.block 3 (.seq Ib
 Ia))
 IY)))
abbrev IW:NC:=.reg
 (.Q 0 (.iar .add) [.qq 18,.qj 1]
 (.out (qx [2,3,16,17] [(18,.qz 0)])))
 [2,3,16,17,18]
abbrev ND:NC :=
 (.seq Nr
 (.seq (.cond (.qq 19)
 .skip
 (.exit 0))
 (.seq (.block 1 (.seq Np
 (.seq Nn
 (.seq Nl
 (.block 2 (.loop [2,3,16,17,18,29,30] NE))))))
 IW)))
abbrev IV:NC:=.reg
 (.Q 0 (.lda 8) [.qq 3]
 (.x 1 (.st 8) [.qq 2,.qz 0] none []
 (.out [(2,.qq 2)])))
 [2,3]
abbrev AG:NC :=
 (.seq NB
 (.seq (.seq NA
 (.cond (.qq 10)
 (.seq Nu
 .ret)
 .skip))
 (.seq Nt
 (.seq (.seq Ns
 (.block 0 (.loop [2,3,16,17,18] ND)))
 (.seq IV
 .ret)))))
abbrev AH:FN:=⟨AG,[.cells 2 8]⟩
theorem NF:GoT 101 Tryz.f101 AG AH:=goT (F:=AH) Tryz.func101 (by kernel_rfl)
abbrev TC:NC:=.reg
 (.x 0 (.alc [(.string ⟨#[]⟩),(.string ⟨#[]⟩)] 147) [] none []
 (.out [(0,.qq 0),(2,.qz 0)]))
 [0]
abbrev TB:NC:=.reg
 (.Q 2 (.str .add) [.qq 0,.const (.string ⟨#[0]⟩)]
 (.Q 3 (.bld [(.string ⟨#[]⟩),(.string ⟨#[]⟩)] [(0,1),(1,1)]) [.qq 0,.qz 2]
 (.x 4 (.st 2) [.qq 2,.qz 3] none []
 (.out [(2,.qq 2)]))))
 [0,2]
abbrev ID:NC :=
 (.seq TC
 (.seq TB
 .ret))
abbrev IE:FN:=⟨ID,[.cells 2 2]⟩
theorem TF:GoT 105 Tryz.f105 ID IE:=goT (F:=IE) Tryz.func105 (by kernel_rfl)
abbrev GC:NC:=.reg
 (.x 0 (.box 147) [.qq 0] none []
 (.out [(1,.qz 0)]))
 [0]
abbrev GB:NC:=.reg
 (.Q 0 (.fld 0) [.qq 1]
 (.Q 1 .ld [.qz 0]
 (.Q 2 (.fld 1) [.qq 1]
 (.Q 3 .ld [.qz 2]
 (.x 4 (.call 107) [.qz 1,.qz 3] none []
 (.Q 5 .not [.qz 4]
 (.out [(2,.qz 5)])))))))
 [1]
abbrev oR:NC :=
 (.seq GC
 (.seq GB
 .ret))
abbrev oS:FN:=⟨oR,[.qq 2]⟩
theorem GD:GoT 106 Tryz.f106 oR oS:=goT (F:=oS) Tryz.func106 (by kernel_rfl)
abbrev Gr:NC:=.reg
 (.out (qx [0,1] []))
 [0,1]
abbrev Gp:NC:=.reg
 (.Q 1 (.str .eql) [.qq 1,.const (.string ⟨#[]⟩)]
 (.q 3 .mv [.qq 0] (some (.qz 1,false))
 (.q 4 .mv [.qq 1] (some (.qz 1,false))
 (.q 5 (.str .lss) [.qz 3,.qz 4] (some (.qz 1,false))
 (.Q 6 .pick [.qz 1,.const (.bool true),.qz 5]
 (.out [(4,.qz 6)]))))))
 [0,1]
abbrev oM:NC :=
 (.seq Gr
 (.seq Gp
 .ret))
abbrev oN:FN:=⟨oM,[.qq 4]⟩
theorem Gs:GoT 107 Tryz.f107 oM oN:=goT (F:=oN) Tryz.func107 (by kernel_rfl)
abbrev qqr:NC:=.reg
 (.x 0 (.alc [.int .i64 0,.int .i64 0,.int .i64 0,(.string ⟨#[]⟩),(.string ⟨#[]⟩),(.string ⟨#[]⟩),(.string ⟨#[]⟩)] 30) [] none []
 (.out [(0,.qq 0),(2,.qz 0)]))
 [0]
abbrev qqp:NC:=.reg
 (.x 1 (.call 84) [.qq 0] none []
 (.Q 2 (.bld [.int .i64 0,.int .i64 0,.int .i64 0,(.string ⟨#[]⟩),(.string ⟨#[]⟩),(.string ⟨#[]⟩),(.string ⟨#[]⟩)] [(0,1)]) [.qz 1]
 (.x 3 (.alc [.int .i64 0,.int .i64 0,.int .i64 0,(.string ⟨#[]⟩),(.string ⟨#[]⟩),(.string ⟨#[]⟩),(.string ⟨#[]⟩)] 30) [] none []
 (.x 4 (.st 7) [.qz 3,.qz 2] none []
 (.out (qx [0,2] [(3,.qz 3)]))))))
 [0,2]
abbrev qqo:NC:=.reg
 (.Q 0 (.fld 0) [.qq 3]
 (.Q 1 .ld [.qz 0]
 (.Q 2 (.icm .neq) [.qz 1,.qj 0]
 (.out (qx [0,2,3] [(9,.qz 2)])))))
 [0,2,3]
abbrev qqn:NC:=.reg
 (.x 1 (.call 84) [.qq 0] none []
 (.Q 2 (.fld 1) [.qq 3]
 (.x 3 (.st 1) [.qz 2,.qz 1] none []
 (.out (qx [0,2,3] [])))))
 [0,2,3]
abbrev qqm:NC:=.reg
 (.x 1 (.call 84) [.qq 0] none []
 (.Q 2 (.fld 2) [.qq 3]
 (.x 3 (.st 1) [.qz 2,.qz 1] none []
 (.out (qx [0,2,3] [])))))
 [0,2,3]
abbrev qql:NC:=.reg
 (.x 1 (.call 131) [.qq 0,.qj 16] none []
 (.Q 2 (.fld 3) [.qq 3]
 (.x 3 (.st 1) [.qz 2,.qz 1] none []
 (.out (qx [0,2,3] [])))))
 [0,2,3]
abbrev qqi:NC:=.reg
 (.Q 0 (.fld 0) [.qq 3]
 (.Q 1 .ld [.qz 0]
 (.out (qx [0,2,3] [(20,.qz 1)]))))
 [0,2,3]
abbrev qqh:NC:=.reg
 (.Q 0 (.icm .eql) [.qq 20,.qj 2]
 (.out (qx [0,2,3,20] [(21,.qz 0)])))
 [0,2,3,20]
abbrev qqg:NC:=.reg
 (.x 1 (.call 131) [.qq 0,.qj 64] none []
 (.Q 2 (.fld 6) [.qq 3]
 (.x 3 (.st 1) [.qz 2,.qz 1] none []
 (.out (qx [0,2,3] [])))))
 [0,2,3]
abbrev qqf:NC:=.reg
 (.Q 0 (.icm .eql) [.qq 20,.qj 4]
 (.out (qx [0,2,3,20] [(26,.qz 0)])))
 [0,2,3,20]
abbrev Tx:NC:=.reg
 (.x 1 (.call 131) [.qq 0,.qj 64] none []
 (.Q 2 (.fld 5) [.qq 3]
 (.x 3 (.st 1) [.qz 2,.qz 1] none []
 (.out (qx [0,2,3] [])))))
 [0,2,3]
abbrev Tj:NC:=.reg
 (.x 1 (.call 131) [.qq 0,.qj 64] none []
 (.Q 2 (.fld 6) [.qq 3]
 (.x 3 (.st 1) [.qz 2,.qz 1] none []
 (.out (qx [0,2,3] [])))))
 [0,2,3]
abbrev Tz:NC:=.reg
 (.Q 0 (.icm .eql) [.qq 20,.qj 5]
 (.out (qx [0,2,3] [(34,.qz 0)])))
 [0,2,3,20]
abbrev Tq:NC:=.reg
 (.x 1 (.call 131) [.qq 0,.qj 16] none []
 (.Q 2 (.fld 4) [.qq 3]
 (.x 3 (.st 1) [.qz 2,.qz 1] none []
 (.out (qx [0,2,3] [])))))
 [0,2,3]
abbrev SU:NC:=.reg
 (.x 1 (.call 115) [.qq 0] none []
 (.Q 2 (.icm .eql) [.qz 1,.qj 0]
 (.q 4 (.lda 7) [.qq 3] (some (.qz 2,true))
 (.x 5 (.call 18) [.qz 4] (some (.qz 2,true)) []
 (.q 6 .not [.qz 5] (some (.qz 2,true))
 (.Q 7 .pick [.qz 2,.qz 6,.const (.bool false)]
 (.out (qx [0,2,3] [(46,.qz 7)]))))))))
 [0,2,3]
abbrev SS:NC:=.reg
 (.x 1 (.call 116) [.qq 0] none []
 (.out (qx [0,2,3] [])))
 [0,2,3]
abbrev SR:NC:=.reg
 (.x 1 (.call 115) [.qq 0] none []
 (.Q 2 (.icm .neq) [.qz 1,.qj 0]
 (.out (qx [2,3] [(51,.qz 2)]))))
 [0,2,3]
abbrev SP:NC:=.reg
 (.Q 0 (.bld [.int .i64 0,.int .i64 0,.int .i64 0,(.string ⟨#[]⟩),(.string ⟨#[]⟩),(.string ⟨#[]⟩),(.string ⟨#[]⟩)] []) []
 (.x 1 (.st 7) [.qq 2,.qz 0] none []
 (.out [(2,.qq 2)])))
 [2]
abbrev SO:NC:=.reg
 (.Q 0 (.lda 7) [.qq 3]
 (.x 1 (.st 7) [.qq 2,.qz 0] none []
 (.out [(2,.qq 2)])))
 [2,3]
abbrev Ln:NC :=
 (.seq qqr
 (.seq qqp
 (.seq (.seq qqo
 (.cond (.qq 9)
 (.seq qqn
 (.seq qqm
 qql))
 .skip))
 (.seq (.seq qqi
 (.block 0 (.seq qqh
 (.cond (.qq 21)
 qqg
 (.seq qqf
 (.cond (.qq 26)
 (.seq Tx
 Tj)
 (.seq Tz
 (.cond (.qq 34)
 Tq
 .skip))))))))
 (.seq (.seq SU
 (.cond (.qq 46)
 SS
 .skip))
 (.seq (.seq SR
 (.cond (.qq 51)
 (.seq SP
 .ret)
 .skip))
 (.seq SO
 .ret)))))))
abbrev Lo:FN:=⟨Ln,[.cells 2 7]⟩
theorem qqs:GoT 112 Tryz.f112 Ln Lo:=goT (F:=Lo) Tryz.func112 (by kernel_rfl)
abbrev RF:NC:=.reg
 (.x 0 (.alc zL0 39) [] none []
 (.out [(0,.qq 0),(2,.qz 0)]))
 [0]
abbrev RE:NC:=.reg
 (.x 1 (.call 84) [.qq 0] none []
 (.Q 2 (.bld zL0 [(0,1)]) [.qz 1]
 (.x 3 (.alc zL0 39) [] none []
 (.x 4 (.st 8) [.qz 3,.qz 2] none []
 (.out (qx [0,2] [(3,.qz 3)]))))))
 [0,2]
abbrev RD:NC:=.reg
 (.out (qx [0,2,3] [(8,.qj 0)]))
 [0,2,3]
abbrev RC:NC:=.reg
 (.Q 0 (.icm .lss) [.qq 8,.qj 7]
 (.out (qx [0,2,3,8] [(9,.qz 0)])))
 [0,2,3,8]
abbrev RB:NC:=.reg
 (.out (qx [0,2,3] [(4,.qq 8),(8,.qq 8)]))
 [0,2,3,8]
abbrev RA:NC:=.reg
 (.x 2 (.call 84) [.qq 0] none []
 (.Q 3 (.fld 1) [.qq 3]
 (.Q 4 (.ixa 7 1) [.qz 3,.qq 4]
 (.x 5 (.st 1) [.qz 4,.qz 2] none []
 (.out (qx [0,2,3,8] []))))))
 [0,2,3,4,8]
abbrev Ru:NC:=.reg
 (.Q 0 (.iar .add) [.qq 8,.qj 1]
 (.out (qx [0,2,3] [(8,.qz 0)])))
 [0,2,3,8]
abbrev RG:NC :=
 (.seq RC
 (.seq (.cond (.qq 9)
 .skip
 (.exit 0))
 (.seq (.block 1 (.seq RB
 RA))
 Ru)))
abbrev Rt:NC:=.reg
 (.x 1 (.call 115) [.qq 0] none []
 (.Q 2 (.icm .eql) [.qz 1,.qj 0]
 (.q 4 (.lda 8) [.qq 3] (some (.qz 2,true))
 (.x 5 (.call 30) [.qz 4] (some (.qz 2,true)) []
 (.q 6 .not [.qz 5] (some (.qz 2,true))
 (.Q 7 .pick [.qz 2,.qz 6,.const (.bool false)]
 (.out (qx [0,2,3] [(24,.qz 7)]))))))))
 [0,2,3]
abbrev Rs:NC:=.reg
 (.x 1 (.call 116) [.qq 0] none []
 (.out (qx [0,2,3] [])))
 [0,2,3]
abbrev Rr:NC:=.reg
 (.x 1 (.call 115) [.qq 0] none []
 (.Q 2 (.icm .neq) [.qz 1,.qj 0]
 (.out (qx [2,3] [(29,.qz 2)]))))
 [0,2,3]
abbrev NH:NC:=.reg
 (.Q 0 (.bld zL0 []) []
 (.x 1 (.st 8) [.qq 2,.qz 0] none []
 (.out [(2,.qq 2)])))
 [2]
abbrev NG:NC:=.reg
 (.Q 0 (.lda 8) [.qq 3]
 (.x 1 (.st 8) [.qq 2,.qz 0] none []
 (.out [(2,.qq 2)])))
 [2,3]
abbrev FT:NC :=
 (.seq RF
 (.seq RE
 (.seq (.seq RD
 (.block 0 (.loop [0,2,3,8] RG)))
 (.seq (.seq Rt
 (.cond (.qq 24)
 Rs
 .skip))
 (.seq (.seq Rr
 (.cond (.qq 29)
 (.seq NH
 .ret)
 .skip))
 (.seq NG
 .ret))))))
abbrev FU:FN:=⟨FT,[.cells 2 8]⟩
theorem RH:GoT 113 Tryz.f113 FT FU:=goT (F:=FU) Tryz.func113 (by kernel_rfl)
abbrev qqd:NC:=.reg
 (.x 0 (.box 30) [.qq 1] none []
 (.out [(0,.qq 0),(3,.qz 0)]))
 [0,1]
abbrev qqc:NC:=.reg
 (.Q 0 (.lda 7) [.qq 3]
 (.x 1 (.call 18) [.qz 0] none []
 (.Q 2 .not [.qz 1]
 (.out (qx [0,3] [(7,.qz 2)])))))
 [0,3]
abbrev qqb:NC:=.reg
 (.x 1 (.app 5 1 1 [.int .u8 0]) [.const (.slice none 0 0),.qq 0] none []
 (.out [(4,.qz 1)]))
 [0]
abbrev qqa:NC:=.reg
 (.Q 1 (.fld 0) [.qq 3]
 (.Q 2 .ld [.qz 1]
 (.x 3 (.call 97) [.qq 0,.qz 2] none []
 (.out [(0,.qz 3),(3,.qq 3)]))))
 [0,3]
abbrev qqY:NC:=.reg
 (.Q 0 (.fld 0) [.qq 3]
 (.Q 1 .ld [.qz 0]
 (.Q 2 (.icm .eql) [.qz 1,.qj 0]
 (.out (qx [0,3] [(16,.qz 2)])))))
 [0,3]
abbrev qqW:NC:=.reg
 (.out [(4,.qq 0)])
 [0]
abbrev qqV:NC:=.reg
 (.Q 1 (.fld 1) [.qq 3]
 (.Q 2 .ld [.qz 1]
 (.Q 4 (.fld 2) [.qq 3]
 (.Q 5 .ld [.qz 4]
 (.Q 7 (.fld 3) [.qq 3]
 (.Q 8 .ld [.qz 7]
 (.x 3 (.call 97) [.qq 0,.qz 2] none [(5,.ld,[.qz 4],none),(8,.ld,[.qz 7],none)]
 (.x 6 (.call 97) [.qz 3,.qz 5] none [(8,.ld,[.qz 7],none)]
 (.x 9 (.call 143) [.qz 6,.qz 8] none []
 (.out [(0,.qz 9),(3,.qq 3)]))))))))))
 [0,3]
abbrev qqK:NC:=.reg
 (.Q 0 (.fld 0) [.qq 3]
 (.Q 1 .ld [.qz 0]
 (.out (qx [0,3] [(29,.qz 1)]))))
 [0,3]
abbrev qqX:NC:=.reg
 (.Q 0 (.icm .eql) [.qq 29,.qj 2]
 (.out (qx [0,3,29] [(30,.qz 0)])))
 [0,3,29]
abbrev qqJ:NC:=.reg
 (.Q 1 (.fld 6) [.qq 3]
 (.Q 2 .ld [.qz 1]
 (.x 3 (.call 143) [.qq 0,.qz 2] none []
 (.out [(0,.qz 3)]))))
 [0,3]
abbrev SA:NC:=.reg
 (.Q 0 (.icm .eql) [.qq 29,.qj 4]
 (.out (qx [0,3,29] [(36,.qz 0)])))
 [0,3,29]
abbrev Su:NC:=.reg
 (.Q 1 (.fld 5) [.qq 3]
 (.Q 2 .ld [.qz 1]
 (.Q 4 (.fld 6) [.qq 3]
 (.Q 5 .ld [.qz 4]
 (.x 3 (.call 143) [.qq 0,.qz 2] none [(5,.ld,[.qz 4],none)]
 (.x 6 (.call 143) [.qz 3,.qz 5] none []
 (.out [(0,.qz 6)])))))))
 [0,3]
abbrev Ss:NC:=.reg
 (.Q 0 (.icm .eql) [.qq 29,.qj 5]
 (.out (qx [0,3] [(45,.qz 0)])))
 [0,3,29]
abbrev Sr:NC:=.reg
 (.Q 1 (.fld 4) [.qq 3]
 (.Q 2 .ld [.qz 1]
 (.x 3 (.call 143) [.qq 0,.qz 2] none []
 (.out [(0,.qz 3)]))))
 [0,3]
abbrev Sp:NC:=.reg
 (.out [(4,.qq 0)])
 [0]
abbrev Ll:NC :=
 (.seq qqd
 (.seq (.seq qqc
 (.cond (.qq 7)
 (.seq qqb
 .ret)
 .skip))
 (.seq qqa
 (.seq (.seq qqY
 (.cond (.qq 16)
 (.seq qqW
 .ret)
 .skip))
 (.seq qqV
 (.seq (.seq qqK
 (.block 0 (.seq qqX
 (.cond (.qq 30)
 qqJ
 (.seq SA
 (.cond (.qq 36)
 Su
 (.seq Ss
 (.cond (.qq 45)
 Sr
 .skip))))))))
 (.seq Sp
 .ret)))))))
abbrev Lm:FN:=⟨Ll,[.qq 4]⟩
theorem qqe:GoT 123 Tryz.f123 Ll Lm:=goT (F:=Lm) Tryz.func123 (by kernel_rfl)
abbrev Rn:NC:=.reg
 (.x 0 (.box 39) [.qq 1] none []
 (.out [(0,.qq 0),(3,.qz 0)]))
 [0,1]
abbrev Rm:NC:=.reg
 (.Q 1 (.fld 0) [.qq 3]
 (.Q 2 .ld [.qz 1]
 (.x 3 (.call 97) [.qq 0,.qz 2] none []
 (.out [(0,.qz 3),(3,.qq 3)]))))
 [0,3]
abbrev Rl:NC:=.reg
 (.Q 0 (.fld 1) [.qq 3]
 (.Q 1 (.lda 7) [.qz 0]
 (.out [(0,.qq 0),(12,.qz 1),(13,.qj 0)])))
 [0,3]
abbrev Ri:NC:=.reg
 (.Q 0 (.icm .lss) [.qq 13,.qj 7]
 (.out (qx [0,12,13] [(14,.qz 0)])))
 [0,12,13]
abbrev Rh:NC:=.reg
 (.Q 0 (.idx 7 1) [.qq 12,.qq 13]
 (.out [(0,.qq 0),(6,.qz 0),(12,.qq 12),(13,.qq 13)]))
 [0,12,13]
abbrev Rg:NC:=.reg
 (.x 2 (.call 97) [.qq 0,.qq 6] none []
 (.out [(0,.qz 2),(12,.qq 12),(13,.qq 13)]))
 [0,6,12,13]
abbrev Rf:NC:=.reg
 (.Q 0 (.iar .add) [.qq 13,.qj 1]
 (.out (qx [0,12] [(13,.qz 0)])))
 [0,12,13]
abbrev Ro:NC :=
 (.seq Ri
 (.seq (.cond (.qq 14)
 .skip
 (.exit 0))
 (.seq (.block 1 (.seq Rh
 Rg))
 Rf)))
abbrev Re:NC:=.reg
 (.out [(4,.qq 0)])
 [0]
abbrev FP:NC :=
 (.seq Rn
 (.seq Rm
 (.seq (.seq Rl
 (.block 0 (.loop [0,12,13] Ro)))
 (.seq Re
 .ret))))
abbrev FR:FN:=⟨FP,[.qq 4]⟩
theorem Rp:GoT 125 Tryz.f125 FP FR:=goT (F:=FR) Tryz.func125 (by kernel_rfl)
end Go.Fw
namespace Go.Fw
open Go.Proofs
abbrev Ce:NC:=.reg
 (.x 0 (.box 45) [.qq 0] none []
 (.out [(1,.qz 0)]))
 [0]
abbrev Cd:NC:=.reg
 (.Q 0 (.fld 0) [.qq 1]
 (.Q 1 .ld [.qz 0]
 (.x 2 (.call 69) [.qz 1] none []
 (.Q 4 (.ext 0) [.qz 2]
 (.Q 5 (.ext 1) [.qz 2]
 (.x 6 (.alc zL1 135) [] none []
 (.x 7 (.st 7) [.qz 6,.qz 4] none []
 (.out [(1,.qq 1),(3,.qz 6),(4,.qz 5)]))))))))
 [1]
abbrev Cc:NC:=.reg
 (.Q 1 .not [.qq 4]
 (.q 3 (.fld 1) [.qq 1] (some (.qz 1,false))
 (.q 4 .ld [.qz 3] (some (.qz 1,false))
 (.x 5 (.call 70) [.qz 4] (some (.qz 1,false)) []
 (.q 6 .not [.qz 5] (some (.qz 1,false))
 (.Q 7 .pick [.qz 1,.const (.bool true),.qz 6]
 (.q 9 (.fld 2) [.qq 1] (some (.qz 7,false))
 (.q 10 .ld [.qz 9] (some (.qz 7,false))
 (.x 11 (.call 70) [.qz 10] (some (.qz 7,false)) []
 (.q 12 .not [.qz 11] (some (.qz 7,false))
 (.Q 13 .pick [.qz 7,.const (.bool true),.qz 12]
 (.q 15 (.fld 1) [.qq 1] (some (.qz 13,false))
 (.q 16 .ld [.qz 15] (some (.qz 13,false))
 (.q 17 (.fld 2) [.qq 1] (some (.qz 13,false))
 (.q 18 .ld [.qz 17] (some (.qz 13,false))
 (.q 19 (.icm .eql) [.qz 16,.qz 18] (some (.qz 13,false))
 (.Q 20 .pick [.qz 13,.const (.bool true),.qz 19]
 (.q 22 (.lda 51) [.qq 1] (some (.qz 20,false))
 (.q 23 (.lda 51) [.qq 1] (some (.qz 20,false))
 (.q 24 (.lda 7) [.qq 3] (some (.qz 20,false))
 (.x 25 (.call 71) [.qz 23,.qz 24] (some (.qz 20,false)) [(22,.lda 51,[.qq 1],(some (.qz 20,false)))]
 (.q 26 (.eqc true [.i .i64,.i .i64,.i .i64,.i .i64,.i .i64,.i .i64,.i .i64,.i .i64,.i .i64,.i .i64,.s,.s,.s,.s,.i .i64,.i .i64,.i .i64,.i .i64,.i .i64,.i .i64,.i .i64,.i .i64,.i .i64,.i .i64,.i .i64,.i .i64,.i .i64,.i .i64,.i .i64,.i .i64,.s,.s,.s,.s,.i .i64,.i .i64,.i .i64,.i .i64,.i .i64,.i .i64,.i .i64,.i .i64,.b,.i .i64,.i .i64,.i .i64,.i .i64,.i .i64,.i .i64,.i .i64,.s]) [.qz 22,.qz 25] (some (.qz 20,false))
 (.Q 27 .pick [.qz 20,.const (.bool true),.qz 26]
 (.out (qx [1,3] [(38,.qz 27)])))))))))))))))))))))))))
 [1,3,4]
abbrev Cb:NC:=.reg
 (.out [(2,.const (.bool false))])
 []
abbrev Ca:NC:=.reg
 (.Q 0 (.fld 0) [.qq 3]
 (.Q 1 .ld [.qz 0]
 (.q 3 (.fld 3) [.qq 1] (some (.qz 1,true))
 (.q 4 (.lda 2) [.qz 3] (some (.qz 1,true))
 (.x 5 (.call 66) [.qz 4] (some (.qz 1,true)) []
 (.q 6 .not [.qz 5] (some (.qz 1,true))
 (.Q 7 .pick [.qz 1,.qz 6,.const (.bool false)]
 (.q 9 (.fld 5) [.qq 1] (some (.qz 7,false))
 (.q 10 (.lda 2) [.qz 9] (some (.qz 7,false))
 (.x 11 (.call 39) [.qz 10] (some (.qz 7,false)) []
 (.q 12 .not [.qz 11] (some (.qz 7,false))
 (.Q 13 .pick [.qz 7,.const (.bool true),.qz 12]
 (.q 15 (.fld 7) [.qq 1] (some (.qz 13,false))
 (.q 16 (.lda 7) [.qz 15] (some (.qz 13,false))
 (.x 17 (.call 18) [.qz 16] (some (.qz 13,false)) []
 (.q 18 .not [.qz 17] (some (.qz 13,false))
 (.Q 19 .pick [.qz 13,.const (.bool true),.qz 18]
 (.q 21 (.fld 14) [.qq 1] (some (.qz 19,false))
 (.q 22 (.lda 8) [.qz 21] (some (.qz 19,false))
 (.x 23 (.call 30) [.qz 22] (some (.qz 19,false)) []
 (.q 24 .not [.qz 23] (some (.qz 19,false))
 (.Q 25 .pick [.qz 19,.const (.bool true),.qz 24]
 (.q 27 (.fld 22) [.qq 1] (some (.qz 25,false))
 (.q 28 (.lda 21) [.qz 27] (some (.qz 25,false))
 (.x 29 (.call 72) [.qz 28] (some (.qz 25,false)) []
 (.q 30 .not [.qz 29] (some (.qz 25,false))
 (.Q 31 .pick [.qz 25,.const (.bool true),.qz 30]
 (.out [(1,.qq 1),(70,.qz 31)]))))))))))))))))))))))))))))
 [1,3]
abbrev CY:NC:=.reg
 (.out [(2,.const (.bool false))])
 []
abbrev CW:NC:=.reg
 (.Q 0 (.fld 43) [.qq 1]
 (.Q 1 (.lda 7) [.qz 0]
 (.Q 2 (.bld zL0 [(1,7)]) [.qz 1]
 (.x 3 (.call 30) [.qz 2] none []
 (.q 5 (.fld 50) [.qq 1] (some (.qz 3,true))
 (.q 6 .ld [.qz 5] (some (.qz 3,true))
 (.q 7 .lenz [.qz 6] (some (.qz 3,true))
 (.q 8 (.icm .leq) [.qz 7,.qj 16384] (some (.qz 3,true))
 (.Q 9 .pick [.qz 3,.qz 8,.const (.bool false)]
 (.out [(2,.qz 9)]))))))))))
 [1]
abbrev eO:NC :=
 (.seq Ce
 (.seq Cd
 (.seq (.seq Cc
 (.cond (.qq 38)
 (.seq Cb
 .ret)
 .skip))
 (.seq (.seq Ca
 (.cond (.qq 70)
 (.seq CY
 .ret)
 .skip))
 (.seq CW
 .ret)))))
abbrev eP:FN:=⟨eO,[.qq 2]⟩
theorem Cf:GoT 42 Tryz.f42 eO eP:=goT (F:=eP) Tryz.func42 (by kernel_rfl)
abbrev Cv:NC:=.reg
 (.x 0 (.alc zL1 135) [] none []
 (.out [(0,.qq 0),(2,.qz 0)]))
 [0]
abbrev Ck:NC:=.reg
 (.out [(2,.qq 2),(4,.qq 0)])
 [0,2]
abbrev Cx:NC:=.reg
 (.Q 0 (.icm .eql) [.qq 4,.qj 1]
 (.out (qx [2,4] [(5,.qz 0)])))
 [2,4]
abbrev Cj:NC:=.reg
 (.Q 0 (.icm .eql) [.qq 4,.qj 3]
 (.out (qx [2,4] [(5,.qz 0)])))
 [2,4]
abbrev Cz:NC:=.reg
 (.Q 0 (.bld zL1 [(0,1),(1,1),(2,1),(3,1)]) [.const (.bool true),.const (.bool true),.const (.bool true),.const (.bool true)]
 (.x 1 (.st 7) [.qq 2,.qz 0] none []
 (.out [(2,.qq 2),(3,.const (.bool true))])))
 [2]
abbrev Cq:NC:=.reg
 (.Q 0 (.icm .eql) [.qq 4,.qj 2]
 (.out (qx [2,4] [(9,.qz 0)])))
 [2,4]
abbrev BU:NC:=.reg
 (.Q 0 (.bld zL1 [(0,1),(1,1),(3,1)]) [.const (.bool true),.const (.bool true),.const (.bool true)]
 (.x 1 (.st 7) [.qq 2,.qz 0] none []
 (.out [(2,.qq 2),(3,.const (.bool true))])))
 [2]
abbrev BT:NC:=.reg
 (.Q 0 (.icm .eql) [.qq 4,.qj 4]
 (.out (qx [2,4] [(12,.qz 0)])))
 [2,4]
abbrev BS:NC:=.reg
 (.Q 0 (.icm .eql) [.qq 4,.qj 6]
 (.out (qx [2,4] [(12,.qz 0)])))
 [2,4]
abbrev BR:NC:=.reg
 (.Q 0 (.icm .eql) [.qq 4,.qj 8]
 (.out (qx [2,4] [(12,.qz 0)])))
 [2,4]
abbrev uv:NC:=.reg
 (.Q 0 (.bld zL1 [(0,1),(1,1)]) [.const (.bool true),.const (.bool true)]
 (.x 1 (.st 7) [.qq 2,.qz 0] none []
 (.out [(2,.qq 2),(3,.const (.bool true))])))
 [2]
abbrev uk:NC:=.reg
 (.Q 0 (.icm .eql) [.qq 4,.qj 5]
 (.out (qx [2,4] [(17,.qz 0)])))
 [2,4]
abbrev ux:NC:=.reg
 (.Q 0 (.bld zL1 [(0,1),(2,1),(3,1)]) [.const (.bool true),.const (.bool true),.const (.bool true)]
 (.x 1 (.st 7) [.qq 2,.qz 0] none []
 (.out [(2,.qq 2),(3,.const (.bool true))])))
 [2]
abbrev uj:NC:=.reg
 (.Q 0 (.icm .eql) [.qq 4,.qj 7]
 (.out (qx [2,4] [(20,.qz 0)])))
 [2,4]
abbrev uz:NC:=.reg
 (.Q 0 (.bld zL1 [(0,1),(1,1),(4,1)]) [.const (.bool true),.const (.bool true),.const (.bool true)]
 (.x 1 (.st 7) [.qq 2,.qz 0] none []
 (.out [(2,.qq 2),(3,.const (.bool true))])))
 [2]
abbrev uq:NC:=.reg
 (.Q 0 (.icm .eql) [.qq 4,.qj 9]
 (.out (qx [2,4] [(23,.qz 0)])))
 [2,4]
abbrev tU:NC:=.reg
 (.Q 0 (.icm .eql) [.qq 4,.qj 11]
 (.out (qx [2,4] [(23,.qz 0)])))
 [2,4]
abbrev tT:NC:=.reg
 (.Q 0 (.bld zL1 [(5,1)]) [.const (.bool true)]
 (.x 1 (.st 7) [.qq 2,.qz 0] none []
 (.out [(2,.qq 2),(3,.const (.bool true))])))
 [2]
abbrev tS:NC:=.reg
 (.Q 0 (.icm .eql) [.qq 4,.qj 10]
 (.out [(2,.qq 2),(27,.qz 0)]))
 [2,4]
abbrev tR:NC:=.reg
 (.Q 0 (.bld zL1 [(6,1)]) [.const (.bool true)]
 (.x 1 (.st 7) [.qq 2,.qz 0] none []
 (.out [(2,.qq 2),(3,.const (.bool true))])))
 [2]
abbrev tP:NC:=.reg
 (.Q 0 (.bld zL1 []) []
 (.x 1 (.st 7) [.qq 2,.qz 0] none []
 (.out [(2,.qq 2),(3,.const (.bool false))])))
 [2]
abbrev eL:NC :=
 (.seq Cv
 (.seq (.seq Ck
 (.block 0 (.seq (.seq Cx
 (.cond (.qq 5)
 .skip
 Cj))
 (.cond (.qq 5)
 (.seq Cz
 .ret)
 (.seq Cq
 (.cond (.qq 9)
 (.seq BU
 .ret)
 (.seq (.seq BT
 (.cond (.qq 12)
 .skip
 (.seq BS
 (.cond (.qq 12)
 .skip
 BR))))
 (.cond (.qq 12)
 (.seq uv
 .ret)
 (.seq uk
 (.cond (.qq 17)
 (.seq ux
 .ret)
 (.seq uj
 (.cond (.qq 20)
 (.seq uz
 .ret)
 (.seq (.seq uq
 (.cond (.qq 23)
 .skip
 tU))
 (.cond (.qq 23)
 (.seq tT
 .ret)
 (.seq tS
 (.cond (.qq 27)
 (.seq tR
 .ret)
 .skip))))))))))))))))
 (.seq tP
 .ret)))
abbrev eM:FN:=⟨eL,[.cells 2 7,.qq 3]⟩
theorem Cw:GoT 69 Tryz.f69 eL eM:=goT (F:=eM) Tryz.func69 (by kernel_rfl)
abbrev BO:NC:=.reg
 (.out [(0,.qq 0)])
 [0]
abbrev BN:NC:=.reg
 (.Q 1 (.icm .geq) [.qq 0,.qj 0]
 (.q 3 .mv [.qq 0] (some (.qz 1,true))
 (.q 4 (.icm .lss) [.qz 3,.qj 7] (some (.qz 1,true))
 (.Q 5 .pick [.qz 1,.qz 4,.const (.bool false)]
 (.out [(2,.qz 5)])))))
 [0]
abbrev eG:NC :=
 (.seq BO
 (.seq BN
 .ret))
abbrev eI:FN:=⟨eG,[.qq 2]⟩
theorem BP:GoT 70 Tryz.f70 eG eI:=goT (F:=eI) Tryz.func70 (by kernel_rfl)
abbrev Fk:NC:=.reg
 (.x 0 (.box 45) [.qq 0] none []
 (.x 1 (.box 135) [.qq 1] none []
 (.x 2 (.alc [.int .i64 0,.int .i64 0,.int .i64 0,.int .i64 0,.int .i64 0,.int .i64 0,.int .i64 0,.int .i64 0,.int .i64 0,.int .i64 0,(.string ⟨#[]⟩),(.string ⟨#[]⟩),(.string ⟨#[]⟩),(.string ⟨#[]⟩),.int .i64 0,.int .i64 0,.int .i64 0,.int .i64 0,.int .i64 0,.int .i64 0,.int .i64 0,.int .i64 0,.int .i64 0,.int .i64 0,.int .i64 0,.int .i64 0,.int .i64 0,.int .i64 0,.int .i64 0,.int .i64 0,(.string ⟨#[]⟩),(.string ⟨#[]⟩),(.string ⟨#[]⟩),(.string ⟨#[]⟩),.int .i64 0,.int .i64 0,.int .i64 0,.int .i64 0,.int .i64 0,.int .i64 0,.int .i64 0,.int .i64 0,.bool false,.int .i64 0,.int .i64 0,.int .i64 0,.int .i64 0,.int .i64 0,.int .i64 0,.int .i64 0,(.string ⟨#[]⟩)] 45) [] none []
 (.out [(2,.qz 0),(3,.qz 1),(4,.qz 2)]))))
 [0,1]
abbrev Fx:NC:=.reg
 (.Q 0 (.fld 0) [.qq 2]
 (.Q 1 .ld [.qz 0]
 (.Q 2 (.fld 1) [.qq 2]
 (.Q 3 .ld [.qz 2]
 (.Q 4 (.fld 2) [.qq 2]
 (.Q 5 .ld [.qz 4]
 (.Q 6 (.bld [.int .i64 0,.int .i64 0,.int .i64 0,.int .i64 0,.int .i64 0,.int .i64 0,.int .i64 0,.int .i64 0,.int .i64 0,.int .i64 0,(.string ⟨#[]⟩),(.string ⟨#[]⟩),(.string ⟨#[]⟩),(.string ⟨#[]⟩),.int .i64 0,.int .i64 0,.int .i64 0,.int .i64 0,.int .i64 0,.int .i64 0,.int .i64 0,.int .i64 0,.int .i64 0,.int .i64 0,.int .i64 0,.int .i64 0,.int .i64 0,.int .i64 0,.int .i64 0,.int .i64 0,(.string ⟨#[]⟩),(.string ⟨#[]⟩),(.string ⟨#[]⟩),(.string ⟨#[]⟩),.int .i64 0,.int .i64 0,.int .i64 0,.int .i64 0,.int .i64 0,.int .i64 0,.int .i64 0,.int .i64 0,.bool false,.int .i64 0,.int .i64 0,.int .i64 0,.int .i64 0,.int .i64 0,.int .i64 0,.int .i64 0,(.string ⟨#[]⟩)] [(0,1),(1,1),(2,1)]) [.qz 1,.qz 3,.qz 5]
 (.x 7 (.alc [.int .i64 0,.int .i64 0,.int .i64 0,.int .i64 0,.int .i64 0,.int .i64 0,.int .i64 0,.int .i64 0,.int .i64 0,.int .i64 0,(.string ⟨#[]⟩),(.string ⟨#[]⟩),(.string ⟨#[]⟩),(.string ⟨#[]⟩),.int .i64 0,.int .i64 0,.int .i64 0,.int .i64 0,.int .i64 0,.int .i64 0,.int .i64 0,.int .i64 0,.int .i64 0,.int .i64 0,.int .i64 0,.int .i64 0,.int .i64 0,.int .i64 0,.int .i64 0,.int .i64 0,(.string ⟨#[]⟩),(.string ⟨#[]⟩),(.string ⟨#[]⟩),(.string ⟨#[]⟩),.int .i64 0,.int .i64 0,.int .i64 0,.int .i64 0,.int .i64 0,.int .i64 0,.int .i64 0,.int .i64 0,.bool false,.int .i64 0,.int .i64 0,.int .i64 0,.int .i64 0,.int .i64 0,.int .i64 0,.int .i64 0,(.string ⟨#[]⟩)] 45) [] none []
 (.x 8 (.st 51) [.qz 7,.qz 6] none []
 (.out (qx [2,3,4] [(5,.qz 7)])))))))))))
 [2,3,4]
abbrev Fj:NC:=.reg
 (.Q 0 (.fld 0) [.qq 3]
 (.Q 1 .ld [.qz 0]
 (.out (qx [2,3,4,5] [(14,.qz 1)]))))
 [2,3,4,5]
abbrev Fz:NC:=.reg
 (.Q 0 (.fld 3) [.qq 2]
 (.Q 1 (.lda 2) [.qz 0]
 (.Q 2 (.fld 3) [.qq 5]
 (.x 3 (.st 2) [.qz 2,.qz 1] none []
 (.out (qx [2,3,4,5] []))))))
 [2,3,4,5]
abbrev Fq:NC:=.reg
 (.Q 0 (.fld 1) [.qq 3]
 (.Q 1 .ld [.qz 0]
 (.out (qx [2,3,4,5] [(19,.qz 1)]))))
 [2,3,4,5]
abbrev EU:NC:=.reg
 (.Q 0 (.fld 5) [.qq 2]
 (.Q 1 (.lda 2) [.qz 0]
 (.Q 2 (.fld 5) [.qq 5]
 (.x 3 (.st 2) [.qz 2,.qz 1] none []
 (.out (qx [2,3,4,5] []))))))
 [2,3,4,5]
abbrev ES:NC:=.reg
 (.Q 0 (.fld 2) [.qq 3]
 (.Q 1 .ld [.qz 0]
 (.out (qx [2,3,4,5] [(24,.qz 1)]))))
 [2,3,4,5]
abbrev ER:NC:=.reg
 (.Q 0 (.fld 7) [.qq 2]
 (.Q 1 (.lda 7) [.qz 0]
 (.Q 2 (.fld 7) [.qq 5]
 (.x 3 (.st 7) [.qz 2,.qz 1] none []
 (.out (qx [2,3,4,5] []))))))
 [2,3,4,5]
abbrev EP:NC:=.reg
 (.Q 0 (.fld 3) [.qq 3]
 (.Q 1 .ld [.qz 0]
 (.out (qx [2,3,4,5] [(29,.qz 1)]))))
 [2,3,4,5]
abbrev EO:NC:=.reg
 (.Q 0 (.fld 14) [.qq 2]
 (.Q 1 (.lda 8) [.qz 0]
 (.Q 2 (.fld 14) [.qq 5]
 (.x 3 (.st 8) [.qz 2,.qz 1] none []
 (.out (qx [2,3,4,5] []))))))
 [2,3,4,5]
abbrev CV:NC:=.reg
 (.Q 0 (.fld 4) [.qq 3]
 (.Q 1 .ld [.qz 0]
 (.out (qx [2,3,4,5] [(34,.qz 1)]))))
 [2,3,4,5]
abbrev CK:NC:=.reg
 (.Q 0 (.fld 22) [.qq 2]
 (.Q 1 (.lda 21) [.qz 0]
 (.Q 2 (.fld 22) [.qq 5]
 (.x 3 (.st 21) [.qz 2,.qz 1] none []
 (.out (qx [2,3,4,5] []))))))
 [2,3,4,5]
abbrev CX:NC:=.reg
 (.Q 0 (.fld 5) [.qq 3]
 (.Q 1 .ld [.qz 0]
 (.out (qx [2,3,4,5] [(39,.qz 1)]))))
 [2,3,4,5]
abbrev CJ:NC:=.reg
 (.Q 0 (.fld 43) [.qq 2]
 (.Q 1 (.lda 7) [.qz 0]
 (.Q 2 (.fld 43) [.qq 5]
 (.x 3 (.st 7) [.qz 2,.qz 1] none []
 (.out (qx [2,3,4,5] []))))))
 [2,3,4,5]
abbrev CZ:NC:=.reg
 (.Q 0 (.fld 6) [.qq 3]
 (.Q 1 .ld [.qz 0]
 (.out (qx [2,4,5] [(44,.qz 1)]))))
 [2,3,4,5]
abbrev CQ:NC:=.reg
 (.Q 0 (.fld 50) [.qq 2]
 (.Q 1 .ld [.qz 0]
 (.Q 2 (.fld 50) [.qq 5]
 (.x 3 (.st 1) [.qz 2,.qz 1] none []
 (.out (qx [4,5] []))))))
 [2,4,5]
abbrev Cy:NC:=.reg
 (.Q 0 (.lda 51) [.qq 5]
 (.x 1 (.st 51) [.qq 4,.qz 0] none []
 (.out [(4,.qq 4)])))
 [4,5]
abbrev lO:NC :=
 (.seq Fk
 (.seq Fx
 (.seq (.seq Fj
 (.cond (.qq 14)
 Fz
 .skip))
 (.seq (.seq Fq
 (.cond (.qq 19)
 EU
 .skip))
 (.seq (.seq ES
 (.cond (.qq 24)
 ER
 .skip))
 (.seq (.seq EP
 (.cond (.qq 29)
 EO
 .skip))
 (.seq (.seq CV
 (.cond (.qq 34)
 CK
 .skip))
 (.seq (.seq CX
 (.cond (.qq 39)
 CJ
 .skip))
 (.seq (.seq CZ
 (.cond (.qq 44)
 CQ
 .skip))
 (.seq Cy
 .ret))))))))))
abbrev lP:FN:=⟨lO,[.cells 4 51]⟩
theorem Fv:GoT 71 Tryz.f71 lO lP:=goT (F:=lP) Tryz.func71 (by kernel_rfl)
abbrev iL:NC:=.reg
 (.x 0 (.box 41) [.qq 0] none []
 (.out [(1,.qz 0)]))
 [0]
abbrev iI:NC:=.reg
 (.Q 0 (.fld 0) [.qq 1]
 (.Q 1 .ld [.qz 0]
 (.Q 2 (.icm .lss) [.qz 1,.qj 0]
 (.q 4 (.fld 0) [.qq 1] (some (.qz 2,false))
 (.q 5 .ld [.qz 4] (some (.qz 2,false))
 (.q 6 (.icm .gtr) [.qz 5,.qj 3] (some (.qz 2,false))
 (.Q 7 .pick [.qz 2,.const (.bool true),.qz 6]
 (.q 9 (.fld 1) [.qq 1] (some (.qz 7,false))
 (.q 10 (.lda 2) [.qz 9] (some (.qz 7,false))
 (.x 11 (.call 39) [.qz 10] (some (.qz 7,false)) []
 (.q 12 .not [.qz 11] (some (.qz 7,false))
 (.Q 13 .pick [.qz 7,.const (.bool true),.qz 12]
 (.q 15 (.fld 3) [.qq 1] (some (.qz 13,false))
 (.q 16 (.lda 2) [.qz 15] (some (.qz 13,false))
 (.x 17 (.call 39) [.qz 16] (some (.qz 13,false)) []
 (.q 18 .not [.qz 17] (some (.qz 13,false))
 (.Q 19 .pick [.qz 13,.const (.bool true),.qz 18]
 (.q 21 (.fld 1) [.qq 1] (some (.qz 19,false))
 (.q 22 (.lda 2) [.qz 21] (some (.qz 19,false))
 (.q 23 (.fld 3) [.qq 1] (some (.qz 19,false))
 (.q 24 (.lda 2) [.qz 23] (some (.qz 19,false))
 (.x 25 (.call 37) [.qz 22,.qz 24] (some (.qz 19,false)) []
 (.Q 26 .pick [.qz 19,.const (.bool true),.qz 25]
 (.out [(1,.qq 1),(29,.qz 26)]))))))))))))))))))))))))
 [1]
abbrev iH:NC:=.reg
 (.out [(2,.const (.bool false))])
 []
abbrev iG:NC:=.reg
 (.Q 0 (.fld 20) [.qq 1]
 (.Q 1 .ld [.qz 0]
 (.q 3 (.fld 0) [.qq 1] (some (.qz 1,true))
 (.q 4 .ld [.qz 3] (some (.qz 1,true))
 (.q 5 (.icm .neq) [.qz 4,.qj 1] (some (.qz 1,true))
 (.q 6 .mv [.qz 5] (some (.qz 1,true))
 (.q 7 (.fld 3) [.qq 1] (some (.qz 6,false))
 (.q 8 (.lda 2) [.qz 7] (some (.qz 6,false))
 (.q 9 (.bld [.int .i64 0,.int .i64 0] []) [] (some (.qz 6,false))
 (.q 10 (.eqc true [.i .i64,.i .i64]) [.qz 8,.qz 9] (some (.qz 6,false))
 (.q 11 .pick [.qz 6,.const (.bool true),.qz 10] (some (.qz 1,true))
 (.Q 12 .pick [.qz 1,.qz 11,.const (.bool false)]
 (.q 14 (.fld 0) [.qq 1] (some (.qz 12,false))
 (.q 15 .ld [.qz 14] (some (.qz 12,false))
 (.q 16 (.icm .eql) [.qz 15,.qj 0] (some (.qz 12,false))
 (.q 17 .mv [.qz 16] (some (.qz 12,false))
 (.q 18 (.lda 21) [.qq 1] (some (.qz 17,true))
 (.q 19 (.fld 1) [.qq 1] (some (.qz 17,true))
 (.q 20 (.lda 2) [.qz 19] (some (.qz 17,true))
 (.q 21 (.bld [.int .i64 0,.int .i64 0,.int .i64 0,.int .i64 0,.int .i64 0,.int .i64 0,.int .i64 0,.int .i64 0,(.string ⟨#[]⟩),(.string ⟨#[]⟩),(.string ⟨#[]⟩),(.string ⟨#[]⟩),.int .i64 0,.int .i64 0,.int .i64 0,.int .i64 0,.int .i64 0,.int .i64 0,.int .i64 0,.int .i64 0,.bool false] [(1,2)]) [.qz 20] (some (.qz 17,true))
 (.q 22 (.eqc true [.i .i64,.i .i64,.i .i64,.i .i64,.i .i64,.i .i64,.i .i64,.i .i64,.s,.s,.s,.s,.i .i64,.i .i64,.i .i64,.i .i64,.i .i64,.i .i64,.i .i64,.i .i64,.b]) [.qz 18,.qz 21] (some (.qz 17,true))
 (.q 23 .pick [.qz 17,.qz 22,.const (.bool false)] (some (.qz 12,false))
 (.Q 24 .pick [.qz 12,.const (.bool true),.qz 23]
 (.out [(1,.qq 1),(54,.qz 24)]))))))))))))))))))))))))
 [1]
abbrev iF:NC:=.reg
 (.out [(2,.const (.bool false))])
 []
abbrev iE:NC:=.reg
 (.Q 0 (.fld 5) [.qq 1]
 (.Q 1 (.lda 7) [.qz 0]
 (.x 2 (.call 18) [.qz 1] none []
 (.q 4 (.fld 12) [.qq 1] (some (.qz 2,true))
 (.q 5 (.lda 8) [.qz 4] (some (.qz 2,true))
 (.x 6 (.call 30) [.qz 5] (some (.qz 2,true)) []
 (.Q 7 .pick [.qz 2,.qz 6,.const (.bool false)]
 (.out [(2,.qz 7)]))))))))
 [1]
abbrev VO:NC :=
 (.seq iL
 (.seq (.seq iI
 (.cond (.qq 29)
 (.seq iH
 .ret)
 .skip))
 (.seq (.seq iG
 (.cond (.qq 54)
 (.seq iF
 .ret)
 .skip))
 (.seq iE
 .ret))))
abbrev VP:FN:=⟨VO,[.qq 2]⟩
theorem iM:GoT 72 Tryz.f72 VO VP:=goT (F:=VP) Tryz.func72 (by kernel_rfl)
abbrev rQ:NC:=.reg
 (.x 0 (.alc [.int .i64 0,.int .i64 0,.int .i64 0,.int .i64 0,.int .i64 0,.int .i64 0,.int .i64 0,.int .i64 0,(.string ⟨#[]⟩),(.string ⟨#[]⟩),(.string ⟨#[]⟩),(.string ⟨#[]⟩),.int .i64 0,.int .i64 0,.int .i64 0,.int .i64 0,.int .i64 0,.int .i64 0,.int .i64 0,.int .i64 0,.bool false] 41) [] none []
 (.out [(0,.qq 0),(2,.qz 0)]))
 [0]
abbrev ry:NC:=.reg
 (.x 1 (.call 84) [.qq 0] none []
 (.Q 2 (.bld [.int .i64 0,.int .i64 0,.int .i64 0,.int .i64 0,.int .i64 0,.int .i64 0,.int .i64 0,.int .i64 0,(.string ⟨#[]⟩),(.string ⟨#[]⟩),(.string ⟨#[]⟩),(.string ⟨#[]⟩),.int .i64 0,.int .i64 0,.int .i64 0,.int .i64 0,.int .i64 0,.int .i64 0,.int .i64 0,.int .i64 0,.bool false] [(0,1)]) [.qz 1]
 (.x 3 (.alc [.int .i64 0,.int .i64 0,.int .i64 0,.int .i64 0,.int .i64 0,.int .i64 0,.int .i64 0,.int .i64 0,(.string ⟨#[]⟩),(.string ⟨#[]⟩),(.string ⟨#[]⟩),(.string ⟨#[]⟩),.int .i64 0,.int .i64 0,.int .i64 0,.int .i64 0,.int .i64 0,.int .i64 0,.int .i64 0,.int .i64 0,.bool false] 41) [] none []
 (.x 4 (.st 21) [.qz 3,.qz 2] none []
 (.out (qx [0,2] [(3,.qz 3)]))))))
 [0,2]
abbrev rk:NC:=.reg
 (.x 1 (.call 111) [.qq 0] none []
 (.Q 2 (.fld 1) [.qq 3]
 (.x 3 (.st 2) [.qz 2,.qz 1] none []
 (.out (qx [0,2,3] [])))))
 [0,2,3]
abbrev rj:NC:=.reg
 (.Q 0 (.fld 0) [.qq 3]
 (.Q 1 .ld [.qz 0]
 (.Q 2 (.icm .neq) [.qz 1,.qj 0]
 (.out (qx [0,2,3] [(12,.qz 2)])))))
 [0,2,3]
abbrev rz:NC:=.reg
 (.x 1 (.call 111) [.qq 0] none []
 (.Q 2 (.fld 3) [.qq 3]
 (.x 3 (.st 2) [.qz 2,.qz 1] none []
 (.out (qx [0,2,3] [])))))
 [0,2,3]
abbrev rq:NC:=.reg
 (.x 1 (.call 112) [.qq 0] none []
 (.Q 2 (.fld 5) [.qq 3]
 (.x 3 (.st 7) [.qz 2,.qz 1] none []
 (.out (qx [0,2,3] [])))))
 [0,2,3]
abbrev pU:NC:=.reg
 (.x 1 (.call 113) [.qq 0] none []
 (.Q 2 (.fld 12) [.qq 3]
 (.x 3 (.st 8) [.qz 2,.qz 1] none []
 (.out (qx [0,2,3] [])))))
 [0,2,3]
abbrev pT:NC:=.reg
 (.x 1 (.call 114) [.qq 0] none []
 (.Q 2 (.fld 20) [.qq 3]
 (.x 3 (.st 1) [.qz 2,.qz 1] none []
 (.out (qx [0,2,3] [])))))
 [0,2,3]
abbrev pS:NC:=.reg
 (.x 1 (.call 115) [.qq 0] none []
 (.Q 2 (.icm .eql) [.qz 1,.qj 0]
 (.q 4 (.lda 21) [.qq 3] (some (.qz 2,true))
 (.x 5 (.call 72) [.qz 4] (some (.qz 2,true)) []
 (.q 6 .not [.qz 5] (some (.qz 2,true))
 (.Q 7 .pick [.qz 2,.qz 6,.const (.bool false)]
 (.out (qx [0,2,3] [(32,.qz 7)]))))))))
 [0,2,3]
abbrev pR:NC:=.reg
 (.x 1 (.call 116) [.qq 0] none []
 (.out (qx [0,2,3] [])))
 [0,2,3]
abbrev nR:NC:=.reg
 (.x 1 (.call 115) [.qq 0] none []
 (.Q 2 (.icm .neq) [.qz 1,.qj 0]
 (.out (qx [2,3] [(37,.qz 2)]))))
 [0,2,3]
abbrev nP:NC:=.reg
 (.Q 0 (.bld [.int .i64 0,.int .i64 0,.int .i64 0,.int .i64 0,.int .i64 0,.int .i64 0,.int .i64 0,.int .i64 0,(.string ⟨#[]⟩),(.string ⟨#[]⟩),(.string ⟨#[]⟩),(.string ⟨#[]⟩),.int .i64 0,.int .i64 0,.int .i64 0,.int .i64 0,.int .i64 0,.int .i64 0,.int .i64 0,.int .i64 0,.bool false] []) []
 (.x 1 (.st 21) [.qq 2,.qz 0] none []
 (.out [(2,.qq 2)])))
 [2]
abbrev nO:NC:=.reg
 (.Q 0 (.lda 21) [.qq 3]
 (.x 1 (.st 21) [.qq 2,.qz 0] none []
 (.out [(2,.qq 2)])))
 [2,3]
abbrev aH:NC :=
 (.seq rQ
 (.seq ry
 (.seq rk
 (.seq (.seq rj
 (.cond (.qq 12)
 (.seq rz
 (.seq rq
 (.seq pU
 pT)))
 .skip))
 (.seq (.seq pS
 (.cond (.qq 32)
 pR
 .skip))
 (.seq (.seq nR
 (.cond (.qq 37)
 (.seq nP
 .ret)
 .skip))
 (.seq nO
 .ret)))))))
abbrev aI:FN:=⟨aH,[.cells 2 21]⟩
theorem rZ:GoT 85 Tryz.f85 aH aI:=goT (F:=aI) Tryz.func85 (by kernel_rfl)
abbrev pN:NC:=.reg
 (.x 0 (.box 41) [.qq 1] none []
 (.out [(0,.qq 0),(3,.qz 0)]))
 [0,1]
abbrev pM:NC:=.reg
 (.Q 0 (.lda 21) [.qq 3]
 (.x 1 (.call 72) [.qz 0] none []
 (.Q 2 .not [.qz 1]
 (.out (qx [0,3] [(7,.qz 2)])))))
 [0,3]
abbrev pI:NC:=.reg
 (.x 1 (.app 5 1 1 [.int .u8 0]) [.const (.slice none 0 0),.qq 0] none []
 (.out [(4,.qz 1)]))
 [0]
abbrev pH:NC:=.reg
 (.Q 1 (.fld 0) [.qq 3]
 (.Q 2 .ld [.qz 1]
 (.Q 4 (.fld 1) [.qq 3]
 (.Q 5 (.lda 2) [.qz 4]
 (.x 3 (.call 97) [.qq 0,.qz 2] none [(5,.lda 2,[.qz 4],none)]
 (.x 6 (.call 122) [.qz 3,.qz 5] none []
 (.out [(0,.qz 6),(3,.qq 3)])))))))
 [0,3]
abbrev pG:NC:=.reg
 (.Q 0 (.fld 0) [.qq 3]
 (.Q 1 .ld [.qz 0]
 (.Q 2 (.icm .eql) [.qz 1,.qj 0]
 (.out (qx [0,3] [(19,.qz 2)])))))
 [0,3]
abbrev pF:NC:=.reg
 (.out [(4,.qq 0)])
 [0]
abbrev pE:NC:=.reg
 (.Q 1 (.fld 3) [.qq 3]
 (.Q 2 (.lda 2) [.qz 1]
 (.Q 4 (.fld 5) [.qq 3]
 (.Q 5 (.lda 7) [.qz 4]
 (.x 3 (.call 122) [.qq 0,.qz 2] none [(5,.lda 7,[.qz 4],none)]
 (.x 6 (.call 123) [.qz 3,.qz 5] none []
 (.out [(0,.qz 6),(3,.qq 3)])))))))
 [0,3]
abbrev pD:NC:=.reg
 (.Q 1 (.fld 12) [.qq 3]
 (.Q 2 (.lda 8) [.qz 1]
 (.Q 4 (.fld 20) [.qq 3]
 (.Q 5 .ld [.qz 4]
 (.x 3 (.call 125) [.qq 0,.qz 2] none [(5,.ld,[.qz 4],none)]
 (.x 6 (.call 124) [.qz 3,.qz 5] none []
 (.out [(4,.qz 6)])))))))
 [0,3]
abbrev aF:NC :=
 (.seq pN
 (.seq (.seq pM
 (.cond (.qq 7)
 (.seq pI
 .ret)
 .skip))
 (.seq pH
 (.seq (.seq pG
 (.cond (.qq 19)
 (.seq pF
 .ret)
 .skip))
 (.seq pE
 (.seq pD
 .ret))))))
abbrev aG:FN:=⟨aF,[.qq 4]⟩
theorem pO:GoT 96 Tryz.f96 aF aG:=goT (F:=aG) Tryz.func96 (by kernel_rfl)
abbrev iC:NC:=.reg
 (.x 0 (.alc [.int .i64 0,.int .i64 0] 35) [] none []
 (.out [(0,.qq 0),(2,.qz 0)]))
 [0]
abbrev iB:NC:=.reg
 (.x 1 (.call 84) [.qq 0] none []
 (.out (qx [0,2] [(3,.qz 1)])))
 [0,2]
abbrev iA:NC:=.reg
 (.x 2 (.call 84) [.qq 0] none []
 (.Q 3 (.bld [.int .i64 0,.int .i64 0] [(0,1),(1,1)]) [.qq 3,.qz 2]
 (.x 4 (.st 2) [.qq 2,.qz 3] none []
 (.out [(2,.qq 2)]))))
 [0,2,3]
abbrev VM:NC :=
 (.seq iC
 (.seq iB
 (.seq iA
 .ret)))
abbrev VN:FN:=⟨VM,[.cells 2 2]⟩
theorem iD:GoT 111 Tryz.f111 VM VN:=goT (F:=VN) Tryz.func111 (by kernel_rfl)
abbrev uy:NC:=.reg
 (.x 0 (.box 35) [.qq 1] none []
 (.out [(0,.qq 0),(3,.qz 0)]))
 [0,1]
abbrev uw:NC:=.reg
 (.Q 1 (.fld 0) [.qq 3]
 (.Q 2 .ld [.qz 1]
 (.Q 4 (.fld 1) [.qq 3]
 (.Q 5 .ld [.qz 4]
 (.x 3 (.call 97) [.qq 0,.qz 2] none [(5,.ld,[.qz 4],none)]
 (.x 6 (.call 97) [.qz 3,.qz 5] none []
 (.out [(4,.qz 6)])))))))
 [0,3]
abbrev cH:NC :=
 (.seq uy
 (.seq uw
 .ret))
abbrev cI:FN:=⟨cH,[.qq 4]⟩
theorem uQ:GoT 122 Tryz.f122 cH cI:=goT (F:=cI) Tryz.func122 (by kernel_rfl)
end Go.Fw
namespace Go.Fw
open Go.Proofs
abbrev Ml:NC:=.reg
 (.out [(0,.qq 0)])
 [0]
abbrev Mi:NC:=.reg
 (.x 1 (.call 108) [.qq 0,.qj 0] none []
 (.Q 2 (.bld [.slice none 0 0,.int .i64 0,.int .i64 0] [(0,1)]) [.qz 1]
 (.x 3 (.box 179) [.qz 2] none []
 (.out [(2,.qz 3)]))))
 [0]
abbrev Ad:NC :=
 (.seq Ml
 (.seq Mi
 .ret))
abbrev Ae:FN:=⟨Ad,[.qq 2]⟩
theorem Mm:GoT 83 Tryz.f83 Ad Ae:=goT (F:=Ae) Tryz.func83 (by kernel_rfl)
abbrev mS:NC:=.reg
 (.out [(0,.qq 0)])
 [0]
abbrev mR:NC:=.reg
 (.Q 1 .nilck [.qq 0]
 (.Q 2 (.fld 2) [.qz 1]
 (.Q 3 .ld [.qz 2]
 (.Q 4 (.icm .neq) [.qz 3,.qj 0]
 (.out [(0,.qq 0),(11,.qz 4)])))))
 [0]
abbrev mO:NC:=.reg
 (.out [(2,.qj 0)])
 []
abbrev mN:NC:=.reg
 (.Q 1 .nilck [.qq 0]
 (.Q 2 (.fld 1) [.qz 1]
 (.Q 3 .ld [.qz 2]
 (.out [(0,.qq 0),(3,.qz 3),(4,.const (.int .u64 0))]))))
 [0]
abbrev mM:NC:=.reg
 (.out (qx [0,3,4] [(5,.qj 0)]))
 [0,3,4]
abbrev mL:NC:=.reg
 (.Q 1 .nilck [.qq 0]
 (.Q 2 (.fld 1) [.qz 1]
 (.Q 3 .ld [.qz 2]
 (.Q 5 .nilck [.qq 0]
 (.Q 6 (.fld 0) [.qz 5]
 (.Q 7 .ld [.qz 6]
 (.Q 8 .len [.qz 7]
 (.Q 9 (.icm .eql) [.qz 3,.qz 8]
 (.out (qx [0,3,4,5] [(27,.qz 9)]))))))))))
 [0,3,4,5]
abbrev mI:NC:=.reg
 (.x 2 (.call 109) [.qq 0,.qq 3,.qj 3] none []
 (.out []))
 [0,3]
abbrev mH:NC:=.reg
 (.out [(2,.qj 0)])
 []
abbrev mG:NC:=.reg
 (.Q 1 .nilck [.qq 0]
 (.Q 2 (.fld 0) [.qz 1]
 (.Q 3 .ld [.qz 2]
 (.Q 5 .nilck [.qq 0]
 (.Q 6 (.fld 1) [.qz 5]
 (.Q 7 .ld [.qz 6]
 (.Q 8 (.ixs 1) [.qz 3,.qz 7]
 (.Q 9 .ld [.qz 8]
 (.out (qx [0,3,4,5] [(6,.qz 9)]))))))))))
 [0,3,4,5]
abbrev mF:NC:=.reg
 (.Q 1 (.icm .gtr) [.qq 5,.qj 0]
 (.q 3 .mv [.qq 6] (some (.qz 1,true))
 (.q 4 (.icm .eql) [.qz 3,.const (.int .u8 0)] (some (.qz 1,true))
 (.Q 5 .pick [.qz 1,.qz 4,.const (.bool false)]
 (.q 7 .mv [.qq 5] (some (.qz 5,false))
 (.q 8 (.icm .eql) [.qz 7,.qj 9] (some (.qz 5,false))
 (.q 9 .mv [.qz 8] (some (.qz 5,false))
 (.q 10 .mv [.qq 6] (some (.qz 9,true))
 (.q 11 (.icm .gtr) [.qz 10,.const (.int .u8 1)] (some (.qz 9,true))
 (.q 12 .pick [.qz 9,.qz 11,.const (.bool false)] (some (.qz 5,false))
 (.Q 13 .pick [.qz 5,.const (.bool true),.qz 12]
 (.out (qx [0,3,4,5,6] [(54,.qz 13)])))))))))))))
 [0,3,4,5,6]
abbrev iq:NC:=.reg
 (.x 2 (.call 109) [.qq 0,.qq 3,.qj 4] none []
 (.out []))
 [0,3]
abbrev hU:NC:=.reg
 (.out [(2,.qj 0)])
 []
abbrev hG:NC:=.reg
 (.Q 1 .nilck [.qq 0]
 (.Q 2 (.fld 1) [.qz 1]
 (.Q 3 .ld [.qz 2]
 (.Q 4 (.iar .add) [.qz 3,.qj 1]
 (.Q 5 .nilck [.qq 0]
 (.Q 6 (.fld 1) [.qz 5]
 (.x 7 (.st 1) [.qz 6,.qz 4] none []
 (.out (qx [0,3,4,5,6] [])))))))))
 [0,3,4,5,6]
abbrev hX:NC:=.reg
 (.Q 2 (.ibt .and) [.qq 6,.const (.int .u8 127)]
 (.Q 3 (.conv .u64) [.qz 2]
 (.Q 5 (.iar .mul) [.qj 7,.qq 5]
 (.Q 6 (.conv .u64) [.qz 5]
 (.Q 7 (.ish .shl) [.qz 3,.qz 6]
 (.Q 8 (.ibt .or) [.qq 4,.qz 7]
 (.out (qx [0,3] [(4,.qz 8),(5,.qq 5),(6,.qq 6)]))))))))
 [0,3,4,5,6]
abbrev hZ:NC:=.reg
 (.Q 1 (.icm .lss) [.qq 6,.const (.int .u8 128)]
 (.out (qx [0,3,4,5] [(75,.qz 1)])))
 [0,3,4,5,6]
abbrev gU:NC:=.reg
 (.x 1 (.call 110) [.qq 4] none []
 (.out [(2,.qz 1)]))
 [4]
abbrev gT:NC:=.reg
 (.Q 1 (.iar .add) [.qq 5,.qj 1]
 (.out (qx [0,3,4] [(5,.qz 1)])))
 [0,3,4,5]
abbrev mT:NC :=
 (.seq (.block 1 (.seq (.seq mL
 (.cond (.qq 27)
 (.seq mI
 (.seq mH
 .ret))
 .skip))
 (.seq mG
 (.seq (.seq mF
 (.cond (.qq 54)
 (.seq iq
 (.seq hU
 .ret))
 .skip))
 (.seq hG
 (.seq hX
 (.seq hZ
 (.cond (.qq 75)
 (.seq gU
 .ret)
 .skip))))))))
 gT)
abbrev YZ:NC :=
 (.seq mS
 (.seq (.seq mR
 (.cond (.qq 11)
 (.seq mO
 .ret)
 .skip))
 (.seq mN
 (.seq mM
 (.block 0 (.loop [0,3,4,5] mT))))))
abbrev YJ:FN:=⟨YZ,[.qq 2]⟩
theorem mU:GoT 84 Tryz.f84 YZ YJ:=goT (F:=YJ) Tryz.func84 (by kernel_rfl)
abbrev nk:NC:=.reg
 (.out [(0,.qq 0)])
 [0]
abbrev nj:NC:=.reg
 (.Q 1 .nilck [.qq 0]
 (.Q 2 (.fld 2) [.qz 1]
 (.Q 3 .ld [.qz 2]
 (.Q 4 (.icm .eql) [.qz 3,.qj 0]
 (.q 6 .mv [.qq 0] (some (.qz 4,true))
 (.q 7 .nilck [.qz 6] (some (.qz 4,true))
 (.q 8 (.fld 1) [.qz 7] (some (.qz 4,true))
 (.q 9 .ld [.qz 8] (some (.qz 4,true))
 (.q 10 .mv [.qq 0] (some (.qz 4,true))
 (.q 11 .nilck [.qz 10] (some (.qz 4,true))
 (.q 12 (.fld 0) [.qz 11] (some (.qz 4,true))
 (.q 13 .ld [.qz 12] (some (.qz 4,true))
 (.q 14 .len [.qz 13] (some (.qz 4,true))
 (.q 15 (.icm .lss) [.qz 9,.qz 14] (some (.qz 4,true))
 (.Q 16 .pick [.qz 4,.qz 15,.const (.bool false)]
 (.out [(0,.qq 0),(19,.qz 16)]))))))))))))))))
 [0]
abbrev nz:NC:=.reg
 (.Q 1 .nilck [.qq 0]
 (.Q 2 (.fld 2) [.qz 1]
 (.x 3 (.st 1) [.qz 2,.qj 5] none []
 (.out [(0,.qq 0)]))))
 [0]
abbrev nq:NC:=.reg
 (.Q 1 .nilck [.qq 0]
 (.Q 2 (.fld 2) [.qz 1]
 (.Q 3 .ld [.qz 2]
 (.out [(2,.qz 3)]))))
 [0]
abbrev YX:NC :=
 (.seq nk
 (.seq (.seq nj
 (.cond (.qq 19)
 nz
 .skip))
 (.seq nq
 .ret)))
abbrev YK:FN:=⟨YX,[.qq 2]⟩
theorem ny:GoT 86 Tryz.f86 YX YK:=goT (F:=YK) Tryz.func86 (by kernel_rfl)
abbrev Pr:NC:=.reg
 (.out (qx [0,1] []))
 [0,1]
abbrev Pp:NC:=.reg
 (.x 1 (.call 108) [.qq 0,.qj 10] none []
 (.x 3 (.call 126) [.qz 1,.qq 1] none []
 (.out [(4,.qz 3)])))
 [0,1]
abbrev EQ:NC :=
 (.seq Pr
 (.seq Pp
 .ret))
abbrev EZ:FN:=⟨EQ,[.qq 4]⟩
theorem Ps:GoT 97 Tryz.f97 EQ EZ:=goT (F:=EZ) Tryz.func97 (by kernel_rfl)
abbrev Hy:NC:=.reg
 (.out (qx [0,1] []))
 [0,1]
abbrev Hw:NC:=.reg
 (.Q 1 .len [.qq 0]
 (.Q 3 (.iar .add) [.qz 1,.qq 1]
 (.x 4 (.mks 5 1 [.int .u8 0]) [.qj 0,.qz 3] none []
 (.x 6 (.app 5 1 1 [.int .u8 0]) [.qz 4,.qq 0] none []
 (.out [(4,.qz 6)])))))
 [0,1]
abbrev pK:NC :=
 (.seq Hy
 (.seq Hw
 .ret))
abbrev pV:FN:=⟨pK,[.qq 4]⟩
theorem HQ:GoT 108 Tryz.f108 pK pV:=goT (F:=pV) Tryz.func108 (by kernel_rfl)
abbrev gC:NC:=.reg
 (.Q 4 .nilck [.qq 0]
 (.Q 5 (.fld 1) [.qz 4]
 (.x 6 (.st 1) [.qz 5,.qq 1] none []
 (.Q 7 .nilck [.qq 0]
 (.Q 8 (.fld 2) [.qz 7]
 (.x 9 (.st 1) [.qz 8,.qq 2] none []
 (.out [])))))))
 [0,1,2]
abbrev Vs:NC :=
 gC
abbrev Vt:FN:=⟨Vs,[]⟩
theorem gD:GoT 109 Tryz.f109 Vs Vt:=goT (F:=Vt) Tryz.func109 (by kernel_rfl)
abbrev OA:NC:=.reg
 (.out [(0,.qq 0)])
 [0]
abbrev Ou:NC:=.reg
 (.Q 1 (.ish .shr) [.qq 0,.const (.int .u64 1)]
 (.Q 2 (.conv .i64) [.qz 1]
 (.Q 4 (.ibt .and) [.qq 0,.const (.int .u64 1)]
 (.Q 5 (.conv .i64) [.qz 4]
 (.Q 6 .neg [.qz 5]
 (.Q 7 (.ibt .xor) [.qz 2,.qz 6]
 (.out [(2,.qz 7)])))))))
 [0]
abbrev Dk:NC :=
 (.seq OA
 (.seq Ou
 .ret))
abbrev Dv:FN:=⟨Dk,[.qq 2]⟩
theorem OB:GoT 110 Tryz.f110 Dk Dv:=goT (F:=Dv) Tryz.func110 (by kernel_rfl)
abbrev iK:NC:=.reg
 (.out [(0,.qq 0)])
 [0]
abbrev iX:NC:=.reg
 (.Q 1 .nilck [.qq 0]
 (.Q 2 (.fld 2) [.qz 1]
 (.Q 3 .ld [.qz 2]
 (.Q 4 (.icm .neq) [.qz 3,.qj 0]
 (.out [(0,.qq 0),(8,.qz 4)])))))
 [0]
abbrev iJ:NC:=.reg
 (.out [(2,.const (.bool false))])
 []
abbrev iZ:NC:=.reg
 (.Q 1 .nilck [.qq 0]
 (.Q 2 (.fld 1) [.qz 1]
 (.Q 3 .ld [.qz 2]
 (.Q 5 .nilck [.qq 0]
 (.Q 6 (.fld 0) [.qz 5]
 (.Q 7 .ld [.qz 6]
 (.Q 8 .len [.qz 7]
 (.Q 9 (.icm .eql) [.qz 3,.qz 8]
 (.out [(0,.qq 0),(18,.qz 9)])))))))))
 [0]
abbrev iQ:NC:=.reg
 (.Q 2 .nilck [.qq 0]
 (.Q 3 (.fld 1) [.qz 2]
 (.Q 4 .ld [.qz 3]
 (.x 5 (.call 109) [.qq 0,.qz 4,.qj 3] none []
 (.out [])))))
 [0]
abbrev iy:NC:=.reg
 (.out [(2,.const (.bool false))])
 []
abbrev iw:NC:=.reg
 (.Q 1 .nilck [.qq 0]
 (.Q 2 (.fld 0) [.qz 1]
 (.Q 3 .ld [.qz 2]
 (.Q 5 .nilck [.qq 0]
 (.Q 6 (.fld 1) [.qz 5]
 (.Q 7 .ld [.qz 6]
 (.Q 8 (.ixs 1) [.qz 3,.qz 7]
 (.Q 9 .ld [.qz 8]
 (.out [(0,.qq 0),(3,.qz 9)])))))))))
 [0]
abbrev ik:NC:=.reg
 (.Q 1 (.icm .gtr) [.qq 3,.const (.int .u8 1)]
 (.out (qx [0,3] [(36,.qz 1)])))
 [0,3]
abbrev ij:NC:=.reg
 (.Q 2 .nilck [.qq 0]
 (.Q 3 (.fld 1) [.qz 2]
 (.Q 4 .ld [.qz 3]
 (.x 5 (.call 109) [.qq 0,.qz 4,.qj 4] none []
 (.out [])))))
 [0]
abbrev iz:NC:=.reg
 (.out [(2,.const (.bool false))])
 []
abbrev dR:NC:=.reg
 (.Q 1 .nilck [.qq 0]
 (.Q 2 (.fld 1) [.qz 1]
 (.Q 3 .ld [.qz 2]
 (.Q 4 (.iar .add) [.qz 3,.qj 1]
 (.Q 5 .nilck [.qq 0]
 (.Q 6 (.fld 1) [.qz 5]
 (.x 7 (.st 1) [.qz 6,.qz 4] none []
 (.out [(3,.qq 3)]))))))))
 [0,3]
abbrev dP:NC:=.reg
 (.Q 1 (.icm .eql) [.qq 3,.const (.int .u8 1)]
 (.out [(2,.qz 1)]))
 [3]
abbrev VB:NC :=
 (.seq iK
 (.seq (.seq iX
 (.cond (.qq 8)
 (.seq iJ
 .ret)
 .skip))
 (.seq (.seq iZ
 (.cond (.qq 18)
 (.seq iQ
 (.seq iy
 .ret))
 .skip))
 (.seq iw
 (.seq (.seq ik
 (.cond (.qq 36)
 (.seq ij
 (.seq iz
 .ret))
 .skip))
 (.seq dR
 (.seq dP
 .ret)))))))
abbrev VC:FN:=⟨VB,[.qq 2]⟩
theorem iW:GoT 114 Tryz.f114 VB VC:=goT (F:=VC) Tryz.func114 (by kernel_rfl)
abbrev dM:NC:=.reg
 (.out [(0,.qq 0)])
 [0]
abbrev dL:NC:=.reg
 (.Q 1 .nilck [.qq 0]
 (.Q 2 (.fld 2) [.qz 1]
 (.Q 3 .ld [.qz 2]
 (.out [(2,.qz 3)]))))
 [0]
abbrev KD:NC :=
 (.seq dM
 (.seq dL
 .ret))
abbrev KF:FN:=⟨KD,[.qq 2]⟩
theorem dN:GoT 115 Tryz.f115 KD KF:=goT (F:=KF) Tryz.func115 (by kernel_rfl)
abbrev ia:NC:=.reg
 (.Q 1 .nilck [.qq 0]
 (.Q 2 (.fld 2) [.qz 1]
 (.Q 3 .ld [.qz 2]
 (.Q 4 (.icm .eql) [.qz 3,.qj 0]
 (.out [(0,.qq 0),(6,.qz 4)])))))
 [0]
abbrev iY:NC:=.reg
 (.Q 1 .nilck [.qq 0]
 (.Q 2 (.fld 2) [.qz 1]
 (.x 3 (.st 1) [.qz 2,.qj 4] none []
 (.out []))))
 [0]
abbrev VD:NC :=
 (.seq ia
 (.cond (.qq 6)
 iY
 .skip))
abbrev VE:FN:=⟨VD,[]⟩
theorem ib:GoT 116 Tryz.f116 VD VE:=goT (F:=VE) Tryz.func116 (by kernel_rfl)
abbrev Mr:NC:=.reg
 (.out (qx [0,1] []))
 [0,1]
abbrev Mp:NC:=.reg
 (.out [(0,.qq 0),(5,.qq 1)])
 [0,1]
abbrev Mo:NC:=.reg
 (.x 1 (.call 108) [.qq 0,.qj 1] none []
 (.x 2 (.bsl 5 1 [.int .u8 0] [(0,1)]) [.const (.int .u8 1)] none []
 (.x 3 (.app 5 1 1 [.int .u8 0]) [.qz 1,.qz 2] none []
 (.out [(4,.qz 3)]))))
 [0]
abbrev Mn:NC:=.reg
 (.x 1 (.call 108) [.qq 0,.qj 1] none []
 (.x 2 (.bsl 5 1 [.int .u8 0] [(0,1)]) [.const (.int .u8 0)] none []
 (.x 3 (.app 5 1 1 [.int .u8 0]) [.qz 1,.qz 2] none []
 (.out [(4,.qz 3)]))))
 [0]
abbrev Af:NC :=
 (.seq Mr
 (.seq (.seq Mp
 (.cond (.qq 5)
 (.seq Mo
 .ret)
 .skip))
 (.seq Mn
 .ret)))
abbrev Ag:FN:=⟨Af,[.qq 4]⟩
theorem Ms:GoT 124 Tryz.f124 Af Ag:=goT (F:=Ag) Tryz.func124 (by kernel_rfl)
abbrev Ph:NC:=.reg
 (.out (qx [0,1] []))
 [0,1]
abbrev Pg:NC:=.reg
 (.x 1 (.call 144) [.qq 1] none []
 (.out [(0,.qq 0),(5,.qz 1)]))
 [0,1]
abbrev Pf:NC:=.reg
 (.Q 1 (.icm .geq) [.qq 5,.const (.int .u64 128)]
 (.out (qx [0,5] [(9,.qz 1)])))
 [0,5]
abbrev Pe:NC:=.reg
 (.Q 2 (.conv .u8) [.qq 5]
 (.Q 3 (.ibt .or) [.qz 2,.const (.int .u8 128)]
 (.x 4 (.bsl 5 1 [.int .u8 0] [(0,1)]) [.qz 3] none []
 (.x 5 (.app 5 1 1 [.int .u8 0]) [.qq 0,.qz 4] none []
 (.out [(0,.qz 5),(5,.qq 5)])))))
 [0,5]
abbrev Pd:NC:=.reg
 (.Q 1 (.ish .shr) [.qq 5,.const (.int .u64 7)]
 (.out [(0,.qq 0),(5,.qz 1)]))
 [0,5]
abbrev Pm:NC :=
 (.seq (.seq Pf
 (.cond (.qq 9)
 .skip
 (.exit 0)))
 (.block 1 (.seq Pe
 Pd)))
abbrev Pc:NC:=.reg
 (.Q 2 (.conv .u8) [.qq 5]
 (.x 3 (.bsl 5 1 [.int .u8 0] [(0,1)]) [.qz 2] none []
 (.x 4 (.app 5 1 1 [.int .u8 0]) [.qq 0,.qz 3] none []
 (.out [(4,.qz 4)]))))
 [0,5]
abbrev Ew:NC :=
 (.seq Ph
 (.seq Pg
 (.seq (.block 0 (.loop [0,5] Pm))
 (.seq Pc
 .ret))))
abbrev Ey:FN:=⟨Ew,[.qq 4]⟩
theorem Pn:GoT 126 Tryz.f126 Ew Ey:=goT (F:=Ey) Tryz.func126 (by kernel_rfl)
abbrev gR:NC:=.reg
 (.out (qx [0,1] []))
 [0,1]
abbrev gO:NC:=.reg
 (.Q 1 .nilck [.qq 0]
 (.Q 2 (.fld 1) [.qz 1]
 (.Q 3 .ld [.qz 2]
 (.out (qx [0,1] [(5,.qz 3)])))))
 [0,1]
abbrev gN:NC:=.reg
 (.x 2 (.call 146) [.qq 0,.qq 1] none []
 (.out (qx [0,5] [(6,.qz 2)])))
 [0,1,5]
abbrev gM:NC:=.reg
 (.Q 1 .nilck [.qq 0]
 (.Q 2 (.fld 2) [.qz 1]
 (.Q 3 .ld [.qz 2]
 (.Q 4 (.icm .neq) [.qz 3,.qj 0]
 (.out (qx [0,5,6] [(19,.qz 4)]))))))
 [0,5,6]
abbrev gL:NC:=.reg
 (.out [(4,.const (.string ⟨#[]⟩))])
 []
abbrev gI:NC:=.reg
 (.Q 2 .nilck [.qq 0]
 (.Q 3 (.fld 0) [.qz 2]
 (.Q 4 .ld [.qz 3]
 (.Q 5 .len [.qz 4]
 (.Q 7 .nilck [.qq 0]
 (.Q 8 (.fld 1) [.qz 7]
 (.Q 9 .ld [.qz 8]
 (.Q 10 (.iar .sub) [.qz 5,.qz 9]
 (.Q 11 (.icm .gtr) [.qq 6,.qz 10]
 (.out (qx [0,5,6] [(31,.qz 11)])))))))))))
 [0,5,6]
abbrev gH:NC:=.reg
 (.x 2 (.call 109) [.qq 0,.qq 5,.qj 3] none []
 (.out []))
 [0,5]
abbrev gG:NC:=.reg
 (.out [(4,.const (.string ⟨#[]⟩))])
 []
abbrev gF:NC:=.reg
 (.Q 1 .nilck [.qq 0]
 (.Q 2 (.fld 0) [.qz 1]
 (.Q 3 .ld [.qz 2]
 (.Q 5 .nilck [.qq 0]
 (.Q 6 (.fld 1) [.qz 5]
 (.Q 7 .ld [.qz 6]
 (.Q 9 .nilck [.qq 0]
 (.Q 10 (.fld 1) [.qz 9]
 (.Q 11 .ld [.qz 10]
 (.Q 13 (.iar .add) [.qz 11,.qq 6]
 (.Q 14 (.slc 1 true true) [.qz 3,.qz 7,.qz 13]
 (.Q 15 .b2s [.qz 14]
 (.out (qx [0,6] [(7,.qz 15)]))))))))))))))
 [0,6]
abbrev gE:NC:=.reg
 (.Q 1 .nilck [.qq 0]
 (.Q 2 (.fld 1) [.qz 1]
 (.Q 3 .ld [.qz 2]
 (.Q 5 (.iar .add) [.qz 3,.qq 6]
 (.Q 6 .nilck [.qq 0]
 (.Q 7 (.fld 1) [.qz 6]
 (.x 8 (.st 1) [.qz 7,.qz 5] none []
 (.out [(7,.qq 7)]))))))))
 [0,6,7]
abbrev dO:NC:=.reg
 (.out [(4,.qq 7)])
 [7]
abbrev Vu:NC :=
 (.seq gR
 (.seq gO
 (.seq gN
 (.seq (.seq gM
 (.cond (.qq 19)
 (.seq gL
 .ret)
 .skip))
 (.seq (.seq gI
 (.cond (.qq 31)
 (.seq gH
 (.seq gG
 .ret))
 .skip))
 (.seq gF
 (.seq gE
 (.seq dO
 .ret))))))))
abbrev VA:FN:=⟨Vu,[.qq 4]⟩
theorem gS:GoT 131 Tryz.f131 Vu VA:=goT (F:=VA) Tryz.func131 (by kernel_rfl)
abbrev Mg:NC:=.reg
 (.out (qx [0,1] []))
 [0,1]
abbrev Mf:NC:=.reg
 (.Q 2 .lenz [.qq 1]
 (.Q 3 (.iar .add) [.qj 10,.qz 2]
 (.x 4 (.call 108) [.qq 0,.qz 3] none []
 (.Q 6 .lenz [.qq 1]
 (.x 7 (.call 126) [.qz 4,.qz 6] none []
 (.x 9 (.apps 5) [.qz 7,.qq 1] none []
 (.out [(4,.qz 9)])))))))
 [0,1]
abbrev Ab:NC :=
 (.seq Mg
 (.seq Mf
 .ret))
abbrev Ac:FN:=⟨Ab,[.qq 4]⟩
theorem Mh:GoT 143 Tryz.f143 Ab Ac:=goT (F:=Ac) Tryz.func143 (by kernel_rfl)
abbrev Oo:NC:=.reg
 (.out [(0,.qq 0)])
 [0]
abbrev On:NC:=.reg
 (.Q 1 (.conv .u64) [.qq 0]
 (.Q 2 (.ish .shl) [.qz 1,.const (.int .u64 1)]
 (.Q 4 (.ish .shr) [.qq 0,.const (.int .u64 63)]
 (.Q 5 (.conv .u64) [.qz 4]
 (.Q 6 (.ibt .xor) [.qz 2,.qz 5]
 (.out [(2,.qz 6)]))))))
 [0]
abbrev Dj:NC :=
 (.seq Oo
 (.seq On
 .ret))
abbrev Dx:FN:=⟨Dj,[.qq 2]⟩
theorem Ot:GoT 144 Tryz.f144 Dj Dx:=goT (F:=Dx) Tryz.func144 (by kernel_rfl)
abbrev eZ:NC:=.reg
 (.out (qx [0,1] []))
 [0,1]
abbrev eQ:NC:=.reg
 (.Q 1 .nilck [.qq 0]
 (.Q 2 (.fld 1) [.qz 1]
 (.Q 3 .ld [.qz 2]
 (.out (qx [0,1] [(5,.qz 3)])))))
 [0,1]
abbrev ej:NC:=.reg
 (.x 1 (.call 84) [.qq 0] none []
 (.out (qx [0,1,5] [(6,.qz 1)])))
 [0,1,5]
abbrev ez:NC:=.reg
 (.Q 1 .nilck [.qq 0]
 (.Q 2 (.fld 2) [.qz 1]
 (.Q 3 .ld [.qz 2]
 (.Q 4 (.icm .eql) [.qz 3,.qj 0]
 (.q 6 .mv [.qq 6] (some (.qz 4,true))
 (.q 7 (.icm .lss) [.qz 6,.qj 0] (some (.qz 4,true))
 (.q 8 .mv [.qz 7] (some (.qz 4,true))
 (.q 9 .mv [.qq 6] (some (.qz 8,false))
 (.q 10 .mv [.qq 1] (some (.qz 8,false))
 (.q 11 (.icm .gtr) [.qz 9,.qz 10] (some (.qz 8,false))
 (.q 12 .pick [.qz 8,.const (.bool true),.qz 11] (some (.qz 4,true))
 (.Q 13 .pick [.qz 4,.qz 12,.const (.bool false)]
 (.out (qx [0,5,6] [(26,.qz 13)]))))))))))))))
 [0,1,5,6]
abbrev dU:NC:=.reg
 (.x 2 (.call 109) [.qq 0,.qq 5,.qj 2] none []
 (.out []))
 [0,5]
abbrev dT:NC:=.reg
 (.out [(4,.qj 0)])
 []
abbrev dS:NC:=.reg
 (.out [(4,.qq 6)])
 [6]
abbrev KG:NC :=
 (.seq eZ
 (.seq eQ
 (.seq ej
 (.seq (.seq ez
 (.cond (.qq 26)
 (.seq dU
 (.seq dT
 .ret))
 .skip))
 (.seq dS
 .ret)))))
abbrev KH:FN:=⟨KG,[.qq 4]⟩
theorem eJ:GoT 146 Tryz.f146 KG KH:=goT (F:=KH) Tryz.func146 (by kernel_rfl)
end Go.Fw
