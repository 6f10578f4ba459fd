import Derived.Test.YtimedjfpihdffaaGreatCtX
import Derived.Test.YtimedjfpihdffaaGreatCdF
import Derived.Test.YtimedjfpihdffaaGreatCuX
import Derived.Test.YtimedjfpihdffaaGreatCqY
import Derived.Test.YtimedjfpihdffaaGreatCsX
import Derived.Test.YtimedjfpihdffaaGreatCtY
import Derived.Test.YtimedjfpihdffaaGreatFxB
set_option linter.unusedVariables false
set_option linter.unusedSimpArgs false
set_option maxHeartbeats 16000000
namespace Go.Fw
open Go.Proofs
variable {m m0 M:Mem} {S:List Nat} {L:List As}
def xa(d:Dp)(i:Int×Int):Prop:=zj i∧i.2≤d.g i.1.toNat
instance (d:Dp) (i:Int×Int):Decidable (xa d i):=by unfold xa;exact inferInstance
theorem AT(d:Dp)(i:Int×Int)(m:Mem):MC Tryz.prog Io [d.v,pv i] m λu M=>u=.bool (decide (xa d i))∧Fr m M []:=by
 refine Gy (by simp [Tryz.f33]) ?_
 have H:=Hq.refl m []
 by_cases hr:zj i
 ·obtain ⟨p,q⟩:=i
  have h1:=hr.1
  have h2:=hr.2.1
  obtain ⟨k,rfl⟩:∃ k:Nat,p=(k:Nat):=⟨p.toNat,by omega⟩
  have hk:k < 7:=by omega
  have hg:=Lw d k hk
  have hd:decide (xa d (((k:Nat):Int),q))=decide (d.g k≥q):=by
   have:xa d (((k:Nat):Int),q)=(d.g k≥q):=propext ⟨λh=>h.2,λh=>⟨hr,h⟩⟩
   simp only [this]
  rw [hd]
  simp (disch:=omega) only [go_sem,undef]
  refine qg H λb1 M f H=>?_
  simp (disch:=omega) only [go_sem,undef,H.cs]
  refine qg H λb2 M f H=>?_
  simp (disch:=omega) only [go_sem,undef,H.cs]
  refine qa H (zx (((k:Nat):Int),q) _) λM f H=>?_
  simp (disch:=omega) only [go_sem,undef,H.cs,qZ hr,hg]
  exact ⟨rfl,H.fr⟩
 ·have hd:decide (xa d i)=false:=decide_eq_false λh=>hr h.1
  rw [hd]
  simp (disch:=omega) only [go_sem,undef]
  refine qg H λb1 M f H=>?_
  simp (disch:=omega) only [go_sem,undef,H.cs]
  refine qg H λb2 M f H=>?_
  simp (disch:=omega) only [go_sem,undef,H.cs]
  refine qa H (zx i _) λM f H=>?_
  simp (disch:=omega) only [go_sem,undef,H.cs,qX hr]
  exact ⟨rfl,H.fr⟩
end Go.Fw
namespace Go.Fw
open Go.Proofs
variable {m m0 M:Mem} {S:List Nat} {L:List As}
variable {Q:Exit→Env→Mem→Prop} {E:Env} {wb n i b6 b9 b10 k:Nat} {V:Wv} {W:Wd} {C:Co} {D:Dp} {c:Cel} {id:Int×Int} {r s:Int} {ia ca:Option Addr} {ic cc:Nat} {l:List ((Int×Int)×Cel)}
abbrev eI(p:(Int×Int)×Cel):List Value:=pc p.1
abbrev eC(p:(Int×Int)×Cel):List Value:=p.2.cs
abbrev Kz(v:Value)(l:List ((Int×Int)×Cel)):As:=qV qW 2 v l.length (l.flatMap eI)
abbrev Jz(v:Value)(l:List ((Int×Int)×Cel)):As:=qV qc 21 v l.length (l.flatMap eC)
abbrev c9(b:Nat)(id:Int×Int):As:=qw b (.cells (pc id).toArray qW (0,0))
abbrev c10(b:Nat)(c:Cel):As:=qw b (.cells c.cs.toArray qc (0,0))
abbrev c6(b:Nat)(D:Dp):As:=qw b (.cells (dv D).toArray cR (0,0))
theorem fmI(l:List ((Int×Int)×Cel))(p:(Int×Int)×Cel):(l++[p]).flatMap eI=l.flatMap eI++pc p.1:=by simp
theorem fmC(l:List ((Int×Int)×Cel))(p:(Int×Int)×Cel):(l++[p]).flatMap eC=l.flatMap eC++p.2.cs:=by simp
abbrev agK(m:Mem)(S:List Nat)(wb i b6:Nat)(D:Dp)(r s:Int)(V:Wv)(W:Wd)(b10 k:Nat)(c:Cel)(Q:Exit→Env→Mem→Prop)(l:List ((Int×Int)×Cel)):Prop :=
 ∀ iv cv M (E':Env),E'.get 0=lp wb→E'.get 3=iv→E'.get 4=cv→E'.get 5=.int .i64 (i:Nat)→E'.get 6=lp b6→E'.get 7=.int .i64 r→E'.get 8=.int .i64 s→E'.get 10=lp b10→E'.get 12=.int .i64 (k:Nat) →
  E'.has 0=true→E'.has 3=true→E'.has 4=true→E'.has 5=true→E'.has 6=true→E'.has 7=true→E'.has 8=true→E'.has 10=true→E'.has 12=true→Hq m M S [c10 b10 c,c6 b6 D,Kz iv l,Jz cv l,wdA wb V W]→Q .normal E' M
theorem UN{b:Nat}{l:List Value}{t:TypeId}{fr:Nat×Nat}{k:Nat}(h:m b=some (.cells l.toArray t fr))(hl:l.length=k):ldS m (some ⟨b,0,none⟩) (1*k)=some l:=by
 rw [zQ h (by omega),List.take_of_length_le (by omega)]
theorem ag_17(hl:l.length≤100000)(H:Hq m M S [c10 b10 c,c9 b9 id,c6 b6 D,Kz (.slice ia l.length ic) l,Jz (.slice ca l.length cc) l,wdA wb V W])(K:agK m S wb i b6 D r s V W b10 k c Q (l++[(id,c)]))(e0:E.get 0=lp wb)(e3:E.get 3=.slice ia l.length ic)(e4:E.get 4=.slice ca l.length cc)(e5:E.get 5=.int .i64 (i:Nat))(e6:E.get 6=lp b6)(e7:E.get 7=.int .i64 r)(e8:E.get 8=.int .i64 s)(e9:E.get 9=lp b9)(e10:E.get 10=lp b10)(e12:E.get 12=.int .i64 (k:Nat))(h0:E.has 0=true)(h3:E.has 3=true)(h4:E.has 4=true)(h5:E.has 5=true)(h6:E.has 6=true)(h7:E.has 7=true)(h8:E.has 8=true)(h9:E.has 9=true)(h10:E.has 10=true)(h12:E.has 12=true) :
  wpN Tryz.prog zM Q E M:=by
 have hln:(l++[(id,c)]).length=l.length+1:=by simp
 have fin:∀ {iv cv:Value} {M},Hq m M S [c10 b10 c,c6 b6 D,qV qW 2 iv (l.length+1) (l.flatMap eI++pc id),qV qc 21 cv (l.length+1) (l.flatMap eC++c.cs),wdA wb V W]→Hq m M S [c10 b10 c,c6 b6 D,Kz iv (l++[(id,c)]),Jz cv (l++[(id,c)]),wdA wb V W]:=λ{iv cv M} H=>by
  rw [Kz,Jz,hln,fmI,fmC];exact H
 simp (disch:=omega) only [go_sem,undef,e0,e3,e4,e5,e6,e7,e8,e9,e10,e12,h0,h3,h4,h5,h6,h7,h8,h9,h10,h12,H.cs]
 refine qp ?_ ?_
 ·simp (disch:=omega) only [go_sem,undef,e0,e3,e4,e5,e6,e7,e8,e9,e10,e12,h0,h3,h4,h5,h6,h7,h8,h9,h10,h12,H.cs]
  refine qg H λb2 M f H=>?_
  simp (disch:=omega) only [go_sem,undef,e0,e3,e4,e5,e6,e7,e8,e9,e10,e12,h0,h3,h4,h5,h6,h7,h8,h9,h10,h12,H.cs]
  refine qp ?_ ?_
  ·simp (disch:=omega) only [go_sem,undef,e0,e3,e4,e5,e6,e7,e8,e9,e10,e12,h0,h3,h4,h5,h6,h7,h8,h9,h10,h12,H.cs]
   refine Qc 4 H rfl rfl (k:=1) (news:=pc id) (UN (cell_of (H.at 0 rfl)) rfl) rfl (λv hv=>List.all_eq_true.1 (rD _) v hv) rfl (by omega) (by omega) λw3 M f H=>?_
   have H:Hq m M S [c9 b2 id,c10 b10 c,c9 b9 id,c6 b6 D,qV qW 2 w3 (l.length+1) (l.flatMap eI++pc id),Jz (.slice ca l.length cc) l,wdA wb V W]:=H
   simp (disch:=omega) only [go_sem,undef,e0,e3,e4,e5,e6,e7,e8,e9,e10,e12,h0,h3,h4,h5,h6,h7,h8,h9,h10,h12,H.cs]
   refine qg H λb6' M f H=>?_
   simp (disch:=omega) only [go_sem,undef,e0,e3,e4,e5,e6,e7,e8,e9,e10,e12,h0,h3,h4,h5,h6,h7,h8,h9,h10,h12,H.cs]
   refine Qc 6 H rfl rfl (k:=1) (news:=c.cs) (UN (cell_of (H.at 0 rfl)) rfl) rfl (λv hv=>List.all_eq_true.1 (Cel.one _) v hv) rfl (by omega) (by omega) λw7 M f H=>?_
   have H:Hq m M S [c10 b6' c,c9 b2 id,c10 b10 c,c9 b9 id,c6 b6 D,qV qW 2 w3 (l.length+1) (l.flatMap eI++pc id),qV qc 21 w7 (l.length+1) (l.flatMap eC++c.cs),wdA wb V W]:=H
   simp (disch:=omega) only [go_sem,undef,e0,e3,e4,e5,e6,e7,e8,e9,e10,e12,h0,h3,h4,h5,h6,h7,h8,h9,h10,h12]
   exact K w3 w7 M _ rfl rfl rfl rfl rfl rfl rfl rfl rfl rfl rfl rfl rfl rfl rfl rfl rfl rfl (fin (H.sel 8 [2,4,5,6,7] rfl (by decide) (by decide)))
  ·simp (disch:=omega) only [go_sem,undef,e0,e3,e4,e5,e6,e7,e8,e9,e10,e12,h0,h3,h4,h5,h6,h7,h8,h9,h10,h12,H.cs]
   refine qg H λb6' M f H=>?_
   simp (disch:=omega) only [go_sem,undef,e0,e3,e4,e5,e6,e7,e8,e9,e10,e12,h0,h3,h4,h5,h6,h7,h8,h9,h10,h12,H.cs]
   refine Qc 5 H rfl rfl (k:=1) (news:=pc id) (UN (cell_of (H.at 1 rfl)) rfl) rfl (λv hv=>List.all_eq_true.1 (rD _) v hv) rfl (by omega) (by omega) λw3 M f H=>?_
   have H:Hq m M S [c10 b6' c,c9 b2 id,c10 b10 c,c9 b9 id,c6 b6 D,qV qW 2 w3 (l.length+1) (l.flatMap eI++pc id),Jz (.slice ca l.length cc) l,wdA wb V W]:=H
   simp (disch:=omega) only [go_sem,undef,e0,e3,e4,e5,e6,e7,e8,e9,e10,e12,h0,h3,h4,h5,h6,h7,h8,h9,h10,h12,H.cs]
   refine Qc 6 H rfl rfl (k:=1) (news:=c.cs) (UN (cell_of (H.at 0 rfl)) rfl) rfl (λv hv=>List.all_eq_true.1 (Cel.one _) v hv) rfl (by omega) (by omega) λw7 M f H=>?_
   have H:Hq m M S [c10 b6' c,c9 b2 id,c10 b10 c,c9 b9 id,c6 b6 D,qV qW 2 w3 (l.length+1) (l.flatMap eI++pc id),qV qc 21 w7 (l.length+1) (l.flatMap eC++c.cs),wdA wb V W]:=H
   simp (disch:=omega) only [go_sem,undef,e0,e3,e4,e5,e6,e7,e8,e9,e10,e12,h0,h3,h4,h5,h6,h7,h8,h9,h10,h12]
   exact K w3 w7 M _ rfl rfl rfl rfl rfl rfl rfl rfl rfl rfl rfl rfl rfl rfl rfl rfl rfl rfl (fin (H.sel 8 [2,4,5,6,7] rfl (by decide) (by decide)))
 ·simp (disch:=omega) only [go_sem,undef,e0,e3,e4,e5,e6,e7,e8,e9,e10,e12,h0,h3,h4,h5,h6,h7,h8,h9,h10,h12,H.cs]
  refine qg H λb6' M f H=>?_
  simp (disch:=omega) only [go_sem,undef,e0,e3,e4,e5,e6,e7,e8,e9,e10,e12,h0,h3,h4,h5,h6,h7,h8,h9,h10,h12,H.cs]
  refine qg H λb2 M f H=>?_
  simp (disch:=omega) only [go_sem,undef,e0,e3,e4,e5,e6,e7,e8,e9,e10,e12,h0,h3,h4,h5,h6,h7,h8,h9,h10,h12,H.cs]
  refine Qc 5 H rfl rfl (k:=1) (news:=pc id) (UN (cell_of (H.at 0 rfl)) rfl) rfl (λv hv=>List.all_eq_true.1 (rD _) v hv) rfl (by omega) (by omega) λw3 M f H=>?_
  have H:Hq m M S [c9 b2 id,c10 b6' c,c10 b10 c,c9 b9 id,c6 b6 D,qV qW 2 w3 (l.length+1) (l.flatMap eI++pc id),Jz (.slice ca l.length cc) l,wdA wb V W]:=H
  simp (disch:=omega) only [go_sem,undef,e0,e3,e4,e5,e6,e7,e8,e9,e10,e12,h0,h3,h4,h5,h6,h7,h8,h9,h10,h12,H.cs]
  refine Qc 6 H rfl rfl (k:=1) (news:=c.cs) (UN (cell_of (H.at 1 rfl)) rfl) rfl (λv hv=>List.all_eq_true.1 (Cel.one _) v hv) rfl (by omega) (by omega) λw7 M f H=>?_
  have H:Hq m M S [c9 b2 id,c10 b6' c,c10 b10 c,c9 b9 id,c6 b6 D,qV qW 2 w3 (l.length+1) (l.flatMap eI++pc id),qV qc 21 w7 (l.length+1) (l.flatMap eC++c.cs),wdA wb V W]:=H
  simp (disch:=omega) only [go_sem,undef,e0,e3,e4,e5,e6,e7,e8,e9,e10,e12,h0,h3,h4,h5,h6,h7,h8,h9,h10,h12]
  exact K w3 w7 M _ rfl rfl rfl rfl rfl rfl rfl rfl rfl rfl rfl rfl rfl rfl rfl rfl rfl rfl (fin (H.sel 8 [2,4,5,6,7] rfl (by decide) (by decide)))
end Go.Fw
namespace Go.Fw
open Go.Proofs
variable {m m0 M:Mem} {S:List Nat} {L:List As}
variable {Q:Exit→Env→Mem→Prop} {E:Env} {wb n i b6 b9 b10 k:Nat} {V:Wv} {W:Wd} {C:Co} {D:Dp} {c:Cel} {id:Int×Int} {r s:Int} {ia ca:Option Addr} {ic cc:Nat} {l:List ((Int×Int)×Cel)} {p:(Int×Int)×Cel} {T:Int×Int→Cmd×Att} {Cm:Int×Int→Prop}
structure AgP(T:Int×Int→Cmd×Att)(Cm:Int×Int→Prop)(p:(Int×Int)×Cel):Prop where
 cmd:p.2.cmd=(T p.1).1
 att:p.2.att=(T p.1).2
 cm:Cm p.1
 key:p.2.cmd.key.size≤1000
structure AgL(T:Int×Int→Cmd×Att)(Cm:Int×Int→Prop)(l:List ((Int×Int)×Cel)):Prop where
 ok:∀ p∈l,AgP T Cm p
 nd:(l.map Prod.fst).Nodup
theorem nd_ne{l:List ((Int×Int)×Cel)}(h:(l.map Prod.fst).Nodup){a b:Nat}{p q:(Int×Int)×Cel}(ha:l[a]?=some p)(hb:l[b]?=some q)(hab:b < a):p.1≠q.1:=by
 obtain ⟨h1,e1⟩:=List.getElem?_eq_some_iff.1 ha
 obtain ⟨h2,e2⟩:=List.getElem?_eq_some_iff.1 hb
 have:=List.pairwise_iff_getElem.1 h b a (by simpa using h2) (by simpa using h1) hab
 rw [List.getElem_map,List.getElem_map,e1,e2] at this
 exact λe=>this e.symm
abbrev ag7(m:Mem)(S:List Nat)(wb i b6:Nat)(D:Dp)(r s:Int)(V:Wv)(W:Wd)(T:Int×Int→Cmd×Att)(Cm:Int×Int→Prop)(n:Nat)(e:Exit→Prop)(Q:Exit→Env→Mem→Prop):Prop :=
 ∀ x (l:List ((Int×Int)×Cel)) iv cv M (E':Env),e x→AgL T Cm l→l.length≤n→E'.get 0=lp wb→E'.get 3=iv→E'.get 4=cv→E'.get 5=.int .i64 (i:Nat)→E'.get 6=lp b6→E'.get 7=.int .i64 r→E'.get 8=.int .i64 s →
  E'.has 0=true→E'.has 3=true→E'.has 4=true→E'.has 5=true→E'.has 6=true→E'.has 7=true→E'.has 8=true→Hq m M S [c6 b6 D,Kz iv l,Jz cv l,wdA wb V W]→Q x E' M
theorem eY{iv:Value}(h:(Kz iv l).p M):RdS 2 eI M iv l:=Own.rds (by decide) (λ_=>rfl) h
theorem WJ{cv:Value}(h:(Jz cv l).p M):RdS 21 eC M cv l:=Own.rds (by decide) (λ_=>rfl) h
abbrev agS:NC:=.seq Xx (.cond (.qq 115) (.seq Xj .ret) .skip)
abbrev agR:NC:=.seq (.seq kF (.cond (.qq 89) zM .skip)) agS
theorem qyU{iv cv:Value}(hl:AgL T Cm l)(hln:l.length≤n)(hp:l[k]?=some p)(hc1:p.2.cmd=c.cmd)(hc2:p.2.att=c.att)(H:Hq m M S [c10 b10 c,c6 b6 D,Kz iv l,Jz cv l,wdA wb V W])(K:ag7 m S wb i b6 D r s V W T Cm n (·=.normal) Q)(e0:E.get 0=lp wb)(e3:E.get 3=iv)(e4:E.get 4=cv)(e5:E.get 5=.int .i64 (i:Nat))(e6:E.get 6=lp b6)(e7:E.get 7=.int .i64 r)(e8:E.get 8=.int .i64 s)(e10:E.get 10=lp b10)(e12:E.get 12=.int .i64 (k:Nat))(h0:E.has 0=true)(h3:E.has 3=true)(h4:E.has 4=true)(h5:E.has 5=true)(h6:E.has 6=true)(h7:E.has 7=true)(h8:E.has 8=true)(h10:E.has 10=true)(h12:E.has 12=true) :
  wpN Tryz.prog agS Q E M:=by
 have hkl:=(List.getElem?_eq_some_iff.1 hp).1
 have hr:=WJ (H.at 3 rfl)
 refine Exists.elim hr.form λca hv=>Exists.elim hv λcc hv=>?_
 rw [hv] at hr
 refine RdS.elK hr hkl (by decide) λbx o p' hp' hix hE=>?_
 have ep:p'=p:=Option.some.inj (hp'.symm.trans hp)
 subst ep
 have g1:YJ (M bx) (o+5) 7=some (.agg p'.2.cmd.cs.toArray):=hE.lda 5 7 (by decide) (by decide)
 have g2:YJ (M bx) (o+12) 8=some (.agg p'.2.att.cs.toArray):=hE.lda 12 8 (by decide) (by decide)
 rw [hv] at e4
 simp (disch:=omega) only [go_sem,undef,e0,e3,e4,e5,e6,e7,e8,e10,e12,h0,h3,h4,h5,h6,h7,h8,h10,h12,hix,g1,g2,H.cs,qZ hc1,qZ hc2,Bool.not_true]
 exact K _ l _ _ M _ rfl hl hln rfl rfl (by rw [← hv]) rfl rfl rfl rfl rfl rfl rfl rfl rfl rfl rfl (by rw [← hv];exact H.tail)
theorem ag_R(hl:AgL T Cm l)(hln:l.length+1≤n)(hn:n≤100000)(hk:(k=l.length∧id∉l.map Prod.fst)∨∃ p,l[k]?=some p∧p.1=id)(hc:AgP T Cm (id,c))(H:Hq m M S [c10 b10 c,c9 b9 id,c6 b6 D,Kz (.slice ia l.length ic) l,Jz (.slice ca l.length cc) l,wdA wb V W])(K:ag7 m S wb i b6 D r s V W T Cm n (·=.normal) Q)(e0:E.get 0=lp wb)(e3:E.get 3=.slice ia l.length ic)(e4:E.get 4=.slice ca l.length cc)(e5:E.get 5=.int .i64 (i:Nat))(e6:E.get 6=lp b6)(e7:E.get 7=.int .i64 r)(e8:E.get 8=.int .i64 s)(e9:E.get 9=lp b9)(e10:E.get 10=lp b10)(e12:E.get 12=.int .i64 (k:Nat))(h0:E.has 0=true)(h3:E.has 3=true)(h4:E.has 4=true)(h5:E.has 5=true)(h6:E.has 6=true)(h7:E.has 7=true)(h8:E.has 8=true)(h9:E.has 9=true)(h10:E.has 10=true)(h12:E.has 12=true) :
  wpN Tryz.prog agR Q E M:=by
 show wpN Tryz.prog (.seq (.seq kF (.cond (.qq 89) zM .skip)) agS) Q E M
 generalize hT:agS=TS
 generalize hT17:zM=T17
 rcases hk with ⟨hk,hni⟩ | ⟨p,hp,hpi⟩
 ·simp (disch:=omega) only [go_sem,undef,e0,e3,e4,e5,e6,e7,e8,e9,e10,e12,h0,h3,h4,h5,h6,h7,h8,h9,h10,h12,qZ (show ((k:Nat):Int)=(l.length:Nat) by omega)]
  subst hT17
  refine ag_17 (by omega) H (λiv cv M E' g0 g3 g4 g5 g6 g7 g8 g10 g12 k0 k3 k4 k5 k6 k7 k8 k10 k12 H=>?_) rfl rfl rfl rfl rfl rfl rfl rfl rfl rfl rfl rfl rfl rfl rfl rfl rfl rfl rfl rfl
  subst hT
  have hl2:AgL T Cm (l++[(id,c)]):=⟨λp hp=>by
   rcases List.mem_append.1 hp with hp | hp
   ·exact hl.ok p hp
   ·rw [List.mem_singleton.1 hp];exact hc,by
   rw [List.map_append]
   exact List.nodup_append.2 ⟨hl.nd,by simp,λa ha b hb e=>by
    have hb:b=id:=by simpa using hb
    rw [e,hb] at ha
    exact hni ha⟩⟩
  exact qyU (k:=k) (p:=(id,c)) hl2 (by simp;omega) (by rw [hk,List.getElem?_append_right (Nat.le_refl _),Nat.sub_self];rfl) rfl rfl H K g0 g3 g4 g5 g6 g7 g8 g10 g12 k0 k3 k4 k5 k6 k7 k8 k10 k12
 ·have hkl:=(List.getElem?_eq_some_iff.1 hp).1
  have hP:=hl.ok p (List.mem_of_getElem? hp)
  simp (disch:=omega) only [go_sem,undef,e0,e3,e4,e5,e6,e7,e8,e9,e10,e12,h0,h3,h4,h5,h6,h7,h8,h9,h10,h12,qX (show ¬ ((k:Nat):Int)=(l.length:Nat) by omega)]
  subst hT
  exact qyU (k:=k) (p:=p) hl (by omega) hp (by rw [hP.cmd,hpi,← hc.cmd]) (by rw [hP.att,hpi,← hc.att]) (H.sel 6 [0,2,3,4,5] rfl (by decide) (by decide)) K rfl rfl rfl rfl rfl rfl rfl rfl rfl rfl rfl rfl rfl rfl rfl rfl rfl rfl
abbrev agF:NC:=.seq kG (.seq (.block 6 (.loop [0,3,4,5,6,7,8,9,10,12] wj)) agR)
theorem ag_F{iv cv:Value}(hl:AgL T Cm l)(hln:l.length+1≤n)(hn:n≤100000)(hc:AgP T Cm (id,c))(H:Hq m M S [c10 b10 c,c9 b9 id,c6 b6 D,Kz iv l,Jz cv l,wdA wb V W])(K:ag7 m S wb i b6 D r s V W T Cm n (·=.normal) Q)(e0:E.get 0=lp wb)(e3:E.get 3=iv)(e4:E.get 4=cv)(e5:E.get 5=.int .i64 (i:Nat))(e6:E.get 6=lp b6)(e7:E.get 7=.int .i64 r)(e8:E.get 8=.int .i64 s)(e9:E.get 9=lp b9)(e10:E.get 10=lp b10)(h0:E.has 0=true)(h3:E.has 3=true)(h4:E.has 4=true)(h5:E.has 5=true)(h6:E.has 6=true)(h7:E.has 7=true)(h8:E.has 8=true)(h9:E.has 9=true)(h10:E.has 10=true) :
  wpN Tryz.prog agF Q E M:=by
 refine Exists.elim (eY (H.at 3 rfl)).form λia hv=>Exists.elim hv λic hv=>?_
 refine Exists.elim (WJ (H.at 4 rfl)).form λca hw=>Exists.elim hw λcc hw=>?_
 subst hv hw
 show wpN Tryz.prog (.seq kG (.seq (.block 6 (.loop [0,3,4,5,6,7,8,9,10,12] wj)) agR)) Q E M
 generalize hT:agR=TR
 simp (disch:=omega) only [go_sem,undef,e0,e3,e4,e5,e6,e7,e8,e9,e10,h0,h3,h4,h5,h6,h7,h8,h9,h10]
 refine qe (λj E m'=>∃ (k:Nat),k≤l.length∧(∀ t p,t < k→l[t]?=some p→p.1≠id)∧j=l.length - k∧E=[(0,lp wb),(3,.slice ia l.length ic),(4,.slice ca l.length cc),(5,.int .i64 (i:Nat)),(6,lp b6),(7,.int .i64 r),(8,.int .i64 s),(9,lp b9),(10,lp b10),(12,.int .i64 (k:Nat))]∧Hq m m' S [c10 b10 c,c9 b9 id,c6 b6 D,Kz (.slice ia l.length ic) l,Jz (.slice ca l.length cc) l,wdA wb V W]) l.length rfl ⟨0,by omega,λt p h=>absurd h (by omega),rfl,rfl,H⟩ ?_
 clear H e0 e3 e4 e5 e6 e7 e8 e9 e10 h0 h3 h4 h5 h6 h7 h8 h9 h10
 rintro j E M1 ⟨k,hk,hne,rfl,rfl,H⟩
 by_cases hkl:k < l.length
 ·refine RdS.elK (eY (H.at 3 rfl)) hkl (by decide) λbx o p hp hix hE=>?_
  have g1:YJ (M1 bx) o 2=some (.agg (pc p.1).toArray):=hE.mD 2 (by decide) (by decide)
  by_cases hpi:p.1=id
  ·simp (disch:=omega) only [go_sem,undef,qZ (show ((k:Nat):Int) < (l.length:Nat) by omega),hix,g1,H.cs,qZ hpi,Bool.not_true]
   subst hT
   exact ag_R hl hln hn (.inr ⟨p,hp,hpi⟩) hc H K rfl rfl rfl rfl rfl rfl rfl rfl rfl rfl rfl rfl rfl rfl rfl rfl rfl rfl rfl rfl
  ·simp (disch:=omega) only [go_sem,undef,qZ (show ((k:Nat):Int) < (l.length:Nat) by omega),hix,g1,H.cs,qX hpi,Bool.not_false]
   exact qK (l.length - (k+1)) (by omega) ⟨k+1,by omega,λt p' ht hp'=>by
    by_cases e:t=k
    ·subst e
     rw [hp] at hp'
     cases hp'
     exact hpi
    ·exact hne t p' (by omega) hp',rfl,rfl,H⟩
 ·simp (disch:=omega) only [go_sem,undef,qX (show ¬ ((k:Nat):Int) < (l.length:Nat) by omega)]
  subst hT
  exact ag_R hl hln hn (.inl ⟨by omega,λhm=>by
   obtain ⟨p,hp,e⟩:=List.mem_map.1 hm
   obtain ⟨t,ht⟩:=List.getElem?_of_mem hp
   have:=(List.getElem?_eq_some_iff.1 ht).1
   exact hne t p (by omega) ht e⟩) hc H K rfl rfl rfl rfl rfl rfl rfl rfl rfl rfl rfl rfl rfl rfl rfl rfl rfl rfl rfl rfl
end Go.Fw
namespace Go.Fw
open Go.Proofs
variable {m m0 M:Mem} {S:List Nat} {L:List As}
variable {Q:Exit→Env→Mem→Prop} {E:Env} {wb n i b6 b9 b10 k:Nat} {V:Wv} {W:Wd} {C:Co} {D:Dp} {c:Cel} {id:Int×Int} {r s:Int} {ia ca:Option Addr} {ic cc:Nat} {l:List ((Int×Int)×Cel)} {p:(Int×Int)×Cel} {T:Int×Int→Cmd×Att} {Cm:Int×Int→Prop}
abbrev qyr:NC:=.seq (.seq kH (.cond (.qq 71) (.exit 5) .skip)) agF
abbrev agB:NC:=.seq kM (.seq kL qyr)
abbrev exB(e:Exit):Prop:=e=.normal∨e=.exit 5
theorem qQq{iv cv:Value}{o:Bool}(hl:AgL T Cm l)(hln:l.length+1≤n)(hn:n≤100000)(hc:o=true→c.st=3→AgP T Cm (id,c))(H:Hq m M S [c10 b10 c,c9 b9 id,c6 b6 D,Kz iv l,Jz cv l,wdA wb V W])(K:ag7 m S wb i b6 D r s V W T Cm n exB Q)(e0:E.get 0=lp wb)(e3:E.get 3=iv)(e4:E.get 4=cv)(e5:E.get 5=.int .i64 (i:Nat))(e6:E.get 6=lp b6)(e7:E.get 7=.int .i64 r)(e8:E.get 8=.int .i64 s)(e9:E.get 9=lp b9)(e10:E.get 10=lp b10)(e11:E.get 11=.bool o)(h0:E.has 0=true)(h3:E.has 3=true)(h4:E.has 4=true)(h5:E.has 5=true)(h6:E.has 6=true)(h7:E.has 7=true)(h8:E.has 8=true)(h9:E.has 9=true)(h10:E.has 10=true)(h11:E.has 11=true) :
  wpN Tryz.prog qyr Q E M:=by
 show wpN Tryz.prog (.seq (.seq kH (.cond (.qq 71) (.exit 5) .skip)) agF) Q E M
 generalize hT:agF=TF
 have hg:=Cel.g0 c
 cases o with
 | false =>
  simp (disch:=omega) only [go_sem,undef,e0,e3,e4,e5,e6,e7,e8,e9,e10,e11,h0,h3,h4,h5,h6,h7,h8,h9,h10,h11,H.cs,Bool.not_false]
  exact K _ l iv cv M _ (.inr rfl) hl (by omega) rfl rfl rfl rfl rfl rfl rfl rfl rfl rfl rfl rfl rfl rfl (H.sel 6 [2,3,4,5] rfl (by decide) (by decide))
 | true =>
  by_cases h3s:c.st=3
  ·simp (disch:=omega) only [go_sem,undef,e0,e3,e4,e5,e6,e7,e8,e9,e10,e11,h0,h3,h4,h5,h6,h7,h8,h9,h10,h11,H.cs,Bool.not_true,hg,qX (show ¬ c.st≠3 from λh=>h h3s)]
   subst hT
   exact ag_F hl hln hn (hc rfl h3s) H (λx l' iv' cv' M E' hx=>K x l' iv' cv' M E' (.inl hx)) rfl rfl rfl rfl rfl rfl rfl rfl rfl rfl rfl rfl rfl rfl rfl rfl rfl rfl
  ·simp (disch:=omega) only [go_sem,undef,e0,e3,e4,e5,e6,e7,e8,e9,e10,e11,h0,h3,h4,h5,h6,h7,h8,h9,h10,h11,H.cs,Bool.not_true,hg,qZ (show c.st≠3 from h3s)]
   exact K _ l iv cv M _ (.inr rfl) hl (by omega) rfl rfl rfl rfl rfl rfl rfl rfl rfl rfl rfl rfl rfl rfl (H.sel 6 [2,3,4,5] rfl (by decide) (by decide))
theorem ag_B{iv cv:Value}(hV:V.ok W)(hC:W.cores[i]?=some C)(hT:∀ c,lkC (r,s) C.lg=some c→c.st=3→AgP T Cm ((r,s),c))(hl:AgL T Cm l)(hln:l.length+1≤n)(hn:n≤100000)(H:Hq m M S [c6 b6 D,Kz iv l,Jz cv l,wdA wb V W])(K:ag7 m S wb i b6 D r s V W T Cm n exB Q)(e0:E.get 0=lp wb)(e3:E.get 3=iv)(e4:E.get 4=cv)(e5:E.get 5=.int .i64 (i:Nat))(e6:E.get 6=lp b6)(e7:E.get 7=.int .i64 r)(e8:E.get 8=.int .i64 s)(h0:E.has 0=true)(h3:E.has 3=true)(h4:E.has 4=true)(h5:E.has 5=true)(h6:E.has 6=true)(h7:E.has 7=true)(h8:E.has 8=true) :
  wpN Tryz.prog agB Q E M:=by
 refine Exists.elim (YN hV hC) λv hv=>?_
 have hcell:=λM (hA:(wdA wb V W).p M)=>wV (SO hA hv.1 hC) (r,s)
 have hTc:(lkC (r,s) C.lg).isSome=true→((lkC (r,s) C.lg).getD Cel.zero).st=3→AgP T Cm ((r,s),(lkC (r,s) C.lg).getD Cel.zero):=λh1 h2=>by
  cases e:lkC (r,s) C.lg with
  | none=>rw [e] at h1;exact nomatch h1
  | some c=>rw [e] at h2;exact hT c e h2
 have hvl:=(List.getElem?_eq_some_iff.1 hv.1).1
 generalize (lkC (r,s) C.lg).isSome=o at hcell hTc
 generalize (lkC (r,s) C.lg).getD Cel.zero=c at hcell hTc
 show wpN Tryz.prog (.seq kM (.seq kL qyr)) Q E M
 generalize hT2:qyr=T12
 simp (disch:=omega) only [go_sem,undef,e0,e3,e4,e5,e6,e7,e8,h0,h3,h4,h5,h6,h7,h8]
 refine qg H λb9 M f H=>?_
 simp (disch:=omega) only [go_sem,undef,e0,e3,e4,e5,e6,e7,e8,h0,h3,h4,h5,h6,h7,h8,H.cs]
 refine qs H rfl rfl λM f H=>?_
 have H:Hq m M S [c9 b9 (r,s),c6 b6 D,Kz iv l,Jz cv l,wdA wb V W]:=H
 have hcr:=Qf (H.at 4 rfl)
 refine Exists.elim hcr.form λca hcv=>Exists.elim hcv λcc hcv=>?_
 rw [hcv] at hcr
 refine RdS.elK hcr hvl (by decide) λbx o3 v' hv' hix hE=>?_
 have ev:v'=v:=Option.some.inj (hv'.symm.trans hv.1)
 subst ev
 have hp0:(cpL v')[0]?=some (lp v'.1):=rfl
 have hc:=qM (H.at 4 rfl)
 have hpv:Value.agg (pc (r,s)).toArray=pv (r,s):=rfl
 simp (disch:=omega) only [go_sem,undef,e0,e3,e4,e5,e6,e7,e8,h0,h3,h4,h5,h6,h7,h8,hc,wdC,hcv,hix,hE.ld0,hp0,H.cs]
 refine qp ?_ ?_
 ·simp (disch:=omega) only [go_sem,undef,H.cs]
  refine qa H (hcell _ (H.at 4 rfl)) λM f H=>?_
  have hE:=hE.frame f
  have hc:=qM (H.at 4 rfl)
  simp (disch:=omega) only [go_sem,undef,H.cs,hc,wdC,hcv,hix,hE.ld0,hp0]
  refine qg H λb10 M f H=>?_
  have hE:=hE.frame f
  have hc:=qM (H.at 5 rfl)
  simp (disch:=omega) only [go_sem,undef,H.cs,hc,wdC,hcv,hix,hE.ld0,hp0]
  refine qs H rfl rfl λM f H=>?_
  have H:Hq m M S [c10 b10 c,c9 b9 (r,s),c6 b6 D,Kz iv l,Jz cv l,wdA wb V W]:=H
  simp (disch:=omega) only [go_sem,undef,H.cs]
  subst hT2
  exact qQq (o:=o) hl hln hn hTc H K rfl rfl rfl rfl rfl rfl rfl rfl rfl rfl rfl rfl rfl rfl rfl rfl rfl rfl rfl rfl
 ·simp (disch:=omega) only [go_sem,undef,H.cs]
  refine qg H λb10 M f H=>?_
  have hE:=hE.frame f
  have hc:=qM (H.at 5 rfl)
  simp (disch:=omega) only [go_sem,undef,H.cs,hc,wdC,hcv,hix,hE.ld0,hp0]
  refine qa H (hcell _ (H.at 5 rfl)) λM f H=>?_
  simp (disch:=omega) only [go_sem,undef,H.cs]
  refine qs H rfl rfl λM f H=>?_
  have H:Hq m M S [c10 b10 c,c9 b9 (r,s),c6 b6 D,Kz iv l,Jz cv l,wdA wb V W]:=H
  simp (disch:=omega) only [go_sem,undef,H.cs]
  subst hT2
  exact qQq (o:=o) hl hln hn hTc H K rfl rfl rfl rfl rfl rfl rfl rfl rfl rfl rfl rfl rfl rfl rfl rfl rfl rfl rfl rfl
abbrev agK3(m:Mem)(S:List Nat)(wb i:Nat)(V:Wv)(W:Wd)(T:Int×Int→Cmd×Att)(Cm:Int×Int→Prop)(n:Nat)(Q:Exit→Env→Mem→Prop):Prop :=
 ∀ (l:List ((Int×Int)×Cel)) iv cv M (E':Env),AgL T Cm l→l.length≤n→E'.get 0=lp wb→E'.get 3=iv→E'.get 4=cv→E'.get 5=.int .i64 (i:Nat) →
  E'.has 0=true→E'.has 3=true→E'.has 4=true→E'.has 5=true→Hq m M S [Kz iv l,Jz cv l,wdA wb V W]→Q .normal E' M
abbrev agC:NC:=.seq wz (.seq wq (.block 2 (.loop [0,3,4,5,6,7] Ko)))
theorem ag_C{iv cv:Value}{nn:Nat}(hnum:W.n=n)(hn7:n≤7)(hV:V.ok W)(hok:C.Ok)(hC:W.cores[i]?=some C)(hT:∀ id c,lkC id C.lg=some c→c.st=3→AgP T Cm (id,c))(hl:AgL T Cm l)(hln:l.length≤nn)(hn:nn≤10000)(H:Hq m M S [Kz iv l,Jz cv l,wdA wb V W])(K:agK3 m S wb i V W T Cm (nn+420) Q)(e0:E.get 0=lp wb)(e3:E.get 3=iv)(e4:E.get 4=cv)(e5:E.get 5=.int .i64 (i:Nat))(h0:E.has 0=true)(h3:E.has 3=true)(h4:E.has 4=true)(h5:E.has 5=true) :
  wpN Tryz.prog agC Q E M:=by
 refine Exists.elim (YN hV hC) λv hv=>?_
 have htop:=λM (hA:(wdA wb V W).p M)=>Sv (SO hA hv.1 hC) (λk hk=>by
  obtain ⟨p,hp,rfl⟩:=List.mem_map.1 hk
  exact (hok.lg p hp).1)
 generalize C.top=D at htop
 have hvl:=(List.getElem?_eq_some_iff.1 hv.1).1
 show wpN Tryz.prog (.seq wz (.seq wq (.block 2 (.loop [0,3,4,5,6,7] (.seq (.seq Kf (.cond (.qq 36) .skip (.exit 2))) (.seq (.block 3 (.seq Ke (.block 4 (.loop [0,3,4,5,6,7,8] (.seq (.seq Kd (.cond (.qq 47) .skip (.exit 4))) (.seq (.block 5 agB) Xz)))))) Xq)))))) Q E M
 generalize hTB:agB=TB
 have hcr:=Qf (H.at 2 rfl)
 refine Exists.elim hcr.form λca hcv=>Exists.elim hcv λcc hcv=>?_
 rw [hcv] at hcr
 refine RdS.elK hcr hvl (by decide) λbx o3 v' hv' hix hE=>?_
 have ev:v'=v:=Option.some.inj (hv'.symm.trans hv.1)
 subst ev
 have hp0:(cpL v')[0]?=some (lp v'.1):=rfl
 have hc:=qM (H.at 2 rfl)
 simp (disch:=omega) only [go_sem,undef,e0,e3,e4,e5,h0,h3,h4,h5,hc,wdC,hcv,hix,hE.ld0,hp0]
 refine qa H (htop _ (H.at 2 rfl)) λM f H=>?_
 simp (disch:=omega) only [go_sem,undef,e0,e3,e4,e5,h0,h3,h4,h5]
 refine qg H λb6 M f H=>?_
 simp (disch:=omega) only [go_sem,undef,e0,e3,e4,e5,h0,h3,h4,h5,H.cs]
 refine qs H rfl rfl λM f H=>?_
 have H:Hq m M S [c6 b6 D,Kz iv l,Jz cv l,wdA wb V W]:=H
 simp (disch:=omega) only [go_sem,undef,e0,e3,e4,e5,h0,h3,h4,h5]
 refine qe (λj E m'=>∃ (r:Nat) (l:List ((Int×Int)×Cel)) (iv cv:Value),r≤n∧j=n - r∧E=[(0,lp wb),(3,iv),(4,cv),(5,.int .i64 (i:Nat)),(6,lp b6),(7,.int .i64 (r:Nat))]∧AgL T Cm l∧l.length≤nn+r*60∧Hq m m' S [c6 b6 D,Kz iv l,Jz cv l,wdA wb V W]) n rfl ⟨0,l,iv,cv,by omega,rfl,rfl,hl,by omega,H⟩ ?_
 clear H hl hln e0 e3 e4 e5 h0 h3 h4 h5 hix hE hc
 rintro j E M1 ⟨r,l,iv,cv,hr,rfl,rfl,hl,hln,H⟩
 have hc:=qM (H.at 3 rfl)
 by_cases hrn:r < n
 ·have hdg:=Lw D r (by omega)
  simp (disch:=omega) only [go_sem,undef,hc,wdC,hnum,qZ (show ((r:Nat):Int) < (n:Nat) by omega)]
  refine qe (λj E m'=>∃ (s:Nat) (l:List ((Int×Int)×Cel)) (iv cv:Value),s≤60∧j=60 - s∧E=[(0,lp wb),(3,iv),(4,cv),(5,.int .i64 (i:Nat)),(6,lp b6),(7,.int .i64 (r:Nat)),(8,.int .i64 ((s+1:Nat):Nat))]∧AgL T Cm l∧l.length≤nn+r*60+s∧Hq m m' S [c6 b6 D,Kz iv l,Jz cv l,wdA wb V W]) 60 rfl ⟨0,l,iv,cv,by omega,rfl,rfl,hl,by omega,H⟩ ?_
  clear H hl hln hc
  rintro j E M2 ⟨s,l,iv,cv,hs,rfl,rfl,hl,hln,H⟩
  by_cases hsD:((s+1:Nat):Int)≤D.g r
  ·by_cases hs60:s+1≤60
   ·simp (disch:=omega) only [go_sem,undef,H.cs,hdg,qZ hsD,qZ (show ((s+1:Nat):Int)≤60 by omega)]
    subst hTB
    refine ag_B (n:=nn+r*60+(s+1)) (r:=(r:Nat)) (s:=((s+1:Nat):Nat)) hV hC (λc hc h3=>hT _ c hc h3) hl (by omega) (by omega) H (λx l iv cv M E' hx hl hln g0 g3 g4 g5 g6 g7 g8 k0 k3 k4 k5 k6 k7 k8 H=>?_) rfl rfl rfl rfl rfl rfl rfl rfl rfl rfl rfl rfl rfl rfl
    have hs1:((s+1:Nat):Int)+1=((s+1+1:Nat):Nat):=by omega
    rcases hx with rfl | rfl
    all_goals
     simp (disch:=omega) only [go_sem,undef,g0,g3,g4,g5,g6,g7,g8,k0,k3,k4,k5,k6,k7,k8]
     exact qK (60 - (s+1)) (by omega) ⟨s+1,l,iv,cv,by omega,rfl,by rw [← hs1],hl,by omega,H⟩
   ·simp (disch:=omega) only [go_sem,undef,H.cs,hdg,qZ hsD,qX (show ¬ ((s+1:Nat):Int)≤60 by omega)]
    exact qK (n - (r+1)) (by omega) ⟨r+1,l,iv,cv,by omega,rfl,rfl,hl,by omega,H⟩
  ·simp (disch:=omega) only [go_sem,undef,H.cs,hdg,qX hsD]
   exact qK (n - (r+1)) (by omega) ⟨r+1,l,iv,cv,by omega,rfl,rfl,hl,by omega,H⟩
 ·simp (disch:=omega) only [go_sem,undef,hc,wdC,hnum,qX (show ¬ ((r:Nat):Int) < (n:Nat) by omega)]
  exact K l iv cv M1 _ hl (by omega) rfl rfl rfl rfl rfl rfl rfl rfl H.tail
end Go.Fw
namespace Go.Fw
open Go.Proofs
variable {m m0 M:Mem} {S:List Nat} {L:List As}
variable {Q:Exit→Env→Mem→Prop} {E:Env} {wb n i b6 b9 b10 k:Nat} {V:Wv} {W:Wd} {C:Co} {D:Dp} {c:Cel} {id:Int×Int} {r s:Int} {ia ca:Option Addr} {ic cc:Nat} {l:List ((Int×Int)×Cel)} {p:(Int×Int)×Cel} {T:Int×Int→Cmd×Att} {Cm:Int×Int→Prop}
abbrev agP:NC:=.seq JP (.cond (.qq 165) (.seq JO .ret) .skip)
theorem ag_P{a b:Nat}{p q:(Int×Int)×Cel}(hp:l[a]?=some p)(hq:l[b]?=some q)(hP:AgP T Cm p)(hQ:AgP T Cm q)(hR:Qj (T p.1).1 (T q.1).1→xa (T p.1).2.deps q.1∨xa (T q.1).2.deps p.1)(H:Hq m M S [Kz (.slice ia l.length ic) l,Jz (.slice ca l.length cc) l,wdA wb V W])(K:∀ M (E':Env),E'.get 3=.slice ia l.length ic→E'.get 4=.slice ca l.length cc→E'.get 13=.int .i64 (a:Nat)→E'.get 14=.int .i64 (b:Nat)→E'.has 3=true→E'.has 4=true→E'.has 13=true→E'.has 14=true→Hq m M S [Kz (.slice ia l.length ic) l,Jz (.slice ca l.length cc) l,wdA wb V W]→Q .normal E' M)(e3:E.get 3=.slice ia l.length ic)(e4:E.get 4=.slice ca l.length cc)(e13:E.get 13=.int .i64 (a:Nat))(e14:E.get 14=.int .i64 (b:Nat))(h3:E.has 3=true)(h4:E.has 4=true)(h13:E.has 13=true)(h14:E.has 14=true) :
  wpN Tryz.prog agP Q E M:=by
 have hal:=(List.getElem?_eq_some_iff.1 hp).1
 have hbl:=(List.getElem?_eq_some_iff.1 hq).1
 refine RdS.elK (WJ (H.at 1 rfl)) hal (by decide) λb1 o1 p1 hp1 hix1 hE1=>?_
 have ep:p1=p:=Option.some.inj (hp1.symm.trans hp)
 subst ep
 refine RdS.elK (WJ (H.at 1 rfl)) hbl (by decide) λb2 o2 q1 hq1 hix2 hE2=>?_
 have eq:q1=q:=Option.some.inj (hq1.symm.trans hq)
 subst eq
 have g1:YJ (M b1) (o1+5) 7=some (.agg p1.2.cmd.cs.toArray):=hE1.lda 5 7 (by decide) (by decide)
 have g2:YJ (M b2) (o2+5) 7=some (.agg q1.2.cmd.cs.toArray):=hE2.lda 5 7 (by decide) (by decide)
 have e1:=hP.cmd
 have e2:=hQ.cmd
 have e3':=hP.att
 have e4':=hQ.att
 have hk1:=hP.key
 have hk2:=hQ.key
 simp (disch:=omega) only [go_sem,undef,e3,e4,e13,e14,h3,h4,h13,h14,hix1,hix2,g1,g2]
 refine qa H (rJ p1.2.cmd q1.2.cmd hk1 hk2 M) λM f H=>?_
 by_cases hcl:Qj p1.2.cmd q1.2.cmd
 ·refine RdS.elK (WJ (H.at 1 rfl)) hal (by decide) λd1 x1 p2 hp2 jx1 hF1=>?_
  have ep:p2=p1:=Option.some.inj (hp2.symm.trans hp)
  subst ep
  refine RdS.elK (eY (H.at 0 rfl)) hbl (by decide) λd3 x3 q2 hq2 jx3 hF3=>?_
  have eq:q2=q1:=Option.some.inj (hq2.symm.trans hq)
  subst eq
  have g5:YJ (M d1) (x1+13) 7=some (.agg (dv p2.2.att.deps).toArray):=hF1.lda 13 7 (by decide) (by decide)
  have g6:YJ (M d1) (x1+12+1) 7=some (.agg (dv p2.2.att.deps).toArray):=g5
  have g7:YJ (M d3) x3 2=some (.agg (pc q2.1).toArray):=hF3.mD 2 (by decide) (by decide)
  simp (disch:=omega) only [go_sem,undef,e3,e4,e13,e14,h3,h4,h13,h14,qZ hcl,jx1,jx3,g5,g6,g7]
  refine qa H (AT p2.2.att.deps q2.1 M) λM f H=>?_
  by_cases hr:xa p2.2.att.deps q2.1
  ·simp (disch:=omega) only [go_sem,undef,e3,e4,e13,e14,h3,h4,h13,h14,qZ hcl,qZ hr,Bool.not_true]
   exact K M _ rfl rfl rfl rfl rfl rfl rfl rfl H
  ·have hr2:xa q2.2.att.deps p2.1:=by
    rw [e4']
    rcases hR (by rw [← e1,← e2];exact hcl) with h | h
    ·exact absurd (by rw [e3'];exact h) hr
    ·exact h
   refine RdS.elK (WJ (H.at 1 rfl)) hbl (by decide) λd2 x2 q3 hq3 jx2 hF2=>?_
   have eq:q3=q2:=Option.some.inj (hq3.symm.trans hq)
   subst eq
   refine RdS.elK (eY (H.at 0 rfl)) hal (by decide) λd4 x4 p3 hp3 jx4 hF4=>?_
   have ep:p3=p2:=Option.some.inj (hp3.symm.trans hp)
   subst ep
   have g8:YJ (M d2) (x2+13) 7=some (.agg (dv q3.2.att.deps).toArray):=hF2.lda 13 7 (by decide) (by decide)
   have g9:YJ (M d2) (x2+12+1) 7=some (.agg (dv q3.2.att.deps).toArray):=g8
   have g10:YJ (M d4) x4 2=some (.agg (pc p3.1).toArray):=hF4.mD 2 (by decide) (by decide)
   simp (disch:=omega) only [go_sem,undef,e3,e4,e13,e14,h3,h4,h13,h14,qZ hcl,qX hr,Bool.not_false,jx2,jx4,g8,g9,g10]
   refine qa H (AT q3.2.att.deps p3.1 M) λM f H=>?_
   simp (disch:=omega) only [go_sem,undef,e3,e4,e13,e14,h3,h4,h13,h14,qZ hcl,qX hr,qZ hr2,Bool.not_true,Bool.not_false]
   exact K M _ rfl rfl rfl rfl rfl rfl rfl rfl H
 ·simp (disch:=omega) only [go_sem,undef,e3,e4,e13,e14,h3,h4,h13,h14,qX hcl]
  exact K M _ rfl rfl rfl rfl rfl rfl rfl rfl H
abbrev agQ(m:Mem)(wb:Nat)(V:Wv)(W:Wd):Exit→Env→Mem→Prop:=vB [.qq 2] λu M=>∃ A',WdR wb W (.bool true) u A'∧A'.p M∧Fr m M (wdA wb V W).wp∧(∀ b∈A'.fp,b∈(wdA wb V W).fp∨m b=none)∧∀ b∈A'.wp,b∈(wdA wb V W).wp∨m b=none
abbrev agT:NC:=.seq (.seq kE (.block 8 (.loop [3,4,13] Kn))) (.seq kD .ret)
theorem ag_T{iv cv:Value}(hV:V.ok W)(hl:AgL T Cm l)(hR:∀ i j,i≠j→Cm i→Cm j→Qj (T i).1 (T j).1→xa (T i).2.deps j∨xa (T j).2.deps i)(hln:l.length≤10000)(H:Hq m M (wdA wb V W).wp [Kz iv l,Jz cv l,wdA wb V W])(e3:E.get 3=iv)(e4:E.get 4=cv)(h3:E.has 3=true)(h4:E.has 4=true) :
  wpN Tryz.prog agT (agQ m wb V W) E M:=by
 refine Exists.elim (eY (H.at 0 rfl)).form λia hv=>Exists.elim hv λic hv=>?_
 refine Exists.elim (WJ (H.at 1 rfl)).form λca hw=>Exists.elim hw λcc hw=>?_
 subst hv hw
 show wpN Tryz.prog (.seq (.seq kE (.block 8 (.loop [3,4,13] (.seq (.seq JT (.cond (.qq 119) .skip (.exit 8))) (.seq (.block 9 (.seq JS (.block 10 (.loop [3,4,13,14] (.seq (.seq JR (.cond (.qq 124) .skip (.exit 10))) (.seq (.block 11 agP) JN)))))) JM))))) (.seq kD .ret)) (agQ m wb V W) E M
 generalize hTP:agP=TP
 simp (disch:=omega) only [go_sem,undef,e3,e4,h3,h4]
 refine qe (λj E m'=>∃ (a:Nat),a≤l.length∧j=l.length - a∧E=[(3,.slice ia l.length ic),(4,.slice ca l.length cc),(13,.int .i64 (a:Nat))]∧Hq m m' (wdA wb V W).wp [Kz (.slice ia l.length ic) l,Jz (.slice ca l.length cc) l,wdA wb V W]) l.length rfl ⟨0,by omega,rfl,rfl,H⟩ ?_
 clear H e3 e4 h3 h4
 rintro j E M1 ⟨a,ha,rfl,rfl,H⟩
 by_cases hal:a < l.length
 ·simp (disch:=omega) only [go_sem,undef,qZ (show ((a:Nat):Int) < (l.length:Nat) by omega)]
  refine qe (λj E m'=>∃ (b:Nat),b≤a∧j=a - b∧E=[(3,.slice ia l.length ic),(4,.slice ca l.length cc),(13,.int .i64 (a:Nat)),(14,.int .i64 (b:Nat))]∧Hq m m' (wdA wb V W).wp [Kz (.slice ia l.length ic) l,Jz (.slice ca l.length cc) l,wdA wb V W]) a rfl ⟨0,by omega,rfl,rfl,H⟩ ?_
  clear H
  rintro j E M2 ⟨b,hb,rfl,rfl,H⟩
  by_cases hba:b < a
  ·simp (disch:=omega) only [go_sem,undef,qZ (show ((b:Nat):Int) < (a:Nat) by omega)]
   refine Exists.elim (⟨l[a],List.getElem?_eq_getElem hal⟩:∃ p,l[a]?=some p) λp hp=>?_
   refine Exists.elim (⟨l[b]'(by omega),List.getElem?_eq_getElem (by omega)⟩:∃ q,l[b]?=some q) λq hq=>?_
   have hP:=hl.ok p (List.mem_of_getElem? hp)
   have hQ:=hl.ok q (List.mem_of_getElem? hq)
   subst hTP
   refine ag_P hp hq hP hQ (hR _ _ (nd_ne hl.nd hp hq hba) hP.cm hQ.cm) H (λM E' g3 g4 g13 g14 k3 k4 k13 k14 H=>?_) rfl rfl rfl rfl rfl rfl rfl rfl
   simp (disch:=omega) only [go_sem,undef,g3,g4,g13,g14,k3,k4,k13,k14]
   exact qK (a - (b+1)) (by omega) ⟨b+1,by omega,rfl,rfl,H⟩
  ·simp (disch:=omega) only [go_sem,undef,qX (show ¬ ((b:Nat):Int) < (a:Nat) by omega)]
   exact qK (l.length - (a+1)) (by omega) ⟨a+1,by omega,rfl,rfl,H⟩
 ·simp (disch:=omega) only [go_sem,undef,qX (show ¬ ((a:Nat):Int) < (l.length:Nat) by omega)]
  exact ⟨wdA wb V W,⟨rfl,V,hV,rfl⟩,H.at 2 rfl,H.fr,λb hb=>.inl hb,λb hb=>.inl hb⟩
theorem SE:yG=.seq Km (.seq Kl (.seq Ki (.seq (.seq Kh (.block 0 (.loop [0,3,4,5] (.seq (.seq Kg (.cond (.qq 20) .skip (.exit 0))) (.seq (.block 1 agC) JU))))) agT))):=rfl
theorem qyp(h:(wdA wb V W).p m)(hV:V.ok W)(hnum:W.n=n)(hn7:n≤7)(hcl:W.cores.length=n)(hok:∀ C∈W.cores,C.Ok)(T:Int×Int→Cmd×Att)(Cm:Int×Int→Prop)(hT:∀ C∈W.cores,∀ id c,lkC id C.lg=some c→c.st=3→AgP T Cm (id,c))(hR:∀ i j,i≠j→Cm i→Cm j→Qj (T i).1 (T j).1→xa (T i).2.deps j∨xa (T j).2.deps i) :
  CM Tryz.prog gR [lp wb] m (wdA wb V W) (WdR wb W (.bool true)):=by
 refine fe (by simp [Tryz.f33]) ?_
 rw [SE]
 generalize hTC:agC=TC
 generalize hTT:agT=TT
 have H:=Hq.one h
 simp (disch:=omega) only [go_sem,undef]
 have H:=(H.QP qc 21).QP qW 2
 refine qe (λj E m'=>∃ (i:Nat) (l:List ((Int×Int)×Cel)) (iv cv:Value),i≤n∧j=n - i∧E=[(0,lp wb),(3,iv),(4,cv),(5,.int .i64 (i:Nat))]∧AgL T Cm l∧l.length≤i*420∧Hq m m' (wdA wb V W).wp [Kz iv l,Jz cv l,wdA wb V W]) n rfl ⟨0,[],_,_,by omega,rfl,rfl,⟨by simp,by simp⟩,by simp,H⟩ ?_
 clear H
 rintro j E M1 ⟨i,l,iv,cv,hi,rfl,rfl,hl,hln,H⟩
 have hc:=qM (H.at 2 rfl)
 by_cases hin:i < n
 ·refine Exists.elim (⟨W.cores[i]'(by omega),List.getElem?_eq_getElem (by omega)⟩:∃ C,W.cores[i]?=some C) λC hC=>?_
  have hCm:=List.mem_of_getElem? hC
  simp (disch:=omega) only [go_sem,undef,hc,wdC,hnum,qZ (show ((i:Nat):Int) < (n:Nat) by omega)]
  subst hTC
  refine ag_C hnum hn7 hV (hok C hCm) hC (hT C hCm) hl hln (by omega) H (λl iv cv M E' hl hln g0 g3 g4 g5 k0 k3 k4 k5 H=>?_) rfl rfl rfl rfl rfl rfl rfl rfl
  simp (disch:=omega) only [go_sem,undef,g0,g3,g4,g5,k0,k3,k4,k5]
  exact qK (n - (i+1)) (by omega) ⟨i+1,l,iv,cv,by omega,rfl,rfl,hl,by omega,H⟩
 ·simp (disch:=omega) only [go_sem,undef,hc,wdC,hnum,qX (show ¬ ((i:Nat):Int) < (n:Nat) by omega)]
  subst hTT
  exact ag_T hV hl hR (by omega) H rfl rfl rfl rfl
end Go.Fw
namespace Go.Fw
open Go.Proofs
variable {m m0 M:Mem} {S:List Nat} {L:List As}
variable {Q:Exit→Env→Mem→Prop} {E:Env} {wb n:Nat} {V:Wv} {W:Wd} {key:ByteArray}
theorem NQ(n i:Nat)(hi:i < n)(hn7:n≤7):(∀ k∈zw (Co.new n i Dp.zero).lg,zj k)∧(Co.new n i Dp.zero).top.g (Co.new n i Dp.zero).me≤1073741824∧0≤(Co.new n i Dp.zero).top.g (Co.new n i Dp.zero).me:=by
 have:(Co.new n i Dp.zero).top.g (Co.new n i Dp.zero).me=0:=cI i
 exact ⟨by simp [Co.new,zw],by omega,by omega⟩
theorem qQc{a2:Value}(hk:Key key)(hn:n=3∨n=5∨n=7)(hV:V.ok W)(hC:W.cores[0]?=some (Co.new n 0 Dp.zero))(H:Hq m M [] (wdA wb V W::L))(K:∀ V' b M (E':Env),V'.ok (W.put 0 (fA1 n 0 (cX key 0)))→E'.get 1=.string key→E'.get 2=a2→E'.get 7=lp wb→E'.get 8=lp b→E'.get 9=.bool true→E'.has 1=true→E'.has 2=true→E'.has 7=true→E'.has 8=true→E'.has 9=true→Hq m M [] (c9 b (fId 0)::wdA wb V' (W.put 0 (fA1 n 0 (cX key 0)))::L)→Q .normal E' M)(e1:E.get 1=.string key)(e2:E.get 2=a2)(e7:E.get 7=lp wb)(h1:E.has 1=true)(h2:E.has 2=true)(h7:E.has 7=true) :
  wpN Tryz.prog yq Q E M:=by
 have hn7:n≤7:=by omega
 refine Exists.elim (YN hV hC) λv hv=>?_
 have hcr:=Qf (H.at 0 rfl)
 refine Exists.elim hcr.form λca hcv=>Exists.elim hcv λcc hcv=>?_
 rw [hcv] at hcr
 have hvl:=(List.getElem?_eq_some_iff.1 hv.1).1
 refine RdS.elK hcr hvl (by decide) λbx o v' hv' hix hE=>?_
 have ev:v'=v:=Option.some.inj (hv'.symm.trans hv.1)
 subst ev
 have hp0:(cpL v')[0]?=some (lp v'.1):=rfl
 have hnh:=NQ n 0 (by omega) hn7
 have hfit:=(Cs n 0 Dp.zero hn (by omega)).fit (Nat.zero_le _) (Nat.zero_le _) (Nat.zero_le _)
 have hpr:=λM (hA:(coA v'.1 v'.2 (Co.new n 0 Dp.zero)).p M)=>Wo hA hv.2 (cX key 0) hnh.1 hnh.2.1 hnh.2.2 hfit.xl hfit.recs hfit.leads hn7 (show 0 < 7 by omega) hfit.out
 rw [rB (n:=n) (i:=0) (x:=cX key 0) (by omega) hn7 (VK hk (by decide)) (show (2:Int)≠0 by decide)] at hpr
 have hput:=qjp 1 1 key
 have hcx:(Cmd.mk 2 1 1 key noB noB noB)=cX key 0:=rfl
 rw [hcx] at hput
 have hix0:∀ k (M:Mem),rd (.ixs 1) [.slice ca V.cs.length cc,.int k 0] M=rd (.ixs 1) [.slice ca V.cs.length cc,.int k ((0:Nat):Int)] M:=λ_ _=>rfl
 clear hnh hfit
 generalize fA1 n 0 (cX key 0)=C2 at *
 have hc:=qM (H.at 0 rfl)
 simp (disch:=omega) only [go_sem,undef,e1,e2,e7,h1,h2,h7,hc,wdC,hcv,hix0,hix,hE.ld0,hp0,H.cs]
 refine qp ?_ ?_
 ·simp (disch:=omega) only [go_sem,undef,e1,e2,e7,h1,h2,h7,hc,wdC,hcv,hix0,hix,hE.ld0,hp0,H.cs]
  refine qa H (hput M) λM f H=>?_
  have hE:=hE.frame f
  have hc:=qM (H.at 0 rfl)
  simp (disch:=omega) only [go_sem,undef,e1,e2,e7,h1,h2,h7,hc,wdC,hcv,hix0,hix,hE.ld0,hp0,H.cs]
  refine qp ?_ ?_
  ·simp (disch:=omega) only [go_sem,undef,e1,e2,e7,h1,h2,h7,hc,wdC,hcv,hix0,hix,hE.ld0,hp0,H.cs]
   have H:=VO hv.1 hC H
   refine zW H (hpr _ (H.at 0 rfl)) λu M A' hR f H=>?_
   refine hR.E λY2 eu hoY eA=>?_
   subst eu eA
   have H:=VP hv.1 hC H
   have hV2:(V.put 0 (v'.1,Y2)).ok (W.put 0 C2):=cd hV hoY
   have hc:=qM (H.at 0 rfl)
   have hcr:=Qf (H.at 0 rfl)
   have hcv2:(V.put 0 (v'.1,Y2)).cv=.slice ca (V.put 0 (v'.1,Y2)).cs.length cc:=by
    show V.cv=.slice ca (V.cs.set 0 (v'.1,Y2)).length cc
    rw [hcv,List.length_set]
   rw [hcv2] at hcr
   have hvl2:0 < (V.put 0 (v'.1,Y2)).cs.length:=by
    show 0 < (V.cs.set 0 (v'.1,Y2)).length
    rw [List.length_set];exact hvl
   refine RdS.elK hcr hvl2 (by decide) λbx2 o2 v2 hv2 hix2 hE2=>?_
   have ev2:v2=(v'.1,Y2):=by
    have:=hv2.symm.trans (show (V.cs.set 0 (v'.1,Y2))[0]?=some (v'.1,Y2) from List.getElem?_set_self hvl)
    exact Option.some.inj this
   subst ev2
   have hlen:(V.put 0 (v'.1,Y2)).cs.length=V.cs.length:=List.length_set
   rw [hlen] at hix2
   have ee:=Option.some.inj ((hix .i64 M).symm.trans (hix2 .i64 M))
   injection ee with ee
   injection ee with ee
   injection ee with e1x e2x
   subst e1x e2x
   have hcv3:(V.put 0 (v'.1,Y2)).cv=.slice ca V.cs.length cc:=hcv
   simp (disch:=omega) only [go_sem,undef,e1,e2,e7,h1,h2,h7,hc,wdC,hcv3,hix0,hE2.ld0,H.cs]
   refine qg H λb9 M f H=>?_
   have hE2:=hE2.frame f
   have hc:=qM (H.at 1 rfl)
   simp (disch:=omega) only [go_sem,undef,e1,e2,e7,h1,h2,h7,H.cs,hc,wdC,hcv3,hE2.ld0,hp0]
   refine qs H rfl rfl λM f H=>?_
   simp (disch:=omega) only [go_sem,undef,e1,e2,e7,h1,h2,h7]
   exact K _ _ M _ hV2 rfl rfl rfl rfl rfl rfl rfl rfl rfl rfl H
  ·simp (disch:=omega) only [go_sem,undef,e1,e2,e7,h1,h2,h7,hc,wdC,hcv,hix0,hix,hE.ld0,hp0,H.cs]
   refine qg H λb9 M f H=>?_
   have hE:=hE.frame f
   have hc:=qM (H.at 1 rfl)
   simp (disch:=omega) only [go_sem,undef,e1,e2,e7,h1,h2,h7,hc,wdC,hcv,hix0,hix,hE.ld0,hp0,H.cs]
   have H:=VO hv.1 hC (H.perm (List.Perm.swap ..))
   refine zW H (hpr _ (H.at 0 rfl)) λu M A' hR f H=>?_
   refine hR.E λY2 eu hoY eA=>?_
   subst eu eA
   have H:=VP hv.1 hC H
   have hV2:(V.put 0 (v'.1,Y2)).ok (W.put 0 C2):=cd hV hoY
   have H:=H.perm (List.Perm.swap ..)
   simp (disch:=omega) only [go_sem,undef,e1,e2,e7,h1,h2,h7,H.cs]
   refine qs H rfl rfl λM f H=>?_
   simp (disch:=omega) only [go_sem,undef,e1,e2,e7,h1,h2,h7]
   exact K _ _ M _ hV2 rfl rfl rfl rfl rfl rfl rfl rfl rfl rfl H
 ·simp (disch:=omega) only [go_sem,undef,e1,e2,e7,h1,h2,h7,hc,wdC,hcv,hix0,hix,hE.ld0,hp0,H.cs]
  refine qg H λb9 M f H=>?_
  have hE:=hE.frame f
  have hc:=qM (H.at 1 rfl)
  simp (disch:=omega) only [go_sem,undef,e1,e2,e7,h1,h2,h7,hc,wdC,hcv,hix0,hix,hE.ld0,hp0,H.cs]
  refine qa H (hput M) λM f H=>?_
  have hE:=hE.frame f
  have hc:=qM (H.at 1 rfl)
  simp (disch:=omega) only [go_sem,undef,e1,e2,e7,h1,h2,h7,hc,wdC,hcv,hix0,hix,hE.ld0,hp0,H.cs]
  have H:=VO hv.1 hC (H.perm (List.Perm.swap ..))
  refine zW H (hpr _ (H.at 0 rfl)) λu M A' hR f H=>?_
  refine hR.E λY2 eu hoY eA=>?_
  subst eu eA
  have H:=VP hv.1 hC H
  have hV2:(V.put 0 (v'.1,Y2)).ok (W.put 0 C2):=cd hV hoY
  have H:=H.perm (List.Perm.swap ..)
  simp (disch:=omega) only [go_sem,undef,e1,e2,e7,h1,h2,h7,H.cs]
  refine qs H rfl rfl λM f H=>?_
  simp (disch:=omega) only [go_sem,undef,e1,e2,e7,h1,h2,h7]
  exact K _ _ M _ hV2 rfl rfl rfl rfl rfl rfl rfl rfl rfl rfl H
theorem qQb{a2 a8 a9:Value}(hk:Key key)(hn:n=3∨n=5∨n=7)(hV:V.ok W)(hC:W.cores[1]?=some (Co.new n 1 Dp.zero))(H:Hq m M [] (wdA wb V W::L))(K:∀ V' b M (E':Env),V'.ok (W.put 1 (fA1 n 1 (cX key 1)))→E'.get 2=a2→E'.get 7=lp wb→E'.get 8=a8→E'.get 9=a9→E'.get 10=lp b→E'.get 11=.bool true→E'.has 2=true→E'.has 7=true→E'.has 8=true→E'.has 9=true→E'.has 10=true→E'.has 11=true→Hq m M [] (c9 b (fId 1)::wdA wb V' (W.put 1 (fA1 n 1 (cX key 1)))::L)→Q .normal E' M)(e1:E.get 1=.string key)(e2:E.get 2=a2)(e7:E.get 7=lp wb)(e8:E.get 8=a8)(e9:E.get 9=a9)(h1:E.has 1=true)(h2:E.has 2=true)(h7:E.has 7=true)(h8:E.has 8=true)(h9:E.has 9=true) :
  wpN Tryz.prog xf Q E M:=by
 have hn7:n≤7:=by omega
 refine Exists.elim (YN hV hC) λv hv=>?_
 have hcr:=Qf (H.at 0 rfl)
 refine Exists.elim hcr.form λca hcv=>Exists.elim hcv λcc hcv=>?_
 rw [hcv] at hcr
 have hvl:=(List.getElem?_eq_some_iff.1 hv.1).1
 refine RdS.elK hcr hvl (by decide) λbx o v' hv' hix hE=>?_
 have ev:v'=v:=Option.some.inj (hv'.symm.trans hv.1)
 subst ev
 have hp0:(cpL v')[0]?=some (lp v'.1):=rfl
 have hnh:=NQ n 1 (by omega) hn7
 have hfit:=(Cs n 1 Dp.zero hn (by omega)).fit (Nat.zero_le _) (Nat.zero_le _) (Nat.zero_le _)
 have hpr:=λM (hA:(coA v'.1 v'.2 (Co.new n 1 Dp.zero)).p M)=>Wo hA hv.2 (cX key 1) hnh.1 hnh.2.1 hnh.2.2 hfit.xl hfit.recs hfit.leads hn7 (show 1 < 7 by omega) hfit.out
 rw [rB (n:=n) (i:=1) (x:=cX key 1) (by omega) hn7 (VK hk (by decide)) (show (2:Int)≠0 by decide)] at hpr
 have hput:=qjp 2 1 key
 have hcx:(Cmd.mk 2 2 1 key noB noB noB)=cX key 1:=rfl
 rw [hcx] at hput
 have hix0:∀ k (M:Mem),rd (.ixs 1) [.slice ca V.cs.length cc,.int k 1] M=rd (.ixs 1) [.slice ca V.cs.length cc,.int k ((1:Nat):Int)] M:=λ_ _=>rfl
 clear hnh hfit
 generalize fA1 n 1 (cX key 1)=C2 at *
 have hc:=qM (H.at 0 rfl)
 simp (disch:=omega) only [go_sem,undef,e1,e2,e7,e8,e9,h1,h2,h7,h8,h9,hc,wdC,hcv,hix0,hix,hE.ld0,hp0,H.cs]
 refine qp ?_ ?_
 ·simp (disch:=omega) only [go_sem,undef,e1,e2,e7,e8,e9,h1,h2,h7,h8,h9,hc,wdC,hcv,hix0,hix,hE.ld0,hp0,H.cs]
  refine qa H (hput M) λM f H=>?_
  have hE:=hE.frame f
  have hc:=qM (H.at 0 rfl)
  simp (disch:=omega) only [go_sem,undef,e1,e2,e7,e8,e9,h1,h2,h7,h8,h9,hc,wdC,hcv,hix0,hix,hE.ld0,hp0,H.cs]
  refine qp ?_ ?_
  ·simp (disch:=omega) only [go_sem,undef,e1,e2,e7,e8,e9,h1,h2,h7,h8,h9,hc,wdC,hcv,hix0,hix,hE.ld0,hp0,H.cs]
   have H:=VO hv.1 hC H
   refine zW H (hpr _ (H.at 0 rfl)) λu M A' hR f H=>?_
   refine hR.E λY2 eu hoY eA=>?_
   subst eu eA
   have H:=VP hv.1 hC H
   have hV2:(V.put 1 (v'.1,Y2)).ok (W.put 1 C2):=cd hV hoY
   have hc:=qM (H.at 0 rfl)
   have hcr:=Qf (H.at 0 rfl)
   have hcv2:(V.put 1 (v'.1,Y2)).cv=.slice ca (V.put 1 (v'.1,Y2)).cs.length cc:=by
    show V.cv=.slice ca (V.cs.set 1 (v'.1,Y2)).length cc
    rw [hcv,List.length_set]
   rw [hcv2] at hcr
   have hvl2:1 < (V.put 1 (v'.1,Y2)).cs.length:=by
    show 1 < (V.cs.set 1 (v'.1,Y2)).length
    rw [List.length_set];exact hvl
   refine RdS.elK hcr hvl2 (by decide) λbx2 o2 v2 hv2 hix2 hE2=>?_
   have ev2:v2=(v'.1,Y2):=by
    have:=hv2.symm.trans (show (V.cs.set 1 (v'.1,Y2))[1]?=some (v'.1,Y2) from List.getElem?_set_self hvl)
    exact Option.some.inj this
   subst ev2
   have hlen:(V.put 1 (v'.1,Y2)).cs.length=V.cs.length:=List.length_set
   rw [hlen] at hix2
   have ee:=Option.some.inj ((hix .i64 M).symm.trans (hix2 .i64 M))
   injection ee with ee
   injection ee with ee
   injection ee with e1x e2x
   subst e1x e2x
   have hcv3:(V.put 1 (v'.1,Y2)).cv=.slice ca V.cs.length cc:=hcv
   simp (disch:=omega) only [go_sem,undef,e1,e2,e7,e8,e9,h1,h2,h7,h8,h9,hc,wdC,hcv3,hix0,hE2.ld0,H.cs]
   refine qg H λb9 M f H=>?_
   have hE2:=hE2.frame f
   have hc:=qM (H.at 1 rfl)
   simp (disch:=omega) only [go_sem,undef,e1,e2,e7,e8,e9,h1,h2,h7,h8,h9,H.cs,hc,wdC,hcv3,hE2.ld0,hp0]
   refine qs H rfl rfl λM f H=>?_
   simp (disch:=omega) only [go_sem,undef,e1,e2,e7,e8,e9,h1,h2,h7,h8,h9]
   exact K _ _ M _ hV2 rfl rfl rfl rfl rfl rfl rfl rfl rfl rfl rfl rfl H
  ·simp (disch:=omega) only [go_sem,undef,e1,e2,e7,e8,e9,h1,h2,h7,h8,h9,hc,wdC,hcv,hix0,hix,hE.ld0,hp0,H.cs]
   refine qg H λb9 M f H=>?_
   have hE:=hE.frame f
   have hc:=qM (H.at 1 rfl)
   simp (disch:=omega) only [go_sem,undef,e1,e2,e7,e8,e9,h1,h2,h7,h8,h9,hc,wdC,hcv,hix0,hix,hE.ld0,hp0,H.cs]
   have H:=VO hv.1 hC (H.perm (List.Perm.swap ..))
   refine zW H (hpr _ (H.at 0 rfl)) λu M A' hR f H=>?_
   refine hR.E λY2 eu hoY eA=>?_
   subst eu eA
   have H:=VP hv.1 hC H
   have hV2:(V.put 1 (v'.1,Y2)).ok (W.put 1 C2):=cd hV hoY
   have H:=H.perm (List.Perm.swap ..)
   simp (disch:=omega) only [go_sem,undef,e1,e2,e7,e8,e9,h1,h2,h7,h8,h9,H.cs]
   refine qs H rfl rfl λM f H=>?_
   simp (disch:=omega) only [go_sem,undef,e1,e2,e7,e8,e9,h1,h2,h7,h8,h9]
   exact K _ _ M _ hV2 rfl rfl rfl rfl rfl rfl rfl rfl rfl rfl rfl rfl H
 ·simp (disch:=omega) only [go_sem,undef,e1,e2,e7,e8,e9,h1,h2,h7,h8,h9,hc,wdC,hcv,hix0,hix,hE.ld0,hp0,H.cs]
  refine qg H λb9 M f H=>?_
  have hE:=hE.frame f
  have hc:=qM (H.at 1 rfl)
  simp (disch:=omega) only [go_sem,undef,e1,e2,e7,e8,e9,h1,h2,h7,h8,h9,hc,wdC,hcv,hix0,hix,hE.ld0,hp0,H.cs]
  refine qa H (hput M) λM f H=>?_
  have hE:=hE.frame f
  have hc:=qM (H.at 1 rfl)
  simp (disch:=omega) only [go_sem,undef,e1,e2,e7,e8,e9,h1,h2,h7,h8,h9,hc,wdC,hcv,hix0,hix,hE.ld0,hp0,H.cs]
  have H:=VO hv.1 hC (H.perm (List.Perm.swap ..))
  refine zW H (hpr _ (H.at 0 rfl)) λu M A' hR f H=>?_
  refine hR.E λY2 eu hoY eA=>?_
  subst eu eA
  have H:=VP hv.1 hC H
  have hV2:(V.put 1 (v'.1,Y2)).ok (W.put 1 C2):=cd hV hoY
  have H:=H.perm (List.Perm.swap ..)
  simp (disch:=omega) only [go_sem,undef,e1,e2,e7,e8,e9,h1,h2,h7,h8,h9,H.cs]
  refine qs H rfl rfl λM f H=>?_
  simp (disch:=omega) only [go_sem,undef,e1,e2,e7,e8,e9,h1,h2,h7,h8,h9]
  exact K _ _ M _ hV2 rfl rfl rfl rfl rfl rfl rfl rfl rfl rfl rfl rfl H
end Go.Fw
namespace Go.Fw
open Go.Proofs
variable {key:ByteArray} {o r s n bk q j:Nat} {K K':Int} {a u v:Att} {c:Cel} {C:Co} {W:Wd}
def qyA(key:ByteArray)(o:Nat)(v:Att)(C:Co):Prop:=∃ c,lkC (fId o) C.lg=some c∧c.st=3∧c.att=v∧c.cmd=cX key o
structure IdC(key:ByteArray)(u v:Att)(C:Co):Prop where
 leads:C.leads=[]
 wish:C.wishes=[]
 recs:C.recs=[]
 out:C.out=[]
 kc:∀ k∈zw C.lg,k=fId 0∨k=fId 1
 kd:(zw C.lg).Nodup
 c0:qyA key 0 u C
 c1:qyA key 1 v C
structure Idle(W:Wd)(n:Nat)(key:ByteArray)(u v:Att):Prop where
 num:W.n=n
 n3:n=3∨n=5∨n=7
 cl:W.cores.length=n
 kl:W.kept.length=n
 on:W.on=[]
 co:∀ C∈W.cores,IdC key u v C
 okc:∀ (r:Nat) (C:Co),W.cores[r]?=some C→C.Ok
 ke:∀ k∈W.kept,k.length≤1000000
 rc:u.deps.g 1=1∨v.deps.g 0=1
theorem TW.idle(h:TW n key W q)(hon:W.on=[]):∃ u v,Idle W n key u v:=by
 obtain ⟨j,f,ph,w,P⟩:=h
 have h3:=P.n3
 have hwl:=P.wl
 have hk1:=P.k1
 have T:=P.two
 rw [hon] at T
 obtain ⟨u,hu,_,l0,c0⟩:=T.fin (o:=0) (by omega) (by omega) (by decide)
 obtain ⟨v,hv,_,l1,c1⟩:=T.fin (o:=1) (by omega) (by omega) (by decide)
 refine ⟨u,v,hwl.num,h3,hwl.cl,hwl.kl,hon,λC hC=>?_,λr C hr=>?_,hwl.ke,T.reach (by omega) hu hv⟩
 rotate_left
 ·have hrn:r < n:=by have:=(List.getElem?_eq_some_iff.1 hr).1;have:=hwl.cl;omega
  have e:C=f r:=by
   have:=P.shp.get hrn
   rw [hr] at this
   exact Option.some.inj this
  subst e
  exact P.okc r hrn
 obtain ⟨r,hr⟩:=List.getElem?_of_mem hC
 have hrn:r < n:=by have:=(List.getElem?_eq_some_iff.1 hr).1;have:=hwl.cl;omega
 have e:C=f r:=by
  have:=P.shp.get hrn
  rw [hr] at this
  exact Option.some.inj this
 subst e
 have hcb:=T.cb r hrn
 have hq:=T.q r hrn
 refine ⟨?_,hcb.wish,hq.1,hq.2,hcb.kc,hcb.kcd,c0 r hrn,c1 r hrn⟩
 by_cases h2:2≤r
 ·exact T.ld2 r hrn h2
 ·have:r=0∨r=1:=by omega
  rcases this with rfl | rfl
  ·exact l0
  ·exact l1
theorem qyA.at(h:qyA key o v C):(C.at (fId o)).st=3:=by
 obtain ⟨c,e,h3,_⟩:=h
 unfold Co.at
 rw [e];exact h3
theorem Bs:∀ (z:List ((Int×Int)×Nat)),(∀ p∈z,(C.at p.1).st=3)→z.foldl (λC p=>C.XP p.2 p.1) C=C
 | [],_=>rfl
 | p::z,h=>by
  have e:C.XP p.2 p.1=C:=if_neg λe=>e.1 (h p (List.mem_cons_self ..))
  rw [List.foldl_cons,e]
  exact Bs z λp hp=>h p (List.mem_cons_of_mem _ hp)
theorem IdC.yv(h:IdC key u v C):C.yv=C:=by
 unfold Co.yv
 rw [h.leads];rfl
structure CoT(C:Co):Prop where
 ok:C.Ok
 recs:C.recs.length≤1000
 out:C.out.length≤10000
 leads:C.leads.length≤10000
 tk:∀ l∈C.leads,0≤l.ticks∧l.ticks≤1000000000
 lg:C.yv.lg.length < 1000000
 tw:∀ l bs,∀ w∈(C.yv.YY l bs).wishes,0≤w.ticks∧w.ticks≤1000000000
theorem IdC.good(h:IdC key u v C)(hok:C.Ok):CoT C:=by
 have hlg:C.lg.length≤2:=by
  have:=qxq (zw C.lg) [fId 0,fId 1] h.kd λk hk=>by
   rcases h.kc k hk with rfl | rfl<;>simp
  simpa [zw] using this
 refine ⟨hok,by rw [h.recs];exact Nat.zero_le _,by rw [h.out];exact Nat.zero_le _,by rw [h.leads];exact Nat.zero_le _,λl hl=>by rw [h.leads] at hl;exact (nomatch hl),by rw [h.yv];omega,λl bs w hw=>?_⟩
 rw [h.yv] at hw
 have:=Mm (T:=0) (Int.le_refl _) (l.zip bs) C (λw hw=>by rw [h.wish] at hw;exact (nomatch hw)) w hw
 exact ⟨this.1,by omega⟩
theorem IdC.tick(h:IdC key u v C){l:List (Int×Int)}{bs:List Nat}(hl:l.Perm (zw C.yv.lg)):C.Tj l bs=C:=by
 rw [h.yv] at hl
 have h2:C.yv.YY l bs=C:=by
  rw [h.yv]
  refine Bs (l.zip bs) λp hp=>?_
  have hm:=hl.subset (List.of_mem_zip hp).1
  rcases h.kc p.1 hm with e | e
  ·rw [e];exact h.c0.at
  ·rw [e];exact h.c1.at
 unfold Co.Tj
 rw [h2]
 unfold Co.Ml
 rw [h.wish];rfl
theorem IdC.qh(h:IdC key u v C):C.qh=C:=by
 have:=(BZ ⟨h.recs,h.out⟩ []).1
 rw [xI] at this
 exact this
theorem qjo{i:Nat}(h:W.cores[i]?=some C):W.put i C=W:=by
 unfold Wd.put
 rw [HL h]
theorem Idle.drain(I:Idle W n key u v){i:Nat}(hi:i < n)(room:Int):W.drain i room=W:=by
 have h1:=I.cl
 have h2:=I.kl
 have hC:W.cores[i]?=some (W.cores[i]'(by omega)):=List.getElem?_eq_getElem (by omega)
 have hk:W.kept[i]?=some (W.kept[i]'(by omega)):=List.getElem?_eq_getElem (by omega)
 have hI:=I.co _ (List.mem_of_getElem? hC)
 generalize W.cores[i]'(by omega)=C at *
 generalize W.kept[i]'(by omega)=k at *
 unfold Wd.drain
 rw [hC,hk]
 show (⟨W.n,W.cores.set i C.qh,W.kept.set i (k++C.recs),if (W.on.length:Int) < room then W.on++C.out else W.on⟩:Wd)=W
 rw [hI.qh,hI.recs,hI.out,HL hC,List.append_nil,HL hk,List.append_nil]
 split<;>rfl
end Go.Fw
namespace Go.Fw
open Go.Proofs
variable {m m0 M:Mem} {S:List Nat} {L:List As}
variable {Q:Exit→Env→Mem→Prop} {E:Env} {wb n i q:Nat} {V:Wv} {W:Wd} {key:ByteArray} {a2 a8 a9 a10 a11:Value}
abbrev t2K(m:Mem)(L:List As)(wb i:Nat)(a2 a8 a9 a10 a11:Value)(J:Wd→Prop)(Q:Exit→Env→Mem→Prop):Prop :=
 ∀ V' W' M (E':Env),J W'→V'.ok W'→E'.get 2=a2→E'.get 7=lp wb→E'.get 8=a8→E'.get 9=a9→E'.get 10=a10→E'.get 11=a11→E'.get 12=.int .i64 (i:Nat)→E'.has 2=true→E'.has 7=true→E'.has 8=true→E'.has 9=true→E'.has 10=true→E'.has 11=true→E'.has 12=true→Hq m M [] (wdA wb V' W'::L)→Q .normal E' M
theorem qww(x y:Int):lay Mv.zero.cs [(0,1),(2,1)] [.int .i64 x,.int .i64 y]=some (Mv.mk x 0 y Cmd.zero (0,0)).cs:=rfl
theorem qzh{k:Int}(hk:Key key)(hkk:I64 k)(hV:V.ok W)(hW:TW n key W q)(hon:W.on≠[])(H:Hq m M [] (wdA wb V W::L))(K:t2K m L wb i a2 a8 a9 a10 a11 (λW'=>∃ q',q' < q∧TW n key W' q') Q)(e2:E.get 2=a2)(e7:E.get 7=lp wb)(e8:E.get 8=a8)(e9:E.get 9=a9)(e10:E.get 10=a10)(e11:E.get 11=a11)(e12:E.get 12=.int .i64 (i:Nat))(e13:E.get 13=.int .i64 k)(h2:E.has 2=true)(h7:E.has 7=true)(h8:E.has 8=true)(h9:E.has 9=true)(h10:E.has 10=true)(h11:E.has 11=true)(h12:E.has 12=true)(h13:E.has 13=true) :
  wpN Tryz.prog jS Q E M:=by
 have hg:WL W n:=by
  obtain ⟨j,f,ph,w,P⟩:=hW
  exact P.wl
 have hpl:=λM (hA:(wdA wb V W).p M)=>qvH hA hV hg ⟨2,0,k,Cmd.zero,(0,0)⟩ rfl hon (show I64 0 by decide) hkk
 simp (disch:=omega) only [go_sem,undef,e2,e7,e8,e9,e10,e11,e12,e13,h2,h7,h8,h9,h10,h11,h12,h13,qww]
 refine zW H (hpl _ (H.at 0 rfl)) λu M A' hR f H=>?_
 refine Exists.elim hR λW' hR=>?_
 have hW2:=hW.giv hk hR.1
 refine hR.2.E λV' eu hV' eA=>?_
 subst eu eA
 simp (disch:=omega) only [go_sem,undef,e2,e7,e8,e9,e10,e11,e12,h2,h7,h8,h9,h10,h11,h12]
 exact K V' W' M _ hW2 hV' rfl rfl rfl rfl rfl rfl rfl rfl rfl rfl rfl rfl rfl rfl H
abbrev eN(x:Int):List Value:=[.int .i64 x]
abbrev tbA:NC:=.seq JK (.seq (.seq JX (.cond (.qq 87) JJ .skip)) jS)
theorem qzg{oa:Option Addr}{oc:Nat}{l:List Int}(hl:RdS 1 eN m (.slice oa l.length oc) l)(hx:∀ x∈l,I64 x)(hi:i≤3000)(hk:Key key)(hV:V.ok W)(hW:TW n key W q)(hon:W.on≠[])(hq:q≤60)(H:Hq m M [] (wdA wb V W::L))(K:t2K m L wb i (.slice oa l.length oc) a8 a9 a10 a11 (λW'=>∃ q',q' < q∧TW n key W' q') Q)(e2:E.get 2=.slice oa l.length oc)(e7:E.get 7=lp wb)(e8:E.get 8=a8)(e9:E.get 9=a9)(e10:E.get 10=a10)(e11:E.get 11=a11)(e12:E.get 12=.int .i64 (i:Nat))(h2:E.has 2=true)(h7:E.has 7=true)(h8:E.has 8=true)(h9:E.has 9=true)(h10:E.has 10=true)(h11:E.has 11=true)(h12:E.has 12=true) :
  wpN Tryz.prog tbA Q E M:=by
 show wpN Tryz.prog (.seq JK (.seq (.seq JX (.cond (.qq 87) JJ .skip)) jS)) Q E M
 generalize hT:jS=T13
 by_cases hil:i < l.length
 ·have hlM:=hl.frame H.fr
  have hrow:=gX (H.at 0 rfl)
  refine Exists.elim hrow.form λwa hov=>Exists.elim hov λwc hov=>?_
  have hc:=qM (H.at 0 rfl)
  have hol:0 < W.on.length:=List.length_pos_iff.2 hon
  have hle:W.on.length≤60:=by
   obtain ⟨j,f,ph,w,P⟩:=hW
   have:=P.onl
   omega
  refine RdS.elK hlM hil (by decide) λbx o x hx1 hix hE=>?_
  have h64:=hx x (List.mem_of_getElem? hx1)
  have hp0:(eN x)[0]?=some (.int .i64 x):=rfl
  simp (disch:=omega) only [go_sem,undef,e2,e7,e8,e9,e10,e11,e12,h2,h7,h8,h9,h10,h11,h12,qZ (show ((i:Nat):Int) < (l.length:Nat) by omega),hix,hE.ld0,hp0,hc,wdC,hov]
  refine PJ H (oG x 0 ((W.on.length:Nat) - 1) (by omega) h64 (by decide) (by omega)) λu M hR f H=>?_
  refine Exists.elim hR λr hr=>?_
  have eu:=hr.1
  subst eu
  simp (disch:=omega) only [go_sem,undef,e2,e7,e8,e9,e10,e11,e12,h2,h7,h8,h9,h10,h11,h12]
  subst hT
  exact qzh hk ⟨by omega,by omega⟩ hV hW hon H K rfl rfl rfl rfl rfl rfl rfl rfl rfl rfl rfl rfl rfl rfl rfl rfl
 ·simp (disch:=omega) only [go_sem,undef,e2,e7,e8,e9,e10,e11,e12,h2,h7,h8,h9,h10,h11,h12,qX (show ¬ ((i:Nat):Int) < (l.length:Nat) by omega)]
  subst hT
  exact qzh hk (by decide) hV hW hon H K rfl rfl rfl rfl rfl rfl rfl rfl rfl rfl rfl rfl rfl rfl rfl rfl
abbrev tlA:NC:=.seq Xo (.block 0 (.loop [2,7,8,9,10,11,12] yx))
theorem qQs:yx=.seq (.seq bj (.cond (.qq 81) .skip (.exit 0))) (.seq (.block 1 tbA) YF):=rfl
abbrev t3K(m:Mem)(L:List As)(wb:Nat)(a8 a9 a10 a11:Value)(n:Nat)(key:ByteArray)(Q:Exit→Env→Mem→Prop):Prop :=
 ∀ V' W' u v M (E':Env),Idle W' n key u v→V'.ok W'→E'.get 7=lp wb→E'.get 8=a8→E'.get 9=a9→E'.get 10=a10→E'.get 11=a11→E'.has 7=true→E'.has 8=true→E'.has 9=true→E'.has 10=true→E'.has 11=true→Hq m M [] (wdA wb V' W'::L)→Q .normal E' M
theorem qze{oa:Option Addr}{oc:Nat}{l:List Int}(hl:RdS 1 eN m (.slice oa l.length oc) l)(hx:∀ x∈l,I64 x)(hk:Key key)(hV:V.ok W)(hW:TW n key W q)(hq:q≤60)(H:Hq m M [] (wdA wb V W::L))(K:t3K m L wb a8 a9 a10 a11 n key Q)(e2:E.get 2=.slice oa l.length oc)(e7:E.get 7=lp wb)(e8:E.get 8=a8)(e9:E.get 9=a9)(e10:E.get 10=a10)(e11:E.get 11=a11)(h2:E.has 2=true)(h7:E.has 7=true)(h8:E.has 8=true)(h9:E.has 9=true)(h10:E.has 10=true)(h11:E.has 11=true) :
  wpN Tryz.prog tlA Q E M:=by
 show wpN Tryz.prog (.seq Xo (.block 0 (.loop [2,7,8,9,10,11,12] yx))) Q E M
 rw [qQs]
 generalize hT:tbA=TB
 simp (disch:=omega) only [go_sem,undef,e2,e7,e8,e9,e10,e11,h2,h7,h8,h9,h10,h11]
 refine qe (λk E m'=>∃ (i q:Nat) (V:Wv) (W:Wd),i+q≤60∧k=q∧E=[(2,.slice oa l.length oc),(7,lp wb),(8,a8),(9,a9),(10,a10),(11,a11),(12,.int .i64 (i:Nat))]∧V.ok W∧TW n key W q∧Hq m m' [] (wdA wb V W::L)) q rfl ⟨0,q,V,W,by omega,rfl,rfl,hV,hW,H⟩ ?_
 clear H hV hW hq e2 e7 e8 e9 e10 e11 h2 h7 h8 h9 h10 h11
 rintro k E M1 ⟨i,q,V,W,hiq,rfl,rfl,hV,hW,H⟩
 have hrow:=gX (H.at 0 rfl)
 refine Exists.elim hrow.form λwa hov=>Exists.elim hov λwc hov=>?_
 have hc:=qM (H.at 0 rfl)
 by_cases hon:W.on=[]
 ·have hl0:W.on.length=0:=by rw [hon];rfl
  simp (disch:=omega) only [go_sem,undef,hc,wdC,hov,qX (show ¬ ((W.on.length:Nat):Int) > 0 by omega)]
  refine Exists.elim (hW.idle hon) λu hI=>Exists.elim hI λv hI=>?_
  exact K V W u v M1 _ hI hV rfl rfl rfl rfl rfl rfl rfl rfl rfl rfl H
 ·have hol:0 < W.on.length:=List.length_pos_iff.2 hon
  simp (disch:=omega) only [go_sem,undef,hc,wdC,hov,qZ (show ((W.on.length:Nat):Int) > 0 by omega),qZ (show ((i:Nat):Int) < 3000 by omega)]
  subst hT
  refine qzg hl hx (by omega) hk hV hW hon (by omega) H (λV' W' M E' hJ hV' g2 g7 g8 g9 g10 g11 g12 k2 k7 k8 k9 k10 k11 k12 H=>?_) rfl rfl rfl rfl rfl rfl rfl rfl rfl rfl rfl rfl rfl rfl
  refine Exists.elim hJ λq' hJ=>?_
  have hq':=hJ.1
  simp (disch:=omega) only [go_sem,undef,g2,g7,g8,g9,g10,g11,g12,k2,k7,k8,k9,k10,k11,k12]
  exact qK q' (by omega) ⟨i+1,q',V',W',by omega,rfl,rfl,hV',hJ.2,H⟩
end Go.Fw
namespace Go.Fw
open Go.Proofs
variable {m m0 M:Mem} {S:List Nat} {L:List As}
variable {Q:Exit→Env→Mem→Prop} {E:Env} {wb n i q:Nat} {V:Wv} {W:Wd} {C:Co} {key:ByteArray} {a2 a8 a9 a10 a11:Value} {u v:Att}
theorem Idle.get(I:Idle W n key u v){i:Nat}(hi:i < n):∃ C k,W.cores[i]?=some C∧W.kept[i]?=some k∧CoT C∧IdC key u v C∧k.length≤1000000:=by
 have h1:=I.cl
 have h2:=I.kl
 have hC:W.cores[i]?=some (W.cores[i]'(by omega)):=List.getElem?_eq_getElem (by omega)
 have hk:W.kept[i]?=some (W.kept[i]'(by omega)):=List.getElem?_eq_getElem (by omega)
 have hI:=I.co _ (List.mem_of_getElem? hC)
 exact ⟨_,_,hC,hk,hI.good (I.okc i _ hC),hI,I.ke _ (List.mem_of_getElem? hk)⟩
abbrev trK(m:Mem)(L:List As)(wb i j:Nat)(a8 a9 a10 a11:Value)(W:Wd)(Q:Exit→Env→Mem→Prop):Prop :=
 ∀ V' M (E':Env),V'.ok W→E'.get 7=lp wb→E'.get 8=a8→E'.get 9=a9→E'.get 10=a10→E'.get 11=a11→E'.get 14=.int .i64 (j:Nat)→E'.get 15=.int .i64 (i:Nat)→E'.has 7=true→E'.has 8=true→E'.has 9=true→E'.has 10=true→E'.has 11=true→E'.has 14=true→E'.has 15=true→Hq m M [] (wdA wb V' W::L)→Q .normal E' M
abbrev qQu:NC:=.seq JQ kS
theorem qzd{j:Nat}(I:Idle W n key u v)(hi:i < n)(hV:V.ok W)(H:Hq m M [] (wdA wb V W::L))(K:trK m L wb i j a8 a9 a10 a11 W Q)(e7:E.get 7=lp wb)(e8:E.get 8=a8)(e9:E.get 9=a9)(e10:E.get 10=a10)(e11:E.get 11=a11)(e14:E.get 14=.int .i64 (j:Nat))(e15:E.get 15=.int .i64 (i:Nat))(h7:E.has 7=true)(h8:E.has 8=true)(h9:E.has 9=true)(h10:E.has 10=true)(h11:E.has 11=true)(h14:E.has 14=true)(h15:E.has 15=true) :
  wpN Tryz.prog qQu Q E M:=by
 refine Exists.elim (I.get hi) λC hG=>Exists.elim hG λk hG=>?_
 have hC:=hG.1
 have hk:=hG.2.1
 have hg:=hG.2.2.1
 have hI:=hG.2.2.2.1
 have hkl:=hG.2.2.2.2
 have hon:=I.on
 have hdr:=I.drain hi WX
 have hr1:=hg.recs
 have hr2:=hg.out
 have hr3:=hg.leads
 refine Exists.elim (YN hV hC) λv hv=>?_
 have hcr:=Qf (H.at 0 rfl)
 refine Exists.elim hcr.form λca hcv=>Exists.elim hcv λcc hcv=>?_
 rw [hcv] at hcr
 have hvl:=(List.getElem?_eq_some_iff.1 hv.1).1
 refine RdS.elK hcr hvl (by decide) λbx o v' hv' hix hE=>?_
 have ev:v'=v:=Option.some.inj (hv'.symm.trans hv.1)
 subst ev
 have hp0:(cpL v')[0]?=some (lp v'.1):=rfl
 have hpr:=λM (hA:(coA v'.1 v'.2 C).p M)=>OY hA hv.2 hg.ok (by omega) (by omega) (by omega) hg.tk hg.lg hg.tw
 have hc:=qM (H.at 0 rfl)
 show wpN Tryz.prog (.seq JQ kS) Q E M
 generalize hT:kS=T20
 simp (disch:=omega) only [go_sem,undef,e7,e8,e9,e10,e11,e14,e15,h7,h8,h9,h10,h11,h14,h15,hc,wdC,hcv,hix,hE.ld0,hp0]
 have H:=VO hv.1 hC H
 refine zW H (hpr _ (H.at 0 rfl)) λu M A' hR f H=>?_
 refine Exists.elim hR λl' hR=>Exists.elim hR λbs hR=>?_
 have htk:=hI.tick (bs:=bs) hR.1
 have hR:=hR.2.2.2
 rw [htk] at hR
 refine hR.E λY2 eu hoY eA=>?_
 subst eu eA
 have H:=VP hv.1 hC H
 have hV2:(V.put i (v'.1,Y2)).ok (W.put i C):=cd hV hoY
 rw [qjo hC] at H hV2
 generalize V.put i (v'.1,Y2)=V2 at *
 subst hT
 simp (disch:=omega) only [go_sem,undef,e7,e8,e9,e10,e11,e14,e15,h7,h8,h9,h10,h11,h14,h15]
 refine zW H (BQ (H.at 0 rfl) hV2 i WX hC hk (by omega) (by omega) (by rw [hon];exact Nat.zero_le _) (by omega)) λu M A' hR f H=>?_
 refine hR.E λV3 eu hoV eA=>?_
 subst eu eA
 rw [hdr] at H hoV
 simp (disch:=omega) only [go_sem,undef,e7,e8,e9,e10,e11,e14,e15,h7,h8,h9,h10,h11,h14,h15]
 exact K V3 M _ hoV rfl rfl rfl rfl rfl rfl rfl rfl rfl rfl rfl rfl rfl rfl H
abbrev trA:NC:=.seq JZ (.block 2 (.loop [7,8,9,10,11,14] yj))
theorem qQp:yj=.seq (.seq YE (.cond (.qq 104) .skip (.exit 2))) (.seq (.block 3 (.seq (.seq YD (.block 4 (.loop [7,8,9,10,11,14,15] (.seq (.seq YC (.cond (.qq 112) .skip (.exit 4))) (.seq (.block 5 qQu) YB))))) (.seq YA (.block 6 (.loop [7,8,9,10,11,14,16] Xs))))) Yt):=rfl
theorem qQr:Xs=.seq (.seq Yu (.cond (.qq 135) .skip (.exit 6))) (.seq (.block 7 Jy) Jw):=rfl
abbrev t4K(m:Mem)(L:List As)(wb:Nat)(a8 a9 a10 a11:Value)(W:Wd)(Q:Exit→Env→Mem→Prop):Prop :=
 ∀ V' M (E':Env),V'.ok W→E'.get 7=lp wb→E'.get 8=a8→E'.get 9=a9→E'.get 10=a10→E'.get 11=a11→E'.has 7=true→E'.has 8=true→E'.has 9=true→E'.has 10=true→E'.has 11=true→Hq m M [] (wdA wb V' W::L)→Q .normal E' M
theorem Pr(I:Idle W n key u v)(hV:V.ok W)(H:Hq m M [] (wdA wb V W::L))(K:t4K m L wb a8 a9 a10 a11 W Q)(e7:E.get 7=lp wb)(e8:E.get 8=a8)(e9:E.get 9=a9)(e10:E.get 10=a10)(e11:E.get 11=a11)(h7:E.has 7=true)(h8:E.has 8=true)(h9:E.has 9=true)(h10:E.has 10=true)(h11:E.has 11=true) :
  wpN Tryz.prog trA Q E M:=by
 have hnum:=I.num
 have hn7:n≤7:=by have:=I.n3;omega
 show wpN Tryz.prog (.seq JZ (.block 2 (.loop [7,8,9,10,11,14] yj))) Q E M
 rw [qQp,qQr]
 generalize hT:qQu=TB
 generalize hT4:(NC.seq (.block 7 Jy) Jw)=T4
 simp (disch:=omega) only [go_sem,undef,e7,e8,e9,e10,e11,h7,h8,h9,h10,h11]
 refine qe (λk E m'=>∃ (j:Nat) (V:Wv),j≤60∧k=60 - j∧E=[(7,lp wb),(8,a8),(9,a9),(10,a10),(11,a11),(14,.int .i64 (j:Nat))]∧V.ok W∧Hq m m' [] (wdA wb V W::L)) 60 rfl ⟨0,V,by omega,rfl,rfl,hV,H⟩ ?_
 clear H hV e7 e8 e9 e10 e11 h7 h8 h9 h10 h11
 rintro k E M1 ⟨j,V,hj,rfl,rfl,hV,H⟩
 by_cases hj6:j < 60
 ·simp (disch:=omega) only [go_sem,undef,qZ (show ((j:Nat):Int) < 60 by omega)]
  refine qe (λk E m'=>∃ (i:Nat) (V:Wv),i≤n∧k=n - i∧E=[(7,lp wb),(8,a8),(9,a9),(10,a10),(11,a11),(14,.int .i64 (j:Nat)),(15,.int .i64 (i:Nat))]∧V.ok W∧Hq m m' [] (wdA wb V W::L)) n rfl ⟨0,V,by omega,rfl,rfl,hV,H⟩ ?_
  clear H hV
  rintro k E M2 ⟨i,V,hi,rfl,rfl,hV,H⟩
  have hc:=qM (H.at 0 rfl)
  by_cases hin:i < n
  ·simp (disch:=omega) only [go_sem,undef,hc,wdC,hnum,qZ (show ((i:Nat):Int) < (n:Nat) by omega)]
   subst hT
   refine qzd I hin hV H (λV' M E' hV' g7 g8 g9 g10 g11 g14 g15 k7 k8 k9 k10 k11 k14 k15 H=>?_) rfl rfl rfl rfl rfl rfl rfl rfl rfl rfl rfl rfl rfl rfl
   simp (disch:=omega) only [go_sem,undef,g7,g8,g9,g10,g11,g14,g15,k7,k8,k9,k10,k11,k14,k15]
   exact qK (n - (i+1)) (by omega) ⟨i+1,V',by omega,rfl,rfl,hV',H⟩
  ·have hrow:=gX (H.at 0 rfl)
   refine Exists.elim hrow.form λwa hov=>Exists.elim hov λwc hov=>?_
   have hl0:W.on.length=0:=by rw [I.on];rfl
   simp (disch:=omega) only [go_sem,undef,hc,wdC,hnum,qX (show ¬ ((i:Nat):Int) < (n:Nat) by omega)]
   refine qe (λk E m'=>E=[(7,lp wb),(8,a8),(9,a9),(10,a10),(11,a11),(14,.int .i64 (j:Nat)),(16,.int .i64 0)]∧Hq m m' [] (wdA wb V W::L)) 0 rfl ⟨rfl,H⟩ ?_
   clear H hc
   rintro k E M3 ⟨rfl,H⟩
   have hc:=qM (H.at 0 rfl)
   simp (disch:=omega) only [go_sem,undef,hc,wdC,hov,qX (show ¬ ((W.on.length:Nat):Int) > 0 by omega)]
   exact qK (60 - (j+1)) (by omega) ⟨j+1,V,by omega,rfl,rfl,hV,H⟩
 ·simp (disch:=omega) only [go_sem,undef,qX (show ¬ ((j:Nat):Int) < 60 by omega)]
  exact K V M1 _ hV rfl rfl rfl rfl rfl rfl rfl rfl rfl rfl H
end Go.Fw
namespace Go.Fw
open Go.Proofs
variable {m m0 M:Mem} {S:List Nat} {L:List As}
variable {Q:Exit→Env→Mem→Prop} {E:Env} {wb n i q b8 b10 b18 b20:Nat} {V:Wv} {W:Wd} {C:Co} {key:ByteArray} {u v:Att}
abbrev l2(b8 b10:Nat):List As:=[c9 b10 (fId 1),c9 b8 (fId 0)]
abbrev tcK(m:Mem)(wb b8 b10 r:Nat)(W:Wd)(Q:Exit→Env→Mem→Prop):Prop :=
 ∀ V' M (E':Env),V'.ok W→E'.get 7=lp wb→E'.get 8=lp b8→E'.get 9=.bool true→E'.get 10=lp b10→E'.get 11=.bool true→E'.get 17=.int .i64 (r:Nat)→E'.has 7=true→E'.has 8=true→E'.has 9=true→E'.has 10=true→E'.has 11=true→E'.has 17=true→Hq m M [] (wdA wb V' W::l2 b8 b10)→Q .normal E' M
abbrev tcC:NC:=.seq Yr (.cond (.qq 196) (.seq Yp .ret) .skip)
theorem qxg:zj (fId 0):=Wx (by decide)
theorem qxf:zj (fId 1):=Wx (by decide)
theorem qQe{r:Nat}{c d:Cel}(hc:c.st=3)(hca:c.att=u)(hd:d.st=3)(hda:d.att=v)(hrc:u.deps.g 1=1∨v.deps.g 0=1)(hV:V.ok W)(H:Hq m M [] (c10 b20 d::c10 b18 c::wdA wb V W::l2 b8 b10))(K:tcK m wb b8 b10 r W Q)(e7:E.get 7=lp wb)(e8:E.get 8=lp b8)(e9:E.get 9=.bool true)(e10:E.get 10=lp b10)(e11:E.get 11=.bool true)(e17:E.get 17=.int .i64 (r:Nat))(e18:E.get 18=lp b18)(e20:E.get 20=lp b20)(h7:E.has 7=true)(h8:E.has 8=true)(h9:E.has 9=true)(h10:E.has 10=true)(h11:E.has 11=true)(h17:E.has 17=true)(h18:E.has 18=true)(h20:E.has 20=true) :
  wpN Tryz.prog tcC Q E M:=by
 have g0:=Cel.g0 c
 have g1:=Cel.g0 d
 simp (disch:=omega) only [go_sem,undef,e7,e8,e9,e10,e11,e17,e18,e20,h7,h8,h9,h10,h11,h17,h18,h20,H.cs,g0,g1,qX (show ¬ c.st≠3 from λh=>h hc),qX (show ¬ d.st≠3 from λh=>h hd)]
 refine qa H (AT c.att.deps (fId 1) M) λM f H=>?_
 by_cases hr:xa c.att.deps (fId 1)
 ·simp (disch:=omega) only [go_sem,undef,e7,e8,e9,e10,e11,e17,e18,e20,h7,h8,h9,h10,h11,h17,h18,h20,H.cs,qZ hr,Bool.not_true]
  exact K V M _ hV rfl rfl rfl rfl rfl rfl rfl rfl rfl rfl rfl rfl H.tail.tail
 ·have hr2:xa d.att.deps (fId 0):=⟨qxg,by
   rw [hda]
   show (1:Int)≤v.deps.g 0
   rcases hrc with e | e
   ·refine absurd ⟨qxf,?_⟩ hr
    rw [hca]
    show (1:Int)≤u.deps.g 1
    omega
   ·omega⟩
  simp (disch:=omega) only [go_sem,undef,e7,e8,e9,e10,e11,e17,e18,e20,h7,h8,h9,h10,h11,h17,h18,h20,H.cs,qX hr,Bool.not_false]
  refine qa H (AT d.att.deps (fId 0) M) λM f H=>?_
  simp (disch:=omega) only [go_sem,undef,e7,e8,e9,e10,e11,e17,e18,e20,h7,h8,h9,h10,h11,h17,h18,h20,H.cs,qX hr,Bool.not_false,qZ hr2,Bool.not_true]
  exact K V M _ hV rfl rfl rfl rfl rfl rfl rfl rfl rfl rfl rfl rfl H.tail.tail
theorem qkE{r:Nat}{c d:Cel}(hV:V.ok W)(hC:W.cores[r]?=some C)(hd:lkC (fId 0) C.lg=some d)(H:Hq m M [] (wdA wb V W::l2 b8 b10))(K:∀ b M (E':Env),E'.get 7=lp wb→E'.get 8=lp b8→E'.get 9=.bool true→E'.get 10=lp b10→E'.get 11=.bool true→E'.get 17=.int .i64 (r:Nat)→E'.get 18=lp b→E'.has 7=true→E'.has 8=true→E'.has 9=true→E'.has 10=true→E'.has 11=true→E'.has 17=true→E'.has 18=true→Hq m M [] (c10 b d::wdA wb V W::l2 b8 b10)→Q .normal E' M)(e7:E.get 7=lp wb)(e8:E.get 8=lp b8)(e9:E.get 9=.bool true)(e10:E.get 10=lp b10)(e11:E.get 11=.bool true)(e17:E.get 17=.int .i64 (r:Nat))(h7:E.has 7=true)(h8:E.has 8=true)(h9:E.has 9=true)(h10:E.has 10=true)(h11:E.has 11=true)(h17:E.has 17=true) :
  wpN Tryz.prog kR Q E M:=by
 refine Exists.elim (YN hV hC) λv hv=>?_
 have hcell:=λM (hA:(wdA wb V W).p M)=>wV (SO hA hv.1 hC) (fId 0)
 rw [hd] at hcell
 have hcell:∀ M,(wdA wb V W).p M→MC Tryz.prog Xi [lp v.1,pv (fId 0)] M λu M'=>u=.tuple #[d.v,.bool true]∧Fr M M' []:=hcell
 have hvl:=(List.getElem?_eq_some_iff.1 hv.1).1
 have hcr:=Qf (H.at 0 rfl)
 refine Exists.elim hcr.form λca hcv=>Exists.elim hcv λcc hcv=>?_
 rw [hcv] at hcr
 refine RdS.elK hcr hvl (by decide) λbx o3 v' hv' hix hE=>?_
 have ev:v'=v:=Option.some.inj (hv'.symm.trans hv.1)
 subst ev
 have hp0:(cpL v')[0]?=some (lp v'.1):=rfl
 have hc:=qM (H.at 0 rfl)
 simp (disch:=omega) only [go_sem,undef,e7,e8,e9,e10,e11,e17,h7,h8,h9,h10,h11,h17,hc,wdC,hcv,hix,hE.ld0,hp0,H.cs]
 refine qp ?_ ?_
 ·simp (disch:=omega) only [go_sem,undef,e7,e8,e9,e10,e11,e17,h7,h8,h9,h10,h11,h17,H.cs]
  refine qa H (hcell _ (H.at 0 rfl)) λM f H=>?_
  have hE:=hE.frame f
  have hc:=qM (H.at 0 rfl)
  simp (disch:=omega) only [go_sem,undef,e7,e8,e9,e10,e11,e17,h7,h8,h9,h10,h11,h17,H.cs,hc,wdC,hcv,hix,hE.ld0,hp0]
  refine qg H λb M f H=>?_
  have hE:=hE.frame f
  have hc:=qM (H.at 1 rfl)
  simp (disch:=omega) only [go_sem,undef,e7,e8,e9,e10,e11,e17,h7,h8,h9,h10,h11,h17,H.cs,hc,wdC,hcv,hix,hE.ld0,hp0]
  refine qs H rfl rfl λM f H=>?_
  have H:Hq m M [] (c10 b d::wdA wb V W::l2 b8 b10):=H
  simp (disch:=omega) only [go_sem,undef,e7,e8,e9,e10,e11,e17,h7,h8,h9,h10,h11,h17]
  exact K b M _ rfl rfl rfl rfl rfl rfl rfl rfl rfl rfl rfl rfl rfl rfl H
 ·simp (disch:=omega) only [go_sem,undef,e7,e8,e9,e10,e11,e17,h7,h8,h9,h10,h11,h17,H.cs]
  refine qg H λb M f H=>?_
  have hE:=hE.frame f
  have hc:=qM (H.at 1 rfl)
  simp (disch:=omega) only [go_sem,undef,e7,e8,e9,e10,e11,e17,h7,h8,h9,h10,h11,h17,H.cs,hc,wdC,hcv,hix,hE.ld0,hp0]
  refine qa H (hcell _ (H.at 1 rfl)) λM f H=>?_
  simp (disch:=omega) only [go_sem,undef,e7,e8,e9,e10,e11,e17,h7,h8,h9,h10,h11,h17,H.cs]
  refine qs H rfl rfl λM f H=>?_
  have H:Hq m M [] (c10 b d::wdA wb V W::l2 b8 b10):=H
  simp (disch:=omega) only [go_sem,undef,e7,e8,e9,e10,e11,e17,h7,h8,h9,h10,h11,h17]
  exact K b M _ rfl rfl rfl rfl rfl rfl rfl rfl rfl rfl rfl rfl rfl rfl H
theorem qkD{r:Nat}{c d:Cel}(hV:V.ok W)(hC:W.cores[r]?=some C)(hd:lkC (fId 1) C.lg=some d)(H:Hq m M [] (c10 b18 c::wdA wb V W::l2 b8 b10))(K:∀ b M (E':Env),E'.get 7=lp wb→E'.get 8=lp b8→E'.get 9=.bool true→E'.get 10=lp b10→E'.get 11=.bool true→E'.get 17=.int .i64 (r:Nat)→E'.get 18=lp b18→E'.get 20=lp b→E'.has 7=true→E'.has 8=true→E'.has 9=true→E'.has 10=true→E'.has 11=true→E'.has 17=true→E'.has 18=true→E'.has 20=true→Hq m M [] (c10 b d::c10 b18 c::wdA wb V W::l2 b8 b10)→Q .normal E' M)(e7:E.get 7=lp wb)(e8:E.get 8=lp b8)(e9:E.get 9=.bool true)(e10:E.get 10=lp b10)(e11:E.get 11=.bool true)(e17:E.get 17=.int .i64 (r:Nat))(e18:E.get 18=lp b18)(h7:E.has 7=true)(h8:E.has 8=true)(h9:E.has 9=true)(h10:E.has 10=true)(h11:E.has 11=true)(h17:E.has 17=true)(h18:E.has 18=true) :
  wpN Tryz.prog jR Q E M:=by
 refine Exists.elim (YN hV hC) λv hv=>?_
 have hcell:=λM (hA:(wdA wb V W).p M)=>wV (SO hA hv.1 hC) (fId 1)
 rw [hd] at hcell
 have hcell:∀ M,(wdA wb V W).p M→MC Tryz.prog Xi [lp v.1,pv (fId 1)] M λu M'=>u=.tuple #[d.v,.bool true]∧Fr M M' []:=hcell
 have hvl:=(List.getElem?_eq_some_iff.1 hv.1).1
 have hcr:=Qf (H.at 1 rfl)
 refine Exists.elim hcr.form λca hcv=>Exists.elim hcv λcc hcv=>?_
 rw [hcv] at hcr
 refine RdS.elK hcr hvl (by decide) λbx o3 v' hv' hix hE=>?_
 have ev:v'=v:=Option.some.inj (hv'.symm.trans hv.1)
 subst ev
 have hp0:(cpL v')[0]?=some (lp v'.1):=rfl
 have hc:=qM (H.at 1 rfl)
 simp (disch:=omega) only [go_sem,undef,e7,e8,e9,e10,e11,e17,e18,h7,h8,h9,h10,h11,h17,h18,hc,wdC,hcv,hix,hE.ld0,hp0,H.cs]
 refine qp ?_ ?_
 ·simp (disch:=omega) only [go_sem,undef,e7,e8,e9,e10,e11,e17,e18,h7,h8,h9,h10,h11,h17,h18,H.cs]
  refine qa H (hcell _ (H.at 1 rfl)) λM f H=>?_
  have hE:=hE.frame f
  have hc:=qM (H.at 1 rfl)
  simp (disch:=omega) only [go_sem,undef,e7,e8,e9,e10,e11,e17,e18,h7,h8,h9,h10,h11,h17,h18,H.cs,hc,wdC,hcv,hix,hE.ld0,hp0]
  refine qg H λb M f H=>?_
  have hE:=hE.frame f
  have hc:=qM (H.at 2 rfl)
  simp (disch:=omega) only [go_sem,undef,e7,e8,e9,e10,e11,e17,e18,h7,h8,h9,h10,h11,h17,h18,H.cs,hc,wdC,hcv,hix,hE.ld0,hp0]
  refine qs H rfl rfl λM f H=>?_
  have H:Hq m M [] (c10 b d::c10 b18 c::wdA wb V W::l2 b8 b10):=H
  simp (disch:=omega) only [go_sem,undef,e7,e8,e9,e10,e11,e17,e18,h7,h8,h9,h10,h11,h17,h18]
  exact K b M _ rfl rfl rfl rfl rfl rfl rfl rfl rfl rfl rfl rfl rfl rfl rfl rfl H
 ·simp (disch:=omega) only [go_sem,undef,e7,e8,e9,e10,e11,e17,e18,h7,h8,h9,h10,h11,h17,h18,H.cs]
  refine qg H λb M f H=>?_
  have hE:=hE.frame f
  have hc:=qM (H.at 2 rfl)
  simp (disch:=omega) only [go_sem,undef,e7,e8,e9,e10,e11,e17,e18,h7,h8,h9,h10,h11,h17,h18,H.cs,hc,wdC,hcv,hix,hE.ld0,hp0]
  refine qa H (hcell _ (H.at 2 rfl)) λM f H=>?_
  simp (disch:=omega) only [go_sem,undef,e7,e8,e9,e10,e11,e17,e18,h7,h8,h9,h10,h11,h17,h18,H.cs]
  refine qs H rfl rfl λM f H=>?_
  have H:Hq m M [] (c10 b d::c10 b18 c::wdA wb V W::l2 b8 b10):=H
  simp (disch:=omega) only [go_sem,undef,e7,e8,e9,e10,e11,e17,e18,h7,h8,h9,h10,h11,h17,h18]
  exact K b M _ rfl rfl rfl rfl rfl rfl rfl rfl rfl rfl rfl rfl rfl rfl rfl rfl H
abbrev qzL:NC:=.seq Jv (.block 8 (.loop [7,8,9,10,11,17] yz))
abbrev tcB:NC:=.seq kR (.seq jR tcC)
theorem qQo:yz=.seq (.seq Ys (.cond (.qq 146) .skip (.exit 8))) (.seq (.block 9 tcB) Yo):=rfl
theorem two_B{r:Nat}(hV:V.ok W)(hC:W.cores[r]?=some C)(hI:IdC key u v C)(hrc:u.deps.g 1=1∨v.deps.g 0=1)(H:Hq m M [] (wdA wb V W::l2 b8 b10))(K:tcK m wb b8 b10 r W Q)(e7:E.get 7=lp wb)(e8:E.get 8=lp b8)(e9:E.get 9=.bool true)(e10:E.get 10=lp b10)(e11:E.get 11=.bool true)(e17:E.get 17=.int .i64 (r:Nat))(h7:E.has 7=true)(h8:E.has 8=true)(h9:E.has 9=true)(h10:E.has 10=true)(h11:E.has 11=true)(h17:E.has 17=true) :
  wpN Tryz.prog tcB Q E M:=by
 refine Exists.elim hI.c0 λc hc=>Exists.elim hI.c1 λd hd=>?_
 have hc1:=hc.1
 have hd1:=hd.1
 show wpN Tryz.prog (.seq kR (.seq jR tcC)) Q E M
 rw [YX]
 refine qkE (c:=c) hV hC hc1 H (λb M E' g7 g8 g9 g10 g11 g17 g18 k7 k8 k9 k10 k11 k17 k18 H=>?_) e7 e8 e9 e10 e11 e17 h7 h8 h9 h10 h11 h17
 show wpN Tryz.prog (.seq jR tcC) Q E' M
 rw [YX]
 refine qkD (c:=c) hV hC hd1 H (λb2 M E' g7 g8 g9 g10 g11 g17 g18 g20 k7 k8 k9 k10 k11 k17 k18 k20 H=>?_) g7 g8 g9 g10 g11 g17 g18 k7 k8 k9 k10 k11 k17 k18
 exact qQe hc.2.1 hc.2.2.1 hd.2.1 hd.2.2.1 hrc hV H K g7 g8 g9 g10 g11 g17 g18 g20 k7 k8 k9 k10 k11 k17 k18 k20
theorem Ul(I:Idle W n key u v)(hV:V.ok W)(H:Hq m M [] (wdA wb V W::l2 b8 b10))(K:t4K m (l2 b8 b10) wb (lp b8) (.bool true) (lp b10) (.bool true) W Q)(e7:E.get 7=lp wb)(e8:E.get 8=lp b8)(e9:E.get 9=.bool true)(e10:E.get 10=lp b10)(e11:E.get 11=.bool true)(h7:E.has 7=true)(h8:E.has 8=true)(h9:E.has 9=true)(h10:E.has 10=true)(h11:E.has 11=true) :
  wpN Tryz.prog qzL Q E M:=by
 have hnum:=I.num
 have hn7:n≤7:=by have:=I.n3;omega
 show wpN Tryz.prog (.seq Jv (.block 8 (.loop [7,8,9,10,11,17] yz))) Q E M
 rw [qQo]
 generalize hT:tcB=TB
 simp (disch:=omega) only [go_sem,undef,e7,e8,e9,e10,e11,h7,h8,h9,h10,h11]
 refine qe (λk E m'=>∃ (r:Nat) (V:Wv),r≤n∧k=n - r∧E=[(7,lp wb),(8,lp b8),(9,.bool true),(10,lp b10),(11,.bool true),(17,.int .i64 (r:Nat))]∧V.ok W∧Hq m m' [] (wdA wb V W::l2 b8 b10)) n rfl ⟨0,V,by omega,rfl,rfl,hV,H⟩ ?_
 clear H hV e7 e8 e9 e10 e11 h7 h8 h9 h10 h11
 rintro k E M1 ⟨r,V,hr,rfl,rfl,hV,H⟩
 have hc:=qM (H.at 0 rfl)
 by_cases hrn:r < n
 ·refine Exists.elim (I.get hrn) λC hG=>Exists.elim hG λk hG=>?_
  simp (disch:=omega) only [go_sem,undef,hc,wdC,hnum,qZ (show ((r:Nat):Int) < (n:Nat) by omega)]
  subst hT
  refine two_B hV hG.1 hG.2.2.2.1 I.rc H (λV' M E' hV' g7 g8 g9 g10 g11 g17 k7 k8 k9 k10 k11 k17 H=>?_) rfl rfl rfl rfl rfl rfl rfl rfl rfl rfl rfl rfl
  simp (disch:=omega) only [go_sem,undef,g7,g8,g9,g10,g11,g17,k7,k8,k9,k10,k11,k17]
  exact qK (n - (r+1)) (by omega) ⟨r+1,V',by omega,rfl,rfl,hV',H⟩
 ·simp (disch:=omega) only [go_sem,undef,hc,wdC,hnum,qX (show ¬ ((r:Nat):Int) < (n:Nat) by omega)]
  exact K V M1 _ hV rfl rfl rfl rfl rfl rfl rfl rfl rfl rfl H
end Go.Fw
namespace Go.Fw
open Go.Proofs
variable {m m0 M:Mem} {S:List Nat} {L:List As}
variable {Q:Exit→Env→Mem→Prop} {E:Env} {wb n i q b8 b10 b18 b20:Nat} {V:Wv} {W:Wd} {C:Co} {key:ByteArray} {u v:Att}
abbrev ttQ(m:Mem):Exit→Env→Mem→Prop:=vB [.qq 6] λu M=>u=.bool true∧Fr m M []
def twT(key:ByteArray)(u v:Att)(i:Int×Int):Cmd×Att:=if i=fId 0 then (cX key 0,u) else (cX key 1,v)
theorem Idle.agree(I:Idle W n key u v)(hk:Key key):∃ (T:Int×Int→Cmd×Att) (Cm:Int×Int→Prop),(∀ C∈W.cores,C.Ok)∧(∀ C∈W.cores,∀ id c,lkC id C.lg=some c→c.st=3→AgP T Cm (id,c))∧(∀ i j,i≠j→Cm i→Cm j→Qj (T i).1 (T j).1→xa (T i).2.deps j∨xa (T j).2.deps i):=by
 have hne:fId 1≠fId 0:=λh=>absurd (XN.1 h) (by decide)
 have hT0:twT key u v (fId 0)=(cX key 0,u):=if_pos rfl
 have hT1:twT key u v (fId 1)=(cX key 1,v):=if_neg hne
 have hsz:=hk.sz
 have h01:xa u.deps (fId 1)∨xa v.deps (fId 0):=by
  rcases I.rc with e | e
  ·exact .inl ⟨qxf,by show (1:Int)≤u.deps.g 1;omega⟩
  ·exact .inr ⟨qxg,by show (1:Int)≤v.deps.g 0;omega⟩
 refine ⟨twT key u v,λi=>i=fId 0∨i=fId 1,λC hC=>?_,λC hC id c hc h3=>?_,λi j hij hi hj _=>?_⟩
 ·obtain ⟨r,hr⟩:=List.getElem?_of_mem hC
  exact I.okc r C hr
 ·have hI:=I.co C hC
  have hm:id∈zw C.lg:=Classical.byContradiction λh=>by rw [DX.2 h] at hc;exact nomatch hc
  rcases hI.kc id hm with e | e
  ·obtain ⟨c',e1,_,e2,e3⟩:=hI.c0
   subst e
   rw [e1] at hc
   cases hc
   exact ⟨by show c.cmd=(twT key u v (fId 0)).1;rw [hT0];exact e3,by show c.att=(twT key u v (fId 0)).2;rw [hT0];exact e2,.inl rfl,by show c.cmd.key.size≤1000;rw [e3];show key.size≤1000;omega⟩
  ·obtain ⟨c',e1,_,e2,e3⟩:=hI.c1
   subst e
   rw [e1] at hc
   cases hc
   exact ⟨by show c.cmd=(twT key u v (fId 1)).1;rw [hT1];exact e3,by show c.att=(twT key u v (fId 1)).2;rw [hT1];exact e2,.inr rfl,by show c.cmd.key.size≤1000;rw [e3];show key.size≤1000;omega⟩
 ·rcases hi with rfl | rfl<;>rcases hj with rfl | rfl
  ·exact absurd rfl hij
  ·rw [hT0,hT1];exact h01
  ·rw [hT0,hT1];exact h01.symm
  ·exact absurd rfl hij
abbrev z34:NC:=.seq Yn .ret
theorem qQd(I:Idle W n key u v)(hk:Key key)(hV:V.ok W)(H:Hq m M [] (wdA wb V W::L))(e7:E.get 7=lp wb)(e9:E.get 9=.bool true)(e11:E.get 11=.bool true)(h7:E.has 7=true)(h9:E.has 9=true)(h11:E.has 11=true) :
  wpN Tryz.prog z34 (ttQ m) E M:=by
 have hn7:n≤7:=by have:=I.n3;omega
 refine Exists.elim (I.agree hk) λT hA=>Exists.elim hA λCm hA=>?_
 simp (disch:=omega) only [go_sem,undef,e7,e9,e11,h7,h9,h11]
 refine zW H (qyp (H.at 0 rfl) hV I.num hn7 I.cl hA.1 T Cm hA.2.1 hA.2.2) λu M A' hR f H=>?_
 refine hR.E λV2 eu hoV eA=>?_
 subst eu eA
 simp (disch:=omega) only [go_sem,undef]
 refine qa H (nK _) λM f H=>?_
 simp (disch:=omega) only [go_sem,undef]
 exact ⟨rfl,H.fr⟩
abbrev z7:NC:=.seq tlA (.seq trA (.seq qzL z34))
theorem two_7{oa:Option Addr}{oc:Nat}{l:List Int}(hl:RdS 1 eN m (.slice oa l.length oc) l)(hx:∀ x∈l,I64 x)(hk:Key key)(hV:V.ok W)(hW:TW n key W q)(hq:q≤60)(H:Hq m M [] (wdA wb V W::l2 b8 b10))(e2:E.get 2=.slice oa l.length oc)(e7:E.get 7=lp wb)(e8:E.get 8=lp b8)(e9:E.get 9=.bool true)(e10:E.get 10=lp b10)(e11:E.get 11=.bool true)(h2:E.has 2=true)(h7:E.has 7=true)(h8:E.has 8=true)(h9:E.has 9=true)(h10:E.has 10=true)(h11:E.has 11=true) :
  wpN Tryz.prog z7 (ttQ m) E M:=by
 show wpN Tryz.prog (.seq tlA (.seq trA (.seq qzL z34))) (ttQ m) E M
 rw [YX]
 refine qze hl hx hk hV hW hq H (λV W u v M E' I hV g7 g8 g9 g10 g11 k7 k8 k9 k10 k11 H=>?_) e2 e7 e8 e9 e10 e11 h2 h7 h8 h9 h10 h11
 show wpN Tryz.prog (.seq trA (.seq qzL z34)) (ttQ m) E' M
 rw [YX]
 refine Pr I hV H (λV M E' hV g7 g8 g9 g10 g11 k7 k8 k9 k10 k11 H=>?_) g7 g8 g9 g10 g11 k7 k8 k9 k10 k11
 show wpN Tryz.prog (.seq qzL z34) (ttQ m) E' M
 rw [YX]
 refine Ul I hV H (λV M E' hV g7 g8 g9 g10 g11 k7 k8 k9 k10 k11 H=>?_) g7 g8 g9 g10 g11 k7 k8 k9 k10 k11
 exact qQd I hk hV H g7 g9 g11 k7 k9 k11
abbrev tw2(n:Nat)(key:ByteArray):Wd:=((Wd.fresh n).put 0 (fA1 n 0 (cX key 0))).put 1 (fA1 n 1 (cX key 1))
abbrev tw3(n:Nat)(key:ByteArray):Wd:=(((Wd.fresh n).put 0 (fA1 n 0 (cX key 0))).drain 0 300).put 1 (fA1 n 1 (cX key 1))
theorem qzl:(tw2 n key).drain 0 WX=tw3 n key:=by
 unfold tw2 tw3
 rw [qqA (by decide),Sj (r1:=WX) (r2:=300) (i:=0) (Int.lt_of_lt_of_le (show ((0:Nat):Int) < 10 by decide) nA) (Int.lt_of_lt_of_le (show ((0:Nat):Int) < 10 by decide) (by decide))]
theorem qQl:(tw3 n key).drain 1 WX=twW n key:=by
 rw [← qzl];rfl
theorem qQm(hk:Key key)(h3:n=3∨n=5∨n=7):(tw3 n key).cores[1]?=some (fA1 n 1 (cX key 1))∧(∃ k,(tw3 n key).kept[1]?=some k∧k.length≤1000)∧(tw3 n key).on.length≤6:=by
 have s1:=((Xu n).put 0 (fA1 n 0 (cX key 0))).drain (k:=0) (by omega) (room:=300) (by decide)
 have c0:=((Xu n).put 0 (fA1 n 0 (cX key 0))).get (k:=0) (by omega)
 simp only [↓reduceIte] at s1 c0
 have hl0:=qjC (n:=n) (o:=0) (by omega)
 have hcl1:(((Wd.fresh n).put 0 (fA1 n 0 (cX key 0))).drain 0 300).cores.length=n:=by rw [s1.cores];simp
 have hkl1:=s1.kept
 have hk1:(((Wd.fresh n).put 0 (fA1 n 0 (cX key 0))).drain 0 300).kept[1]?=some ((((Wd.fresh n).put 0 (fA1 n 0 (cX key 0))).drain 0 300).kept[1]'(by omega)):=List.getElem?_eq_getElem (by omega)
 refine ⟨List.getElem?_set_self (by omega),⟨_,hk1,?_⟩,?_⟩
 ·rcases cH (List.mem_of_getElem? hk1) with h | ⟨C,k0,hC,hk0,e⟩
  ·rw [List.eq_of_mem_replicate (show _∈List.replicate n ([]:List (List UInt8)) from h)];exact Nat.zero_le _
  ·rw [e,List.eq_of_mem_replicate (show k0∈List.replicate n ([]:List (List UInt8)) from hk0)]
   rw [c0] at hC
   cases hC
   show 1≤1000
   decide
 show (((Wd.fresh n).put 0 (fA1 n 0 (cX key 0))).drain 0 300).on.length≤6
 rw [s1.on]
 show ([]++(yA n 0).map λk=>qjt 0 k (cX key 0)).length≤6
 rw [List.nil_append,List.length_map];omega
abbrev z6:NC:=.seq Xr (.seq Xp z7)
theorem two_6{oa:Option Addr}{oc:Nat}{l:List Int}(hl:RdS 1 eN m (.slice oa l.length oc) l)(hx:∀ x∈l,I64 x)(hk:Key key)(h3:n=3∨n=5∨n=7)(hV:V.ok (tw2 n key))(H:Hq m M [] (wdA wb V (tw2 n key)::l2 b8 b10))(e2:E.get 2=.slice oa l.length oc)(e7:E.get 7=lp wb)(e8:E.get 8=lp b8)(e9:E.get 9=.bool true)(e10:E.get 10=lp b10)(e11:E.get 11=.bool true)(h2:E.has 2=true)(h7:E.has 7=true)(h8:E.has 8=true)(h9:E.has 9=true)(h10:E.has 10=true)(h11:E.has 11=true) :
  wpN Tryz.prog z6 (ttQ m) E M:=by
 have hs:=((Xu n).put 0 (fA1 n 0 (cX key 0))).put 1 (fA1 n 1 (cX key 1))
 have hc0':=hs.get (k:=0) (by omega)
 simp only [if_neg (show ¬ (0:Nat)=1 by decide),↓reduceIte] at hc0'
 have hc0:(tw2 n key).cores[0]?=some (fA1 n 0 (cX key 0)):=hc0'
 clear hc0' hs
 have hk0:(tw2 n key).kept[0]?=some []:=by
  show (List.replicate n ([]:List (List UInt8)))[0]?=some []
  rw [List.getElem?_replicate,if_pos (by omega)]
 have h3k:=qQm (n:=n) hk h3
 have he3:=qzl (n:=n) (key:=key)
 have he4:=qQl (n:=n) (key:=key)
 have hst:=qzi hk h3
 have hl0:=qjC (n:=n) (o:=0) (by omega)
 have hl1:=qjC (n:=n) (o:=1) (by omega)
 have ho0:(fA1 n 0 (cX key 0)).out.length≤100:=by
  show ((yA n 0).map λk=>qjt 0 k (cX key 0)).length≤100
  rw [List.length_map];omega
 have ho1:(fA1 n 1 (cX key 1)).out.length≤100:=by
  show ((yA n 1).map λk=>qjt 1 k (cX key 1)).length≤100
  rw [List.length_map];omega
 have hr0:(fA1 n 0 (cX key 0)).recs.length≤100:=by show (1:Nat)≤100;decide
 have hr1:(fA1 n 1 (cX key 1)).recs.length≤100:=by show (1:Nat)≤100;decide
 have hon2:(tw2 n key).on.length≤100:=Nat.zero_le _
 generalize tw2 n key=W2 at *
 generalize tw3 n key=W3 at *
 generalize fA1 n 0 (cX key 0)=A0 at *
 generalize fA1 n 1 (cX key 1)=A1 at *
 show wpN Tryz.prog (.seq Xr (.seq Xp z7)) (ttQ m) E M
 generalize hT:z7=T7
 simp (disch:=omega) only [go_sem,undef,e2,e7,e8,e9,e10,e11,h2,h7,h8,h9,h10,h11]
 refine zW H (BQ (H.at 0 rfl) hV 0 WX hc0 hk0 (Nat.zero_le _) (by omega) (by omega) (by omega)) λu M A' hR f H=>?_
 refine hR.E λV2 eu hoV eA=>?_
 subst eu eA
 rw [he3] at H hoV
 refine Exists.elim h3k.2.1 λk1 hk1=>?_
 have hk1l:=hk1.2
 have hon3:=h3k.2.2
 simp (disch:=omega) only [go_sem,undef,e2,e7,e8,e9,e10,e11,h2,h7,h8,h9,h10,h11]
 refine zW H (BQ (H.at 0 rfl) hoV 1 WX h3k.1 hk1.1 (by omega) (by omega) (by omega) (by omega)) λu M A' hR f H=>?_
 refine hR.E λV3 eu hoV3 eA=>?_
 subst eu eA
 rw [he4] at H hoV3
 simp (disch:=omega) only [go_sem,undef,e2,e7,e8,e9,e10,e11,h2,h7,h8,h9,h10,h11]
 subst hT
 exact two_7 hl hx hk hoV3 hst (by omega) H rfl rfl rfl rfl rfl rfl rfl rfl rfl rfl rfl rfl
theorem ch3T(r:Int)(h0:0≤r)(h2:r≤2):∃ (k n:Nat),r=(k:Nat)∧k < 3∧([.int .i64 3,.int .i64 5,.int .i64 7]:List Value)[k]?=some (.int .i64 (n:Nat))∧(n=3∨n=5∨n=7):=by
 have:r=0∨r=1∨r=2:=by omega
 rcases this with rfl | rfl | rfl
 ·exact ⟨0,3,rfl,by decide,rfl,.inl rfl⟩
 ·exact ⟨1,5,rfl,by decide,rfl,.inr (.inl rfl)⟩
 ·exact ⟨2,7,rfl,by decide,rfl,.inr (.inr rfl)⟩
abbrev z4:NC:=.seq yq (.seq xf z6)
theorem qzf:Va=.seq bX (.seq bJ (.seq (.seq bZ (.cond (.qq 38) (.seq bQ .ret) .skip)) z4)):=rfl
theorem two_4{oa:Option Addr}{oc:Nat}{l:List Int}(hl:RdS 1 eN m (.slice oa l.length oc) l)(hx:∀ x∈l,I64 x)(hk:Key key)(h3:n=3∨n=5∨n=7)(hV:V.ok (Wd.fresh n))(H:Hq m M [] [wdA wb V (Wd.fresh n)])(e1:E.get 1=.string key)(e2:E.get 2=.slice oa l.length oc)(e7:E.get 7=lp wb)(h1:E.has 1=true)(h2:E.has 2=true)(h7:E.has 7=true) :
  wpN Tryz.prog z4 (ttQ m) E M:=by
 have hs:=(Xu n).put 0 (fA1 n 0 (cX key 0))
 have hc0:=(Xu n).get (k:=0) (by omega)
 have hc1:=hs.get (k:=1) (by omega)
 simp only [if_neg (show ¬ (1:Nat)=0 by decide)] at hc1
 show wpN Tryz.prog (.seq yq (.seq xf z6)) (ttQ m) E M
 rw [YX]
 refine qQc hk h3 hV hc0 H (λV b8 M E' hV g1 g2 g7 g8 g9 k1 k2 k7 k8 k9 H=>?_) e1 e2 e7 h1 h2 h7
 show wpN Tryz.prog (.seq xf z6) (ttQ m) E' M
 rw [YX]
 refine qQb hk h3 hV hc1 (H.perm (List.Perm.swap ..)) (λV b10 M E' hV g2 g7 g8 g9 g10 g11 k2 k7 k8 k9 k10 k11 H=>?_) g1 g2 g7 g8 g9 k1 k2 k7 k8 k9
 exact two_6 hl hx hk h3 hV (H.perm (List.Perm.swap ..)) g2 g7 g8 g9 g10 g11 k2 k7 k8 k9 k10 k11
theorem qqE(nn:Int)(key:ByteArray){v:Value}{l:List Int}(hn:R64 nn)(hkz:key.size≤maxLen)(m:Mem)(hl:RdS 1 eN m v l)(hx:∀ x∈l,R64 x):MC Tryz.prog ui [.int .i64 nn,.string key,v] m λu M=>u=.bool true∧Fr m M []:=by
 obtain ⟨a,c,rfl⟩:=hl.form
 refine si (by simp [Tryz.f33]) ?_
 rw [qzf]
 generalize hT:z4=T
 have H:=Hq.refl m []
 simp (disch:=omega) only [go_sem,undef]
 refine qg H λb3 M f H=>?_
 simp (disch:=omega) only [go_sem,undef,H.cs]
 refine PJ H (oG nn 0 2 (by decide) hn (by decide) (by decide)) λu M hR f H=>?_
 refine Exists.elim hR λr hr=>?_
 have eu:=hr.1
 subst eu
 refine Exists.elim (ch3T r hr.2.1 hr.2.2) λk hk=>Exists.elim hk λn hk=>?_
 have ek:=hk.1
 have hk3:=hk.2.1
 have hkn:=hk.2.2.1
 have hn357:=hk.2.2.2
 subst ek
 clear hk hr hR
 simp (disch:=omega) only [go_sem,undef,H.cs,hkn]
 refine yw H (qwn n hn357 _) λu M A' hR f H=>?_
 refine Exists.elim hR λwb hh=>Exists.elim hh λV hh=>?_
 have hV:=hh.1
 have eu:=hh.2.1
 have eA:=hh.2.2
 subst eu eA
 clear hh hR
 by_cases he:key=noB
 ·simp (disch:=omega) only [go_sem,undef,Option.isNone_some,Option.isSome_some,qZ he]
  refine qa H (nK _) λM f H=>?_
  simp (disch:=omega) only [go_sem,undef]
  exact ⟨rfl,H.fr⟩
 ·by_cases hz:key.size≤16
  ·simp (disch:=omega) only [go_sem,undef,Option.isNone_some,qX he,qX (show ¬ ((key.size:Nat):Int) > 16 by omega)]
   subst hT
   exact two_4 hl hx ⟨he,hz⟩ hn357 hV (H.sel 2 [0] rfl (by decide) (by decide)) rfl rfl rfl rfl rfl rfl
  ·simp (disch:=omega) only [go_sem,undef,Option.isNone_some,Option.isSome_some,qX he,qZ (show ((key.size:Nat):Int) > 16 by omega)]
   refine qa H (nK _) λM f H=>?_
   simp (disch:=omega) only [go_sem,undef]
   exact ⟨rfl,H.fr⟩
end Go.Fw
