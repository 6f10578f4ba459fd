import Derived.Test.YtimedjfpihdffaaGreatCpX
set_option linter.unusedVariables false
set_option linter.unusedSimpArgs false
set_option maxHeartbeats 16000000
namespace Go.Fw
open Go.Proofs
variable {m m0 M:Mem} {S:List Nat} {L:List As}
variable {cb:Nat} {Y:Ly} {C:Co}
theorem lay16(a b:Att):lay [.int .i64 0,.int .i64 0,.int .i64 0,.int .i64 0,.int .i64 0,.int .i64 0,.int .i64 0,.int .i64 0,.int .i64 0,.int .i64 0,.int .i64 0,.int .i64 0,.int .i64 0,.int .i64 0,.int .i64 0,.int .i64 0] [(0,8),(8,8)] [.agg a.cs.toArray,.agg b.cs.toArray]=some (a.cs++b.cs):=rfl
attribute [go_sem ↓] lay16
theorem YK{b:Nat}{x y:Att}{T:TypeId}(hb:m b=some (.cells (x.cs++y.cs).toArray T (0,0))):RdS 8 Att.cs m (.slice (some ⟨b,0,none⟩) 2 2) [x,y] :=
 ⟨Att.len,_,_,rfl,by simp,.inr ⟨b,0,rfl,λi v hv=>by
  rw [hb,JE,Nat.zero_add,List.getElem?_toArray];simpa using hv⟩⟩
def okL(x:Lt)(a:Att):Lt:={ Lt.zero with kind:=2,inst:=x.inst,bal:=x.bal,att:=a }
def Co.Rw(C:Co)(x:Lt)(a:Att):Co :=
 if xC a then
  if (C.set x.inst ⟨1,x.bal,x.bal,x.cmd,a,decide (x.bal=(0,0)∧a=x.att)⟩).2=true then (C.set x.inst ⟨1,x.bal,x.bal,x.cmd,a,decide (x.bal=(0,0)∧a=x.att)⟩).1.send x.src (okL x a)
  else (C.set x.inst ⟨1,x.bal,x.bal,x.cmd,a,decide (x.bal=(0,0)∧a=x.att)⟩).1
 else C
abbrev peA:NC:=.seq XE (.seq (.seq xn (.cond (.qq 68) .ret .skip)) (.seq xm xi))
theorem Tb{C0:Co}{Y0:Ly}{E:Env}{b5 b8 b9:Nat}{x:Lt}{a a0:Att}(ho:Y.ok C)(hrec:C.recs.length≤1000000)(hout:C.out.length≤999000)(H:Hq m M (coA cb Y0 C0).wp [qw b9 (.cells a.cs.toArray qb (0,0)),qw b8 (.cells (okL x a0).cs.toArray qv (0,0)),qw b5 (.cells x.cs.toArray qv (0,0)),coA cb Y C])(e0:E.get 0=lp cb)(e5:E.get 5=lp b5)(e8:E.get 8=lp b8)(e9:E.get 9=lp b9)(h0:E.has 0=true)(h5:E.has 5=true)(h8:E.has 8=true)(h9:E.has 9=true) :
  wpN Tryz.prog peA (vB [] λu M=>∃ A',CoR cb (C.Rw x a) (.tuple #[]) u A'∧A'.p M∧Fr m M (coA cb Y0 C0).wp∧(∀ b∈A'.fp,b∈(coA cb Y0 C0).fp∨m b=none)∧∀ b∈A'.wp,b∈(coA cb Y0 C0).wp∨m b=none) E M:=by
 have hsame:∃ s:Bool,s=decide (x.bal=(0,0)∧a=x.att):=⟨_,rfl⟩
 obtain ⟨s,hs⟩:=hsame
 by_cases hr:xC a
 ·have hp:C.Rw x a=if (C.set x.inst ⟨1,x.bal,x.bal,x.cmd,a,s⟩).2=true then (C.set x.inst ⟨1,x.bal,x.bal,x.cmd,a,s⟩).1.send x.src (okL x a) else (C.set x.inst ⟨1,x.bal,x.bal,x.cmd,a,s⟩).1:=by rw [hs];exact if_pos hr
  rw [hp]
  have hss:=wx C x.inst ⟨1,x.bal,x.bal,x.cmd,a,s⟩
  have key:∀ (E1:Env),E1.get 0=lp cb→E1.get 5=lp b5→E1.get 8=lp b8→E1.get 9=lp b9→E1.get 10=.bool s→E1.has 0=true→E1.has 5=true→E1.has 8=true→E1.has 9=true→E1.has 10=true →
    wpN Tryz.prog (.seq (.seq xn (.cond (.qq 68) .ret .skip)) (.seq xm xi)) (vB [] λu M=>∃ A',CoR cb (if (C.set x.inst ⟨1,x.bal,x.bal,x.cmd,a,s⟩).2=true then (C.set x.inst ⟨1,x.bal,x.bal,x.cmd,a,s⟩).1.send x.src (okL x a) else (C.set x.inst ⟨1,x.bal,x.bal,x.cmd,a,s⟩).1) (.tuple #[]) u A'∧A'.p M∧Fr m M (coA cb Y0 C0).wp∧(∀ b∈A'.fp,b∈(coA cb Y0 C0).fp∨m b=none)∧∀ b∈A'.wp,b∈(coA cb Y0 C0).wp∨m b=none) E1 M:=by
   intro E1 g0 g5 g8 g9 g10 k0 k5 k8 k9 k10
   simp (disch:=omega) only [go_sem,undef,g0,g5,g8,g9,g10,k0,k5,k8,k9,k10,H.cs]
   refine qa H (zl a _) λM f H=>?_
   simp (disch:=omega) only [go_sem,undef,g0,g5,g8,g9,g10,k0,k5,k8,k9,k10,H.cs,qZ hr,Bool.not_true]
   refine qU 3 H (XC (H.at 3 rfl) ho x.inst ⟨1,x.bal,x.bal,x.cmd,a,s⟩ hrec) rfl λu M A' hR f H=>?_
   refine hR.E λY1 eu ho1 eA=>?_
   subst eu eA
   clear hR hp
   generalize C.set x.inst ⟨1,x.bal,x.bal,x.cmd,a,s⟩=r at *
   obtain ⟨C1,ok⟩:=r
   have Hn:Hq m M (coA cb Y0 C0).wp [qw b9 (.cells a.cs.toArray qb (0,0)),qw b8 (.cells (okL x a0).cs.toArray qv (0,0)),qw b5 (.cells x.cs.toArray qv (0,0)),coA cb Y1 C1]:=H
   clear H
   cases ok with
   | true =>
    have H:=Hn
    simp (disch:=omega) only [go_sem,undef,g0,g5,g8,g9,g10,k0,k5,k8,k9,k10,H.cs,Bool.not_true]
    refine cK H (Nat.le_of_ble_eq_true rfl) rfl λM f H=>?_
    have H:Hq m M (coA cb Y0 C0).wp [qw b9 (.cells a.cs.toArray qb (0,0)),qw b8 (.cells (okL x a).cs.toArray qv (0,0)),qw b5 (.cells x.cs.toArray qv (0,0)),coA cb Y1 C1]:=H
    simp (disch:=omega) only [go_sem,undef,H.cs]
    refine qU 3 H (eW (H.at 3 rfl) ho1 x.src (okL x a) (Nat.le_trans (Nat.le_of_eq (congrArg List.length hss.2.2.1)) (Nat.le_trans hout (by decide)))) rfl λu M A' hR f H=>?_
    refine hR.E λY2 eu ho2 eA=>?_
    subst eu eA
    simp (disch:=omega) only [go_sem,undef]
    exact qS qu ho2 (H.tail.tail.tail)
   | false =>
    have H:=Hn
    simp (disch:=omega) only [go_sem,undef,g0,g5,g8,g9,g10,k0,k5,k8,k9,k10,H.cs,Bool.not_false]
    exact qS qu ho1 (H.tail.tail.tail)
  show wpN Tryz.prog (.seq XE (.seq (.seq xn (.cond (.qq 68) .ret .skip)) (.seq xm xi))) _ E M
  generalize hC:(NC.seq (.seq xn (.cond (.qq 68) .ret .skip)) (.seq xm xi))=T at *
  by_cases hb:x.bal=(0,0)
  ·simp (disch:=omega) only [go_sem,undef,e0,e5,e8,e9,h0,h5,h8,h9,H.cs,qZ hb]
   exact key _ rfl rfl rfl rfl (by rw [hs];simp [hb,Env.get]) rfl rfl rfl rfl rfl
  ·simp (disch:=omega) only [go_sem,undef,e0,e5,e8,e9,h0,h5,h8,h9,H.cs,qX hb]
   exact key _ rfl rfl rfl rfl (by rw [hs];simp [hb,Env.get]) rfl rfl rfl rfl rfl
 ·have hp:C.Rw x a=C:=if_neg hr
  rw [hp]
  by_cases hb:x.bal=(0,0)
  ·simp (disch:=omega) only [go_sem,undef,e0,e5,e8,e9,h0,h5,h8,h9,H.cs,qZ hb]
   refine qa H (zl a _) λM f H=>?_
   simp (disch:=omega) only [go_sem,undef,e0,e5,e8,e9,h0,h5,h8,h9,H.cs,qX hr,Bool.not_false]
   exact qS qu ho (H.tail.tail.tail)
  ·simp (disch:=omega) only [go_sem,undef,e0,e5,e8,e9,h0,h5,h8,h9,H.cs,qX hb]
   refine qa H (zl a _) λM f H=>?_
   simp (disch:=omega) only [go_sem,undef,e0,e5,e8,e9,h0,h5,h8,h9,H.cs,qX hr,Bool.not_false]
   exact qS qu ho (H.tail.tail.tail)
end Go.Fw
namespace Go.Fw
open Go.Proofs
variable {m m0 M:Mem} {S:List Nat} {L:List As}
variable {cb:Nat} {Y:Ly} {C:Co}
def Co.pre(C:Co)(x:Lt)(c:Cel)(own:Bool):Co:=if own=true then (if c.st=1 then C.send x.src (okL x c.att) else C) else C.Rw x (zG x.att (zp C.xcut C.xl x.inst x.cmd))
theorem qjs:Vb=.seq bA (.seq bu (.seq (.seq br (.cond (.qq 18) (.seq (.seq bp (.cond (.qq 21) bo .skip)) .ret) .skip)) (.seq bm peA))):=rfl
theorem Sk(h:(coA cb Y C).p m)(ho:Y.ok C)(x:Lt)(c:Cel)(own:Bool)(hxl:Qe C.xl)(hkey:x.cmd.key.size≤1000)(hrec:C.recs.length≤1000000)(hout:C.out.length≤999000) :
  CM Tryz.prog um [lp cb,x.v,c.v,.bool own] m (coA cb Y C) (CoR cb (C.pre x c own) (.tuple #[])):=by
 have H:=Hq.one h
 cases own with
 | true =>
  have hp:C.pre x c true=if c.st=1 then C.send x.src (okL x c.att) else C:=rfl
  rw [hp]
  refine bB (by simp [Tryz.f33]) ?_
  simp (disch:=omega) only [go_sem,undef]
  refine qg H λb5 M f H=>?_
  simp (disch:=omega) only [go_sem,undef]
  refine qg H λb6 M f H=>?_
  simp (disch:=omega) only [go_sem,undef,H.cs]
  refine qg H λb8 M f H=>?_
  simp (disch:=omega) only [go_sem,undef,H.cs]
  refine qs H rfl rfl λM f H=>?_
  have H:Hq m M (coA cb Y C).wp [qw b8 (.cells (okL x c.att).cs.toArray qv (0,0)),qw b6 (.cells c.cs.toArray qc (0,0)),qw b5 (.cells x.cs.toArray qv (0,0)),coA cb Y C]:=H
  by_cases hs:c.st=1
  ·rw [if_pos hs]
   simp (disch:=omega) only [go_sem,undef,H.cs,qZ hs]
   refine qU 3 H (eW (H.at 3 rfl) ho x.src (okL x c.att) (by omega)) rfl λu M A' hR f H=>?_
   refine hR.E λY2 eu ho2 eA=>?_
   subst eu eA
   simp (disch:=omega) only [go_sem,undef]
   exact qS qu ho2 (H.tail.tail.tail)
  ·rw [if_neg hs]
   simp (disch:=omega) only [go_sem,undef,H.cs,qX hs]
   exact qS qu ho (H.tail.tail.tail)
 | false =>
  have hp:C.pre x c false=C.Rw x (zG x.att (zp C.xcut C.xl x.inst x.cmd)):=rfl
  rw [hp]
  refine bB (by simp [Tryz.f33]) ?_
  rw [qjs]
  generalize hC:peA=T
  simp (disch:=omega) only [go_sem,undef]
  refine qg H λb5 M f H=>?_
  simp (disch:=omega) only [go_sem,undef]
  refine qg H λb6 M f H=>?_
  simp (disch:=omega) only [go_sem,undef,H.cs]
  refine qg H λb8 M f H=>?_
  simp (disch:=omega) only [go_sem,undef,H.cs]
  refine qs H rfl rfl λM f H=>?_
  have H:Hq m M (coA cb Y C).wp [qw b8 (.cells (okL x c.att).cs.toArray qv (0,0)),qw b6 (.cells c.cs.toArray qc (0,0)),qw b5 (.cells x.cs.toArray qv (0,0)),coA cb Y C]:=H
  simp (disch:=omega) only [go_sem,undef,H.cs,qy (H.at 3 rfl),Ly.c]
  refine qp ?_ ?_
  ·simp (disch:=omega) only [go_sem,undef,H.cs,qy (H.at 3 rfl),Ly.c]
   refine qa H (tr (tm (H.at 3 rfl)) hxl x.inst x.cmd hkey) λM f H=>?_
   simp (disch:=omega) only [go_sem,undef,H.cs,qy (H.at 3 rfl),Ly.c]
   refine qp ?_ ?_
   ·simp (disch:=omega) only [go_sem,undef,H.cs,qy (H.at 3 rfl),Ly.c]
    refine qg H λb11 M f H=>?_
    simp (disch:=omega) only [go_sem,undef,H.cs,qy (H.at 4 rfl),Ly.c]
    refine qp ?_ ?_
    ·simp (disch:=omega) only [go_sem,undef,H.cs,qy (H.at 4 rfl),Ly.c]
     refine qa H (cD (l:=[x.att,zp C.xcut C.xl x.inst x.cmd]) (n:=2) rfl (YK H.cs.1) (by decide) (by decide)) λM f H=>?_
     simp (disch:=omega) only [go_sem,undef,H.cs,qy (H.at 4 rfl),Ly.c]
     refine qg H λb9 M f H=>?_
     simp (disch:=omega) only [go_sem,undef,H.cs,qy (H.at 5 rfl),Ly.c]
     refine qs H rfl rfl λM f H=>?_
     have H:Hq m M (coA cb Y C).wp [qw b9 (.cells (zG x.att (zp C.xcut C.xl x.inst x.cmd)).cs.toArray qb (0,0)),qw b8 (.cells (okL x c.att).cs.toArray qv (0,0)),qw b5 (.cells x.cs.toArray qv (0,0)),coA cb Y C]:=H.sel 6 [0,2,4,5] rfl (by decide) (by decide)
     simp (disch:=omega) only [go_sem,undef]
     subst hC
     exact Tb ho hrec hout H rfl rfl rfl rfl rfl rfl rfl rfl
    ·simp (disch:=omega) only [go_sem,undef,H.cs,qy (H.at 4 rfl),Ly.c]
     refine qg H λb9 M f H=>?_
     simp (disch:=omega) only [go_sem,undef,H.cs,qy (H.at 5 rfl),Ly.c]
     refine qa H (cD (l:=[x.att,zp C.xcut C.xl x.inst x.cmd]) (n:=2) rfl (YK H.cs.2.1) (by decide) (by decide)) λM f H=>?_
     simp (disch:=omega) only [go_sem,undef,H.cs,qy (H.at 5 rfl),Ly.c]
     refine qs H rfl rfl λM f H=>?_
     have H:Hq m M (coA cb Y C).wp [qw b9 (.cells (zG x.att (zp C.xcut C.xl x.inst x.cmd)).cs.toArray qb (0,0)),qw b8 (.cells (okL x c.att).cs.toArray qv (0,0)),qw b5 (.cells x.cs.toArray qv (0,0)),coA cb Y C]:=H.sel 6 [0,2,4,5] rfl (by decide) (by decide)
     simp (disch:=omega) only [go_sem,undef]
     subst hC
     exact Tb ho hrec hout H rfl rfl rfl rfl rfl rfl rfl rfl
   ·simp (disch:=omega) only [go_sem,undef,H.cs,qy (H.at 3 rfl),Ly.c]
    refine qg H λb9 M f H=>?_
    simp (disch:=omega) only [go_sem,undef,H.cs,qy (H.at 4 rfl),Ly.c]
    refine qg H λb11 M f H=>?_
    simp (disch:=omega) only [go_sem,undef,H.cs,qy (H.at 5 rfl),Ly.c]
    refine qa H (cD (l:=[x.att,zp C.xcut C.xl x.inst x.cmd]) (n:=2) rfl (YK H.cs.1) (by decide) (by decide)) λM f H=>?_
    simp (disch:=omega) only [go_sem,undef,H.cs,qy (H.at 5 rfl),Ly.c]
    refine zA H rfl rfl λM f H=>?_
    have H:Hq m M (coA cb Y C).wp [qw b9 (.cells (zG x.att (zp C.xcut C.xl x.inst x.cmd)).cs.toArray qb (0,0)),qw b8 (.cells (okL x c.att).cs.toArray qv (0,0)),qw b5 (.cells x.cs.toArray qv (0,0)),coA cb Y C]:=H.sel 6 [1,2,4,5] rfl (by decide) (by decide)
    simp (disch:=omega) only [go_sem,undef]
    subst hC
    exact Tb ho hrec hout H rfl rfl rfl rfl rfl rfl rfl rfl
  ·simp (disch:=omega) only [go_sem,undef,H.cs,qy (H.at 3 rfl),Ly.c]
   refine qg H λb9 M f H=>?_
   simp (disch:=omega) only [go_sem,undef,H.cs,qy (H.at 4 rfl),Ly.c]
   refine qa H (tr (tm (H.at 4 rfl)) hxl x.inst x.cmd hkey) λM f H=>?_
   simp (disch:=omega) only [go_sem,undef,H.cs,qy (H.at 4 rfl),Ly.c]
   refine qg H λb11 M f H=>?_
   simp (disch:=omega) only [go_sem,undef,H.cs,qy (H.at 5 rfl),Ly.c]
   refine qa H (cD (l:=[x.att,zp C.xcut C.xl x.inst x.cmd]) (n:=2) rfl (YK H.cs.1) (by decide) (by decide)) λM f H=>?_
   simp (disch:=omega) only [go_sem,undef,H.cs,qy (H.at 5 rfl),Ly.c]
   refine zA H rfl rfl λM f H=>?_
   have H:Hq m M (coA cb Y C).wp [qw b9 (.cells (zG x.att (zp C.xcut C.xl x.inst x.cmd)).cs.toArray qb (0,0)),qw b8 (.cells (okL x c.att).cs.toArray qv (0,0)),qw b5 (.cells x.cs.toArray qv (0,0)),coA cb Y C]:=H.sel 6 [1,2,4,5] rfl (by decide) (by decide)
   simp (disch:=omega) only [go_sem,undef]
   subst hC
   exact Tb ho hrec hout H rfl rfl rfl rfl rfl rfl rfl rfl
end Go.Fw
namespace Go.Fw
open Go.Proofs
variable {m m0 M:Mem} {S:List Nat} {L:List As}
variable {cb:Nat} {Y:Ly} {C:Co}
def Gh(x:Lt):Lt:={ Lt.zero with kind:=4,inst:=x.inst,bal:=x.bal }
def qqz(x:Lt)(c:Cel):Lt:={ Lt.zero with kind:=7,inst:=x.inst,bal:=x.bal,cel:=c }
def Co.Pd(C:Co)(x:Lt)(done:Bool):Co :=
 if done=true then C.send x.src (Gh x) else
 if (C.set x.inst ⟨2,x.bal,x.bal,x.cmd,x.att,false⟩).2=true then (C.set x.inst ⟨2,x.bal,x.bal,x.cmd,x.att,false⟩).1.send x.src (Gh x) else (C.set x.inst ⟨2,x.bal,x.bal,x.cmd,x.att,false⟩).1
def Co.qqj(C:Co)(x:Lt)(c:Cel):Co :=
 if c.pr=x.bal then C.send x.src (qqz x c) else
 if (C.set x.inst { c with pr:=x.bal }).2=true then (C.set x.inst { c with pr:=x.bal }).1.send x.src (qqz x { c with pr:=x.bal }) else (C.set x.inst { c with pr:=x.bal }).1
def Co.cP(C:Co)(x:Lt)(c:Cel)(own:Bool):Co :=
 if x.kind=1 then C.pre x c own else if x.kind=3 then C.Pd x (own && decide (c.st=2)) else if x.kind=6 then C.qqj x c else C
abbrev akA:NC:=.seq yU (.block 0 (.seq yT (.cond (.qq 78) yS (.seq yR (.cond (.qq 85) (.seq yP (.seq je (.cond (.qq 108) jd .skip))) (.seq yO (.cond (.qq 118) (.seq (.seq yN (.cond (.qq 124) (.seq yM (.seq yL (.cond (.qq 133) .ret .skip))) .skip)) yI) .skip)))))))
theorem Mq{C0:Co}{Y0:Ly}{E:Env}{b3 b4:Nat}{x:Lt}{c:Cel}{own:Bool}(ho:Y.ok C)(hxl:Qe C.xl)(hkey:x.cmd.key.size≤1000)(hrec:C.recs.length≤1000000)(hout:C.out.length≤999000)(H:Hq m M (coA cb Y0 C0).wp [qw b4 (.cells c.cs.toArray qc (0,0)),qw b3 (.cells x.cs.toArray qv (0,0)),coA cb Y C])(e0:E.get 0=lp cb)(e3:E.get 3=lp b3)(e4:E.get 4=lp b4)(e7:E.get 7=.bool own)(h0:E.has 0=true)(h3:E.has 3=true)(h4:E.has 4=true)(h7:E.has 7=true) :
  wpN Tryz.prog akA (vB [] λu M=>∃ A',CoR cb (C.cP x c own) (.tuple #[]) u A'∧A'.p M∧Fr m M (coA cb Y0 C0).wp∧(∀ b∈A'.fp,b∈(coA cb Y0 C0).fp∨m b=none)∧∀ b∈A'.wp,b∈(coA cb Y0 C0).wp∨m b=none) E M:=by
 by_cases k1:x.kind=1
 ·have hp:C.cP x c own=C.pre x c own:=if_pos k1
  rw [hp]
  simp (disch:=omega) only [go_sem,undef,e0,e3,e4,e7,h0,h3,h4,h7,H.cs,qZ k1]
  refine qU 2 H (Sk (H.at 2 rfl) ho x c own hxl hkey hrec hout) rfl λu M A' hR f H=>?_
  refine hR.E λY2 eu ho2 eA=>?_
  subst eu eA
  simp (disch:=omega) only [go_sem,undef]
  exact qS qu ho2 (H.tail.tail)
 by_cases k3:x.kind=3
 ·have hp:C.cP x c own=C.Pd x (own && decide (c.st=2)):=by unfold Co.cP;rw [if_neg k1,if_pos k3]
  rw [hp]
  have hss:=wx C x.inst ⟨2,x.bal,x.bal,x.cmd,x.att,false⟩
  have hpick:∃ d:Bool,d=(own && decide (c.st=2)):=⟨_,rfl⟩
  obtain ⟨d,hd⟩:=hpick
  rw [← hd]
  cases d with
  | true =>
   have hd2:=Bool.and_eq_true_iff.1 hd.symm
   have hst:c.st=2:=of_decide_eq_true hd2.2
   have hown:=hd2.1
   subst hown
   have ha:C.Pd x true=C.send x.src (Gh x):=rfl
   rw [ha]
   simp (disch:=omega) only [go_sem,undef,e0,e3,e4,e7,h0,h3,h4,h7,H.cs,qX k1,qZ k3,qZ hst]
   refine qU 2 H (eW (H.at 2 rfl) ho x.src (Gh x) (by omega)) rfl λu M A' hR f H=>?_
   refine hR.E λY2 eu ho2 eA=>?_
   subst eu eA
   simp (disch:=omega) only [go_sem,undef]
   exact qS qu ho2 (H.tail.tail)
  | false =>
   have ha:C.Pd x false=if (C.set x.inst ⟨2,x.bal,x.bal,x.cmd,x.att,false⟩).2=true then (C.set x.inst ⟨2,x.bal,x.bal,x.cmd,x.att,false⟩).1.send x.src (Gh x) else (C.set x.inst ⟨2,x.bal,x.bal,x.cmd,x.att,false⟩).1:=rfl
   rw [ha]
   have key:∀ (E1:Env),E1.get 0=lp cb→E1.get 3=lp b3→E1.get 8=.bool false→E1.has 0=true→E1.has 3=true→E1.has 8=true →
     wpN Tryz.prog (.seq je (.cond (.qq 108) jd .skip)) (aI 0 (vB [] λu M=>∃ A',CoR cb (if (C.set x.inst ⟨2,x.bal,x.bal,x.cmd,x.att,false⟩).2=true then (C.set x.inst ⟨2,x.bal,x.bal,x.cmd,x.att,false⟩).1.send x.src (Gh x) else (C.set x.inst ⟨2,x.bal,x.bal,x.cmd,x.att,false⟩).1) (.tuple #[]) u A'∧A'.p M∧Fr m M (coA cb Y0 C0).wp∧(∀ b∈A'.fp,b∈(coA cb Y0 C0).fp∨m b=none)∧∀ b∈A'.wp,b∈(coA cb Y0 C0).wp∨m b=none)) E1 M:=by
    intro E1 g0 g3 g8 i0 i3 i8
    simp (disch:=omega) only [go_sem,undef,g0,g3,g8,i0,i3,i8,H.cs]
    refine qU 2 H (XC (H.at 2 rfl) ho x.inst ⟨2,x.bal,x.bal,x.cmd,x.att,false⟩ hrec) rfl λu M A' hR f H=>?_
    refine hR.E λY1 eu ho1 eA=>?_
    subst eu eA
    clear hR ha hp
    generalize C.set x.inst ⟨2,x.bal,x.bal,x.cmd,x.att,false⟩=r at *
    obtain ⟨C1,ok⟩:=r
    have Hn:Hq m M (coA cb Y0 C0).wp [qw b4 (.cells c.cs.toArray qc (0,0)),qw b3 (.cells x.cs.toArray qv (0,0)),coA cb Y1 C1]:=H
    clear H
    cases ok with
    | true =>
     have H:=Hn
     simp (disch:=omega) only [go_sem,undef,g0,g3,g8,i0,i3,i8,H.cs]
     refine qU 2 H (eW (H.at 2 rfl) ho1 x.src (Gh x) (Nat.le_trans (Nat.le_of_eq (congrArg List.length hss.2.2.1)) (Nat.le_trans hout (by decide)))) rfl λu M A' hR f H=>?_
     refine hR.E λY2 eu ho2 eA=>?_
     subst eu eA
     simp (disch:=omega) only [go_sem,undef]
     exact qS qu ho2 (H.tail.tail)
    | false =>
     have H:=Hn
     simp (disch:=omega) only [go_sem,undef,g0,g3,g8,i0,i3,i8,H.cs]
     exact qS qu ho1 (H.tail.tail)
   show wpN Tryz.prog (.seq yU (.block 0 (.seq yT (.cond (.qq 78) yS (.seq yR (.cond (.qq 85) (.seq yP (.seq je (.cond (.qq 108) jd .skip))) (.seq yO (.cond (.qq 118) (.seq (.seq yN (.cond (.qq 124) (.seq yM (.seq yL (.cond (.qq 133) .ret .skip))) .skip)) yI) .skip)))))))) _ E M
   generalize hC:(NC.seq je (.cond (.qq 108) jd .skip))=T at *
   cases own with
   | true =>
    have hst:¬ c.st=2:=λh=>by rw [decide_eq_true h] at hd;cases hd
    simp (disch:=omega) only [go_sem,undef,e0,e3,e4,e7,h0,h3,h4,h7,H.cs,qX k1,qZ k3,qX hst]
    exact key _ rfl rfl rfl rfl rfl rfl
   | false =>
    simp (disch:=omega) only [go_sem,undef,e0,e3,e4,e7,h0,h3,h4,h7,H.cs,qX k1,qZ k3]
    exact key _ rfl rfl rfl rfl rfl rfl
 by_cases k6:x.kind=6
 ·have hp:C.cP x c own=C.qqj x c:=by unfold Co.cP;rw [if_neg k1,if_neg k3,if_pos k6]
  rw [hp]
  by_cases hpb:c.pr=x.bal
  ·have ha:C.qqj x c=C.send x.src (qqz x c):=if_pos hpb
   rw [ha]
   simp (disch:=omega) only [go_sem,undef,e0,e3,e4,e7,h0,h3,h4,h7,H.cs,qX k1,qX k3,qZ k6,qZ hpb,Bool.not_true]
   refine qU 2 H (eW (H.at 2 rfl) ho x.src (qqz x c) (by omega)) rfl λu M A' hR f H=>?_
   refine hR.E λY2 eu ho2 eA=>?_
   subst eu eA
   simp (disch:=omega) only [go_sem,undef]
   exact qS qu ho2 (H.tail.tail)
  ·have ha:C.qqj x c=if (C.set x.inst { c with pr:=x.bal }).2=true then (C.set x.inst { c with pr:=x.bal }).1.send x.src (qqz x { c with pr:=x.bal }) else (C.set x.inst { c with pr:=x.bal }).1:=if_neg hpb
   rw [ha]
   have hss:=wx C x.inst { c with pr:=x.bal }
   simp (disch:=omega) only [go_sem,undef,e0,e3,e4,e7,h0,h3,h4,h7,H.cs,qX k1,qX k3,qZ k6,qX hpb,Bool.not_false]
   refine cV H (Nat.le_of_ble_eq_true rfl) rfl λM f H=>?_
   have H:Hq m M (coA cb Y0 C0).wp [qw b4 (.cells ({ c with pr:=x.bal }:Cel).cs.toArray qc (0,0)),qw b3 (.cells x.cs.toArray qv (0,0)),coA cb Y C]:=H
   simp (disch:=omega) only [go_sem,undef,H.cs]
   refine qU 2 H (XC (H.at 2 rfl) ho x.inst { c with pr:=x.bal } hrec) rfl λu M A' hR f H=>?_
   refine hR.E λY1 eu ho1 eA=>?_
   subst eu eA
   clear hR ha hp
   generalize C.set x.inst { c with pr:=x.bal }=r at *
   obtain ⟨C1,ok⟩:=r
   have Hn:Hq m M (coA cb Y0 C0).wp [qw b4 (.cells ({ c with pr:=x.bal }:Cel).cs.toArray qc (0,0)),qw b3 (.cells x.cs.toArray qv (0,0)),coA cb Y1 C1]:=H
   clear H
   cases ok with
   | true =>
    have H:=Hn
    simp (disch:=omega) only [go_sem,undef,H.cs,Bool.not_true]
    refine qU 2 H (eW (H.at 2 rfl) ho1 x.src (qqz x { c with pr:=x.bal }) (Nat.le_trans (Nat.le_of_eq (congrArg List.length hss.2.2.1)) (Nat.le_trans hout (by decide)))) rfl λu M A' hR f H=>?_
    refine hR.E λY2 eu ho2 eA=>?_
    subst eu eA
    simp (disch:=omega) only [go_sem,undef]
    exact qS qu ho2 (H.tail.tail)
   | false =>
    have H:=Hn
    simp (disch:=omega) only [go_sem,undef,H.cs,Bool.not_false]
    exact qS qu ho1 (H.tail.tail)
 ·have hp:C.cP x c own=C:=by unfold Co.cP;rw [if_neg k1,if_neg k3,if_neg k6]
  rw [hp]
  simp (disch:=omega) only [go_sem,undef,e0,e3,e4,e7,h0,h3,h4,h7,H.cs,qX k1,qX k3,qX k6]
  exact qS qu ho (H.tail.tail)
end Go.Fw
namespace Go.Fw
open Go.Proofs
variable {m m0 M:Mem} {S:List Nat} {L:List As}
variable {cb:Nat} {Y:Ly} {C:Co}
theorem GG(b:Nat):rd (.eqp true) [lp b,.pointer none] m=some (.bool true):=rfl
theorem GH:rd (.eqp true) [.pointer none,.pointer none] m=some (.bool false):=rfl
def Ci(x:Lt)(c:Cel):Bool:=decide (c.st≠0∧c.vo=x.bal)
theorem LU{C0:Co}{Y0:Ly}{E:Env}{b3 b4:Nat}{x:Lt}{c:Cel}(ho:Y.ok C)(hxl:Qe C.xl)(hkey:x.cmd.key.size≤1000)(hrec:C.recs.length≤1000000)(hout:C.out.length≤999000)(H:Hq m M (coA cb Y0 C0).wp [qw b4 (.cells c.cs.toArray qc (0,0)),qw b3 (.cells x.cs.toArray qv (0,0)),coA cb Y C])(e0:E.get 0=lp cb)(e3:E.get 3=lp b3)(e4:E.get 4=lp b4)(h0:E.has 0=true)(h3:E.has 3=true)(h4:E.has 4=true) :
  wpN Tryz.prog (.seq jB akA) (vB [] λu M=>∃ A',CoR cb (C.cP x c (Ci x c)) (.tuple #[]) u A'∧A'.p M∧Fr m M (coA cb Y0 C0).wp∧(∀ b∈A'.fp,b∈(coA cb Y0 C0).fp∨m b=none)∧∀ b∈A'.wp,b∈(coA cb Y0 C0).wp∨m b=none) E M:=by
 generalize hC:akA=T
 by_cases h1:c.st≠0
 ·by_cases h2:c.vo=x.bal
  ·have hw:Ci x c=true:=decide_eq_true ⟨h1,h2⟩
   rw [hw]
   simp (disch:=omega) only [go_sem,undef,e0,e3,e4,h0,h3,h4,H.cs,qZ h1,qZ h2]
   subst hC
   exact Mq ho hxl hkey hrec hout H rfl rfl rfl rfl rfl rfl rfl rfl
  ·have hw:Ci x c=false:=decide_eq_false λh=>h2 h.2
   rw [hw]
   simp (disch:=omega) only [go_sem,undef,e0,e3,e4,h0,h3,h4,H.cs,qZ h1,qX h2]
   subst hC
   exact Mq ho hxl hkey hrec hout H rfl rfl rfl rfl rfl rfl rfl rfl
 ·have hw:Ci x c=false:=decide_eq_false λh=>h1 h.1
  rw [hw]
  simp (disch:=omega) only [go_sem,undef,e0,e3,e4,h0,h3,h4,H.cs,qX h1]
  subst hC
  exact Mq ho hxl hkey hrec hout H rfl rfl rfl rfl rfl rfl rfl rfl
def Co.lD(C:Co)(i b:Int×Int):Co:=match fdL i C.leads with
 | some j=>match C.leads[j]? with
  | some l=>if lt2 l.bal b then C.zk i else C
  | none=>C
 | none=>C
def Co.Gg(C:Co)(x:Lt)(c:Cel):Co :=
 if c.st=3 then C.send x.src { Lt.zero with kind:=5,inst:=x.inst,cmd:=c.cmd,att:=c.att } else
 if lt2 x.bal c.pr then C.send x.src { Lt.zero with kind:=8,inst:=x.inst,bal:=c.pr } else
 (C.lD x.inst x.bal).cP x c (Ci x c)
abbrev akB:NC:=.seq (.seq Zf (.cond (.qq 21) (.seq Ze .ret) .skip)) (.seq (.seq Zd (.cond (.qq 37) (.seq Zc .ret) .skip)) (.seq (.seq Zb (.seq Za (.cond (.qq 61) ZY .skip))) (.seq jB akA)))
theorem Uw{C0:Co}{Y0:Ly}{E:Env}{b3 b4:Nat}{x:Lt}{c:Cel}(ho:Y.ok C)(hxl:Qe C.xl)(hkey:x.cmd.key.size≤1000)(hrec:C.recs.length≤1000000)(hn:C.leads.length≤100000)(hout:C.out.length≤999000)(H:Hq m M (coA cb Y0 C0).wp [qw b4 (.cells c.cs.toArray qc (0,0)),qw b3 (.cells x.cs.toArray qv (0,0)),coA cb Y C])(e0:E.get 0=lp cb)(e3:E.get 3=lp b3)(e4:E.get 4=lp b4)(h0:E.has 0=true)(h3:E.has 3=true)(h4:E.has 4=true) :
  wpN Tryz.prog akB (vB [] λu M=>∃ A',CoR cb (C.Gg x c) (.tuple #[]) u A'∧A'.p M∧Fr m M (coA cb Y0 C0).wp∧(∀ b∈A'.fp,b∈(coA cb Y0 C0).fp∨m b=none)∧∀ b∈A'.wp,b∈(coA cb Y0 C0).wp∨m b=none) E M:=by
 by_cases hs:c.st=3
 ·have hp:C.Gg x c=C.send x.src { Lt.zero with kind:=5,inst:=x.inst,cmd:=c.cmd,att:=c.att }:=if_pos hs
  rw [hp]
  simp (disch:=omega) only [go_sem,undef,e0,e3,e4,h0,h3,h4,H.cs,qZ hs]
  refine qU 2 H (eW (H.at 2 rfl) ho x.src { Lt.zero with kind:=5,inst:=x.inst,cmd:=c.cmd,att:=c.att } (by omega)) rfl λu M A' hR f H=>?_
  refine hR.E λY2 eu ho2 eA=>?_
  subst eu eA
  simp (disch:=omega) only [go_sem,undef]
  exact qS qu ho2 (H.tail.tail)
 by_cases hb:lt2 x.bal c.pr
 ·have hp:C.Gg x c=C.send x.src { Lt.zero with kind:=8,inst:=x.inst,bal:=c.pr }:=by unfold Co.Gg;rw [if_neg hs,if_pos hb]
  rw [hp]
  simp (disch:=omega) only [go_sem,undef,e0,e3,e4,h0,h3,h4,H.cs,qX hs]
  refine qa H (zi x.bal c.pr _) λM f H=>?_
  simp (disch:=omega) only [go_sem,undef,e0,e3,e4,h0,h3,h4,H.cs,qZ hb]
  refine qU 2 H (eW (H.at 2 rfl) ho x.src { Lt.zero with kind:=8,inst:=x.inst,bal:=c.pr } (by omega)) rfl λu M A' hR f H=>?_
  refine hR.E λY2 eu ho2 eA=>?_
  subst eu eA
  simp (disch:=omega) only [go_sem,undef]
  exact qS qu ho2 (H.tail.tail)
 have hp:C.Gg x c=(C.lD x.inst x.bal).cP x c (Ci x c):=by unfold Co.Gg;rw [if_neg hs,if_neg hb]
 rw [hp]
 have hyd:C.lD x.inst x.bal=match fdL x.inst C.leads with
  | some j=>match C.leads[j]? with
   | some l=>if lt2 l.bal x.bal then C.zk x.inst else C
   | none=>C
  | none=>C:=rfl
 show wpN Tryz.prog (.seq (.seq Zf (.cond (.qq 21) (.seq Ze .ret) .skip)) (.seq (.seq Zd (.cond (.qq 37) (.seq Zc .ret) .skip)) (.seq (.seq Zb (.seq Za (.cond (.qq 61) ZY .skip))) (.seq jB akA)))) _ E M
 generalize hC:(NC.seq jB akA)=T
 simp (disch:=omega) only [go_sem,undef,e0,e3,e4,h0,h3,h4,H.cs,qX hs]
 refine qa H (zi x.bal c.pr _) λM f H=>?_
 simp (disch:=omega) only [go_sem,undef,e0,e3,e4,h0,h3,h4,H.cs,qX hb]
 refine qa H (XA (H.at 2 rfl) ho x.inst (by omega)) λM f H=>?_
 cases hfd:fdL x.inst C.leads with
 | none =>
  rw [hfd] at hyd
  simp only at hyd
  rw [hyd]
  have hpt:ptO Y.lds none=.pointer none:=rfl
  simp (disch:=omega) only [go_sem,undef,e0,e3,e4,h0,h3,h4,H.cs,hpt,GH]
  subst hC
  exact LU ho hxl hkey hrec hout H rfl rfl rfl rfl rfl rfl
 | some j =>
  rw [hfd] at hyd
  have hjl:j < C.leads.length:=by
   unfold fdL at hfd
   rw [List.findIdx?_eq_some_iff_getElem] at hfd
   exact hfd.1
  have hlen:=ho.lds
  refine Exists.elim (⟨C.leads[j],List.getElem?_eq_getElem hjl⟩:∃ l,C.leads[j]?=some l) λl hl=>?_
  refine Exists.elim (⟨Y.lds[j]'(by omega),List.getElem?_eq_getElem (by omega)⟩:∃ v,Y.lds[j]?=some v) λv hv=>?_
  simp only [hl] at hyd
  have hpt:ptO Y.lds (some j)=lp v.b:=by simp [ptO,hv]
  have hcl:=qT (zy (zV (H.at 2 rfl)) hv hl)
  by_cases hlb:lt2 l.bal x.bal
  ·rw [if_pos hlb] at hyd
   rw [hyd]
   simp (disch:=omega) only [go_sem,undef,e0,e3,e4,h0,h3,h4,H.cs,hpt,GG,hcl,Ld.c]
   refine qa H (zi l.bal x.bal _) λM f H=>?_
   simp (disch:=omega) only [go_sem,undef,e0,e3,e4,h0,h3,h4,H.cs,qZ hlb]
   refine qU 2 H (Je (H.at 2 rfl) ho x.inst (by omega)) rfl λu M A' hR f H=>?_
   refine hR.E λY1 eu ho1 eA=>?_
   subst eu eA
   have H:Hq m M (coA cb Y0 C0).wp [qw b4 (.cells c.cs.toArray qc (0,0)),qw b3 (.cells x.cs.toArray qv (0,0)),coA cb Y1 (C.zk x.inst)]:=H
   simp (disch:=omega) only [go_sem,undef]
   subst hC
   exact LU ho1 hxl hkey hrec hout H rfl rfl rfl rfl rfl rfl
  ·rw [if_neg hlb] at hyd
   rw [hyd]
   simp (disch:=omega) only [go_sem,undef,e0,e3,e4,h0,h3,h4,H.cs,hpt,GG,hcl,Ld.c]
   refine qa H (zi l.bal x.bal _) λM f H=>?_
   simp (disch:=omega) only [go_sem,undef,e0,e3,e4,h0,h3,h4,H.cs,qX hlb]
   subst hC
   exact LU ho hxl hkey hrec hout H rfl rfl rfl rfl rfl rfl
def Co.asked(C:Co)(x:Lt):Co:=C.Gg x ((lkC x.inst C.lg).getD Cel.zero)
theorem SB:Ji=.seq WM (.seq WI akB):=rfl
theorem Li(h:(coA cb Y C).p m)(ho:Y.ok C)(x:Lt)(hxl:Qe C.xl)(hkey:x.cmd.key.size≤1000)(hrec:C.recs.length≤1000000)(hn:C.leads.length≤100000)(hout:C.out.length≤999000) :
  CM Tryz.prog oz [lp cb,x.v] m (coA cb Y C) (CoR cb (C.asked x) (.tuple #[])):=by
 have H:=Hq.one h
 refine nj (by simp [Tryz.f33]) ?_
 rw [SB]
 generalize hC:akB=T
 simp (disch:=omega) only [go_sem,undef]
 refine qg H λb3 M f H=>?_
 simp (disch:=omega) only [go_sem,undef,H.cs,qy (H.at 1 rfl),Ly.c]
 refine qp ?_ ?_
 ·simp (disch:=omega) only [go_sem,undef,H.cs,qy (H.at 1 rfl),Ly.c]
  refine qa H (zO (kO (H.at 1 rfl)) x.inst) λM f H=>?_
  simp (disch:=omega) only [go_sem,undef,H.cs,qy (H.at 1 rfl),Ly.c]
  refine qg H λb4 M f H=>?_
  simp (disch:=omega) only [go_sem,undef,H.cs,qy (H.at 2 rfl),Ly.c]
  refine qs H rfl rfl λM f H=>?_
  simp (disch:=omega) only [go_sem,undef]
  subst hC
  exact Uw ho hxl hkey hrec hn hout H rfl rfl rfl rfl rfl rfl
 ·simp (disch:=omega) only [go_sem,undef,H.cs,qy (H.at 1 rfl),Ly.c]
  refine qg H λb4 M f H=>?_
  simp (disch:=omega) only [go_sem,undef,H.cs,qy (H.at 2 rfl),Ly.c]
  refine qa H (zO (kO (H.at 2 rfl)) x.inst) λM f H=>?_
  simp (disch:=omega) only [go_sem,undef,H.cs,qy (H.at 2 rfl),Ly.c]
  refine qs H rfl rfl λM f H=>?_
  simp (disch:=omega) only [go_sem,undef]
  subst hC
  exact Uw ho hxl hkey hrec hn hout H rfl rfl rfl rfl rfl rfl
end Go.Fw
namespace Go.Fw
open Go.Proofs
variable {m m0 M:Mem} {S:List Nat} {L:List As}
variable {cb:Nat} {Y:Ly} {C:Co}
def Co.accept(C:Co)(l:Ld)(x:Cmd)(a:Att):Co :=
 if xC a then
  if (C.set l.id ⟨2,l.bal,l.bal,x,a,false⟩).2=true then (C.set l.id ⟨2,l.bal,l.bal,x,a,false⟩).1.kP (xd l.id 1 l.bal false x a)
  else (C.set l.id ⟨2,l.bal,l.bal,x,a,false⟩).1.zk l.id
 else C.zk l.id
theorem lu(h:(coA cb Y C).p m)(ho:Y.ok C){j:Nat}{v:LdV}{l:Ld}(hv:Y.lds[j]?=some v)(hl:C.leads[j]?=some l)(x:Cmd)(a:Att)(hrec:C.recs.length≤1000000)(hn:C.leads.length≤100000)(hn7:C.n≤7)(hout:C.out.length≤999000) :
  CM Tryz.prog Wb [lp cb,lp v.b,x.v,a.v] m (coA cb Y C) (CoN cb Y C l.id (C.accept l x a) (.tuple #[])):=by
 have H:=Hq.one h
 have hss:=wx C l.id ⟨2,l.bal,l.bal,x,a,false⟩
 by_cases hr:xC a
 ·have hp:C.accept l x a=if (C.set l.id ⟨2,l.bal,l.bal,x,a,false⟩).2=true then (C.set l.id ⟨2,l.bal,l.bal,x,a,false⟩).1.kP (xd l.id 1 l.bal false x a) else (C.set l.id ⟨2,l.bal,l.bal,x,a,false⟩).1.zk l.id:=if_pos hr
  rw [hp]
  refine VF (by simp [Tryz.f33]) ?_
  simp (disch:=omega) only [go_sem,undef]
  refine qg H λb6 M f H=>?_
  simp (disch:=omega) only [go_sem,undef]
  refine qg H λb7 M f H=>?_
  simp (disch:=omega) only [go_sem,undef,H.cs]
  refine qa H (zl a _) λM f H=>?_
  have hcl:=qT (zy (zV (H.at 2 rfl)) hv hl)
  simp (disch:=omega) only [go_sem,undef,H.cs,qZ hr,Bool.not_true,hcl,Ld.c]
  refine qU 2 H (cL (H.at 2 rfl) ho l.id ⟨2,l.bal,l.bal,x,a,false⟩ hrec) rfl λu M A' hR f H=>?_
  refine hR.E λY1 eu ho1 eA hy1=>?_
  subst eu eA
  clear hR hp
  generalize C.set l.id ⟨2,l.bal,l.bal,x,a,false⟩=r at *
  obtain ⟨C1,ok⟩:=r
  have Hn:Hq m M (coA cb Y C).wp [qw b7 (.cells a.cs.toArray qb (0,0)),qw b6 (.cells x.cs.toArray qA (0,0)),coA cb Y1 C1]:=H
  clear H
  have hl1:C1.leads[j]?=some l:=by rw [show C1.leads=C.leads from hss.1];exact hl
  have hv1:Y1.lds[j]?=some v:=by rw [hy1];exact hv
  cases ok with
  | true =>
   have H:=Hn
   have hcl:=qT (zy (zV (H.at 2 rfl)) hv1 hl1)
   simp (disch:=omega) only [go_sem,undef,H.cs,Bool.not_true,hcl,Ld.c]
   refine qg H λb9 M f H=>?_
   have H:=RJ H
   have H:Hq m M (coA cb Y C).wp (ldA ⟨b9,.slice none 0 0,.slice none 0 0⟩ (xd l.id 1 l.bal false x a)::coA cb Y1 C1::[]):=H.sel 4 [0,3] rfl (by decide) (by decide)
   have H:=Hq.join H
   simp (disch:=omega) only [go_sem,undef]
   refine zW H (pk (H.at 0 rfl) ho1 (Nat.le_trans (Nat.le_of_eq (congrArg List.length hss.1)) hn) (Nat.le_trans (Nat.le_of_eq hss.2.1) hn7) (Nat.le_trans (Nat.le_of_eq (congrArg List.length hss.2.2.1)) hout)) λu M A' hR f H=>?_
   refine hR.E λY2 eu ho2 eA hk2=>?_
   subst eu eA
   simp (disch:=omega) only [go_sem,undef]
   exact nY qu ho2 ((Kp.same hy1 hss.1).trans hk2) H
  | false =>
   have H:=Hn
   have hcl:=qT (zy (zV (H.at 2 rfl)) hv1 hl1)
   simp (disch:=omega) only [go_sem,undef,H.cs,Bool.not_false,hcl,Ld.c]
   refine qU 2 H (Jf (H.at 2 rfl) ho1 l.id (Nat.le_trans (Nat.le_of_eq (congrArg List.length hss.1)) (Nat.le_trans hn (by decide)))) rfl λu M A' hR f H=>?_
   refine hR.E λY2 eu ho2 eA hk2=>?_
   subst eu eA
   simp (disch:=omega) only [go_sem,undef]
   exact nY qu ho2 ((Kp.same hy1 hss.1).trans hk2) (H.tail.tail)
 ·have hp:C.accept l x a=C.zk l.id:=if_neg hr
  rw [hp]
  refine VF (by simp [Tryz.f33]) ?_
  simp (disch:=omega) only [go_sem,undef]
  refine qg H λb6 M f H=>?_
  simp (disch:=omega) only [go_sem,undef]
  refine qg H λb7 M f H=>?_
  simp (disch:=omega) only [go_sem,undef,H.cs]
  refine qa H (zl a _) λM f H=>?_
  have hcl:=qT (zy (zV (H.at 2 rfl)) hv hl)
  simp (disch:=omega) only [go_sem,undef,H.cs,qX hr,Bool.not_false,hcl,Ld.c]
  refine qU 2 H (Jf (H.at 2 rfl) ho l.id (by omega)) rfl λu M A' hR f H=>?_
  refine hR.E λY2 eu ho2 eA hk2=>?_
  subst eu eA
  simp (disch:=omega) only [go_sem,undef]
  exact nY qu ho2 hk2 (H.tail.tail)
theorem ln(h:(coA cb Y C).p m)(ho:Y.ok C){j:Nat}{v:LdV}{l:Ld}(hv:Y.lds[j]?=some v)(hl:C.leads[j]?=some l)(x:Cmd)(a:Att)(hrec:C.recs.length≤1000000)(hn:C.leads.length≤100000)(hn7:C.n≤7)(hout:C.out.length≤999000) :
  CM Tryz.prog Wb [lp cb,lp v.b,x.v,a.v] m (coA cb Y C) (CoR cb (C.accept l x a) (.tuple #[])):=BK (lu h ho hv hl x a hrec hn hn7 hout)
end Go.Fw
namespace Go.Fw
open Go.Proofs
variable {m m0 M:Mem} {S:List Nat} {L:List As}
variable {cb:Nat} {Y:Ly} {C:Co}
def CoM(cb:Nat)(Y0:Ly)(C0:Co)(i:Int×Int)(C:Co)(b:Bool)(u:Value)(A:As):Prop:=u=.bool b∧∃ Y:Ly,Y.ok C∧Kp i Y0 C0 Y C∧(b=false→Y.lds=Y0.lds)∧A=coA cb Y C
theorem CoM.E{G:Prop}{Y0:Ly}{C0 C:Co}{i:Int×Int}{b:Bool}{u:Value}{A:As}(h:CoM cb Y0 C0 i C b u A)(k:∀ Y,u=.bool b→Y.ok C→A=coA cb Y C→Kp i Y0 C0 Y C→(b=false→Y.lds=Y0.lds)→G):G:=by
 obtain ⟨h1,Y,h2,h4,h5,h3⟩:=h
 exact k Y h1 h2 h3 h4 h5
theorem Sh{A:As}{Y0 Y':Ly}{C0 C':Co}{i:Int×Int}{b:Bool}(hfw:A.fp=A.wp)(ho:Y'.ok C')(hk:Kp i Y0 C0 Y' C')(hy:b=false→Y'.lds=Y0.lds)(H:Hq m M A.wp [coA cb Y' C']) :
  ∃ A',CoM cb Y0 C0 i C' b (.bool b) A'∧A'.p M∧Fr m M A.wp∧(∀ b∈A'.fp,b∈A.fp∨m b=none)∧∀ b∈A'.wp,b∈A.wp∨m b=none :=
 ⟨_,⟨rfl,_,ho,hk,hy,rfl⟩,H.hs.1,H.fr,λb hb=>by rw [hfw];rw [qu] at hb;exact H.done.2.2 b hb,H.done.2.2⟩
def Co.ZS(C:Co)(l:Ld)(d:Int)(a:Att):Co×Bool:=if d=1 then (C.JD l.id l.cmd a,true) else if d=2 then (C.accept l l.cmd a,true) else (C,false)
def Co.xp(C:Co)(l:Ld)(late:Bool):Co×Bool:=C.ZS l (VT C.n l.first l.att l.reps late).1 (VT C.n l.first l.att l.reps late).2
theorem MW{C:Co}{l:Ld}{late:Bool}(h:(C.xp l late).2=false):(C.xp l late).1=C:=by
 unfold Co.xp Co.ZS at *
 split at h
 ·cases h
 ·rename_i h1
  rw [if_neg h1]
  split at h
  ·cases h
  ·rename_i h2
   rw [if_neg h2]
abbrev wgA:NC:=.seq (.seq WD (.block 0 (.seq WC (.cond (.qq 31) WB (.seq WA (.cond (.qq 44) Wu (.seq Wt .ret))))))) (.seq Ws .ret)
theorem SN{C0:Co}{Y0:Ly}{E:Env}{b8 j:Nat}{v:LdV}{l:Ld}{d:Int}{a:Att}(hk:Kp l.id Y0 C0 Y C)(hy:Y.lds=Y0.lds)(ho:Y.ok C)(hv:Y.lds[j]?=some v)(hl:C.leads[j]?=some l)(hrec:C.recs.length≤1000000)(hn:C.leads.length≤100000)(hn7:C.n≤7)(hout:C.out.length≤999000)(H:Hq m M (coA cb Y0 C0).wp [qw b8 (.cells a.cs.toArray qb (0,0)),coA cb Y C])(e0:E.get 0=lp cb)(e1:E.get 1=lp v.b)(e7:E.get 7=.int .i64 d)(e8:E.get 8=lp b8)(h0:E.has 0=true)(h1:E.has 1=true)(h7:E.has 7=true)(h8:E.has 8=true) :
  wpN Tryz.prog wgA (vB [.qq 6] λu M=>∃ A',CoM cb Y0 C0 l.id (C.ZS l d a).1 (C.ZS l d a).2 u A'∧A'.p M∧Fr m M (coA cb Y0 C0).wp∧(∀ b∈A'.fp,b∈(coA cb Y0 C0).fp∨m b=none)∧∀ b∈A'.wp,b∈(coA cb Y0 C0).wp∨m b=none) E M:=by
 have hcl:=qT (zy (zV (H.at 1 rfl)) hv hl)
 by_cases d1:d=1
 ·have hp:C.ZS l d a=(C.JD l.id l.cmd a,true):=if_pos d1
  rw [hp]
  simp (disch:=omega) only [go_sem,undef,e0,e1,e7,e8,h0,h1,h7,h8,H.cs,qZ d1,hcl,Ld.c]
  refine qU 1 H (lm (H.at 1 rfl) ho l.id l.cmd a hrec hn hn7 hout) rfl λu M A' hR f H=>?_
  refine hR.E λY2 eu ho2 eA hk2=>?_
  subst eu eA
  simp (disch:=omega) only [go_sem,undef]
  exact Sh (b:=true) qu ho2 (hk.trans hk2) (λe=>absurd e (by decide)) H.tail
 by_cases d2:d=2
 ·have hp:C.ZS l d a=(C.accept l l.cmd a,true):=by unfold Co.ZS;rw [if_neg d1,if_pos d2]
  rw [hp]
  simp (disch:=omega) only [go_sem,undef,e0,e1,e7,e8,h0,h1,h7,h8,H.cs,qX d1,qZ d2,hcl,Ld.c]
  refine qU 1 H (lu (H.at 1 rfl) ho hv hl l.cmd a hrec hn hn7 hout) rfl λu M A' hR f H=>?_
  refine hR.E λY2 eu ho2 eA hk2=>?_
  subst eu eA
  simp (disch:=omega) only [go_sem,undef]
  exact Sh (b:=true) qu ho2 (hk.trans hk2) (λe=>absurd e (by decide)) H.tail
 ·have hp:C.ZS l d a=(C,false):=by unfold Co.ZS;rw [if_neg d1,if_neg d2]
  rw [hp]
  simp (disch:=omega) only [go_sem,undef,e0,e1,e7,e8,h0,h1,h7,h8,H.cs,qX d1,qX d2]
  exact Sh (b:=false) qu ho hk (λ_=>hy) H.tail
theorem Pn:Jg=.seq WG (.seq WE wgA):=rfl
theorem Tp{v:LdV}{x:Ld}(h:(ldA v x).p m):RdS 8 Att.cs m v.rp x.reps:=Own.rds (by decide) Att.len (zY h (qV qb 8 v.rp x.reps.length (x.reps.flatMap Att.cs)) (by simp))
theorem px(h:(coA cb Y C).p m)(ho:Y.ok C){j:Nat}{v:LdV}{l:Ld}(hv:Y.lds[j]?=some v)(hl:C.leads[j]?=some l)(late:Bool)(hrec:C.recs.length≤1000000)(hn:C.leads.length≤100000)(hn7:C.n≤7)(hout:C.out.length≤999000)(hreps:l.reps.length≤100) :
  CM Tryz.prog Ye [lp cb,lp v.b,.bool late] m (coA cb Y C) (CoM cb Y C l.id (C.xp l late).1 (C.xp l late).2):=by
 have H:=Hq.one h
 have hw:C.xp l late=C.ZS l (VT C.n l.first l.att l.reps late).1 (VT C.n l.first l.att l.reps late).2:=rfl
 rw [hw]
 obtain ⟨ra,rc,hrp⟩:=(Tp (zy (zV h) hv hl)).form
 have hpre:=λM (hA:(coA cb Y C).p M)=>pre_s (n:=C.n) (first:=l.first) (late:=late) (own:=l.att) (hrp▸Tp (zy (zV hA) hv hl)) (by omega) hreps
 refine mN (by simp [Tryz.f33]) ?_
 rw [Pn]
 generalize hC:wgA=T
 generalize VT C.n l.first l.att l.reps late=q at *
 obtain ⟨d,a⟩:=q
 have hcl:=λM (hA:(coA cb Y C).p M)=>qT (zy (zV hA) hv hl)
 simp (disch:=omega) only [go_sem,undef,qy (H.at 0 rfl),Ly.c,hcl _ (H.at 0 rfl),Ld.c,hrp]
 refine qp ?_ ?_
 ·simp (disch:=omega) only [go_sem,undef,qy (H.at 0 rfl),Ly.c,hcl _ (H.at 0 rfl),Ld.c,hrp]
  refine qa H (hpre _ (H.at 0 rfl)) λM f H=>?_
  simp (disch:=omega) only [go_sem,undef,qy (H.at 0 rfl),Ly.c,hcl _ (H.at 0 rfl),Ld.c,hrp]
  refine qg H λb8 M f H=>?_
  simp (disch:=omega) only [go_sem,undef,qy (H.at 1 rfl),Ly.c,hcl _ (H.at 1 rfl),Ld.c,hrp]
  refine qs H rfl rfl λM f H=>?_
  simp (disch:=omega) only [go_sem,undef]
  subst hC
  exact SN (Kp.same rfl rfl) rfl ho hv hl hrec hn hn7 hout H rfl rfl rfl rfl rfl rfl rfl rfl
 ·simp (disch:=omega) only [go_sem,undef,qy (H.at 0 rfl),Ly.c,hcl _ (H.at 0 rfl),Ld.c,hrp]
  refine qg H λb8 M f H=>?_
  simp (disch:=omega) only [go_sem,undef,qy (H.at 1 rfl),Ly.c,hcl _ (H.at 1 rfl),Ld.c,hrp]
  refine qa H (hpre _ (H.at 1 rfl)) λM f H=>?_
  simp (disch:=omega) only [go_sem,undef,qy (H.at 1 rfl),Ly.c,hcl _ (H.at 1 rfl),Ld.c,hrp]
  refine qs H rfl rfl λM f H=>?_
  simp (disch:=omega) only [go_sem,undef]
  subst hC
  exact SN (Kp.same rfl rfl) rfl ho hv hl hrec hn hn7 hout H rfl rfl rfl rfl rfl rfl rfl rfl
theorem Lh(h:(coA cb Y C).p m)(ho:Y.ok C){j:Nat}{v:LdV}{l:Ld}(hv:Y.lds[j]?=some v)(hl:C.leads[j]?=some l)(late:Bool)(hrec:C.recs.length≤1000000)(hn:C.leads.length≤100000)(hn7:C.n≤7)(hout:C.out.length≤999000)(hreps:l.reps.length≤100) :
  CM Tryz.prog Ye [lp cb,lp v.b,.bool late] m (coA cb Y C) (CoR cb (C.xp l late).1 (.bool (C.xp l late).2)) :=
 MC.mono (px h ho hv hl late hrec hn hn7 hout hreps) λv M ⟨A',⟨h1,Y,h2,_,_,h3⟩,h⟩=>⟨A',⟨h1,Y,h2,h3⟩,h⟩
end Go.Fw
namespace Go.Fw
open Go.Proofs
variable {m m0 M:Mem} {S:List Nat} {L:List As}
variable {cb:Nat} {Y:Ly} {C:Co}
theorem CoC.bz(c:CoC)(n me:Int)(a b:Nat):lay c.cs [(0,1),(1,1),(2,1),(3,1)] [.int .i64 n,.int .i64 me,lp a,lp b]=some ({ c with n:=n,me:=me,lg:=lp a,ix:=lp b }:CoC).cs:=rfl
attribute [go_sem] CoC.bz
def Co.new(n me:Nat)(cut:Dp):Co:=⟨n,me,vF Dp.zero cut,[],vF Dp.zero cut,[],[],[],[],[],[]⟩
theorem uX(n me:Nat)(hn:n=3∨n=5∨n=7)(hme:me < n)(cut:Dp)(hcut:xC ⟨0,cut⟩)(m:Mem) :
  CN Tryz.prog Ra [.int .i64 (n:Nat),.int .i64 (me:Nat),cut.v,.slice none 0 0] m λu A=>∃ cb Y,Y.ok (Co.new n me cut)∧u=.tuple #[lp cb,.int .i64 0]∧A=coA cb Y (Co.new n me cut):=by
 refine On (by simp [Tryz.f33]) ?_
 have H:=Hq.refl m []
 simp (disch:=omega) only [go_sem,undef]
 refine qg H λb6 M f H=>?_
 simp (disch:=omega) only [go_sem,undef]
 refine qa H (qZT _ _) λM f H=>?_
 simp (disch:=omega) only [go_sem,undef,H.cs,qZ (show ((n:Nat):Int)=3∨((n:Nat):Int)=5∨((n:Nat):Int)=7 by omega),Bool.not_true,qX (show ¬ ((me:Nat):Int) < 0 by omega),qX (show ¬ ((me:Nat):Int)≥(n:Nat) by omega)]
 refine qa H (zl ⟨0,cut⟩ _) λM f H=>?_
 simp (disch:=omega) only [go_sem,undef,H.cs,qZ hcut,Bool.not_true]
 refine yw H (qqh cut _) λu M A' hR f H=>?_
 refine Exists.elim hR λlb hh=>Exists.elim hh λlr hh=>?_
 have eu:=hh.1
 have eA:=hh.2
 subst eu eA
 clear hh hR
 simp (disch:=omega) only [go_sem,undef]
 refine yw H (qqo _) λu M A' hR f H=>?_
 refine Exists.elim hR λxb hh=>Exists.elim hh λxr hh=>?_
 have eu:=hh.1
 have eA:=hh.2
 subst eu eA
 clear hh hR
 simp (disch:=omega) only [go_sem,undef]
 refine qg H λcb M f H=>?_
 simp (disch:=omega) only [go_sem,undef,H.cs]
 refine Ux 1 (xT xb xr Dp.zero []) (xT xb xr (vF Dp.zero cut) []) H (MC.mono (Nu (H.at 1 rfl) (by simp [zB]) cut) λu M h=>by simpa using h) rfl rfl rfl λM f H=>?_
 simp (disch:=omega) only [go_sem,undef]
 refine qe (λk E m'=>E=[(10,lp cb),(47,.slice none 0 0),(48,.int .i64 0),(49,.int .i64 0)]∧m'=M) 0 rfl ⟨rfl,rfl⟩ ?_
 rintro k E M1 ⟨rfl,rfl⟩
 simp (disch:=omega) only [go_sem,undef]
 have H:Hq m M1 [] [qw cb (.cells (CoC.mk n me (lp lb) (lp xb) (.slice none 0 0) (.slice none 0 0) (.slice none 0 0) (.slice none 0 0)).cs.toArray qH (0,0)),xT xb xr (vF Dp.zero cut) [],xe lb lr (vF Dp.zero cut) [],qw b6 (.cells (dv cut).toArray cR (0,0))]:=H
 have H:=((((H.QP qd 1).QP qQ 1).qjH qB).QP qv 51).qqX.qqX
 have H:Hq m M1 [] (coL cb ⟨lb,lr,xb,xr,.slice none 0 0,.slice none 0 0,.slice none 0 0,.slice none 0 0,[],[],[]⟩ (Co.new n me cut)++[]):=H.sel 10 [6,8,7,5,4,3,2,0,1] rfl (by decide) (by decide)
 have H:=Hq.coJ H
 refine Xh ⟨_,⟨cb,⟨lb,lr,xb,xr,.slice none 0 0,.slice none 0 0,.slice none 0 0,.slice none 0 0,[],[],[]⟩,⟨rfl,rfl,rfl⟩,rfl,rfl⟩,H.hs.1,H.fr,λb hb=>?_⟩
 rw [qu] at hb
 exact (H.nw _ (List.mem_cons_self ..) b hb).resolve_right (by simp)
end Go.Fw
