import Derived.Test.YtimedjfpihdffaaGreatCpX
set_option linter.unusedVariables false
set_option linter.unusedSimpArgs false
set_option maxHeartbeats 16000000
namespace Go.Fw
open Go.Proofs
variable {m m0 M:Mem} {S:List Nat} {L:List As}
variable {cb:Nat} {Y:Ly} {C:Co}
theorem lay16 (a b:Att):lay [.int .i64 0,.int .i64 0,.int .i64 0,.int .i64 0,.int .i64 0,.int .i64 0,.int .i64 0,.int .i64 0,.int .i64 0,.int .i64 0,.int .i64 0,.int .i64 0,.int .i64 0,.int .i64 0,.int .i64 0,.int .i64 0] [(0,8),(8,8)] [.agg a.cs.toArray,.agg b.cs.toArray]=some (a.cs++b.cs):=rfl
attribute [go_sem ↓] lay16
theorem Yx {b:Nat} {x y:Att} {T:TypeId} (hb:m b=some (.cells (x.cs++y.cs).toArray T (0,0))):RdS 8 Att.cs m (.slice (some ⟨b,0,none⟩) 2 2) [x,y] :=
 ⟨Att.len,_,_,rfl,by simp,.inr ⟨b,0,rfl,fun i v hv=>by
  rw [hb,JI,Nat.zero_add,List.getElem?_toArray];simpa using hv⟩⟩
def okL (x:Lt) (a:Att):Lt:={ Lt.zero with kind:=2,inst:=x.inst,bal:=x.bal,att:=a }
def Co.Hv (C:Co) (x:Lt) (a:Att):Co :=
 if xW a then
  if (C.set x.inst ⟨1,x.bal,x.bal,x.cmd,a,decide (x.bal=(0,0)∧a=x.att)⟩).2=true then (C.set x.inst ⟨1,x.bal,x.bal,x.cmd,a,decide (x.bal=(0,0)∧a=x.att)⟩).1.send x.src (okL x a)
  else (C.set x.inst ⟨1,x.bal,x.bal,x.cmd,a,decide (x.bal=(0,0)∧a=x.att)⟩).1
 else C
abbrev peA:NC:=.seq Xs (.seq (.seq xF (.cond (.qq 68) .ret .skip)) (.seq xE xD))
theorem qzm {C0:Co} {Y0:Ly} {E:Env} {b5 b8 b9:Nat} {x:Lt} {a a0:Att} (ho:Y.ok C) (hrec:C.recs.length≤1000000) (hout:C.out.length≤999000)
  (H:Hq m M (coA cb Y0 C0).wp [qv b9 (.cells a.cs.toArray qb (0,0)),qv b8 (.cells (okL x a0).cs.toArray qw (0,0)),qv b5 (.cells x.cs.toArray qw (0,0)),coA cb Y C])
  (e0:E.get 0=lp cb) (e5:E.get 5=lp b5) (e8:E.get 8=lp b8) (e9:E.get 9=lp b9) (h0:E.has 0=true) (h5:E.has 5=true) (h8:E.has 8=true) (h9:E.has 9=true) :
  wpN Tryz.prog peA (vL [] fun u M=>∃ A',CoR cb (C.Hv x a) (.tuple #[]) u A'∧A'.p M∧Fr m M (coA cb Y0 C0).wp∧(∀ b∈A'.fp,b∈(coA cb Y0 C0).fp∨m b=none)∧∀ b∈A'.wp,b∈(coA cb Y0 C0).wp∨m b=none) E M:=by
 have hsame:∃ s:Bool,s=decide (x.bal=(0,0)∧a=x.att):=⟨_,rfl⟩
 obtain ⟨s,hs⟩:=hsame
 by_cases hr:xW a
 ·have hp:C.Hv x a=if (C.set x.inst ⟨1,x.bal,x.bal,x.cmd,a,s⟩).2=true then (C.set x.inst ⟨1,x.bal,x.bal,x.cmd,a,s⟩).1.send x.src (okL x a) else (C.set x.inst ⟨1,x.bal,x.bal,x.cmd,a,s⟩).1:=by rw [hs];exact if_pos hr
  rw [hp]
  have hss:=xS C x.inst ⟨1,x.bal,x.bal,x.cmd,a,s⟩
  have key:∀ (E1:Env),E1.get 0=lp cb→E1.get 5=lp b5→E1.get 8=lp b8→E1.get 9=lp b9→E1.get 10=.bool s→E1.has 0=true→E1.has 5=true→E1.has 8=true→E1.has 9=true→E1.has 10=true →
    wpN Tryz.prog (.seq (.seq xF (.cond (.qq 68) .ret .skip)) (.seq xE xD)) (vL [] fun u M=>∃ A',CoR cb (if (C.set x.inst ⟨1,x.bal,x.bal,x.cmd,a,s⟩).2=true then (C.set x.inst ⟨1,x.bal,x.bal,x.cmd,a,s⟩).1.send x.src (okL x a) else (C.set x.inst ⟨1,x.bal,x.bal,x.cmd,a,s⟩).1) (.tuple #[]) u A'∧A'.p M∧Fr m M (coA cb Y0 C0).wp∧(∀ b∈A'.fp,b∈(coA cb Y0 C0).fp∨m b=none)∧∀ b∈A'.wp,b∈(coA cb Y0 C0).wp∨m b=none) E1 M:=by
   intro E1 g0 g5 g8 g9 g10 k0 k5 k8 k9 k10
   simp (disch:=omega) only [go_sem,undef,g0,g5,g8,g9,g10,k0,k5,k8,k9,k10,H.cs]
   refine qY H (zK a _) fun M f H=>?_
   simp (disch:=omega) only [go_sem,undef,g0,g5,g8,g9,g10,k0,k5,k8,k9,k10,H.cs,qX hr,Bool.not_true]
   refine zq 3 H (Xp (H.at 3 rfl) ho x.inst ⟨1,x.bal,x.bal,x.cmd,a,s⟩ hrec) rfl fun u M A' hR f H=>?_
   refine hR.E fun Y1 eu ho1 eA=>?_
   subst eu eA
   clear hR hp
   generalize C.set x.inst ⟨1,x.bal,x.bal,x.cmd,a,s⟩=r at *
   obtain ⟨C1,ok⟩:=r
   have Hn:Hq m M (coA cb Y0 C0).wp [qv b9 (.cells a.cs.toArray qb (0,0)),qv b8 (.cells (okL x a0).cs.toArray qw (0,0)),qv b5 (.cells x.cs.toArray qw (0,0)),coA cb Y1 C1]:=H
   clear H
   cases ok with
   | true =>
    have H:=Hn
    simp (disch:=omega) only [go_sem,undef,g0,g5,g8,g9,g10,k0,k5,k8,k9,k10,H.cs,Bool.not_true]
    refine Jy H (Nat.le_of_ble_eq_true rfl) rfl fun M f H=>?_
    have H:Hq m M (coA cb Y0 C0).wp [qv b9 (.cells a.cs.toArray qb (0,0)),qv b8 (.cells (okL x a).cs.toArray qw (0,0)),qv b5 (.cells x.cs.toArray qw (0,0)),coA cb Y1 C1]:=H
    simp (disch:=omega) only [go_sem,undef,H.cs]
    refine zq 3 H (dF (H.at 3 rfl) ho1 x.src (okL x a) (Nat.le_trans (Nat.le_of_eq (congrArg List.length hss.2.2.1)) (Nat.le_trans hout (by decide)))) rfl fun u M A' hR f H=>?_
    refine hR.E fun Y2 eu ho2 eA=>?_
    subst eu eA
    simp (disch:=omega) only [go_sem,undef]
    exact qT qu ho2 (H.tail.tail.tail)
   | false =>
    have H:=Hn
    simp (disch:=omega) only [go_sem,undef,g0,g5,g8,g9,g10,k0,k5,k8,k9,k10,H.cs,Bool.not_false]
    exact qT qu ho1 (H.tail.tail.tail)
  show wpN Tryz.prog (.seq Xs (.seq (.seq xF (.cond (.qq 68) .ret .skip)) (.seq xE xD))) _ E M
  generalize hC:(NC.seq (.seq xF (.cond (.qq 68) .ret .skip)) (.seq xE xD))=T at *
  by_cases hb:x.bal=(0,0)
  ·simp (disch:=omega) only [go_sem,undef,e0,e5,e8,e9,h0,h5,h8,h9,H.cs,qX hb]
   exact key _ rfl rfl rfl rfl (by rw [hs];simp [hb,Env.get]) rfl rfl rfl rfl rfl
  ·simp (disch:=omega) only [go_sem,undef,e0,e5,e8,e9,h0,h5,h8,h9,H.cs,qZ hb]
   exact key _ rfl rfl rfl rfl (by rw [hs];simp [hb,Env.get]) rfl rfl rfl rfl rfl
 ·have hp:C.Hv x a=C:=if_neg hr
  rw [hp]
  by_cases hb:x.bal=(0,0)
  ·simp (disch:=omega) only [go_sem,undef,e0,e5,e8,e9,h0,h5,h8,h9,H.cs,qX hb]
   refine qY H (zK a _) fun M f H=>?_
   simp (disch:=omega) only [go_sem,undef,e0,e5,e8,e9,h0,h5,h8,h9,H.cs,qZ hr,Bool.not_false]
   exact qT qu ho (H.tail.tail.tail)
  ·simp (disch:=omega) only [go_sem,undef,e0,e5,e8,e9,h0,h5,h8,h9,H.cs,qZ hb]
   refine qY H (zK a _) fun M f H=>?_
   simp (disch:=omega) only [go_sem,undef,e0,e5,e8,e9,h0,h5,h8,h9,H.cs,qZ hr,Bool.not_false]
   exact qT qu ho (H.tail.tail.tail)
end Go.Fw
namespace Go.Fw
open Go.Proofs
variable {m m0 M:Mem} {S:List Nat} {L:List As}
variable {cb:Nat} {Y:Ly} {C:Co}
def Co.pre (C:Co) (x:Lt) (c:Cel) (own:Bool):Co:=if own=true then (if c.st=1 then C.send x.src (okL x c.att) else C) else C.Hv x (xL x.att (zB C.xcut C.xl x.inst x.cmd))
theorem qvJ:KB=.seq bW (.seq bV (.seq (.seq bK (.cond (.qq 18) (.seq (.seq bX (.cond (.qq 21) bJ .skip)) .ret) .skip)) (.seq bZ peA))):=rfl
theorem qqk (h:(coA cb Y C).p m) (ho:Y.ok C) (x:Lt) (c:Cel) (own:Bool) (hxl:wo C.xl) (hkey:x.cmd.key.size≤1000) (hrec:C.recs.length≤1000000) (hout:C.out.length≤999000) :
  CM Tryz.prog BZ [lp cb,x.v,c.v,.bool own] m (coA cb Y C) (CoR cb (C.pre x c own) (.tuple #[])):=by
 have H:=Hq.one h
 cases own with
 | true =>
  have hp:C.pre x c true=if c.st=1 then C.send x.src (okL x c.att) else C:=rfl
  rw [hp]
  refine bY (by simp [Tryz.f33]) ?_
  simp (disch:=omega) only [go_sem,undef]
  refine qh H fun b5 M f H=>?_
  simp (disch:=omega) only [go_sem,undef]
  refine qh H fun b6 M f H=>?_
  simp (disch:=omega) only [go_sem,undef,H.cs]
  refine qh H fun b8 M f H=>?_
  simp (disch:=omega) only [go_sem,undef,H.cs]
  refine qs H rfl rfl fun M f H=>?_
  have H:Hq m M (coA cb Y C).wp [qv b8 (.cells (okL x c.att).cs.toArray qw (0,0)),qv b6 (.cells c.cs.toArray qd (0,0)),qv b5 (.cells x.cs.toArray qw (0,0)),coA cb Y C]:=H
  by_cases hs:c.st=1
  ·rw [if_pos hs]
   simp (disch:=omega) only [go_sem,undef,H.cs,qX hs]
   refine zq 3 H (dF (H.at 3 rfl) ho x.src (okL x c.att) (by omega)) rfl fun u M A' hR f H=>?_
   refine hR.E fun Y2 eu ho2 eA=>?_
   subst eu eA
   simp (disch:=omega) only [go_sem,undef]
   exact qT qu ho2 (H.tail.tail.tail)
  ·rw [if_neg hs]
   simp (disch:=omega) only [go_sem,undef,H.cs,qZ hs]
   exact qT qu ho (H.tail.tail.tail)
 | false =>
  have hp:C.pre x c false=C.Hv x (xL x.att (zB C.xcut C.xl x.inst x.cmd)):=rfl
  rw [hp]
  refine bY (by simp [Tryz.f33]) ?_
  rw [qvJ]
  generalize hC:peA=T
  simp (disch:=omega) only [go_sem,undef]
  refine qh H fun b5 M f H=>?_
  simp (disch:=omega) only [go_sem,undef]
  refine qh H fun b6 M f H=>?_
  simp (disch:=omega) only [go_sem,undef,H.cs]
  refine qh H fun b8 M f H=>?_
  simp (disch:=omega) only [go_sem,undef,H.cs]
  refine qs H rfl rfl fun M f H=>?_
  have H:Hq m M (coA cb Y C).wp [qv b8 (.cells (okL x c.att).cs.toArray qw (0,0)),qv b6 (.cells c.cs.toArray qd (0,0)),qv b5 (.cells x.cs.toArray qw (0,0)),coA cb Y C]:=H
  simp (disch:=omega) only [go_sem,undef,H.cs,qy (H.at 3 rfl),Ly.c]
  refine qI ?_ ?_
  ·simp (disch:=omega) only [go_sem,undef,H.cs,qy (H.at 3 rfl),Ly.c]
   refine qY H (Aw (Ak (H.at 3 rfl)) hxl x.inst x.cmd hkey) fun M f H=>?_
   simp (disch:=omega) only [go_sem,undef,H.cs,qy (H.at 3 rfl),Ly.c]
   refine qI ?_ ?_
   ·simp (disch:=omega) only [go_sem,undef,H.cs,qy (H.at 3 rfl),Ly.c]
    refine qh H fun b11 M f H=>?_
    simp (disch:=omega) only [go_sem,undef,H.cs,qy (H.at 4 rfl),Ly.c]
    refine qI ?_ ?_
    ·simp (disch:=omega) only [go_sem,undef,H.cs,qy (H.at 4 rfl),Ly.c]
     refine qY H (cY (l:=[x.att,zB C.xcut C.xl x.inst x.cmd]) (n:=2) rfl (Yx H.cs.1) (by decide) (by decide)) fun M f H=>?_
     simp (disch:=omega) only [go_sem,undef,H.cs,qy (H.at 4 rfl),Ly.c]
     refine qh H fun b9 M f H=>?_
     simp (disch:=omega) only [go_sem,undef,H.cs,qy (H.at 5 rfl),Ly.c]
     refine qs H rfl rfl fun M f H=>?_
     have H:Hq m M (coA cb Y C).wp [qv b9 (.cells (xL x.att (zB C.xcut C.xl x.inst x.cmd)).cs.toArray qb (0,0)),qv b8 (.cells (okL x c.att).cs.toArray qw (0,0)),qv b5 (.cells x.cs.toArray qw (0,0)),coA cb Y C]:=H.sel 6 [0,2,4,5] rfl (by decide) (by decide)
     simp (disch:=omega) only [go_sem,undef]
     subst hC
     exact qzm ho hrec hout H rfl rfl rfl rfl rfl rfl rfl rfl
    ·simp (disch:=omega) only [go_sem,undef,H.cs,qy (H.at 4 rfl),Ly.c]
     refine qh H fun b9 M f H=>?_
     simp (disch:=omega) only [go_sem,undef,H.cs,qy (H.at 5 rfl),Ly.c]
     refine qY H (cY (l:=[x.att,zB C.xcut C.xl x.inst x.cmd]) (n:=2) rfl (Yx H.cs.2.1) (by decide) (by decide)) fun M f H=>?_
     simp (disch:=omega) only [go_sem,undef,H.cs,qy (H.at 5 rfl),Ly.c]
     refine qs H rfl rfl fun M f H=>?_
     have H:Hq m M (coA cb Y C).wp [qv b9 (.cells (xL x.att (zB C.xcut C.xl x.inst x.cmd)).cs.toArray qb (0,0)),qv b8 (.cells (okL x c.att).cs.toArray qw (0,0)),qv b5 (.cells x.cs.toArray qw (0,0)),coA cb Y C]:=H.sel 6 [0,2,4,5] rfl (by decide) (by decide)
     simp (disch:=omega) only [go_sem,undef]
     subst hC
     exact qzm ho hrec hout H rfl rfl rfl rfl rfl rfl rfl rfl
   ·simp (disch:=omega) only [go_sem,undef,H.cs,qy (H.at 3 rfl),Ly.c]
    refine qh H fun b9 M f H=>?_
    simp (disch:=omega) only [go_sem,undef,H.cs,qy (H.at 4 rfl),Ly.c]
    refine qh H fun b11 M f H=>?_
    simp (disch:=omega) only [go_sem,undef,H.cs,qy (H.at 5 rfl),Ly.c]
    refine qY H (cY (l:=[x.att,zB C.xcut C.xl x.inst x.cmd]) (n:=2) rfl (Yx H.cs.1) (by decide) (by decide)) fun M f H=>?_
    simp (disch:=omega) only [go_sem,undef,H.cs,qy (H.at 5 rfl),Ly.c]
    refine zQ H rfl rfl fun M f H=>?_
    have H:Hq m M (coA cb Y C).wp [qv b9 (.cells (xL x.att (zB C.xcut C.xl x.inst x.cmd)).cs.toArray qb (0,0)),qv b8 (.cells (okL x c.att).cs.toArray qw (0,0)),qv b5 (.cells x.cs.toArray qw (0,0)),coA cb Y C]:=H.sel 6 [1,2,4,5] rfl (by decide) (by decide)
    simp (disch:=omega) only [go_sem,undef]
    subst hC
    exact qzm ho hrec hout H rfl rfl rfl rfl rfl rfl rfl rfl
  ·simp (disch:=omega) only [go_sem,undef,H.cs,qy (H.at 3 rfl),Ly.c]
   refine qh H fun b9 M f H=>?_
   simp (disch:=omega) only [go_sem,undef,H.cs,qy (H.at 4 rfl),Ly.c]
   refine qY H (Aw (Ak (H.at 4 rfl)) hxl x.inst x.cmd hkey) fun M f H=>?_
   simp (disch:=omega) only [go_sem,undef,H.cs,qy (H.at 4 rfl),Ly.c]
   refine qh H fun b11 M f H=>?_
   simp (disch:=omega) only [go_sem,undef,H.cs,qy (H.at 5 rfl),Ly.c]
   refine qY H (cY (l:=[x.att,zB C.xcut C.xl x.inst x.cmd]) (n:=2) rfl (Yx H.cs.1) (by decide) (by decide)) fun M f H=>?_
   simp (disch:=omega) only [go_sem,undef,H.cs,qy (H.at 5 rfl),Ly.c]
   refine zQ H rfl rfl fun M f H=>?_
   have H:Hq m M (coA cb Y C).wp [qv b9 (.cells (xL x.att (zB C.xcut C.xl x.inst x.cmd)).cs.toArray qb (0,0)),qv b8 (.cells (okL x c.att).cs.toArray qw (0,0)),qv b5 (.cells x.cs.toArray qw (0,0)),coA cb Y C]:=H.sel 6 [1,2,4,5] rfl (by decide) (by decide)
   simp (disch:=omega) only [go_sem,undef]
   subst hC
   exact qzm ho hrec hout H rfl rfl rfl rfl rfl rfl rfl rfl
end Go.Fw
namespace Go.Fw
open Go.Proofs
variable {m m0 M:Mem} {S:List Nat} {L:List As}
variable {cb:Nat} {Y:Ly} {C:Co}
def TY (x:Lt):Lt:={ Lt.zero with kind:=4,inst:=x.inst,bal:=x.bal }
def qjM (x:Lt) (c:Cel):Lt:={ Lt.zero with kind:=7,inst:=x.inst,bal:=x.bal,cel:=c }
def Co.Ir (C:Co) (x:Lt) (done:Bool):Co :=
 if done=true then C.send x.src (TY x) else
 if (C.set x.inst ⟨2,x.bal,x.bal,x.cmd,x.att,false⟩).2=true then (C.set x.inst ⟨2,x.bal,x.bal,x.cmd,x.att,false⟩).1.send x.src (TY x) else (C.set x.inst ⟨2,x.bal,x.bal,x.cmd,x.att,false⟩).1
def Co.Hx (C:Co) (x:Lt) (c:Cel):Co :=
 if c.pr=x.bal then C.send x.src (qjM x c) else
 if (C.set x.inst { c with pr:=x.bal }).2=true then (C.set x.inst { c with pr:=x.bal }).1.send x.src (qjM x { c with pr:=x.bal }) else (C.set x.inst { c with pr:=x.bal }).1
def Co.tJ (C:Co) (x:Lt) (c:Cel) (own:Bool):Co :=
 if x.kind=1 then C.pre x c own else if x.kind=3 then C.Ir x (own && decide (c.st=2)) else if x.kind=6 then C.Hx x c else C
abbrev akA:NC:=.seq Qz (.block 0 (.seq Qq (.cond (.qq 78) yU (.seq yT (.cond (.qq 85) (.seq yS (.seq jh (.cond (.qq 108) jg .skip))) (.seq yR (.cond (.qq 118) (.seq (.seq yP (.cond (.qq 124) (.seq yO (.seq yN (.cond (.qq 133) .ret .skip))) .skip)) yM) .skip)))))))
theorem Oc {C0:Co} {Y0:Ly} {E:Env} {b3 b4:Nat} {x:Lt} {c:Cel} {own:Bool} (ho:Y.ok C) (hxl:wo C.xl) (hkey:x.cmd.key.size≤1000) (hrec:C.recs.length≤1000000) (hout:C.out.length≤999000)
  (H:Hq m M (coA cb Y0 C0).wp [qv b4 (.cells c.cs.toArray qd (0,0)),qv b3 (.cells x.cs.toArray qw (0,0)),coA cb Y C])
  (e0:E.get 0=lp cb) (e3:E.get 3=lp b3) (e4:E.get 4=lp b4) (e7:E.get 7=.bool own) (h0:E.has 0=true) (h3:E.has 3=true) (h4:E.has 4=true) (h7:E.has 7=true) :
  wpN Tryz.prog akA (vL [] fun u M=>∃ A',CoR cb (C.tJ x c own) (.tuple #[]) u A'∧A'.p M∧Fr m M (coA cb Y0 C0).wp∧(∀ b∈A'.fp,b∈(coA cb Y0 C0).fp∨m b=none)∧∀ b∈A'.wp,b∈(coA cb Y0 C0).wp∨m b=none) E M:=by
 by_cases k1:x.kind=1
 ·have hp:C.tJ x c own=C.pre x c own:=if_pos k1
  rw [hp]
  simp (disch:=omega) only [go_sem,undef,e0,e3,e4,e7,h0,h3,h4,h7,H.cs,qX k1]
  refine zq 2 H (qqk (H.at 2 rfl) ho x c own hxl hkey hrec hout) rfl fun u M A' hR f H=>?_
  refine hR.E fun Y2 eu ho2 eA=>?_
  subst eu eA
  simp (disch:=omega) only [go_sem,undef]
  exact qT qu ho2 (H.tail.tail)
 by_cases k3:x.kind=3
 ·have hp:C.tJ x c own=C.Ir x (own && decide (c.st=2)):=by unfold Co.tJ;rw [if_neg k1,if_pos k3]
  rw [hp]
  have hss:=xS C x.inst ⟨2,x.bal,x.bal,x.cmd,x.att,false⟩
  have hpick:∃ d:Bool,d=(own && decide (c.st=2)):=⟨_,rfl⟩
  obtain ⟨d,hd⟩:=hpick
  rw [← hd]
  cases d with
  | true =>
   have hd2:=Bool.and_eq_true_iff.1 hd.symm
   have hst:c.st=2:=of_decide_eq_true hd2.2
   have hown:=hd2.1
   subst hown
   have ha:C.Ir x true=C.send x.src (TY x):=rfl
   rw [ha]
   simp (disch:=omega) only [go_sem,undef,e0,e3,e4,e7,h0,h3,h4,h7,H.cs,qZ k1,qX k3,qX hst]
   refine zq 2 H (dF (H.at 2 rfl) ho x.src (TY x) (by omega)) rfl fun u M A' hR f H=>?_
   refine hR.E fun Y2 eu ho2 eA=>?_
   subst eu eA
   simp (disch:=omega) only [go_sem,undef]
   exact qT qu ho2 (H.tail.tail)
  | false =>
   have ha:C.Ir x false=if (C.set x.inst ⟨2,x.bal,x.bal,x.cmd,x.att,false⟩).2=true then (C.set x.inst ⟨2,x.bal,x.bal,x.cmd,x.att,false⟩).1.send x.src (TY x) else (C.set x.inst ⟨2,x.bal,x.bal,x.cmd,x.att,false⟩).1:=rfl
   rw [ha]
   have key:∀ (E1:Env),E1.get 0=lp cb→E1.get 3=lp b3→E1.get 8=.bool false→E1.has 0=true→E1.has 3=true→E1.has 8=true →
     wpN Tryz.prog (.seq jh (.cond (.qq 108) jg .skip)) (an 0 (vL [] fun u M=>∃ A',CoR cb (if (C.set x.inst ⟨2,x.bal,x.bal,x.cmd,x.att,false⟩).2=true then (C.set x.inst ⟨2,x.bal,x.bal,x.cmd,x.att,false⟩).1.send x.src (TY x) else (C.set x.inst ⟨2,x.bal,x.bal,x.cmd,x.att,false⟩).1) (.tuple #[]) u A'∧A'.p M∧Fr m M (coA cb Y0 C0).wp∧(∀ b∈A'.fp,b∈(coA cb Y0 C0).fp∨m b=none)∧∀ b∈A'.wp,b∈(coA cb Y0 C0).wp∨m b=none)) E1 M:=by
    intro E1 g0 g3 g8 i0 i3 i8
    simp (disch:=omega) only [go_sem,undef,g0,g3,g8,i0,i3,i8,H.cs]
    refine zq 2 H (Xp (H.at 2 rfl) ho x.inst ⟨2,x.bal,x.bal,x.cmd,x.att,false⟩ hrec) rfl fun u M A' hR f H=>?_
    refine hR.E fun Y1 eu ho1 eA=>?_
    subst eu eA
    clear hR ha hp
    generalize C.set x.inst ⟨2,x.bal,x.bal,x.cmd,x.att,false⟩=r at *
    obtain ⟨C1,ok⟩:=r
    have Hn:Hq m M (coA cb Y0 C0).wp [qv b4 (.cells c.cs.toArray qd (0,0)),qv b3 (.cells x.cs.toArray qw (0,0)),coA cb Y1 C1]:=H
    clear H
    cases ok with
    | true =>
     have H:=Hn
     simp (disch:=omega) only [go_sem,undef,g0,g3,g8,i0,i3,i8,H.cs]
     refine zq 2 H (dF (H.at 2 rfl) ho1 x.src (TY x) (Nat.le_trans (Nat.le_of_eq (congrArg List.length hss.2.2.1)) (Nat.le_trans hout (by decide)))) rfl fun u M A' hR f H=>?_
     refine hR.E fun Y2 eu ho2 eA=>?_
     subst eu eA
     simp (disch:=omega) only [go_sem,undef]
     exact qT qu ho2 (H.tail.tail)
    | false =>
     have H:=Hn
     simp (disch:=omega) only [go_sem,undef,g0,g3,g8,i0,i3,i8,H.cs]
     exact qT qu ho1 (H.tail.tail)
   show wpN Tryz.prog (.seq Qz (.block 0 (.seq Qq (.cond (.qq 78) yU (.seq yT (.cond (.qq 85) (.seq yS (.seq jh (.cond (.qq 108) jg .skip))) (.seq yR (.cond (.qq 118) (.seq (.seq yP (.cond (.qq 124) (.seq yO (.seq yN (.cond (.qq 133) .ret .skip))) .skip)) yM) .skip)))))))) _ E M
   generalize hC:(NC.seq jh (.cond (.qq 108) jg .skip))=T at *
   cases own with
   | true =>
    have hst:¬ c.st=2:=fun h=>by rw [decide_eq_true h] at hd;cases hd
    simp (disch:=omega) only [go_sem,undef,e0,e3,e4,e7,h0,h3,h4,h7,H.cs,qZ k1,qX k3,qZ hst]
    exact key _ rfl rfl rfl rfl rfl rfl
   | false =>
    simp (disch:=omega) only [go_sem,undef,e0,e3,e4,e7,h0,h3,h4,h7,H.cs,qZ k1,qX k3]
    exact key _ rfl rfl rfl rfl rfl rfl
 by_cases k6:x.kind=6
 ·have hp:C.tJ x c own=C.Hx x c:=by unfold Co.tJ;rw [if_neg k1,if_neg k3,if_pos k6]
  rw [hp]
  by_cases hpb:c.pr=x.bal
  ·have ha:C.Hx x c=C.send x.src (qjM x c):=if_pos hpb
   rw [ha]
   simp (disch:=omega) only [go_sem,undef,e0,e3,e4,e7,h0,h3,h4,h7,H.cs,qZ k1,qZ k3,qX k6,qX hpb,Bool.not_true]
   refine zq 2 H (dF (H.at 2 rfl) ho x.src (qjM x c) (by omega)) rfl fun u M A' hR f H=>?_
   refine hR.E fun Y2 eu ho2 eA=>?_
   subst eu eA
   simp (disch:=omega) only [go_sem,undef]
   exact qT qu ho2 (H.tail.tail)
  ·have ha:C.Hx x c=if (C.set x.inst { c with pr:=x.bal }).2=true then (C.set x.inst { c with pr:=x.bal }).1.send x.src (qjM x { c with pr:=x.bal }) else (C.set x.inst { c with pr:=x.bal }).1:=if_neg hpb
   rw [ha]
   have hss:=xS C x.inst { c with pr:=x.bal }
   simp (disch:=omega) only [go_sem,undef,e0,e3,e4,e7,h0,h3,h4,h7,H.cs,qZ k1,qZ k3,qX k6,qZ hpb,Bool.not_false]
   refine JQ H (Nat.le_of_ble_eq_true rfl) rfl fun M f H=>?_
   have H:Hq m M (coA cb Y0 C0).wp [qv b4 (.cells ({ c with pr:=x.bal }:Cel).cs.toArray qd (0,0)),qv b3 (.cells x.cs.toArray qw (0,0)),coA cb Y C]:=H
   simp (disch:=omega) only [go_sem,undef,H.cs]
   refine zq 2 H (Xp (H.at 2 rfl) ho x.inst { c with pr:=x.bal } hrec) rfl fun u M A' hR f H=>?_
   refine hR.E fun Y1 eu ho1 eA=>?_
   subst eu eA
   clear hR ha hp
   generalize C.set x.inst { c with pr:=x.bal }=r at *
   obtain ⟨C1,ok⟩:=r
   have Hn:Hq m M (coA cb Y0 C0).wp [qv b4 (.cells ({ c with pr:=x.bal }:Cel).cs.toArray qd (0,0)),qv b3 (.cells x.cs.toArray qw (0,0)),coA cb Y1 C1]:=H
   clear H
   cases ok with
   | true =>
    have H:=Hn
    simp (disch:=omega) only [go_sem,undef,H.cs,Bool.not_true]
    refine zq 2 H (dF (H.at 2 rfl) ho1 x.src (qjM x { c with pr:=x.bal }) (Nat.le_trans (Nat.le_of_eq (congrArg List.length hss.2.2.1)) (Nat.le_trans hout (by decide)))) rfl fun u M A' hR f H=>?_
    refine hR.E fun Y2 eu ho2 eA=>?_
    subst eu eA
    simp (disch:=omega) only [go_sem,undef]
    exact qT qu ho2 (H.tail.tail)
   | false =>
    have H:=Hn
    simp (disch:=omega) only [go_sem,undef,H.cs,Bool.not_false]
    exact qT qu ho1 (H.tail.tail)
 ·have hp:C.tJ x c own=C:=by unfold Co.tJ;rw [if_neg k1,if_neg k3,if_neg k6]
  rw [hp]
  simp (disch:=omega) only [go_sem,undef,e0,e3,e4,e7,h0,h3,h4,h7,H.cs,qZ k1,qZ k3,qZ k6]
  exact qT qu ho (H.tail.tail)
end Go.Fw
namespace Go.Fw
open Go.Proofs
variable {m m0 M:Mem} {S:List Nat} {L:List As}
variable {cb:Nat} {Y:Ly} {C:Co}
theorem IR (b:Nat):rd (.eqp true) [lp b,.pointer none] m=some (.bool true):=rfl
theorem IS:rd (.eqp true) [.pointer none,.pointer none] m=some (.bool false):=rfl
def qjT (x:Lt) (c:Cel):Bool:=decide (c.st≠0∧c.vo=x.bal)
theorem Ob {C0:Co} {Y0:Ly} {E:Env} {b3 b4:Nat} {x:Lt} {c:Cel} (ho:Y.ok C) (hxl:wo C.xl) (hkey:x.cmd.key.size≤1000) (hrec:C.recs.length≤1000000) (hout:C.out.length≤999000)
  (H:Hq m M (coA cb Y0 C0).wp [qv b4 (.cells c.cs.toArray qd (0,0)),qv b3 (.cells x.cs.toArray qw (0,0)),coA cb Y C])
  (e0:E.get 0=lp cb) (e3:E.get 3=lp b3) (e4:E.get 4=lp b4) (h0:E.has 0=true) (h3:E.has 3=true) (h4:E.has 4=true) :
  wpN Tryz.prog (.seq jL akA) (vL [] fun u M=>∃ A',CoR cb (C.tJ x c (qjT x c)) (.tuple #[]) u A'∧A'.p M∧Fr m M (coA cb Y0 C0).wp∧(∀ b∈A'.fp,b∈(coA cb Y0 C0).fp∨m b=none)∧∀ b∈A'.wp,b∈(coA cb Y0 C0).wp∨m b=none) E M:=by
 generalize hC:akA=T
 by_cases h1:c.st≠0
 ·by_cases h2:c.vo=x.bal
  ·have hw:qjT x c=true:=decide_eq_true ⟨h1,h2⟩
   rw [hw]
   simp (disch:=omega) only [go_sem,undef,e0,e3,e4,h0,h3,h4,H.cs,qX h1,qX h2]
   subst hC
   exact Oc ho hxl hkey hrec hout H rfl rfl rfl rfl rfl rfl rfl rfl
  ·have hw:qjT x c=false:=decide_eq_false fun h=>h2 h.2
   rw [hw]
   simp (disch:=omega) only [go_sem,undef,e0,e3,e4,h0,h3,h4,H.cs,qX h1,qZ h2]
   subst hC
   exact Oc ho hxl hkey hrec hout H rfl rfl rfl rfl rfl rfl rfl rfl
 ·have hw:qjT x c=false:=decide_eq_false fun h=>h1 h.1
  rw [hw]
  simp (disch:=omega) only [go_sem,undef,e0,e3,e4,h0,h3,h4,H.cs,qZ h1]
  subst hC
  exact Oc ho hxl hkey hrec hout H rfl rfl rfl rfl rfl rfl rfl rfl
def Co.bH (C:Co) (i b:Int×Int):Co:=match fdL i C.leads with
 | some j=>match C.leads[j]? with
  | some l=>if lt2 l.bal b then C.qU i else C
  | none=>C
 | none=>C
def Co.Od (C:Co) (x:Lt) (c:Cel):Co :=
 if c.st=3 then C.send x.src { Lt.zero with kind:=5,inst:=x.inst,cmd:=c.cmd,att:=c.att } else
 if lt2 x.bal c.pr then C.send x.src { Lt.zero with kind:=8,inst:=x.inst,bal:=c.pr } else
 (C.bH x.inst x.bal).tJ x c (qjT x c)
abbrev akB:NC:=.seq (.seq Zm (.cond (.qq 21) (.seq Zl .ret) .skip)) (.seq (.seq Zi (.cond (.qq 37) (.seq Zh .ret) .skip)) (.seq (.seq Zg (.seq Zf (.cond (.qq 61) Ze .skip))) (.seq jL akA)))
theorem qjy {C0:Co} {Y0:Ly} {E:Env} {b3 b4:Nat} {x:Lt} {c:Cel} (ho:Y.ok C) (hxl:wo C.xl) (hkey:x.cmd.key.size≤1000) (hrec:C.recs.length≤1000000) (hn:C.leads.length≤100000) (hout:C.out.length≤999000)
  (H:Hq m M (coA cb Y0 C0).wp [qv b4 (.cells c.cs.toArray qd (0,0)),qv b3 (.cells x.cs.toArray qw (0,0)),coA cb Y C])
  (e0:E.get 0=lp cb) (e3:E.get 3=lp b3) (e4:E.get 4=lp b4) (h0:E.has 0=true) (h3:E.has 3=true) (h4:E.has 4=true) :
  wpN Tryz.prog akB (vL [] fun u M=>∃ A',CoR cb (C.Od x c) (.tuple #[]) u A'∧A'.p M∧Fr m M (coA cb Y0 C0).wp∧(∀ b∈A'.fp,b∈(coA cb Y0 C0).fp∨m b=none)∧∀ b∈A'.wp,b∈(coA cb Y0 C0).wp∨m b=none) E M:=by
 by_cases hs:c.st=3
 ·have hp:C.Od x c=C.send x.src { Lt.zero with kind:=5,inst:=x.inst,cmd:=c.cmd,att:=c.att }:=if_pos hs
  rw [hp]
  simp (disch:=omega) only [go_sem,undef,e0,e3,e4,h0,h3,h4,H.cs,qX hs]
  refine zq 2 H (dF (H.at 2 rfl) ho x.src { Lt.zero with kind:=5,inst:=x.inst,cmd:=c.cmd,att:=c.att } (by omega)) rfl fun u M A' hR f H=>?_
  refine hR.E fun Y2 eu ho2 eA=>?_
  subst eu eA
  simp (disch:=omega) only [go_sem,undef]
  exact qT qu ho2 (H.tail.tail)
 by_cases hb:lt2 x.bal c.pr
 ·have hp:C.Od x c=C.send x.src { Lt.zero with kind:=8,inst:=x.inst,bal:=c.pr }:=by unfold Co.Od;rw [if_neg hs,if_pos hb]
  rw [hp]
  simp (disch:=omega) only [go_sem,undef,e0,e3,e4,h0,h3,h4,H.cs,qZ hs]
  refine qY H (zn x.bal c.pr _) fun M f H=>?_
  simp (disch:=omega) only [go_sem,undef,e0,e3,e4,h0,h3,h4,H.cs,qX hb]
  refine zq 2 H (dF (H.at 2 rfl) ho x.src { Lt.zero with kind:=8,inst:=x.inst,bal:=c.pr } (by omega)) rfl fun u M A' hR f H=>?_
  refine hR.E fun Y2 eu ho2 eA=>?_
  subst eu eA
  simp (disch:=omega) only [go_sem,undef]
  exact qT qu ho2 (H.tail.tail)
 have hp:C.Od x c=(C.bH x.inst x.bal).tJ x c (qjT x c):=by unfold Co.Od;rw [if_neg hs,if_neg hb]
 rw [hp]
 have hyd:C.bH x.inst x.bal=match fdL x.inst C.leads with
  | some j=>match C.leads[j]? with
   | some l=>if lt2 l.bal x.bal then C.qU x.inst else C
   | none=>C
  | none=>C:=rfl
 show wpN Tryz.prog (.seq (.seq Zm (.cond (.qq 21) (.seq Zl .ret) .skip)) (.seq (.seq Zi (.cond (.qq 37) (.seq Zh .ret) .skip)) (.seq (.seq Zg (.seq Zf (.cond (.qq 61) Ze .skip))) (.seq jL akA)))) _ E M
 generalize hC:(NC.seq jL akA)=T
 simp (disch:=omega) only [go_sem,undef,e0,e3,e4,h0,h3,h4,H.cs,qZ hs]
 refine qY H (zn x.bal c.pr _) fun M f H=>?_
 simp (disch:=omega) only [go_sem,undef,e0,e3,e4,h0,h3,h4,H.cs,qZ hb]
 refine qY H (Xn (H.at 2 rfl) ho x.inst (by omega)) fun M f H=>?_
 cases hfd:fdL x.inst C.leads with
 | none =>
  rw [hfd] at hyd
  simp only at hyd
  rw [hyd]
  have hpt:ptO Y.lds none=.pointer none:=rfl
  simp (disch:=omega) only [go_sem,undef,e0,e3,e4,h0,h3,h4,H.cs,hpt,IS]
  subst hC
  exact Ob ho hxl hkey hrec hout H rfl rfl rfl rfl rfl rfl
 | some j =>
  rw [hfd] at hyd
  have hjl:j < C.leads.length:=by
   unfold fdL at hfd
   rw [List.findIdx?_eq_some_iff_getElem] at hfd
   exact hfd.1
  have hlen:=ho.lds
  refine Exists.elim (⟨C.leads[j],List.getElem?_eq_getElem hjl⟩:∃ l,C.leads[j]?=some l) fun l hl=>?_
  refine Exists.elim (⟨Y.lds[j]'(by omega),List.getElem?_eq_getElem (by omega)⟩:∃ v,Y.lds[j]?=some v) fun v hv=>?_
  simp only [hl] at hyd
  have hpt:ptO Y.lds (some j)=lp v.b:=by simp [ptO,hv]
  have hcl:=zz (zZ (zb (H.at 2 rfl)) hv hl)
  by_cases hlb:lt2 l.bal x.bal
  ·rw [if_pos hlb] at hyd
   rw [hyd]
   simp (disch:=omega) only [go_sem,undef,e0,e3,e4,h0,h3,h4,H.cs,hpt,IR,hcl,Ld.c]
   refine qY H (zn l.bal x.bal _) fun M f H=>?_
   simp (disch:=omega) only [go_sem,undef,e0,e3,e4,h0,h3,h4,H.cs,qX hlb]
   refine zq 2 H (Ji (H.at 2 rfl) ho x.inst (by omega)) rfl fun u M A' hR f H=>?_
   refine hR.E fun Y1 eu ho1 eA=>?_
   subst eu eA
   have H:Hq m M (coA cb Y0 C0).wp [qv b4 (.cells c.cs.toArray qd (0,0)),qv b3 (.cells x.cs.toArray qw (0,0)),coA cb Y1 (C.qU x.inst)]:=H
   simp (disch:=omega) only [go_sem,undef]
   subst hC
   exact Ob ho1 hxl hkey hrec hout H rfl rfl rfl rfl rfl rfl
  ·rw [if_neg hlb] at hyd
   rw [hyd]
   simp (disch:=omega) only [go_sem,undef,e0,e3,e4,h0,h3,h4,H.cs,hpt,IR,hcl,Ld.c]
   refine qY H (zn l.bal x.bal _) fun M f H=>?_
   simp (disch:=omega) only [go_sem,undef,e0,e3,e4,h0,h3,h4,H.cs,qZ hlb]
   subst hC
   exact Ob ho hxl hkey hrec hout H rfl rfl rfl rfl rfl rfl
def Co.asked (C:Co) (x:Lt):Co:=C.Od x ((lkC x.inst C.lg).getD Cel.zero)
theorem qqN:Jp=.seq WA (.seq Wu akB):=rfl
theorem NM (h:(coA cb Y C).p m) (ho:Y.ok C) (x:Lt) (hxl:wo C.xl) (hkey:x.cmd.key.size≤1000) (hrec:C.recs.length≤1000000) (hn:C.leads.length≤100000) (hout:C.out.length≤999000) :
  CM Tryz.prog ph [lp cb,x.v] m (coA cb Y C) (CoR cb (C.asked x) (.tuple #[])):=by
 have H:=Hq.one h
 refine ob (by simp [Tryz.f33]) ?_
 rw [qqN]
 generalize hC:akB=T
 simp (disch:=omega) only [go_sem,undef]
 refine qh H fun b3 M f H=>?_
 simp (disch:=omega) only [go_sem,undef,H.cs,qy (H.at 1 rfl),Ly.c]
 refine qI ?_ ?_
 ·simp (disch:=omega) only [go_sem,undef,H.cs,qy (H.at 1 rfl),Ly.c]
  refine qY H (zH (kP (H.at 1 rfl)) x.inst) fun M f H=>?_
  simp (disch:=omega) only [go_sem,undef,H.cs,qy (H.at 1 rfl),Ly.c]
  refine qh H fun b4 M f H=>?_
  simp (disch:=omega) only [go_sem,undef,H.cs,qy (H.at 2 rfl),Ly.c]
  refine qs H rfl rfl fun M f H=>?_
  simp (disch:=omega) only [go_sem,undef]
  subst hC
  exact qjy ho hxl hkey hrec hn hout H rfl rfl rfl rfl rfl rfl
 ·simp (disch:=omega) only [go_sem,undef,H.cs,qy (H.at 1 rfl),Ly.c]
  refine qh H fun b4 M f H=>?_
  simp (disch:=omega) only [go_sem,undef,H.cs,qy (H.at 2 rfl),Ly.c]
  refine qY H (zH (kP (H.at 2 rfl)) x.inst) fun M f H=>?_
  simp (disch:=omega) only [go_sem,undef,H.cs,qy (H.at 2 rfl),Ly.c]
  refine qs H rfl rfl fun M f H=>?_
  simp (disch:=omega) only [go_sem,undef]
  subst hC
  exact qjy ho hxl hkey hrec hn hout H rfl rfl rfl rfl rfl rfl
end Go.Fw
namespace Go.Fw
open Go.Proofs
variable {m m0 M:Mem} {S:List Nat} {L:List As}
variable {cb:Nat} {Y:Ly} {C:Co}
def Co.accept (C:Co) (l:Ld) (x:Cmd) (a:Att):Co :=
 if xW a then
  if (C.set l.id ⟨2,l.bal,l.bal,x,a,false⟩).2=true then (C.set l.id ⟨2,l.bal,l.bal,x,a,false⟩).1.jl (xa l.id 1 l.bal false x a)
  else (C.set l.id ⟨2,l.bal,l.bal,x,a,false⟩).1.qU l.id
 else C.qU l.id
theorem mZ (h:(coA cb Y C).p m) (ho:Y.ok C) {j:Nat} {v:LdV} {l:Ld} (hv:Y.lds[j]?=some v) (hl:C.leads[j]?=some l) (x:Cmd) (a:Att) (hrec:C.recs.length≤1000000) (hn:C.leads.length≤100000) (hn7:C.n≤7) (hout:C.out.length≤999000) :
  CM Tryz.prog VI [lp cb,lp v.b,x.v,a.v] m (coA cb Y C) (CoN cb Y C l.id (C.accept l x a) (.tuple #[])):=by
 have H:=Hq.one h
 have hss:=xS C l.id ⟨2,l.bal,l.bal,x,a,false⟩
 by_cases hr:xW a
 ·have hp:C.accept l x a=if (C.set l.id ⟨2,l.bal,l.bal,x,a,false⟩).2=true then (C.set l.id ⟨2,l.bal,l.bal,x,a,false⟩).1.jl (xa l.id 1 l.bal false x a) else (C.set l.id ⟨2,l.bal,l.bal,x,a,false⟩).1.qU l.id:=if_pos hr
  rw [hp]
  refine VZ (by simp [Tryz.f33]) ?_
  simp (disch:=omega) only [go_sem,undef]
  refine qh H fun b6 M f H=>?_
  simp (disch:=omega) only [go_sem,undef]
  refine qh H fun b7 M f H=>?_
  simp (disch:=omega) only [go_sem,undef,H.cs]
  refine qY H (zK a _) fun M f H=>?_
  have hcl:=zz (zZ (zb (H.at 2 rfl)) hv hl)
  simp (disch:=omega) only [go_sem,undef,H.cs,qX hr,Bool.not_true,hcl,Ld.c]
  refine zq 2 H (cm (H.at 2 rfl) ho l.id ⟨2,l.bal,l.bal,x,a,false⟩ hrec) rfl fun u M A' hR f H=>?_
  refine hR.E fun Y1 eu ho1 eA hy1=>?_
  subst eu eA
  clear hR hp
  generalize C.set l.id ⟨2,l.bal,l.bal,x,a,false⟩=r at *
  obtain ⟨C1,ok⟩:=r
  have Hn:Hq m M (coA cb Y C).wp [qv b7 (.cells a.cs.toArray qb (0,0)),qv b6 (.cells x.cs.toArray qB (0,0)),coA cb Y1 C1]:=H
  clear H
  have hl1:C1.leads[j]?=some l:=by rw [show C1.leads=C.leads from hss.1];exact hl
  have hv1:Y1.lds[j]?=some v:=by rw [hy1];exact hv
  cases ok with
  | true =>
   have H:=Hn
   have hcl:=zz (zZ (zb (H.at 2 rfl)) hv1 hl1)
   simp (disch:=omega) only [go_sem,undef,H.cs,Bool.not_true,hcl,Ld.c]
   refine qh H fun b9 M f H=>?_
   have H:=UK H
   have H:Hq m M (coA cb Y C).wp (ldA ⟨b9,.slice none 0 0,.slice none 0 0⟩ (xa l.id 1 l.bal false x a)::coA cb Y1 C1::[]):=H.sel 4 [0,3] rfl (by decide) (by decide)
   have H:=Hq.join H
   simp (disch:=omega) only [go_sem,undef]
   refine jb H (rS (H.at 0 rfl) ho1 (Nat.le_trans (Nat.le_of_eq (congrArg List.length hss.1)) hn) (Nat.le_trans (Nat.le_of_eq hss.2.1) hn7) (Nat.le_trans (Nat.le_of_eq (congrArg List.length hss.2.2.1)) hout)) fun u M A' hR f H=>?_
   refine hR.E fun Y2 eu ho2 eA hk2=>?_
   subst eu eA
   simp (disch:=omega) only [go_sem,undef]
   exact ou qu ho2 ((Kp.same hy1 hss.1).trans hk2) H
  | false =>
   have H:=Hn
   have hcl:=zz (zZ (zb (H.at 2 rfl)) hv1 hl1)
   simp (disch:=omega) only [go_sem,undef,H.cs,Bool.not_false,hcl,Ld.c]
   refine zq 2 H (Jl (H.at 2 rfl) ho1 l.id (Nat.le_trans (Nat.le_of_eq (congrArg List.length hss.1)) (Nat.le_trans hn (by decide)))) rfl fun u M A' hR f H=>?_
   refine hR.E fun Y2 eu ho2 eA hk2=>?_
   subst eu eA
   simp (disch:=omega) only [go_sem,undef]
   exact ou qu ho2 ((Kp.same hy1 hss.1).trans hk2) (H.tail.tail)
 ·have hp:C.accept l x a=C.qU l.id:=if_neg hr
  rw [hp]
  refine VZ (by simp [Tryz.f33]) ?_
  simp (disch:=omega) only [go_sem,undef]
  refine qh H fun b6 M f H=>?_
  simp (disch:=omega) only [go_sem,undef]
  refine qh H fun b7 M f H=>?_
  simp (disch:=omega) only [go_sem,undef,H.cs]
  refine qY H (zK a _) fun M f H=>?_
  have hcl:=zz (zZ (zb (H.at 2 rfl)) hv hl)
  simp (disch:=omega) only [go_sem,undef,H.cs,qZ hr,Bool.not_false,hcl,Ld.c]
  refine zq 2 H (Jl (H.at 2 rfl) ho l.id (by omega)) rfl fun u M A' hR f H=>?_
  refine hR.E fun Y2 eu ho2 eA hk2=>?_
  subst eu eA
  simp (disch:=omega) only [go_sem,undef]
  exact ou qu ho2 hk2 (H.tail.tail)
theorem mQ (h:(coA cb Y C).p m) (ho:Y.ok C) {j:Nat} {v:LdV} {l:Ld} (hv:Y.lds[j]?=some v) (hl:C.leads[j]?=some l) (x:Cmd) (a:Att) (hrec:C.recs.length≤1000000) (hn:C.leads.length≤100000) (hn7:C.n≤7) (hout:C.out.length≤999000) :
  CM Tryz.prog VI [lp cb,lp v.b,x.v,a.v] m (coA cb Y C) (CoR cb (C.accept l x a) (.tuple #[])):=CH (mZ h ho hv hl x a hrec hn hn7 hout)
end Go.Fw
namespace Go.Fw
open Go.Proofs
variable {m m0 M:Mem} {S:List Nat} {L:List As}
variable {cb:Nat} {Y:Ly} {C:Co}
def CoM (cb:Nat) (Y0:Ly) (C0:Co) (i:Int×Int) (C:Co) (b:Bool) (u:Value) (A:As):Prop:=u=.bool b∧∃ Y:Ly,Y.ok C∧Kp i Y0 C0 Y C∧(b=false→Y.lds=Y0.lds)∧A=coA cb Y C
theorem CoM.E {G:Prop} {Y0:Ly} {C0 C:Co} {i:Int×Int} {b:Bool} {u:Value} {A:As} (h:CoM cb Y0 C0 i C b u A) (k:∀ Y,u=.bool b→Y.ok C→A=coA cb Y C→Kp i Y0 C0 Y C→(b=false→Y.lds=Y0.lds)→G):G:=by
 obtain ⟨h1,Y,h2,h4,h5,h3⟩:=h
 exact k Y h1 h2 h3 h4 h5
theorem qqu {A:As} {Y0 Y':Ly} {C0 C':Co} {i:Int×Int} {b:Bool} (hfw:A.fp=A.wp) (ho:Y'.ok C') (hk:Kp i Y0 C0 Y' C') (hy:b=false→Y'.lds=Y0.lds) (H:Hq m M A.wp [coA cb Y' C']) :
  ∃ A',CoM cb Y0 C0 i C' b (.bool b) A'∧A'.p M∧Fr m M A.wp∧(∀ b∈A'.fp,b∈A.fp∨m b=none)∧∀ b∈A'.wp,b∈A.wp∨m b=none :=
 ⟨_,⟨rfl,_,ho,hk,hy,rfl⟩,H.hs.1,H.fr,fun b hb=>by rw [hfw];rw [qu] at hb;exact H.done.2.2 b hb,H.done.2.2⟩
def Co.Ku (C:Co) (l:Ld) (d:Int) (a:Att):Co×Bool:=if d=1 then (C.Qk l.id l.cmd a,true) else if d=2 then (C.accept l l.cmd a,true) else (C,false)
def Co.vF (C:Co) (l:Ld) (late:Bool):Co×Bool:=C.Ku l (Bk C.n l.first l.att l.reps late).1 (Bk C.n l.first l.att l.reps late).2
theorem OD {C:Co} {l:Ld} {late:Bool} (h:(C.vF l late).2=false):(C.vF l late).1=C:=by
 unfold Co.vF Co.Ku at *
 split at h
 ·cases h
 ·rename_i h1
  rw [if_neg h1]
  split at h
  ·cases h
  ·rename_i h2
   rw [if_neg h2]
abbrev wgA:NC:=.seq (.seq Wp (.block 0 (.seq Wo (.cond (.qq 31) Wn (.seq Wm (.cond (.qq 44) Wl (.seq Wi .ret))))))) (.seq Wh .ret)
theorem qzz {C0:Co} {Y0:Ly} {E:Env} {b8 j:Nat} {v:LdV} {l:Ld} {d:Int} {a:Att} (hk:Kp l.id Y0 C0 Y C) (hy:Y.lds=Y0.lds) (ho:Y.ok C) (hv:Y.lds[j]?=some v) (hl:C.leads[j]?=some l) (hrec:C.recs.length≤1000000) (hn:C.leads.length≤100000) (hn7:C.n≤7) (hout:C.out.length≤999000)
  (H:Hq m M (coA cb Y0 C0).wp [qv b8 (.cells a.cs.toArray qb (0,0)),coA cb Y C])
  (e0:E.get 0=lp cb) (e1:E.get 1=lp v.b) (e7:E.get 7=.int .i64 d) (e8:E.get 8=lp b8) (h0:E.has 0=true) (h1:E.has 1=true) (h7:E.has 7=true) (h8:E.has 8=true) :
  wpN Tryz.prog wgA (vL [.qq 6] fun u M=>∃ A',CoM cb Y0 C0 l.id (C.Ku l d a).1 (C.Ku l d a).2 u A'∧A'.p M∧Fr m M (coA cb Y0 C0).wp∧(∀ b∈A'.fp,b∈(coA cb Y0 C0).fp∨m b=none)∧∀ b∈A'.wp,b∈(coA cb Y0 C0).wp∨m b=none) E M:=by
 have hcl:=zz (zZ (zb (H.at 1 rfl)) hv hl)
 by_cases d1:d=1
 ·have hp:C.Ku l d a=(C.Qk l.id l.cmd a,true):=if_pos d1
  rw [hp]
  simp (disch:=omega) only [go_sem,undef,e0,e1,e7,e8,h0,h1,h7,h8,H.cs,qX d1,hcl,Ld.c]
  refine zq 1 H (my (H.at 1 rfl) ho l.id l.cmd a hrec hn hn7 hout) rfl fun u M A' hR f H=>?_
  refine hR.E fun Y2 eu ho2 eA hk2=>?_
  subst eu eA
  simp (disch:=omega) only [go_sem,undef]
  exact qqu (b:=true) qu ho2 (hk.trans hk2) (fun e=>absurd e (by decide)) H.tail
 by_cases d2:d=2
 ·have hp:C.Ku l d a=(C.accept l l.cmd a,true):=by unfold Co.Ku;rw [if_neg d1,if_pos d2]
  rw [hp]
  simp (disch:=omega) only [go_sem,undef,e0,e1,e7,e8,h0,h1,h7,h8,H.cs,qZ d1,qX d2,hcl,Ld.c]
  refine zq 1 H (mZ (H.at 1 rfl) ho hv hl l.cmd a hrec hn hn7 hout) rfl fun u M A' hR f H=>?_
  refine hR.E fun Y2 eu ho2 eA hk2=>?_
  subst eu eA
  simp (disch:=omega) only [go_sem,undef]
  exact qqu (b:=true) qu ho2 (hk.trans hk2) (fun e=>absurd e (by decide)) H.tail
 ·have hp:C.Ku l d a=(C,false):=by unfold Co.Ku;rw [if_neg d1,if_neg d2]
  rw [hp]
  simp (disch:=omega) only [go_sem,undef,e0,e1,e7,e8,h0,h1,h7,h8,H.cs,qZ d1,qZ d2]
  exact qqu (b:=false) qu ho hk (fun _=>hy) H.tail
theorem Tl:Jn=.seq Ws (.seq Wr wgA):=rfl
theorem qzH {v:LdV} {x:Ld} (h:(ldA v x).p m):RdS 8 Att.cs m v.rp x.reps:=Own.rds (by decide) Att.len (zy h (qK qb 8 v.rp x.reps.length (x.reps.flatMap Att.cs)) (by simp))
theorem rR (h:(coA cb Y C).p m) (ho:Y.ok C) {j:Nat} {v:LdV} {l:Ld} (hv:Y.lds[j]?=some v) (hl:C.leads[j]?=some l) (late:Bool) (hrec:C.recs.length≤1000000) (hn:C.leads.length≤100000) (hn7:C.n≤7) (hout:C.out.length≤999000) (hreps:l.reps.length≤100) :
  CM Tryz.prog YV [lp cb,lp v.b,.bool late] m (coA cb Y C) (CoM cb Y C l.id (C.vF l late).1 (C.vF l late).2):=by
 have H:=Hq.one h
 have hw:C.vF l late=C.Ku l (Bk C.n l.first l.att l.reps late).1 (Bk C.n l.first l.att l.reps late).2:=rfl
 rw [hw]
 obtain ⟨ra,rc,hrp⟩:=(qzH (zZ (zb h) hv hl)).form
 have hpre:=fun M (hA:(coA cb Y C).p M)=>pre_s (n:=C.n) (first:=l.first) (late:=late) (own:=l.att) (hrp▸qzH (zZ (zb hA) hv hl)) (by omega) hreps
 refine oZ (by simp [Tryz.f33]) ?_
 rw [Tl]
 generalize hC:wgA=T
 generalize Bk C.n l.first l.att l.reps late=q at *
 obtain ⟨d,a⟩:=q
 have hcl:=fun M (hA:(coA cb Y C).p M)=>zz (zZ (zb hA) hv hl)
 simp (disch:=omega) only [go_sem,undef,qy (H.at 0 rfl),Ly.c,hcl _ (H.at 0 rfl),Ld.c,hrp]
 refine qI ?_ ?_
 ·simp (disch:=omega) only [go_sem,undef,qy (H.at 0 rfl),Ly.c,hcl _ (H.at 0 rfl),Ld.c,hrp]
  refine qY H (hpre _ (H.at 0 rfl)) fun M f H=>?_
  simp (disch:=omega) only [go_sem,undef,qy (H.at 0 rfl),Ly.c,hcl _ (H.at 0 rfl),Ld.c,hrp]
  refine qh H fun b8 M f H=>?_
  simp (disch:=omega) only [go_sem,undef,qy (H.at 1 rfl),Ly.c,hcl _ (H.at 1 rfl),Ld.c,hrp]
  refine qs H rfl rfl fun M f H=>?_
  simp (disch:=omega) only [go_sem,undef]
  subst hC
  exact qzz (Kp.same rfl rfl) rfl ho hv hl hrec hn hn7 hout H rfl rfl rfl rfl rfl rfl rfl rfl
 ·simp (disch:=omega) only [go_sem,undef,qy (H.at 0 rfl),Ly.c,hcl _ (H.at 0 rfl),Ld.c,hrp]
  refine qh H fun b8 M f H=>?_
  simp (disch:=omega) only [go_sem,undef,qy (H.at 1 rfl),Ly.c,hcl _ (H.at 1 rfl),Ld.c,hrp]
  refine qY H (hpre _ (H.at 1 rfl)) fun M f H=>?_
  simp (disch:=omega) only [go_sem,undef,qy (H.at 1 rfl),Ly.c,hcl _ (H.at 1 rfl),Ld.c,hrp]
  refine qs H rfl rfl fun M f H=>?_
  simp (disch:=omega) only [go_sem,undef]
  subst hC
  exact qzz (Kp.same rfl rfl) rfl ho hv hl hrec hn hn7 hout H rfl rfl rfl rfl rfl rfl rfl rfl
theorem NL (h:(coA cb Y C).p m) (ho:Y.ok C) {j:Nat} {v:LdV} {l:Ld} (hv:Y.lds[j]?=some v) (hl:C.leads[j]?=some l) (late:Bool) (hrec:C.recs.length≤1000000) (hn:C.leads.length≤100000) (hn7:C.n≤7) (hout:C.out.length≤999000) (hreps:l.reps.length≤100) :
  CM Tryz.prog YV [lp cb,lp v.b,.bool late] m (coA cb Y C) (CoR cb (C.vF l late).1 (.bool (C.vF l late).2)) :=
 MC.mono (rR h ho hv hl late hrec hn hn7 hout hreps) fun v M ⟨A',⟨h1,Y,h2,_,_,h3⟩,h⟩=>⟨A',⟨h1,Y,h2,h3⟩,h⟩
end Go.Fw
namespace Go.Fw
open Go.Proofs
variable {m m0 M:Mem} {S:List Nat} {L:List As}
variable {cb:Nat} {Y:Ly} {C:Co}
theorem CoC.aL (c:CoC) (n me:Int) (a b:Nat):lay c.cs [(0,1),(1,1),(2,1),(3,1)] [.int .i64 n,.int .i64 me,lp a,lp b]=some ({ c with n:=n,me:=me,lg:=lp a,ix:=lp b }:CoC).cs:=rfl
attribute [go_sem] CoC.aL
def Co.new (n me:Nat) (cut:Dp):Co:=⟨n,me,xH Dp.zero cut,[],xH Dp.zero cut,[],[],[],[],[],[]⟩
theorem AP (n me:Nat) (hn:n=3∨n=5∨n=7) (hme:me < n) (cut:Dp) (hcut:xW ⟨0,cut⟩) (m:Mem) :
  CN Tryz.prog Ee [.int .i64 (n:Nat),.int .i64 (me:Nat),cut.v,.slice none 0 0] m fun u A=>∃ cb Y,Y.ok (Co.new n me cut)∧u=.tuple #[lp cb,.int .i64 0]∧A=coA cb Y (Co.new n me cut):=by
 refine AO (by simp [Tryz.f33]) ?_
 have H:=Hq.refl m []
 simp (disch:=omega) only [go_sem,undef]
 refine qh H fun b6 M f H=>?_
 simp (disch:=omega) only [go_sem,undef]
 refine qY H (qwj _ _) fun M f H=>?_
 simp (disch:=omega) only [go_sem,undef,H.cs,qX (show ((n:Nat):Int)=3∨((n:Nat):Int)=5∨((n:Nat):Int)=7 by omega),Bool.not_true,qZ (show ¬ ((me:Nat):Int) < 0 by omega),qZ (show ¬ ((me:Nat):Int)≥(n:Nat) by omega)]
 refine qY H (zK ⟨0,cut⟩ _) fun M f H=>?_
 simp (disch:=omega) only [go_sem,undef,H.cs,qX hcut,Bool.not_true]
 refine xd H (Lj cut _) fun u M A' hR f H=>?_
 refine Exists.elim hR fun lb hh=>Exists.elim hh fun lr hh=>?_
 have eu:=hh.1
 have eA:=hh.2
 subst eu eA
 clear hh hR
 simp (disch:=omega) only [go_sem,undef]
 refine xd H (LX _) fun u M A' hR f H=>?_
 refine Exists.elim hR fun xb hh=>Exists.elim hh fun xr hh=>?_
 have eu:=hh.1
 have eA:=hh.2
 subst eu eA
 clear hh hR
 simp (disch:=omega) only [go_sem,undef]
 refine qh H fun cb M f H=>?_
 simp (disch:=omega) only [go_sem,undef,H.cs]
 refine bE 1 (xC xb xr Dp.zero []) (xC xb xr (xH Dp.zero cut) []) H (MC.mono (AC (H.at 1 rfl) (by simp [yy]) cut) fun u M h=>by simpa using h) rfl rfl rfl fun M f H=>?_
 simp (disch:=omega) only [go_sem,undef]
 refine ql (fun k E m'=>E=[(10,lp cb),(47,.slice none 0 0),(48,.int .i64 0),(49,.int .i64 0)]∧m'=M) 0 rfl ⟨rfl,rfl⟩ ?_
 rintro k E M1 ⟨rfl,rfl⟩
 simp (disch:=omega) only [go_sem,undef]
 have H:Hq m M1 [] [qv cb (.cells (CoC.mk n me (lp lb) (lp xb) (.slice none 0 0) (.slice none 0 0) (.slice none 0 0) (.slice none 0 0)).cs.toArray qG (0,0)),xC xb xr (xH Dp.zero cut) [],jT lb lr (xH Dp.zero cut) [],qv b6 (.cells (dv cut).toArray wm (0,0))]:=H
 have H:=((((H.yD qc 1).yD qQ 1).qzC qC).yD qw 51).PB.PB
 have H:Hq m M1 [] (coL cb ⟨lb,lr,xb,xr,.slice none 0 0,.slice none 0 0,.slice none 0 0,.slice none 0 0,[],[],[]⟩ (Co.new n me cut)++[]):=H.sel 10 [6,8,7,5,4,3,2,0,1] rfl (by decide) (by decide)
 have H:=Hq.coJ H
 refine xY ⟨_,⟨cb,⟨lb,lr,xb,xr,.slice none 0 0,.slice none 0 0,.slice none 0 0,.slice none 0 0,[],[],[]⟩,⟨rfl,rfl,rfl⟩,rfl,rfl⟩,H.hs.1,H.fr,fun b hb=>?_⟩
 rw [qu] at hb
 exact (H.nw _ (List.mem_cons_self ..) b hb).resolve_right (by simp)
end Go.Fw
