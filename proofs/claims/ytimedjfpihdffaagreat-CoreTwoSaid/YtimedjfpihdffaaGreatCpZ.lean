import Derived.Test.YtimedjfpihdffaaGreatCpY
set_option linter.unusedVariables false
set_option linter.unusedSimpArgs false
set_option maxHeartbeats 16000000
namespace Go.Fw
open Go.Proofs
variable {m m0 M:Mem} {S:List Nat} {L:List As}
variable {cb:Nat} {Y:Ly} {C:Co}
abbrev iV(n:Int):Value:=.int .i64 n
theorem IS:XI false [.i .i64] iV where
 fit x:=rfl
 eq x y:=qwX x y
def df(k:Int):Int:=if k=2 then 0 else if k=4 then 1 else if k=7 then 2 else 0
theorem Ue(k:Int):(match look k (gm 7 (iV 2) (gm 4 (iV 1) (gm 2 (iV 0) ([]:List (Int×Value))))) with | some v=>v | none=>iV 0)=iV (df k):=by
 have e:gm 7 (iV 2) (gm 4 (iV 1) (gm 2 (iV 0) ([]:List (Int×Value))))=[(2,iV 0),(4,iV 1),(7,iV 2)]:=by simp [gm,zz]
 rw [e]
 unfold df look
 by_cases h2:k=2
 ·subst h2;rfl
 by_cases h4:k=4
 ·subst h4;rfl
 by_cases h7:k=7
 ·subst h7;rfl
 ·rw [if_neg h2,if_neg h4,if_neg h7]
  simp [Kw,h2,h4,h7,Ne.symm h2,Ne.symm h4,Ne.symm h7]
theorem qym{E:Env}{b3:Nat}{x:Lt}{Q:Exit→Env→Mem→Prop}(H:Hq m M S (qw b3 (.cells x.cs.toArray qv (0,0))::L))(e3:E.get 3=lp b3)(h0:E.has 0=true)(h3:E.has 3=true)(h4:E.has 4=true)(K:∀ M,Hq m M S (qw b3 (.cells x.cs.toArray qv (0,0))::L)→Q .normal [(0,E.get 0),(3,lp b3),(4,E.get 4),(5,.int .i64 (df x.kind))] M) :
  wpN Tryz.prog za Q E M:=by
 simp (disch:=omega) only [go_sem,undef,e3,h0,h3,h4,H.cs]
 refine qg H λr M f H=>?_
 simp (disch:=omega) only [go_sem,undef,e3,h0,h3,h4,H.cs]
 have hM:VW iV M r ([]:List (Int×Value)):=⟨#[],0,H.cs.1,rfl,by simp [zz],by simp,by simp⟩
 refine oQ (k:=(2:Int)) IS hM λM1 hM f1 _=>?_
 simp (disch:=omega) only [go_sem,undef,e3,h0,h3,h4]
 refine oQ (k:=(4:Int)) IS hM λM2 hM f2 _=>?_
 simp (disch:=omega) only [go_sem,undef,e3,h0,h3,h4]
 refine oQ (k:=(7:Int)) IS hM λM3 hM f3 _=>?_
 have H:=H.PP (A':=qjI) (M:=M3) trivial (by simpa using ((f1.cZ f2).cZ f3)) (by simp) (by simp)
 have H:=H.tail
 have hlk:=qjf IS hM x.kind (iV 0) false
 have hlk2:rd (.lkp false [.i .i64] (.int .i64 0) false) [.map (some r),.int .i64 x.kind] M3=some (.int .i64 (df x.kind)):=by
  refine hlk.trans (congrArg some ?_)
  exact Ue x.kind
 simp (disch:=omega) only [go_sem,undef,e3,h0,h3,h4,H.cs,hlk2]
 exact K _ H
end Go.Fw
namespace Go.Fw
open Go.Proofs
variable {m m0 M:Mem} {S:List Nat} {L:List As}
theorem Ww{α β γ:Type}(f:α→β→γ):∀ (j:Nat) (vs:List α) (xs:List β) (v:α) (x:β),vs[j]?=some v→xs[j]?=some x→(List.zipWith f vs xs).Perm (f v x::List.zipWith f (vs.eraseIdx j) (xs.eraseIdx j))
 | _,[],_,_,_,h,_=>by simp at h
 | _,_::_,[],_,_,_,h=>by simp at h
 | 0,a::vs,b::xs,v,x,h1,h2=>by
  simp at h1 h2;subst h1 h2;exact List.Perm.refl _
 | j+1,a::vs,b::xs,v,x,h1,h2=>by
  have ih:=Ww f j vs xs v x (by simpa using h1) (by simpa using h2)
  exact (ih.cons (f a b)).trans (List.Perm.swap ..)
theorem qxj{vs:List LdV}{xs:List Ld}{j:Nat}{v:LdV}{x:Ld}(hv:vs[j]?=some v)(hx:xs[j]?=some x)(H:Hq m0 m S (Qb vs xs::L)):Hq m0 m S (ldA v x::Qb (vs.eraseIdx j) (xs.eraseIdx j)::L):=by
 have H:=Hq.zc (l:=List.zipWith ldA vs xs) H
 have H:=H.perm ((Ww ldA j vs xs v x hv hx).symm.append_right L)
 exact (Hq.jc (l:=List.zipWith ldA (vs.eraseIdx j) (xs.eraseIdx j)) (L:=ldA v x::L) (H.perm (List.perm_middle))).perm (List.Perm.swap ..)
theorem qqm{vs:List LdV}{xs:List Ld}{j:Nat}{v:LdV}{x:Ld}(hv:j < vs.length)(hx:j < xs.length)(H:Hq m0 m S (ldA v x::Qb (vs.eraseIdx j) (xs.eraseIdx j)::L)):Hq m0 m S (Qb (vs.set j v) (xs.set j x)::L):=by
 have H:=Hq.zc (l:=List.zipWith ldA (vs.eraseIdx j) (xs.eraseIdx j)) (H.perm (List.Perm.swap ..))
 have hp:=Ww ldA j (vs.set j v) (xs.set j x) v x (by simp [hv]) (by simp [hx])
 rw [List.eraseIdx_set_eq,List.eraseIdx_set_eq] at hp
 exact Hq.jc (l:=List.zipWith ldA (vs.set j v) (xs.set j x)) (H.perm ((hp.append_right L).trans List.perm_middle.symm))
end Go.Fw
namespace Go.Fw
open Go.Proofs
variable {m m0 M:Mem} {S:List Nat} {L:List As}
variable {cb:Nat} {Y:Ly} {C:Co}
def coR(cb:Nat)(Y:Ly)(C:Co)(j:Nat):List As:=[Qb (Y.lds.eraseIdx j) (C.leads.eraseIdx j),qw cb (.cells (Y.c C).cs.toArray qH (0,0)),xe Y.lb Y.lr C.cut C.lg,xT Y.xb Y.xr C.xcut C.xl,qV qd 1 Y.lv Y.lds.length (Y.lds.flatMap λv=>ptV v.b),qV qQ 1 Y.wv Y.wss.length (Y.wss.flatMap ptV),
 brA qB Y.rv Y.rs C.recs,qV qv 51 Y.ov C.out.length (C.out.flatMap Lt.cs),we Y.wss C.wishes]
theorem TU{j:Nat}{v:LdV}{l:Ld}(hv:Y.lds[j]?=some v)(hl:C.leads[j]?=some l)(H:Hq m0 m S (coA cb Y C::L)) :
  Hq m0 m S (qw v.b (.cells (l.c v).cs.toArray qN (0,0))::qV qb 8 v.rp l.reps.length (l.reps.flatMap Att.cs)::qV qD 22 v.sd l.said.length (l.said.flatMap Sd.cs)::qP (coR cb Y C j)::L):=by
 have H:=Hq.coS H
 have H:Hq m0 m S (Qb Y.lds C.leads::([qw cb (.cells (Y.c C).cs.toArray qH (0,0)),xe Y.lb Y.lr C.cut C.lg,xT Y.xb Y.xr C.xcut C.xl,qV qd 1 Y.lv Y.lds.length (Y.lds.flatMap λv=>ptV v.b),qV qQ 1 Y.wv Y.wss.length (Y.wss.flatMap ptV),
  brA qB Y.rv Y.rs C.recs,qV qv 51 Y.ov C.out.length (C.out.flatMap Lt.cs),we Y.wss C.wishes]++L)):=by
  refine H.perm ?_
  show List.Perm _ (_::_::_::_::_::_::_::Qb Y.lds C.leads::we Y.wss C.wishes::L)
  exact (List.perm_middle (l₁:=[qw cb (.cells (Y.c C).cs.toArray qH (0,0)),xe Y.lb Y.lr C.cut C.lg,xT Y.xb Y.xr C.xcut C.xl,qV qd 1 Y.lv Y.lds.length (Y.lds.flatMap λv=>ptV v.b),qV qQ 1 Y.wv Y.wss.length (Y.wss.flatMap ptV),brA qB Y.rv Y.rs C.recs,qV qv 51 Y.ov C.out.length (C.out.flatMap Lt.cs)]) (l₂:=we Y.wss C.wishes::L)).symm
 have H:=qxj hv hl H
 have H:=Hq.zc (l:=[qw v.b (.cells (l.c v).cs.toArray qN (0,0)),qV qb 8 v.rp l.reps.length (l.reps.flatMap Att.cs),qV qD 22 v.sd l.said.length (l.said.flatMap Sd.cs)]) H
 have H:Hq m0 m S (coR cb Y C j++([qw v.b (.cells (l.c v).cs.toArray qN (0,0)),qV qb 8 v.rp l.reps.length (l.reps.flatMap Att.cs),qV qD 22 v.sd l.said.length (l.said.flatMap Sd.cs)]++L)):=by
  refine H.perm ?_
  exact (List.perm_append_comm_assoc _ _ _)
 have H:=Hq.jc H
 exact H.perm (List.perm_middle (l₁:=[qw v.b (.cells (l.c v).cs.toArray qN (0,0)),qV qb 8 v.rp l.reps.length (l.reps.flatMap Att.cs),qV qD 22 v.sd l.said.length (l.said.flatMap Sd.cs)]))
theorem Ty{v v':LdV}(hb:v'.b=v.b):∀ (vs:List LdV) (j:Nat),vs[j]?=some v→(vs.set j v').flatMap (λv=>ptV v.b)=vs.flatMap λv=>ptV v.b
 | [],_,h=>by simp at h
 | a::r,0,h=>by
  simp at h;subst h
  rw [List.set_cons_zero,List.flatMap_cons,List.flatMap_cons,hb]
 | a::r,j+1,h=>by
  rw [List.set_cons_succ,List.flatMap_cons,List.flatMap_cons,Ty hb r j (by simpa using h)]
theorem BJ{j:Nat}{v v':LdV}{l l':Ld}(hv:Y.lds[j]?=some v)(hl:C.leads[j]?=some l)(hb:v'.b=v.b)(H:Hq m0 m S (qw v'.b (.cells (l'.c v').cs.toArray qN (0,0))::qV qb 8 v'.rp l'.reps.length (l'.reps.flatMap Att.cs)::qV qD 22 v'.sd l'.said.length (l'.said.flatMap Sd.cs)::qP (coR cb Y C j)::L)) :
  Hq m0 m S (coA cb { Y with lds:=Y.lds.set j v' } { C with leads:=C.leads.set j l' }::L):=by
 have H:Hq m0 m S (qP (coR cb Y C j)::([qw v'.b (.cells (l'.c v').cs.toArray qN (0,0)),qV qb 8 v'.rp l'.reps.length (l'.reps.flatMap Att.cs),qV qD 22 v'.sd l'.said.length (l'.said.flatMap Sd.cs)]++L)) :=
  H.perm (List.perm_middle (l₁:=[qw v'.b (.cells (l'.c v').cs.toArray qN (0,0)),qV qb 8 v'.rp l'.reps.length (l'.reps.flatMap Att.cs),qV qD 22 v'.sd l'.said.length (l'.said.flatMap Sd.cs)])).symm
 have H:=Hq.zc H
 have H:=H.perm (List.perm_append_comm_assoc [qw v'.b (.cells (l'.c v').cs.toArray qN (0,0)),qV qb 8 v'.rp l'.reps.length (l'.reps.flatMap Att.cs),qV qD 22 v'.sd l'.said.length (l'.said.flatMap Sd.cs)] (coR cb Y C j) L)
 have H:Hq m0 m S (ldA v' l'::(coR cb Y C j++L)):=Hq.jc H
 have H:=qqm (vs:=Y.lds) (xs:=C.leads) (List.getElem?_eq_some_iff.1 hv).1 (List.getElem?_eq_some_iff.1 hl).1 H
 refine Hq.coJ (H.perm ?_)
 have e1:=Ty hb Y.lds j hv
 show List.Perm (qw cb _::xe _ _ _ _::xT _ _ _ _::qV _ _ _ _ _::qV _ _ _ _ _::brA _ _ _ _::qV _ _ _ _ _::Qb _ _::we _ _::L) _
 simp only [e1,List.length_set]
 exact List.perm_middle (l₁:=[qw cb (.cells (Y.c C).cs.toArray qH (0,0)),xe Y.lb Y.lr C.cut C.lg,xT Y.xb Y.xr C.xcut C.xl,qV qd 1 Y.lv Y.lds.length (Y.lds.flatMap λv=>ptV v.b),qV qQ 1 Y.wv Y.wss.length (Y.wss.flatMap ptV),brA qB Y.rv Y.rs C.recs,qV qv 51 Y.ov C.out.length (C.out.flatMap Lt.cs)]) (l₂:=we Y.wss C.wishes::L)
end Go.Fw
namespace Go.Fw
open Go.Proofs
variable {m m0 M:Mem} {S:List Nat} {L:List As}
variable {cb:Nat} {Y:Ly} {C:Co}
def Co.tB(C:Co)(l:Ld)(x:Cmd)(a:Att):Co :=
 if xC a then
  if (C.set l.id ⟨1,l.bal,l.bal,x,a,false⟩).2=true then (C.set l.id ⟨1,l.bal,l.bal,x,a,false⟩).1.kP (xd l.id 0 l.bal false x a)
  else (C.set l.id ⟨1,l.bal,l.bal,x,a,false⟩).1.zk l.id
 else C.zk l.id
def Co.again(C:Co)(l:Ld)(x:Cmd)(told:Att):Co:=C.tB l x (zG told (zp C.xcut C.xl l.id x))
abbrev agA:NC:=.seq (.seq WR (.cond (.qq 44) (.seq WO .ret) .skip)) WN
theorem Bb{C0:Co}{Y0:Ly}{E:Env}{b6 b8 j:Nat}{v:LdV}{l:Ld}{x:Cmd}{a:Att}(ho:Y.ok C)(hv:Y.lds[j]?=some v)(hl:C.leads[j]?=some l)(hrec:C.recs.length≤1000000)(hn:C.leads.length≤100000)(hn7:C.n≤7)(hout:C.out.length≤999000)(H:Hq m M (coA cb Y0 C0).wp [qw b8 (.cells a.cs.toArray qb (0,0)),qw b6 (.cells x.cs.toArray qA (0,0)),coA cb Y C])(e0:E.get 0=lp cb)(e1:E.get 1=lp v.b)(e6:E.get 6=lp b6)(e8:E.get 8=lp b8)(h0:E.has 0=true)(h1:E.has 1=true)(h6:E.has 6=true)(h8:E.has 8=true) :
  wpN Tryz.prog agA (vB [] λu M=>∃ A',CoR cb (C.tB l x a) (.tuple #[]) u A'∧A'.p M∧Fr m M (coA cb Y0 C0).wp∧(∀ b∈A'.fp,b∈(coA cb Y0 C0).fp∨m b=none)∧∀ b∈A'.wp,b∈(coA cb Y0 C0).wp∨m b=none) E M:=by
 have hss:=wx C l.id ⟨1,l.bal,l.bal,x,a,false⟩
 by_cases hr:xC a
 ·have hp:C.tB l x a=if (C.set l.id ⟨1,l.bal,l.bal,x,a,false⟩).2=true then (C.set l.id ⟨1,l.bal,l.bal,x,a,false⟩).1.kP (xd l.id 0 l.bal false x a) else (C.set l.id ⟨1,l.bal,l.bal,x,a,false⟩).1.zk l.id:=if_pos hr
  rw [hp]
  simp (disch:=omega) only [go_sem,undef,e0,e1,e6,e8,h0,h1,h6,h8,H.cs]
  refine qa H (zl a _) λM f H=>?_
  have hcl:=qT (zy (zV (H.at 2 rfl)) hv hl)
  simp (disch:=omega) only [go_sem,undef,e0,e1,e6,e8,h0,h1,h6,h8,H.cs,qZ hr,Bool.not_true,hcl,Ld.c]
  refine qU 2 H (cL (H.at 2 rfl) ho l.id ⟨1,l.bal,l.bal,x,a,false⟩ hrec) rfl λu M A' hR f H=>?_
  refine hR.E λY1 eu ho1 eA hy1=>?_
  subst eu eA
  clear hR hp
  generalize C.set l.id ⟨1,l.bal,l.bal,x,a,false⟩=r at *
  obtain ⟨C1,ok⟩:=r
  have Hn:Hq m M (coA cb Y0 C0).wp [qw b8 (.cells a.cs.toArray qb (0,0)),qw b6 (.cells x.cs.toArray qA (0,0)),coA cb Y1 C1]:=H
  clear H
  have hl1:C1.leads[j]?=some l:=by rw [show C1.leads=C.leads from hss.1];exact hl
  have hv1:Y1.lds[j]?=some v:=by rw [hy1];exact hv
  cases ok with
  | true =>
   have H:=Hn
   have hcl:=qT (zy (zV (H.at 2 rfl)) hv1 hl1)
   simp (disch:=omega) only [go_sem,undef,e0,e1,e6,e8,h0,h1,h6,h8,H.cs,Bool.not_true,hcl,Ld.c]
   refine qg H λb9 M f H=>?_
   have H:=RJ H
   have H:Hq m M (coA cb Y0 C0).wp (ldA ⟨b9,.slice none 0 0,.slice none 0 0⟩ (xd l.id 0 l.bal false x a)::coA cb Y1 C1::[]):=H.sel 4 [0,3] rfl (by decide) (by decide)
   have H:=Hq.join H
   simp (disch:=omega) only [go_sem,undef,e0,e1,e6,e8,h0,h1,h6,h8]
   refine zW H (cM (H.at 0 rfl) ho1 (Nat.le_trans (Nat.le_of_eq (congrArg List.length hss.1)) hn) (Nat.le_trans (Nat.le_of_eq hss.2.1) hn7) (Nat.le_trans (Nat.le_of_eq (congrArg List.length hss.2.2.1)) hout)) λu M A' hR f H=>?_
   refine hR.E λY2 eu ho2 eA=>?_
   subst eu eA
   simp (disch:=omega) only [go_sem,undef]
   exact qS qu ho2 H
  | false =>
   have H:=Hn
   have hcl:=qT (zy (zV (H.at 2 rfl)) hv1 hl1)
   simp (disch:=omega) only [go_sem,undef,e0,e1,e6,e8,h0,h1,h6,h8,H.cs,Bool.not_false,hcl,Ld.c]
   refine qU 2 H (Je (H.at 2 rfl) ho1 l.id (Nat.le_trans (Nat.le_of_eq (congrArg List.length hss.1)) (Nat.le_trans hn (by decide)))) rfl λu M A' hR f H=>?_
   refine hR.E λY2 eu ho2 eA=>?_
   subst eu eA
   simp (disch:=omega) only [go_sem,undef]
   exact qS qu ho2 (H.tail.tail)
 ·have hp:C.tB l x a=C.zk l.id:=if_neg hr
  rw [hp]
  simp (disch:=omega) only [go_sem,undef,e0,e1,e6,e8,h0,h1,h6,h8,H.cs]
  refine qa H (zl a _) λM f H=>?_
  have hcl:=qT (zy (zV (H.at 2 rfl)) hv hl)
  simp (disch:=omega) only [go_sem,undef,e0,e1,e6,e8,h0,h1,h6,h8,H.cs,qX hr,Bool.not_false,hcl,Ld.c]
  refine qU 2 H (Je (H.at 2 rfl) ho l.id (by omega)) rfl λu M A' hR f H=>?_
  refine hR.E λY2 eu ho2 eA=>?_
  subst eu eA
  simp (disch:=omega) only [go_sem,undef]
  exact qS qu ho2 (H.tail.tail)
theorem SF:Js=.seq WT (.seq WS agA):=rfl
theorem Ll(h:(coA cb Y C).p m)(ho:Y.ok C){j:Nat}{v:LdV}{l:Ld}(hv:Y.lds[j]?=some v)(hl:C.leads[j]?=some l)(x:Cmd)(told:Att)(hxl:Qe C.xl)(hkey:x.key.size≤1000)(hrec:C.recs.length≤1000000)(hn:C.leads.length≤100000)(hn7:C.n≤7)(hout:C.out.length≤999000) :
  CM Tryz.prog ow [lp cb,lp v.b,x.v,told.v] m (coA cb Y C) (CoR cb (C.again l x told) (.tuple #[])):=by
 have H:=Hq.one h
 have hw:C.again l x told=C.tB l x (zG told (zp C.xcut C.xl l.id x)):=rfl
 rw [hw]
 refine nk (by simp [Tryz.f33]) ?_
 rw [SF]
 generalize hC:agA=T
 simp (disch:=omega) only [go_sem,undef]
 refine qg H λb6 M f H=>?_
 simp (disch:=omega) only [go_sem,undef]
 refine qg H λb7 M f H=>?_
 have hcl:=λM (hA:(coA cb Y C).p M)=>qT (zy (zV hA) hv hl)
 simp (disch:=omega) only [go_sem,undef,H.cs,qy (H.at 2 rfl),Ly.c,hcl _ (H.at 2 rfl),Ld.c]
 refine qp ?_ ?_
 ·simp (disch:=omega) only [go_sem,undef,H.cs,qy (H.at 2 rfl),Ly.c,hcl _ (H.at 2 rfl),Ld.c]
  refine qa H (tr (tm (H.at 2 rfl)) hxl l.id x hkey) λM f H=>?_
  simp (disch:=omega) only [go_sem,undef,H.cs,qy (H.at 2 rfl),Ly.c,hcl _ (H.at 2 rfl),Ld.c]
  refine qp ?_ ?_
  ·simp (disch:=omega) only [go_sem,undef,H.cs,qy (H.at 2 rfl),Ly.c,hcl _ (H.at 2 rfl),Ld.c]
   refine qg H λb11 M f H=>?_
   simp (disch:=omega) only [go_sem,undef,H.cs,qy (H.at 3 rfl),Ly.c,hcl _ (H.at 3 rfl),Ld.c]
   refine qp ?_ ?_
   ·simp (disch:=omega) only [go_sem,undef,H.cs,qy (H.at 3 rfl),Ly.c,hcl _ (H.at 3 rfl),Ld.c]
    refine qa H (cD (l:=[told,zp C.xcut C.xl l.id x]) (n:=2) rfl (YK H.cs.1) (by decide) (by decide)) λM f H=>?_
    simp (disch:=omega) only [go_sem,undef,H.cs,qy (H.at 3 rfl),Ly.c,hcl _ (H.at 3 rfl),Ld.c]
    refine qg H λb9 M f H=>?_
    simp (disch:=omega) only [go_sem,undef,H.cs,qy (H.at 4 rfl),Ly.c,hcl _ (H.at 4 rfl),Ld.c]
    refine qs H rfl rfl λM f H=>?_
    have H:Hq m M (coA cb Y C).wp [qw b9 (.cells (zG told (zp C.xcut C.xl l.id x)).cs.toArray qb (0,0)),qw b6 (.cells x.cs.toArray qA (0,0)),coA cb Y C]:=H.sel 5 [0,3,4] rfl (by decide) (by decide)
    simp (disch:=omega) only [go_sem,undef]
    subst hC
    exact Bb ho hv hl hrec hn hn7 hout H rfl rfl rfl rfl rfl rfl rfl rfl
   ·simp (disch:=omega) only [go_sem,undef,H.cs,qy (H.at 3 rfl),Ly.c,hcl _ (H.at 3 rfl),Ld.c]
    refine qg H λb9 M f H=>?_
    simp (disch:=omega) only [go_sem,undef,H.cs,qy (H.at 4 rfl),Ly.c,hcl _ (H.at 4 rfl),Ld.c]
    refine qa H (cD (l:=[told,zp C.xcut C.xl l.id x]) (n:=2) rfl (YK H.cs.2.1) (by decide) (by decide)) λM f H=>?_
    simp (disch:=omega) only [go_sem,undef,H.cs,qy (H.at 4 rfl),Ly.c,hcl _ (H.at 4 rfl),Ld.c]
    refine qs H rfl rfl λM f H=>?_
    have H:Hq m M (coA cb Y C).wp [qw b9 (.cells (zG told (zp C.xcut C.xl l.id x)).cs.toArray qb (0,0)),qw b6 (.cells x.cs.toArray qA (0,0)),coA cb Y C]:=H.sel 5 [0,3,4] rfl (by decide) (by decide)
    simp (disch:=omega) only [go_sem,undef]
    subst hC
    exact Bb ho hv hl hrec hn hn7 hout H rfl rfl rfl rfl rfl rfl rfl rfl
  ·simp (disch:=omega) only [go_sem,undef,H.cs,qy (H.at 2 rfl),Ly.c,hcl _ (H.at 2 rfl),Ld.c]
   refine qg H λb9 M f H=>?_
   simp (disch:=omega) only [go_sem,undef,H.cs,qy (H.at 3 rfl),Ly.c,hcl _ (H.at 3 rfl),Ld.c]
   refine qg H λb11 M f H=>?_
   simp (disch:=omega) only [go_sem,undef,H.cs,qy (H.at 4 rfl),Ly.c,hcl _ (H.at 4 rfl),Ld.c]
   refine qa H (cD (l:=[told,zp C.xcut C.xl l.id x]) (n:=2) rfl (YK H.cs.1) (by decide) (by decide)) λM f H=>?_
   simp (disch:=omega) only [go_sem,undef,H.cs,qy (H.at 4 rfl),Ly.c,hcl _ (H.at 4 rfl),Ld.c]
   refine zA H rfl rfl λM f H=>?_
   have H:Hq m M (coA cb Y C).wp [qw b9 (.cells (zG told (zp C.xcut C.xl l.id x)).cs.toArray qb (0,0)),qw b6 (.cells x.cs.toArray qA (0,0)),coA cb Y C]:=H.sel 5 [1,3,4] rfl (by decide) (by decide)
   simp (disch:=omega) only [go_sem,undef]
   subst hC
   exact Bb ho hv hl hrec hn hn7 hout H rfl rfl rfl rfl rfl rfl rfl rfl
 ·simp (disch:=omega) only [go_sem,undef,H.cs,qy (H.at 2 rfl),Ly.c,hcl _ (H.at 2 rfl),Ld.c]
  refine qg H λb9 M f H=>?_
  simp (disch:=omega) only [go_sem,undef,H.cs,qy (H.at 3 rfl),Ly.c,hcl _ (H.at 3 rfl),Ld.c]
  refine qa H (tr (tm (H.at 3 rfl)) hxl l.id x hkey) λM f H=>?_
  simp (disch:=omega) only [go_sem,undef,H.cs,qy (H.at 3 rfl),Ly.c,hcl _ (H.at 3 rfl),Ld.c]
  refine qg H λb11 M f H=>?_
  simp (disch:=omega) only [go_sem,undef,H.cs,qy (H.at 4 rfl),Ly.c,hcl _ (H.at 4 rfl),Ld.c]
  refine qa H (cD (l:=[told,zp C.xcut C.xl l.id x]) (n:=2) rfl (YK H.cs.1) (by decide) (by decide)) λM f H=>?_
  simp (disch:=omega) only [go_sem,undef,H.cs,qy (H.at 4 rfl),Ly.c,hcl _ (H.at 4 rfl),Ld.c]
  refine zA H rfl rfl λM f H=>?_
  have H:Hq m M (coA cb Y C).wp [qw b9 (.cells (zG told (zp C.xcut C.xl l.id x)).cs.toArray qb (0,0)),qw b6 (.cells x.cs.toArray qA (0,0)),coA cb Y C]:=H.sel 5 [1,3,4] rfl (by decide) (by decide)
  simp (disch:=omega) only [go_sem,undef]
  subst hC
  exact Bb ho hv hl hrec hn hn7 hout H rfl rfl rfl rfl rfl rfl rfl rfl
end Go.Fw
namespace Go.Fw
open Go.Proofs
variable {m m0 M:Mem} {S:List Nat} {L:List As}
variable {cb:Nat} {Y:Ly} {C:Co}
def Co.aS(C:Co)(l:Ld)(d:Int)(x:Cmd)(a:Att):Co :=
 if d=1 then C.JD l.id x a else if d=2 then C.accept l x a else if d=4 then C.accept l Cmd.zero (GL l.id) else if d=3 then C.again l x a else C
def Co.aR(C:Co)(l:Ld):Co:=C.aS l (WW C.n l.id.1 l.said).1 (WW C.n l.id.1 l.said).2.1 (WW C.n l.id.1 l.said).2.2
abbrev ppA:NC:=.seq XK (.block 0 (.seq XX (.cond (.qq 26) XJ (.seq XZ (.cond (.qq 36) XQ (.seq Xy (.cond (.qq 43) Xw (.seq Xv (.cond (.qq 54) Xk .skip)))))))))
theorem rC{C0:Co}{Y0:Ly}{E:Env}{b5 b6 j:Nat}{v:LdV}{l:Ld}{d:Int}{x:Cmd}{a:Att}(ho:Y.ok C)(hv:Y.lds[j]?=some v)(hl:C.leads[j]?=some l)(hxl:Qe C.xl)(hkey:x.key.size≤1000)(hrec:C.recs.length≤1000000)(hn:C.leads.length≤100000)(hn7:C.n≤7)(hout:C.out.length≤999000)(H:Hq m M (coA cb Y0 C0).wp [qw b6 (.cells a.cs.toArray qb (0,0)),qw b5 (.cells x.cs.toArray qA (0,0)),coA cb Y C])(e0:E.get 0=lp cb)(e1:E.get 1=lp v.b)(e4:E.get 4=.int .i64 d)(e5:E.get 5=lp b5)(e6:E.get 6=lp b6)(h0:E.has 0=true)(h1:E.has 1=true)(h4:E.has 4=true)(h5:E.has 5=true)(h6:E.has 6=true) :
  wpN Tryz.prog ppA (vB [] λu M=>∃ A',CoR cb (C.aS l d x a) (.tuple #[]) u A'∧A'.p M∧Fr m M (coA cb Y0 C0).wp∧(∀ b∈A'.fp,b∈(coA cb Y0 C0).fp∨m b=none)∧∀ b∈A'.wp,b∈(coA cb Y0 C0).wp∨m b=none) E M:=by
 have hcl:=qT (zy (zV (H.at 2 rfl)) hv hl)
 by_cases d1:d=1
 ·have hp:C.aS l d x a=C.JD l.id x a:=if_pos d1
  rw [hp]
  simp (disch:=omega) only [go_sem,undef,e0,e1,e4,e5,e6,h0,h1,h4,h5,h6,H.cs,qZ d1,hcl,Ld.c]
  refine qU 2 H (ll (H.at 2 rfl) ho l.id x a hrec hn hn7 hout) rfl λu M A' hR f H=>?_
  refine hR.E λY2 eu ho2 eA=>?_
  subst eu eA
  simp (disch:=omega) only [go_sem,undef]
  exact qS qu ho2 H.tail.tail
 by_cases d2:d=2
 ·have hp:C.aS l d x a=C.accept l x a:=by unfold Co.aS;rw [if_neg d1,if_pos d2]
  rw [hp]
  simp (disch:=omega) only [go_sem,undef,e0,e1,e4,e5,e6,h0,h1,h4,h5,h6,H.cs,qX d1,qZ d2,hcl,Ld.c]
  refine qU 2 H (ln (H.at 2 rfl) ho hv hl x a hrec hn hn7 hout) rfl λu M A' hR f H=>?_
  refine hR.E λY2 eu ho2 eA=>?_
  subst eu eA
  simp (disch:=omega) only [go_sem,undef]
  exact qS qu ho2 H.tail.tail
 by_cases d4:d=4
 ·have hp:C.aS l d x a=C.accept l Cmd.zero (GL l.id):=by unfold Co.aS;rw [if_neg d1,if_neg d2,if_pos d4]
  rw [hp]
  simp (disch:=omega) only [go_sem,undef,e0,e1,e4,e5,e6,h0,h1,h4,h5,h6,H.cs,qX d1,qX d2,qZ d4,hcl,Ld.c]
  refine qa H (qZu l.id _) λM f H=>?_
  simp (disch:=omega) only [go_sem,undef,e0,e1,e4,e5,e6,h0,h1,h4,h5,h6,H.cs]
  refine qU 2 H (ln (H.at 2 rfl) ho hv hl Cmd.zero (GL l.id) hrec hn hn7 hout) rfl λu M A' hR f H=>?_
  refine hR.E λY2 eu ho2 eA=>?_
  subst eu eA
  simp (disch:=omega) only [go_sem,undef]
  exact qS qu ho2 H.tail.tail
 by_cases d3:d=3
 ·have hp:C.aS l d x a=C.again l x a:=by unfold Co.aS;rw [if_neg d1,if_neg d2,if_neg d4,if_pos d3]
  rw [hp]
  simp (disch:=omega) only [go_sem,undef,e0,e1,e4,e5,e6,h0,h1,h4,h5,h6,H.cs,qX d1,qX d2,qX d4,qZ d3,hcl,Ld.c]
  refine qU 2 H (Ll (H.at 2 rfl) ho hv hl x a hxl hkey hrec hn hn7 hout) rfl λu M A' hR f H=>?_
  refine hR.E λY2 eu ho2 eA=>?_
  subst eu eA
  simp (disch:=omega) only [go_sem,undef]
  exact qS qu ho2 H.tail.tail
 ·have hp:C.aS l d x a=C:=by unfold Co.aS;rw [if_neg d1,if_neg d2,if_neg d4,if_neg d3]
  rw [hp]
  simp (disch:=omega) only [go_sem,undef,e0,e1,e4,e5,e6,h0,h1,h4,h5,h6,H.cs,qX d1,qX d2,qX d4,qX d3]
  exact qS qu ho H.tail.tail
theorem To{v:LdV}{x:Ld}(h:(ldA v x).p m):RdS 22 Sd.cs m v.sd x.said:=Own.rds (by decide) Sd.len (zY h (qV qD 22 v.sd x.said.length (x.said.flatMap Sd.cs)) (by simp))
theorem qjx{l:List Sd}{q:Nat}(h:∀ s∈l,s.cel.cmd.key.size≤q)(i:Int):(Sd.at l i).cel.cmd.key.size≤q:=by
 unfold Sd.at
 cases e:l[i.toNat]? with
 | none=>exact Nat.zero_le _
 | some s=>exact h s (List.mem_of_getElem? e)
theorem qqv{n:Nat}{o:Int}{l:List Sd}{q:Nat}(h:∀ s∈l,s.cel.cmd.key.size≤q):(WW n o l).2.1.key.size≤q:=by
 unfold WW
 split
 ·exact Nat.zero_le _
 split
 ·rename_i s e
  exact h s (List.mem_of_find?_eq_some e)
 repeat' split
 all_goals first
  | exact Nat.zero_le _
  | exact qjx h _
theorem Fv:wk=.seq XV ppA:=rfl
theorem AM(h:(coA cb Y C).p m)(ho:Y.ok C){j:Nat}{v:LdV}{l:Ld}(hv:Y.lds[j]?=some v)(hl:C.leads[j]?=some l)(hxl:Qe C.xl)(hks:∀ s∈l.said,s.cel.cmd.key.size≤1000)(hrec:C.recs.length≤1000000)(hn:C.leads.length≤100000)(hn7:C.n≤7)(hn2:2≤C.n)(hout:C.out.length≤999000)(hsl:l.said.length≤100) :
  CM Tryz.prog eG [lp cb,lp v.b] m (coA cb Y C) (CoR cb (C.aR l) (.tuple #[])):=by
 have H:=Hq.one h
 have hw:C.aR l=C.aS l (WW C.n l.id.1 l.said).1 (WW C.n l.id.1 l.said).2.1 (WW C.n l.id.1 l.said).2.2:=rfl
 rw [hw]
 have hkey:=qqv (n:=C.n) (o:=l.id.1) hks
 obtain ⟨ra,rc,hsd⟩:=(To (zy (zV h) hv hl)).form
 have hpre:=λM (hA:(coA cb Y C).p M)=>Rv (n:=C.n) (o:=l.id.1) (hsd▸To (zy (zV hA) hv hl)) (by omega) hn2 hsl
 refine dT (by simp [Tryz.f33]) ?_
 rw [Fv]
 generalize hC:ppA=T
 generalize WW C.n l.id.1 l.said=q at *
 obtain ⟨d,x,a⟩:=q
 have hcl:=λM (hA:(coA cb Y C).p M)=>qT (zy (zV hA) hv hl)
 simp (disch:=omega) only [go_sem,undef,qy (H.at 0 rfl),Ly.c,hcl _ (H.at 0 rfl),Ld.c,hsd]
 refine qp ?_ ?_
 ·simp (disch:=omega) only [go_sem,undef,H.cs,qy (H.at 0 rfl),Ly.c,hcl _ (H.at 0 rfl),Ld.c,hsd]
  refine qa H (hpre _ (H.at 0 rfl)) λM f H=>?_
  simp (disch:=omega) only [go_sem,undef,H.cs,qy (H.at 0 rfl),Ly.c,hcl _ (H.at 0 rfl),Ld.c,hsd]
  refine qp ?_ ?_
  ·simp (disch:=omega) only [go_sem,undef,H.cs,qy (H.at 0 rfl),Ly.c,hcl _ (H.at 0 rfl),Ld.c,hsd]
   refine qg H λb5 M f H=>?_
   simp (disch:=omega) only [go_sem,undef,H.cs,qy (H.at 1 rfl),Ly.c,hcl _ (H.at 1 rfl),Ld.c,hsd]
   refine qg H λb6 M f H=>?_
   simp (disch:=omega) only [go_sem,undef,H.cs,qy (H.at 2 rfl),Ly.c,hcl _ (H.at 2 rfl),Ld.c,hsd]
   refine zA H rfl rfl λM f H=>?_
   simp (disch:=omega) only [go_sem,undef,H.cs,qy (H.at 2 rfl),Ly.c,hcl _ (H.at 2 rfl),Ld.c,hsd]
   refine qs H rfl rfl λM f H=>?_
   have H:Hq m M (coA cb Y C).wp [qw b6 (.cells a.cs.toArray qb (0,0)),qw b5 (.cells x.cs.toArray qA (0,0)),coA cb Y C]:=H.sel 3 [0,1,2] rfl (by decide) (by decide)
   simp (disch:=omega) only [go_sem,undef]
   subst hC
   exact rC ho hv hl hxl hkey hrec hn hn7 hout H rfl rfl rfl rfl rfl rfl rfl rfl rfl rfl
  ·simp (disch:=omega) only [go_sem,undef,H.cs,qy (H.at 0 rfl),Ly.c,hcl _ (H.at 0 rfl),Ld.c,hsd]
   refine qg H λb6 M f H=>?_
   simp (disch:=omega) only [go_sem,undef,H.cs,qy (H.at 1 rfl),Ly.c,hcl _ (H.at 1 rfl),Ld.c,hsd]
   refine qg H λb5 M f H=>?_
   simp (disch:=omega) only [go_sem,undef,H.cs,qy (H.at 2 rfl),Ly.c,hcl _ (H.at 2 rfl),Ld.c,hsd]
   refine qs H rfl rfl λM f H=>?_
   simp (disch:=omega) only [go_sem,undef,H.cs,qy (H.at 2 rfl),Ly.c,hcl _ (H.at 2 rfl),Ld.c,hsd]
   refine zA H rfl rfl λM f H=>?_
   have H:Hq m M (coA cb Y C).wp [qw b6 (.cells a.cs.toArray qb (0,0)),qw b5 (.cells x.cs.toArray qA (0,0)),coA cb Y C]:=H.sel 3 [1,0,2] rfl (by decide) (by decide)
   simp (disch:=omega) only [go_sem,undef]
   subst hC
   exact rC ho hv hl hxl hkey hrec hn hn7 hout H rfl rfl rfl rfl rfl rfl rfl rfl rfl rfl
 ·refine qp ?_ ?_
  ·simp (disch:=omega) only [go_sem,undef,H.cs,qy (H.at 0 rfl),Ly.c,hcl _ (H.at 0 rfl),Ld.c,hsd]
   refine qg H λb5 M f H=>?_
   simp (disch:=omega) only [go_sem,undef,H.cs,qy (H.at 1 rfl),Ly.c,hcl _ (H.at 1 rfl),Ld.c,hsd]
   refine qp ?_ ?_
   ·simp (disch:=omega) only [go_sem,undef,H.cs,qy (H.at 1 rfl),Ly.c,hcl _ (H.at 1 rfl),Ld.c,hsd]
    refine qa H (hpre _ (H.at 1 rfl)) λM f H=>?_
    simp (disch:=omega) only [go_sem,undef,H.cs,qy (H.at 1 rfl),Ly.c,hcl _ (H.at 1 rfl),Ld.c,hsd]
    refine qg H λb6 M f H=>?_
    simp (disch:=omega) only [go_sem,undef,H.cs,qy (H.at 2 rfl),Ly.c,hcl _ (H.at 2 rfl),Ld.c,hsd]
    refine zA H rfl rfl λM f H=>?_
    simp (disch:=omega) only [go_sem,undef,H.cs,qy (H.at 2 rfl),Ly.c,hcl _ (H.at 2 rfl),Ld.c,hsd]
    refine qs H rfl rfl λM f H=>?_
    have H:Hq m M (coA cb Y C).wp [qw b6 (.cells a.cs.toArray qb (0,0)),qw b5 (.cells x.cs.toArray qA (0,0)),coA cb Y C]:=H.sel 3 [0,1,2] rfl (by decide) (by decide)
    simp (disch:=omega) only [go_sem,undef]
    subst hC
    exact rC ho hv hl hxl hkey hrec hn hn7 hout H rfl rfl rfl rfl rfl rfl rfl rfl rfl rfl
   ·simp (disch:=omega) only [go_sem,undef,H.cs,qy (H.at 1 rfl),Ly.c,hcl _ (H.at 1 rfl),Ld.c,hsd]
    refine qg H λb6 M f H=>?_
    simp (disch:=omega) only [go_sem,undef,H.cs,qy (H.at 2 rfl),Ly.c,hcl _ (H.at 2 rfl),Ld.c,hsd]
    refine qa H (hpre _ (H.at 2 rfl)) λM f H=>?_
    simp (disch:=omega) only [go_sem,undef,H.cs,qy (H.at 2 rfl),Ly.c,hcl _ (H.at 2 rfl),Ld.c,hsd]
    refine zA H rfl rfl λM f H=>?_
    simp (disch:=omega) only [go_sem,undef,H.cs,qy (H.at 2 rfl),Ly.c,hcl _ (H.at 2 rfl),Ld.c,hsd]
    refine qs H rfl rfl λM f H=>?_
    have H:Hq m M (coA cb Y C).wp [qw b6 (.cells a.cs.toArray qb (0,0)),qw b5 (.cells x.cs.toArray qA (0,0)),coA cb Y C]:=H.sel 3 [0,1,2] rfl (by decide) (by decide)
    simp (disch:=omega) only [go_sem,undef]
    subst hC
    exact rC ho hv hl hxl hkey hrec hn hn7 hout H rfl rfl rfl rfl rfl rfl rfl rfl rfl rfl
  ·simp (disch:=omega) only [go_sem,undef,H.cs,qy (H.at 0 rfl),Ly.c,hcl _ (H.at 0 rfl),Ld.c,hsd]
   refine qg H λb6 M f H=>?_
   simp (disch:=omega) only [go_sem,undef,H.cs,qy (H.at 1 rfl),Ly.c,hcl _ (H.at 1 rfl),Ld.c,hsd]
   refine qp ?_ ?_
   ·simp (disch:=omega) only [go_sem,undef,H.cs,qy (H.at 1 rfl),Ly.c,hcl _ (H.at 1 rfl),Ld.c,hsd]
    refine qa H (hpre _ (H.at 1 rfl)) λM f H=>?_
    simp (disch:=omega) only [go_sem,undef,H.cs,qy (H.at 1 rfl),Ly.c,hcl _ (H.at 1 rfl),Ld.c,hsd]
    refine qg H λb5 M f H=>?_
    simp (disch:=omega) only [go_sem,undef,H.cs,qy (H.at 2 rfl),Ly.c,hcl _ (H.at 2 rfl),Ld.c,hsd]
    refine qs H rfl rfl λM f H=>?_
    simp (disch:=omega) only [go_sem,undef,H.cs,qy (H.at 2 rfl),Ly.c,hcl _ (H.at 2 rfl),Ld.c,hsd]
    refine zA H rfl rfl λM f H=>?_
    have H:Hq m M (coA cb Y C).wp [qw b6 (.cells a.cs.toArray qb (0,0)),qw b5 (.cells x.cs.toArray qA (0,0)),coA cb Y C]:=H.sel 3 [1,0,2] rfl (by decide) (by decide)
    simp (disch:=omega) only [go_sem,undef]
    subst hC
    exact rC ho hv hl hxl hkey hrec hn hn7 hout H rfl rfl rfl rfl rfl rfl rfl rfl rfl rfl
   ·simp (disch:=omega) only [go_sem,undef,H.cs,qy (H.at 1 rfl),Ly.c,hcl _ (H.at 1 rfl),Ld.c,hsd]
    refine qg H λb5 M f H=>?_
    simp (disch:=omega) only [go_sem,undef,H.cs,qy (H.at 2 rfl),Ly.c,hcl _ (H.at 2 rfl),Ld.c,hsd]
    refine qa H (hpre _ (H.at 2 rfl)) λM f H=>?_
    simp (disch:=omega) only [go_sem,undef,H.cs,qy (H.at 2 rfl),Ly.c,hcl _ (H.at 2 rfl),Ld.c,hsd]
    refine qs H rfl rfl λM f H=>?_
    simp (disch:=omega) only [go_sem,undef,H.cs,qy (H.at 2 rfl),Ly.c,hcl _ (H.at 2 rfl),Ld.c,hsd]
    refine zA H rfl rfl λM f H=>?_
    have H:Hq m M (coA cb Y C).wp [qw b6 (.cells a.cs.toArray qb (0,0)),qw b5 (.cells x.cs.toArray qA (0,0)),coA cb Y C]:=H.sel 3 [1,0,2] rfl (by decide) (by decide)
    simp (disch:=omega) only [go_sem,undef]
    subst hC
    exact rC ho hv hl hxl hkey hrec hn hn7 hout H rfl rfl rfl rfl rfl rfl rfl rfl rfl rfl
end Go.Fw
namespace Go.Fw
open Go.Proofs
variable {m m0 M:Mem} {S:List Nat} {L:List As}
variable {cb:Nat} {Y:Ly} {C:Co}
def Ld.heard(l:Ld)(k:Nat):Ld:={ l with ans:=Dp.up l.ans k 1,count:=l.count+1 }
theorem Ld.Ek(l:Ld)(k:Nat):(l.heard k).id=l.id:=rfl
theorem Ld.sn(l:Ld)(k:Nat):(l.heard k).cmd=l.cmd:=rfl
theorem Ld.so(l:Ld)(k:Nat):(l.heard k).att=l.att:=rfl
theorem Ld.fS(l:Ld)(k:Nat):(l.heard k).count=l.count+1:=rfl
def Ld.nG(l:Ld)(a:Att):Ld:={ l with reps:=l.reps++[a] }
def Ld.rm(l:Ld)(s:Sd):Ld:={ l with said:=l.said++[s] }
def Co.put(C:Co)(j:Nat)(l:Ld):Co:={ C with leads:=C.leads.set j l }
theorem Co.nM(C:Co)(j:Nat)(l:Ld):(C.put j l).n=C.n:=rfl
def Co.tA(C:Co)(j:Nat)(l:Ld)(x:Lt)(k:Nat):Co :=
 if df x.kind=0 then ((C.put j ((l.heard k).nG x.att)).xp ((l.heard k).nG x.att) false).1
 else if df x.kind=1 then (if (C.n / 2+1:Nat)≤l.count+2 then (C.put j (l.heard k)).JD l.id l.cmd l.att else C.put j (l.heard k))
 else (C.put j ((l.heard k).rm ⟨k,x.cel⟩)).aR ((l.heard k).rm ⟨k,x.cel⟩)
abbrev anA:NC:=.seq Xc (.seq Xb (.seq Xa (.block 0 (.seq XY (.cond (.qq 73) (.seq XW Jr) (.seq Jp (.cond (.qq 89) (.seq Jo (.cond (.qq 101) Jn .skip)) (.seq Jm Jl))))))))
theorem ans_b{C0:Co}{Y0:Ly}{b3 j k:Nat}{v:LdV}{l:Ld}{x:Lt}(ho:Y.ok C)(hv:Y.lds[j]?=some v)(hl:C.leads[j]?=some l)(hk:x.src=(k:Nat))(hk7:k < 7)(hxl:Qe C.xl)(hrec:C.recs.length≤1000000)(hn:C.leads.length≤100000)(hn7:C.n≤7)(hn2:2≤C.n)(hout:C.out.length≤999000)(hcnt:0≤l.count∧l.count≤1000)(hreps:l.reps.length≤99)(hsaid:l.said.length≤99)(hks:∀ s∈l.said,s.cel.cmd.key.size≤1000)(hkx:x.cel.cmd.key.size≤1000)(H:Hq m M (coA cb Y0 C0).wp [qw b3 (.cells x.cs.toArray qv (0,0)),coA cb Y C]) :
  wpN Tryz.prog anA (vB [] λu M=>∃ A',CoR cb (C.tA j l x k) (.tuple #[]) u A'∧A'.p M∧Fr m M (coA cb Y0 C0).wp∧(∀ b∈A'.fp,b∈(coA cb Y0 C0).fp∨m b=none)∧∀ b∈A'.wp,b∈(coA cb Y0 C0).wp∨m b=none) [(0,lp cb),(3,lp b3),(4,lp v.b),(5,.int .i64 (df x.kind))] M:=by
 have H:=TU hv hl (H.perm (List.Perm.swap ..))
 refine Own.zC (H.at 1 rfl) λra rc hrp=>?_
 refine Own.zC (H.at 2 rfl) λsa sc hsd=>?_
 simp (disch:=omega) only [go_sem,undef,H.cs,Ld.c,hk]
 refine xK H λM f H=>?_
 simp (disch:=omega) only [go_sem,undef,H.cs,Ld.c,hk]
 refine xK H λM f H=>?_
 have H:Hq m M (coA cb Y0 C0).wp [qw v.b (.cells ((l.heard k).c v).cs.toArray qN (0,0)),qV qb 8 v.rp l.reps.length (l.reps.flatMap Att.cs),qV qD 22 v.sd l.said.length (l.said.flatMap Sd.cs),qP (coR cb Y C j),qw b3 (.cells x.cs.toArray qv (0,0))]:=H
 by_cases w0:df x.kind=0
 ·have hp:C.tA j l x k=((C.put j ((l.heard k).nG x.att)).xp ((l.heard k).nG x.att) false).1:=if_pos w0
  rw [hp]
  simp (disch:=omega) only [go_sem,undef,H.cs,Ld.c,hk,qZ w0]
  refine qg H λb2 M f H=>?_
  simp (disch:=omega) only [go_sem,undef,H.cs,Ld.c,hk]
  refine Qc 2 H rfl rfl (k:=1) (news:=x.att.cs) (zQ (n:=8) H.cs.1 (Nat.le_refl _)) rfl (λv hv=>List.all_eq_true.1 (Att.one _) v hv) rfl (by omega) (by omega) λw M f H=>?_
  refine Own.zC (H.at 2 rfl) λa3 c3 e=>?_
  subst e
  have H:Hq m M (coA cb Y0 C0).wp [qw v.b (.cells ((l.heard k).c v).cs.toArray qN (0,0)),qV qb 8 (.slice a3 (l.reps.length+1) c3) (l.reps.length+1) (l.reps.flatMap Att.cs++x.att.cs),qV qD 22 v.sd l.said.length (l.said.flatMap Sd.cs),qP (coR cb Y C j),qw b3 (.cells x.cs.toArray qv (0,0))]:=H.tail
  simp (disch:=omega) only [go_sem,undef,H.cs,Ld.c]
  refine xK H λM f H=>?_
  have er:qV qb 8 (.slice a3 (l.reps.length+1) c3) (l.reps.length+1) (l.reps.flatMap Att.cs++x.att.cs)=qV qb 8 (.slice a3 (l.reps.length+1) c3) ((l.heard k).nG x.att).reps.length (((l.heard k).nG x.att).reps.flatMap Att.cs):=by simp [Ld.nG,Ld.heard]
  rw [er] at H
  have H:=BJ (v':={ v with rp:=.slice a3 (l.reps.length+1) c3 }) (l':=(l.heard k).nG x.att) hv hl rfl H
  have ho2:({ Y with lds:=Y.lds.set j { v with rp:=.slice a3 (l.reps.length+1) c3 } }:Ly).ok (C.put j ((l.heard k).nG x.att)):=⟨by simp [Co.put,ho.lds],ho.wss,ho.wb⟩
  have hjv:j < Y.lds.length:=(List.getElem?_eq_some_iff.1 hv).1
  have hjl:j < C.leads.length:=(List.getElem?_eq_some_iff.1 hl).1
  simp (disch:=omega) only [go_sem,undef]
  refine qU 0 H (Lh (H.at 0 rfl) ho2 (j:=j) (v:={ v with rp:=.slice a3 (l.reps.length+1) c3 }) (l:=(l.heard k).nG x.att) (by simp [hjv]) (by simp [Co.put,hjl]) false hrec (by simpa [Co.put] using hn) hn7 hout (by simp [Ld.nG,Ld.heard];omega)) rfl λu M A' hR f H=>?_
  refine hR.E λY2 eu ho3 eA=>?_
  subst eu eA
  simp (disch:=omega) only [go_sem,undef]
  exact qS qu ho3 (H.drop 1)
 by_cases w1:df x.kind=1
 ·have hjv:j < Y.lds.length:=(List.getElem?_eq_some_iff.1 hv).1
  have hjl:j < C.leads.length:=(List.getElem?_eq_some_iff.1 hl).1
  have H:=BJ (v':=v) (l':=l.heard k) hv hl rfl H
  have ho2:({ Y with lds:=Y.lds.set j v }:Ly).ok (C.put j (l.heard k)):=⟨by simp [Co.put,ho.lds],ho.wss,ho.wb⟩
  have hv2:({ Y with lds:=Y.lds.set j v }:Ly).lds[j]?=some v:=by simp [hjv]
  have hl2:(C.put j (l.heard k)).leads[j]?=some (l.heard k):=by simp [Co.put,hjl]
  have hcl:=qT (zy (zV (H.at 0 rfl)) hv2 hl2)
  have hcc:=qy (H.at 0 rfl)
  have hln:(C.put j (l.heard k)).leads.length≤100000:=by simpa [Co.put] using hn
  have hp:C.tA j l x k=if (C.n / 2+1:Nat)≤l.count+2 then (C.put j (l.heard k)).JD l.id l.cmd l.att else C.put j (l.heard k):=by unfold Co.tA;rw [if_neg w0,if_pos w1]
  rw [hp]
  simp (disch:=omega) only [go_sem,undef,H.cs,hcl,hcc,Ly.c,Ld.c,Ld.Ek,Ld.sn,Ld.so,Ld.fS,Co.nM,qX w0,qZ w1]
  refine qa H (HG C.n (by omega) _) λM f H=>?_
  have hcl:=qT (zy (zV (H.at 0 rfl)) hv2 hl2)
  have hcc:=qy (H.at 0 rfl)
  by_cases hs:(C.n / 2+1:Nat)≤l.count+2
  ·rw [if_pos hs]
   simp (disch:=omega) only [go_sem,undef,H.cs,hcl,hcc,Ly.c,Ld.c,Ld.Ek,Ld.sn,Ld.so,Ld.fS,Co.nM,qZ (show l.count+1+1≥((C.n / 2+1:Nat):Int) by omega)]
   refine qU 0 H (ll (H.at 0 rfl) ho2 l.id l.cmd l.att hrec hln hn7 hout) rfl λu M A' hR f H=>?_
   refine hR.E λY2 eu ho3 eA=>?_
   subst eu eA
   simp (disch:=omega) only [go_sem,undef]
   exact qS qu ho3 (H.drop 1)
  ·rw [if_neg hs]
   simp (disch:=omega) only [go_sem,undef,H.cs,hcl,hcc,Ly.c,Ld.c,Ld.Ek,Ld.sn,Ld.so,Ld.fS,Co.nM,qX (show ¬ l.count+1+1≥((C.n / 2+1:Nat):Int) by omega)]
   exact qS qu ho2 (H.drop 1)
 ·have hp:C.tA j l x k=(C.put j ((l.heard k).rm ⟨k,x.cel⟩)).aR ((l.heard k).rm ⟨k,x.cel⟩):=by unfold Co.tA;rw [if_neg w0,if_neg w1]
  rw [hp]
  simp (disch:=omega) only [go_sem,undef,H.cs,Ld.c,hk,qX w0,qX w1]
  refine qg H λb2 M f H=>?_
  simp (disch:=omega) only [go_sem,undef,H.cs,Ld.c,hk]
  refine Qc 3 H rfl rfl (k:=1) (news:=(Sd.mk k x.cel).cs) (zQ (n:=22) H.cs.1 (Nat.le_refl _)) rfl (λv hv=>List.all_eq_true.1 (Sd.one _) v hv) rfl (by omega) (by omega) λw M f H=>?_
  refine Own.zC (H.at 3 rfl) λa3 c3 e=>?_
  subst e
  have H:Hq m M (coA cb Y0 C0).wp [qw v.b (.cells ((l.heard k).c v).cs.toArray qN (0,0)),qV qb 8 v.rp l.reps.length (l.reps.flatMap Att.cs),qV qD 22 (.slice a3 (l.said.length+1) c3) (l.said.length+1) (l.said.flatMap Sd.cs++(Sd.mk k x.cel).cs),qP (coR cb Y C j),qw b3 (.cells x.cs.toArray qv (0,0))]:=H.tail
  simp (disch:=omega) only [go_sem,undef,H.cs,Ld.c]
  refine xK H λM f H=>?_
  have er:qV qD 22 (.slice a3 (l.said.length+1) c3) (l.said.length+1) (l.said.flatMap Sd.cs++(Sd.mk k x.cel).cs)=qV qD 22 (.slice a3 (l.said.length+1) c3) ((l.heard k).rm ⟨k,x.cel⟩).said.length (((l.heard k).rm ⟨k,x.cel⟩).said.flatMap Sd.cs):=by simp [Ld.rm,Ld.heard]
  rw [er] at H
  have H:=BJ (v':={ v with sd:=.slice a3 (l.said.length+1) c3 }) (l':=(l.heard k).rm ⟨k,x.cel⟩) hv hl rfl H
  have ho2:({ Y with lds:=Y.lds.set j { v with sd:=.slice a3 (l.said.length+1) c3 } }:Ly).ok (C.put j ((l.heard k).rm ⟨k,x.cel⟩)):=⟨by simp [Co.put,ho.lds],ho.wss,ho.wb⟩
  have hjv:j < Y.lds.length:=(List.getElem?_eq_some_iff.1 hv).1
  have hjl:j < C.leads.length:=(List.getElem?_eq_some_iff.1 hl).1
  simp (disch:=omega) only [go_sem,undef]
  refine qU 0 H (AM (H.at 0 rfl) ho2 (j:=j) (v:={ v with sd:=.slice a3 (l.said.length+1) c3 }) (l:=(l.heard k).rm ⟨k,x.cel⟩) (by simp [hjv]) (by simp [Co.put,hjl]) hxl (λs hs=>(by
   rcases List.mem_append.1 (show s∈l.said++[Sd.mk k x.cel] from hs) with h | h
   ·exact hks s h
   ·rw [List.mem_singleton] at h;subst h;exact hkx)) hrec (by simpa [Co.put] using hn) hn7 hn2 hout (by simp [Ld.rm,Ld.heard];omega)) rfl λu M A' hR f H=>?_
  refine hR.E λY2 eu ho3 eA=>?_
  subst eu eA
  simp (disch:=omega) only [go_sem,undef]
  exact qS qu ho3 (H.drop 1)
end Go.Fw
namespace Go.Fw
open Go.Proofs
variable {m m0 M:Mem} {S:List Nat} {L:List As}
variable {cb:Nat} {Y:Ly} {C:Co}
def Co.SD(C:Co)(x:Lt)(k:Nat):Option Nat→Co
 | none=>C
 | some j=>match C.leads[j]? with
  | none=>C
  | some l=>if l.bal≠x.bal∨l.ans.g k≠0 then C else if l.way≠df x.kind then C else C.tA j l x k
def Co.zt(C:Co)(x:Lt):Co:=C.SD x x.src.toNat (fdL x.inst C.leads)
abbrev anB:NC:=.seq (.seq jF (.cond (.qq 30) .ret .skip)) (.seq za (.seq (.seq jE (.cond (.qq 41) .ret .skip)) anA))
theorem Gi:ww=.seq jH (.seq jG anB):=rfl
structure qJN(l:Ld):Prop where
 cnt:0≤l.count∧l.count≤1000
 reps:l.reps.length≤99
 said:l.said.length≤99
 keys:∀ s∈l.said,s.cel.cmd.key.size≤1000
theorem AN(h:(coA cb Y C).p m)(ho:Y.ok C)(x:Lt)(hx0:0≤x.src)(hx7:x.src < 7)(hxl:Qe C.xl)(hrec:C.recs.length≤1000000)(hn:C.leads.length≤100000)(hn7:C.n≤7)(hn2:2≤C.n)(hout:C.out.length≤999000)(hld:∀ l∈C.leads,qJN l)(hkx:x.cel.cmd.key.size≤1000) :
  CM Tryz.prog eH [lp cb,x.v] m (coA cb Y C) (CoR cb (C.zt x) (.tuple #[])):=by
 have H:=Hq.one h
 obtain ⟨k,hk⟩:∃ k:Nat,x.src=(k:Nat):=⟨x.src.toNat,by omega⟩
 have hk7:k < 7:=by omega
 have hw:C.zt x=C.SD x k (fdL x.inst C.leads):=by unfold Co.zt;rw [hk,Int.toNat_natCast]
 rw [hw]
 refine eQ (by simp [Tryz.f33]) ?_
 rw [Gi]
 cases hfd:fdL x.inst C.leads with
 | none =>
  generalize hC:anA=T
  show wpN Tryz.prog (.seq jH (.seq jG (.seq (.seq jF (.cond (.qq 30) .ret .skip)) (.seq za (.seq (.seq jE (.cond (.qq 41) .ret .skip)) anA))))) _ _ _
  rw [hC]
  simp (disch:=omega) only [go_sem,undef]
  refine qg H λb3 M f H=>?_
  simp (disch:=omega) only [go_sem,undef,H.cs]
  refine qa H (XA (H.at 1 rfl) ho x.inst (by omega)) λM f H=>?_
  rw [hfd]
  have hpt:ptO Y.lds none=.pointer none:=rfl
  simp (disch:=omega) only [go_sem,undef,H.cs,hpt,Option.isNone_none]
  exact qS qu ho H.tail
 | some j =>
  have hjl:j < C.leads.length:=by
   unfold fdL at hfd
   rw [List.findIdx?_eq_some_iff_getElem] at hfd
   exact hfd.1
  have hlen:=ho.lds
  obtain ⟨l,hl⟩:∃ l,C.leads[j]?=some l:=⟨C.leads[j],List.getElem?_eq_getElem hjl⟩
  obtain ⟨v,hv⟩:∃ v,Y.lds[j]?=some v:=⟨Y.lds[j]'(by omega),List.getElem?_eq_getElem (by omega)⟩
  have hpt:ptO Y.lds (some j)=lp v.b:=by simp [ptO,hv]
  have hlk:=hld l (List.mem_of_getElem? hl)
  have hw1:C.SD x k (some j)=if l.bal≠x.bal∨l.ans.g k≠0 then C else if l.way≠df x.kind then C else C.tA j l x k:=by simp only [Co.SD,hl]
  rw [hw1]
  clear hw hw1
  show wpN Tryz.prog (.seq jH (.seq jG (.seq (.seq jF (.cond (.qq 30) .ret .skip)) (.seq za (.seq (.seq jE (.cond (.qq 41) .ret .skip)) anA))))) _ _ _
  generalize hC3:za=T3
  generalize hC:anA=T
  by_cases hbal:l.bal=x.bal
  ·by_cases hans:l.ans.g k=0
   ·rw [if_neg (by simp [hbal,hans])]
    simp (disch:=omega) only [go_sem,undef]
    refine qg H λb3 M f H=>?_
    simp (disch:=omega) only [go_sem,undef,H.cs]
    refine qa H (XA (H.at 1 rfl) ho x.inst (by omega)) λM f H=>?_
    rw [hfd]
    have hcl:=qT (zy (zV (H.at 1 rfl)) hv hl)
    simp (disch:=omega) only [go_sem,undef,H.cs,hpt,Option.isNone_some,hcl,Ld.c,hk,qZ hbal,qZ hans,qX (show ¬ l.bal≠x.bal from λh=>h hbal),qX (show ¬ l.ans.g k≠0 from λh=>h hans)]
    subst hC3
    refine qym H rfl rfl rfl rfl λM H=>?_
    have hcl:=qT (zy (zV (H.at 1 rfl)) hv hl)
    by_cases hway:l.way=df x.kind
    ·rw [if_neg (λh=>h hway)]
     simp (disch:=omega) only [go_sem,undef,H.cs,hcl,Ld.c,qX (show ¬ l.way≠df x.kind from λh=>h hway)]
     subst hC
     exact ans_b ho hv hl hk hk7 hxl hrec hn hn7 hn2 hout hlk.cnt hlk.reps hlk.said hlk.keys hkx H
    ·rw [if_pos hway]
     simp (disch:=omega) only [go_sem,undef,H.cs,hcl,Ld.c,qZ (show l.way≠df x.kind from hway)]
     exact qS qu ho H.tail
   ·rw [if_pos (.inr hans)]
    simp (disch:=omega) only [go_sem,undef]
    refine qg H λb3 M f H=>?_
    simp (disch:=omega) only [go_sem,undef,H.cs]
    refine qa H (XA (H.at 1 rfl) ho x.inst (by omega)) λM f H=>?_
    rw [hfd]
    have hcl:=qT (zy (zV (H.at 1 rfl)) hv hl)
    simp (disch:=omega) only [go_sem,undef,H.cs,hpt,Option.isNone_some,hcl,Ld.c,hk,qZ hbal,qX hans,qX (show ¬ l.bal≠x.bal from λh=>h hbal),qZ (show l.ans.g k≠0 from hans)]
    exact qS qu ho H.tail
  ·rw [if_pos (.inl hbal)]
   simp (disch:=omega) only [go_sem,undef]
   refine qg H λb3 M f H=>?_
   simp (disch:=omega) only [go_sem,undef,H.cs]
   refine qa H (XA (H.at 1 rfl) ho x.inst (by omega)) λM f H=>?_
   rw [hfd]
   have hcl:=qT (zy (zV (H.at 1 rfl)) hv hl)
   simp (disch:=omega) only [go_sem,undef,H.cs,hpt,Option.isNone_some,hcl,Ld.c,hk,qX hbal,qZ (show l.bal≠x.bal from hbal)]
   exact qS qu ho H.tail
end Go.Fw
namespace Go.Fw
open Go.Proofs
variable {m m0 M:Mem} {S:List Nat} {L:List As}
variable {cb:Nat} {Y:Ly} {C:Co}
abbrev uf(n:Nat)(r:Int):Prop:=0≤r∧r < n
def Co.at(C:Co)(i:Int×Int):Cel:=(lkC i C.lg).getD Cel.zero
def Co.opn(C:Co)(i:Int×Int):Prop:=zj i∧uf C.n i.1∧¬ i.2≤C.cut.g i.1.toNat∧(C.at i).st≠3
instance (C:Co) (i:Int×Int):Decidable (C.opn i):=by unfold Co.opn;exact inferInstance
theorem jT(h:(coA cb Y C).p m)(i:Int×Int):MC Tryz.prog rI [lp cb,pv i] m λu M=>u=.bool (decide (C.opn i))∧Fr m M []:=by
 have hc:=qy h
 have hl:=kO h
 have hone:=λM (f:Fr m M [])=>EK ((coA cb Y C).fr0 h f) i.1
 by_cases hr:zj i
 ·by_cases ho:uf C.n i.1
  ·by_cases hg:i.2≤C.cut.g i.1.toNat
   ·have hf:¬ C.opn i:=λh=>h.2.2.1 hg
    refine kT (by simp [Tryz.f33]) ?_
    have H:=Hq.refl m []
    simp (disch:=omega) only [go_sem,undef]
    refine qg H λb M f H=>?_
    simp (disch:=omega) only [go_sem,undef,H.cs]
    refine qa H (zx i _) λM f H=>?_
    simp (disch:=omega) only [go_sem,undef,H.cs,qZ hr,Bool.not_true]
    refine qa H (hone _ H.fr) λM f H=>?_
    simp (disch:=omega) only [go_sem,undef,H.cs,H.fr.xJ hc,Ly.c,qZ ho,Bool.not_true]
    refine qa H (Xl ((xe ..).fr0 hl H.fr) i) λM f H=>?_
    simp (disch:=omega) only [go_sem,undef,H.cs,qZ (show zj i∧i.2≤C.cut.g i.1.toNat from ⟨hr,hg⟩)]
    exact ⟨by rw [decide_eq_false hf],H.fr⟩
   ·have hst:C.opn i↔((lkC i C.lg).getD Cel.zero).st≠3:=⟨λh=>h.2.2.2,λh=>⟨hr,ho,hg,h⟩⟩
    have hgo:¬ (zj i∧i.2≤C.cut.g i.1.toNat):=λh=>hg h.2
    refine kT (by simp [Tryz.f33]) ?_
    have H:=Hq.refl m []
    simp (disch:=omega) only [go_sem,undef]
    refine qg H λb M f H=>?_
    simp (disch:=omega) only [go_sem,undef,H.cs]
    refine qa H (zx i _) λM f H=>?_
    simp (disch:=omega) only [go_sem,undef,H.cs,qZ hr,Bool.not_true]
    refine qa H (hone _ H.fr) λM f H=>?_
    simp (disch:=omega) only [go_sem,undef,H.cs,H.fr.xJ hc,Ly.c,qZ ho,Bool.not_true]
    refine qa H (Xl ((xe ..).fr0 hl H.fr) i) λM f H=>?_
    simp (disch:=omega) only [go_sem,undef,H.cs,qX hgo,H.fr.xJ hc,Ly.c]
    refine qp ?_ ?_
    ·simp (disch:=omega) only [go_sem,undef,H.cs,H.fr.xJ hc,Ly.c]
     refine qa H (zO ((xe ..).fr0 hl H.fr) i) λM f H=>?_
     simp (disch:=omega) only [go_sem,undef,H.cs,H.fr.xJ hc,Ly.c]
     refine qg H λb4 M f H=>?_
     simp (disch:=omega) only [go_sem,undef,H.cs,H.fr.xJ hc,Ly.c]
     refine qs H rfl rfl λM f H=>?_
     simp (disch:=omega) only [go_sem,undef,H.cs]
     exact ⟨congrArg Value.bool ((decide_eq_decide.2 hst).trans decide_not).symm,H.fr⟩
    ·simp (disch:=omega) only [go_sem,undef,H.cs,H.fr.xJ hc,Ly.c]
     refine qg H λb4 M f H=>?_
     simp (disch:=omega) only [go_sem,undef,H.cs,H.fr.xJ hc,Ly.c]
     refine qa H (zO ((xe ..).fr0 hl H.fr) i) λM f H=>?_
     simp (disch:=omega) only [go_sem,undef,H.cs,H.fr.xJ hc,Ly.c]
     refine qs H rfl rfl λM f H=>?_
     simp (disch:=omega) only [go_sem,undef,H.cs]
     exact ⟨congrArg Value.bool ((decide_eq_decide.2 hst).trans decide_not).symm,H.fr⟩
  ·have hf:¬ C.opn i:=λh=>ho h.2.1
   refine kT (by simp [Tryz.f33]) ?_
   have H:=Hq.refl m []
   simp (disch:=omega) only [go_sem,undef]
   refine qg H λb M f H=>?_
   simp (disch:=omega) only [go_sem,undef,H.cs]
   refine qa H (zx i _) λM f H=>?_
   simp (disch:=omega) only [go_sem,undef,H.cs,qZ hr,Bool.not_true]
   refine qa H (hone _ H.fr) λM f H=>?_
   simp (disch:=omega) only [go_sem,undef,H.cs,qX ho,Bool.not_false]
   exact ⟨by rw [decide_eq_false hf],H.fr⟩
 ·have hf:¬ C.opn i:=λh=>hr h.1
  refine kT (by simp [Tryz.f33]) ?_
  have H:=Hq.refl m []
  simp (disch:=omega) only [go_sem,undef]
  refine qg H λb M f H=>?_
  simp (disch:=omega) only [go_sem,undef,H.cs]
  refine qa H (zx i _) λM f H=>?_
  simp (disch:=omega) only [go_sem,undef,H.cs,qX hr,Bool.not_false]
  exact ⟨by rw [decide_eq_false hf],H.fr⟩
theorem VN{b:Nat}{x:Wsh}(h:(wsA b x).p m):m b=some (.cells x.cs.toArray VV (0,0)):=cell_of h
theorem nV(h:(coA cb Y C).p m):(we Y.wss C.wishes).p m:=zY h _ (by simp)
theorem cy{vs:List Nat}{xs:List Wsh}{j:Nat}{b:Nat}{x:Wsh}(h:(we vs xs).p m)(hv:vs[j]?=some b)(hx:xs[j]?=some x):(wsA b x).p m:=by
 refine zY h _ (List.mem_of_getElem? (i:=j) ?_)
 rw [List.getElem?_zipWith,hv,hx]
def ptW(vs:List Nat):Option Nat→Value
 | some j=>match vs[j]? with
  | some b=>lp b
  | none=>.pointer none
 | none=>.pointer none
def fdW(i:Int×Int)(l:List Wsh):Option Nat:=l.findIdx? λx=>decide (x.id=i)
theorem WQ(h:(coA cb Y C).p m)(ho:Y.ok C)(i:Int×Int)(hn:C.wishes.length≤1000000):MC Tryz.prog mX [lp cb,pv i] m λu M=>u=ptW Y.wss (fdW i C.wishes)∧Fr m M []:=by
 have hrow:=gf h
 obtain ⟨a,c,hv⟩:=hrow.form
 have hrd:RdS 1 ptV m Y.wv Y.wss:=Own.rds (by decide) (λ_=>rfl) hrow
 have hc:=qy h
 have hlds:=nV h
 have hlen:=ho.wss
 generalize Y.wss=vs at *
 refine iu (by simp [Tryz.f33]) ?_
 have H:=Hq.refl m []
 simp (disch:=omega) only [go_sem,undef]
 refine qg H λb M f H=>?_
 simp (disch:=omega) only [go_sem,undef,H.fr.xJ hc,Ly.c,hv]
 rw [hv] at hrd
 refine qe (λk E m'=>∃ (j:Nat),j≤vs.length∧k=vs.length - j∧(∀ t y,t < j→C.wishes[t]?=some y→decide (y.id=i)=false)∧E=[(3,.pointer (some ⟨b,0,none⟩)),(10,.slice a vs.length c),(11,.int .i64 (vs.length:Nat)),(12,.int .i64 (j:Nat))]∧Hq m m' [] [qw b (.cells (pc i).toArray qW)]) vs.length rfl ⟨0,by omega,rfl,by simp,rfl,H⟩ ?_
 clear H f
 rintro k E M1 ⟨j,hj,rfl,hno,rfl,H⟩
 by_cases hlt:j < vs.length
 ·refine RdS.elK (hrd.frame H.fr) hlt (by decide) λbx o v hvj hix hE=>?_
  have hp0:(ptV v)[0]?=some (lp v):=rfl
  refine Exists.elim (⟨C.wishes[j]'(by omega),List.getElem?_eq_getElem (by omega)⟩:∃ x,C.wishes[j]?=some x) λx hx=>?_
  have hcl:=H.fr.xJ (VN (cy hlds hvj hx))
  by_cases hid:x.id=i
  ·have hfd:fdW i C.wishes=some j:=Bw hno hx (by simp [hid])
   simp (disch:=omega) only [go_sem,undef,qZ (show ((j:Nat):Int) < (vs.length:Nat) by omega),hix,hE.ld0,hp0,H.cs,hcl,qZ hid]
   exact ⟨by rw [hfd];simp [ptW,hvj],H.fr⟩
  ·simp (disch:=omega) only [go_sem,undef,qZ (show ((j:Nat):Int) < (vs.length:Nat) by omega),hix,hE.ld0,hp0,H.cs,hcl,qX hid]
   refine qK (vs.length - (j+1)) (by omega) ⟨j+1,by omega,rfl,λt y ht hy=>?_,rfl,H⟩
   rcases Nat.lt_or_eq_of_le (Nat.le_of_lt_succ ht) with h | h
   ·exact hno t y h hy
   ·subst h;rw [hx] at hy;cases hy;simp [hid]
 ·have e:j=vs.length:=by omega
  subst e
  have hfd:fdW i C.wishes=none:=Lj λt y ht hy=>hno t y (by omega) hy
  simp (disch:=omega) only [go_sem,undef,qX (show ¬ ((vs.length:Nat):Int) < (vs.length:Nat) by omega)]
  exact ⟨by rw [hfd];rfl,H.fr⟩
end Go.Fw
namespace Go.Fw
open Go.Proofs
variable {m m0 M:Mem} {S:List Nat} {L:List As}
variable {cb:Nat} {Y:Ly} {C:Co}
def aH(i:Int×Int)(l:List Wsh):Nat:=(l.takeWhile λy=>decide (lt2 y.id i)).length
theorem Iw(i:Int×Int)(l:List Wsh):aH i l≤l.length:=(List.takeWhile_sublist _).length_le
theorem Td{i:Int×Int}:∀ {l:List Wsh} {j:Nat} {y:Wsh},j < aH i l→l[j]?=some y→lt2 y.id i
 | [],j,y,h,_=>by simp [aH] at h
 | a::r,j,y,h,hy=>by
  by_cases ha:lt2 a.id i
  ·cases j with
   | zero=>simp at hy;subst hy;exact ha
   | succ j=>exact Td (l:=r) (j:=j) (by simpa [aH,List.takeWhile_cons,ha] using h) (by simpa using hy)
  ·simp [aH,List.takeWhile_cons,ha] at h
theorem Te{i:Int×Int}:∀ {l:List Wsh} {y:Wsh},l[aH i l]?=some y→¬ lt2 y.id i
 | [],y,h=>by simp at h
 | a::r,y,h=>by
  by_cases ha:lt2 a.id i
  ·have e:aH i (a::r)=aH i r+1:=by simp [aH,List.takeWhile_cons,ha]
   rw [e] at h
   exact Te (l:=r) (by simpa using h)
  ·have e:aH i (a::r)=0:=by simp [aH,List.takeWhile_cons,ha]
   rw [e] at h
   simp at h;subst h;exact ha
abbrev Co.Gn(C:Co)(i:Int×Int):Prop:=C.opn i∧fdW i C.wishes=none∧C.wishes.length < 256
def Co.want(C:Co)(b:Nat)(i:Int×Int):Co:=if C.Gn i then { C with wishes:=zq C.wishes (aH i C.wishes) ⟨i,0,(0,0)⟩,wb:=zq C.wb (aH i C.wishes) b } else C
theorem qki{vs:List Nat}{xs:List Wsh}{v:Nat}{x:Wsh}(j:Nat)(hl:vs.length=xs.length)(H:Hq m0 m S (wsA v x::we vs xs::L)):Hq m0 m S (we (zq vs j v) (zq xs j x)::L):=by
 have H:=Hq.zc (l:=List.zipWith wsA vs xs) (H.perm (List.Perm.swap ..))
 refine Hq.jc (l:=List.zipWith wsA (zq vs j v) (zq xs j x)) ?_
 rw [Hi wsA v x j vs xs hl]
 have hp:(List.zipWith wsA vs xs++wsA v x::L).Perm (zq (List.zipWith wsA vs xs) j (wsA v x)++L) :=
  List.perm_middle.trans ((bV (List.zipWith wsA vs xs) j (wsA v x)).symm.append_right L)
 exact H.perm hp.symm
theorem RR{i:Int×Int}{l:List Wsh}{j:Nat}(h:fdW i l=some j):j < l.length:=by
 unfold fdW at h
 rw [List.findIdx?_eq_some_iff_getElem] at h
 exact h.1
theorem Wsh.lay_i(p:Int×Int):lay [.int .i64 0,.int .i64 0,.int .i64 0,.int .i64 0,.int .i64 0] [(0,2)] [.agg (pc p).toArray]=some (⟨p,0,(0,0)⟩:Wsh).cs:=rfl
theorem Wsh.lay_j(c:Wsh)(p:Int×Int):lay c.cs [(0,2)] [.agg (pc p).toArray]=some ({ c with id:=p }:Wsh).cs:=rfl
attribute [go_sem ↓] Wsh.lay_i
attribute [go_sem] Wsh.lay_j
abbrev waA:NC:=.seq (.block 0 (.loop [0,3,5] Jt)) (.seq xq (.seq jU .ret))
theorem qQW{C0:Co}{Y0:Ly}{b3:Nat}{i:Int×Int}(ho:Y.ok C)(hn:C.wishes.length < 256)(H:Hq m M (coA cb Y0 C0).wp [qw b3 (.cells (pc i).toArray qW (0,0)),coA cb Y C]) :
  wpN Tryz.prog waA (vB [.qq 4] λu M=>∃ A',(∃ b,CoR cb { C with wishes:=zq C.wishes (aH i C.wishes) ⟨i,0,(0,0)⟩,wb:=zq C.wb (aH i C.wishes) b } (.bool true) u A')∧A'.p M∧Fr m M (coA cb Y0 C0).wp∧(∀ b∈A'.fp,b∈(coA cb Y0 C0).fp∨m b=none)∧∀ b∈A'.wp,b∈(coA cb Y0 C0).wp∨m b=none) [(0,lp cb),(3,lp b3),(5,.int .i64 0)] M:=by
 have hple:=Iw i C.wishes
 have hplt:∀ j y,j < aH i C.wishes→C.wishes[j]?=some y→lt2 y.id i:=λj y h hy=>Td h hy
 have hpat:∀ y,C.wishes[aH i C.wishes]?=some y→¬ lt2 y.id i:=λy hy=>Te hy
 generalize aH i C.wishes=p at *
 have hend:∀ (E1:Env) (j:Nat),j=p→E1.get 0=lp cb→E1.get 3=lp b3→E1.get 5=.int .i64 (j:Nat)→E1.has 0=true→E1.has 3=true→E1.has 5=true →
   ∀ M1,Hq m M1 (coA cb Y0 C0).wp [qw b3 (.cells (pc i).toArray qW (0,0)),coA cb Y C] →
   wpN Tryz.prog (.seq xq (.seq jU .ret)) (vB [.qq 4] λu M=>∃ A',(∃ b,CoR cb { C with wishes:=zq C.wishes p ⟨i,0,(0,0)⟩,wb:=zq C.wb p b } (.bool true) u A')∧A'.p M∧Fr m M (coA cb Y0 C0).wp∧(∀ b∈A'.fp,b∈(coA cb Y0 C0).fp∨m b=none)∧∀ b∈A'.wp,b∈(coA cb Y0 C0).wp∨m b=none) E1 M1:=by
  intro E1 j e g0 g3 g5 k0 k3 k5 M1 H
  have hlen:=ho.wss
  have hc:=qy (H.at 1 rfl)
  refine Own.zC (gf (H.at 1 rfl)) λa c hv=>?_
  simp (disch:=omega) only [go_sem,undef,g0,g3,g5,k0,k3,k5,H.cs,hc,Ly.c,hv]
  refine qg H λb8 M f H=>?_
  have H:Hq m M (coA cb Y0 C0).wp [wsA b8 ⟨i,0,(0,0)⟩,qw b3 (.cells (pc i).toArray qW (0,0)),coA cb Y C]:=H
  have hc:=qy (H.at 2 rfl)
  simp (disch:=omega) only [go_sem,undef,g0,g3,g5,k0,k3,k5,H.cs,hc,Ly.c,hv]
  refine qg H λb9 M f H=>?_
  have hb9:=H.cs.1
  have H:Hq m M (coA cb Y0 C0).wp (coA cb Y C::[qw b9 (.cells [lp b8].toArray qQ (0,0)),wsA b8 ⟨i,0,(0,0)⟩]):=H.sel 4 [3,0,1] rfl (by decide) (by decide)
  have hc2:=qy (H.at 0 rfl)
  have H:=Hq.coS H
  have hap:JF (qV qQ 1 Y.wv Y.wss.length (Y.wss.flatMap ptV)) (qw b9 (.cells [lp b8].toArray qQ (0,0))):=H.apart 4 9 11 rfl (by decide) (by decide) (by decide)
  have hins:=qZN (v:=Y.wv) (l:=Y.wss) (b0:=b9) (x:=b8) (H.at 4 rfl) hb9 (λhb=>hap.2 b9 (by simp) hb) p (by omega) (by omega)
  have hargs:[Y.wv,Value.int .i64 (p:Nat),.slice (some ⟨b9,0,none⟩) 1 1]=[.slice a Y.wss.length c,Value.int .i64 (j:Nat),.slice (some ⟨b9,0,none⟩) 1 1]:=by rw [hv,e]
  rw [hargs] at hins
  simp (disch:=omega) only [go_sem,undef,g0,g3,g5,k0,k3,k5,hc2,Ly.c,hv]
  refine qU 4 H hins rfl λu M2 A' eA f H=>?_
  subst eA
  refine Own.zC (H.at 4 rfl) λa2 c2 e2=>Exists.elim (⟨_,rfl⟩:∃ n',n'=(zq Y.wss p b8).length) λn' hn'=>?_
  rw [← hn'] at e2
  subst e2
  have H:Hq m M2 (coA cb Y0 C0).wp [qw cb (.cells (Y.c C).cs.toArray qH (0,0)),xe Y.lb Y.lr C.cut C.lg,xT Y.xb Y.xr C.xcut C.xl,qV qd 1 Y.lv Y.lds.length (Y.lds.flatMap λv=>ptV v.b),qV qQ 1 (.slice a2 n' c2) (zq Y.wss p b8).length ((zq Y.wss p b8).flatMap ptV),brA qB Y.rv Y.rs C.recs,qV qv 51 Y.ov C.out.length (C.out.flatMap Lt.cs),Qb Y.lds C.leads,we Y.wss C.wishes,qw b9 (.cells [lp b8].toArray qQ (0,0)),wsA b8 ⟨i,0,(0,0)⟩]:=H
  simp (disch:=omega) only [go_sem,undef,g0,g3,g5,k0,k3,k5,H.cs,Ly.c]
  refine xK H λM3 f H=>?_
  have H:Hq m M3 (coA cb Y0 C0).wp (wsA b8 ⟨i,0,(0,0)⟩::we Y.wss C.wishes::[qw cb (.cells (Ly.c { Y with wv:=.slice a2 n' c2,wss:=zq Y.wss p b8 } { C with wishes:=zq C.wishes p ⟨i,0,(0,0)⟩,wb:=zq C.wb p b8 }).cs.toArray qH (0,0)),xe Y.lb Y.lr C.cut C.lg,xT Y.xb Y.xr C.xcut C.xl,qV qd 1 Y.lv Y.lds.length (Y.lds.flatMap λv=>ptV v.b),qV qQ 1 (.slice a2 n' c2) (zq Y.wss p b8).length ((zq Y.wss p b8).flatMap ptV),brA qB Y.rv Y.rs C.recs,qV qv 51 Y.ov C.out.length (C.out.flatMap Lt.cs),Qb Y.lds C.leads]):=H.sel 11 [10,8,0,1,2,3,4,5,6,7] rfl (by decide) (by decide)
  have H:=qki p hlen H
  have H:Hq m M3 (coA cb Y0 C0).wp (coL cb { Y with wv:=.slice a2 n' c2,wss:=zq Y.wss p b8 } { C with wishes:=zq C.wishes p ⟨i,0,(0,0)⟩,wb:=zq C.wb p b8 }++[]):=H.sel 9 [1,2,3,4,5,6,7,8,0] rfl (by decide) (by decide)
  have H:=Hq.coJ H
  simp (disch:=omega) only [go_sem,undef]
  have hfin:=qS (V:=.bool true) qu (Y':={ Y with wv:=.slice a2 n' c2,wss:=zq Y.wss p b8 }) (C':={ C with wishes:=zq C.wishes p ⟨i,0,(0,0)⟩,wb:=zq C.wb p b8 }) ⟨ho.lds,by rw [xS _ _ _ (by omega),xS _ _ _ hple,hlen],by rw [ho.wb]⟩ H
  obtain ⟨A',h1,h2⟩:=hfin
  exact ⟨A',⟨b8,h1⟩,h2⟩
 show wpN Tryz.prog (.seq (.block 0 (.loop [0,3,5] Jt)) (.seq xq (.seq jU .ret))) _ _ _
 generalize hC:(NC.seq xq (.seq jU .ret))=T at *
 simp (disch:=omega) only [go_sem,undef]
 refine qe (λk E m'=>∃ j,j≤p∧k=p - j∧E=[(0,lp cb),(3,lp b3),(5,.int .i64 (j:Nat))]∧Hq m m' (coA cb Y0 C0).wp [qw b3 (.cells (pc i).toArray qW (0,0)),coA cb Y C]) p rfl ⟨0,by omega,rfl,rfl,H⟩ ?_
 clear H
 rintro k E M1 ⟨j,hj,rfl,rfl,H⟩
 have hc:=qy (H.at 1 rfl)
 have hrow:=gf (H.at 1 rfl)
 have hlen:=ho.wss
 have hlds:=nV (H.at 1 rfl)
 have hrd:RdS 1 ptV M1 Y.wv Y.wss:=Own.rds (by decide) (λ_=>rfl) hrow
 refine Own.zC hrow λa c hv=>?_
 rw [hv] at hrd
 by_cases hjl:j < Y.wss.length
 ·refine RdS.elK hrd hjl (by decide) λbx o w hw hix hE=>?_
  have hp0:(ptV w)[0]?=some (lp w):=rfl
  refine Exists.elim (⟨C.wishes[j],List.getElem?_eq_getElem (by omega)⟩:∃ y,C.wishes[j]?=some y) λy hy=>?_
  have hcy:=VN (cy hlds hw hy)
  by_cases hjp:j < p
  ·have hless:=hplt j y hjp hy
   simp (disch:=omega) only [go_sem,undef,hc,Ly.c,hv,qZ (show ((j:Nat):Int) < (Y.wss.length:Nat) by omega),hix,hE.ld0,hp0,hcy,H.cs]
   refine qa H (Kt y.id i _) λM f H=>?_
   simp (disch:=omega) only [go_sem,undef,qZ hless]
   exact qK (p - (j+1)) (by omega) ⟨j+1,by omega,rfl,rfl,H⟩
  ·have e:j=p:=by omega
   have hless:=hpat y (by rw [← e];exact hy)
   simp (disch:=omega) only [go_sem,undef,hc,Ly.c,hv,qZ (show ((j:Nat):Int) < (Y.wss.length:Nat) by omega),hix,hE.ld0,hp0,hcy,H.cs]
   refine qa H (Kt y.id i _) λM f H=>?_
   simp (disch:=omega) only [go_sem,undef,qX hless]
   exact hend _ j e rfl rfl rfl rfl rfl rfl _ H
 ·have e:j=p:=by omega
  simp (disch:=omega) only [go_sem,undef,hc,Ly.c,hv,qX (show ¬ ((j:Nat):Int) < (Y.wss.length:Nat) by omega)]
  exact hend _ j e rfl rfl rfl rfl rfl rfl _ H
end Go.Fw
namespace Go.Fw
open Go.Proofs
variable {m m0 M:Mem} {S:List Nat} {L:List As}
variable {cb:Nat} {Y:Ly} {C:Co}
theorem Uf:XF=.seq aJ (.seq (.seq aZ (.cond (.qq 23) (.seq aQ .ret) .skip)) (.seq ay waA)):=rfl
theorem Xg{A:As}{V:Value}{Y':Ly}{C':Nat→Co}(b:Nat)(hfw:A.fp=A.wp)(ho:Y'.ok (C' b))(H:Hq m M A.wp [coA cb Y' (C' b)]) :
  ∃ A',(∃ b,CoR cb (C' b) V V A')∧A'.p M∧Fr m M A.wp∧(∀ b∈A'.fp,b∈A.fp∨m b=none)∧∀ b∈A'.wp,b∈A.wp∨m b=none:=by
 obtain ⟨A',h1,h2⟩:=qS (V:=V) hfw ho H
 exact ⟨A',⟨b,h1⟩,h2⟩
theorem uZ(h:(coA cb Y C).p m)(ho:Y.ok C)(i:Int×Int)(hn:C.wishes.length≤100000) :
  CM Tryz.prog rN [lp cb,pv i] m (coA cb Y C) (λu A=>∃ b,CoR cb (C.want b i) (.bool (decide (C.Gn i))) u A):=by
 have H:=Hq.one h
 have hlen:=ho.wss
 refine Own.zC (gf h) λa c hv=>?_
 refine pO (by simp [Tryz.f33]) ?_
 rw [Uf]
 generalize hC:waA=T
 by_cases h1:C.opn i
 ·have h2o:(∃ j,fdW i C.wishes=some j)∨fdW i C.wishes=none:=by
   cases fdW i C.wishes with
   | none=>exact .inr rfl
   | some j=>exact .inl ⟨j,rfl⟩
  rcases h2o with ⟨j,h2⟩ | h2
  ·
   have hw:¬ C.Gn i:=λh=>by have h4:=h.2.1;rw [h2] at h4;cases h4
   have hwt:∀ b,C.want b i=C:=λb=>if_neg hw
   have hjl:=RR h2
   refine Exists.elim (⟨Y.wss[j]'(by omega),List.getElem?_eq_getElem (by omega)⟩:∃ v,Y.wss[j]?=some v) λv hvj=>?_
   have hpt:ptW Y.wss (some j)=lp v:=by simp [ptW,hvj]
   simp only [hwt]
   rw [decide_eq_false hw]
   simp (disch:=omega) only [go_sem,undef]
   refine qg H λb3 M f H=>?_
   simp (disch:=omega) only [go_sem,undef,H.cs]
   refine qa H (jT (H.at 1 rfl) i) λM f H=>?_
   simp (disch:=omega) only [go_sem,undef,H.cs,qZ h1,Bool.not_true]
   refine qa H (WQ (H.at 1 rfl) ho i (by omega)) λM f H=>?_
   rw [h2]
   simp (disch:=omega) only [go_sem,undef,H.cs,hpt,GG]
   exact Xg (C':=λ_=>C) 0 qu ho H.tail
  ·
   have hpt:ptW Y.wss none=.pointer none:=rfl
   by_cases h3:C.wishes.length < 256
   ·have hw:C.Gn i:=⟨h1,h2,h3⟩
    have hwt:∀ b,C.want b i={ C with wishes:=zq C.wishes (aH i C.wishes) ⟨i,0,(0,0)⟩,wb:=zq C.wb (aH i C.wishes) b }:=λb=>if_pos hw
    simp only [hwt]
    rw [decide_eq_true hw]
    simp (disch:=omega) only [go_sem,undef]
    refine qg H λb3 M f H=>?_
    simp (disch:=omega) only [go_sem,undef,H.cs]
    refine qa H (jT (H.at 1 rfl) i) λM f H=>?_
    simp (disch:=omega) only [go_sem,undef,H.cs,qZ h1,Bool.not_true]
    refine qa H (WQ (H.at 1 rfl) ho i (by omega)) λM f H=>?_
    rw [h2]
    simp (disch:=omega) only [go_sem,undef,H.cs,hpt,GH,qy (H.at 1 rfl),Ly.c,hv,qX (show ¬ ((Y.wss.length:Nat):Int)≥256 by omega)]
    subst hC
    exact qQW ho h3 H
   ·have hw:¬ C.Gn i:=λh=>h3 h.2.2
    have hwt:∀ b,C.want b i=C:=λb=>if_neg hw
    simp only [hwt]
    rw [decide_eq_false hw]
    simp (disch:=omega) only [go_sem,undef]
    refine qg H λb3 M f H=>?_
    simp (disch:=omega) only [go_sem,undef,H.cs]
    refine qa H (jT (H.at 1 rfl) i) λM f H=>?_
    simp (disch:=omega) only [go_sem,undef,H.cs,qZ h1,Bool.not_true]
    refine qa H (WQ (H.at 1 rfl) ho i (by omega)) λM f H=>?_
    rw [h2]
    simp (disch:=omega) only [go_sem,undef,H.cs,hpt,GH,qy (H.at 1 rfl),Ly.c,hv,qZ (show ((Y.wss.length:Nat):Int)≥256 by omega)]
    exact Xg (C':=λ_=>C) 0 qu ho H.tail
 ·have hw:¬ C.Gn i:=λh=>h1 h.1
  have hwt:∀ b,C.want b i=C:=λb=>if_neg hw
  simp only [hwt]
  rw [decide_eq_false hw]
  simp (disch:=omega) only [go_sem,undef]
  refine qg H λb3 M f H=>?_
  simp (disch:=omega) only [go_sem,undef,H.cs]
  refine qa H (jT (H.at 1 rfl) i) λM f H=>?_
  simp (disch:=omega) only [go_sem,undef,H.cs,qX h1,Bool.not_false]
  exact Xg (C':=λ_=>C) 0 qu ho H.tail
end Go.Fw
