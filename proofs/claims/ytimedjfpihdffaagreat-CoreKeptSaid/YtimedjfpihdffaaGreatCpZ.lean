import Derived.Test.YtimedjfpihdffaaGreatCpY
set_option linter.unusedVariables false
set_option linter.unusedSimpArgs false
set_option maxHeartbeats 16000000
namespace Go.Fw
open Go.Proofs
variable {m m0 M:Mem} {S:List Nat} {L:List As}
variable {cb:Nat} {Y:Ly} {C:Co}
abbrev iV (n:Int):Value:=.int .i64 n
theorem NK:XB false [.i .i64] iV where
 fit x:=rfl
 eq x y:=HB x y
def oG (k:Int):Int:=if k=2 then 0 else if k=4 then 1 else if k=7 then 2 else 0
theorem qjc (k:Int):(match look k (gW 7 (iV 2) (gW 4 (iV 1) (gW 2 (iV 0) ([]:List (Int×Value))))) with | some v=>v | none=>iV 0)=iV (oG k):=by
 have e:gW 7 (iV 2) (gW 4 (iV 1) (gW 2 (iV 0) ([]:List (Int×Value))))=[(2,iV 0),(4,iV 1),(7,iV 2)]:=by simp [gW,zx]
 rw [e]
 unfold oG look
 by_cases h2:k=2
 ·subst h2;rfl
 by_cases h4:k=4
 ·subst h4;rfl
 by_cases h7:k=7
 ·subst h7;rfl
 ·rw [if_neg h2,if_neg h4,if_neg h7]
  simp [XN,h2,h4,h7,Ne.symm h2,Ne.symm h4,Ne.symm h7]
theorem qZC {E:Env} {b3:Nat} {x:Lt} {Q:Exit→Env→Mem→Prop} (H:Hq m M S (qv b3 (.cells x.cs.toArray qw (0,0))::L)) (e3:E.get 3=lp b3) (h0:E.has 0=true) (h3:E.has 3=true) (h4:E.has 4=true)
  (K:∀ M,Hq m M S (qv b3 (.cells x.cs.toArray qw (0,0))::L)→Q .normal [(0,E.get 0),(3,lp b3),(4,E.get 4),(5,.int .i64 (oG x.kind))] M) :
  wpN Tryz.prog zc Q E M:=by
 simp (disch:=omega) only [go_sem,undef,e3,h0,h3,h4,H.cs]
 refine qh H fun r M f H=>?_
 simp (disch:=omega) only [go_sem,undef,e3,h0,h3,h4,H.cs]
 have hM:JM iV M r ([]:List (Int×Value)):=⟨#[],0,H.cs.1,rfl,by simp [zx],by simp,by simp⟩
 refine pt (k:=(2:Int)) NK hM fun M1 hM f1 _=>?_
 simp (disch:=omega) only [go_sem,undef,e3,h0,h3,h4]
 refine pt (k:=(4:Int)) NK hM fun M2 hM f2 _=>?_
 simp (disch:=omega) only [go_sem,undef,e3,h0,h3,h4]
 refine pt (k:=(7:Int)) NK hM fun M3 hM f3 _=>?_
 have H:=H.TP (A':=qvg) (M:=M3) trivial (by simpa using ((f1.bR f2).bR f3)) (by simp) (by simp)
 have H:=H.tail
 have hlk:=qvx NK hM x.kind (iV 0) false
 have hlk2:rd (.lkp false [.i .i64] (.int .i64 0) false) [.map (some r),.int .i64 x.kind] M3=some (.int .i64 (oG x.kind)):=by
  refine hlk.trans (congrArg some ?_)
  exact qjc x.kind
 simp (disch:=omega) only [go_sem,undef,e3,h0,h3,h4,H.cs,hlk2]
 exact K _ H
end Go.Fw
namespace Go.Fw
open Go.Proofs
variable {m m0 M:Mem} {S:List Nat} {L:List As}
theorem Vl {α β γ:Type} (f:α→β→γ):∀ (j:Nat) (vs:List α) (xs:List β) (v:α) (x:β),vs[j]?=some v→xs[j]?=some x→(List.zipWith f vs xs).Perm (f v x::List.zipWith f (vs.eraseIdx j) (xs.eraseIdx j))
 | _,[],_,_,_,h,_=>by simp at h
 | _,_::_,[],_,_,_,h=>by simp at h
 | 0,a::vs,b::xs,v,x,h1,h2=>by
  simp at h1 h2;subst h1 h2;exact List.Perm.refl _
 | j+1,a::vs,b::xs,v,x,h1,h2=>by
  have ih:=Vl f j vs xs v x (by simpa using h1) (by simpa using h2)
  exact (ih.cons (f a b)).trans (List.Perm.swap ..)
theorem qvA {vs:List LdV} {xs:List Ld} {j:Nat} {v:LdV} {x:Ld} (hv:vs[j]?=some v) (hx:xs[j]?=some x) (H:Hq m0 m S (Qg vs xs::L)):Hq m0 m S (ldA v x::Qg (vs.eraseIdx j) (xs.eraseIdx j)::L):=by
 have H:=Hq.ze (l:=List.zipWith ldA vs xs) H
 have H:=H.perm ((Vl ldA j vs xs v x hv hx).symm.append_right L)
 exact (Hq.xq (l:=List.zipWith ldA (vs.eraseIdx j) (xs.eraseIdx j)) (L:=ldA v x::L) (H.perm (List.perm_middle))).perm (List.Perm.swap ..)
theorem qxd {vs:List LdV} {xs:List Ld} {j:Nat} {v:LdV} {x:Ld} (hv:j < vs.length) (hx:j < xs.length) (H:Hq m0 m S (ldA v x::Qg (vs.eraseIdx j) (xs.eraseIdx j)::L)):Hq m0 m S (Qg (vs.set j v) (xs.set j x)::L):=by
 have H:=Hq.ze (l:=List.zipWith ldA (vs.eraseIdx j) (xs.eraseIdx j)) (H.perm (List.Perm.swap ..))
 have hp:=Vl ldA j (vs.set j v) (xs.set j x) v x (by simp [hv]) (by simp [hx])
 rw [List.eraseIdx_set_eq,List.eraseIdx_set_eq] at hp
 exact Hq.xq (l:=List.zipWith ldA (vs.set j v) (xs.set j x)) (H.perm ((hp.append_right L).trans List.perm_middle.symm))
end Go.Fw
namespace Go.Fw
open Go.Proofs
variable {m m0 M:Mem} {S:List Nat} {L:List As}
variable {cb:Nat} {Y:Ly} {C:Co}
def coR (cb:Nat) (Y:Ly) (C:Co) (j:Nat):List As:=[Qg (Y.lds.eraseIdx j) (C.leads.eraseIdx j),qv cb (.cells (Y.c C).cs.toArray qG (0,0)),jT Y.lb Y.lr C.cut C.lg,xC Y.xb Y.xr C.xcut C.xl,qK qc 1 Y.lv Y.lds.length (Y.lds.flatMap fun v=>ptV v.b),qK qQ 1 Y.wv Y.wss.length (Y.wss.flatMap ptV),
 brA qC Y.rv Y.rs C.recs,qK qw 51 Y.ov C.out.length (C.out.flatMap Lt.cs),wu Y.wss C.wishes]
theorem qjx {j:Nat} {v:LdV} {l:Ld} (hv:Y.lds[j]?=some v) (hl:C.leads[j]?=some l) (H:Hq m0 m S (coA cb Y C::L)) :
  Hq m0 m S (qv v.b (.cells (l.c v).cs.toArray qM (0,0))::qK qb 8 v.rp l.reps.length (l.reps.flatMap Att.cs)::qK qE 22 v.sd l.said.length (l.said.flatMap Sd.cs)::qP (coR cb Y C j)::L):=by
 have H:=Hq.coS H
 have H:Hq m0 m S (Qg Y.lds C.leads::([qv cb (.cells (Y.c C).cs.toArray qG (0,0)),jT Y.lb Y.lr C.cut C.lg,xC Y.xb Y.xr C.xcut C.xl,qK qc 1 Y.lv Y.lds.length (Y.lds.flatMap fun v=>ptV v.b),qK qQ 1 Y.wv Y.wss.length (Y.wss.flatMap ptV),
  brA qC Y.rv Y.rs C.recs,qK qw 51 Y.ov C.out.length (C.out.flatMap Lt.cs),wu Y.wss C.wishes]++L)):=by
  refine H.perm ?_
  show List.Perm _ (_::_::_::_::_::_::_::Qg Y.lds C.leads::wu Y.wss C.wishes::L)
  exact (List.perm_middle (l₁:=[qv cb (.cells (Y.c C).cs.toArray qG (0,0)),jT Y.lb Y.lr C.cut C.lg,xC Y.xb Y.xr C.xcut C.xl,qK qc 1 Y.lv Y.lds.length (Y.lds.flatMap fun v=>ptV v.b),qK qQ 1 Y.wv Y.wss.length (Y.wss.flatMap ptV),brA qC Y.rv Y.rs C.recs,qK qw 51 Y.ov C.out.length (C.out.flatMap Lt.cs)]) (l₂:=wu Y.wss C.wishes::L)).symm
 have H:=qvA hv hl H
 have H:=Hq.ze (l:=[qv v.b (.cells (l.c v).cs.toArray qM (0,0)),qK qb 8 v.rp l.reps.length (l.reps.flatMap Att.cs),qK qE 22 v.sd l.said.length (l.said.flatMap Sd.cs)]) H
 have H:Hq m0 m S (coR cb Y C j++([qv v.b (.cells (l.c v).cs.toArray qM (0,0)),qK qb 8 v.rp l.reps.length (l.reps.flatMap Att.cs),qK qE 22 v.sd l.said.length (l.said.flatMap Sd.cs)]++L)):=by
  refine H.perm ?_
  exact (List.perm_append_comm_assoc _ _ _)
 have H:=Hq.xq H
 exact H.perm (List.perm_middle (l₁:=[qv v.b (.cells (l.c v).cs.toArray qM (0,0)),qK qb 8 v.rp l.reps.length (l.reps.flatMap Att.cs),qK qE 22 v.sd l.said.length (l.said.flatMap Sd.cs)]))
theorem qzW {v v':LdV} (hb:v'.b=v.b):∀ (vs:List LdV) (j:Nat),vs[j]?=some v→(vs.set j v').flatMap (fun v=>ptV v.b)=vs.flatMap fun v=>ptV v.b
 | [],_,h=>by simp at h
 | a::r,0,h=>by
  simp at h;subst h
  rw [List.set_cons_zero,List.flatMap_cons,List.flatMap_cons,hb]
 | a::r,j+1,h=>by
  rw [List.set_cons_succ,List.flatMap_cons,List.flatMap_cons,qzW hb r j (by simpa using h)]
theorem CG {j:Nat} {v v':LdV} {l l':Ld} (hv:Y.lds[j]?=some v) (hl:C.leads[j]?=some l) (hb:v'.b=v.b)
  (H:Hq m0 m S (qv v'.b (.cells (l'.c v').cs.toArray qM (0,0))::qK qb 8 v'.rp l'.reps.length (l'.reps.flatMap Att.cs)::qK qE 22 v'.sd l'.said.length (l'.said.flatMap Sd.cs)::qP (coR cb Y C j)::L)) :
  Hq m0 m S (coA cb { Y with lds:=Y.lds.set j v' } { C with leads:=C.leads.set j l' }::L):=by
 have H:Hq m0 m S (qP (coR cb Y C j)::([qv v'.b (.cells (l'.c v').cs.toArray qM (0,0)),qK qb 8 v'.rp l'.reps.length (l'.reps.flatMap Att.cs),qK qE 22 v'.sd l'.said.length (l'.said.flatMap Sd.cs)]++L)) :=
  H.perm (List.perm_middle (l₁:=[qv v'.b (.cells (l'.c v').cs.toArray qM (0,0)),qK qb 8 v'.rp l'.reps.length (l'.reps.flatMap Att.cs),qK qE 22 v'.sd l'.said.length (l'.said.flatMap Sd.cs)])).symm
 have H:=Hq.ze H
 have H:=H.perm (List.perm_append_comm_assoc [qv v'.b (.cells (l'.c v').cs.toArray qM (0,0)),qK qb 8 v'.rp l'.reps.length (l'.reps.flatMap Att.cs),qK qE 22 v'.sd l'.said.length (l'.said.flatMap Sd.cs)] (coR cb Y C j) L)
 have H:Hq m0 m S (ldA v' l'::(coR cb Y C j++L)):=Hq.xq H
 have H:=qxd (vs:=Y.lds) (xs:=C.leads) (List.getElem?_eq_some_iff.1 hv).1 (List.getElem?_eq_some_iff.1 hl).1 H
 refine Hq.coJ (H.perm ?_)
 have e1:=qzW hb Y.lds j hv
 show List.Perm (qv cb _::jT _ _ _ _::xC _ _ _ _::qK _ _ _ _ _::qK _ _ _ _ _::brA _ _ _ _::qK _ _ _ _ _::Qg _ _::wu _ _::L) _
 simp only [e1,List.length_set]
 exact List.perm_middle (l₁:=[qv cb (.cells (Y.c C).cs.toArray qG (0,0)),jT Y.lb Y.lr C.cut C.lg,xC Y.xb Y.xr C.xcut C.xl,qK qc 1 Y.lv Y.lds.length (Y.lds.flatMap fun v=>ptV v.b),qK qQ 1 Y.wv Y.wss.length (Y.wss.flatMap ptV),brA qC Y.rv Y.rs C.recs,qK qw 51 Y.ov C.out.length (C.out.flatMap Lt.cs)]) (l₂:=wu Y.wss C.wishes::L)
end Go.Fw
namespace Go.Fw
open Go.Proofs
variable {m m0 M:Mem} {S:List Nat} {L:List As}
variable {cb:Nat} {Y:Ly} {C:Co}
def Co.oB (C:Co) (l:Ld) (x:Cmd) (a:Att):Co :=
 if xW a then
  if (C.set l.id ⟨1,l.bal,l.bal,x,a,false⟩).2=true then (C.set l.id ⟨1,l.bal,l.bal,x,a,false⟩).1.jl (xa l.id 0 l.bal false x a)
  else (C.set l.id ⟨1,l.bal,l.bal,x,a,false⟩).1.qU l.id
 else C.qU l.id
def Co.again (C:Co) (l:Ld) (x:Cmd) (told:Att):Co:=C.oB l x (xL told (zB C.xcut C.xl l.id x))
abbrev agA:NC:=.seq (.seq WD (.cond (.qq 44) (.seq WC .ret) .skip)) WB
theorem CT {C0:Co} {Y0:Ly} {E:Env} {b6 b8 j:Nat} {v:LdV} {l:Ld} {x:Cmd} {a:Att} (ho:Y.ok C) (hv:Y.lds[j]?=some v) (hl:C.leads[j]?=some l) (hrec:C.recs.length≤1000000) (hn:C.leads.length≤100000) (hn7:C.n≤7) (hout:C.out.length≤999000)
  (H:Hq m M (coA cb Y0 C0).wp [qv b8 (.cells a.cs.toArray qb (0,0)),qv b6 (.cells x.cs.toArray qB (0,0)),coA cb Y C])
  (e0:E.get 0=lp cb) (e1:E.get 1=lp v.b) (e6:E.get 6=lp b6) (e8:E.get 8=lp b8) (h0:E.has 0=true) (h1:E.has 1=true) (h6:E.has 6=true) (h8:E.has 8=true) :
  wpN Tryz.prog agA (vL [] fun u M=>∃ A',CoR cb (C.oB l x a) (.tuple #[]) u A'∧A'.p M∧Fr m M (coA cb Y0 C0).wp∧(∀ b∈A'.fp,b∈(coA cb Y0 C0).fp∨m b=none)∧∀ b∈A'.wp,b∈(coA cb Y0 C0).wp∨m b=none) E M:=by
 have hss:=xS C l.id ⟨1,l.bal,l.bal,x,a,false⟩
 by_cases hr:xW a
 ·have hp:C.oB l x a=if (C.set l.id ⟨1,l.bal,l.bal,x,a,false⟩).2=true then (C.set l.id ⟨1,l.bal,l.bal,x,a,false⟩).1.jl (xa l.id 0 l.bal false x a) else (C.set l.id ⟨1,l.bal,l.bal,x,a,false⟩).1.qU l.id:=if_pos hr
  rw [hp]
  simp (disch:=omega) only [go_sem,undef,e0,e1,e6,e8,h0,h1,h6,h8,H.cs]
  refine qY H (zK a _) fun M f H=>?_
  have hcl:=zz (zZ (zb (H.at 2 rfl)) hv hl)
  simp (disch:=omega) only [go_sem,undef,e0,e1,e6,e8,h0,h1,h6,h8,H.cs,qX hr,Bool.not_true,hcl,Ld.c]
  refine zq 2 H (cm (H.at 2 rfl) ho l.id ⟨1,l.bal,l.bal,x,a,false⟩ hrec) rfl fun u M A' hR f H=>?_
  refine hR.E fun Y1 eu ho1 eA hy1=>?_
  subst eu eA
  clear hR hp
  generalize C.set l.id ⟨1,l.bal,l.bal,x,a,false⟩=r at *
  obtain ⟨C1,ok⟩:=r
  have Hn:Hq m M (coA cb Y0 C0).wp [qv b8 (.cells a.cs.toArray qb (0,0)),qv b6 (.cells x.cs.toArray qB (0,0)),coA cb Y1 C1]:=H
  clear H
  have hl1:C1.leads[j]?=some l:=by rw [show C1.leads=C.leads from hss.1];exact hl
  have hv1:Y1.lds[j]?=some v:=by rw [hy1];exact hv
  cases ok with
  | true =>
   have H:=Hn
   have hcl:=zz (zZ (zb (H.at 2 rfl)) hv1 hl1)
   simp (disch:=omega) only [go_sem,undef,e0,e1,e6,e8,h0,h1,h6,h8,H.cs,Bool.not_true,hcl,Ld.c]
   refine qh H fun b9 M f H=>?_
   have H:=UK H
   have H:Hq m M (coA cb Y0 C0).wp (ldA ⟨b9,.slice none 0 0,.slice none 0 0⟩ (xa l.id 0 l.bal false x a)::coA cb Y1 C1::[]):=H.sel 4 [0,3] rfl (by decide) (by decide)
   have H:=Hq.join H
   simp (disch:=omega) only [go_sem,undef,e0,e1,e6,e8,h0,h1,h6,h8]
   refine jb H (cn (H.at 0 rfl) ho1 (Nat.le_trans (Nat.le_of_eq (congrArg List.length hss.1)) hn) (Nat.le_trans (Nat.le_of_eq hss.2.1) hn7) (Nat.le_trans (Nat.le_of_eq (congrArg List.length hss.2.2.1)) hout)) fun u M A' hR f H=>?_
   refine hR.E fun Y2 eu ho2 eA=>?_
   subst eu eA
   simp (disch:=omega) only [go_sem,undef]
   exact qT qu ho2 H
  | false =>
   have H:=Hn
   have hcl:=zz (zZ (zb (H.at 2 rfl)) hv1 hl1)
   simp (disch:=omega) only [go_sem,undef,e0,e1,e6,e8,h0,h1,h6,h8,H.cs,Bool.not_false,hcl,Ld.c]
   refine zq 2 H (Ji (H.at 2 rfl) ho1 l.id (Nat.le_trans (Nat.le_of_eq (congrArg List.length hss.1)) (Nat.le_trans hn (by decide)))) rfl fun u M A' hR f H=>?_
   refine hR.E fun Y2 eu ho2 eA=>?_
   subst eu eA
   simp (disch:=omega) only [go_sem,undef]
   exact qT qu ho2 (H.tail.tail)
 ·have hp:C.oB l x a=C.qU l.id:=if_neg hr
  rw [hp]
  simp (disch:=omega) only [go_sem,undef,e0,e1,e6,e8,h0,h1,h6,h8,H.cs]
  refine qY H (zK a _) fun M f H=>?_
  have hcl:=zz (zZ (zb (H.at 2 rfl)) hv hl)
  simp (disch:=omega) only [go_sem,undef,e0,e1,e6,e8,h0,h1,h6,h8,H.cs,qZ hr,Bool.not_false,hcl,Ld.c]
  refine zq 2 H (Ji (H.at 2 rfl) ho l.id (by omega)) rfl fun u M A' hR f H=>?_
  refine hR.E fun Y2 eu ho2 eA=>?_
  subst eu eA
  simp (disch:=omega) only [go_sem,undef]
  exact qT qu ho2 (H.tail.tail)
theorem qqR:JC=.seq WG (.seq WE agA):=rfl
theorem NN (h:(coA cb Y C).p m) (ho:Y.ok C) {j:Nat} {v:LdV} {l:Ld} (hv:Y.lds[j]?=some v) (hl:C.leads[j]?=some l) (x:Cmd) (told:Att) (hxl:wo C.xl) (hkey:x.key.size≤1000) (hrec:C.recs.length≤1000000) (hn:C.leads.length≤100000) (hn7:C.n≤7) (hout:C.out.length≤999000) :
  CM Tryz.prog pn [lp cb,lp v.b,x.v,told.v] m (coA cb Y C) (CoR cb (C.again l x told) (.tuple #[])):=by
 have H:=Hq.one h
 have hw:C.again l x told=C.oB l x (xL told (zB C.xcut C.xl l.id x)):=rfl
 rw [hw]
 refine od (by simp [Tryz.f33]) ?_
 rw [qqR]
 generalize hC:agA=T
 simp (disch:=omega) only [go_sem,undef]
 refine qh H fun b6 M f H=>?_
 simp (disch:=omega) only [go_sem,undef]
 refine qh H fun b7 M f H=>?_
 have hcl:=fun M (hA:(coA cb Y C).p M)=>zz (zZ (zb hA) hv hl)
 simp (disch:=omega) only [go_sem,undef,H.cs,qy (H.at 2 rfl),Ly.c,hcl _ (H.at 2 rfl),Ld.c]
 refine qI ?_ ?_
 ·simp (disch:=omega) only [go_sem,undef,H.cs,qy (H.at 2 rfl),Ly.c,hcl _ (H.at 2 rfl),Ld.c]
  refine qY H (Aw (Ak (H.at 2 rfl)) hxl l.id x hkey) fun M f H=>?_
  simp (disch:=omega) only [go_sem,undef,H.cs,qy (H.at 2 rfl),Ly.c,hcl _ (H.at 2 rfl),Ld.c]
  refine qI ?_ ?_
  ·simp (disch:=omega) only [go_sem,undef,H.cs,qy (H.at 2 rfl),Ly.c,hcl _ (H.at 2 rfl),Ld.c]
   refine qh H fun b11 M f H=>?_
   simp (disch:=omega) only [go_sem,undef,H.cs,qy (H.at 3 rfl),Ly.c,hcl _ (H.at 3 rfl),Ld.c]
   refine qI ?_ ?_
   ·simp (disch:=omega) only [go_sem,undef,H.cs,qy (H.at 3 rfl),Ly.c,hcl _ (H.at 3 rfl),Ld.c]
    refine qY H (cY (l:=[told,zB C.xcut C.xl l.id x]) (n:=2) rfl (Yx H.cs.1) (by decide) (by decide)) fun M f H=>?_
    simp (disch:=omega) only [go_sem,undef,H.cs,qy (H.at 3 rfl),Ly.c,hcl _ (H.at 3 rfl),Ld.c]
    refine qh H fun b9 M f H=>?_
    simp (disch:=omega) only [go_sem,undef,H.cs,qy (H.at 4 rfl),Ly.c,hcl _ (H.at 4 rfl),Ld.c]
    refine qs H rfl rfl fun M f H=>?_
    have H:Hq m M (coA cb Y C).wp [qv b9 (.cells (xL told (zB C.xcut C.xl l.id x)).cs.toArray qb (0,0)),qv b6 (.cells x.cs.toArray qB (0,0)),coA cb Y C]:=H.sel 5 [0,3,4] rfl (by decide) (by decide)
    simp (disch:=omega) only [go_sem,undef]
    subst hC
    exact CT ho hv hl hrec hn hn7 hout H rfl rfl rfl rfl rfl rfl rfl rfl
   ·simp (disch:=omega) only [go_sem,undef,H.cs,qy (H.at 3 rfl),Ly.c,hcl _ (H.at 3 rfl),Ld.c]
    refine qh H fun b9 M f H=>?_
    simp (disch:=omega) only [go_sem,undef,H.cs,qy (H.at 4 rfl),Ly.c,hcl _ (H.at 4 rfl),Ld.c]
    refine qY H (cY (l:=[told,zB C.xcut C.xl l.id x]) (n:=2) rfl (Yx H.cs.2.1) (by decide) (by decide)) fun M f H=>?_
    simp (disch:=omega) only [go_sem,undef,H.cs,qy (H.at 4 rfl),Ly.c,hcl _ (H.at 4 rfl),Ld.c]
    refine qs H rfl rfl fun M f H=>?_
    have H:Hq m M (coA cb Y C).wp [qv b9 (.cells (xL told (zB C.xcut C.xl l.id x)).cs.toArray qb (0,0)),qv b6 (.cells x.cs.toArray qB (0,0)),coA cb Y C]:=H.sel 5 [0,3,4] rfl (by decide) (by decide)
    simp (disch:=omega) only [go_sem,undef]
    subst hC
    exact CT ho hv hl hrec hn hn7 hout H rfl rfl rfl rfl rfl rfl rfl rfl
  ·simp (disch:=omega) only [go_sem,undef,H.cs,qy (H.at 2 rfl),Ly.c,hcl _ (H.at 2 rfl),Ld.c]
   refine qh H fun b9 M f H=>?_
   simp (disch:=omega) only [go_sem,undef,H.cs,qy (H.at 3 rfl),Ly.c,hcl _ (H.at 3 rfl),Ld.c]
   refine qh H fun b11 M f H=>?_
   simp (disch:=omega) only [go_sem,undef,H.cs,qy (H.at 4 rfl),Ly.c,hcl _ (H.at 4 rfl),Ld.c]
   refine qY H (cY (l:=[told,zB C.xcut C.xl l.id x]) (n:=2) rfl (Yx H.cs.1) (by decide) (by decide)) fun M f H=>?_
   simp (disch:=omega) only [go_sem,undef,H.cs,qy (H.at 4 rfl),Ly.c,hcl _ (H.at 4 rfl),Ld.c]
   refine zQ H rfl rfl fun M f H=>?_
   have H:Hq m M (coA cb Y C).wp [qv b9 (.cells (xL told (zB C.xcut C.xl l.id x)).cs.toArray qb (0,0)),qv b6 (.cells x.cs.toArray qB (0,0)),coA cb Y C]:=H.sel 5 [1,3,4] rfl (by decide) (by decide)
   simp (disch:=omega) only [go_sem,undef]
   subst hC
   exact CT ho hv hl hrec hn hn7 hout H rfl rfl rfl rfl rfl rfl rfl rfl
 ·simp (disch:=omega) only [go_sem,undef,H.cs,qy (H.at 2 rfl),Ly.c,hcl _ (H.at 2 rfl),Ld.c]
  refine qh H fun b9 M f H=>?_
  simp (disch:=omega) only [go_sem,undef,H.cs,qy (H.at 3 rfl),Ly.c,hcl _ (H.at 3 rfl),Ld.c]
  refine qY H (Aw (Ak (H.at 3 rfl)) hxl l.id x hkey) fun M f H=>?_
  simp (disch:=omega) only [go_sem,undef,H.cs,qy (H.at 3 rfl),Ly.c,hcl _ (H.at 3 rfl),Ld.c]
  refine qh H fun b11 M f H=>?_
  simp (disch:=omega) only [go_sem,undef,H.cs,qy (H.at 4 rfl),Ly.c,hcl _ (H.at 4 rfl),Ld.c]
  refine qY H (cY (l:=[told,zB C.xcut C.xl l.id x]) (n:=2) rfl (Yx H.cs.1) (by decide) (by decide)) fun M f H=>?_
  simp (disch:=omega) only [go_sem,undef,H.cs,qy (H.at 4 rfl),Ly.c,hcl _ (H.at 4 rfl),Ld.c]
  refine zQ H rfl rfl fun M f H=>?_
  have H:Hq m M (coA cb Y C).wp [qv b9 (.cells (xL told (zB C.xcut C.xl l.id x)).cs.toArray qb (0,0)),qv b6 (.cells x.cs.toArray qB (0,0)),coA cb Y C]:=H.sel 5 [1,3,4] rfl (by decide) (by decide)
  simp (disch:=omega) only [go_sem,undef]
  subst hC
  exact CT ho hv hl hrec hn hn7 hout H rfl rfl rfl rfl rfl rfl rfl rfl
end Go.Fw
namespace Go.Fw
open Go.Proofs
variable {m m0 M:Mem} {S:List Nat} {L:List As}
variable {cb:Nat} {Y:Ly} {C:Co}
def Co.YQ (C:Co) (l:Ld) (d:Int) (x:Cmd) (a:Att):Co :=
 if d=1 then C.Qk l.id x a else if d=2 then C.accept l x a else if d=4 then C.accept l Cmd.zero (Ah l.id) else if d=3 then C.again l x a else C
def Co.Qe (C:Co) (l:Ld):Co:=C.YQ l (JP C.n l.id.1 l.said).1 (JP C.n l.id.1 l.said).2.1 (JP C.n l.id.1 l.said).2.2
abbrev ppA:NC:=.seq Xk (.block 0 (.seq Xx (.cond (.qq 26) Xj (.seq Xz (.cond (.qq 36) Xq (.seq JU (.cond (.qq 43) JT (.seq JS (.cond (.qq 54) JR .skip)))))))))
theorem tf {C0:Co} {Y0:Ly} {E:Env} {b5 b6 j:Nat} {v:LdV} {l:Ld} {d:Int} {x:Cmd} {a:Att} (ho:Y.ok C) (hv:Y.lds[j]?=some v) (hl:C.leads[j]?=some l) (hxl:wo C.xl) (hkey:x.key.size≤1000) (hrec:C.recs.length≤1000000) (hn:C.leads.length≤100000) (hn7:C.n≤7) (hout:C.out.length≤999000)
  (H:Hq m M (coA cb Y0 C0).wp [qv b6 (.cells a.cs.toArray qb (0,0)),qv b5 (.cells x.cs.toArray qB (0,0)),coA cb Y C])
  (e0:E.get 0=lp cb) (e1:E.get 1=lp v.b) (e4:E.get 4=.int .i64 d) (e5:E.get 5=lp b5) (e6:E.get 6=lp b6) (h0:E.has 0=true) (h1:E.has 1=true) (h4:E.has 4=true) (h5:E.has 5=true) (h6:E.has 6=true) :
  wpN Tryz.prog ppA (vL [] fun u M=>∃ A',CoR cb (C.YQ l d x a) (.tuple #[]) u A'∧A'.p M∧Fr m M (coA cb Y0 C0).wp∧(∀ b∈A'.fp,b∈(coA cb Y0 C0).fp∨m b=none)∧∀ b∈A'.wp,b∈(coA cb Y0 C0).wp∨m b=none) E M:=by
 have hcl:=zz (zZ (zb (H.at 2 rfl)) hv hl)
 by_cases d1:d=1
 ·have hp:C.YQ l d x a=C.Qk l.id x a:=if_pos d1
  rw [hp]
  simp (disch:=omega) only [go_sem,undef,e0,e1,e4,e5,e6,h0,h1,h4,h5,h6,H.cs,qX d1,hcl,Ld.c]
  refine zq 2 H (mw (H.at 2 rfl) ho l.id x a hrec hn hn7 hout) rfl fun u M A' hR f H=>?_
  refine hR.E fun Y2 eu ho2 eA=>?_
  subst eu eA
  simp (disch:=omega) only [go_sem,undef]
  exact qT qu ho2 H.tail.tail
 by_cases d2:d=2
 ·have hp:C.YQ l d x a=C.accept l x a:=by unfold Co.YQ;rw [if_neg d1,if_pos d2]
  rw [hp]
  simp (disch:=omega) only [go_sem,undef,e0,e1,e4,e5,e6,h0,h1,h4,h5,h6,H.cs,qZ d1,qX d2,hcl,Ld.c]
  refine zq 2 H (mQ (H.at 2 rfl) ho hv hl x a hrec hn hn7 hout) rfl fun u M A' hR f H=>?_
  refine hR.E fun Y2 eu ho2 eA=>?_
  subst eu eA
  simp (disch:=omega) only [go_sem,undef]
  exact qT qu ho2 H.tail.tail
 by_cases d4:d=4
 ·have hp:C.YQ l d x a=C.accept l Cmd.zero (Ah l.id):=by unfold Co.YQ;rw [if_neg d1,if_neg d2,if_pos d4]
  rw [hp]
  simp (disch:=omega) only [go_sem,undef,e0,e1,e4,e5,e6,h0,h1,h4,h5,h6,H.cs,qZ d1,qZ d2,qX d4,hcl,Ld.c]
  refine qY H (qXD l.id _) fun M f H=>?_
  simp (disch:=omega) only [go_sem,undef,e0,e1,e4,e5,e6,h0,h1,h4,h5,h6,H.cs]
  refine zq 2 H (mQ (H.at 2 rfl) ho hv hl Cmd.zero (Ah l.id) hrec hn hn7 hout) rfl fun u M A' hR f H=>?_
  refine hR.E fun Y2 eu ho2 eA=>?_
  subst eu eA
  simp (disch:=omega) only [go_sem,undef]
  exact qT qu ho2 H.tail.tail
 by_cases d3:d=3
 ·have hp:C.YQ l d x a=C.again l x a:=by unfold Co.YQ;rw [if_neg d1,if_neg d2,if_neg d4,if_pos d3]
  rw [hp]
  simp (disch:=omega) only [go_sem,undef,e0,e1,e4,e5,e6,h0,h1,h4,h5,h6,H.cs,qZ d1,qZ d2,qZ d4,qX d3,hcl,Ld.c]
  refine zq 2 H (NN (H.at 2 rfl) ho hv hl x a hxl hkey hrec hn hn7 hout) rfl fun u M A' hR f H=>?_
  refine hR.E fun Y2 eu ho2 eA=>?_
  subst eu eA
  simp (disch:=omega) only [go_sem,undef]
  exact qT qu ho2 H.tail.tail
 ·have hp:C.YQ l d x a=C:=by unfold Co.YQ;rw [if_neg d1,if_neg d2,if_neg d4,if_neg d3]
  rw [hp]
  simp (disch:=omega) only [go_sem,undef,e0,e1,e4,e5,e6,h0,h1,h4,h5,h6,H.cs,qZ d1,qZ d2,qZ d4,qZ d3]
  exact qT qu ho H.tail.tail
theorem qzG {v:LdV} {x:Ld} (h:(ldA v x).p m):RdS 22 Sd.cs m v.sd x.said:=Own.rds (by decide) Sd.len (zy h (qK qE 22 v.sd x.said.length (x.said.flatMap Sd.cs)) (by simp))
theorem qkD {l:List Sd} {q:Nat} (h:∀ s∈l,s.cel.cmd.key.size≤q) (i:Int):(Sd.at l i).cel.cmd.key.size≤q:=by
 unfold Sd.at
 cases e:l[i.toNat]? with
 | none=>exact Nat.zero_le _
 | some s=>exact h s (List.mem_of_getElem? e)
theorem qjR {n:Nat} {o:Int} {l:List Sd} {q:Nat} (h:∀ s∈l,s.cel.cmd.key.size≤q):(JP n o l).2.1.key.size≤q:=by
 unfold JP
 split
 ·exact Nat.zero_le _
 split
 ·rename_i s e
  exact h s (List.mem_of_find?_eq_some e)
 repeat' split
 all_goals first
  | exact Nat.zero_le _
  | exact qkD h _
theorem Hk:wX=.seq Xv ppA:=rfl
theorem Cg (h:(coA cb Y C).p m) (ho:Y.ok C) {j:Nat} {v:LdV} {l:Ld} (hv:Y.lds[j]?=some v) (hl:C.leads[j]?=some l) (hxl:wo C.xl) (hks:∀ s∈l.said,s.cel.cmd.key.size≤1000) (hrec:C.recs.length≤1000000) (hn:C.leads.length≤100000) (hn7:C.n≤7) (hn2:2≤C.n) (hout:C.out.length≤999000) (hsl:l.said.length≤100) :
  CM Tryz.prog eY [lp cb,lp v.b] m (coA cb Y C) (CoR cb (C.Qe l) (.tuple #[])):=by
 have H:=Hq.one h
 have hw:C.Qe l=C.YQ l (JP C.n l.id.1 l.said).1 (JP C.n l.id.1 l.said).2.1 (JP C.n l.id.1 l.said).2.2:=rfl
 rw [hw]
 have hkey:=qjR (n:=C.n) (o:=l.id.1) hks
 obtain ⟨ra,rc,hsd⟩:=(qzG (zZ (zb h) hv hl)).form
 have hpre:=fun M (hA:(coA cb Y C).p M)=>Uw (n:=C.n) (o:=l.id.1) (hsd▸qzG (zZ (zb hA) hv hl)) (by omega) hn2 hsl
 refine dt (by simp [Tryz.f33]) ?_
 rw [Hk]
 generalize hC:ppA=T
 generalize JP C.n l.id.1 l.said=q at *
 obtain ⟨d,x,a⟩:=q
 have hcl:=fun M (hA:(coA cb Y C).p M)=>zz (zZ (zb hA) hv hl)
 simp (disch:=omega) only [go_sem,undef,qy (H.at 0 rfl),Ly.c,hcl _ (H.at 0 rfl),Ld.c,hsd]
 refine qI ?_ ?_
 ·simp (disch:=omega) only [go_sem,undef,H.cs,qy (H.at 0 rfl),Ly.c,hcl _ (H.at 0 rfl),Ld.c,hsd]
  refine qY H (hpre _ (H.at 0 rfl)) fun M f H=>?_
  simp (disch:=omega) only [go_sem,undef,H.cs,qy (H.at 0 rfl),Ly.c,hcl _ (H.at 0 rfl),Ld.c,hsd]
  refine qI ?_ ?_
  ·simp (disch:=omega) only [go_sem,undef,H.cs,qy (H.at 0 rfl),Ly.c,hcl _ (H.at 0 rfl),Ld.c,hsd]
   refine qh H fun b5 M f H=>?_
   simp (disch:=omega) only [go_sem,undef,H.cs,qy (H.at 1 rfl),Ly.c,hcl _ (H.at 1 rfl),Ld.c,hsd]
   refine qh H fun b6 M f H=>?_
   simp (disch:=omega) only [go_sem,undef,H.cs,qy (H.at 2 rfl),Ly.c,hcl _ (H.at 2 rfl),Ld.c,hsd]
   refine zQ H rfl rfl fun M f H=>?_
   simp (disch:=omega) only [go_sem,undef,H.cs,qy (H.at 2 rfl),Ly.c,hcl _ (H.at 2 rfl),Ld.c,hsd]
   refine qs H rfl rfl fun M f H=>?_
   have H:Hq m M (coA cb Y C).wp [qv b6 (.cells a.cs.toArray qb (0,0)),qv b5 (.cells x.cs.toArray qB (0,0)),coA cb Y C]:=H.sel 3 [0,1,2] rfl (by decide) (by decide)
   simp (disch:=omega) only [go_sem,undef]
   subst hC
   exact tf ho hv hl hxl hkey hrec hn hn7 hout H rfl rfl rfl rfl rfl rfl rfl rfl rfl rfl
  ·simp (disch:=omega) only [go_sem,undef,H.cs,qy (H.at 0 rfl),Ly.c,hcl _ (H.at 0 rfl),Ld.c,hsd]
   refine qh H fun b6 M f H=>?_
   simp (disch:=omega) only [go_sem,undef,H.cs,qy (H.at 1 rfl),Ly.c,hcl _ (H.at 1 rfl),Ld.c,hsd]
   refine qh H fun b5 M f H=>?_
   simp (disch:=omega) only [go_sem,undef,H.cs,qy (H.at 2 rfl),Ly.c,hcl _ (H.at 2 rfl),Ld.c,hsd]
   refine qs H rfl rfl fun M f H=>?_
   simp (disch:=omega) only [go_sem,undef,H.cs,qy (H.at 2 rfl),Ly.c,hcl _ (H.at 2 rfl),Ld.c,hsd]
   refine zQ H rfl rfl fun M f H=>?_
   have H:Hq m M (coA cb Y C).wp [qv b6 (.cells a.cs.toArray qb (0,0)),qv b5 (.cells x.cs.toArray qB (0,0)),coA cb Y C]:=H.sel 3 [1,0,2] rfl (by decide) (by decide)
   simp (disch:=omega) only [go_sem,undef]
   subst hC
   exact tf ho hv hl hxl hkey hrec hn hn7 hout H rfl rfl rfl rfl rfl rfl rfl rfl rfl rfl
 ·refine qI ?_ ?_
  ·simp (disch:=omega) only [go_sem,undef,H.cs,qy (H.at 0 rfl),Ly.c,hcl _ (H.at 0 rfl),Ld.c,hsd]
   refine qh H fun b5 M f H=>?_
   simp (disch:=omega) only [go_sem,undef,H.cs,qy (H.at 1 rfl),Ly.c,hcl _ (H.at 1 rfl),Ld.c,hsd]
   refine qI ?_ ?_
   ·simp (disch:=omega) only [go_sem,undef,H.cs,qy (H.at 1 rfl),Ly.c,hcl _ (H.at 1 rfl),Ld.c,hsd]
    refine qY H (hpre _ (H.at 1 rfl)) fun M f H=>?_
    simp (disch:=omega) only [go_sem,undef,H.cs,qy (H.at 1 rfl),Ly.c,hcl _ (H.at 1 rfl),Ld.c,hsd]
    refine qh H fun b6 M f H=>?_
    simp (disch:=omega) only [go_sem,undef,H.cs,qy (H.at 2 rfl),Ly.c,hcl _ (H.at 2 rfl),Ld.c,hsd]
    refine zQ H rfl rfl fun M f H=>?_
    simp (disch:=omega) only [go_sem,undef,H.cs,qy (H.at 2 rfl),Ly.c,hcl _ (H.at 2 rfl),Ld.c,hsd]
    refine qs H rfl rfl fun M f H=>?_
    have H:Hq m M (coA cb Y C).wp [qv b6 (.cells a.cs.toArray qb (0,0)),qv b5 (.cells x.cs.toArray qB (0,0)),coA cb Y C]:=H.sel 3 [0,1,2] rfl (by decide) (by decide)
    simp (disch:=omega) only [go_sem,undef]
    subst hC
    exact tf ho hv hl hxl hkey hrec hn hn7 hout H rfl rfl rfl rfl rfl rfl rfl rfl rfl rfl
   ·simp (disch:=omega) only [go_sem,undef,H.cs,qy (H.at 1 rfl),Ly.c,hcl _ (H.at 1 rfl),Ld.c,hsd]
    refine qh H fun b6 M f H=>?_
    simp (disch:=omega) only [go_sem,undef,H.cs,qy (H.at 2 rfl),Ly.c,hcl _ (H.at 2 rfl),Ld.c,hsd]
    refine qY H (hpre _ (H.at 2 rfl)) fun M f H=>?_
    simp (disch:=omega) only [go_sem,undef,H.cs,qy (H.at 2 rfl),Ly.c,hcl _ (H.at 2 rfl),Ld.c,hsd]
    refine zQ H rfl rfl fun M f H=>?_
    simp (disch:=omega) only [go_sem,undef,H.cs,qy (H.at 2 rfl),Ly.c,hcl _ (H.at 2 rfl),Ld.c,hsd]
    refine qs H rfl rfl fun M f H=>?_
    have H:Hq m M (coA cb Y C).wp [qv b6 (.cells a.cs.toArray qb (0,0)),qv b5 (.cells x.cs.toArray qB (0,0)),coA cb Y C]:=H.sel 3 [0,1,2] rfl (by decide) (by decide)
    simp (disch:=omega) only [go_sem,undef]
    subst hC
    exact tf ho hv hl hxl hkey hrec hn hn7 hout H rfl rfl rfl rfl rfl rfl rfl rfl rfl rfl
  ·simp (disch:=omega) only [go_sem,undef,H.cs,qy (H.at 0 rfl),Ly.c,hcl _ (H.at 0 rfl),Ld.c,hsd]
   refine qh H fun b6 M f H=>?_
   simp (disch:=omega) only [go_sem,undef,H.cs,qy (H.at 1 rfl),Ly.c,hcl _ (H.at 1 rfl),Ld.c,hsd]
   refine qI ?_ ?_
   ·simp (disch:=omega) only [go_sem,undef,H.cs,qy (H.at 1 rfl),Ly.c,hcl _ (H.at 1 rfl),Ld.c,hsd]
    refine qY H (hpre _ (H.at 1 rfl)) fun M f H=>?_
    simp (disch:=omega) only [go_sem,undef,H.cs,qy (H.at 1 rfl),Ly.c,hcl _ (H.at 1 rfl),Ld.c,hsd]
    refine qh H fun b5 M f H=>?_
    simp (disch:=omega) only [go_sem,undef,H.cs,qy (H.at 2 rfl),Ly.c,hcl _ (H.at 2 rfl),Ld.c,hsd]
    refine qs H rfl rfl fun M f H=>?_
    simp (disch:=omega) only [go_sem,undef,H.cs,qy (H.at 2 rfl),Ly.c,hcl _ (H.at 2 rfl),Ld.c,hsd]
    refine zQ H rfl rfl fun M f H=>?_
    have H:Hq m M (coA cb Y C).wp [qv b6 (.cells a.cs.toArray qb (0,0)),qv b5 (.cells x.cs.toArray qB (0,0)),coA cb Y C]:=H.sel 3 [1,0,2] rfl (by decide) (by decide)
    simp (disch:=omega) only [go_sem,undef]
    subst hC
    exact tf ho hv hl hxl hkey hrec hn hn7 hout H rfl rfl rfl rfl rfl rfl rfl rfl rfl rfl
   ·simp (disch:=omega) only [go_sem,undef,H.cs,qy (H.at 1 rfl),Ly.c,hcl _ (H.at 1 rfl),Ld.c,hsd]
    refine qh H fun b5 M f H=>?_
    simp (disch:=omega) only [go_sem,undef,H.cs,qy (H.at 2 rfl),Ly.c,hcl _ (H.at 2 rfl),Ld.c,hsd]
    refine qY H (hpre _ (H.at 2 rfl)) fun M f H=>?_
    simp (disch:=omega) only [go_sem,undef,H.cs,qy (H.at 2 rfl),Ly.c,hcl _ (H.at 2 rfl),Ld.c,hsd]
    refine qs H rfl rfl fun M f H=>?_
    simp (disch:=omega) only [go_sem,undef,H.cs,qy (H.at 2 rfl),Ly.c,hcl _ (H.at 2 rfl),Ld.c,hsd]
    refine zQ H rfl rfl fun M f H=>?_
    have H:Hq m M (coA cb Y C).wp [qv b6 (.cells a.cs.toArray qb (0,0)),qv b5 (.cells x.cs.toArray qB (0,0)),coA cb Y C]:=H.sel 3 [1,0,2] rfl (by decide) (by decide)
    simp (disch:=omega) only [go_sem,undef]
    subst hC
    exact tf ho hv hl hxl hkey hrec hn hn7 hout H rfl rfl rfl rfl rfl rfl rfl rfl rfl rfl
end Go.Fw
namespace Go.Fw
open Go.Proofs
variable {m m0 M:Mem} {S:List Nat} {L:List As}
variable {cb:Nat} {Y:Ly} {C:Co}
def Ld.heard (l:Ld) (k:Nat):Ld:={ l with ans:=Dp.up l.ans k 1,count:=l.count+1 }
theorem Ld.FG (l:Ld) (k:Nat):(l.heard k).id=l.id:=rfl
theorem Ld.uV (l:Ld) (k:Nat):(l.heard k).cmd=l.cmd:=rfl
theorem Ld.uW (l:Ld) (k:Nat):(l.heard k).att=l.att:=rfl
theorem Ld.ft (l:Ld) (k:Nat):(l.heard k).count=l.count+1:=rfl
def Ld.pk (l:Ld) (a:Att):Ld:={ l with reps:=l.reps++[a] }
def Ld.oT (l:Ld) (s:Sd):Ld:={ l with said:=l.said++[s] }
def Co.put (C:Co) (j:Nat) (l:Ld):Co:={ C with leads:=C.leads.set j l }
theorem Co.pZ (C:Co) (j:Nat) (l:Ld):(C.put j l).n=C.n:=rfl
def Co.tK (C:Co) (j:Nat) (l:Ld) (x:Lt) (k:Nat):Co :=
 if oG x.kind=0 then ((C.put j ((l.heard k).pk x.att)).vF ((l.heard k).pk x.att) false).1
 else if oG x.kind=1 then (if (C.n / 2+1:Nat)≤l.count+2 then (C.put j (l.heard k)).Qk l.id l.cmd l.att else C.put j (l.heard k))
 else (C.put j ((l.heard k).oT ⟨k,x.cel⟩)).Qe ((l.heard k).oT ⟨k,x.cel⟩)
abbrev anA:NC:=.seq XJ (.seq XZ (.seq XQ (.block 0 (.seq Xy (.cond (.qq 73) (.seq Xw JB) (.seq JA (.cond (.qq 89) (.seq Ju (.cond (.qq 101) Jt .skip)) (.seq Js Jr))))))))
theorem ans_b {C0:Co} {Y0:Ly} {b3 j k:Nat} {v:LdV} {l:Ld} {x:Lt} (ho:Y.ok C) (hv:Y.lds[j]?=some v) (hl:C.leads[j]?=some l) (hk:x.src=(k:Nat)) (hk7:k < 7) (hxl:wo C.xl) (hrec:C.recs.length≤1000000) (hn:C.leads.length≤100000) (hn7:C.n≤7) (hn2:2≤C.n) (hout:C.out.length≤999000)
  (hcnt:0≤l.count∧l.count≤1000) (hreps:l.reps.length≤99) (hsaid:l.said.length≤99) (hks:∀ s∈l.said,s.cel.cmd.key.size≤1000) (hkx:x.cel.cmd.key.size≤1000)
  (H:Hq m M (coA cb Y0 C0).wp [qv b3 (.cells x.cs.toArray qw (0,0)),coA cb Y C]) :
  wpN Tryz.prog anA (vL [] fun u M=>∃ A',CoR cb (C.tK j l x k) (.tuple #[]) u A'∧A'.p M∧Fr m M (coA cb Y0 C0).wp∧(∀ b∈A'.fp,b∈(coA cb Y0 C0).fp∨m b=none)∧∀ b∈A'.wp,b∈(coA cb Y0 C0).wp∨m b=none) [(0,lp cb),(3,lp b3),(4,lp v.b),(5,.int .i64 (oG x.kind))] M:=by
 have H:=qjx hv hl (H.perm (List.Perm.swap ..))
 refine Own.zA (H.at 1 rfl) fun ra rc hrp=>?_
 refine Own.zA (H.at 2 rfl) fun sa sc hsd=>?_
 simp (disch:=omega) only [go_sem,undef,H.cs,Ld.c,hk]
 refine zG H fun M f H=>?_
 simp (disch:=omega) only [go_sem,undef,H.cs,Ld.c,hk]
 refine zG H fun M f H=>?_
 have H:Hq m M (coA cb Y0 C0).wp [qv v.b (.cells ((l.heard k).c v).cs.toArray qM (0,0)),qK qb 8 v.rp l.reps.length (l.reps.flatMap Att.cs),qK qE 22 v.sd l.said.length (l.said.flatMap Sd.cs),qP (coR cb Y C j),qv b3 (.cells x.cs.toArray qw (0,0))]:=H
 by_cases w0:oG x.kind=0
 ·have hp:C.tK j l x k=((C.put j ((l.heard k).pk x.att)).vF ((l.heard k).pk x.att) false).1:=if_pos w0
  rw [hp]
  simp (disch:=omega) only [go_sem,undef,H.cs,Ld.c,hk,qX w0]
  refine qh H fun b2 M f H=>?_
  simp (disch:=omega) only [go_sem,undef,H.cs,Ld.c,hk]
  refine Yz 2 H rfl rfl (k:=1) (news:=x.att.cs) (zY (n:=8) H.cs.1 (Nat.le_refl _)) rfl (fun v hv=>List.all_eq_true.1 (Att.one _) v hv) rfl (by omega) (by omega) fun w M f H=>?_
  refine Own.zA (H.at 2 rfl) fun a3 c3 e=>?_
  subst e
  have H:Hq m M (coA cb Y0 C0).wp [qv v.b (.cells ((l.heard k).c v).cs.toArray qM (0,0)),qK qb 8 (.slice a3 (l.reps.length+1) c3) (l.reps.length+1) (l.reps.flatMap Att.cs++x.att.cs),qK qE 22 v.sd l.said.length (l.said.flatMap Sd.cs),qP (coR cb Y C j),qv b3 (.cells x.cs.toArray qw (0,0))]:=H.tail
  simp (disch:=omega) only [go_sem,undef,H.cs,Ld.c]
  refine zG H fun M f H=>?_
  have er:qK qb 8 (.slice a3 (l.reps.length+1) c3) (l.reps.length+1) (l.reps.flatMap Att.cs++x.att.cs)=qK qb 8 (.slice a3 (l.reps.length+1) c3) ((l.heard k).pk x.att).reps.length (((l.heard k).pk x.att).reps.flatMap Att.cs):=by simp [Ld.pk,Ld.heard]
  rw [er] at H
  have H:=CG (v':={ v with rp:=.slice a3 (l.reps.length+1) c3 }) (l':=(l.heard k).pk x.att) hv hl rfl H
  have ho2:({ Y with lds:=Y.lds.set j { v with rp:=.slice a3 (l.reps.length+1) c3 } }:Ly).ok (C.put j ((l.heard k).pk x.att)):=⟨by simp [Co.put,ho.lds],ho.wss,ho.wb⟩
  have hjv:j < Y.lds.length:=(List.getElem?_eq_some_iff.1 hv).1
  have hjl:j < C.leads.length:=(List.getElem?_eq_some_iff.1 hl).1
  simp (disch:=omega) only [go_sem,undef]
  refine zq 0 H (NL (H.at 0 rfl) ho2 (j:=j) (v:={ v with rp:=.slice a3 (l.reps.length+1) c3 }) (l:=(l.heard k).pk x.att) (by simp [hjv]) (by simp [Co.put,hjl]) false hrec (by simpa [Co.put] using hn) hn7 hout (by simp [Ld.pk,Ld.heard];omega)) rfl fun u M A' hR f H=>?_
  refine hR.E fun Y2 eu ho3 eA=>?_
  subst eu eA
  simp (disch:=omega) only [go_sem,undef]
  exact qT qu ho3 (H.drop 1)
 by_cases w1:oG x.kind=1
 ·have hjv:j < Y.lds.length:=(List.getElem?_eq_some_iff.1 hv).1
  have hjl:j < C.leads.length:=(List.getElem?_eq_some_iff.1 hl).1
  have H:=CG (v':=v) (l':=l.heard k) hv hl rfl H
  have ho2:({ Y with lds:=Y.lds.set j v }:Ly).ok (C.put j (l.heard k)):=⟨by simp [Co.put,ho.lds],ho.wss,ho.wb⟩
  have hv2:({ Y with lds:=Y.lds.set j v }:Ly).lds[j]?=some v:=by simp [hjv]
  have hl2:(C.put j (l.heard k)).leads[j]?=some (l.heard k):=by simp [Co.put,hjl]
  have hcl:=zz (zZ (zb (H.at 0 rfl)) hv2 hl2)
  have hcc:=qy (H.at 0 rfl)
  have hln:(C.put j (l.heard k)).leads.length≤100000:=by simpa [Co.put] using hn
  have hp:C.tK j l x k=if (C.n / 2+1:Nat)≤l.count+2 then (C.put j (l.heard k)).Qk l.id l.cmd l.att else C.put j (l.heard k):=by unfold Co.tK;rw [if_neg w0,if_pos w1]
  rw [hp]
  simp (disch:=omega) only [go_sem,undef,H.cs,hcl,hcc,Ly.c,Ld.c,Ld.FG,Ld.uV,Ld.uW,Ld.ft,Co.pZ,qZ w0,qX w1]
  refine qY H (Mq C.n (by omega) _) fun M f H=>?_
  have hcl:=zz (zZ (zb (H.at 0 rfl)) hv2 hl2)
  have hcc:=qy (H.at 0 rfl)
  by_cases hs:(C.n / 2+1:Nat)≤l.count+2
  ·rw [if_pos hs]
   simp (disch:=omega) only [go_sem,undef,H.cs,hcl,hcc,Ly.c,Ld.c,Ld.FG,Ld.uV,Ld.uW,Ld.ft,Co.pZ,qX (show l.count+1+1≥((C.n / 2+1:Nat):Int) by omega)]
   refine zq 0 H (mw (H.at 0 rfl) ho2 l.id l.cmd l.att hrec hln hn7 hout) rfl fun u M A' hR f H=>?_
   refine hR.E fun Y2 eu ho3 eA=>?_
   subst eu eA
   simp (disch:=omega) only [go_sem,undef]
   exact qT qu ho3 (H.drop 1)
  ·rw [if_neg hs]
   simp (disch:=omega) only [go_sem,undef,H.cs,hcl,hcc,Ly.c,Ld.c,Ld.FG,Ld.uV,Ld.uW,Ld.ft,Co.pZ,qZ (show ¬ l.count+1+1≥((C.n / 2+1:Nat):Int) by omega)]
   exact qT qu ho2 (H.drop 1)
 ·have hp:C.tK j l x k=(C.put j ((l.heard k).oT ⟨k,x.cel⟩)).Qe ((l.heard k).oT ⟨k,x.cel⟩):=by unfold Co.tK;rw [if_neg w0,if_neg w1]
  rw [hp]
  simp (disch:=omega) only [go_sem,undef,H.cs,Ld.c,hk,qZ w0,qZ w1]
  refine qh H fun b2 M f H=>?_
  simp (disch:=omega) only [go_sem,undef,H.cs,Ld.c,hk]
  refine Yz 3 H rfl rfl (k:=1) (news:=(Sd.mk k x.cel).cs) (zY (n:=22) H.cs.1 (Nat.le_refl _)) rfl (fun v hv=>List.all_eq_true.1 (Sd.one _) v hv) rfl (by omega) (by omega) fun w M f H=>?_
  refine Own.zA (H.at 3 rfl) fun a3 c3 e=>?_
  subst e
  have H:Hq m M (coA cb Y0 C0).wp [qv v.b (.cells ((l.heard k).c v).cs.toArray qM (0,0)),qK qb 8 v.rp l.reps.length (l.reps.flatMap Att.cs),qK qE 22 (.slice a3 (l.said.length+1) c3) (l.said.length+1) (l.said.flatMap Sd.cs++(Sd.mk k x.cel).cs),qP (coR cb Y C j),qv b3 (.cells x.cs.toArray qw (0,0))]:=H.tail
  simp (disch:=omega) only [go_sem,undef,H.cs,Ld.c]
  refine zG H fun M f H=>?_
  have er:qK qE 22 (.slice a3 (l.said.length+1) c3) (l.said.length+1) (l.said.flatMap Sd.cs++(Sd.mk k x.cel).cs)=qK qE 22 (.slice a3 (l.said.length+1) c3) ((l.heard k).oT ⟨k,x.cel⟩).said.length (((l.heard k).oT ⟨k,x.cel⟩).said.flatMap Sd.cs):=by simp [Ld.oT,Ld.heard]
  rw [er] at H
  have H:=CG (v':={ v with sd:=.slice a3 (l.said.length+1) c3 }) (l':=(l.heard k).oT ⟨k,x.cel⟩) hv hl rfl H
  have ho2:({ Y with lds:=Y.lds.set j { v with sd:=.slice a3 (l.said.length+1) c3 } }:Ly).ok (C.put j ((l.heard k).oT ⟨k,x.cel⟩)):=⟨by simp [Co.put,ho.lds],ho.wss,ho.wb⟩
  have hjv:j < Y.lds.length:=(List.getElem?_eq_some_iff.1 hv).1
  have hjl:j < C.leads.length:=(List.getElem?_eq_some_iff.1 hl).1
  simp (disch:=omega) only [go_sem,undef]
  refine zq 0 H (Cg (H.at 0 rfl) ho2 (j:=j) (v:={ v with sd:=.slice a3 (l.said.length+1) c3 }) (l:=(l.heard k).oT ⟨k,x.cel⟩) (by simp [hjv]) (by simp [Co.put,hjl]) hxl (fun s hs=>(by
   rcases List.mem_append.1 (show s∈l.said++[Sd.mk k x.cel] from hs) with h | h
   ·exact hks s h
   ·rw [List.mem_singleton] at h;subst h;exact hkx)) hrec (by simpa [Co.put] using hn) hn7 hn2 hout (by simp [Ld.oT,Ld.heard];omega)) rfl fun u M A' hR f H=>?_
  refine hR.E fun Y2 eu ho3 eA=>?_
  subst eu eA
  simp (disch:=omega) only [go_sem,undef]
  exact qT qu ho3 (H.drop 1)
end Go.Fw
namespace Go.Fw
open Go.Proofs
variable {m m0 M:Mem} {S:List Nat} {L:List As}
variable {cb:Nat} {Y:Ly} {C:Co}
def Co.Tb (C:Co) (x:Lt) (k:Nat):Option Nat→Co
 | none=>C
 | some j=>match C.leads[j]? with
  | none=>C
  | some l=>if l.bal≠x.bal∨l.ans.g k≠0 then C else if l.way≠oG x.kind then C else C.tK j l x k
def Co.kJ (C:Co) (x:Lt):Co:=C.Tb x x.src.toNat (fdL x.inst C.leads)
abbrev anB:NC:=.seq (.seq jP (.cond (.qq 30) .ret .skip)) (.seq zc (.seq (.seq jO (.cond (.qq 41) .ret .skip)) anA))
theorem Ip:wK=.seq jS (.seq jR anB):=rfl
structure qKO (l:Ld):Prop where
 cnt:0≤l.count∧l.count≤1000
 reps:l.reps.length≤99
 said:l.said.length≤99
 keys:∀ s∈l.said,s.cel.cmd.key.size≤1000
theorem Ch (h:(coA cb Y C).p m) (ho:Y.ok C) (x:Lt) (hx0:0≤x.src) (hx7:x.src < 7) (hxl:wo C.xl) (hrec:C.recs.length≤1000000) (hn:C.leads.length≤100000) (hn7:C.n≤7) (hn2:2≤C.n) (hout:C.out.length≤999000)
  (hld:∀ l∈C.leads,qKO l) (hkx:x.cel.cmd.key.size≤1000) :
  CM Tryz.prog ed [lp cb,x.v] m (coA cb Y C) (CoR cb (C.kJ x) (.tuple #[])):=by
 have H:=Hq.one h
 obtain ⟨k,hk⟩:∃ k:Nat,x.src=(k:Nat):=⟨x.src.toNat,by omega⟩
 have hk7:k < 7:=by omega
 have hw:C.kJ x=C.Tb x k (fdL x.inst C.leads):=by unfold Co.kJ;rw [hk,Int.toNat_natCast]
 rw [hw]
 refine dC (by simp [Tryz.f33]) ?_
 rw [Ip]
 cases hfd:fdL x.inst C.leads with
 | none =>
  generalize hC:anA=T
  show wpN Tryz.prog (.seq jS (.seq jR (.seq (.seq jP (.cond (.qq 30) .ret .skip)) (.seq zc (.seq (.seq jO (.cond (.qq 41) .ret .skip)) anA))))) _ _ _
  rw [hC]
  simp (disch:=omega) only [go_sem,undef]
  refine qh H fun b3 M f H=>?_
  simp (disch:=omega) only [go_sem,undef,H.cs]
  refine qY H (Xn (H.at 1 rfl) ho x.inst (by omega)) fun M f H=>?_
  rw [hfd]
  have hpt:ptO Y.lds none=.pointer none:=rfl
  simp (disch:=omega) only [go_sem,undef,H.cs,hpt,Option.isNone_none]
  exact qT qu ho H.tail
 | some j =>
  have hjl:j < C.leads.length:=by
   unfold fdL at hfd
   rw [List.findIdx?_eq_some_iff_getElem] at hfd
   exact hfd.1
  have hlen:=ho.lds
  obtain ⟨l,hl⟩:∃ l,C.leads[j]?=some l:=⟨C.leads[j],List.getElem?_eq_getElem hjl⟩
  obtain ⟨v,hv⟩:∃ v,Y.lds[j]?=some v:=⟨Y.lds[j]'(by omega),List.getElem?_eq_getElem (by omega)⟩
  have hpt:ptO Y.lds (some j)=lp v.b:=by simp [ptO,hv]
  have hlk:=hld l (List.mem_of_getElem? hl)
  have hw1:C.Tb x k (some j)=if l.bal≠x.bal∨l.ans.g k≠0 then C else if l.way≠oG x.kind then C else C.tK j l x k:=by simp only [Co.Tb,hl]
  rw [hw1]
  clear hw hw1
  show wpN Tryz.prog (.seq jS (.seq jR (.seq (.seq jP (.cond (.qq 30) .ret .skip)) (.seq zc (.seq (.seq jO (.cond (.qq 41) .ret .skip)) anA))))) _ _ _
  generalize hC3:zc=T3
  generalize hC:anA=T
  by_cases hbal:l.bal=x.bal
  ·by_cases hans:l.ans.g k=0
   ·rw [if_neg (by simp [hbal,hans])]
    simp (disch:=omega) only [go_sem,undef]
    refine qh H fun b3 M f H=>?_
    simp (disch:=omega) only [go_sem,undef,H.cs]
    refine qY H (Xn (H.at 1 rfl) ho x.inst (by omega)) fun M f H=>?_
    rw [hfd]
    have hcl:=zz (zZ (zb (H.at 1 rfl)) hv hl)
    simp (disch:=omega) only [go_sem,undef,H.cs,hpt,Option.isNone_some,hcl,Ld.c,hk,qX hbal,qX hans,qZ (show ¬ l.bal≠x.bal from fun h=>h hbal),qZ (show ¬ l.ans.g k≠0 from fun h=>h hans)]
    subst hC3
    refine qZC H rfl rfl rfl rfl fun M H=>?_
    have hcl:=zz (zZ (zb (H.at 1 rfl)) hv hl)
    by_cases hway:l.way=oG x.kind
    ·rw [if_neg (fun h=>h hway)]
     simp (disch:=omega) only [go_sem,undef,H.cs,hcl,Ld.c,qZ (show ¬ l.way≠oG x.kind from fun h=>h hway)]
     subst hC
     exact ans_b ho hv hl hk hk7 hxl hrec hn hn7 hn2 hout hlk.cnt hlk.reps hlk.said hlk.keys hkx H
    ·rw [if_pos hway]
     simp (disch:=omega) only [go_sem,undef,H.cs,hcl,Ld.c,qX (show l.way≠oG x.kind from hway)]
     exact qT qu ho H.tail
   ·rw [if_pos (.inr hans)]
    simp (disch:=omega) only [go_sem,undef]
    refine qh H fun b3 M f H=>?_
    simp (disch:=omega) only [go_sem,undef,H.cs]
    refine qY H (Xn (H.at 1 rfl) ho x.inst (by omega)) fun M f H=>?_
    rw [hfd]
    have hcl:=zz (zZ (zb (H.at 1 rfl)) hv hl)
    simp (disch:=omega) only [go_sem,undef,H.cs,hpt,Option.isNone_some,hcl,Ld.c,hk,qX hbal,qZ hans,qZ (show ¬ l.bal≠x.bal from fun h=>h hbal),qX (show l.ans.g k≠0 from hans)]
    exact qT qu ho H.tail
  ·rw [if_pos (.inl hbal)]
   simp (disch:=omega) only [go_sem,undef]
   refine qh H fun b3 M f H=>?_
   simp (disch:=omega) only [go_sem,undef,H.cs]
   refine qY H (Xn (H.at 1 rfl) ho x.inst (by omega)) fun M f H=>?_
   rw [hfd]
   have hcl:=zz (zZ (zb (H.at 1 rfl)) hv hl)
   simp (disch:=omega) only [go_sem,undef,H.cs,hpt,Option.isNone_some,hcl,Ld.c,hk,qZ hbal,qX (show l.bal≠x.bal from hbal)]
   exact qT qu ho H.tail
end Go.Fw
namespace Go.Fw
open Go.Proofs
variable {m m0 M:Mem} {S:List Nat} {L:List As}
variable {cb:Nat} {Y:Ly} {C:Co}
abbrev nQ (n:Nat) (r:Int):Prop:=0≤r∧r < n
def Co.at (C:Co) (i:Int×Int):Cel:=(lkC i C.lg).getD Cel.zero
def Co.opn (C:Co) (i:Int×Int):Prop:=qN i∧nQ C.n i.1∧¬ i.2≤C.cut.g i.1.toNat∧(C.at i).st≠3
instance (C:Co) (i:Int×Int):Decidable (C.opn i):=by unfold Co.opn;exact inferInstance
theorem xQ (h:(coA cb Y C).p m) (i:Int×Int):MC Tryz.prog tA [lp cb,pv i] m fun u M=>u=.bool (decide (C.opn i))∧Fr m M []:=by
 have hc:=qy h
 have hl:=kP h
 have hone:=fun M (f:Fr m M [])=>Gx ((coA cb Y C).fr0 h f) i.1
 by_cases hr:qN i
 ·by_cases ho:nQ C.n i.1
  ·by_cases hg:i.2≤C.cut.g i.1.toNat
   ·have hf:¬ C.opn i:=fun h=>h.2.2.1 hg
    refine kU (by simp [Tryz.f33]) ?_
    have H:=Hq.refl m []
    simp (disch:=omega) only [go_sem,undef]
    refine qh H fun b M f H=>?_
    simp (disch:=omega) only [go_sem,undef,H.cs]
    refine qY H (zX i _) fun M f H=>?_
    simp (disch:=omega) only [go_sem,undef,H.cs,qX hr,Bool.not_true]
    refine qY H (hone _ H.fr) fun M f H=>?_
    simp (disch:=omega) only [go_sem,undef,H.cs,H.fr.xg hc,Ly.c,qX ho,Bool.not_true]
    refine qY H (Xf ((jT ..).fr0 hl H.fr) i) fun M f H=>?_
    simp (disch:=omega) only [go_sem,undef,H.cs,qX (show qN i∧i.2≤C.cut.g i.1.toNat from ⟨hr,hg⟩)]
    exact ⟨by rw [decide_eq_false hf],H.fr⟩
   ·have hst:C.opn i↔((lkC i C.lg).getD Cel.zero).st≠3:=⟨fun h=>h.2.2.2,fun h=>⟨hr,ho,hg,h⟩⟩
    have hgo:¬ (qN i∧i.2≤C.cut.g i.1.toNat):=fun h=>hg h.2
    refine kU (by simp [Tryz.f33]) ?_
    have H:=Hq.refl m []
    simp (disch:=omega) only [go_sem,undef]
    refine qh H fun b M f H=>?_
    simp (disch:=omega) only [go_sem,undef,H.cs]
    refine qY H (zX i _) fun M f H=>?_
    simp (disch:=omega) only [go_sem,undef,H.cs,qX hr,Bool.not_true]
    refine qY H (hone _ H.fr) fun M f H=>?_
    simp (disch:=omega) only [go_sem,undef,H.cs,H.fr.xg hc,Ly.c,qX ho,Bool.not_true]
    refine qY H (Xf ((jT ..).fr0 hl H.fr) i) fun M f H=>?_
    simp (disch:=omega) only [go_sem,undef,H.cs,qZ hgo,H.fr.xg hc,Ly.c]
    refine qI ?_ ?_
    ·simp (disch:=omega) only [go_sem,undef,H.cs,H.fr.xg hc,Ly.c]
     refine qY H (zH ((jT ..).fr0 hl H.fr) i) fun M f H=>?_
     simp (disch:=omega) only [go_sem,undef,H.cs,H.fr.xg hc,Ly.c]
     refine qh H fun b4 M f H=>?_
     simp (disch:=omega) only [go_sem,undef,H.cs,H.fr.xg hc,Ly.c]
     refine qs H rfl rfl fun M f H=>?_
     simp (disch:=omega) only [go_sem,undef,H.cs]
     exact ⟨congrArg Value.bool ((decide_eq_decide.2 hst).trans decide_not).symm,H.fr⟩
    ·simp (disch:=omega) only [go_sem,undef,H.cs,H.fr.xg hc,Ly.c]
     refine qh H fun b4 M f H=>?_
     simp (disch:=omega) only [go_sem,undef,H.cs,H.fr.xg hc,Ly.c]
     refine qY H (zH ((jT ..).fr0 hl H.fr) i) fun M f H=>?_
     simp (disch:=omega) only [go_sem,undef,H.cs,H.fr.xg hc,Ly.c]
     refine qs H rfl rfl fun M f H=>?_
     simp (disch:=omega) only [go_sem,undef,H.cs]
     exact ⟨congrArg Value.bool ((decide_eq_decide.2 hst).trans decide_not).symm,H.fr⟩
  ·have hf:¬ C.opn i:=fun h=>ho h.2.1
   refine kU (by simp [Tryz.f33]) ?_
   have H:=Hq.refl m []
   simp (disch:=omega) only [go_sem,undef]
   refine qh H fun b M f H=>?_
   simp (disch:=omega) only [go_sem,undef,H.cs]
   refine qY H (zX i _) fun M f H=>?_
   simp (disch:=omega) only [go_sem,undef,H.cs,qX hr,Bool.not_true]
   refine qY H (hone _ H.fr) fun M f H=>?_
   simp (disch:=omega) only [go_sem,undef,H.cs,qZ ho,Bool.not_false]
   exact ⟨by rw [decide_eq_false hf],H.fr⟩
 ·have hf:¬ C.opn i:=fun h=>hr h.1
  refine kU (by simp [Tryz.f33]) ?_
  have H:=Hq.refl m []
  simp (disch:=omega) only [go_sem,undef]
  refine qh H fun b M f H=>?_
  simp (disch:=omega) only [go_sem,undef,H.cs]
  refine qY H (zX i _) fun M f H=>?_
  simp (disch:=omega) only [go_sem,undef,H.cs,qZ hr,Bool.not_false]
  exact ⟨by rw [decide_eq_false hf],H.fr⟩
theorem VY {b:Nat} {x:Wsh} (h:(wsA b x).p m):m b=some (.cells x.cs.toArray Kt (0,0)):=cell_of h
theorem ot (h:(coA cb Y C).p m):(wu Y.wss C.wishes).p m:=zy h _ (by simp)
theorem bI {vs:List Nat} {xs:List Wsh} {j:Nat} {b:Nat} {x:Wsh} (h:(wu vs xs).p m) (hv:vs[j]?=some b) (hx:xs[j]?=some x):(wsA b x).p m:=by
 refine zy h _ (List.mem_of_getElem? (i:=j) ?_)
 rw [List.getElem?_zipWith,hv,hx]
def ptW (vs:List Nat):Option Nat→Value
 | some j=>match vs[j]? with
  | some b=>lp b
  | none=>.pointer none
 | none=>.pointer none
def fdW (i:Int×Int) (l:List Wsh):Option Nat:=l.findIdx? fun x=>decide (x.id=i)
theorem Vm (h:(coA cb Y C).p m) (ho:Y.ok C) (i:Int×Int) (hn:C.wishes.length≤1000000):MC Tryz.prog nl [lp cb,pv i] m fun u M=>u=ptW Y.wss (fdW i C.wishes)∧Fr m M []:=by
 have hrow:=cu h
 obtain ⟨a,c,hv⟩:=hrow.form
 have hrd:RdS 1 ptV m Y.wv Y.wss:=Own.rds (by decide) (fun _=>rfl) hrow
 have hc:=qy h
 have hlds:=ot h
 have hlen:=ho.wss
 generalize Y.wss=vs at *
 refine lX (by simp [Tryz.f33]) ?_
 have H:=Hq.refl m []
 simp (disch:=omega) only [go_sem,undef]
 refine qh H fun b M f H=>?_
 simp (disch:=omega) only [go_sem,undef,H.fr.xg hc,Ly.c,hv]
 rw [hv] at hrd
 refine ql (fun k E m'=>∃ (j:Nat),j≤vs.length∧k=vs.length - j∧(∀ t y,t < j→C.wishes[t]?=some y→decide (y.id=i)=false)∧E=[(3,.pointer (some ⟨b,0,none⟩)),(10,.slice a vs.length c),(11,.int .i64 (vs.length:Nat)),(12,.int .i64 (j:Nat))]∧Hq m m' [] [qv b (.cells (pc i).toArray qa)]) vs.length rfl ⟨0,by omega,rfl,by simp,rfl,H⟩ ?_
 clear H f
 rintro k E M1 ⟨j,hj,rfl,hno,rfl,H⟩
 by_cases hlt:j < vs.length
 ·refine RdS.elK (hrd.frame H.fr) hlt (by decide) fun bx o v hvj hix hE=>?_
  have hp0:(ptV v)[0]?=some (lp v):=rfl
  refine Exists.elim (⟨C.wishes[j]'(by omega),List.getElem?_eq_getElem (by omega)⟩:∃ x,C.wishes[j]?=some x) fun x hx=>?_
  have hcl:=H.fr.xg (VY (bI hlds hvj hx))
  by_cases hid:x.id=i
  ·have hfd:fdW i C.wishes=some j:=CC hno hx (by simp [hid])
   simp (disch:=omega) only [go_sem,undef,qX (show ((j:Nat):Int) < (vs.length:Nat) by omega),hix,hE.ld0,hp0,H.cs,hcl,qX hid]
   exact ⟨by rw [hfd];simp [ptW,hvj],H.fr⟩
  ·simp (disch:=omega) only [go_sem,undef,qX (show ((j:Nat):Int) < (vs.length:Nat) by omega),hix,hE.ld0,hp0,H.cs,hcl,qZ hid]
   refine qV (vs.length - (j+1)) (by omega) ⟨j+1,by omega,rfl,fun t y ht hy=>?_,rfl,H⟩
   rcases Nat.lt_or_eq_of_le (Nat.le_of_lt_succ ht) with h | h
   ·exact hno t y h hy
   ·subst h;rw [hx] at hy;cases hy;simp [hid]
 ·have e:j=vs.length:=by omega
  subst e
  have hfd:fdW i C.wishes=none:=Nb fun t y ht hy=>hno t y (by omega) hy
  simp (disch:=omega) only [go_sem,undef,qZ (show ¬ ((vs.length:Nat):Int) < (vs.length:Nat) by omega)]
  exact ⟨by rw [hfd];rfl,H.fr⟩
end Go.Fw
namespace Go.Fw
open Go.Proofs
variable {m m0 M:Mem} {S:List Nat} {L:List As}
variable {cb:Nat} {Y:Ly} {C:Co}
def ai (i:Int×Int) (l:List Wsh):Nat:=(l.takeWhile fun y=>decide (lt2 y.id i)).length
theorem Md (i:Int×Int) (l:List Wsh):ai i l≤l.length:=(List.takeWhile_sublist _).length_le
theorem qzn {i:Int×Int}:∀ {l:List Wsh} {j:Nat} {y:Wsh},j < ai i l→l[j]?=some y→lt2 y.id i
 | [],j,y,h,_=>by simp [ai] at h
 | a::r,j,y,h,hy=>by
  by_cases ha:lt2 a.id i
  ·cases j with
   | zero=>simp at hy;subst hy;exact ha
   | succ j=>exact qzn (l:=r) (j:=j) (by simpa [ai,List.takeWhile_cons,ha] using h) (by simpa using hy)
  ·simp [ai,List.takeWhile_cons,ha] at h
theorem qzo {i:Int×Int}:∀ {l:List Wsh} {y:Wsh},l[ai i l]?=some y→¬ lt2 y.id i
 | [],y,h=>by simp at h
 | a::r,y,h=>by
  by_cases ha:lt2 a.id i
  ·have e:ai i (a::r)=ai i r+1:=by simp [ai,List.takeWhile_cons,ha]
   rw [e] at h
   exact qzo (l:=r) (by simpa using h)
  ·have e:ai i (a::r)=0:=by simp [ai,List.takeWhile_cons,ha]
   rw [e] at h
   simp at h;subst h;exact ha
abbrev Co.Iu (C:Co) (i:Int×Int):Prop:=C.opn i∧fdW i C.wishes=none∧C.wishes.length < 256
def Co.want (C:Co) (b:Nat) (i:Int×Int):Co:=if C.Iu i then { C with wishes:=zj C.wishes (ai i C.wishes) ⟨i,0,(0,0)⟩,wb:=zj C.wb (ai i C.wishes) b } else C
theorem qwU {vs:List Nat} {xs:List Wsh} {v:Nat} {x:Wsh} (j:Nat) (hl:vs.length=xs.length) (H:Hq m0 m S (wsA v x::wu vs xs::L)):Hq m0 m S (wu (zj vs j v) (zj xs j x)::L):=by
 have H:=Hq.ze (l:=List.zipWith wsA vs xs) (H.perm (List.Perm.swap ..))
 refine Hq.xq (l:=List.zipWith wsA (zj vs j v) (zj xs j x)) ?_
 rw [LF wsA v x j vs xs hl]
 have hp:(List.zipWith wsA vs xs++wsA v x::L).Perm (zj (List.zipWith wsA vs xs) j (wsA v x)++L) :=
  List.perm_middle.trans ((aP (List.zipWith wsA vs xs) j (wsA v x)).symm.append_right L)
 exact H.perm hp.symm
theorem UU {i:Int×Int} {l:List Wsh} {j:Nat} (h:fdW i l=some j):j < l.length:=by
 unfold fdW at h
 rw [List.findIdx?_eq_some_iff_getElem] at h
 exact h.1
theorem Wsh.lay_i (p:Int×Int):lay [.int .i64 0,.int .i64 0,.int .i64 0,.int .i64 0,.int .i64 0] [(0,2)] [.agg (pc p).toArray]=some (⟨p,0,(0,0)⟩:Wsh).cs:=rfl
theorem Wsh.lay_j (c:Wsh) (p:Int×Int):lay c.cs [(0,2)] [.agg (pc p).toArray]=some ({ c with id:=p }:Wsh).cs:=rfl
attribute [go_sem ↓] Wsh.lay_i
attribute [go_sem] Wsh.lay_j
abbrev waA:NC:=.seq (.block 0 (.loop [0,3,5] JD)) (.seq xJ (.seq xZ .ret))
theorem qJd {C0:Co} {Y0:Ly} {b3:Nat} {i:Int×Int} (ho:Y.ok C) (hn:C.wishes.length < 256)
  (H:Hq m M (coA cb Y0 C0).wp [qv b3 (.cells (pc i).toArray qa (0,0)),coA cb Y C]) :
  wpN Tryz.prog waA (vL [.qq 4] fun u M=>∃ A',(∃ b,CoR cb { C with wishes:=zj C.wishes (ai i C.wishes) ⟨i,0,(0,0)⟩,wb:=zj C.wb (ai i C.wishes) b } (.bool true) u A')∧A'.p M∧Fr m M (coA cb Y0 C0).wp∧(∀ b∈A'.fp,b∈(coA cb Y0 C0).fp∨m b=none)∧∀ b∈A'.wp,b∈(coA cb Y0 C0).wp∨m b=none) [(0,lp cb),(3,lp b3),(5,.int .i64 0)] M:=by
 have hple:=Md i C.wishes
 have hplt:∀ j y,j < ai i C.wishes→C.wishes[j]?=some y→lt2 y.id i:=fun j y h hy=>qzn h hy
 have hpat:∀ y,C.wishes[ai i C.wishes]?=some y→¬ lt2 y.id i:=fun y hy=>qzo hy
 generalize ai i C.wishes=p at *
 have hend:∀ (E1:Env) (j:Nat),j=p→E1.get 0=lp cb→E1.get 3=lp b3→E1.get 5=.int .i64 (j:Nat)→E1.has 0=true→E1.has 3=true→E1.has 5=true →
   ∀ M1,Hq m M1 (coA cb Y0 C0).wp [qv b3 (.cells (pc i).toArray qa (0,0)),coA cb Y C] →
   wpN Tryz.prog (.seq xJ (.seq xZ .ret)) (vL [.qq 4] fun u M=>∃ A',(∃ b,CoR cb { C with wishes:=zj C.wishes p ⟨i,0,(0,0)⟩,wb:=zj C.wb p b } (.bool true) u A')∧A'.p M∧Fr m M (coA cb Y0 C0).wp∧(∀ b∈A'.fp,b∈(coA cb Y0 C0).fp∨m b=none)∧∀ b∈A'.wp,b∈(coA cb Y0 C0).wp∨m b=none) E1 M1:=by
  intro E1 j e g0 g3 g5 k0 k3 k5 M1 H
  have hlen:=ho.wss
  have hc:=qy (H.at 1 rfl)
  refine Own.zA (cu (H.at 1 rfl)) fun a c hv=>?_
  simp (disch:=omega) only [go_sem,undef,g0,g3,g5,k0,k3,k5,H.cs,hc,Ly.c,hv]
  refine qh H fun b8 M f H=>?_
  have H:Hq m M (coA cb Y0 C0).wp [wsA b8 ⟨i,0,(0,0)⟩,qv b3 (.cells (pc i).toArray qa (0,0)),coA cb Y C]:=H
  have hc:=qy (H.at 2 rfl)
  simp (disch:=omega) only [go_sem,undef,g0,g3,g5,k0,k3,k5,H.cs,hc,Ly.c,hv]
  refine qh H fun b9 M f H=>?_
  have hb9:=H.cs.1
  have H:Hq m M (coA cb Y0 C0).wp (coA cb Y C::[qv b9 (.cells [lp b8].toArray qQ (0,0)),wsA b8 ⟨i,0,(0,0)⟩]):=H.sel 4 [3,0,1] rfl (by decide) (by decide)
  have hc2:=qy (H.at 0 rfl)
  have H:=Hq.coS H
  have hap:ZM (qK qQ 1 Y.wv Y.wss.length (Y.wss.flatMap ptV)) (qv b9 (.cells [lp b8].toArray qQ (0,0))):=H.apart 4 9 11 rfl (by decide) (by decide) (by decide)
  have hins:=qXU (v:=Y.wv) (l:=Y.wss) (b0:=b9) (x:=b8) (H.at 4 rfl) hb9 (fun hb=>hap.2 b9 (by simp) hb) p (by omega) (by omega)
  have hargs:[Y.wv,Value.int .i64 (p:Nat),.slice (some ⟨b9,0,none⟩) 1 1]=[.slice a Y.wss.length c,Value.int .i64 (j:Nat),.slice (some ⟨b9,0,none⟩) 1 1]:=by rw [hv,e]
  rw [hargs] at hins
  simp (disch:=omega) only [go_sem,undef,g0,g3,g5,k0,k3,k5,hc2,Ly.c,hv]
  refine zq 4 H hins rfl fun u M2 A' eA f H=>?_
  subst eA
  refine Own.zA (H.at 4 rfl) fun a2 c2 e2=>Exists.elim (⟨_,rfl⟩:∃ n',n'=(zj Y.wss p b8).length) fun n' hn'=>?_
  rw [← hn'] at e2
  subst e2
  have H:Hq m M2 (coA cb Y0 C0).wp [qv cb (.cells (Y.c C).cs.toArray qG (0,0)),jT Y.lb Y.lr C.cut C.lg,xC Y.xb Y.xr C.xcut C.xl,qK qc 1 Y.lv Y.lds.length (Y.lds.flatMap fun v=>ptV v.b),qK qQ 1 (.slice a2 n' c2) (zj Y.wss p b8).length ((zj Y.wss p b8).flatMap ptV),brA qC Y.rv Y.rs C.recs,qK qw 51 Y.ov C.out.length (C.out.flatMap Lt.cs),Qg Y.lds C.leads,wu Y.wss C.wishes,qv b9 (.cells [lp b8].toArray qQ (0,0)),wsA b8 ⟨i,0,(0,0)⟩]:=H
  simp (disch:=omega) only [go_sem,undef,g0,g3,g5,k0,k3,k5,H.cs,Ly.c]
  refine zG H fun M3 f H=>?_
  have H:Hq m M3 (coA cb Y0 C0).wp (wsA b8 ⟨i,0,(0,0)⟩::wu Y.wss C.wishes::[qv cb (.cells (Ly.c { Y with wv:=.slice a2 n' c2,wss:=zj Y.wss p b8 } { C with wishes:=zj C.wishes p ⟨i,0,(0,0)⟩,wb:=zj C.wb p b8 }).cs.toArray qG (0,0)),jT Y.lb Y.lr C.cut C.lg,xC Y.xb Y.xr C.xcut C.xl,qK qc 1 Y.lv Y.lds.length (Y.lds.flatMap fun v=>ptV v.b),qK qQ 1 (.slice a2 n' c2) (zj Y.wss p b8).length ((zj Y.wss p b8).flatMap ptV),brA qC Y.rv Y.rs C.recs,qK qw 51 Y.ov C.out.length (C.out.flatMap Lt.cs),Qg Y.lds C.leads]):=H.sel 11 [10,8,0,1,2,3,4,5,6,7] rfl (by decide) (by decide)
  have H:=qwU p hlen H
  have H:Hq m M3 (coA cb Y0 C0).wp (coL cb { Y with wv:=.slice a2 n' c2,wss:=zj Y.wss p b8 } { C with wishes:=zj C.wishes p ⟨i,0,(0,0)⟩,wb:=zj C.wb p b8 }++[]):=H.sel 9 [1,2,3,4,5,6,7,8,0] rfl (by decide) (by decide)
  have H:=Hq.coJ H
  simp (disch:=omega) only [go_sem,undef]
  have hfin:=qT (V:=.bool true) qu (Y':={ Y with wv:=.slice a2 n' c2,wss:=zj Y.wss p b8 }) (C':={ C with wishes:=zj C.wishes p ⟨i,0,(0,0)⟩,wb:=zj C.wb p b8 }) ⟨ho.lds,by rw [kQ _ _ _ (by omega),kQ _ _ _ hple,hlen],by rw [ho.wb]⟩ H
  obtain ⟨A',h1,h2⟩:=hfin
  exact ⟨A',⟨b8,h1⟩,h2⟩
 show wpN Tryz.prog (.seq (.block 0 (.loop [0,3,5] JD)) (.seq xJ (.seq xZ .ret))) _ _ _
 generalize hC:(NC.seq xJ (.seq xZ .ret))=T at *
 simp (disch:=omega) only [go_sem,undef]
 refine ql (fun k E m'=>∃ j,j≤p∧k=p - j∧E=[(0,lp cb),(3,lp b3),(5,.int .i64 (j:Nat))]∧Hq m m' (coA cb Y0 C0).wp [qv b3 (.cells (pc i).toArray qa (0,0)),coA cb Y C]) p rfl ⟨0,by omega,rfl,rfl,H⟩ ?_
 clear H
 rintro k E M1 ⟨j,hj,rfl,rfl,H⟩
 have hc:=qy (H.at 1 rfl)
 have hrow:=cu (H.at 1 rfl)
 have hlen:=ho.wss
 have hlds:=ot (H.at 1 rfl)
 have hrd:RdS 1 ptV M1 Y.wv Y.wss:=Own.rds (by decide) (fun _=>rfl) hrow
 refine Own.zA hrow fun a c hv=>?_
 rw [hv] at hrd
 by_cases hjl:j < Y.wss.length
 ·refine RdS.elK hrd hjl (by decide) fun bx o w hw hix hE=>?_
  have hp0:(ptV w)[0]?=some (lp w):=rfl
  refine Exists.elim (⟨C.wishes[j],List.getElem?_eq_getElem (by omega)⟩:∃ y,C.wishes[j]?=some y) fun y hy=>?_
  have hcy:=VY (bI hlds hw hy)
  by_cases hjp:j < p
  ·have hless:=hplt j y hjp hy
   simp (disch:=omega) only [go_sem,undef,hc,Ly.c,hv,qX (show ((j:Nat):Int) < (Y.wss.length:Nat) by omega),hix,hE.ld0,hp0,hcy,H.cs]
   refine qY H (XU y.id i _) fun M f H=>?_
   simp (disch:=omega) only [go_sem,undef,qX hless]
   exact qV (p - (j+1)) (by omega) ⟨j+1,by omega,rfl,rfl,H⟩
  ·have e:j=p:=by omega
   have hless:=hpat y (by rw [← e];exact hy)
   simp (disch:=omega) only [go_sem,undef,hc,Ly.c,hv,qX (show ((j:Nat):Int) < (Y.wss.length:Nat) by omega),hix,hE.ld0,hp0,hcy,H.cs]
   refine qY H (XU y.id i _) fun M f H=>?_
   simp (disch:=omega) only [go_sem,undef,qZ hless]
   exact hend _ j e rfl rfl rfl rfl rfl rfl _ H
 ·have e:j=p:=by omega
  simp (disch:=omega) only [go_sem,undef,hc,Ly.c,hv,qZ (show ¬ ((j:Nat):Int) < (Y.wss.length:Nat) by omega)]
  exact hend _ j e rfl rfl rfl rfl rfl rfl _ H
end Go.Fw
namespace Go.Fw
open Go.Proofs
variable {m m0 M:Mem} {S:List Nat} {L:List As}
variable {cb:Nat} {Y:Ly} {C:Co}
theorem qjd:Xt=.seq YT (.seq (.seq YS (.cond (.qq 23) (.seq YR .ret) .skip)) (.seq YP waA)):=rfl
theorem XW {A:As} {V:Value} {Y':Ly} {C':Nat→Co} (b:Nat) (hfw:A.fp=A.wp) (ho:Y'.ok (C' b)) (H:Hq m M A.wp [coA cb Y' (C' b)]) :
  ∃ A',(∃ b,CoR cb (C' b) V V A')∧A'.p M∧Fr m M A.wp∧(∀ b∈A'.fp,b∈A.fp∨m b=none)∧∀ b∈A'.wp,b∈A.wp∨m b=none:=by
 obtain ⟨A',h1,h2⟩:=qT (V:=V) hfw ho H
 exact ⟨A',⟨b,h1⟩,h2⟩
theorem AM (h:(coA cb Y C).p m) (ho:Y.ok C) (i:Int×Int) (hn:C.wishes.length≤100000) :
  CM Tryz.prog tC [lp cb,pv i] m (coA cb Y C) (fun u A=>∃ b,CoR cb (C.want b i) (.bool (decide (C.Iu i))) u A):=by
 have H:=Hq.one h
 have hlen:=ho.wss
 refine Own.zA (cu h) fun a c hv=>?_
 refine sE (by simp [Tryz.f33]) ?_
 rw [qjd]
 generalize hC:waA=T
 by_cases h1:C.opn i
 ·have h2o:(∃ j,fdW i C.wishes=some j)∨fdW i C.wishes=none:=by
   cases fdW i C.wishes with
   | none=>exact .inr rfl
   | some j=>exact .inl ⟨j,rfl⟩
  rcases h2o with ⟨j,h2⟩ | h2
  ·
   have hw:¬ C.Iu i:=fun h=>by have h4:=h.2.1;rw [h2] at h4;cases h4
   have hwt:∀ b,C.want b i=C:=fun b=>if_neg hw
   have hjl:=UU h2
   refine Exists.elim (⟨Y.wss[j]'(by omega),List.getElem?_eq_getElem (by omega)⟩:∃ v,Y.wss[j]?=some v) fun v hvj=>?_
   have hpt:ptW Y.wss (some j)=lp v:=by simp [ptW,hvj]
   simp only [hwt]
   rw [decide_eq_false hw]
   simp (disch:=omega) only [go_sem,undef]
   refine qh H fun b3 M f H=>?_
   simp (disch:=omega) only [go_sem,undef,H.cs]
   refine qY H (xQ (H.at 1 rfl) i) fun M f H=>?_
   simp (disch:=omega) only [go_sem,undef,H.cs,qX h1,Bool.not_true]
   refine qY H (Vm (H.at 1 rfl) ho i (by omega)) fun M f H=>?_
   rw [h2]
   simp (disch:=omega) only [go_sem,undef,H.cs,hpt,IR]
   exact XW (C':=fun _=>C) 0 qu ho H.tail
  ·
   have hpt:ptW Y.wss none=.pointer none:=rfl
   by_cases h3:C.wishes.length < 256
   ·have hw:C.Iu i:=⟨h1,h2,h3⟩
    have hwt:∀ b,C.want b i={ C with wishes:=zj C.wishes (ai i C.wishes) ⟨i,0,(0,0)⟩,wb:=zj C.wb (ai i C.wishes) b }:=fun b=>if_pos hw
    simp only [hwt]
    rw [decide_eq_true hw]
    simp (disch:=omega) only [go_sem,undef]
    refine qh H fun b3 M f H=>?_
    simp (disch:=omega) only [go_sem,undef,H.cs]
    refine qY H (xQ (H.at 1 rfl) i) fun M f H=>?_
    simp (disch:=omega) only [go_sem,undef,H.cs,qX h1,Bool.not_true]
    refine qY H (Vm (H.at 1 rfl) ho i (by omega)) fun M f H=>?_
    rw [h2]
    simp (disch:=omega) only [go_sem,undef,H.cs,hpt,IS,qy (H.at 1 rfl),Ly.c,hv,qZ (show ¬ ((Y.wss.length:Nat):Int)≥256 by omega)]
    subst hC
    exact qJd ho h3 H
   ·have hw:¬ C.Iu i:=fun h=>h3 h.2.2
    have hwt:∀ b,C.want b i=C:=fun b=>if_neg hw
    simp only [hwt]
    rw [decide_eq_false hw]
    simp (disch:=omega) only [go_sem,undef]
    refine qh H fun b3 M f H=>?_
    simp (disch:=omega) only [go_sem,undef,H.cs]
    refine qY H (xQ (H.at 1 rfl) i) fun M f H=>?_
    simp (disch:=omega) only [go_sem,undef,H.cs,qX h1,Bool.not_true]
    refine qY H (Vm (H.at 1 rfl) ho i (by omega)) fun M f H=>?_
    rw [h2]
    simp (disch:=omega) only [go_sem,undef,H.cs,hpt,IS,qy (H.at 1 rfl),Ly.c,hv,qX (show ((Y.wss.length:Nat):Int)≥256 by omega)]
    exact XW (C':=fun _=>C) 0 qu ho H.tail
 ·have hw:¬ C.Iu i:=fun h=>h1 h.1
  have hwt:∀ b,C.want b i=C:=fun b=>if_neg hw
  simp only [hwt]
  rw [decide_eq_false hw]
  simp (disch:=omega) only [go_sem,undef]
  refine qh H fun b3 M f H=>?_
  simp (disch:=omega) only [go_sem,undef,H.cs]
  refine qY H (xQ (H.at 1 rfl) i) fun M f H=>?_
  simp (disch:=omega) only [go_sem,undef,H.cs,qZ h1,Bool.not_false]
  exact XW (C':=fun _=>C) 0 qu ho H.tail
end Go.Fw
