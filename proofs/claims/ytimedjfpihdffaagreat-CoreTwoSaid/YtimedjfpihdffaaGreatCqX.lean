import Derived.Test.YtimedjfpihdffaaGreatCpZ
set_option linter.unusedVariables false
set_option linter.unusedSimpArgs false
set_option maxHeartbeats 16000000
namespace Go.Fw
open Go.Proofs
variable {m m0 M:Mem} {S:List Nat} {L:List As}
variable {cb:Nat} {Y:Ly} {C:Co}
theorem qzx{vs:List Nat}{xs:List Wsh}{j:Nat}{v:Nat}{x:Wsh}(hv:vs[j]?=some v)(hx:xs[j]?=some x)(H:Hq m0 m S (we vs xs::L)):Hq m0 m S (wsA v x::we (vs.eraseIdx j) (xs.eraseIdx j)::L):=by
 have H:=Hq.zc (l:=List.zipWith wsA vs xs) H
 have H:=H.perm ((Ww wsA j vs xs v x hv hx).symm.append_right L)
 exact (Hq.jc (l:=List.zipWith wsA (vs.eraseIdx j) (xs.eraseIdx j)) (L:=wsA v x::L) (H.perm (List.perm_middle))).perm (List.Perm.swap ..)
theorem Uc{vs:List Nat}{xs:List Wsh}{j:Nat}{v:Nat}{x:Wsh}(hv:vs[j]?=some v)(hx:j < xs.length)(H:Hq m0 m S (wsA v x::we (vs.eraseIdx j) (xs.eraseIdx j)::L)):Hq m0 m S (we vs (xs.set j x)::L):=by
 have H:=Hq.zc (l:=List.zipWith wsA (vs.eraseIdx j) (xs.eraseIdx j)) (H.perm (List.Perm.swap ..))
 have hp:=Ww wsA j vs (xs.set j x) v x hv (by simp [hx])
 rw [List.eraseIdx_set_eq] at hp
 exact Hq.jc (l:=List.zipWith wsA vs (xs.set j x)) (H.perm ((hp.append_right L).trans List.perm_middle.symm))
def coW(cb:Nat)(Y:Ly)(C:Co)(j:Nat):List As:=[we (Y.wss.eraseIdx j) (C.wishes.eraseIdx j),qw cb (.cells (Y.c C).cs.toArray qH (0,0)),xe Y.lb Y.lr C.cut C.lg,xT Y.xb Y.xr C.xcut C.xl,qV qd 1 Y.lv Y.lds.length (Y.lds.flatMap λv=>ptV v.b),qV qQ 1 Y.wv Y.wss.length (Y.wss.flatMap ptV),
 brA qB Y.rv Y.rs C.recs,qV qv 51 Y.ov C.out.length (C.out.flatMap Lt.cs),Qb Y.lds C.leads]
theorem Lp{j:Nat}{v:Nat}{x:Wsh}(hv:Y.wss[j]?=some v)(hl:C.wishes[j]?=some x)(H:Hq m0 m S (coA cb Y C::L)):Hq m0 m S (wsA v x::qP (coW cb Y C j)::L):=by
 have H:=Hq.coS H
 have H:Hq m0 m S (we Y.wss C.wishes::([qw cb (.cells (Y.c C).cs.toArray qH (0,0)),xe Y.lb Y.lr C.cut C.lg,xT Y.xb Y.xr C.xcut C.xl,qV qd 1 Y.lv Y.lds.length (Y.lds.flatMap λv=>ptV v.b),qV qQ 1 Y.wv Y.wss.length (Y.wss.flatMap ptV),
  brA qB Y.rv Y.rs C.recs,qV qv 51 Y.ov C.out.length (C.out.flatMap Lt.cs),Qb Y.lds C.leads]++L)):=by
  refine H.perm ?_
  show List.Perm _ (_::_::_::_::_::_::_::Qb Y.lds C.leads::we Y.wss C.wishes::L)
  exact (List.perm_middle (l₁:=[qw cb (.cells (Y.c C).cs.toArray qH (0,0)),xe Y.lb Y.lr C.cut C.lg,xT Y.xb Y.xr C.xcut C.xl,qV qd 1 Y.lv Y.lds.length (Y.lds.flatMap λv=>ptV v.b),qV qQ 1 Y.wv Y.wss.length (Y.wss.flatMap ptV),brA qB Y.rv Y.rs C.recs,qV qv 51 Y.ov C.out.length (C.out.flatMap Lt.cs),Qb Y.lds C.leads]) (l₂:=L)).symm
 have H:=qzx hv hl H
 have H:Hq m0 m S (coW cb Y C j++(wsA v x::L)):=H.perm (List.perm_middle (l₁:=coW cb Y C j) (l₂:=L))
 exact (Hq.jc H).perm (List.Perm.swap ..)
def Co.kC(C:Co)(j:Nat)(x:Wsh):Co:={ C with wishes:=C.wishes.set j x }
theorem rz{j:Nat}{v:Nat}{x x':Wsh}(hv:Y.wss[j]?=some v)(hl:C.wishes[j]?=some x)(H:Hq m0 m S (wsA v x'::qP (coW cb Y C j)::L)):Hq m0 m S (coA cb Y (C.kC j x')::L):=by
 have H:=Hq.zc (H.perm (List.Perm.swap ..))
 have H:Hq m0 m S (wsA v x'::(coW cb Y C j++L)):=H.perm (List.perm_middle (l₁:=coW cb Y C j) (l₂:=L)).symm
 have H:=Uc (vs:=Y.wss) (xs:=C.wishes) hv (List.getElem?_eq_some_iff.1 hl).1 H
 refine Hq.coJ (H.perm ?_)
 show List.Perm (qw cb _::xe _ _ _ _::xT _ _ _ _::qV _ _ _ _ _::qV _ _ _ _ _::brA _ _ _ _::qV _ _ _ _ _::Qb _ _::we _ _::L) _
 exact List.perm_middle (l₁:=[qw cb (.cells (Y.c C).cs.toArray qH (0,0)),xe Y.lb Y.lr C.cut C.lg,xT Y.xb Y.xr C.xcut C.xl,qV qd 1 Y.lv Y.lds.length (Y.lds.flatMap λv=>ptV v.b),qV qQ 1 Y.wv Y.wss.length (Y.wss.flatMap ptV),brA qB Y.rv Y.rs C.recs,qV qv 51 Y.ov C.out.length (C.out.flatMap Lt.cs),Qb Y.lds C.leads]) (l₂:=L)
theorem Bq(ho:Y.ok C)(j:Nat)(x:Wsh):Y.ok (C.kC j x):=⟨ho.lds,by simp [Co.kC,ho.wss],ho.wb⟩
def Wsh.RH(x:Wsh)(b:Int×Int):Wsh:={ x with ticks:=0,told:=if lt2 x.told b then b else x.told }
def Co.PT(C:Co)(i b:Int×Int):Option Nat→Co
 | none=>C
 | some j=>match C.wishes[j]? with
  | none=>C
  | some x=>C.kC j (x.RH b)
abbrev rfA:NC:=.seq KG (.seq KF (.cond (.qq 35) (.seq KD (.seq KC (.cond (.qq 45) KB .skip))) .skip))
theorem UO{C0:Co}{Y0:Ly}{b3 bw:Nat}{x:Lt}{D:Nat→Co}(hD:D bw=C.PT x.inst x.bal (fdW x.inst C.wishes))(ho:Y.ok C)(hn:C.wishes.length≤100000)(H:Hq m M (coA cb Y0 C0).wp [qw b3 (.cells x.cs.toArray qv (0,0)),coA cb Y C]) :
  wpN Tryz.prog rfA (vB [] λu M=>∃ A',(∃ b,CoR cb (D b) (.tuple #[]) u A')∧A'.p M∧Fr m M (coA cb Y0 C0).wp∧(∀ b∈A'.fp,b∈(coA cb Y0 C0).fp∨m b=none)∧∀ b∈A'.wp,b∈(coA cb Y0 C0).wp∨m b=none) [(0,lp cb),(3,lp b3)] M:=by
 have hlen:=ho.wss
 cases h2:fdW x.inst C.wishes with
 | none =>
  rw [h2] at hD
  have hD:D bw=C:=hD
  have hpt:ptW Y.wss none=.pointer none:=rfl
  simp (disch:=omega) only [go_sem,undef,H.cs]
  refine qa H (WQ (H.at 1 rfl) ho x.inst (by omega)) λM f H=>?_
  rw [h2]
  simp (disch:=omega) only [go_sem,undef,H.cs,hpt,GH]
  exact Xg bw qu (by rw [hD];exact ho) (by rw [hD];exact H.tail)
 | some j =>
  have hjl:=RR h2
  refine Exists.elim (⟨Y.wss[j]'(by omega),List.getElem?_eq_getElem (by omega)⟩:∃ v,Y.wss[j]?=some v) λv hv=>?_
  refine Exists.elim (⟨C.wishes[j],List.getElem?_eq_getElem hjl⟩:∃ w,C.wishes[j]?=some w) λw hw=>?_
  have hpt:ptW Y.wss (some j)=lp v:=by simp [ptW,hv]
  have hr:C.PT x.inst x.bal (some j)=C.kC j (w.RH x.bal):=by simp only [Co.PT,hw]
  rw [h2,hr] at hD
  clear hr
  simp (disch:=omega) only [go_sem,undef,H.cs]
  refine qa H (WQ (H.at 1 rfl) ho x.inst (by omega)) λM f H=>?_
  rw [h2]
  have H:=Lp hv hw (H.perm (List.Perm.swap ..))
  have H:Hq m M (coA cb Y0 C0).wp [qw v (.cells w.cs.toArray VV (0,0)),qP (coW cb Y C j),qw b3 (.cells x.cs.toArray qv (0,0))]:=H
  simp (disch:=omega) only [go_sem,undef,H.cs,hpt,GG]
  refine xK H λM f H=>?_
  simp (disch:=omega) only [go_sem,undef,H.cs]
  refine qa H (zi w.told x.bal _) λM f H=>?_
  by_cases hb:lt2 w.told x.bal
  ·have e:w.RH x.bal={ w with ticks:=0,told:=x.bal }:=by unfold Wsh.RH;rw [if_pos hb]
   rw [e] at hD
   simp (disch:=omega) only [go_sem,undef,H.cs,qZ hb]
   refine cV H (Nat.le_of_ble_eq_true rfl) rfl λM f H=>?_
   have H:Hq m M (coA cb Y0 C0).wp [wsA v { w with ticks:=0,told:=x.bal },qP (coW cb Y C j),qw b3 (.cells x.cs.toArray qv (0,0))]:=H
   have H:=rz hv hw H
   simp (disch:=omega) only [go_sem,undef]
   exact Xg bw qu (by rw [hD];exact Bq ho ..) (by rw [hD];exact H.drop 1)
  ·have e:w.RH x.bal={ w with ticks:=0 }:=by unfold Wsh.RH;rw [if_neg hb]
   rw [e] at hD
   simp (disch:=omega) only [go_sem,undef,H.cs,qX hb]
   have H:Hq m M (coA cb Y0 C0).wp [wsA v { w with ticks:=0 },qP (coW cb Y C j),qw b3 (.cells x.cs.toArray qv (0,0))]:=H
   have H:=rz hv hw H
   exact Xg bw qu (by rw [hD];exact Bq ho ..) (by rw [hD];exact H.drop 1)
def Co.qvc(C:Co)(b:Nat)(i bal:Int×Int):Co:=((C.zk i).want b i).PT i bal (fdW i ((C.zk i).want b i).wishes)
def Co.UP(C:Co)(b:Nat)(x:Lt):Option Nat→Co
 | none=>C
 | some j=>match C.leads[j]? with
  | none=>C
  | some l=>if lt2 l.bal x.bal then C.qvc b x.inst x.bal else C
def Co.refused(C:Co)(b:Nat)(x:Lt):Co:=C.UP b x (fdL x.inst C.leads)
theorem HU:yH=.seq KN (.seq KM (.seq (.seq KL (.cond (.qq 21) .ret .skip)) (.seq KI (.seq KH rfA)))):=rfl
theorem qzJ(C:Co)(b:Nat)(i:Int×Int):(C.want b i).wishes.length≤C.wishes.length+1:=by
 unfold Co.want
 split
 ·show (zq C.wishes _ _).length≤_
  rw [xS _ _ _ (Iw ..)];omega
 ·omega
theorem EX(h:(coA cb Y C).p m)(ho:Y.ok C)(x:Lt)(hn:C.leads.length≤100000)(hnw:C.wishes.length≤10000) :
  CM Tryz.prog gT [lp cb,x.v] m (coA cb Y C) (λu A=>∃ b,CoR cb (C.refused b x) (.tuple #[]) u A):=by
 have H:=Hq.one h
 refine gx (by simp [Tryz.f33]) ?_
 rw [HU]
 generalize hC:rfA=T
 have hww:∀ b,C.refused b x=C.UP b x (fdL x.inst C.leads):=λb=>rfl
 simp only [hww]
 clear hww
 cases hfd:fdL x.inst C.leads with
 | none =>
  have hpt:ptO Y.lds none=.pointer none:=rfl
  simp (disch:=omega) only [go_sem,undef]
  refine qg H λb3 M f H=>?_
  simp (disch:=omega) only [go_sem,undef,H.cs]
  refine qa H (XA (H.at 1 rfl) ho x.inst (by omega)) λM f H=>?_
  rw [hfd]
  simp (disch:=omega) only [go_sem,undef,H.cs,hpt,Option.isNone_none]
  exact Xg (C':=λ_=>C) 0 qu ho H.tail
 | some j =>
  have hjl:j < C.leads.length:=by
   unfold fdL at hfd
   rw [List.findIdx?_eq_some_iff_getElem] at hfd
   exact hfd.1
  have hlen:=ho.lds
  refine Exists.elim (⟨C.leads[j],List.getElem?_eq_getElem hjl⟩:∃ l,C.leads[j]?=some l) λl hl=>?_
  refine Exists.elim (⟨Y.lds[j]'(by omega),List.getElem?_eq_getElem (by omega)⟩:∃ v,Y.lds[j]?=some v) λv hv=>?_
  have hpt:ptO Y.lds (some j)=lp v.b:=by simp [ptO,hv]
  have hww:∀ b,C.UP b x (some j)=if lt2 l.bal x.bal then C.qvc b x.inst x.bal else C:=λb=>by simp only [Co.UP,hl]
  simp only [hww]
  clear hww
  by_cases hlb:lt2 l.bal x.bal
  ·simp only [if_pos hlb]
   simp (disch:=omega) only [go_sem,undef]
   refine qg H λb3 M f H=>?_
   simp (disch:=omega) only [go_sem,undef,H.cs]
   refine qa H (XA (H.at 1 rfl) ho x.inst (by omega)) λM f H=>?_
   rw [hfd]
   have hcl:=qT (zy (zV (H.at 1 rfl)) hv hl)
   simp (disch:=omega) only [go_sem,undef,H.cs,hpt,Option.isNone_some,hcl,Ld.c]
   refine qa H (zi l.bal x.bal _) λM f H=>?_
   simp (disch:=omega) only [go_sem,undef,H.cs,qZ hlb,Bool.not_true]
   refine qU 1 H (Je (H.at 1 rfl) ho x.inst (by omega)) rfl λu M A' hR f H=>?_
   refine hR.E λY1 eu ho1 eA=>?_
   subst eu eA
   have H:Hq m M (coA cb Y C).wp [qw b3 (.cells x.cs.toArray qv (0,0)),coA cb Y1 (C.zk x.inst)]:=H
   simp (disch:=omega) only [go_sem,undef,H.cs]
   refine qU 1 H (uZ (H.at 1 rfl) ho1 x.inst (Nat.le_trans hnw (by decide))) rfl λu M A' hR f H=>?_
   refine Exists.elim hR λbw hR=>?_
   refine hR.E λY2 eu ho2 eA=>?_
   subst eu eA
   have H:Hq m M (coA cb Y C).wp [qw b3 (.cells x.cs.toArray qv (0,0)),coA cb Y2 ((C.zk x.inst).want bw x.inst)]:=H
   simp (disch:=omega) only [go_sem,undef]
   subst hC
   have hwl:=qzJ (C.zk x.inst) bw x.inst
   have hnl:(C.zk x.inst).wishes.length=C.wishes.length:=rfl
   exact UO (D:=λb=>C.qvc b x.inst x.bal) (bw:=bw) rfl ho2 (by omega) H
  ·simp only [if_neg hlb]
   simp (disch:=omega) only [go_sem,undef]
   refine qg H λb3 M f H=>?_
   simp (disch:=omega) only [go_sem,undef,H.cs]
   refine qa H (XA (H.at 1 rfl) ho x.inst (by omega)) λM f H=>?_
   rw [hfd]
   have hcl:=qT (zy (zV (H.at 1 rfl)) hv hl)
   simp (disch:=omega) only [go_sem,undef,H.cs,hpt,Option.isNone_some,hcl,Ld.c]
   refine qa H (zi l.bal x.bal _) λM f H=>?_
   simp (disch:=omega) only [go_sem,undef,H.cs,qX hlb,Bool.not_false]
   exact Xg (C':=λ_=>C) 0 qu ho H.tail
end Go.Fw
namespace Go.Fw
open Go.Proofs
variable {m m0 M:Mem} {S:List Nat} {L:List As}
variable {cb:Nat} {Y:Ly} {C:Co}
structure Co.Fit(C:Co):Prop where
 xl:Qe C.xl
 recs:C.recs.length≤1000000
 leads:C.leads.length≤100000
 wishes:C.wishes.length≤10000
 out:C.out.length≤999000
 n7:C.n≤7
 n2:2≤C.n
 lds:∀ l∈C.leads,qJN l
abbrev YZ(x:Lt):Prop:=x.kind=1∨x.kind=3∨x.kind=6
abbrev Co.gone(C:Co)(i:Int×Int):Prop:=zj i∧i.2≤C.cut.g i.1.toNat
abbrev Co.bars(C:Co)(x:Lt):Prop:=¬ x.right∨x.dst≠C.me∨¬ uf C.n x.src∨x.kind≥9∨¬ uf C.n x.inst.1
def Co.ZU(C:Co)(b:Nat)(x:Lt):Co :=
 if YZ x then C.asked x else if x.kind=5 then C.told x else if x.kind=8 then C.refused b x else C.zt x
def Co.take(C:Co)(b:Nat)(x:Lt):Co×Bool :=
 if C.bars x then (C,false) else if C.gone x.inst then (C,decide (YZ x)) else (C.ZU b x,false)
abbrev tkC:NC:=.seq (.block 0 (.seq al (.cond (.qq 62) ai (.seq ah (.cond (.qq 67) ae (.seq Yy (.cond (.qq 74) Yw Yv)))))))  (.seq Yk .ret)
theorem qQB{C0:Co}{Y0:Ly}{b3:Nat}{x:Lt}{D:Nat→Co×Bool}(hD:∀ b,D b=(C.ZU b x,false))(hf:C.Fit)(hx:x.right)(ho:Y.ok C)(H:Hq m M (coA cb Y0 C0).wp [qw b3 (.cells x.cs.toArray qv (0,0)),coA cb Y C]) :
  wpN Tryz.prog tkC (vB [.qq 4] λu M=>∃ A',(∃ b,CoR cb (D b).1 (.bool (D b).2) u A')∧A'.p M∧Fr m M (coA cb Y0 C0).wp∧(∀ b∈A'.fp,b∈(coA cb Y0 C0).fp∨m b=none)∧∀ b∈A'.wp,b∈(coA cb Y0 C0).wp∨m b=none) [(0,lp cb),(3,lp b3),(5,.bool (decide (YZ x)))] M:=by
 simp only [hD]
 have hsrc:=hx.2.1
 have hkey:=gg hx.2.2.2.2.2.2.2.1
 have hcel:=hx.2.2.2.2.2.2.2.2.2.1
 have hkc:=gg hcel.2.2.2.2.2.2.2.1
 by_cases ha:YZ x
 ·have hp:∀ b,C.ZU b x=C.asked x:=λb=>if_pos ha
  simp only [hp]
  simp (disch:=omega) only [go_sem,undef,H.cs,qZ ha]
  refine qU 1 H (Li (H.at 1 rfl) ho x hf.xl hkey hf.recs hf.leads hf.out) rfl λu M A' hR f H=>?_
  refine hR.E λY2 eu ho2 eA=>?_
  subst eu eA
  simp (disch:=omega) only [go_sem,undef]
  exact Xg (C':=λ_=>C.asked x) 0 qu ho2 H.tail
 by_cases h5:x.kind=5
 ·have hp:∀ b,C.ZU b x=C.told x:=λb=>by unfold Co.ZU;rw [if_neg ha,if_pos h5]
  simp only [hp]
  simp (disch:=omega) only [go_sem,undef,H.cs,qX ha,qZ h5]
  refine qU 1 H (OK (H.at 1 rfl) ho x hf.recs hf.leads) rfl λu M A' hR f H=>?_
  refine hR.E λY2 eu ho2 eA=>?_
  subst eu eA
  simp (disch:=omega) only [go_sem,undef]
  exact Xg (C':=λ_=>C.told x) 0 qu ho2 H.tail
 by_cases h8:x.kind=8
 ·have hp:∀ b,C.ZU b x=C.refused b x:=λb=>by unfold Co.ZU;rw [if_neg ha,if_neg h5,if_pos h8]
  simp only [hp]
  simp (disch:=omega) only [go_sem,undef,H.cs,qX ha,qX h5,qZ h8]
  refine qU 1 H (EX (H.at 1 rfl) ho x hf.leads hf.wishes) rfl λu M A' hR f H=>?_
  refine Exists.elim hR λbw hR=>?_
  refine hR.E λY2 eu ho2 eA=>?_
  subst eu eA
  simp (disch:=omega) only [go_sem,undef]
  exact Xg (C':=λb=>C.refused b x) bw qu ho2 H.tail
 ·have hp:∀ b,C.ZU b x=C.zt x:=λb=>by unfold Co.ZU;rw [if_neg ha,if_neg h5,if_neg h8]
  simp only [hp]
  simp (disch:=omega) only [go_sem,undef,H.cs,qX ha,qX h5,qX h8]
  refine qU 1 H (AN (H.at 1 rfl) ho x hsrc.1 hsrc.2 hf.xl hf.recs hf.leads hf.n7 hf.n2 hf.out hf.lds hkc) rfl λu M A' hR f H=>?_
  refine hR.E λY2 eu ho2 eA=>?_
  subst eu eA
  simp (disch:=omega) only [go_sem,undef]
  exact Xg (C':=λ_=>C.zt x) 0 qu ho2 H.tail
abbrev tkB:NC:=.seq JC (.seq (.seq xj (.cond (.qq 57) (.seq xz .ret) .skip)) tkC)
theorem qQC{C0:Co}{Y0:Ly}{E:Env}{b3:Nat}{x:Lt}{D:Nat→Co×Bool}(hD:∀ b,D b=if C.gone x.inst then (C,decide (YZ x)) else (C.ZU b x,false))(hf:C.Fit)(hx:x.right)(ho:Y.ok C)(H:Hq m M (coA cb Y0 C0).wp [qw b3 (.cells x.cs.toArray qv (0,0)),coA cb Y C])(e0:E.get 0=lp cb)(e3:E.get 3=lp b3)(h0:E.has 0=true)(h3:E.has 3=true) :
  wpN Tryz.prog tkB (vB [.qq 4] λu M=>∃ A',(∃ b,CoR cb (D b).1 (.bool (D b).2) u A')∧A'.p M∧Fr m M (coA cb Y0 C0).wp∧(∀ b∈A'.fp,b∈(coA cb Y0 C0).fp∨m b=none)∧∀ b∈A'.wp,b∈(coA cb Y0 C0).wp∨m b=none) E M:=by
 have key:∀ (E1:Env),E1.get 0=lp cb→E1.get 3=lp b3→E1.get 5=.bool (decide (YZ x))→E1.has 0=true→E1.has 3=true→E1.has 5=true →
   wpN Tryz.prog (.seq (.seq xj (.cond (.qq 57) (.seq xz .ret) .skip)) tkC) (vB [.qq 4] λu M=>∃ A',(∃ b,CoR cb (D b).1 (.bool (D b).2) u A')∧A'.p M∧Fr m M (coA cb Y0 C0).wp∧(∀ b∈A'.fp,b∈(coA cb Y0 C0).fp∨m b=none)∧∀ b∈A'.wp,b∈(coA cb Y0 C0).wp∨m b=none) E1 M:=by
  intro E1 g0 g3 g5 k0 k3 k5
  generalize hC:tkC=T
  by_cases hg:C.gone x.inst
  ·have hD:∀ b,D b=(C,decide (YZ x)):=λb=>(hD b).trans (if_pos hg)
   simp only [hD]
   simp (disch:=omega) only [go_sem,undef,g0,g3,g5,k0,k3,k5,H.cs,qy (H.at 1 rfl),Ly.c]
   refine qa H (Xl (kO (H.at 1 rfl)) x.inst) λM f H=>?_
   simp (disch:=omega) only [go_sem,undef,g0,g3,g5,k0,k3,k5,qZ hg]
   exact Xg (C':=λ_=>C) 0 qu ho H.tail
  ·have hD:∀ b,D b=(C.ZU b x,false):=λb=>(hD b).trans (if_neg hg)
   simp (disch:=omega) only [go_sem,undef,g0,g3,g5,k0,k3,k5,H.cs,qy (H.at 1 rfl),Ly.c]
   refine qa H (Xl (kO (H.at 1 rfl)) x.inst) λM f H=>?_
   simp (disch:=omega) only [go_sem,undef,g0,g3,g5,k0,k3,k5,qX hg]
   subst hC
   exact qQB hD hf hx ho H
 show wpN Tryz.prog (.seq JC (.seq (.seq xj (.cond (.qq 57) (.seq xz .ret) .skip)) tkC)) _ E M
 generalize hC:(NC.seq (.seq xj (.cond (.qq 57) (.seq xz .ret) .skip)) tkC)=T at *
 by_cases h1:x.kind=1
 ·simp (disch:=omega) only [go_sem,undef,e0,e3,h0,h3,H.cs,qZ h1]
  exact key _ rfl rfl (by rw [qZ (show YZ x from .inl h1)];rfl) rfl rfl rfl
 by_cases hk3:x.kind=3
 ·simp (disch:=omega) only [go_sem,undef,e0,e3,h0,h3,H.cs,qX h1,qZ hk3]
  exact key _ rfl rfl (by rw [qZ (show YZ x from .inr (.inl hk3))];rfl) rfl rfl rfl
 by_cases h6:x.kind=6
 ·simp (disch:=omega) only [go_sem,undef,e0,e3,h0,h3,H.cs,qX h1,qX hk3,qZ h6]
  exact key _ rfl rfl (by rw [qZ (show YZ x from .inr (.inr h6))];rfl) rfl rfl rfl
 ·simp (disch:=omega) only [go_sem,undef,e0,e3,h0,h3,H.cs,qX h1,qX hk3,qX h6]
  exact key _ rfl rfl (by rw [qX (show ¬ YZ x from λh=>h.elim h1 λh=>h.elim hk3 h6)];rfl) rfl rfl rfl
theorem UA:XH=.seq ar (.seq (.seq ao (.cond (.qq 37) (.seq an .ret) .skip)) tkB):=rfl
theorem uJ(h:(coA cb Y C).p m)(ho:Y.ok C)(hf:C.Fit)(x:Lt) :
  CM Tryz.prog rP [lp cb,x.v] m (coA cb Y C) (λu A=>∃ b,CoR cb (C.take b x).1 (.bool (C.take b x).2) u A):=by
 have H:=Hq.one h
 refine pS (by simp [Tryz.f33]) ?_
 rw [UA]
 have hone:=λM (hA:(coA cb Y C).p M) (r:Int)=>EK hA r
 generalize hC:tkB=T
 by_cases hbar:C.bars x
 ·have hD:∀ b,C.take b x=(C,false):=λb=>if_pos hbar
  simp only [hD]
  simp (disch:=omega) only [go_sem,undef]
  refine qg H λb3 M f H=>?_
  simp (disch:=omega) only [go_sem,undef,H.cs]
  refine qa H (fw x _) λM f H=>?_
  by_cases h1:x.right
  ·by_cases h2:x.dst=C.me
   ·simp (disch:=omega) only [go_sem,undef,H.cs,qZ h1,Bool.not_true,qy (H.at 1 rfl),Ly.c,qX (show ¬ x.dst≠C.me from λh=>h h2)]
    refine qa H (hone _ (H.at 1 rfl) x.src) λM f H=>?_
    by_cases h3:uf C.n x.src
    ·by_cases h4:x.kind≥9
     ·simp (disch:=omega) only [go_sem,undef,H.cs,qZ h3,Bool.not_true,qZ h4]
      exact Xg (C':=λ_=>C) 0 qu ho H.tail
     ·have h5:¬ uf C.n x.inst.1:=by
       rcases hbar with h | h | h | h | h
       ·exact absurd h1 h
       ·exact absurd h2 h
       ·exact absurd h3 h
       ·exact absurd h h4
       ·exact h
      simp (disch:=omega) only [go_sem,undef,H.cs,qZ h3,Bool.not_true,qX h4]
      refine qa H (hone _ (H.at 1 rfl) x.inst.1) λM f H=>?_
      simp (disch:=omega) only [go_sem,undef,H.cs,qX h5,Bool.not_false]
      exact Xg (C':=λ_=>C) 0 qu ho H.tail
    ·simp (disch:=omega) only [go_sem,undef,H.cs,qX h3,Bool.not_false]
     exact Xg (C':=λ_=>C) 0 qu ho H.tail
   ·simp (disch:=omega) only [go_sem,undef,H.cs,qZ h1,Bool.not_true,qy (H.at 1 rfl),Ly.c,qZ (show x.dst≠C.me from h2)]
    exact Xg (C':=λ_=>C) 0 qu ho H.tail
  ·simp (disch:=omega) only [go_sem,undef,H.cs,qX h1,Bool.not_false]
   exact Xg (C':=λ_=>C) 0 qu ho H.tail
 ·have hD:∀ b,C.take b x=if C.gone x.inst then (C,decide (YZ x)) else (C.ZU b x,false):=λb=>if_neg hbar
  have h1:x.right:=Classical.byContradiction λh=>hbar (.inl h)
  have h2:¬ x.dst≠C.me:=λh=>hbar (.inr (.inl h))
  have h3:uf C.n x.src:=Classical.byContradiction λh=>hbar (.inr (.inr (.inl h)))
  have h4:¬ x.kind≥9:=λh=>hbar (.inr (.inr (.inr (.inl h))))
  have h5:uf C.n x.inst.1:=Classical.byContradiction λh=>hbar (.inr (.inr (.inr (.inr h))))
  simp (disch:=omega) only [go_sem,undef]
  refine qg H λb3 M f H=>?_
  simp (disch:=omega) only [go_sem,undef,H.cs]
  refine qa H (fw x _) λM f H=>?_
  simp (disch:=omega) only [go_sem,undef,H.cs,qZ h1,Bool.not_true,qy (H.at 1 rfl),Ly.c,qX h2]
  refine qa H (hone _ (H.at 1 rfl) x.src) λM f H=>?_
  simp (disch:=omega) only [go_sem,undef,H.cs,qZ h3,Bool.not_true,qX h4]
  refine qa H (hone _ (H.at 1 rfl) x.inst.1) λM f H=>?_
  simp (disch:=omega) only [go_sem,undef,H.cs,qZ h5,Bool.not_true]
  subst hC
  exact qQC (D:=λb=>C.take b x) hD hf h1 ho H rfl rfl rfl rfl
end Go.Fw
namespace Go.Fw
open Go.Proofs
variable {m m0 M:Mem} {S:List Nat} {L:List As}
variable {cb:Nat} {Y:Ly} {C:Co}
theorem Ns(b:Int×Int)(r:Int)(hb:b.1≤1000000000000)(hb0 : -1000000000000≤b.1)(m:Mem):MC Tryz.prog NV [pv b,.int .i64 r] m λv m'=>v=pv (b.1+1,r)∧Fr m m' []:=by
 refine IM (by simp [Tryz.f33]) ?_
 have H:=Hq.refl m []
 simp (disch:=omega) only [go_sem,undef]
 repeat' (first
  | ((first
   | (with_reducible first
    | refine qg H λ_ _ f H2=>?_
    | refine xK H λ_ f H2=>?_
    | refine cQ H λ_ f H2=>?_
    | refine Wy H λ_ f H2=>?_
    | refine eX H λ_ f H2=>?_
    | refine eJ H λ_ f H2=>?_
    | refine eZ H λ_ f H2=>?_)
   | ((with_reducible refine qs H ?hl ?h1 λ_ f H2=>?_);(case hl=>rfl);(case h1=>rfl))
   | ((with_reducible refine zA H ?hl ?h1 λ_ f H2=>?_);(case hl=>rfl);(case h1=>rfl))
   | ((with_reducible refine ZB H ?hl ?h1 λ_ f H2=>?_);(case hl=>rfl);(case h1=>rfl))
   | ((with_reducible refine XT H ?hl ?h1 λ_ f H2=>?_);(case hl=>rfl);(case h1=>rfl))
   | ((with_reducible refine XS H ?hl ?h1 λ_ f H2=>?_);(case hl=>rfl);(case h1=>rfl))
   | ((with_reducible refine XR H ?hl ?h1 λ_ f H2=>?_);(case hl=>rfl);(case h1=>rfl))
   | ((with_reducible refine cV H ?hl ?h1 λ_ f H2=>?_);(case hl=>exact Nat.le_of_ble_eq_true rfl);(case h1=>rfl);(simp only [go_sem] at H2))
   | ((with_reducible refine cK H ?hl ?h1 λ_ f H2=>?_);(case hl=>exact Nat.le_of_ble_eq_true rfl);(case h1=>rfl);(simp only [go_sem] at H2))
   | ((with_reducible refine eV H ?hl ?h1 λ_ f H2=>?_);(case hl=>exact Nat.le_of_ble_eq_true rfl);(case h1=>rfl);(simp only [go_sem] at H2))
   | ((with_reducible refine eK H ?hl ?h1 λ_ f H2=>?_);(case hl=>exact Nat.le_of_ble_eq_true rfl);(case h1=>rfl);(simp only [go_sem] at H2)));clear f;clear H;have H:=H2;clear H2;simp (disch:=omega) only [go_sem,undef,H.cs, *])
  | ((with_reducible refine qE (λhq=>?_) (λhq=>?_))<;>(try simp only [Bool.not_true,Bool.not_false] at hq)<;>simp (disch:=omega) only [go_sem,undef,H.cs, *])
  | ((with_reducible refine ql (λhq=>?_) (λhq=>?_))<;>simp (disch:=omega) only [go_sem,undef,H.cs, *]))
 all_goals exact ⟨rfl,H.fr⟩
def Co.qqU(C:Co)(p:Int×Int):Option Nat→Int×Int
 | none=>p
 | some j=>match C.wishes[j]? with
  | none=>p
  | some w=>if lt2 p w.told then w.told else p
def Co.bas(C:Co)(i:Int×Int):Int×Int:=C.qqU (C.at i).pr (fdW i C.wishes)
def WK(i:Int×Int)(me:Nat)(x:Cel):Ld:={ xd i 2 x.pr false Cmd.zero Att.zero with said:=[⟨(me:Nat),x⟩] }
def Co.nH(C:Co)(i:Int×Int)(x:Cel):Co×Bool :=
 if xY x.pr then (if (C.set i x).2=true then ((C.set i x).1.kP (WK i C.me x),true) else ((C.set i x).1,false)) else (C,false)
def Co.recover(C:Co)(i:Int×Int):Co×Bool :=
 if ¬ C.opn i∨(C.leads.length≥256∧fdL i C.leads=none) then (C,false) else C.nH i { C.at i with pr:=((C.bas i).1+1,(C.me:Nat)) }
theorem LdC.lay_s(c:LdC)(p:Int×Int)(w:Int)(b:Int×Int)(a:Option Addr)(n k:Nat):lay c.cs [(0,2),(2,1),(3,2),(29,1)] [.agg (pc p).toArray,.int .i64 w,.agg (pc b).toArray,.slice a n k]=some ({ c with id:=p,way:=w,bal:=b,sd:=.slice a n k }:LdC).cs:=rfl
attribute [go_sem] LdC.lay_s
theorem qQP{b b2:Nat}{i:Int×Int}{me:Nat}{x:Cel}(H:Hq m0 m S (qw b (.cells (LdC.mk i 2 x.pr false Cmd.zero Att.zero Dp.zero (.slice none 0 0) (.slice (some ⟨b2,0,none⟩) 1 1) 0 0).cs.toArray qN (0,0))::qw b2 (.cells (Sd.mk (me:Nat) x).cs.toArray qD (0,0))::L)) :
  Hq m0 m S (ldA ⟨b,.slice none 0 0,.slice (some ⟨b2,0,none⟩) 1 1⟩ (WK i me x)::L):=by
 have H:=(H.perm (List.Perm.swap ..)).Mf 22 1 1 rfl (Nat.le_refl _)
 have H:=H.QP qb 8
 have H:Hq m0 m S ([qw b (.cells (LdC.mk i 2 x.pr false Cmd.zero Att.zero Dp.zero (.slice none 0 0) (.slice (some ⟨b2,0,none⟩) 1 1) 0 0).cs.toArray qN (0,0)),qV qb 8 (.slice none 0 0) 0 [],qV qD 22 (.slice (some ⟨b2,0,none⟩) 1 1) 1 (Sd.mk (me:Nat) x).cs]++L):=by
  exact H.perm (List.perm_middle (l₁:=[qV qb 8 (.slice none 0 0) 0 [],qV qD 22 (.slice (some ⟨b2,0,none⟩) 1 1) 1 (Sd.mk (me:Nat) x).cs]) (l₂:=L)).symm
 have e:(WK i me x).said.flatMap Sd.cs=(Sd.mk (me:Nat) x).cs:=by simp [WK]
 have H2:=Hq.jc H
 have hl:(WK i me x).said.length=1:=rfl
 unfold ldA
 rw [e,hl]
 exact H2
abbrev rcA:NC:=.seq KU (.seq (.seq KT (.cond (.qq 72) (.seq Xf .ret) .skip)) (.seq Xe (.seq Xd .ret)))
theorem qjY{C0:Co}{Y0:Ly}{E:Env}{b3 b5 b7:Nat}{i p:Int×Int}{x:Cel}(ho:Y.ok C)(hp:p.1≤1000000000000)(hp0 : -1000000000000≤p.1)(hrec:C.recs.length≤1000000)(hn:C.leads.length≤100000)(hn7:C.n≤7)(hout:C.out.length≤999000)(H:Hq m M (coA cb Y0 C0).wp [qw b7 (.cells (pc p).toArray cS (0,0)),qw b5 (.cells x.cs.toArray qc (0,0)),qw b3 (.cells (pc i).toArray qW (0,0)),coA cb Y C])(e0:E.get 0=lp cb)(e3:E.get 3=lp b3)(e5:E.get 5=lp b5)(e7:E.get 7=lp b7)(h0:E.has 0=true)(h3:E.has 3=true)(h5:E.has 5=true)(h7:E.has 7=true) :
  wpN Tryz.prog rcA (vB [.qq 4] λu M=>∃ A',CoR cb (C.nH i { x with pr:=(p.1+1,(C.me:Nat)) }).1 (.bool (C.nH i { x with pr:=(p.1+1,(C.me:Nat)) }).2) u A'∧A'.p M∧Fr m M (coA cb Y0 C0).wp∧(∀ b∈A'.fp,b∈(coA cb Y0 C0).fp∨m b=none)∧∀ b∈A'.wp,b∈(coA cb Y0 C0).wp∨m b=none) E M:=by
 simp (disch:=omega) only [go_sem,undef,e0,e3,e5,e7,h0,h3,h5,h7,H.cs,qy (H.at 3 rfl),Ly.c]
 refine qa H (Ns p (C.me:Nat) hp hp0 _) λM f H=>?_
 simp (disch:=omega) only [go_sem,undef,e0,e3,e5,e7,h0,h3,h5,h7,H.cs,qy (H.at 3 rfl),Ly.c]
 refine cK H (Nat.le_of_ble_eq_true rfl) rfl λM f H=>?_
 have H:Hq m M (coA cb Y0 C0).wp [qw b7 (.cells (pc p).toArray cS (0,0)),qw b5 (.cells ({ x with pr:=(p.1+1,(C.me:Nat)) }:Cel).cs.toArray qc (0,0)),qw b3 (.cells (pc i).toArray qW (0,0)),coA cb Y C]:=H
 have hxp:({ x with pr:=(p.1+1,(C.me:Nat)) }:Cel).pr=(p.1+1,((C.me:Nat):Int)):=rfl
 generalize ({ x with pr:=(p.1+1,(C.me:Nat)) }:Cel)=y at *
 have hss:=wx C i y
 by_cases hr:xY y.pr
 ·have hp:C.nH i y=if (C.set i y).2=true then ((C.set i y).1.kP (WK i C.me y),true) else ((C.set i y).1,false):=if_pos hr
  rw [hp]
  simp (disch:=omega) only [go_sem,undef,e0,e3,e5,e7,h0,h3,h5,h7,H.cs]
  refine qa H (xF y.pr _) λM f H=>?_
  simp (disch:=omega) only [go_sem,undef,e0,e3,e5,e7,h0,h3,h5,h7,H.cs,qZ hr,Bool.not_true]
  refine qU 3 H (XC (H.at 3 rfl) ho i y hrec) rfl λu M A' hR f H=>?_
  refine hR.E λY1 eu ho1 eA=>?_
  subst eu eA
  clear hR hp
  have hme:(C.set i y).1.me=C.me:=hss.2.2.2
  generalize C.set i y=r at *
  obtain ⟨C1,ok⟩:=r
  have hme:C1.me=C.me:=hme
  have Hn:Hq m M (coA cb Y0 C0).wp [qw b7 (.cells (pc p).toArray cS (0,0)),qw b5 (.cells y.cs.toArray qc (0,0)),qw b3 (.cells (pc i).toArray qW (0,0)),coA cb Y1 C1]:=H
  clear H
  cases ok with
  | true =>
   have H:=Hn
   simp (disch:=omega) only [go_sem,undef,e0,e3,e5,e7,h0,h3,h5,h7,H.cs,Bool.not_true,qy (H.at 3 rfl),Ly.c,hme]
   refine qg H λb10 M f H=>?_
   simp (disch:=omega) only [go_sem,undef,e0,e3,e5,e7,h0,h3,h5,h7,H.cs,qy (H.at 4 rfl),Ly.c,hme]
   refine qg H λb12 M f H=>?_
   have H:=qQP H
   rw [hme] at H
   have H:Hq m M (coA cb Y0 C0).wp (ldA ⟨b12,.slice none 0 0,.slice (some ⟨b10,0,none⟩) 1 1⟩ (WK i C.me y)::coA cb Y1 C1::[]):=H.sel 5 [0,4] rfl (by decide) (by decide)
   have H:=Hq.join H
   simp (disch:=omega) only [go_sem,undef,e0,e3,e5,e7,h0,h3,h5,h7]
   refine zW H (cM (H.at 0 rfl) ho1 (Nat.le_trans (Nat.le_of_eq (congrArg List.length hss.1)) hn) (Nat.le_trans (Nat.le_of_eq hss.2.1) hn7) (Nat.le_trans (Nat.le_of_eq (congrArg List.length hss.2.2.1)) hout)) λu M A' hR f H=>?_
   refine hR.E λY2 eu ho2 eA=>?_
   subst eu eA
   simp (disch:=omega) only [go_sem,undef]
   exact qS qu ho2 H
  | false =>
   have H:=Hn
   simp (disch:=omega) only [go_sem,undef,e0,e3,e5,e7,h0,h3,h5,h7,H.cs,Bool.not_false]
   exact qS qu ho1 H.tail.tail.tail
 ·have hp:C.nH i y=(C,false):=if_neg hr
  rw [hp]
  simp (disch:=omega) only [go_sem,undef,e0,e3,e5,e7,h0,h3,h5,h7,H.cs]
  refine qa H (xF y.pr _) λM f H=>?_
  simp (disch:=omega) only [go_sem,undef,e0,e3,e5,e7,h0,h3,h5,h7,H.cs,qX hr,Bool.not_false]
  exact qS qu ho H.tail.tail.tail
end Go.Fw
namespace Go.Fw
open Go.Proofs
variable {m m0 M:Mem} {S:List Nat} {L:List As}
variable {cb:Nat} {Y:Ly} {C:Co}
abbrev rcB:NC:=.seq wJ (.seq (.seq wZ (.seq wQ (.cond (.qq 50) wy .skip))) rcA)
theorem qyG{C0:Co}{Y0:Ly}{E:Env}{b3 b5:Nat}{i:Int×Int}{x:Cel}{p:Int×Int}(hpd:C.qqU x.pr (fdW i C.wishes)=p)(ho:Y.ok C)(hp:p.1≤1000000000000)(hp0 : -1000000000000≤p.1)(hrec:C.recs.length≤1000000)(hn:C.leads.length≤100000)(hnw:C.wishes.length≤10000)(hn7:C.n≤7)(hout:C.out.length≤999000)(H:Hq m M (coA cb Y0 C0).wp [qw b5 (.cells x.cs.toArray qc (0,0)),qw b3 (.cells (pc i).toArray qW (0,0)),coA cb Y C])(e0:E.get 0=lp cb)(e3:E.get 3=lp b3)(e5:E.get 5=lp b5)(h0:E.has 0=true)(h3:E.has 3=true)(h5:E.has 5=true) :
  wpN Tryz.prog rcB (vB [.qq 4] λu M=>∃ A',CoR cb (C.nH i { x with pr:=(p.1+1,(C.me:Nat)) }).1 (.bool (C.nH i { x with pr:=(p.1+1,(C.me:Nat)) }).2) u A'∧A'.p M∧Fr m M (coA cb Y0 C0).wp∧(∀ b∈A'.fp,b∈(coA cb Y0 C0).fp∨m b=none)∧∀ b∈A'.wp,b∈(coA cb Y0 C0).wp∨m b=none) E M:=by
 have hlen:=ho.wss
 show wpN Tryz.prog (.seq wJ (.seq (.seq wZ (.seq wQ (.cond (.qq 50) wy .skip))) rcA)) _ E M
 generalize hC:rcA=T
 cases h2:fdW i C.wishes with
 | none =>
  rw [h2] at hpd
  have hpd:x.pr=p:=hpd
  have hpt:ptW Y.wss none=.pointer none:=rfl
  simp (disch:=omega) only [go_sem,undef,e0,e3,e5,h0,h3,h5,H.cs]
  refine qg H λb7 M f H=>?_
  simp (disch:=omega) only [go_sem,undef,e0,e3,e5,h0,h3,h5,H.cs]
  refine qs H rfl rfl λM f H=>?_
  simp (disch:=omega) only [go_sem,undef,e0,e3,e5,h0,h3,h5,H.cs]
  refine qa H (WQ (H.at 3 rfl) ho i (by omega)) λM f H=>?_
  rw [h2]
  simp (disch:=omega) only [go_sem,undef,e0,e3,e5,h0,h3,h5,H.cs,hpt,GH]
  subst hC
  rw [hpd] at H
  exact qjY ho hp hp0 hrec hn hn7 hout H rfl rfl rfl rfl rfl rfl rfl rfl
 | some j =>
  have hjl:=RR h2
  refine Exists.elim (⟨Y.wss[j]'(by omega),List.getElem?_eq_getElem (by omega)⟩:∃ v,Y.wss[j]?=some v) λv hv=>?_
  refine Exists.elim (⟨C.wishes[j],List.getElem?_eq_getElem hjl⟩:∃ w,C.wishes[j]?=some w) λw hw=>?_
  have hpt:ptW Y.wss (some j)=lp v:=by simp [ptW,hv]
  have hpd:(if lt2 x.pr w.told then w.told else x.pr)=p:=by rw [h2] at hpd;simpa only [Co.qqU,hw] using hpd
  simp (disch:=omega) only [go_sem,undef,e0,e3,e5,h0,h3,h5,H.cs]
  refine qg H λb7 M f H=>?_
  simp (disch:=omega) only [go_sem,undef,e0,e3,e5,h0,h3,h5,H.cs]
  refine qs H rfl rfl λM f H=>?_
  simp (disch:=omega) only [go_sem,undef,e0,e3,e5,h0,h3,h5,H.cs]
  refine qa H (WQ (H.at 3 rfl) ho i (by omega)) λM f H=>?_
  rw [h2]
  have hcw:=VN (cy (nV (H.at 3 rfl)) hv hw)
  simp (disch:=omega) only [go_sem,undef,e0,e3,e5,h0,h3,h5,H.cs,hpt,GG,hcw]
  refine qa H (zi x.pr w.told _) λM f H=>?_
  have hcw:=VN (cy (nV (H.at 3 rfl)) hv hw)
  by_cases hb:lt2 x.pr w.told
  ·rw [if_pos hb] at hpd
   simp (disch:=omega) only [go_sem,undef,e0,e3,e5,h0,h3,h5,H.cs,hcw,qZ hb]
   refine qs H rfl rfl λM f H=>?_
   simp (disch:=omega) only [go_sem,undef,e0,e3,e5,h0,h3,h5]
   subst hC
   rw [hpd] at H
   exact qjY ho hp hp0 hrec hn hn7 hout H rfl rfl rfl rfl rfl rfl rfl rfl
  ·rw [if_neg hb] at hpd
   simp (disch:=omega) only [go_sem,undef,e0,e3,e5,h0,h3,h5,H.cs,hcw,qX hb]
   subst hC
   rw [hpd] at H
   exact qjY ho hp hp0 hrec hn hn7 hout H rfl rfl rfl rfl rfl rfl rfl rfl
theorem Iq:Qq=.seq Vj (.seq (.seq Vz (.cond (.qq 26) (.seq Vq .ret) .skip)) (.seq xk rcB)):=rfl
theorem Wn(h:(coA cb Y C).p m)(ho:Y.ok C)(i:Int×Int)(hb:(C.bas i).1≤1000000000000)(hb0 : -1000000000000≤(C.bas i).1)(hrec:C.recs.length≤1000000)(hn:C.leads.length≤100000)(hnw:C.wishes.length≤10000)(hn7:C.n≤7)(hout:C.out.length≤999000) :
  CM Tryz.prog gU [lp cb,pv i] m (coA cb Y C) (CoR cb (C.recover i).1 (.bool (C.recover i).2)):=by
 have H:=Hq.one h
 have hlen:=ho.lds
 refine Own.zC (rj h) λa c hv=>?_
 refine gy (by simp [Tryz.f33]) ?_
 rw [Iq]
 generalize hC:rcB=T
 have hpd:C.qqU (C.at i).pr (fdW i C.wishes)=C.bas i:=rfl
 by_cases h1:C.opn i
 ·have hend:∀ (E1:Env),E1.get 0=lp cb→∀ b3,E1.get 3=lp b3→E1.has 0=true→E1.has 3=true→∀ M,Hq m M (coA cb Y C).wp [qw b3 (.cells (pc i).toArray qW (0,0)),coA cb Y C] →
    wpN Tryz.prog (.seq xk T) (vB [.qq 4] λu M=>∃ A',CoR cb (C.nH i { C.at i with pr:=((C.bas i).1+1,(C.me:Nat)) }).1 (.bool (C.nH i { C.at i with pr:=((C.bas i).1+1,(C.me:Nat)) }).2) u A'∧A'.p M∧Fr m M (coA cb Y C).wp∧(∀ b∈A'.fp,b∈(coA cb Y C).fp∨m b=none)∧∀ b∈A'.wp,b∈(coA cb Y C).wp∨m b=none) E1 M:=by
   intro E1 g0 b3 g3 k0 k3 M H
   have hx:(lkC i C.lg).getD Cel.zero=C.at i:=rfl
   simp (disch:=omega) only [go_sem,undef,g0,g3,k0,k3,H.cs,qy (H.at 1 rfl),Ly.c]
   refine qp ?_ ?_
   ·simp (disch:=omega) only [go_sem,undef,g0,g3,k0,k3,H.cs,qy (H.at 1 rfl),Ly.c]
    refine qa H (zO (kO (H.at 1 rfl)) i) λM f H=>?_
    rw [hx]
    simp (disch:=omega) only [go_sem,undef,g0,g3,k0,k3,H.cs,qy (H.at 1 rfl),Ly.c]
    refine qg H λb5 M f H=>?_
    simp (disch:=omega) only [go_sem,undef,g0,g3,k0,k3,H.cs,qy (H.at 2 rfl),Ly.c]
    refine qs H rfl rfl λM f H=>?_
    simp (disch:=omega) only [go_sem,undef,g0,g3,k0,k3]
    subst hC
    exact qyG hpd ho hb hb0 hrec hn hnw hn7 hout H rfl rfl rfl rfl rfl rfl
   ·simp (disch:=omega) only [go_sem,undef,g0,g3,k0,k3,H.cs,qy (H.at 1 rfl),Ly.c]
    refine qg H λb5 M f H=>?_
    simp (disch:=omega) only [go_sem,undef,g0,g3,k0,k3,H.cs,qy (H.at 2 rfl),Ly.c]
    refine qa H (zO (kO (H.at 2 rfl)) i) λM f H=>?_
    rw [hx]
    simp (disch:=omega) only [go_sem,undef,g0,g3,k0,k3,H.cs,qy (H.at 2 rfl),Ly.c]
    refine qs H rfl rfl λM f H=>?_
    simp (disch:=omega) only [go_sem,undef,g0,g3,k0,k3]
    subst hC
    exact qyG hpd ho hb hb0 hrec hn hnw hn7 hout H rfl rfl rfl rfl rfl rfl
  generalize hC2:(NC.seq xk T)=T2 at *
  by_cases h3:C.leads.length≥256
  ·have hfo:(∃ j,fdL i C.leads=some j)∨fdL i C.leads=none:=by
    cases fdL i C.leads with
    | none=>exact .inr rfl
    | some j=>exact .inl ⟨j,rfl⟩
   rcases hfo with ⟨j,hf⟩ | hf
   ·have hp:C.recover i=C.nH i { C.at i with pr:=((C.bas i).1+1,(C.me:Nat)) }:=if_neg (λh=>h.elim (λh=>h h1) λh=>by have:=h.2;rw [hf] at this;cases this)
    rw [hp]
    have hjl:j < C.leads.length:=by
     unfold fdL at hf
     rw [List.findIdx?_eq_some_iff_getElem] at hf
     exact hf.1
    refine Exists.elim (⟨Y.lds[j]'(by omega),List.getElem?_eq_getElem (by omega)⟩:∃ v,Y.lds[j]?=some v) λv hvj=>?_
    have hpt:ptO Y.lds (some j)=lp v.b:=by simp [ptO,hvj]
    simp (disch:=omega) only [go_sem,undef]
    refine qg H λb3 M f H=>?_
    simp (disch:=omega) only [go_sem,undef,H.cs]
    refine qa H (jT (H.at 1 rfl) i) λM f H=>?_
    simp (disch:=omega) only [go_sem,undef,H.cs,qZ h1,Bool.not_true,qy (H.at 1 rfl),Ly.c,hv,qZ (show ((Y.lds.length:Nat):Int)≥256 by omega)]
    refine qa H (XA (H.at 1 rfl) ho i (by omega)) λM f H=>?_
    rw [hf]
    simp (disch:=omega) only [go_sem,undef,H.cs,hpt,Option.isNone_some]
    exact hend _ rfl _ rfl rfl rfl _ H
   ·have hp:C.recover i=(C,false):=if_pos (.inr ⟨h3,hf⟩)
    rw [hp]
    have hpt:ptO Y.lds none=.pointer none:=rfl
    simp (disch:=omega) only [go_sem,undef]
    refine qg H λb3 M f H=>?_
    simp (disch:=omega) only [go_sem,undef,H.cs]
    refine qa H (jT (H.at 1 rfl) i) λM f H=>?_
    simp (disch:=omega) only [go_sem,undef,H.cs,qZ h1,Bool.not_true,qy (H.at 1 rfl),Ly.c,hv,qZ (show ((Y.lds.length:Nat):Int)≥256 by omega)]
    refine qa H (XA (H.at 1 rfl) ho i (by omega)) λM f H=>?_
    rw [hf]
    simp (disch:=omega) only [go_sem,undef,H.cs,hpt,Option.isNone_none]
    exact qS qu ho H.tail
  ·have hp:C.recover i=C.nH i { C.at i with pr:=((C.bas i).1+1,(C.me:Nat)) }:=if_neg (λh=>h.elim (λh=>h h1) λh=>h3 h.1)
   rw [hp]
   simp (disch:=omega) only [go_sem,undef]
   refine qg H λb3 M f H=>?_
   simp (disch:=omega) only [go_sem,undef,H.cs]
   refine qa H (jT (H.at 1 rfl) i) λM f H=>?_
   simp (disch:=omega) only [go_sem,undef,H.cs,qZ h1,Bool.not_true,qy (H.at 1 rfl),Ly.c,hv,qX (show ¬ ((Y.lds.length:Nat):Int)≥256 by omega)]
   exact hend _ rfl _ rfl rfl rfl _ H
 ·have hp:C.recover i=(C,false):=if_pos (.inl h1)
  rw [hp]
  simp (disch:=omega) only [go_sem,undef]
  refine qg H λb3 M f H=>?_
  simp (disch:=omega) only [go_sem,undef,H.cs]
  refine qa H (jT (H.at 1 rfl) i) λM f H=>?_
  simp (disch:=omega) only [go_sem,undef,H.cs,qX h1,Bool.not_false]
  exact qS qu ho H.tail
end Go.Fw
namespace Go.Fw
open Go.Proofs
def qzN(d:Dp):Int:=d 0+d 1+d 2+d 3+d 4+d 5+d 6
theorem qkO(d:Dp)(k:Nat)(x:Int)(h:k < 7):qzN (Dp.up d k x)=qzN d - d.g k+x:=by
 match k,h with
 | 0,_ =>
  show (if (0:Nat)=0 then x else d 0)+(if (1:Nat)=0 then x else d 1)+(if (2:Nat)=0 then x else d 2)+(if (3:Nat)=0 then x else d 3)+(if (4:Nat)=0 then x else d 4)+(if (5:Nat)=0 then x else d 5)+(if (6:Nat)=0 then x else d 6)=d 0+d 1+d 2+d 3+d 4+d 5+d 6 - d 0+x
  simp only [reduceCtorEq,Nat.reduceEqDiff,if_true,if_false,ite_true,ite_false]
  omega
 | 1,_ =>
  show (if (0:Nat)=1 then x else d 0)+(if (1:Nat)=1 then x else d 1)+(if (2:Nat)=1 then x else d 2)+(if (3:Nat)=1 then x else d 3)+(if (4:Nat)=1 then x else d 4)+(if (5:Nat)=1 then x else d 5)+(if (6:Nat)=1 then x else d 6)=d 0+d 1+d 2+d 3+d 4+d 5+d 6 - d 1+x
  simp only [reduceCtorEq,Nat.reduceEqDiff,if_true,if_false,ite_true,ite_false]
  omega
 | 2,_ =>
  show (if (0:Nat)=2 then x else d 0)+(if (1:Nat)=2 then x else d 1)+(if (2:Nat)=2 then x else d 2)+(if (3:Nat)=2 then x else d 3)+(if (4:Nat)=2 then x else d 4)+(if (5:Nat)=2 then x else d 5)+(if (6:Nat)=2 then x else d 6)=d 0+d 1+d 2+d 3+d 4+d 5+d 6 - d 2+x
  simp only [reduceCtorEq,Nat.reduceEqDiff,if_true,if_false,ite_true,ite_false]
  omega
 | 3,_ =>
  show (if (0:Nat)=3 then x else d 0)+(if (1:Nat)=3 then x else d 1)+(if (2:Nat)=3 then x else d 2)+(if (3:Nat)=3 then x else d 3)+(if (4:Nat)=3 then x else d 4)+(if (5:Nat)=3 then x else d 5)+(if (6:Nat)=3 then x else d 6)=d 0+d 1+d 2+d 3+d 4+d 5+d 6 - d 3+x
  simp only [reduceCtorEq,Nat.reduceEqDiff,if_true,if_false,ite_true,ite_false]
  omega
 | 4,_ =>
  show (if (0:Nat)=4 then x else d 0)+(if (1:Nat)=4 then x else d 1)+(if (2:Nat)=4 then x else d 2)+(if (3:Nat)=4 then x else d 3)+(if (4:Nat)=4 then x else d 4)+(if (5:Nat)=4 then x else d 5)+(if (6:Nat)=4 then x else d 6)=d 0+d 1+d 2+d 3+d 4+d 5+d 6 - d 4+x
  simp only [reduceCtorEq,Nat.reduceEqDiff,if_true,if_false,ite_true,ite_false]
  omega
 | 5,_ =>
  show (if (0:Nat)=5 then x else d 0)+(if (1:Nat)=5 then x else d 1)+(if (2:Nat)=5 then x else d 2)+(if (3:Nat)=5 then x else d 3)+(if (4:Nat)=5 then x else d 4)+(if (5:Nat)=5 then x else d 5)+(if (6:Nat)=5 then x else d 6)=d 0+d 1+d 2+d 3+d 4+d 5+d 6 - d 5+x
  simp only [reduceCtorEq,Nat.reduceEqDiff,if_true,if_false,ite_true,ite_false]
  omega
 | 6,_ =>
  show (if (0:Nat)=6 then x else d 0)+(if (1:Nat)=6 then x else d 1)+(if (2:Nat)=6 then x else d 2)+(if (3:Nat)=6 then x else d 3)+(if (4:Nat)=6 then x else d 4)+(if (5:Nat)=6 then x else d 5)+(if (6:Nat)=6 then x else d 6)=d 0+d 1+d 2+d 3+d 4+d 5+d 6 - d 6+x
  simp only [reduceCtorEq,Nat.reduceEqDiff,if_true,if_false,ite_true,ite_false]
  omega
structure ZA(l:Ld):Prop where
 ans:∀ i,l.ans i=0∨l.ans i=1
 cnt:l.count=qzN l.ans
 reps:(l.reps.length:Int)≤l.count
 said:(l.said.length:Int)≤l.count+1
 keys:∀ s∈l.said,s.cel.cmd.right
theorem ZA.ok{l:Ld}(h:ZA l):qJN l:=by
 have h0:=h.ans 0
 have h1:=h.ans 1
 have h2:=h.ans 2
 have h3:=h.ans 3
 have h4:=h.ans 4
 have h5:=h.ans 5
 have h6:=h.ans 6
 have hc:=h.cnt
 have hr:=h.reps
 have hs:=h.said
 unfold qzN at hc
 exact ⟨by omega,by omega,by omega,λs hs=>gg (h.keys s hs)⟩
theorem my(i:Int×Int)(w:Int)(b:Int×Int)(f:Bool)(x:Cmd)(a:Att):ZA (xd i w b f x a) :=
 ⟨λi=>.inl rfl,rfl,by simp [xd],by simp [xd],by simp [xd]⟩
theorem PU(i:Int×Int)(me:Nat)(x:Cel)(h:x.cmd.right):ZA (WK i me x) :=
 ⟨λi=>.inl rfl,rfl,by simp [WK,xd],by simp [WK,xd],by simpa [WK] using h⟩
theorem RG{l:Ld}(h:ZA l){k:Nat}(hk:k < 7)(h0:l.ans.g k=0):ZA (l.heard k)∧(l.heard k).reps.length+1≤(l.heard k).count∧(l.heard k).said.length≤(l.heard k).count:=by
 have hs:=qkO l.ans k 1 hk
 have hr:=h.reps
 have hsd:=h.said
 have hc:=h.cnt
 refine ⟨⟨λi=>?_,?_,?_,?_,h.keys⟩,?_,?_⟩
 ·show Dp.up l.ans k 1 i=0∨Dp.up l.ans k 1 i=1
  unfold Dp.up
  by_cases hi:i.val=k
  ·rw [if_pos hi];exact .inr rfl
  ·rw [if_neg hi];exact h.ans i
 ·show l.count+1=qzN (Dp.up l.ans k 1)
  omega
 ·show (l.reps.length:Int)≤l.count+1
  omega
 ·show (l.said.length:Int)≤l.count+1+1
  omega
 ·show (l.reps.length:Int)+1≤l.count+1
  omega
 ·show (l.said.length:Int)≤l.count+1
  omega
structure Co.Ok(C:Co):Prop where
 n:C.n=3∨C.n=5∨C.n=7
 me:C.me < C.n
 xl:Qe C.xl
 lg:∀ p∈C.lg,zj p.1∧p.2.right
 wishes:C.wishes.length≤256
 lds:∀ l∈C.leads,ZA l
 lnd:(C.leads.map Ld.id).Nodup
 wnd:(C.wishes.map Wsh.id).Nodup
 wt:∀ w∈C.wishes,xY w.told
structure Sz(C C':Co)(r o l:Nat):Prop where
 recs:C'.recs.length≤C.recs.length+r
 out:C'.out.length≤C.out.length+o
 leads:C'.leads.length≤C.leads.length+l
 n:C'.n=C.n
 me:C'.me=C.me
 cut:C'.cut=C.cut
 xcut:C'.xcut=C.xcut
theorem Sz.refl(C:Co):Sz C C 0 0 0:=⟨by omega,by omega,by omega,rfl,rfl,rfl,rfl⟩
theorem Sz.trans{A B C:Co}{a b c a' b' c':Nat}(h:Sz A B a b c)(h':Sz B C a' b' c'):Sz A C (a+a') (b+b') (c+c') :=
 ⟨by have:=h.recs;have:=h'.recs;omega,by have:=h.out;have:=h'.out;omega,by have:=h.leads;have:=h'.leads;omega,h'.n.trans h.n,h'.me.trans h.me,h'.cut.trans h.cut,h'.xcut.trans h.xcut⟩
theorem Sz.up{A B:Co}{a b c a' b' c':Nat}(h:Sz A B a b c)(h1:a≤a')(h2:b≤b')(h3:c≤c'):Sz A B a' b' c' :=
 ⟨by have:=h.recs;omega,by have:=h.out;omega,by have:=h.leads;omega,h.n,h.me,h.cut,h.xcut⟩
structure Sts(C C':Co)(r o l:Nat):Prop where
 ok:C.Ok→C'.Ok
 sz:Sz C C' r o l
theorem Sts.refl(C:Co):Sts C C 0 0 0:=⟨id,Sz.refl C⟩
theorem Sts.trans{A B C:Co}{a b c a' b' c':Nat}(h:Sts A B a b c)(h':Sts B C a' b' c'):Sts A C (a+a') (b+b') (c+c'):=⟨λk=>h'.ok (h.ok k),h.sz.trans h'.sz⟩
theorem Sts.up{A B:Co}{a b c a' b' c':Nat}(h:Sts A B a b c)(h1:a≤a')(h2:b≤b')(h3:c≤c'):Sts A B a' b' c':=⟨h.ok,h.sz.up h1 h2 h3⟩
theorem qQa{l:wY}(h:Qe l){cut:Dp}{k:Int×Int}{c:Cmd}{s:Int}(hm:dh cut k c s):Qe (upN k ⟨c,s⟩ l):=by
 refine ⟨λp hp=>?_⟩
 unfold upN at hp
 split at hp
 ·obtain ⟨q,hq,e⟩:=List.mem_map.1 hp
  split at e
  ·subst e;exact ⟨hm.1,hm.2.2.1,hm.2.2.2.1,hm.2.2.2.2⟩
  ·subst e;exact h.ok q hq
 ·rcases List.mem_append.1 hp with hp | hp
  ·exact h.ok p hp
  ·rw [List.mem_singleton] at hp;subst hp;exact ⟨hm.1,hm.2.2.1,hm.2.2.2.1,hm.2.2.2.2⟩
theorem qwj(C:Co)(i:Int×Int)(x:Cel):Sts C (C.note i x) 0 0 0:=by
 unfold Co.note
 split
 ·refine ⟨λh=>⟨h.n,h.me,?_,h.lg,h.wishes,h.lds,h.lnd,h.wnd,h.wt⟩,⟨by simp,by simp,by simp,rfl,rfl,rfl,rfl⟩⟩
  show Qe (if _ then _ else _)
  split
  ·rename_i hm;exact qQa h.xl hm
  ·exact h.xl
 ·exact Sts.refl C
theorem qkB{k:Int×Int}{c:Cel}{l:vD}{p:(Int×Int)×Cel}(h:p∈upC k c l):p=(k,c)∨p∈l:=by
 unfold upC at h
 split at h
 ·obtain ⟨q,hq,e⟩:=List.mem_map.1 h
  split at e
  ·exact .inl e.symm
  ·subst e;exact .inr hq
 ·rcases List.mem_append.1 h with h | h
  ·exact .inr h
  ·exact .inl (List.mem_singleton.1 h)
theorem cW(C:Co)(i:Int×Int)(x:Cel):Sts C (C.set i x).1 1 0 0:=by
 unfold Co.set
 split
 ·rename_i hm
  have h2:Sts C { C with lg:=upC i x C.lg,recs:=C.recs++[lI i x] } 1 0 0:=by
   refine ⟨λh=>⟨h.n,h.me,h.xl,λp hp=>?_,h.wishes,h.lds,h.lnd,h.wnd,h.wt⟩,⟨by simp,by simp,by simp,rfl,rfl,rfl,rfl⟩⟩
   rcases qkB hp with e | e
   ·subst e;exact ⟨hm.1,hm.2.2.1⟩
   ·exact h.lg p e
  exact (h2.trans (qwj _ i x)).up (by omega) (by omega) (by omega)
 ·exact (Sts.refl C).up (by omega) (by omega) (by omega)
theorem VR(C:Co)(to:Int)(x:Lt):Sts C (C.send to x) 0 1 0:=⟨λh=>⟨h.n,h.me,h.xl,h.lg,h.wishes,h.lds,h.lnd,h.wnd,h.wt⟩,⟨by simp [Co.send],by simp [Co.send],by simp [Co.send],rfl,rfl,rfl,rfl⟩⟩
theorem Mx(C:Co)(x:Lt)(ans:Dp):∀ j,Sts C (C.Zu x ans j) 0 j 0
 | 0=>Sts.refl C
 | j+1=>by
  unfold Co.Zu
  split
  ·exact ((Mx C x ans j).trans (VR _ j x)).up (by omega) (by omega) (by omega)
  ·exact (Mx C x ans j).up (by omega) (by omega) (by omega)
theorem Mj(C:Co)(x:Lt)(ans:Dp):Sts C (C.all x ans) 0 C.n 0:=Mx C x ans C.n
theorem Jx(C:Co)(i:Int×Int):Sts C (C.zk i) 0 0 0 :=
 ⟨λh=>⟨h.n,h.me,h.xl,h.lg,h.wishes,λl hl=>h.lds l (List.mem_filter.1 hl).1,h.lnd.sublist ((List.filter_sublist).map _),h.wnd,h.wt⟩,⟨by simp [Co.zk],by simp [Co.zk],List.length_filter_le ..,rfl,rfl,rfl,rfl⟩⟩
theorem Ex{α:Type}{l:List α}{j:Nat}{x y:α}(h:y∈zq l j x):y=x∨y∈l:=List.mem_cons.1 ((bV l j x).subset h)
theorem qzM(C:Co)(x:Ld)(hx:ZA x):Sts C (C.ZT x) 0 0 1:=by
 have h2:Sts (C.zk x.id) (C.ZT x) 0 0 1:=by
  refine ⟨λh=>⟨h.n,h.me,h.xl,h.lg,h.wishes,λl hl=>?_,?_,h.wnd,h.wt⟩,⟨by simp [Co.ZT],by simp [Co.ZT],?_,rfl,rfl,rfl,rfl⟩⟩
  ·rcases Ex hl with e | e
   ·subst e;exact hx
   ·exact h.lds l e
  ·have hp:=(bV (C.zk x.id).leads (eh x.id (C.zk x.id).leads) x).map Ld.id
   refine hp.nodup_iff.2 ?_
   rw [List.map_cons]
   refine List.nodup_cons.2 ⟨λhm=>?_,h.lnd⟩
   obtain ⟨y,hy,e⟩:=List.mem_map.1 hm
   have:=(List.mem_filter.1 hy).2
   simp [e] at this
  ·show (zq _ _ _).length≤_
   rw [xS _ _ _ (Iy ..)];omega
 exact ((Jx C x.id).trans h2).up (by omega) (by omega) (by omega)
theorem gh(C:Co)(x:Ld)(hx:ZA x):Sts C (C.kP x) 0 C.n 1:=by
 have h:=Mj (C.ZT x) x.ask x.ans
 rw [show (C.ZT x).n=C.n from rfl] at h
 exact ((qzM C x hx).trans h).up (by omega) (by omega) (by omega)
theorem ti(C:Co)(i:Int×Int)(x:Cmd)(a:Att):Sts C (C.JD i x a) 1 C.n 0:=by
 unfold Co.JD Co.qxG
 have h1:=(Jx C i).trans (cW (C.zk i) i ⟨3,((lkC i C.lg).getD Cel.zero).pr,((lkC i C.lg).getD Cel.zero).vo,x,a,false⟩)
 split
 ·have h2:=Mj ((C.zk i).set i ⟨3,((lkC i C.lg).getD Cel.zero).pr,((lkC i C.lg).getD Cel.zero).vo,x,a,false⟩).1 { Lt.zero with kind:=5,inst:=i,cmd:=x,att:=a } Dp.zero
  have hn:=h1.sz.n
  exact (h1.trans h2).up (by omega) (by omega) (by omega)
 ·exact h1.up (by omega) (by omega) (by omega)
theorem tC(C:Co)(l:Ld)(x:Cmd)(a:Att):Sts C (C.accept l x a) 1 C.n 1:=by
 unfold Co.accept
 have h1:=cW C l.id ⟨2,l.bal,l.bal,x,a,false⟩
 split
 ·split
  ·have h2:=gh (C.set l.id ⟨2,l.bal,l.bal,x,a,false⟩).1 (xd l.id 1 l.bal false x a) (my ..)
   have hn:=h1.sz.n
   exact (h1.trans h2).up (by omega) (by omega) (by omega)
  ·exact (h1.trans (Jx _ l.id)).up (by omega) (by omega) (by omega)
 ·exact (Jx C l.id).up (by omega) (by omega) (by omega)
theorem qkY(C:Co)(l:Ld)(x:Cmd)(a:Att):Sts C (C.again l x a) 1 C.n 1:=by
 unfold Co.again Co.tB
 generalize zG a (zp C.xcut C.xl l.id x)=a
 have h1:=cW C l.id ⟨1,l.bal,l.bal,x,a,false⟩
 split
 ·split
  ·have h2:=gh (C.set l.id ⟨1,l.bal,l.bal,x,a,false⟩).1 (xd l.id 0 l.bal false x a) (my ..)
   have hn:=h1.sz.n
   exact (h1.trans h2).up (by omega) (by omega) (by omega)
  ·exact (h1.trans (Jx _ l.id)).up (by omega) (by omega) (by omega)
 ·exact (Jx C l.id).up (by omega) (by omega) (by omega)
theorem MV(C:Co)(l:Ld)(late:Bool):Sts C (C.xp l late).1 1 C.n 1:=by
 unfold Co.xp Co.ZS
 split
 ·exact (ti ..).up (by omega) (by omega) (by omega)
 split
 ·exact tC ..
 ·exact (Sts.refl C).up (by omega) (by omega) (by omega)
theorem MM(C:Co)(l:Ld):Sts C (C.aR l) 1 C.n 1:=by
 unfold Co.aR Co.aS
 split
 ·exact (ti ..).up (by omega) (by omega) (by omega)
 split
 ·exact tC ..
 split
 ·exact tC ..
 split
 ·exact qkY ..
 ·exact (Sts.refl C).up (by omega) (by omega) (by omega)
theorem mo{α β:Type}(f:α→β):∀ (l:List α) (j:Nat) (a x:α),l[j]?=some a→f x=f a→(l.set j x).map f=l.map f
 | [],_,_,_,h,_=>by simp at h
 | b::r,0,a,x,h,e=>by simp at h;subst h;simp [e]
 | b::r,j+1,a,x,h,e=>by
  have:=mo f r j a x (by simpa using h) e
  simp [this]
theorem Iz(C:Co)(j:Nat)(l0 l:Ld)(h0:C.leads[j]?=some l0)(hid:l.id=l0.id)(hl:C.Ok→ZA l):Sts C (C.put j l) 0 0 0 :=
 ⟨λh=>⟨h.n,h.me,h.xl,h.lg,h.wishes,λy hy=>by
  rcases List.mem_or_eq_of_mem_set hy with e | e
  ·exact h.lds y e
  ·subst e;exact hl h,by show ((C.leads.set j l).map Ld.id).Nodup;rw [mo Ld.id C.leads j l0 l h0 hid];exact h.lnd,h.wnd,h.wt⟩,⟨by simp [Co.put],by simp [Co.put],by simp [Co.put],rfl,rfl,rfl,rfl⟩⟩
theorem qyn(C:Co)(j:Nat)(l:Ld)(x:Lt)(k:Nat)(hk:k < 7)(hl:C.leads[j]?=some l)(h0:l.ans.g k=0)(hx:x.cel.cmd.right):Sts C (C.tA j l x k) 1 C.n 1:=by
 have hg:C.Ok→ZA (l.heard k)∧(l.heard k).reps.length+1≤(l.heard k).count∧(l.heard k).said.length≤(l.heard k).count:=λh=>RG (h.lds l (List.mem_of_getElem? hl)) hk h0
 unfold Co.tA
 split
 ·have h1:=Iz C j l ((l.heard k).nG x.att) hl rfl λh=>⟨(hg h).1.ans,(hg h).1.cnt,by have:=(hg h).2.1;simpa [Ld.nG] using this,(hg h).1.said,(hg h).1.keys⟩
  exact (h1.trans (MV _ _ false)).up (by omega) (by simp [Co.nM]) (by omega)
 split
 ·have h1:=Iz C j l (l.heard k) hl rfl λh=>(hg h).1
  split
  ·exact (h1.trans (ti ..)).up (by omega) (by simp [Co.nM]) (by omega)
  ·exact h1.up (by omega) (by omega) (by omega)
 ·have h1:=Iz C j l ((l.heard k).rm ⟨k,x.cel⟩) hl rfl λh=>⟨(hg h).1.ans,(hg h).1.cnt,(hg h).1.reps,by have:=(hg h).2.2;simp [Ld.rm];exact this,λs hs=>by
   rcases List.mem_append.1 (show s∈(l.heard k).said++[Sd.mk k x.cel] from hs) with e | e
   ·exact (hg h).1.keys s e
   ·rw [List.mem_singleton] at e;subst e;exact hx⟩
  exact (h1.trans (MM _ _)).up (by omega) (by simp [Co.nM]) (by omega)
theorem Pb(C:Co)(x:Lt)(hk:0≤x.src∧x.src < 7)(hx:x.cel.cmd.right):Sts C (C.zt x) 1 C.n 1:=by
 have hr:Sts C C 1 C.n 1:=(Sts.refl C).up (by omega) (by omega) (by omega)
 unfold Co.zt
 cases fdL x.inst C.leads with
 | none=>exact hr
 | some j =>
  cases hl:C.leads[j]? with
  | none=>simpa only [Co.SD,hl] using hr
  | some l =>
   simp only [Co.SD,hl]
   split
   ·exact hr
   ·rename_i h0
    split
    ·exact hr
    ·refine qyn C j l x _ (by omega) hl (Classical.byContradiction λh=>h0 (.inr h)) hx
end Go.Fw
namespace Go.Fw
open Go.Proofs
theorem qZi(C:Co)(x:Lt)(c:Cel)(own:Bool):Sts C (C.pre x c own) 1 1 0:=by
 have hr:Sts C C 1 1 0:=(Sts.refl C).up (by omega) (by omega) (by omega)
 unfold Co.pre
 split
 ·split
  ·exact (VR ..).up (by omega) (by omega) (by omega)
  ·exact hr
 ·generalize zG x.att (zp C.xcut C.xl x.inst x.cmd)=a
  unfold Co.Rw
  have h1:=cW C x.inst ⟨1,x.bal,x.bal,x.cmd,a,decide (x.bal=(0,0)∧a=x.att)⟩
  split
  ·split
   ·exact (h1.trans (VR ..)).up (by omega) (by omega) (by omega)
   ·exact h1.up (by omega) (by omega) (by omega)
  ·exact hr
theorem qyt(C:Co)(x:Lt)(done:Bool):Sts C (C.Pd x done) 1 1 0:=by
 unfold Co.Pd
 have h1:=cW C x.inst ⟨2,x.bal,x.bal,x.cmd,x.att,false⟩
 split
 ·exact (VR ..).up (by omega) (by omega) (by omega)
 split
 ·exact (h1.trans (VR ..)).up (by omega) (by omega) (by omega)
 ·exact h1.up (by omega) (by omega) (by omega)
theorem qvC(C:Co)(x:Lt)(c:Cel):Sts C (C.qqj x c) 1 1 0:=by
 unfold Co.qqj
 have h1:=cW C x.inst { c with pr:=x.bal }
 split
 ·exact (VR ..).up (by omega) (by omega) (by omega)
 split
 ·exact (h1.trans (VR ..)).up (by omega) (by omega) (by omega)
 ·exact h1.up (by omega) (by omega) (by omega)
theorem qyg(C:Co)(x:Lt)(c:Cel)(own:Bool):Sts C (C.cP x c own) 1 1 0:=by
 unfold Co.cP
 split
 ·exact qZi ..
 split
 ·exact qyt ..
 split
 ·exact qvC ..
 ·exact (Sts.refl C).up (by omega) (by omega) (by omega)
theorem Ub(C:Co)(i b:Int×Int):Sts C (C.lD i b) 0 0 0:=by
 unfold Co.lD
 repeat' split
 all_goals first
  | exact Jx ..
  | exact Sts.refl C
theorem qkX(C:Co)(x:Lt):Sts C (C.asked x) 1 1 0:=by
 unfold Co.asked Co.Gg
 split
 ·exact (VR ..).up (by omega) (by omega) (by omega)
 split
 ·exact (VR ..).up (by omega) (by omega) (by omega)
 ·exact ((Ub C x.inst x.bal).trans (qyg ..)).up (by omega) (by omega) (by omega)
theorem qkI(C:Co)(x:Lt):Sts C (C.told x) 1 0 0:=by
 unfold Co.told Co.Bn
 split
 ·exact (Sts.refl C).up (by omega) (by omega) (by omega)
 ·exact ((Jx C x.inst).trans (cW ..)).up (by omega) (by omega) (by omega)
theorem SP(C:Co)(b:Nat)(i:Int×Int):Sts C (C.want b i) 0 0 0:=by
 unfold Co.want
 split
 ·rename_i hw
  refine ⟨λh=>⟨h.n,h.me,h.xl,h.lg,?_,h.lds,h.lnd,?_,λw hm=>?_⟩,⟨by simp,by simp,by simp,rfl,rfl,rfl,rfl⟩⟩
  ·show (zq C.wishes _ _).length≤_
   rw [xS _ _ _ (Iw ..)]
   have:=hw.2.2
   omega
  ·have hp:=(bV C.wishes (aH i C.wishes) ⟨i,0,(0,0)⟩).map Wsh.id
   refine hp.nodup_iff.2 ?_
   rw [List.map_cons]
   refine List.nodup_cons.2 ⟨λhm=>?_,h.wnd⟩
   obtain ⟨y,hy,e⟩:=List.mem_map.1 hm
   have hf:=hw.2.1
   unfold fdW at hf
   rw [List.findIdx?_eq_none_iff] at hf
   have:=hf y hy
   simp [e] at this
  ·rcases Ex hm with e | e
   ·subst e;exact (show xY (0,0) by decide)
   ·exact h.wt w e
 ·exact Sts.refl C
theorem AU(C:Co)(j:Nat)(x0 x:Wsh)(h0:C.wishes[j]?=some x0)(hid:x.id=x0.id)(ht:xY x0.told→xY x.told):Sts C (C.kC j x) 0 0 0 :=
 ⟨λh=>⟨h.n,h.me,h.xl,h.lg,by have:=h.wishes;simpa [Co.kC] using this,h.lds,h.lnd,by show ((C.wishes.set j x).map Wsh.id).Nodup;rw [mo Wsh.id C.wishes j x0 x h0 hid];exact h.wnd,λw hw=>by
  rcases List.mem_or_eq_of_mem_set hw with e | e
  ·exact h.wt w e
  ·subst e;exact ht (h.wt x0 (List.mem_of_getElem? h0))⟩,⟨by simp [Co.kC],by simp [Co.kC],by simp [Co.kC],rfl,rfl,rfl,rfl⟩⟩
theorem qvd(C:Co)(i b:Int×Int)(hb:xY b)(o:Option Nat):Sts C (C.PT i b o) 0 0 0:=by
 cases o with
 | none=>exact Sts.refl C
 | some j =>
  cases h:C.wishes[j]? with
  | none=>simp only [Co.PT,h];exact Sts.refl C
  | some x =>
   simp only [Co.PT,h]
   exact AU C j x _ h rfl λhr=>by
    unfold Wsh.RH
    show xY (if lt2 x.told b then b else x.told)
    split
    ·exact hb
    ·exact hr
theorem PR(C:Co)(b:Nat)(x:Lt)(hb:xY x.bal):Sts C (C.refused b x) 0 0 0:=by
 unfold Co.refused
 cases fdL x.inst C.leads with
 | none=>exact Sts.refl C
 | some j =>
  cases h:C.leads[j]? with
  | none=>simp only [Co.UP,h];exact Sts.refl C
  | some l =>
   simp only [Co.UP,h]
   split
   ·unfold Co.qvc
    exact (((Jx C x.inst).trans (SP ..)).trans (qvd _ _ _ hb _)).up (by omega) (by omega) (by omega)
   ·exact Sts.refl C
theorem HA(C:Co)(b:Nat)(x:Lt)(hn:1≤C.n):Sts C (C.take b x).1 1 C.n 1:=by
 have hr:Sts C C 1 C.n 1:=(Sts.refl C).up (by omega) (by omega) (by omega)
 unfold Co.take
 split
 ·exact hr
 rename_i hb
 have hx:x.right:=Classical.byContradiction λh=>hb (.inl h)
 split
 ·exact hr
 show Sts C (C.ZU b x) 1 C.n 1
 unfold Co.ZU
 split
 ·exact (qkX ..).up (by omega) (by omega) (by omega)
 split
 ·exact (qkI ..).up (by omega) (by omega) (by omega)
 split
 ·exact (PR C b x hx.2.2.2.2.2.2.1).up (by omega) (by omega) (by omega)
 ·exact Pb C x hx.2.1 hx.2.2.2.2.2.2.2.2.2.1.2.2.2.2.2.2.2.1
theorem Ca(C:Co)(x:Cmd):Sts C (C.wU x).1 1 C.n 1:=by
 have hr:Sts C C 1 C.n 1:=(Sts.refl C).up (by omega) (by omega) (by omega)
 unfold Co.wU
 split
 ·exact hr
 ·generalize zp C.xcut C.xl C.next x=a
  unfold Co.lz
  split
  ·have h1:=cW C C.next ⟨1,(0,0),(0,0),x,a,true⟩
   have h2:=gh (C.set C.next ⟨1,(0,0),(0,0),x,a,true⟩).1 (xd C.next 0 (0,0) true x a) (my ..)
   have hn:=h1.sz.n
   exact (h1.trans h2).up (by omega) (by omega) (by omega)
  ·exact hr
theorem qkZ{C:Co}(h:C.Ok)(i:Int×Int):(C.at i).cmd.right:=by
 unfold Co.at
 cases e:lkC i C.lg with
 | none=>exact .inl rfl
 | some c=>exact (h.lg _ (IB e)).2.2.2.2.2.2.2.2.1
theorem lH(C:Co)(i:Int×Int):Sts C (C.recover i).1 1 C.n 1:=by
 have hr:Sts C C 1 C.n 1:=(Sts.refl C).up (by omega) (by omega) (by omega)
 unfold Co.recover
 split
 ·exact hr
 ·unfold Co.nH
  have h1:=cW C i { C.at i with pr:=((C.bas i).1+1,(C.me:Nat)) }
  split
  ·split
   ·refine ⟨λh=>?_,?_⟩
    ·have h2:=gh (C.set i { C.at i with pr:=((C.bas i).1+1,(C.me:Nat)) }).1 (WK i C.me { C.at i with pr:=((C.bas i).1+1,(C.me:Nat)) }) (PU _ _ _ (qkZ h i))
     exact h2.ok (h1.ok h)
    ·have h2:Sz (C.set i { C.at i with pr:=((C.bas i).1+1,(C.me:Nat)) }).1 ((C.set i { C.at i with pr:=((C.bas i).1+1,(C.me:Nat)) }).1.kP (WK i C.me { C.at i with pr:=((C.bas i).1+1,(C.me:Nat)) })) 0 C.n 1:=by
      have hn:=h1.sz.n
      generalize (C.set i { C.at i with pr:=((C.bas i).1+1,(C.me:Nat)) }).1=C1 at *
      generalize WK i C.me { C.at i with pr:=((C.bas i).1+1,(C.me:Nat)) }=l
      have h3:=(Mj (C1.ZT l) l.ask l.ans).sz
      rw [show (C1.ZT l).n=C.n from hn] at h3
      have h4:Sz C1 (C1.ZT l) 0 0 1:=⟨by simp [Co.ZT,Co.zk],by simp [Co.ZT,Co.zk],by
       show (zq _ _ _).length≤_
       rw [xS _ _ _ (Iy ..)]
       have:=List.length_filter_le (λx=>!decide (x.id=l.id)) C1.leads
       show (C1.leads.filter _).length+1≤_
       omega,rfl,rfl,rfl,rfl⟩
      exact (h4.trans h3).up (by omega) (by omega) (by omega)
     exact (h1.sz.trans h2).up (by omega) (by omega) (by omega)
   ·exact h1.up (by omega) (by omega) (by omega)
  ·exact hr
theorem xZ{C:Co}(h:C.Ok):C.qh.Ok:=⟨h.n,h.me,h.xl,h.lg,h.wishes,h.lds,h.lnd,h.wnd,h.wt⟩
theorem Cs(n me:Nat)(cut:Dp)(hn:n=3∨n=5∨n=7)(hme:me < n):(Co.new n me cut).Ok:=⟨hn,hme,⟨by simp [Co.new]⟩,by simp [Co.new],by simp [Co.new],by simp [Co.new],by simp [Co.new],by simp [Co.new],by simp [Co.new]⟩
theorem Co.Ok.fit{C:Co}(h:C.Ok)(hr:C.recs.length≤100000)(ho:C.out.length≤900000)(hl:C.leads.length≤100000):C.Fit :=
 ⟨h.xl,by omega,hl,by have:=h.wishes;omega,by omega,by have:=h.n;omega,by have:=h.n;omega,λl hl=>(h.lds l hl).ok⟩
end Go.Fw
