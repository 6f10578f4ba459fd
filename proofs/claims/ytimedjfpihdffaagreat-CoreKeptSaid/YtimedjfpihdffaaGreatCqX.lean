import Derived.Test.YtimedjfpihdffaaGreatCpZ
set_option linter.unusedVariables false
set_option linter.unusedSimpArgs false
set_option maxHeartbeats 16000000
namespace Go.Fw
open Go.Proofs
variable {m m0 M:Mem} {S:List Nat} {L:List As}
variable {cb:Nat} {Y:Ly} {C:Co}
theorem qkq {vs:List Nat} {xs:List Wsh} {j:Nat} {v:Nat} {x:Wsh} (hv:vs[j]?=some v) (hx:xs[j]?=some x) (H:Hq m0 m S (wu vs xs::L)):Hq m0 m S (wsA v x::wu (vs.eraseIdx j) (xs.eraseIdx j)::L):=by
 have H:=Hq.ze (l:=List.zipWith wsA vs xs) H
 have H:=H.perm ((Vl wsA j vs xs v x hv hx).symm.append_right L)
 exact (Hq.xq (l:=List.zipWith wsA (vs.eraseIdx j) (xs.eraseIdx j)) (L:=wsA v x::L) (H.perm (List.perm_middle))).perm (List.Perm.swap ..)
theorem qja {vs:List Nat} {xs:List Wsh} {j:Nat} {v:Nat} {x:Wsh} (hv:vs[j]?=some v) (hx:j < xs.length) (H:Hq m0 m S (wsA v x::wu (vs.eraseIdx j) (xs.eraseIdx j)::L)):Hq m0 m S (wu vs (xs.set j x)::L):=by
 have H:=Hq.ze (l:=List.zipWith wsA (vs.eraseIdx j) (xs.eraseIdx j)) (H.perm (List.Perm.swap ..))
 have hp:=Vl wsA j vs (xs.set j x) v x hv (by simp [hx])
 rw [List.eraseIdx_set_eq] at hp
 exact Hq.xq (l:=List.zipWith wsA vs (xs.set j x)) (H.perm ((hp.append_right L).trans List.perm_middle.symm))
def coW (cb:Nat) (Y:Ly) (C:Co) (j:Nat):List As:=[wu (Y.wss.eraseIdx j) (C.wishes.eraseIdx j),qv cb (.cells (Y.c C).cs.toArray qG (0,0)),jT Y.lb Y.lr C.cut C.lg,xC Y.xb Y.xr C.xcut C.xl,qK qc 1 Y.lv Y.lds.length (Y.lds.flatMap fun v=>ptV v.b),qK qQ 1 Y.wv Y.wss.length (Y.wss.flatMap ptV),
 brA qC Y.rv Y.rs C.recs,qK qw 51 Y.ov C.out.length (C.out.flatMap Lt.cs),Qg Y.lds C.leads]
theorem NS {j:Nat} {v:Nat} {x:Wsh} (hv:Y.wss[j]?=some v) (hl:C.wishes[j]?=some x) (H:Hq m0 m S (coA cb Y C::L)):Hq m0 m S (wsA v x::qP (coW cb Y C j)::L):=by
 have H:=Hq.coS H
 have H:Hq m0 m S (wu Y.wss C.wishes::([qv cb (.cells (Y.c C).cs.toArray qG (0,0)),jT Y.lb Y.lr C.cut C.lg,xC Y.xb Y.xr C.xcut C.xl,qK qc 1 Y.lv Y.lds.length (Y.lds.flatMap fun v=>ptV v.b),qK qQ 1 Y.wv Y.wss.length (Y.wss.flatMap ptV),
  brA qC Y.rv Y.rs C.recs,qK qw 51 Y.ov C.out.length (C.out.flatMap Lt.cs),Qg Y.lds C.leads]++L)):=by
  refine H.perm ?_
  show List.Perm _ (_::_::_::_::_::_::_::Qg Y.lds C.leads::wu Y.wss C.wishes::L)
  exact (List.perm_middle (l₁:=[qv cb (.cells (Y.c C).cs.toArray qG (0,0)),jT Y.lb Y.lr C.cut C.lg,xC Y.xb Y.xr C.xcut C.xl,qK qc 1 Y.lv Y.lds.length (Y.lds.flatMap fun v=>ptV v.b),qK qQ 1 Y.wv Y.wss.length (Y.wss.flatMap ptV),brA qC Y.rv Y.rs C.recs,qK qw 51 Y.ov C.out.length (C.out.flatMap Lt.cs),Qg Y.lds C.leads]) (l₂:=L)).symm
 have H:=qkq hv hl H
 have H:Hq m0 m S (coW cb Y C j++(wsA v x::L)):=H.perm (List.perm_middle (l₁:=coW cb Y C j) (l₂:=L))
 exact (Hq.xq H).perm (List.Perm.swap ..)
def Co.xf (C:Co) (j:Nat) (x:Wsh):Co:={ C with wishes:=C.wishes.set j x }
theorem sR {j:Nat} {v:Nat} {x x':Wsh} (hv:Y.wss[j]?=some v) (hl:C.wishes[j]?=some x) (H:Hq m0 m S (wsA v x'::qP (coW cb Y C j)::L)):Hq m0 m S (coA cb Y (C.xf j x')::L):=by
 have H:=Hq.ze (H.perm (List.Perm.swap ..))
 have H:Hq m0 m S (wsA v x'::(coW cb Y C j++L)):=H.perm (List.perm_middle (l₁:=coW cb Y C j) (l₂:=L)).symm
 have H:=qja (vs:=Y.wss) (xs:=C.wishes) hv (List.getElem?_eq_some_iff.1 hl).1 H
 refine Hq.coJ (H.perm ?_)
 show List.Perm (qv cb _::jT _ _ _ _::xC _ _ _ _::qK _ _ _ _ _::qK _ _ _ _ _::brA _ _ _ _::qK _ _ _ _ _::Qg _ _::wu _ _::L) _
 exact List.perm_middle (l₁:=[qv cb (.cells (Y.c C).cs.toArray qG (0,0)),jT Y.lb Y.lr C.cut C.lg,xC Y.xb Y.xr C.xcut C.xl,qK qc 1 Y.lv Y.lds.length (Y.lds.flatMap fun v=>ptV v.b),qK qQ 1 Y.wv Y.wss.length (Y.wss.flatMap ptV),brA qC Y.rv Y.rs C.recs,qK qw 51 Y.ov C.out.length (C.out.flatMap Lt.cs),Qg Y.lds C.leads]) (l₂:=L)
theorem Cp (ho:Y.ok C) (j:Nat) (x:Wsh):Y.ok (C.xf j x):=⟨ho.lds,by simp [Co.xf,ho.wss],ho.wb⟩
def Wsh.UN (x:Wsh) (b:Int×Int):Wsh:={ x with ticks:=0,told:=if lt2 x.told b then b else x.told }
def Co.MK (C:Co) (i b:Int×Int):Option Nat→Co
 | none=>C
 | some j=>match C.wishes[j]? with
  | none=>C
  | some x=>C.xf j (x.UN b)
abbrev rfA:NC:=.seq KQ (.seq Ky (.cond (.qq 35) (.seq Kw (.seq Kv (.cond (.qq 45) Kk .skip))) .skip))
theorem qjD {C0:Co} {Y0:Ly} {b3 bw:Nat} {x:Lt} {D:Nat→Co} (hD:D bw=C.MK x.inst x.bal (fdW x.inst C.wishes)) (ho:Y.ok C) (hn:C.wishes.length≤100000)
  (H:Hq m M (coA cb Y0 C0).wp [qv b3 (.cells x.cs.toArray qw (0,0)),coA cb Y C]) :
  wpN Tryz.prog rfA (vL [] fun u M=>∃ A',(∃ b,CoR cb (D b) (.tuple #[]) u A')∧A'.p M∧Fr m M (coA cb Y0 C0).wp∧(∀ b∈A'.fp,b∈(coA cb Y0 C0).fp∨m b=none)∧∀ b∈A'.wp,b∈(coA cb Y0 C0).wp∨m b=none) [(0,lp cb),(3,lp b3)] M:=by
 have hlen:=ho.wss
 cases h2:fdW x.inst C.wishes with
 | none =>
  rw [h2] at hD
  have hD:D bw=C:=hD
  have hpt:ptW Y.wss none=.pointer none:=rfl
  simp (disch:=omega) only [go_sem,undef,H.cs]
  refine qY H (Vm (H.at 1 rfl) ho x.inst (by omega)) fun M f H=>?_
  rw [h2]
  simp (disch:=omega) only [go_sem,undef,H.cs,hpt,IS]
  exact XW bw qu (by rw [hD];exact ho) (by rw [hD];exact H.tail)
 | some j =>
  have hjl:=UU h2
  refine Exists.elim (⟨Y.wss[j]'(by omega),List.getElem?_eq_getElem (by omega)⟩:∃ v,Y.wss[j]?=some v) fun v hv=>?_
  refine Exists.elim (⟨C.wishes[j],List.getElem?_eq_getElem hjl⟩:∃ w,C.wishes[j]?=some w) fun w hw=>?_
  have hpt:ptW Y.wss (some j)=lp v:=by simp [ptW,hv]
  have hr:C.MK x.inst x.bal (some j)=C.xf j (w.UN x.bal):=by simp only [Co.MK,hw]
  rw [h2,hr] at hD
  clear hr
  simp (disch:=omega) only [go_sem,undef,H.cs]
  refine qY H (Vm (H.at 1 rfl) ho x.inst (by omega)) fun M f H=>?_
  rw [h2]
  have H:=NS hv hw (H.perm (List.Perm.swap ..))
  have H:Hq m M (coA cb Y0 C0).wp [qv v (.cells w.cs.toArray Kt (0,0)),qP (coW cb Y C j),qv b3 (.cells x.cs.toArray qw (0,0))]:=H
  simp (disch:=omega) only [go_sem,undef,H.cs,hpt,IR]
  refine zG H fun M f H=>?_
  simp (disch:=omega) only [go_sem,undef,H.cs]
  refine qY H (zn w.told x.bal _) fun M f H=>?_
  by_cases hb:lt2 w.told x.bal
  ·have e:w.UN x.bal={ w with ticks:=0,told:=x.bal }:=by unfold Wsh.UN;rw [if_pos hb]
   rw [e] at hD
   simp (disch:=omega) only [go_sem,undef,H.cs,qX hb]
   refine JQ H (Nat.le_of_ble_eq_true rfl) rfl fun M f H=>?_
   have H:Hq m M (coA cb Y0 C0).wp [wsA v { w with ticks:=0,told:=x.bal },qP (coW cb Y C j),qv b3 (.cells x.cs.toArray qw (0,0))]:=H
   have H:=sR hv hw H
   simp (disch:=omega) only [go_sem,undef]
   exact XW bw qu (by rw [hD];exact Cp ho ..) (by rw [hD];exact H.drop 1)
  ·have e:w.UN x.bal={ w with ticks:=0 }:=by unfold Wsh.UN;rw [if_neg hb]
   rw [e] at hD
   simp (disch:=omega) only [go_sem,undef,H.cs,qZ hb]
   have H:Hq m M (coA cb Y0 C0).wp [wsA v { w with ticks:=0 },qP (coW cb Y C j),qv b3 (.cells x.cs.toArray qw (0,0))]:=H
   have H:=sR hv hw H
   exact XW bw qu (by rw [hD];exact Cp ho ..) (by rw [hD];exact H.drop 1)
def Co.qkR (C:Co) (b:Nat) (i bal:Int×Int):Co:=((C.qU i).want b i).MK i bal (fdW i ((C.qU i).want b i).wishes)
def Co.PQ (C:Co) (b:Nat) (x:Lt):Option Nat→Co
 | none=>C
 | some j=>match C.leads[j]? with
  | none=>C
  | some l=>if lt2 l.bal x.bal then C.qkR b x.inst x.bal else C
def Co.refused (C:Co) (b:Nat) (x:Lt):Co:=C.PQ b x (fdL x.inst C.leads)
theorem MX:yL=.seq KV (.seq KK (.seq (.seq KX (.cond (.qq 21) .ret .skip)) (.seq KJ (.seq KZ rfA)))):=rfl
theorem qky (C:Co) (b:Nat) (i:Int×Int):(C.want b i).wishes.length≤C.wishes.length+1:=by
 unfold Co.want
 split
 ·show (zj C.wishes _ _).length≤_
  rw [kQ _ _ _ (Md ..)];omega
 ·omega
theorem Gj (h:(coA cb Y C).p m) (ho:Y.ok C) (x:Lt) (hn:C.leads.length≤100000) (hnw:C.wishes.length≤10000) :
  CM Tryz.prog im [lp cb,x.v] m (coA cb Y C) (fun u A=>∃ b,CoR cb (C.refused b x) (.tuple #[]) u A):=by
 have H:=Hq.one h
 refine fC (by simp [Tryz.f33]) ?_
 rw [MX]
 generalize hC:rfA=T
 have hww:∀ b,C.refused b x=C.PQ b x (fdL x.inst C.leads):=fun b=>rfl
 simp only [hww]
 clear hww
 cases hfd:fdL x.inst C.leads with
 | none =>
  have hpt:ptO Y.lds none=.pointer none:=rfl
  simp (disch:=omega) only [go_sem,undef]
  refine qh H fun b3 M f H=>?_
  simp (disch:=omega) only [go_sem,undef,H.cs]
  refine qY H (Xn (H.at 1 rfl) ho x.inst (by omega)) fun M f H=>?_
  rw [hfd]
  simp (disch:=omega) only [go_sem,undef,H.cs,hpt,Option.isNone_none]
  exact XW (C':=fun _=>C) 0 qu ho H.tail
 | some j =>
  have hjl:j < C.leads.length:=by
   unfold fdL at hfd
   rw [List.findIdx?_eq_some_iff_getElem] at hfd
   exact hfd.1
  have hlen:=ho.lds
  refine Exists.elim (⟨C.leads[j],List.getElem?_eq_getElem hjl⟩:∃ l,C.leads[j]?=some l) fun l hl=>?_
  refine Exists.elim (⟨Y.lds[j]'(by omega),List.getElem?_eq_getElem (by omega)⟩:∃ v,Y.lds[j]?=some v) fun v hv=>?_
  have hpt:ptO Y.lds (some j)=lp v.b:=by simp [ptO,hv]
  have hww:∀ b,C.PQ b x (some j)=if lt2 l.bal x.bal then C.qkR b x.inst x.bal else C:=fun b=>by simp only [Co.PQ,hl]
  simp only [hww]
  clear hww
  by_cases hlb:lt2 l.bal x.bal
  ·simp only [if_pos hlb]
   simp (disch:=omega) only [go_sem,undef]
   refine qh H fun b3 M f H=>?_
   simp (disch:=omega) only [go_sem,undef,H.cs]
   refine qY H (Xn (H.at 1 rfl) ho x.inst (by omega)) fun M f H=>?_
   rw [hfd]
   have hcl:=zz (zZ (zb (H.at 1 rfl)) hv hl)
   simp (disch:=omega) only [go_sem,undef,H.cs,hpt,Option.isNone_some,hcl,Ld.c]
   refine qY H (zn l.bal x.bal _) fun M f H=>?_
   simp (disch:=omega) only [go_sem,undef,H.cs,qX hlb,Bool.not_true]
   refine zq 1 H (Ji (H.at 1 rfl) ho x.inst (by omega)) rfl fun u M A' hR f H=>?_
   refine hR.E fun Y1 eu ho1 eA=>?_
   subst eu eA
   have H:Hq m M (coA cb Y C).wp [qv b3 (.cells x.cs.toArray qw (0,0)),coA cb Y1 (C.qU x.inst)]:=H
   simp (disch:=omega) only [go_sem,undef,H.cs]
   refine zq 1 H (AM (H.at 1 rfl) ho1 x.inst (Nat.le_trans hnw (by decide))) rfl fun u M A' hR f H=>?_
   refine Exists.elim hR fun bw hR=>?_
   refine hR.E fun Y2 eu ho2 eA=>?_
   subst eu eA
   have H:Hq m M (coA cb Y C).wp [qv b3 (.cells x.cs.toArray qw (0,0)),coA cb Y2 ((C.qU x.inst).want bw x.inst)]:=H
   simp (disch:=omega) only [go_sem,undef]
   subst hC
   have hwl:=qky (C.qU x.inst) bw x.inst
   have hnl:(C.qU x.inst).wishes.length=C.wishes.length:=rfl
   exact qjD (D:=fun b=>C.qkR b x.inst x.bal) (bw:=bw) rfl ho2 (by omega) H
  ·simp only [if_neg hlb]
   simp (disch:=omega) only [go_sem,undef]
   refine qh H fun b3 M f H=>?_
   simp (disch:=omega) only [go_sem,undef,H.cs]
   refine qY H (Xn (H.at 1 rfl) ho x.inst (by omega)) fun M f H=>?_
   rw [hfd]
   have hcl:=zz (zZ (zb (H.at 1 rfl)) hv hl)
   simp (disch:=omega) only [go_sem,undef,H.cs,hpt,Option.isNone_some,hcl,Ld.c]
   refine qY H (zn l.bal x.bal _) fun M f H=>?_
   simp (disch:=omega) only [go_sem,undef,H.cs,qZ hlb,Bool.not_false]
   exact XW (C':=fun _=>C) 0 qu ho H.tail
end Go.Fw
namespace Go.Fw
open Go.Proofs
variable {m m0 M:Mem} {S:List Nat} {L:List As}
variable {cb:Nat} {Y:Ly} {C:Co}
structure Co.Fit (C:Co):Prop where
 xl:wo C.xl
 recs:C.recs.length≤1000000
 leads:C.leads.length≤100000
 wishes:C.wishes.length≤10000
 out:C.out.length≤999000
 n7:C.n≤7
 n2:2≤C.n
 lds:∀ l∈C.leads,qKO l
abbrev dw (x:Lt):Prop:=x.kind=1∨x.kind=3∨x.kind=6
abbrev Co.gone (C:Co) (i:Int×Int):Prop:=qN i∧i.2≤C.cut.g i.1.toNat
abbrev Co.bars (C:Co) (x:Lt):Prop:=¬ x.right∨x.dst≠C.me∨¬ nQ C.n x.src∨x.kind≥9∨¬ nQ C.n x.inst.1
def Co.XE (C:Co) (b:Nat) (x:Lt):Co :=
 if dw x then C.asked x else if x.kind=5 then C.told x else if x.kind=8 then C.refused b x else C.kJ x
def Co.take (C:Co) (b:Nat) (x:Lt):Co×Bool :=
 if C.bars x then (C,false) else if C.gone x.inst then (C,decide (dw x)) else (C.XE b x,false)
abbrev tkC:NC:=.seq (.block 0 (.seq aZ (.cond (.qq 62) aQ (.seq ay (.cond (.qq 67) aw (.seq WU (.cond (.qq 74) WT WS)))))))  (.seq WR .ret)
theorem qJp {C0:Co} {Y0:Ly} {b3:Nat} {x:Lt} {D:Nat→Co×Bool} (hD:∀ b,D b=(C.XE b x,false)) (hf:C.Fit) (hx:x.right) (ho:Y.ok C)
  (H:Hq m M (coA cb Y0 C0).wp [qv b3 (.cells x.cs.toArray qw (0,0)),coA cb Y C]) :
  wpN Tryz.prog tkC (vL [.qq 4] fun u M=>∃ A',(∃ b,CoR cb (D b).1 (.bool (D b).2) u A')∧A'.p M∧Fr m M (coA cb Y0 C0).wp∧(∀ b∈A'.fp,b∈(coA cb Y0 C0).fp∨m b=none)∧∀ b∈A'.wp,b∈(coA cb Y0 C0).wp∨m b=none) [(0,lp cb),(3,lp b3),(5,.bool (decide (dw x)))] M:=by
 simp only [hD]
 have hsrc:=hx.2.1
 have hkey:=gy hx.2.2.2.2.2.2.2.1
 have hcel:=hx.2.2.2.2.2.2.2.2.2.1
 have hkc:=gy hcel.2.2.2.2.2.2.2.1
 by_cases ha:dw x
 ·have hp:∀ b,C.XE b x=C.asked x:=fun b=>if_pos ha
  simp only [hp]
  simp (disch:=omega) only [go_sem,undef,H.cs,qX ha]
  refine zq 1 H (NM (H.at 1 rfl) ho x hf.xl hkey hf.recs hf.leads hf.out) rfl fun u M A' hR f H=>?_
  refine hR.E fun Y2 eu ho2 eA=>?_
  subst eu eA
  simp (disch:=omega) only [go_sem,undef]
  exact XW (C':=fun _=>C.asked x) 0 qu ho2 H.tail
 by_cases h5:x.kind=5
 ·have hp:∀ b,C.XE b x=C.told x:=fun b=>by unfold Co.XE;rw [if_neg ha,if_pos h5]
  simp only [hp]
  simp (disch:=omega) only [go_sem,undef,H.cs,qZ ha,qX h5]
  refine zq 1 H (RP (H.at 1 rfl) ho x hf.recs hf.leads) rfl fun u M A' hR f H=>?_
  refine hR.E fun Y2 eu ho2 eA=>?_
  subst eu eA
  simp (disch:=omega) only [go_sem,undef]
  exact XW (C':=fun _=>C.told x) 0 qu ho2 H.tail
 by_cases h8:x.kind=8
 ·have hp:∀ b,C.XE b x=C.refused b x:=fun b=>by unfold Co.XE;rw [if_neg ha,if_neg h5,if_pos h8]
  simp only [hp]
  simp (disch:=omega) only [go_sem,undef,H.cs,qZ ha,qZ h5,qX h8]
  refine zq 1 H (Gj (H.at 1 rfl) ho x hf.leads hf.wishes) rfl fun u M A' hR f H=>?_
  refine Exists.elim hR fun bw hR=>?_
  refine hR.E fun Y2 eu ho2 eA=>?_
  subst eu eA
  simp (disch:=omega) only [go_sem,undef]
  exact XW (C':=fun b=>C.refused b x) bw qu ho2 H.tail
 ·have hp:∀ b,C.XE b x=C.kJ x:=fun b=>by unfold Co.XE;rw [if_neg ha,if_neg h5,if_neg h8]
  simp only [hp]
  simp (disch:=omega) only [go_sem,undef,H.cs,qZ ha,qZ h5,qZ h8]
  refine zq 1 H (Ch (H.at 1 rfl) ho x hsrc.1 hsrc.2 hf.xl hf.recs hf.leads hf.n7 hf.n2 hf.out hf.lds hkc) rfl fun u M A' hR f H=>?_
  refine hR.E fun Y2 eu ho2 eA=>?_
  subst eu eA
  simp (disch:=omega) only [go_sem,undef]
  exact XW (C':=fun _=>C.kJ x) 0 qu ho2 H.tail
abbrev tkB:NC:=.seq JH (.seq (.seq xK (.cond (.qq 57) (.seq xX .ret) .skip)) tkC)
theorem qJr {C0:Co} {Y0:Ly} {E:Env} {b3:Nat} {x:Lt} {D:Nat→Co×Bool} (hD:∀ b,D b=if C.gone x.inst then (C,decide (dw x)) else (C.XE b x,false)) (hf:C.Fit) (hx:x.right) (ho:Y.ok C)
  (H:Hq m M (coA cb Y0 C0).wp [qv b3 (.cells x.cs.toArray qw (0,0)),coA cb Y C])
  (e0:E.get 0=lp cb) (e3:E.get 3=lp b3) (h0:E.has 0=true) (h3:E.has 3=true) :
  wpN Tryz.prog tkB (vL [.qq 4] fun u M=>∃ A',(∃ b,CoR cb (D b).1 (.bool (D b).2) u A')∧A'.p M∧Fr m M (coA cb Y0 C0).wp∧(∀ b∈A'.fp,b∈(coA cb Y0 C0).fp∨m b=none)∧∀ b∈A'.wp,b∈(coA cb Y0 C0).wp∨m b=none) E M:=by
 have key:∀ (E1:Env),E1.get 0=lp cb→E1.get 3=lp b3→E1.get 5=.bool (decide (dw x))→E1.has 0=true→E1.has 3=true→E1.has 5=true →
   wpN Tryz.prog (.seq (.seq xK (.cond (.qq 57) (.seq xX .ret) .skip)) tkC) (vL [.qq 4] fun u M=>∃ A',(∃ b,CoR cb (D b).1 (.bool (D b).2) u A')∧A'.p M∧Fr m M (coA cb Y0 C0).wp∧(∀ b∈A'.fp,b∈(coA cb Y0 C0).fp∨m b=none)∧∀ b∈A'.wp,b∈(coA cb Y0 C0).wp∨m b=none) E1 M:=by
  intro E1 g0 g3 g5 k0 k3 k5
  generalize hC:tkC=T
  by_cases hg:C.gone x.inst
  ·have hD:∀ b,D b=(C,decide (dw x)):=fun b=>(hD b).trans (if_pos hg)
   simp only [hD]
   simp (disch:=omega) only [go_sem,undef,g0,g3,g5,k0,k3,k5,H.cs,qy (H.at 1 rfl),Ly.c]
   refine qY H (Xf (kP (H.at 1 rfl)) x.inst) fun M f H=>?_
   simp (disch:=omega) only [go_sem,undef,g0,g3,g5,k0,k3,k5,qX hg]
   exact XW (C':=fun _=>C) 0 qu ho H.tail
  ·have hD:∀ b,D b=(C.XE b x,false):=fun b=>(hD b).trans (if_neg hg)
   simp (disch:=omega) only [go_sem,undef,g0,g3,g5,k0,k3,k5,H.cs,qy (H.at 1 rfl),Ly.c]
   refine qY H (Xf (kP (H.at 1 rfl)) x.inst) fun M f H=>?_
   simp (disch:=omega) only [go_sem,undef,g0,g3,g5,k0,k3,k5,qZ hg]
   subst hC
   exact qJp hD hf hx ho H
 show wpN Tryz.prog (.seq JH (.seq (.seq xK (.cond (.qq 57) (.seq xX .ret) .skip)) tkC)) _ E M
 generalize hC:(NC.seq (.seq xK (.cond (.qq 57) (.seq xX .ret) .skip)) tkC)=T at *
 by_cases h1:x.kind=1
 ·simp (disch:=omega) only [go_sem,undef,e0,e3,h0,h3,H.cs,qX h1]
  exact key _ rfl rfl (by rw [qX (show dw x from .inl h1)];rfl) rfl rfl rfl
 by_cases hk3:x.kind=3
 ·simp (disch:=omega) only [go_sem,undef,e0,e3,h0,h3,H.cs,qZ h1,qX hk3]
  exact key _ rfl rfl (by rw [qX (show dw x from .inr (.inl hk3))];rfl) rfl rfl rfl
 by_cases h6:x.kind=6
 ·simp (disch:=omega) only [go_sem,undef,e0,e3,h0,h3,H.cs,qZ h1,qZ hk3,qX h6]
  exact key _ rfl rfl (by rw [qX (show dw x from .inr (.inr h6))];rfl) rfl rfl rfl
 ·simp (disch:=omega) only [go_sem,undef,e0,e3,h0,h3,H.cs,qZ h1,qZ hk3,qZ h6]
  exact key _ rfl rfl (by rw [qZ (show ¬ dw x from fun h=>h.elim h1 fun h=>h.elim hk3 h6)];rfl) rfl rfl rfl
theorem qjo:XA=.seq aK (.seq (.seq aX (.cond (.qq 37) (.seq aJ .ret) .skip)) tkB):=rfl
theorem AN (h:(coA cb Y C).p m) (ho:Y.ok C) (hf:C.Fit) (x:Lt) :
  CM Tryz.prog tE [lp cb,x.v] m (coA cb Y C) (fun u A=>∃ b,CoR cb (C.take b x).1 (.bool (C.take b x).2) u A):=by
 have H:=Hq.one h
 refine sG (by simp [Tryz.f33]) ?_
 rw [qjo]
 have hone:=fun M (hA:(coA cb Y C).p M) (r:Int)=>Gx hA r
 generalize hC:tkB=T
 by_cases hbar:C.bars x
 ·have hD:∀ b,C.take b x=(C,false):=fun b=>if_pos hbar
  simp only [hD]
  simp (disch:=omega) only [go_sem,undef]
  refine qh H fun b3 M f H=>?_
  simp (disch:=omega) only [go_sem,undef,H.cs]
  refine qY H (eN x _) fun M f H=>?_
  by_cases h1:x.right
  ·by_cases h2:x.dst=C.me
   ·simp (disch:=omega) only [go_sem,undef,H.cs,qX h1,Bool.not_true,qy (H.at 1 rfl),Ly.c,qZ (show ¬ x.dst≠C.me from fun h=>h h2)]
    refine qY H (hone _ (H.at 1 rfl) x.src) fun M f H=>?_
    by_cases h3:nQ C.n x.src
    ·by_cases h4:x.kind≥9
     ·simp (disch:=omega) only [go_sem,undef,H.cs,qX h3,Bool.not_true,qX h4]
      exact XW (C':=fun _=>C) 0 qu ho H.tail
     ·have h5:¬ nQ C.n x.inst.1:=by
       rcases hbar with h | h | h | h | h
       ·exact absurd h1 h
       ·exact absurd h2 h
       ·exact absurd h3 h
       ·exact absurd h h4
       ·exact h
      simp (disch:=omega) only [go_sem,undef,H.cs,qX h3,Bool.not_true,qZ h4]
      refine qY H (hone _ (H.at 1 rfl) x.inst.1) fun M f H=>?_
      simp (disch:=omega) only [go_sem,undef,H.cs,qZ h5,Bool.not_false]
      exact XW (C':=fun _=>C) 0 qu ho H.tail
    ·simp (disch:=omega) only [go_sem,undef,H.cs,qZ h3,Bool.not_false]
     exact XW (C':=fun _=>C) 0 qu ho H.tail
   ·simp (disch:=omega) only [go_sem,undef,H.cs,qX h1,Bool.not_true,qy (H.at 1 rfl),Ly.c,qX (show x.dst≠C.me from h2)]
    exact XW (C':=fun _=>C) 0 qu ho H.tail
  ·simp (disch:=omega) only [go_sem,undef,H.cs,qZ h1,Bool.not_false]
   exact XW (C':=fun _=>C) 0 qu ho H.tail
 ·have hD:∀ b,C.take b x=if C.gone x.inst then (C,decide (dw x)) else (C.XE b x,false):=fun b=>if_neg hbar
  have h1:x.right:=Classical.byContradiction fun h=>hbar (.inl h)
  have h2:¬ x.dst≠C.me:=fun h=>hbar (.inr (.inl h))
  have h3:nQ C.n x.src:=Classical.byContradiction fun h=>hbar (.inr (.inr (.inl h)))
  have h4:¬ x.kind≥9:=fun h=>hbar (.inr (.inr (.inr (.inl h))))
  have h5:nQ C.n x.inst.1:=Classical.byContradiction fun h=>hbar (.inr (.inr (.inr (.inr h))))
  simp (disch:=omega) only [go_sem,undef]
  refine qh H fun b3 M f H=>?_
  simp (disch:=omega) only [go_sem,undef,H.cs]
  refine qY H (eN x _) fun M f H=>?_
  simp (disch:=omega) only [go_sem,undef,H.cs,qX h1,Bool.not_true,qy (H.at 1 rfl),Ly.c,qZ h2]
  refine qY H (hone _ (H.at 1 rfl) x.src) fun M f H=>?_
  simp (disch:=omega) only [go_sem,undef,H.cs,qX h3,Bool.not_true,qZ h4]
  refine qY H (hone _ (H.at 1 rfl) x.inst.1) fun M f H=>?_
  simp (disch:=omega) only [go_sem,undef,H.cs,qX h5,Bool.not_true]
  subst hC
  exact qJr (D:=fun b=>C.take b x) hD hf h1 ho H rfl rfl rfl rfl
end Go.Fw
namespace Go.Fw
open Go.Proofs
variable {m m0 M:Mem} {S:List Nat} {L:List As}
variable {cb:Nat} {Y:Ly} {C:Co}
theorem Rj (b:Int×Int) (r:Int) (hb:b.1≤1000000000000) (hb0 : -1000000000000≤b.1) (m:Mem):MC Tryz.prog PH [pv b,.int .i64 r] m fun v m'=>v=pv (b.1+1,r)∧Fr m m' []:=by
 refine NQ (by simp [Tryz.f33]) ?_
 have H:=Hq.refl m []
 simp (disch:=omega) only [go_sem,undef]
 repeat' (first
  | ((first
   | (with_reducible first
    | refine qh H fun _ _ f H2=>?_
    | refine zG H fun _ f H2=>?_
    | refine Jv H fun _ f H2=>?_
    | refine yZ H fun _ f H2=>?_
    | refine Xb H fun _ f H2=>?_
    | refine Xa H fun _ f H2=>?_
    | refine XY H fun _ f H2=>?_)
   | ((with_reducible refine qs H ?hl ?h1 fun _ f H2=>?_);(case hl=>rfl);(case h1=>rfl))
   | ((with_reducible refine zQ H ?hl ?h1 fun _ f H2=>?_);(case hl=>rfl);(case h1=>rfl))
   | ((with_reducible refine jU H ?hl ?h1 fun _ f H2=>?_);(case hl=>rfl);(case h1=>rfl))
   | ((with_reducible refine xm H ?hl ?h1 fun _ f H2=>?_);(case hl=>rfl);(case h1=>rfl))
   | ((with_reducible refine xi H ?hl ?h1 fun _ f H2=>?_);(case hl=>rfl);(case h1=>rfl))
   | ((with_reducible refine xh H ?hl ?h1 fun _ f H2=>?_);(case hl=>rfl);(case h1=>rfl))
   | ((with_reducible refine JQ H ?hl ?h1 fun _ f H2=>?_);(case hl=>exact Nat.le_of_ble_eq_true rfl);(case h1=>rfl);(simp only [go_sem] at H2))
   | ((with_reducible refine Jy H ?hl ?h1 fun _ f H2=>?_);(case hl=>exact Nat.le_of_ble_eq_true rfl);(case h1=>rfl);(simp only [go_sem] at H2))
   | ((with_reducible refine Xd H ?hl ?h1 fun _ f H2=>?_);(case hl=>exact Nat.le_of_ble_eq_true rfl);(case h1=>rfl);(simp only [go_sem] at H2))
   | ((with_reducible refine Xc H ?hl ?h1 fun _ f H2=>?_);(case hl=>exact Nat.le_of_ble_eq_true rfl);(case h1=>rfl);(simp only [go_sem] at H2)));clear f;clear H;have H:=H2;clear H2;simp (disch:=omega) only [go_sem,undef,H.cs, *])
  | ((with_reducible refine qp (fun hq=>?_) (fun hq=>?_))<;>(try simp only [Bool.not_true,Bool.not_false] at hq)<;>simp (disch:=omega) only [go_sem,undef,H.cs, *])
  | ((with_reducible refine qe (fun hq=>?_) (fun hq=>?_))<;>simp (disch:=omega) only [go_sem,undef,H.cs, *]))
 all_goals exact ⟨rfl,H.fr⟩
def Co.qxO (C:Co) (p:Int×Int):Option Nat→Int×Int
 | none=>p
 | some j=>match C.wishes[j]? with
  | none=>p
  | some w=>if lt2 p w.told then w.told else p
def Co.bas (C:Co) (i:Int×Int):Int×Int:=C.qxO (C.at i).pr (fdW i C.wishes)
def XH (i:Int×Int) (me:Nat) (x:Cel):Ld:={ xa i 2 x.pr false Cmd.zero Att.zero with said:=[⟨(me:Nat),x⟩] }
def Co.mc (C:Co) (i:Int×Int) (x:Cel):Co×Bool :=
 if vI x.pr then (if (C.set i x).2=true then ((C.set i x).1.jl (XH i C.me x),true) else ((C.set i x).1,false)) else (C,false)
def Co.recover (C:Co) (i:Int×Int):Co×Bool :=
 if ¬ C.opn i∨(C.leads.length≥256∧fdL i C.leads=none) then (C,false) else C.mc i { C.at i with pr:=((C.bas i).1+1,(C.me:Nat)) }
theorem LdC.lay_s (c:LdC) (p:Int×Int) (w:Int) (b:Int×Int) (a:Option Addr) (n k:Nat):lay c.cs [(0,2),(2,1),(3,2),(29,1)] [.agg (pc p).toArray,.int .i64 w,.agg (pc b).toArray,.slice a n k]=some ({ c with id:=p,way:=w,bal:=b,sd:=.slice a n k }:LdC).cs:=rfl
attribute [go_sem] LdC.lay_s
theorem qJL {b b2:Nat} {i:Int×Int} {me:Nat} {x:Cel} (H:Hq m0 m S (qv b (.cells (LdC.mk i 2 x.pr false Cmd.zero Att.zero Dp.zero (.slice none 0 0) (.slice (some ⟨b2,0,none⟩) 1 1) 0 0).cs.toArray qM (0,0))::qv b2 (.cells (Sd.mk (me:Nat) x).cs.toArray qE (0,0))::L)) :
  Hq m0 m S (ldA ⟨b,.slice none 0 0,.slice (some ⟨b2,0,none⟩) 1 1⟩ (XH i me x)::L):=by
 have H:=(H.perm (List.Perm.swap ..)).OI 22 1 1 rfl (Nat.le_refl _)
 have H:=H.yD qb 8
 have H:Hq m0 m S ([qv b (.cells (LdC.mk i 2 x.pr false Cmd.zero Att.zero Dp.zero (.slice none 0 0) (.slice (some ⟨b2,0,none⟩) 1 1) 0 0).cs.toArray qM (0,0)),qK qb 8 (.slice none 0 0) 0 [],qK qE 22 (.slice (some ⟨b2,0,none⟩) 1 1) 1 (Sd.mk (me:Nat) x).cs]++L):=by
  exact H.perm (List.perm_middle (l₁:=[qK qb 8 (.slice none 0 0) 0 [],qK qE 22 (.slice (some ⟨b2,0,none⟩) 1 1) 1 (Sd.mk (me:Nat) x).cs]) (l₂:=L)).symm
 have e:(XH i me x).said.flatMap Sd.cs=(Sd.mk (me:Nat) x).cs:=by simp [XH]
 have H2:=Hq.xq H
 have hl:(XH i me x).said.length=1:=rfl
 unfold ldA
 rw [e,hl]
 exact H2
abbrev rcA:NC:=.seq Kd (.seq (.seq Kc (.cond (.qq 72) (.seq XV .ret) .skip)) (.seq XK (.seq XX .ret)))
theorem qkT {C0:Co} {Y0:Ly} {E:Env} {b3 b5 b7:Nat} {i p:Int×Int} {x:Cel} (ho:Y.ok C) (hp:p.1≤1000000000000) (hp0 : -1000000000000≤p.1) (hrec:C.recs.length≤1000000) (hn:C.leads.length≤100000) (hn7:C.n≤7) (hout:C.out.length≤999000)
  (H:Hq m M (coA cb Y0 C0).wp [qv b7 (.cells (pc p).toArray cB (0,0)),qv b5 (.cells x.cs.toArray qd (0,0)),qv b3 (.cells (pc i).toArray qa (0,0)),coA cb Y C])
  (e0:E.get 0=lp cb) (e3:E.get 3=lp b3) (e5:E.get 5=lp b5) (e7:E.get 7=lp b7) (h0:E.has 0=true) (h3:E.has 3=true) (h5:E.has 5=true) (h7:E.has 7=true) :
  wpN Tryz.prog rcA (vL [.qq 4] fun u M=>∃ A',CoR cb (C.mc i { x with pr:=(p.1+1,(C.me:Nat)) }).1 (.bool (C.mc i { x with pr:=(p.1+1,(C.me:Nat)) }).2) u A'∧A'.p M∧Fr m M (coA cb Y0 C0).wp∧(∀ b∈A'.fp,b∈(coA cb Y0 C0).fp∨m b=none)∧∀ b∈A'.wp,b∈(coA cb Y0 C0).wp∨m b=none) E M:=by
 simp (disch:=omega) only [go_sem,undef,e0,e3,e5,e7,h0,h3,h5,h7,H.cs,qy (H.at 3 rfl),Ly.c]
 refine qY H (Rj p (C.me:Nat) hp hp0 _) fun M f H=>?_
 simp (disch:=omega) only [go_sem,undef,e0,e3,e5,e7,h0,h3,h5,h7,H.cs,qy (H.at 3 rfl),Ly.c]
 refine Jy H (Nat.le_of_ble_eq_true rfl) rfl fun M f H=>?_
 have H:Hq m M (coA cb Y0 C0).wp [qv b7 (.cells (pc p).toArray cB (0,0)),qv b5 (.cells ({ x with pr:=(p.1+1,(C.me:Nat)) }:Cel).cs.toArray qd (0,0)),qv b3 (.cells (pc i).toArray qa (0,0)),coA cb Y C]:=H
 have hxp:({ x with pr:=(p.1+1,(C.me:Nat)) }:Cel).pr=(p.1+1,((C.me:Nat):Int)):=rfl
 generalize ({ x with pr:=(p.1+1,(C.me:Nat)) }:Cel)=y at *
 have hss:=xS C i y
 by_cases hr:vI y.pr
 ·have hp:C.mc i y=if (C.set i y).2=true then ((C.set i y).1.jl (XH i C.me y),true) else ((C.set i y).1,false):=if_pos hr
  rw [hp]
  simp (disch:=omega) only [go_sem,undef,e0,e3,e5,e7,h0,h3,h5,h7,H.cs]
  refine qY H (xP y.pr _) fun M f H=>?_
  simp (disch:=omega) only [go_sem,undef,e0,e3,e5,e7,h0,h3,h5,h7,H.cs,qX hr,Bool.not_true]
  refine zq 3 H (Xp (H.at 3 rfl) ho i y hrec) rfl fun u M A' hR f H=>?_
  refine hR.E fun Y1 eu ho1 eA=>?_
  subst eu eA
  clear hR hp
  have hme:(C.set i y).1.me=C.me:=hss.2.2.2
  generalize C.set i y=r at *
  obtain ⟨C1,ok⟩:=r
  have hme:C1.me=C.me:=hme
  have Hn:Hq m M (coA cb Y0 C0).wp [qv b7 (.cells (pc p).toArray cB (0,0)),qv b5 (.cells y.cs.toArray qd (0,0)),qv b3 (.cells (pc i).toArray qa (0,0)),coA cb Y1 C1]:=H
  clear H
  cases ok with
  | true =>
   have H:=Hn
   simp (disch:=omega) only [go_sem,undef,e0,e3,e5,e7,h0,h3,h5,h7,H.cs,Bool.not_true,qy (H.at 3 rfl),Ly.c,hme]
   refine qh H fun b10 M f H=>?_
   simp (disch:=omega) only [go_sem,undef,e0,e3,e5,e7,h0,h3,h5,h7,H.cs,qy (H.at 4 rfl),Ly.c,hme]
   refine qh H fun b12 M f H=>?_
   have H:=qJL H
   rw [hme] at H
   have H:Hq m M (coA cb Y0 C0).wp (ldA ⟨b12,.slice none 0 0,.slice (some ⟨b10,0,none⟩) 1 1⟩ (XH i C.me y)::coA cb Y1 C1::[]):=H.sel 5 [0,4] rfl (by decide) (by decide)
   have H:=Hq.join H
   simp (disch:=omega) only [go_sem,undef,e0,e3,e5,e7,h0,h3,h5,h7]
   refine jb H (cn (H.at 0 rfl) ho1 (Nat.le_trans (Nat.le_of_eq (congrArg List.length hss.1)) hn) (Nat.le_trans (Nat.le_of_eq hss.2.1) hn7) (Nat.le_trans (Nat.le_of_eq (congrArg List.length hss.2.2.1)) hout)) fun u M A' hR f H=>?_
   refine hR.E fun Y2 eu ho2 eA=>?_
   subst eu eA
   simp (disch:=omega) only [go_sem,undef]
   exact qT qu ho2 H
  | false =>
   have H:=Hn
   simp (disch:=omega) only [go_sem,undef,e0,e3,e5,e7,h0,h3,h5,h7,H.cs,Bool.not_false]
   exact qT qu ho1 H.tail.tail.tail
 ·have hp:C.mc i y=(C,false):=if_neg hr
  rw [hp]
  simp (disch:=omega) only [go_sem,undef,e0,e3,e5,e7,h0,h3,h5,h7,H.cs]
  refine qY H (xP y.pr _) fun M f H=>?_
  simp (disch:=omega) only [go_sem,undef,e0,e3,e5,e7,h0,h3,h5,h7,H.cs,qZ hr,Bool.not_false]
  exact qT qu ho H.tail.tail.tail
end Go.Fw
namespace Go.Fw
open Go.Proofs
variable {m m0 M:Mem} {S:List Nat} {L:List As}
variable {cb:Nat} {Y:Ly} {C:Co}
abbrev rcB:NC:=.seq we (.seq (.seq wY (.seq wW (.cond (.qq 50) wV .skip))) rcA)
theorem qZP {C0:Co} {Y0:Ly} {E:Env} {b3 b5:Nat} {i:Int×Int} {x:Cel} {p:Int×Int} (hpd:C.qxO x.pr (fdW i C.wishes)=p) (ho:Y.ok C) (hp:p.1≤1000000000000) (hp0 : -1000000000000≤p.1) (hrec:C.recs.length≤1000000) (hn:C.leads.length≤100000) (hnw:C.wishes.length≤10000) (hn7:C.n≤7) (hout:C.out.length≤999000)
  (H:Hq m M (coA cb Y0 C0).wp [qv b5 (.cells x.cs.toArray qd (0,0)),qv b3 (.cells (pc i).toArray qa (0,0)),coA cb Y C])
  (e0:E.get 0=lp cb) (e3:E.get 3=lp b3) (e5:E.get 5=lp b5) (h0:E.has 0=true) (h3:E.has 3=true) (h5:E.has 5=true) :
  wpN Tryz.prog rcB (vL [.qq 4] fun u M=>∃ A',CoR cb (C.mc i { x with pr:=(p.1+1,(C.me:Nat)) }).1 (.bool (C.mc i { x with pr:=(p.1+1,(C.me:Nat)) }).2) u A'∧A'.p M∧Fr m M (coA cb Y0 C0).wp∧(∀ b∈A'.fp,b∈(coA cb Y0 C0).fp∨m b=none)∧∀ b∈A'.wp,b∈(coA cb Y0 C0).wp∨m b=none) E M:=by
 have hlen:=ho.wss
 show wpN Tryz.prog (.seq we (.seq (.seq wY (.seq wW (.cond (.qq 50) wV .skip))) rcA)) _ E M
 generalize hC:rcA=T
 cases h2:fdW i C.wishes with
 | none =>
  rw [h2] at hpd
  have hpd:x.pr=p:=hpd
  have hpt:ptW Y.wss none=.pointer none:=rfl
  simp (disch:=omega) only [go_sem,undef,e0,e3,e5,h0,h3,h5,H.cs]
  refine qh H fun b7 M f H=>?_
  simp (disch:=omega) only [go_sem,undef,e0,e3,e5,h0,h3,h5,H.cs]
  refine qs H rfl rfl fun M f H=>?_
  simp (disch:=omega) only [go_sem,undef,e0,e3,e5,h0,h3,h5,H.cs]
  refine qY H (Vm (H.at 3 rfl) ho i (by omega)) fun M f H=>?_
  rw [h2]
  simp (disch:=omega) only [go_sem,undef,e0,e3,e5,h0,h3,h5,H.cs,hpt,IS]
  subst hC
  rw [hpd] at H
  exact qkT ho hp hp0 hrec hn hn7 hout H rfl rfl rfl rfl rfl rfl rfl rfl
 | some j =>
  have hjl:=UU h2
  refine Exists.elim (⟨Y.wss[j]'(by omega),List.getElem?_eq_getElem (by omega)⟩:∃ v,Y.wss[j]?=some v) fun v hv=>?_
  refine Exists.elim (⟨C.wishes[j],List.getElem?_eq_getElem hjl⟩:∃ w,C.wishes[j]?=some w) fun w hw=>?_
  have hpt:ptW Y.wss (some j)=lp v:=by simp [ptW,hv]
  have hpd:(if lt2 x.pr w.told then w.told else x.pr)=p:=by rw [h2] at hpd;simpa only [Co.qxO,hw] using hpd
  simp (disch:=omega) only [go_sem,undef,e0,e3,e5,h0,h3,h5,H.cs]
  refine qh H fun b7 M f H=>?_
  simp (disch:=omega) only [go_sem,undef,e0,e3,e5,h0,h3,h5,H.cs]
  refine qs H rfl rfl fun M f H=>?_
  simp (disch:=omega) only [go_sem,undef,e0,e3,e5,h0,h3,h5,H.cs]
  refine qY H (Vm (H.at 3 rfl) ho i (by omega)) fun M f H=>?_
  rw [h2]
  have hcw:=VY (bI (ot (H.at 3 rfl)) hv hw)
  simp (disch:=omega) only [go_sem,undef,e0,e3,e5,h0,h3,h5,H.cs,hpt,IR,hcw]
  refine qY H (zn x.pr w.told _) fun M f H=>?_
  have hcw:=VY (bI (ot (H.at 3 rfl)) hv hw)
  by_cases hb:lt2 x.pr w.told
  ·rw [if_pos hb] at hpd
   simp (disch:=omega) only [go_sem,undef,e0,e3,e5,h0,h3,h5,H.cs,hcw,qX hb]
   refine qs H rfl rfl fun M f H=>?_
   simp (disch:=omega) only [go_sem,undef,e0,e3,e5,h0,h3,h5]
   subst hC
   rw [hpd] at H
   exact qkT ho hp hp0 hrec hn hn7 hout H rfl rfl rfl rfl rfl rfl rfl rfl
  ·rw [if_neg hb] at hpd
   simp (disch:=omega) only [go_sem,undef,e0,e3,e5,h0,h3,h5,H.cs,hcw,qZ hb]
   subst hC
   rw [hpd] at H
   exact qkT ho hp hp0 hrec hn hn7 hout H rfl rfl rfl rfl rfl rfl rfl rfl
theorem MV:Qj=.seq Kg (.seq (.seq Kf (.cond (.qq 26) (.seq Ke .ret) .skip)) (.seq xV rcB)):=rfl
theorem Jm (h:(coA cb Y C).p m) (ho:Y.ok C) (i:Int×Int) (hb:(C.bas i).1≤1000000000000) (hb0 : -1000000000000≤(C.bas i).1) (hrec:C.recs.length≤1000000) (hn:C.leads.length≤100000) (hnw:C.wishes.length≤10000) (hn7:C.n≤7) (hout:C.out.length≤999000) :
  CM Tryz.prog io [lp cb,pv i] m (coA cb Y C) (CoR cb (C.recover i).1 (.bool (C.recover i).2)):=by
 have H:=Hq.one h
 have hlen:=ho.lds
 refine Own.zA (gw h) fun a c hv=>?_
 refine fG (by simp [Tryz.f33]) ?_
 rw [MV]
 generalize hC:rcB=T
 have hpd:C.qxO (C.at i).pr (fdW i C.wishes)=C.bas i:=rfl
 by_cases h1:C.opn i
 ·have hend:∀ (E1:Env),E1.get 0=lp cb→∀ b3,E1.get 3=lp b3→E1.has 0=true→E1.has 3=true→∀ M,Hq m M (coA cb Y C).wp [qv b3 (.cells (pc i).toArray qa (0,0)),coA cb Y C] →
    wpN Tryz.prog (.seq xV T) (vL [.qq 4] fun u M=>∃ A',CoR cb (C.mc i { C.at i with pr:=((C.bas i).1+1,(C.me:Nat)) }).1 (.bool (C.mc i { C.at i with pr:=((C.bas i).1+1,(C.me:Nat)) }).2) u A'∧A'.p M∧Fr m M (coA cb Y C).wp∧(∀ b∈A'.fp,b∈(coA cb Y C).fp∨m b=none)∧∀ b∈A'.wp,b∈(coA cb Y C).wp∨m b=none) E1 M:=by
   intro E1 g0 b3 g3 k0 k3 M H
   have hx:(lkC i C.lg).getD Cel.zero=C.at i:=rfl
   simp (disch:=omega) only [go_sem,undef,g0,g3,k0,k3,H.cs,qy (H.at 1 rfl),Ly.c]
   refine qI ?_ ?_
   ·simp (disch:=omega) only [go_sem,undef,g0,g3,k0,k3,H.cs,qy (H.at 1 rfl),Ly.c]
    refine qY H (zH (kP (H.at 1 rfl)) i) fun M f H=>?_
    rw [hx]
    simp (disch:=omega) only [go_sem,undef,g0,g3,k0,k3,H.cs,qy (H.at 1 rfl),Ly.c]
    refine qh H fun b5 M f H=>?_
    simp (disch:=omega) only [go_sem,undef,g0,g3,k0,k3,H.cs,qy (H.at 2 rfl),Ly.c]
    refine qs H rfl rfl fun M f H=>?_
    simp (disch:=omega) only [go_sem,undef,g0,g3,k0,k3]
    subst hC
    exact qZP hpd ho hb hb0 hrec hn hnw hn7 hout H rfl rfl rfl rfl rfl rfl
   ·simp (disch:=omega) only [go_sem,undef,g0,g3,k0,k3,H.cs,qy (H.at 1 rfl),Ly.c]
    refine qh H fun b5 M f H=>?_
    simp (disch:=omega) only [go_sem,undef,g0,g3,k0,k3,H.cs,qy (H.at 2 rfl),Ly.c]
    refine qY H (zH (kP (H.at 2 rfl)) i) fun M f H=>?_
    rw [hx]
    simp (disch:=omega) only [go_sem,undef,g0,g3,k0,k3,H.cs,qy (H.at 2 rfl),Ly.c]
    refine qs H rfl rfl fun M f H=>?_
    simp (disch:=omega) only [go_sem,undef,g0,g3,k0,k3]
    subst hC
    exact qZP hpd ho hb hb0 hrec hn hnw hn7 hout H rfl rfl rfl rfl rfl rfl
  generalize hC2:(NC.seq xV T)=T2 at *
  by_cases h3:C.leads.length≥256
  ·have hfo:(∃ j,fdL i C.leads=some j)∨fdL i C.leads=none:=by
    cases fdL i C.leads with
    | none=>exact .inr rfl
    | some j=>exact .inl ⟨j,rfl⟩
   rcases hfo with ⟨j,hf⟩ | hf
   ·have hp:C.recover i=C.mc i { C.at i with pr:=((C.bas i).1+1,(C.me:Nat)) }:=if_neg (fun h=>h.elim (fun h=>h h1) fun h=>by have:=h.2;rw [hf] at this;cases this)
    rw [hp]
    have hjl:j < C.leads.length:=by
     unfold fdL at hf
     rw [List.findIdx?_eq_some_iff_getElem] at hf
     exact hf.1
    refine Exists.elim (⟨Y.lds[j]'(by omega),List.getElem?_eq_getElem (by omega)⟩:∃ v,Y.lds[j]?=some v) fun v hvj=>?_
    have hpt:ptO Y.lds (some j)=lp v.b:=by simp [ptO,hvj]
    simp (disch:=omega) only [go_sem,undef]
    refine qh H fun b3 M f H=>?_
    simp (disch:=omega) only [go_sem,undef,H.cs]
    refine qY H (xQ (H.at 1 rfl) i) fun M f H=>?_
    simp (disch:=omega) only [go_sem,undef,H.cs,qX h1,Bool.not_true,qy (H.at 1 rfl),Ly.c,hv,qX (show ((Y.lds.length:Nat):Int)≥256 by omega)]
    refine qY H (Xn (H.at 1 rfl) ho i (by omega)) fun M f H=>?_
    rw [hf]
    simp (disch:=omega) only [go_sem,undef,H.cs,hpt,Option.isNone_some]
    exact hend _ rfl _ rfl rfl rfl _ H
   ·have hp:C.recover i=(C,false):=if_pos (.inr ⟨h3,hf⟩)
    rw [hp]
    have hpt:ptO Y.lds none=.pointer none:=rfl
    simp (disch:=omega) only [go_sem,undef]
    refine qh H fun b3 M f H=>?_
    simp (disch:=omega) only [go_sem,undef,H.cs]
    refine qY H (xQ (H.at 1 rfl) i) fun M f H=>?_
    simp (disch:=omega) only [go_sem,undef,H.cs,qX h1,Bool.not_true,qy (H.at 1 rfl),Ly.c,hv,qX (show ((Y.lds.length:Nat):Int)≥256 by omega)]
    refine qY H (Xn (H.at 1 rfl) ho i (by omega)) fun M f H=>?_
    rw [hf]
    simp (disch:=omega) only [go_sem,undef,H.cs,hpt,Option.isNone_none]
    exact qT qu ho H.tail
  ·have hp:C.recover i=C.mc i { C.at i with pr:=((C.bas i).1+1,(C.me:Nat)) }:=if_neg (fun h=>h.elim (fun h=>h h1) fun h=>h3 h.1)
   rw [hp]
   simp (disch:=omega) only [go_sem,undef]
   refine qh H fun b3 M f H=>?_
   simp (disch:=omega) only [go_sem,undef,H.cs]
   refine qY H (xQ (H.at 1 rfl) i) fun M f H=>?_
   simp (disch:=omega) only [go_sem,undef,H.cs,qX h1,Bool.not_true,qy (H.at 1 rfl),Ly.c,hv,qZ (show ¬ ((Y.lds.length:Nat):Int)≥256 by omega)]
   exact hend _ rfl _ rfl rfl rfl _ H
 ·have hp:C.recover i=(C,false):=if_pos (.inl h1)
  rw [hp]
  simp (disch:=omega) only [go_sem,undef]
  refine qh H fun b3 M f H=>?_
  simp (disch:=omega) only [go_sem,undef,H.cs]
  refine qY H (xQ (H.at 1 rfl) i) fun M f H=>?_
  simp (disch:=omega) only [go_sem,undef,H.cs,qZ h1,Bool.not_false]
  exact qT qu ho H.tail
end Go.Fw
namespace Go.Fw
open Go.Proofs
def qko (d:Dp):Int:=d 0+d 1+d 2+d 3+d 4+d 5+d 6
theorem qyW (d:Dp) (k:Nat) (x:Int) (h:k < 7):qko (Dp.up d k x)=qko d - d.g k+x:=by
 match k,h with
 | 0,_ =>
  show (if (0:Nat)=0 then x else d 0)+(if (1:Nat)=0 then x else d 1)+(if (2:Nat)=0 then x else d 2)+(if (3:Nat)=0 then x else d 3)+(if (4:Nat)=0 then x else d 4)+(if (5:Nat)=0 then x else d 5)+(if (6:Nat)=0 then x else d 6)=d 0+d 1+d 2+d 3+d 4+d 5+d 6 - d 0+x
  simp only [reduceCtorEq,Nat.reduceEqDiff,if_true,if_false,ite_true,ite_false]
  omega
 | 1,_ =>
  show (if (0:Nat)=1 then x else d 0)+(if (1:Nat)=1 then x else d 1)+(if (2:Nat)=1 then x else d 2)+(if (3:Nat)=1 then x else d 3)+(if (4:Nat)=1 then x else d 4)+(if (5:Nat)=1 then x else d 5)+(if (6:Nat)=1 then x else d 6)=d 0+d 1+d 2+d 3+d 4+d 5+d 6 - d 1+x
  simp only [reduceCtorEq,Nat.reduceEqDiff,if_true,if_false,ite_true,ite_false]
  omega
 | 2,_ =>
  show (if (0:Nat)=2 then x else d 0)+(if (1:Nat)=2 then x else d 1)+(if (2:Nat)=2 then x else d 2)+(if (3:Nat)=2 then x else d 3)+(if (4:Nat)=2 then x else d 4)+(if (5:Nat)=2 then x else d 5)+(if (6:Nat)=2 then x else d 6)=d 0+d 1+d 2+d 3+d 4+d 5+d 6 - d 2+x
  simp only [reduceCtorEq,Nat.reduceEqDiff,if_true,if_false,ite_true,ite_false]
  omega
 | 3,_ =>
  show (if (0:Nat)=3 then x else d 0)+(if (1:Nat)=3 then x else d 1)+(if (2:Nat)=3 then x else d 2)+(if (3:Nat)=3 then x else d 3)+(if (4:Nat)=3 then x else d 4)+(if (5:Nat)=3 then x else d 5)+(if (6:Nat)=3 then x else d 6)=d 0+d 1+d 2+d 3+d 4+d 5+d 6 - d 3+x
  simp only [reduceCtorEq,Nat.reduceEqDiff,if_true,if_false,ite_true,ite_false]
  omega
 | 4,_ =>
  show (if (0:Nat)=4 then x else d 0)+(if (1:Nat)=4 then x else d 1)+(if (2:Nat)=4 then x else d 2)+(if (3:Nat)=4 then x else d 3)+(if (4:Nat)=4 then x else d 4)+(if (5:Nat)=4 then x else d 5)+(if (6:Nat)=4 then x else d 6)=d 0+d 1+d 2+d 3+d 4+d 5+d 6 - d 4+x
  simp only [reduceCtorEq,Nat.reduceEqDiff,if_true,if_false,ite_true,ite_false]
  omega
 | 5,_ =>
  show (if (0:Nat)=5 then x else d 0)+(if (1:Nat)=5 then x else d 1)+(if (2:Nat)=5 then x else d 2)+(if (3:Nat)=5 then x else d 3)+(if (4:Nat)=5 then x else d 4)+(if (5:Nat)=5 then x else d 5)+(if (6:Nat)=5 then x else d 6)=d 0+d 1+d 2+d 3+d 4+d 5+d 6 - d 5+x
  simp only [reduceCtorEq,Nat.reduceEqDiff,if_true,if_false,ite_true,ite_false]
  omega
 | 6,_ =>
  show (if (0:Nat)=6 then x else d 0)+(if (1:Nat)=6 then x else d 1)+(if (2:Nat)=6 then x else d 2)+(if (3:Nat)=6 then x else d 3)+(if (4:Nat)=6 then x else d 4)+(if (5:Nat)=6 then x else d 5)+(if (6:Nat)=6 then x else d 6)=d 0+d 1+d 2+d 3+d 4+d 5+d 6 - d 6+x
  simp only [reduceCtorEq,Nat.reduceEqDiff,if_true,if_false,ite_true,ite_false]
  omega
structure ZE (l:Ld):Prop where
 ans:∀ i,l.ans i=0∨l.ans i=1
 cnt:l.count=qko l.ans
 reps:(l.reps.length:Int)≤l.count
 said:(l.said.length:Int)≤l.count+1
 keys:∀ s∈l.said,s.cel.cmd.right
theorem ZE.ok {l:Ld} (h:ZE l):qKO l:=by
 have h0:=h.ans 0
 have h1:=h.ans 1
 have h2:=h.ans 2
 have h3:=h.ans 3
 have h4:=h.ans 4
 have h5:=h.ans 5
 have h6:=h.ans 6
 have hc:=h.cnt
 have hr:=h.reps
 have hs:=h.said
 unfold qko at hc
 exact ⟨by omega,by omega,by omega,fun s hs=>gy (h.keys s hs)⟩
theorem nZ (i:Int×Int) (w:Int) (b:Int×Int) (f:Bool) (x:Cmd) (a:Att):ZE (xa i w b f x a) :=
 ⟨fun i=>.inl rfl,rfl,by simp [xa],by simp [xa],by simp [xa]⟩
theorem TT (i:Int×Int) (me:Nat) (x:Cel) (h:x.cmd.right):ZE (XH i me x) :=
 ⟨fun i=>.inl rfl,rfl,by simp [XH,xa],by simp [XH,xa],by simpa [XH] using h⟩
theorem UM {l:Ld} (h:ZE l) {k:Nat} (hk:k < 7) (h0:l.ans.g k=0):ZE (l.heard k)∧(l.heard k).reps.length+1≤(l.heard k).count∧(l.heard k).said.length≤(l.heard k).count:=by
 have hs:=qyW l.ans k 1 hk
 have hr:=h.reps
 have hsd:=h.said
 have hc:=h.cnt
 refine ⟨⟨fun i=>?_,?_,?_,?_,h.keys⟩,?_,?_⟩
 ·show Dp.up l.ans k 1 i=0∨Dp.up l.ans k 1 i=1
  unfold Dp.up
  by_cases hi:i.val=k
  ·rw [if_pos hi];exact .inr rfl
  ·rw [if_neg hi];exact h.ans i
 ·show l.count+1=qko (Dp.up l.ans k 1)
  omega
 ·show (l.reps.length:Int)≤l.count+1
  omega
 ·show (l.said.length:Int)≤l.count+1+1
  omega
 ·show (l.reps.length:Int)+1≤l.count+1
  omega
 ·show (l.said.length:Int)≤l.count+1
  omega
structure Co.Ok (C:Co):Prop where
 n:C.n=3∨C.n=5∨C.n=7
 me:C.me < C.n
 xl:wo C.xl
 lg:∀ p∈C.lg,qN p.1∧p.2.right
 wishes:C.wishes.length≤256
 lds:∀ l∈C.leads,ZE l
 lnd:(C.leads.map Ld.id).Nodup
 wnd:(C.wishes.map Wsh.id).Nodup
 wt:∀ w∈C.wishes,vI w.told
structure Sz (C C':Co) (r o l:Nat):Prop where
 recs:C'.recs.length≤C.recs.length+r
 out:C'.out.length≤C.out.length+o
 leads:C'.leads.length≤C.leads.length+l
 n:C'.n=C.n
 me:C'.me=C.me
 cut:C'.cut=C.cut
 xcut:C'.xcut=C.xcut
theorem Sz.refl (C:Co):Sz C C 0 0 0:=⟨by omega,by omega,by omega,rfl,rfl,rfl,rfl⟩
theorem Sz.trans {A B C:Co} {a b c a' b' c':Nat} (h:Sz A B a b c) (h':Sz B C a' b' c'):Sz A C (a+a') (b+b') (c+c') :=
 ⟨by have:=h.recs;have:=h'.recs;omega,by have:=h.out;have:=h'.out;omega,by have:=h.leads;have:=h'.leads;omega,h'.n.trans h.n,h'.me.trans h.me,h'.cut.trans h.cut,h'.xcut.trans h.xcut⟩
theorem Sz.up {A B:Co} {a b c a' b' c':Nat} (h:Sz A B a b c) (h1:a≤a') (h2:b≤b') (h3:c≤c'):Sz A B a' b' c' :=
 ⟨by have:=h.recs;omega,by have:=h.out;omega,by have:=h.leads;omega,h.n,h.me,h.cut,h.xcut⟩
structure Sts (C C':Co) (r o l:Nat):Prop where
 ok:C.Ok→C'.Ok
 sz:Sz C C' r o l
theorem Sts.refl (C:Co):Sts C C 0 0 0:=⟨id,Sz.refl C⟩
theorem Sts.trans {A B C:Co} {a b c a' b' c':Nat} (h:Sts A B a b c) (h':Sts B C a' b' c'):Sts A C (a+a') (b+b') (c+c'):=⟨fun k=>h'.ok (h.ok k),h.sz.trans h'.sz⟩
theorem Sts.up {A B:Co} {a b c a' b' c':Nat} (h:Sts A B a b c) (h1:a≤a') (h2:b≤b') (h3:c≤c'):Sts A B a' b' c':=⟨h.ok,h.sz.up h1 h2 h3⟩
theorem qJh {l:kR} (h:wo l) {cut:Dp} {k:Int×Int} {c:Cmd} {s:Int} (hm:ee cut k c s):wo (upN k ⟨c,s⟩ l):=by
 refine ⟨fun p hp=>?_⟩
 unfold upN at hp
 split at hp
 ·obtain ⟨q,hq,e⟩:=List.mem_map.1 hp
  split at e
  ·subst e;exact ⟨hm.1,hm.2.2.1,hm.2.2.2.1,hm.2.2.2.2⟩
  ·subst e;exact h.ok q hq
 ·rcases List.mem_append.1 hp with hp | hp
  ·exact h.ok p hp
  ·rw [List.mem_singleton] at hp;subst hp;exact ⟨hm.1,hm.2.2.1,hm.2.2.2.1,hm.2.2.2.2⟩
theorem qzB (C:Co) (i:Int×Int) (x:Cel):Sts C (C.note i x) 0 0 0:=by
 unfold Co.note
 split
 ·refine ⟨fun h=>⟨h.n,h.me,?_,h.lg,h.wishes,h.lds,h.lnd,h.wnd,h.wt⟩,⟨by simp,by simp,by simp,rfl,rfl,rfl,rfl⟩⟩
  show wo (if _ then _ else _)
  split
  ·rename_i hm;exact qJh h.xl hm
  ·exact h.xl
 ·exact Sts.refl C
theorem LL {k:Int×Int} {c:Cel} {l:yw} {p:(Int×Int)×Cel} (h:p∈upC k c l):p=(k,c)∨p∈l:=by
 unfold upC at h
 split at h
 ·obtain ⟨q,hq,e⟩:=List.mem_map.1 h
  split at e
  ·exact .inl e.symm
  ·subst e;exact .inr hq
 ·rcases List.mem_append.1 h with h | h
  ·exact .inr h
  ·exact .inl (List.mem_singleton.1 h)
theorem bT (C:Co) (i:Int×Int) (x:Cel):Sts C (C.set i x).1 1 0 0:=by
 unfold Co.set
 split
 ·rename_i hm
  have h2:Sts C { C with lg:=upC i x C.lg,recs:=C.recs++[Xe i x] } 1 0 0:=by
   refine ⟨fun h=>⟨h.n,h.me,h.xl,fun p hp=>?_,h.wishes,h.lds,h.lnd,h.wnd,h.wt⟩,⟨by simp,by simp,by simp,rfl,rfl,rfl,rfl⟩⟩
   rcases LL hp with e | e
   ·subst e;exact ⟨hm.1,hm.2.2.1⟩
   ·exact h.lg p e
  exact (h2.trans (qzB _ i x)).up (by omega) (by omega) (by omega)
 ·exact (Sts.refl C).up (by omega) (by omega) (by omega)
theorem Va (C:Co) (to:Int) (x:Lt):Sts C (C.send to x) 0 1 0:=⟨fun h=>⟨h.n,h.me,h.xl,h.lg,h.wishes,h.lds,h.lnd,h.wnd,h.wt⟩,⟨by simp [Co.send],by simp [Co.send],by simp [Co.send],rfl,rfl,rfl,rfl⟩⟩
theorem Og (C:Co) (x:Lt) (ans:Dp):∀ j,Sts C (C.JL x ans j) 0 j 0
 | 0=>Sts.refl C
 | j+1=>by
  unfold Co.JL
  split
  ·exact ((Og C x ans j).trans (Va _ j x)).up (by omega) (by omega) (by omega)
  ·exact (Og C x ans j).up (by omega) (by omega) (by omega)
theorem Of (C:Co) (x:Lt) (ans:Dp):Sts C (C.all x ans) 0 C.n 0:=Og C x ans C.n
theorem JV (C:Co) (i:Int×Int):Sts C (C.qU i) 0 0 0 :=
 ⟨fun h=>⟨h.n,h.me,h.xl,h.lg,h.wishes,fun l hl=>h.lds l (List.mem_filter.1 hl).1,h.lnd.sublist ((List.filter_sublist).map _),h.wnd,h.wt⟩,⟨by simp [Co.qU],by simp [Co.qU],List.length_filter_le ..,rfl,rfl,rfl,rfl⟩⟩
theorem fo {α:Type} {l:List α} {j:Nat} {x y:α} (h:y∈zj l j x):y=x∨y∈l:=List.mem_cons.1 ((aP l j x).subset h)
theorem qkn (C:Co) (x:Ld) (hx:ZE x):Sts C (C.Qw x) 0 0 1:=by
 have h2:Sts (C.qU x.id) (C.Qw x) 0 0 1:=by
  refine ⟨fun h=>⟨h.n,h.me,h.xl,h.lg,h.wishes,fun l hl=>?_,?_,h.wnd,h.wt⟩,⟨by simp [Co.Qw],by simp [Co.Qw],?_,rfl,rfl,rfl,rfl⟩⟩
  ·rcases fo hl with e | e
   ·subst e;exact hx
   ·exact h.lds l e
  ·have hp:=(aP (C.qU x.id).leads (dy x.id (C.qU x.id).leads) x).map Ld.id
   refine hp.nodup_iff.2 ?_
   rw [List.map_cons]
   refine List.nodup_cons.2 ⟨fun hm=>?_,h.lnd⟩
   obtain ⟨y,hy,e⟩:=List.mem_map.1 hm
   have:=(List.mem_filter.1 hy).2
   simp [e] at this
  ·show (zj _ _ _).length≤_
   rw [kQ _ _ _ (Me ..)];omega
 exact ((JV C x.id).trans h2).up (by omega) (by omega) (by omega)
theorem gJ (C:Co) (x:Ld) (hx:ZE x):Sts C (C.jl x) 0 C.n 1:=by
 have h:=Of (C.Qw x) x.ask x.ans
 rw [show (C.Qw x).n=C.n from rfl] at h
 exact ((qkn C x hx).trans h).up (by omega) (by omega) (by omega)
theorem Ax (C:Co) (i:Int×Int) (x:Cmd) (a:Att):Sts C (C.Qk i x a) 1 C.n 0:=by
 unfold Co.Qk Co.qwg
 have h1:=(JV C i).trans (bT (C.qU i) i ⟨3,((lkC i C.lg).getD Cel.zero).pr,((lkC i C.lg).getD Cel.zero).vo,x,a,false⟩)
 split
 ·have h2:=Of ((C.qU i).set i ⟨3,((lkC i C.lg).getD Cel.zero).pr,((lkC i C.lg).getD Cel.zero).vo,x,a,false⟩).1 { Lt.zero with kind:=5,inst:=i,cmd:=x,att:=a } Dp.zero
  have hn:=h1.sz.n
  exact (h1.trans h2).up (by omega) (by omega) (by omega)
 ·exact h1.up (by omega) (by omega) (by omega)
theorem AQ (C:Co) (l:Ld) (x:Cmd) (a:Att):Sts C (C.accept l x a) 1 C.n 1:=by
 unfold Co.accept
 have h1:=bT C l.id ⟨2,l.bal,l.bal,x,a,false⟩
 split
 ·split
  ·have h2:=gJ (C.set l.id ⟨2,l.bal,l.bal,x,a,false⟩).1 (xa l.id 1 l.bal false x a) (nZ ..)
   have hn:=h1.sz.n
   exact (h1.trans h2).up (by omega) (by omega) (by omega)
  ·exact (h1.trans (JV _ l.id)).up (by omega) (by omega) (by omega)
 ·exact (JV C l.id).up (by omega) (by omega) (by omega)
theorem qwH (C:Co) (l:Ld) (x:Cmd) (a:Att):Sts C (C.again l x a) 1 C.n 1:=by
 unfold Co.again Co.oB
 generalize xL a (zB C.xcut C.xl l.id x)=a
 have h1:=bT C l.id ⟨1,l.bal,l.bal,x,a,false⟩
 split
 ·split
  ·have h2:=gJ (C.set l.id ⟨1,l.bal,l.bal,x,a,false⟩).1 (xa l.id 0 l.bal false x a) (nZ ..)
   have hn:=h1.sz.n
   exact (h1.trans h2).up (by omega) (by omega) (by omega)
  ·exact (h1.trans (JV _ l.id)).up (by omega) (by omega) (by omega)
 ·exact (JV C l.id).up (by omega) (by omega) (by omega)
theorem OC (C:Co) (l:Ld) (late:Bool):Sts C (C.vF l late).1 1 C.n 1:=by
 unfold Co.vF Co.Ku
 split
 ·exact (Ax ..).up (by omega) (by omega) (by omega)
 split
 ·exact AQ ..
 ·exact (Sts.refl C).up (by omega) (by omega) (by omega)
theorem Pb (C:Co) (l:Ld):Sts C (C.Qe l) 1 C.n 1:=by
 unfold Co.Qe Co.YQ
 split
 ·exact (Ax ..).up (by omega) (by omega) (by omega)
 split
 ·exact AQ ..
 split
 ·exact AQ ..
 split
 ·exact qwH ..
 ·exact (Sts.refl C).up (by omega) (by omega) (by omega)
theorem nG {α β:Type} (f:α→β):∀ (l:List α) (j:Nat) (a x:α),l[j]?=some a→f x=f a→(l.set j x).map f=l.map f
 | [],_,_,_,h,_=>by simp at h
 | b::r,0,a,x,h,e=>by simp at h;subst h;simp [e]
 | b::r,j+1,a,x,h,e=>by
  have:=nG f r j a x (by simpa using h) e
  simp [this]
theorem MW (C:Co) (j:Nat) (l0 l:Ld) (h0:C.leads[j]?=some l0) (hid:l.id=l0.id) (hl:C.Ok→ZE l):Sts C (C.put j l) 0 0 0 :=
 ⟨fun h=>⟨h.n,h.me,h.xl,h.lg,h.wishes,fun y hy=>by
  rcases List.mem_or_eq_of_mem_set hy with e | e
  ·exact h.lds y e
  ·subst e;exact hl h,by show ((C.leads.set j l).map Ld.id).Nodup;rw [nG Ld.id C.leads j l0 l h0 hid];exact h.lnd,h.wnd,h.wt⟩,⟨by simp [Co.put],by simp [Co.put],by simp [Co.put],rfl,rfl,rfl,rfl⟩⟩
theorem qZD (C:Co) (j:Nat) (l:Ld) (x:Lt) (k:Nat) (hk:k < 7) (hl:C.leads[j]?=some l) (h0:l.ans.g k=0) (hx:x.cel.cmd.right):Sts C (C.tK j l x k) 1 C.n 1:=by
 have hg:C.Ok→ZE (l.heard k)∧(l.heard k).reps.length+1≤(l.heard k).count∧(l.heard k).said.length≤(l.heard k).count:=fun h=>UM (h.lds l (List.mem_of_getElem? hl)) hk h0
 unfold Co.tK
 split
 ·have h1:=MW C j l ((l.heard k).pk x.att) hl rfl fun h=>⟨(hg h).1.ans,(hg h).1.cnt,by have:=(hg h).2.1;simpa [Ld.pk] using this,(hg h).1.said,(hg h).1.keys⟩
  exact (h1.trans (OC _ _ false)).up (by omega) (by simp [Co.pZ]) (by omega)
 split
 ·have h1:=MW C j l (l.heard k) hl rfl fun h=>(hg h).1
  split
  ·exact (h1.trans (Ax ..)).up (by omega) (by simp [Co.pZ]) (by omega)
  ·exact h1.up (by omega) (by omega) (by omega)
 ·have h1:=MW C j l ((l.heard k).oT ⟨k,x.cel⟩) hl rfl fun h=>⟨(hg h).1.ans,(hg h).1.cnt,(hg h).1.reps,by have:=(hg h).2.2;simp [Ld.oT];exact this,fun s hs=>by
   rcases List.mem_append.1 (show s∈(l.heard k).said++[Sd.mk k x.cel] from hs) with e | e
   ·exact (hg h).1.keys s e
   ·rw [List.mem_singleton] at e;subst e;exact hx⟩
  exact (h1.trans (Pb _ _)).up (by omega) (by simp [Co.pZ]) (by omega)
theorem Ta (C:Co) (x:Lt) (hk:0≤x.src∧x.src < 7) (hx:x.cel.cmd.right):Sts C (C.kJ x) 1 C.n 1:=by
 have hr:Sts C C 1 C.n 1:=(Sts.refl C).up (by omega) (by omega) (by omega)
 unfold Co.kJ
 cases fdL x.inst C.leads with
 | none=>exact hr
 | some j =>
  cases hl:C.leads[j]? with
  | none=>simpa only [Co.Tb,hl] using hr
  | some l =>
   simp only [Co.Tb,hl]
   split
   ·exact hr
   ·rename_i h0
    split
    ·exact hr
    ·refine qZD C j l x _ (by omega) hl (Classical.byContradiction fun h=>h0 (.inr h)) hx
end Go.Fw
namespace Go.Fw
open Go.Proofs
theorem qXi (C:Co) (x:Lt) (c:Cel) (own:Bool):Sts C (C.pre x c own) 1 1 0:=by
 have hr:Sts C C 1 1 0:=(Sts.refl C).up (by omega) (by omega) (by omega)
 unfold Co.pre
 split
 ·split
  ·exact (Va ..).up (by omega) (by omega) (by omega)
  ·exact hr
 ·generalize xL x.att (zB C.xcut C.xl x.inst x.cmd)=a
  unfold Co.Hv
  have h1:=bT C x.inst ⟨1,x.bal,x.bal,x.cmd,a,decide (x.bal=(0,0)∧a=x.att)⟩
  split
  ·split
   ·exact (h1.trans (Va ..)).up (by omega) (by omega) (by omega)
   ·exact h1.up (by omega) (by omega) (by omega)
  ·exact hr
theorem qZF (C:Co) (x:Lt) (done:Bool):Sts C (C.Ir x done) 1 1 0:=by
 unfold Co.Ir
 have h1:=bT C x.inst ⟨2,x.bal,x.bal,x.cmd,x.att,false⟩
 split
 ·exact (Va ..).up (by omega) (by omega) (by omega)
 split
 ·exact (h1.trans (Va ..)).up (by omega) (by omega) (by omega)
 ·exact h1.up (by omega) (by omega) (by omega)
theorem qyU (C:Co) (x:Lt) (c:Cel):Sts C (C.Hx x c) 1 1 0:=by
 unfold Co.Hx
 have h1:=bT C x.inst { c with pr:=x.bal }
 split
 ·exact (Va ..).up (by omega) (by omega) (by omega)
 split
 ·exact (h1.trans (Va ..)).up (by omega) (by omega) (by omega)
 ·exact h1.up (by omega) (by omega) (by omega)
theorem qZt (C:Co) (x:Lt) (c:Cel) (own:Bool):Sts C (C.tJ x c own) 1 1 0:=by
 unfold Co.tJ
 split
 ·exact qXi ..
 split
 ·exact qZF ..
 split
 ·exact qyU ..
 ·exact (Sts.refl C).up (by omega) (by omega) (by omega)
theorem qjY (C:Co) (i b:Int×Int):Sts C (C.bH i b) 0 0 0:=by
 unfold Co.bH
 repeat' split
 all_goals first
  | exact JV ..
  | exact Sts.refl C
theorem qwE (C:Co) (x:Lt):Sts C (C.asked x) 1 1 0:=by
 unfold Co.asked Co.Od
 split
 ·exact (Va ..).up (by omega) (by omega) (by omega)
 split
 ·exact (Va ..).up (by omega) (by omega) (by omega)
 ·exact ((qjY C x.inst x.bal).trans (qZt ..)).up (by omega) (by omega) (by omega)
theorem qyK (C:Co) (x:Lt):Sts C (C.told x) 1 0 0:=by
 unfold Co.told Co.IB
 split
 ·exact (Sts.refl C).up (by omega) (by omega) (by omega)
 ·exact ((JV C x.inst).trans (bT ..)).up (by omega) (by omega) (by omega)
theorem qzx (C:Co) (b:Nat) (i:Int×Int):Sts C (C.want b i) 0 0 0:=by
 unfold Co.want
 split
 ·rename_i hw
  refine ⟨fun h=>⟨h.n,h.me,h.xl,h.lg,?_,h.lds,h.lnd,?_,fun w hm=>?_⟩,⟨by simp,by simp,by simp,rfl,rfl,rfl,rfl⟩⟩
  ·show (zj C.wishes _ _).length≤_
   rw [kQ _ _ _ (Md ..)]
   have:=hw.2.2
   omega
  ·have hp:=(aP C.wishes (ai i C.wishes) ⟨i,0,(0,0)⟩).map Wsh.id
   refine hp.nodup_iff.2 ?_
   rw [List.map_cons]
   refine List.nodup_cons.2 ⟨fun hm=>?_,h.wnd⟩
   obtain ⟨y,hy,e⟩:=List.mem_map.1 hm
   have hf:=hw.2.1
   unfold fdW at hf
   rw [List.findIdx?_eq_none_iff] at hf
   have:=hf y hy
   simp [e] at this
  ·rcases fo hm with e | e
   ·subst e;exact (show vI (0,0) by decide)
   ·exact h.wt w e
 ·exact Sts.refl C
theorem Cn (C:Co) (j:Nat) (x0 x:Wsh) (h0:C.wishes[j]?=some x0) (hid:x.id=x0.id) (ht:vI x0.told→vI x.told):Sts C (C.xf j x) 0 0 0 :=
 ⟨fun h=>⟨h.n,h.me,h.xl,h.lg,by have:=h.wishes;simpa [Co.xf] using this,h.lds,h.lnd,by show ((C.wishes.set j x).map Wsh.id).Nodup;rw [nG Wsh.id C.wishes j x0 x h0 hid];exact h.wnd,fun w hw=>by
  rcases List.mem_or_eq_of_mem_set hw with e | e
  ·exact h.wt w e
  ·subst e;exact ht (h.wt x0 (List.mem_of_getElem? h0))⟩,⟨by simp [Co.xf],by simp [Co.xf],by simp [Co.xf],rfl,rfl,rfl,rfl⟩⟩
theorem qyA (C:Co) (i b:Int×Int) (hb:vI b) (o:Option Nat):Sts C (C.MK i b o) 0 0 0:=by
 cases o with
 | none=>exact Sts.refl C
 | some j =>
  cases h:C.wishes[j]? with
  | none=>simp only [Co.MK,h];exact Sts.refl C
  | some x =>
   simp only [Co.MK,h]
   exact Cn C j x _ h rfl fun hr=>by
    unfold Wsh.UN
    show vI (if lt2 x.told b then b else x.told)
    split
    ·exact hb
    ·exact hr
theorem TR (C:Co) (b:Nat) (x:Lt) (hb:vI x.bal):Sts C (C.refused b x) 0 0 0:=by
 unfold Co.refused
 cases fdL x.inst C.leads with
 | none=>exact Sts.refl C
 | some j =>
  cases h:C.leads[j]? with
  | none=>simp only [Co.PQ,h];exact Sts.refl C
  | some l =>
   simp only [Co.PQ,h]
   split
   ·unfold Co.qkR
    exact (((JV C x.inst).trans (qzx ..)).trans (qyA _ _ _ hb _)).up (by omega) (by omega) (by omega)
   ·exact Sts.refl C
theorem oI (C:Co) (b:Nat) (x:Lt) (hn:1≤C.n):Sts C (C.take b x).1 1 C.n 1:=by
 have hr:Sts C C 1 C.n 1:=(Sts.refl C).up (by omega) (by omega) (by omega)
 unfold Co.take
 split
 ·exact hr
 rename_i hb
 have hx:x.right:=Classical.byContradiction fun h=>hb (.inl h)
 split
 ·exact hr
 show Sts C (C.XE b x) 1 C.n 1
 unfold Co.XE
 split
 ·exact (qwE ..).up (by omega) (by omega) (by omega)
 split
 ·exact (qyK ..).up (by omega) (by omega) (by omega)
 split
 ·exact (TR C b x hx.2.2.2.2.2.2.1).up (by omega) (by omega) (by omega)
 ·exact Ta C x hx.2.1 hx.2.2.2.2.2.2.2.2.2.1.2.2.2.2.2.2.2.1
theorem mE (C:Co) (x:Cmd):Sts C (C.zm x).1 1 C.n 1:=by
 have hr:Sts C C 1 C.n 1:=(Sts.refl C).up (by omega) (by omega) (by omega)
 unfold Co.zm
 split
 ·exact hr
 ·generalize zB C.xcut C.xl C.next x=a
  unfold Co.cD
  split
  ·have h1:=bT C C.next ⟨1,(0,0),(0,0),x,a,true⟩
   have h2:=gJ (C.set C.next ⟨1,(0,0),(0,0),x,a,true⟩).1 (xa C.next 0 (0,0) true x a) (nZ ..)
   have hn:=h1.sz.n
   exact (h1.trans h2).up (by omega) (by omega) (by omega)
  ·exact hr
theorem qwC {C:Co} (h:C.Ok) (i:Int×Int):(C.at i).cmd.right:=by
 unfold Co.at
 cases e:lkC i C.lg with
 | none=>exact .inl rfl
 | some c=>exact (h.lg _ (Cu e)).2.2.2.2.2.2.2.2.1
theorem Vp (C:Co) (i:Int×Int):Sts C (C.recover i).1 1 C.n 1:=by
 have hr:Sts C C 1 C.n 1:=(Sts.refl C).up (by omega) (by omega) (by omega)
 unfold Co.recover
 split
 ·exact hr
 ·unfold Co.mc
  have h1:=bT C i { C.at i with pr:=((C.bas i).1+1,(C.me:Nat)) }
  split
  ·split
   ·refine ⟨fun h=>?_,?_⟩
    ·have h2:=gJ (C.set i { C.at i with pr:=((C.bas i).1+1,(C.me:Nat)) }).1 (XH i C.me { C.at i with pr:=((C.bas i).1+1,(C.me:Nat)) }) (TT _ _ _ (qwC h i))
     exact h2.ok (h1.ok h)
    ·have h2:Sz (C.set i { C.at i with pr:=((C.bas i).1+1,(C.me:Nat)) }).1 ((C.set i { C.at i with pr:=((C.bas i).1+1,(C.me:Nat)) }).1.jl (XH i C.me { C.at i with pr:=((C.bas i).1+1,(C.me:Nat)) })) 0 C.n 1:=by
      have hn:=h1.sz.n
      generalize (C.set i { C.at i with pr:=((C.bas i).1+1,(C.me:Nat)) }).1=C1 at *
      generalize XH i C.me { C.at i with pr:=((C.bas i).1+1,(C.me:Nat)) }=l
      have h3:=(Of (C1.Qw l) l.ask l.ans).sz
      rw [show (C1.Qw l).n=C.n from hn] at h3
      have h4:Sz C1 (C1.Qw l) 0 0 1:=⟨by simp [Co.Qw,Co.qU],by simp [Co.Qw,Co.qU],by
       show (zj _ _ _).length≤_
       rw [kQ _ _ _ (Me ..)]
       have:=List.length_filter_le (fun x=>!decide (x.id=l.id)) C1.leads
       show (C1.leads.filter _).length+1≤_
       omega,rfl,rfl,rfl,rfl⟩
      exact (h4.trans h3).up (by omega) (by omega) (by omega)
     exact (h1.sz.trans h2).up (by omega) (by omega) (by omega)
   ·exact h1.up (by omega) (by omega) (by omega)
  ·exact hr
theorem xR {C:Co} (h:C.Ok):C.qA.Ok:=⟨h.n,h.me,h.xl,h.lg,h.wishes,h.lds,h.lnd,h.wnd,h.wt⟩
theorem UX (n me:Nat) (cut:Dp) (hn:n=3∨n=5∨n=7) (hme:me < n):(Co.new n me cut).Ok:=⟨hn,hme,⟨by simp [Co.new]⟩,by simp [Co.new],by simp [Co.new],by simp [Co.new],by simp [Co.new],by simp [Co.new],by simp [Co.new]⟩
theorem Co.Ok.fit {C:Co} (h:C.Ok) (hr:C.recs.length≤100000) (ho:C.out.length≤900000) (hl:C.leads.length≤100000):C.Fit :=
 ⟨h.xl,by omega,hl,by have:=h.wishes;omega,by omega,by have:=h.n;omega,by have:=h.n;omega,fun l hl=>(h.lds l hl).ok⟩
end Go.Fw
