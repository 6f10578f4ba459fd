import Derived.Test.YtimedjfpihdffaaGreatCqX
import Derived.Test.YtimedjfpihdffaaGreatCpZ
set_option linter.unusedVariables false
set_option linter.unusedSimpArgs false
set_option maxHeartbeats 16000000
namespace Go.Fw
open Go.Proofs
variable {m m0 M:Mem} {S:List Nat} {L:List As}
theorem qxP{v:Value}{l:List LdV}(h:RdS 1 pL m v l)(hn:l.length≤1000000):CN Tryz.prog QS [v] m λu A=>∃ a c,u=.slice a l.length c∧A=qV qd 1 (.slice a l.length c) l.length (l.flatMap pL):=by
 obtain ⟨a,c,rfl⟩:=h.form
 refine QW (by simp [Tryz.f33]) ?_
 have H:=Hq.refl m []
 cases a with
 | none =>
  have hl:l=[]:=by
   cases l with
   | nil=>rfl
   | cons x r =>
    obtain ⟨_,_,h4,_⟩:=h.at (i:=0) (by simp) (by decide)
    cases h4
  subst hl
  simp (disch:=omega) only [go_sem,undef,Option.isNone_none]
  have H:=H.QP qd 1
  exact ⟨_,⟨none,0,rfl,rfl⟩,H.hs.1,H.fr,λb hb=>by simp [qG] at hb⟩
 | some a =>
  simp (disch:=omega) only [go_sem,undef,Option.isNone_some]
  refine qg H λb M f H=>?_
  have H:=H.Mf 1 0 0 rfl (Nat.le_refl _)
  have hr:=h.frame H.fr
  simp (disch:=omega) only [go_sem,undef]
  refine Hd H (k:=l.length) (news:=l.flatMap pL) rfl (cC hr) (xQ (enc:=pL) (k:=1) (λ_=>rfl) l) (λw hw=>by
   obtain ⟨y,_,hy⟩:=List.mem_flatMap.1 hw
   simp only [List.mem_cons,List.not_mem_nil,or_false] at hy
   subst hy;rfl) rfl (by omega) (by omega) λw M f H=>?_
  refine Own.zC (H.at 0 rfl) λa4 c4 e=>?_
  rw [Nat.zero_add] at e H
  subst e
  simp (disch:=omega) only [go_sem,undef]
  have H:Hq m M [] [qV qd 1 (.slice a4 l.length c4) l.length (l.flatMap pL)]:=H
  refine ⟨_,⟨a4,c4,rfl,rfl⟩,H.hs.1,H.fr,λb hb=>?_⟩
  exact (H.nw _ (List.mem_cons_self ..) b hb).resolve_right (by simp)
theorem qxO{v:Value}{l:List Nat}(h:RdS 1 ptV m v l)(hn:l.length≤1000000):CN Tryz.prog QR [v] m λu A=>∃ a c,u=.slice a l.length c∧A=qV qQ 1 (.slice a l.length c) l.length (l.flatMap ptV):=by
 obtain ⟨a,c,rfl⟩:=h.form
 refine QZ (by simp [Tryz.f33]) ?_
 have H:=Hq.refl m []
 cases a with
 | none =>
  have hl:l=[]:=by
   cases l with
   | nil=>rfl
   | cons x r =>
    obtain ⟨_,_,h4,_⟩:=h.at (i:=0) (by simp) (by decide)
    cases h4
  subst hl
  simp (disch:=omega) only [go_sem,undef,Option.isNone_none]
  have H:=H.QP qQ 1
  exact ⟨_,⟨none,0,rfl,rfl⟩,H.hs.1,H.fr,λb hb=>by simp [qG] at hb⟩
 | some a =>
  simp (disch:=omega) only [go_sem,undef,Option.isNone_some]
  refine qg H λb M f H=>?_
  have H:=H.Mf 1 0 0 rfl (Nat.le_refl _)
  have hr:=h.frame H.fr
  simp (disch:=omega) only [go_sem,undef]
  refine Hd H (k:=l.length) (news:=l.flatMap ptV) rfl (cC hr) (xQ (enc:=ptV) (k:=1) (λ_=>rfl) l) (λw hw=>by
   obtain ⟨y,_,hy⟩:=List.mem_flatMap.1 hw
   simp only [List.mem_cons,List.not_mem_nil,or_false] at hy
   subst hy;rfl) rfl (by omega) (by omega) λw M f H=>?_
  refine Own.zC (H.at 0 rfl) λa4 c4 e=>?_
  rw [Nat.zero_add] at e H
  subst e
  simp (disch:=omega) only [go_sem,undef]
  have H:Hq m M [] [qV qQ 1 (.slice a4 l.length c4) l.length (l.flatMap ptV)]:=H
  refine ⟨_,⟨a4,c4,rfl,rfl⟩,H.hs.1,H.fr,λb hb=>?_⟩
  exact (H.nw _ (List.mem_cons_self ..) b hb).resolve_right (by simp)
end Go.Fw
namespace Go.Fw
open Go.Proofs
variable {m m0 M:Mem} {S:List Nat} {L:List As}
variable {cb:Nat} {Y:Ly} {C:Co}
def Ld.tick(l:Ld):Ld:={ l with ticks:=l.ticks+1 }
def Co.iG(C:Co)(p:Nat)(l:Ld):Co :=
 if l.ticks.tmod 4≠0 then C.put p l
 else if l.way=0∧((C.put p l).xp l true).2=true then ((C.put p l).xp l true).1
 else (C.put p l).all l.ask l.ans
def Co.YW(C:Co)(i:Int×Int):Co:=match fdL i C.leads with
 | none=>C
 | some p=>match C.leads[p]? with
  | none=>C
  | some l=>C.iG p l.tick
theorem qJq{l:List Ld}(hn:(l.map Ld.id).Nodup){p:Nat}{x:Ld}(hx:l[p]?=some x):fdL x.id l=some p:=by
 refine TA (λt y ht hy e=>?_) hx rfl
 have hp:=(List.getElem?_eq_some_iff.1 hx).1
 have h1:(l.map Ld.id)[t]?=some x.id:=by rw [List.getElem?_map,hy];simp [e]
 have h2:(l.map Ld.id)[p]?=some x.id:=by rw [List.getElem?_map,hx];rfl
 have:=(List.getElem?_inj (by simpa using (show t < l.length by omega)) hn).1 (h1.trans h2.symm)
 omega
theorem qzG{C:Co}(hn:(C.leads.map Ld.id).Nodup){p:Nat}{x:Ld}(hx:C.leads[p]?=some x):C.YW x.id=C.iG p x.tick:=by
 unfold Co.YW
 rw [qJq hn hx]
 simp only [hx]
theorem Ld.Gr{l:Ld}(h:ZA l):ZA l.tick:=⟨h.ans,h.cnt,h.reps,h.said,h.keys⟩
theorem qJS{j:Nat}{v:LdV}{x x':Ld}(hv:Y.lds[j]?=some v)(hx:C.leads[j]?=some x)(hid:x'.id=x.id):Kp x.id Y C { Y with lds:=Y.lds.set j v } (C.put j x'):=λp w y hw hy hi=>by
 have hpj:p≠j:=λe=>by subst e;rw [hx] at hy;cases hy;exact hi rfl
 exact ⟨p,by show (Y.lds.set j v)[p]?=_;rw [List.getElem?_set_ne (Ne.symm hpj)];exact hw,by show (C.leads.set j x')[p]?=_;rw [List.getElem?_set_ne (Ne.symm hpj)];exact hy⟩
theorem qzI(C:Co)(p:Nat)(l0 l:Ld)(h0:C.leads[p]?=some l0)(hid:l.id=l0.id)(hl:ZA l0→ZA l):Sts C (C.iG p l) 1 C.n 1:=by
 have h1:=Iz C p l0 l h0 hid λh=>hl (h.lds l0 (List.mem_of_getElem? h0))
 unfold Co.iG
 split
 ·exact h1.up (by omega) (by omega) (by omega)
 split
 ·exact (h1.trans (MV _ _ true)).up (by omega) (by simp [Co.nM]) (by omega)
 ·exact (h1.trans (Mj _ _ _)).up (by omega) (by simp [Co.nM]) (by omega)
abbrev tcA:NC:=.seq aY (.seq (.seq aW (.cond (.qq 45) (.exit 1) .skip)) aV)
theorem qzu{Q:Exit→Env→Mem→Prop}{E:Env}{p:Nat}{v:LdV}{x:Ld}{a15 a16 a17:Value}(hv:Y.lds[p]?=some v)(hx:C.leads[p]?=some x)(ho:Y.ok C)(hok:C.Ok)(hrec:C.recs.length≤900000)(hn:C.leads.length≤90000)(hout:C.out.length≤900000)(htk:0≤x.ticks∧x.ticks≤1000000000)(H:Hq m M S (coA cb Y C::L))(K:∀ Y' M (e:Exit) (E':Env),(e=.normal∨e=.exit 1)→E'.get 0=lp cb→E'.get 15=a15→E'.get 16=a16→E'.get 17=a17→E'.has 0=true→E'.has 15=true→E'.has 16=true→E'.has 17=true→Y'.ok (C.iG p x.tick)→Kp x.id Y C Y' (C.iG p x.tick)→Hq m M S (coA cb Y' (C.iG p x.tick)::L)→Q e E' M)(e0:E.get 0=lp cb)(e3:E.get 3=lp v.b)(e15:E.get 15=a15)(e16:E.get 16=a16)(e17:E.get 17=a17)(h0:E.has 0=true)(h3:E.has 3=true)(h15:E.has 15=true)(h16:E.has 16=true)(h17:E.has 17=true) :
  wpN Tryz.prog tcA Q E M:=by
 have H:=TU hv hx H
 simp (disch:=omega) only [go_sem,undef,e0,e3,e15,e16,e17,h0,h3,h15,h16,h17,H.cs,Ld.c]
 refine xK H λM f H=>?_
 have H:Hq m M S (qw v.b (.cells (x.tick.c v).cs.toArray qN (0,0))::qV qb 8 v.rp x.tick.reps.length (x.tick.reps.flatMap Att.cs)::qV qD 22 v.sd x.tick.said.length (x.tick.said.flatMap Sd.cs)::qP (coR cb Y C p)::L):=H
 have H:=BJ (v':=v) (l':=x.tick) hv hx rfl H
 have hpv:=(List.getElem?_eq_some_iff.1 hv).1
 have hpx:=(List.getElem?_eq_some_iff.1 hx).1
 have ho1:({ Y with lds:=Y.lds.set p v }:Ly).ok (C.put p x.tick):=⟨by simp [Co.put,ho.lds],ho.wss,ho.wb⟩
 have hv1:({ Y with lds:=Y.lds.set p v }:Ly).lds[p]?=some v:=by simp [hpv]
 have hx1:(C.put p x.tick).leads[p]?=some x.tick:=by simp [Co.put,hpx]
 have hk1:Kp x.id Y C { Y with lds:=Y.lds.set p v } (C.put p x.tick):=qJS hv hx rfl
 have Hn:Hq m M S (coA cb { Y with lds:=Y.lds.set p v } (C.put p x.tick)::L):=H
 have hg:=Ld.Gr (hok.lds x (List.mem_of_getElem? hx))
 have hlok:=hg.ok
 have hn1:(C.put p x.tick).leads.length≤100000:=by simp [Co.put];omega
 have hn7:(C.put p x.tick).n≤7:=by have:=hok.n;rw [Co.nM];omega
 have hrec1:(C.put p x.tick).recs.length≤1000000:=Nat.le_trans hrec (by decide)
 have hout1:(C.put p x.tick).out.length≤999000:=Nat.le_trans hout (by decide)
 have hA:C.iG p x.tick=if x.tick.ticks.tmod 4≠0 then C.put p x.tick else if x.tick.way=0∧((C.put p x.tick).xp x.tick true).2=true then ((C.put p x.tick).xp x.tick true).1 else (C.put p x.tick).all x.tick.ask x.tick.ans:=rfl
 have hid:x.tick.id=x.id:=rfl
 have htk2:x.tick.ticks=x.ticks+1:=rfl
 have e1:=Int.tmod_lt_of_pos (x.ticks+1) (show (0:Int) < 4 by decide)
 have e2:=Int.tmod_nonneg (4:Int) (show 0≤x.ticks+1 by omega)
 rw [htk2] at hA
 rw [hA] at K
 clear hA
 have hcl:=qT (zy (zV (Hn.at 0 rfl)) hv1 hx1)
 rw [← hid] at hk1 K
 generalize ({ Y with lds:=Y.lds.set p v }:Ly)=Y1 at *
 generalize C.put p x.tick=C1 at *
 have htt:x.tick.ticks=x.ticks+1:=rfl
 generalize hl:x.tick=l at *
 have hq:∃ q,q=(x.ticks+1).tmod 4:=⟨_,rfl⟩
 refine Exists.elim hq λq hq=>?_
 rw [← hq] at e1 e2 K
 by_cases hq0:q=0
 ·rw [if_neg (λh=>h hq0)] at K
  by_cases hw:l.way=0
  ·have hwm:=λM (hA:(coA cb Y1 C1).p M)=>px hA ho1 hv1 hx1 true hrec1 hn1 hn7 hout1 (by have:=hlok.reps;omega)
   have hwf:=MW (C:=C1) (l:=l) (late:=true)
   simp (disch:=omega) only [go_sem,undef,e0,e3,e15,e16,e17,h0,h3,h15,h16,h17,hcl,Ld.c,htt,lL,← hq,qX (show ¬ q≠0 from λh=>h hq0),qZ hw]
   refine zW Hn (hwm _ (Hn.at 0 rfl)) λu M A' hR f H3=>?_
   refine hR.E λY2 eu ho2 eA hk2 hy2=>?_
   subst eu eA
   clear hR hwm
   by_cases hb:(C1.xp l true).2=true
   ·rw [if_pos ⟨hw,hb⟩] at K
    rw [hb]
    simp (disch:=omega) only [go_sem,undef,e0,e3,e15,e16,e17,h0,h3,h15,h16,h17]
    exact K Y2 M _ _ (.inr rfl) rfl rfl rfl rfl rfl rfl rfl rfl ho2 (hk1.trans hk2) H3
   ·rw [if_neg (λh=>hb h.2)] at K
    have hbf:(C1.xp l true).2=false:=by simpa using hb
    have hy2:=hy2 hbf
    rw [hwf hbf] at H3 ho2 hk2
    rw [hbf]
    have hv2:Y2.lds[p]?=some v:=by rw [hy2];exact hv1
    have hcl:=qT (zy (zV (H3.at 0 rfl)) hv2 hx1)
    simp (disch:=omega) only [go_sem,undef,e0,e3,e15,e16,e17,h0,h3,h15,h16,h17,hcl,Ld.c]
    refine qa H3 (qkK hcl) λM f H3=>?_
    have hcl:=qT (zy (zV (H3.at 0 rfl)) hv2 hx1)
    simp (disch:=omega) only [go_sem,undef,hcl,Ld.c]
    refine zW H3 (UX (H3.at 0 rfl) ho2 l.ask l.ans hn7 hout1) λu M A' hR f H3=>?_
    refine hR.E λY3 eu ho3 eA hy3=>?_
    subst eu eA
    simp (disch:=omega) only [go_sem,undef]
    exact K Y3 M _ _ (.inl rfl) rfl rfl rfl rfl rfl rfl rfl rfl ho3 ((hk1.trans hk2).trans (Kp.same hy3 (gl ..))) H3
  ·rw [if_neg (λh=>hw h.1)] at K
   simp (disch:=omega) only [go_sem,undef,e0,e3,e15,e16,e17,h0,h3,h15,h16,h17,hcl,Ld.c,htt,lL,← hq,qX (show ¬ q≠0 from λh=>h hq0),qX hw]
   refine qa Hn (qkK hcl) λM f H3=>?_
   have hcl:=qT (zy (zV (H3.at 0 rfl)) hv1 hx1)
   simp (disch:=omega) only [go_sem,undef,hcl,Ld.c]
   refine zW H3 (UX (H3.at 0 rfl) ho1 l.ask l.ans hn7 hout1) λu M A' hR f H3=>?_
   refine hR.E λY3 eu ho3 eA hy3=>?_
   subst eu eA
   simp (disch:=omega) only [go_sem,undef]
   exact K Y3 M _ _ (.inl rfl) rfl rfl rfl rfl rfl rfl rfl rfl ho3 (hk1.trans (Kp.same hy3 (gl ..))) H3
 ·rw [if_pos hq0] at K
  simp (disch:=omega) only [go_sem,undef,e0,e3,e15,e16,e17,h0,h3,h15,h16,h17,hcl,Ld.c,htt,lL,← hq,qZ (show q≠0 from hq0)]
  exact K Y1 M _ _ (.inr rfl) rfl rfl rfl rfl rfl rfl rfl rfl ho1 hk1 Hn
end Go.Fw
namespace Go.Fw
open Go.Proofs
variable {m m0 M:Mem} {S:List Nat} {L:List As}
variable {cb:Nat} {Y:Ly} {C:Co}
def Co.yv(C:Co):Co:=(C.leads.map Ld.id).foldl Co.YW C
theorem qzF(C:Co)(i:Int×Int):Sts C (C.YW i) 1 C.n 1:=by
 have hr:Sts C C 1 C.n 1:=(Sts.refl C).up (by omega) (by omega) (by omega)
 unfold Co.YW
 cases fdL i C.leads with
 | none=>exact hr
 | some p =>
  cases h:C.leads[p]? with
  | none=>simp only [h];exact hr
  | some l=>simp only [h];exact qzI C p l l.tick h rfl λhl=>Ld.Gr hl
theorem Bp:∀ (ids:List (Int×Int)) (C:Co),C.n≤7→Sts C (ids.foldl Co.YW C) ids.length (7*ids.length) ids.length
 | [],C,_=>Sts.refl C
 | i::r,C,hn=>by
  have h1:=qzF C i
  have h2:=Bp r (C.YW i) (by rw [h1.sz.n];exact hn)
  exact (h1.trans h2).up (by simp;omega) (by simp;omega) (by simp;omega)
theorem HZ{α β:Type}(f:β→α→β)(b:β){l:List α}{j:Nat}{a:α}(h:l[j]?=some a):(l.take (j+1)).foldl f b=f ((l.take j).foldl f b) a:=by
 rw [List.take_add_one,h,List.foldl_append];rfl
abbrev tcL:NC:=.seq JB (.block 0 (.loop [0,15,16,17] vz))
theorem qQA:vz=.seq ab (.seq (.cond (.qq 18) .skip (.exit 0)) (.seq (.block 1 (.seq aa tcA)) aK)):=rfl
theorem Pt{Q:Exit→Env→Mem→Prop}{E:Env}(ho:Y.ok C)(hok:C.Ok)(hrec:C.recs.length≤400000)(hn:C.leads.length≤40000)(hout:C.out.length≤500000)(htk:∀ l∈C.leads,0≤l.ticks∧l.ticks≤1000000000)(H:Hq m M S (coA cb Y C::L))(K:∀ Y' M (E':Env),E'.get 0=lp cb→E'.has 0=true→Y'.ok C.yv→Hq m M S (coA cb Y' C.yv::L)→Q .normal E' M)(e0:E.get 0=lp cb)(h0:E.has 0=true) :
  wpN Tryz.prog tcL Q E M:=by
 have hlen:=ho.lds
 have hrow:RdS 1 pL M Y.lv Y.lds:=Own.rds (by decide) (λ_=>rfl) (rj (H.at 0 rfl))
 have hc:=qy (H.at 0 rfl)
 have hT1:C.yv=(C.leads.map Ld.id).foldl Co.YW C:=rfl
 rw [hT1] at K
 clear hT1
 show wpN Tryz.prog (.seq JB (.block 0 (.loop [0,15,16,17] vz))) Q E M
 rw [qQA]
 generalize hT:tcA=T
 simp (disch:=omega) only [go_sem,undef,e0,h0,hc,Ly.c]
 refine yw H (qxP hrow (by omega)) λu M A' hR f H=>?_
 refine Exists.elim hR λa hh=>Exists.elim hh λc hh=>?_
 have eu:=hh.1
 have eA:=hh.2
 subst eu eA
 clear hh hR hrow hc
 have H:=H.perm (List.Perm.swap ..)
 have hrem:∀ (t:Nat),0≤t→∀ (v:LdV) (x:Ld),Y.lds[t]?=some v→C.leads[t]?=some x→∃ p:Nat,Y.lds[p]?=some v∧C.leads[p]?=some x:=λt _ v x hv hx=>⟨t,hv,hx⟩
 have hn7:C.n≤7:=by have:=hok.n;omega
 have hids:∀ (t:Nat) (x:Ld),C.leads[t]?=some x→(C.leads.map Ld.id)[t]?=some x.id:=λt x hx=>by rw [List.getElem?_map,hx];rfl
 have hnd:=hok.lnd
 simp (disch:=omega) only [go_sem,undef,e0,h0]
 refine qe (λk E m'=>∃ (j:Nat) (Y':Ly),j≤C.leads.length∧k=C.leads.length - j∧E=[(0,lp cb),(15,.slice a Y.lds.length c),(16,.int .i64 (Y.lds.length:Nat)),(17,.int .i64 (j:Nat))]∧Y'.ok (((C.leads.map Ld.id).take j).foldl Co.YW C) ∧
  (∀ (t:Nat),j≤t→∀ (v:LdV) (x:Ld),Y.lds[t]?=some v→C.leads[t]?=some x→∃ p:Nat,Y'.lds[p]?=some v∧(((C.leads.map Ld.id).take j).foldl Co.YW C).leads[p]?=some x) ∧
  Hq m m' S (coA cb Y' (((C.leads.map Ld.id).take j).foldl Co.YW C)::qV qd 1 (.slice a Y.lds.length c) Y.lds.length (Y.lds.flatMap pL)::L)) C.leads.length rfl ⟨0,Y,by omega,rfl,rfl,ho,hrem,H⟩ ?_
 clear H hrem f
 rintro k E M1 ⟨j,Y',hj,rfl,rfl,ho',hrem,H⟩
 by_cases hlt:j < C.leads.length
 ·have hrd:RdS 1 pL M1 (.slice a Y.lds.length c) Y.lds:=Own.rds (by decide) (λ_=>rfl) (H.at 1 rfl)
  refine RdS.elK hrd (show j < Y.lds.length by omega) (by decide) λbx o v hv hix hE=>?_
  have hp0:(pL v)[0]?=some (lp v.b):=rfl
  refine Exists.elim (⟨C.leads[j],List.getElem?_eq_getElem hlt⟩:∃ x,C.leads[j]?=some x) λx hx=>?_
  have hst:=HZ Co.YW C (hids j x hx)
  have hF:=Bp ((C.leads.map Ld.id).take j) C hn7
  have hlj:((C.leads.map Ld.id).take j).length≤40000:=by rw [List.length_take];omega
  have hok':=hF.ok hok
  have hs1:=hF.sz.recs
  have hs2:=hF.sz.out
  have hs3:=hF.sz.leads
  refine Exists.elim (hrem j (Nat.le_refl _) v x hv hx) λp hp=>?_
  have htx:=htk x (List.mem_of_getElem? hx)
  generalize ((C.leads.map Ld.id).take j).foldl Co.YW C=C' at *
  rw [qzG hok'.lnd hp.2] at hst
  simp (disch:=omega) only [go_sem,undef,qZ (show ((j:Nat):Int) < (Y.lds.length:Nat) by omega),hix,hE.ld0,hp0]
  subst hT
  refine qzu hp.1 hp.2 ho' hok' (by omega) (by omega) (by omega) htx H (λY2 M e E2 he g0 g15 g16 g17 k0 k15 k16 k17 ho2 hk2 H=>?_) rfl rfl rfl rfl rfl rfl rfl rfl rfl rfl
  have hrem2:∀ (t:Nat),j+1≤t→∀ (v:LdV) (y:Ld),Y.lds[t]?=some v→C.leads[t]?=some y→∃ p:Nat,Y2.lds[p]?=some v∧(C'.iG p x.tick).leads[p]?=some y∨True:=λ_ _ _ _ _ _=>⟨0,.inr trivial⟩
  have hrem3:∀ (t:Nat),j+1≤t→∀ (v:LdV) (y:Ld),Y.lds[t]?=some v→C.leads[t]?=some y→∃ q:Nat,Y2.lds[q]?=some v∧(C'.iG p x.tick).leads[q]?=some y:=λt ht v y hv hy=>by
   obtain ⟨q,h1,h2⟩:=hrem t (by omega) v y hv hy
   refine hk2 q v y h1 h2 λe=>?_
   have hty:=(List.getElem?_eq_some_iff.1 hy).1
   have:=(List.getElem?_inj (by simpa using hty) hnd).1 ((hids t y hy).trans (by rw [e,hids j x hx]))
   omega
  clear hrem hrem2
  rcases he with rfl | rfl
  all_goals
   simp (disch:=omega) only [go_sem,undef,g0,g15,g16,g17,k0,k15,k16,k17]
   exact qK (C.leads.length - (j+1)) (by omega) ⟨j+1,Y2,by omega,rfl,rfl,by rw [hst];exact ho2,by rw [hst];exact hrem3,by rw [hst];exact H⟩
 ·have e:j=C.leads.length:=by omega
  subst e
  have htl:(C.leads.map Ld.id).take C.leads.length=C.leads.map Ld.id:=by rw [← List.length_map Ld.id,List.take_length]
  rw [htl] at ho' H
  simp (disch:=omega) only [go_sem,undef,qX (show ¬ ((C.leads.length:Nat):Int) < (Y.lds.length:Nat) by omega)]
  exact K Y' M1 _ rfl rfl ho' (H.drop 1)
end Go.Fw
namespace Go.Fw
open Go.Proofs
variable {m m0 M:Mem} {S:List Nat} {L:List As}
variable {cb:Nat} {Y:Ly} {C:Co}
def Co.XP(C:Co)(b:Nat)(i:Int×Int):Co:=if (C.at i).st≠3∧fdL i C.leads=none then C.want b i else C
def Co.YY(C:Co)(l:List (Int×Int))(bs:List Nat):Co:=(l.zip bs).foldl (λC p=>C.XP p.2 p.1) C
theorem Pu(C:Co){l:List (Int×Int)}{bs:List Nat}{j:Nat}{i:Int×Int}(b:Nat)(hi:l[j]?=some i)(hb:bs.length=j):C.YY (l.take (j+1)) (bs++[b])=(C.YY (l.take j) bs).XP b i:=by
 unfold Co.YY
 have hj:=(List.getElem?_eq_some_iff.1 hi).1
 rw [List.take_add_one,hi,Option.toList_some,List.zip_append (by rw [List.length_take,hb];omega),List.foldl_append]
 rfl
theorem qzH(C:Co)(b:Nat)(i:Int×Int):Sts C (C.XP b i) 0 0 0:=by
 unfold Co.XP
 split
 ·exact SP ..
 ·exact Sts.refl C
theorem Br:∀ (l:List ((Int×Int)×Nat)) (C:Co),Sts C (l.foldl (λC p=>C.XP p.2 p.1) C) 0 0 0
 | [],C=>Sts.refl C
 | p::r,C=>((qzH C p.2 p.1).trans (Br r _)).up (by omega) (by omega) (by omega)
theorem qZE{lb lr:Nat}{cut:Dp}{l:vD}(h:kq m lb lr cut l)(hl:l.length < 1000000000):CN Tryz.prog eF [lp lb] m λu A=>∃ l',l'.Perm (zw l)∧Asc l'∧A=qV qW 2 u l'.length (prs l') :=
 MC.mono (RA h hl) λu M ⟨⟨l',hp,ha,ho,hn⟩,f⟩=>⟨_,⟨l',hp,ha,rfl⟩,ho,f,hn⟩
abbrev ttL:NC:=.seq JA (.block 2 (.loop [0,59,60,61] vq))
abbrev ttA:NC:=.seq Ju (.seq Zt (.seq Zs (.cond (.qq 82) Zr .skip)))
theorem qQn:vq=.seq aX (.seq (.cond (.qq 62) .skip (.exit 2)) (.seq (.block 3 ttA) Yx)):=rfl
abbrev ttB:NC:=.seq Zs (.cond (.qq 82) Zr .skip)
theorem qzA{Q:Exit→Env→Mem→Prop}{E:Env}{bx o:Nat}{i:Int×Int}{j:Int}{a:Option Addr}{c n:Nat}(hix:∀ M,rd (.ixs 2) [.slice a n c,.int .i64 j] M=some (.pointer (some ⟨bx,o,none⟩)))(hlda:YJ (M bx) o 2=some (.agg (pc i).toArray))(ho:Y.ok C)(hn:C.leads.length≤100000)(hnw:C.wishes.length≤10000)(H:Hq m M S (coA cb Y C::L))(K:∀ Y' b M (E':Env),E'.get 0=lp cb→E'.get 59=.slice a n c→E'.get 60=.int .i64 (n:Nat)→E'.get 61=.int .i64 j→E'.has 0=true→E'.has 59=true→E'.has 60=true→E'.has 61=true→Y'.ok (C.XP b i)→Hq m M S (coA cb Y' (C.XP b i)::L)→Q .normal E' M)(e0:E.get 0=lp cb)(e59:E.get 59=.slice a n c)(e60:E.get 60=.int .i64 (n:Nat))(e61:E.get 61=.int .i64 j)(h0:E.has 0=true)(h59:E.has 59=true)(h60:E.has 60=true)(h61:E.has 61=true) :
  wpN Tryz.prog ttA Q E M:=by
 have hlen:=ho.lds
 have hx:(lkC i C.lg).getD Cel.zero=C.at i:=rfl
 have key:∀ (E1:Env) (b5 b6:Nat) (M:Mem),E1.get 0=lp cb→E1.get 5=lp b5→E1.get 6=lp b6→E1.get 59=.slice a n c→E1.get 60=.int .i64 (n:Nat)→E1.get 61=.int .i64 j→E1.has 0=true→E1.has 5=true→E1.has 6=true→E1.has 59=true→E1.has 60=true→E1.has 61=true →
   Hq m M S (qw b6 (.cells (C.at i).cs.toArray qc (0,0))::qw b5 (.cells (pc i).toArray qW (0,0))::coA cb Y C::L)→wpN Tryz.prog ttB Q E1 M:=by
  intro E1 b5 b6 M g0 g5 g6 g59 g60 g61 k0 k5 k6 k59 k60 k61 H
  by_cases hst:(C.at i).st≠3
  ·have hfo:(∃ p,fdL i C.leads=some p)∨fdL i C.leads=none:=by
    cases fdL i C.leads with
    | none=>exact .inr rfl
    | some j=>exact .inl ⟨j,rfl⟩
   rcases hfo with ⟨p,hf⟩ | hf
   ·have hT:∀ b,C.XP b i=C:=λb=>if_neg (λh=>by have:=h.2;rw [hf] at this;cases this)
    have hpl:p < C.leads.length:=by
     unfold fdL at hf
     rw [List.findIdx?_eq_some_iff_getElem] at hf
     exact hf.1
    refine Exists.elim (⟨Y.lds[p]'(by omega),List.getElem?_eq_getElem (by omega)⟩:∃ v,Y.lds[p]?=some v) λv hv=>?_
    have hpt:ptO Y.lds (some p)=lp v.b:=by simp [ptO,hv]
    simp (disch:=omega) only [go_sem,undef,g0,g5,g6,g59,g60,g61,k0,k5,k6,k59,k60,k61,H.cs,qZ hst]
    refine qa H (XA (H.at 2 rfl) ho i (by omega)) λM f H=>?_
    rw [hf]
    simp (disch:=omega) only [go_sem,undef,g0,g5,g6,g59,g60,g61,k0,k5,k6,k59,k60,k61,H.cs,hpt,Option.isNone_some]
    exact K Y 0 M _ rfl rfl rfl rfl rfl rfl rfl rfl (by rw [hT];exact ho) (by rw [hT];exact H.tail.tail)
   ·have hT:∀ b,C.XP b i=C.want b i:=λb=>if_pos ⟨hst,hf⟩
    have hpt:ptO Y.lds none=.pointer none:=rfl
    simp (disch:=omega) only [go_sem,undef,g0,g5,g6,g59,g60,g61,k0,k5,k6,k59,k60,k61,H.cs,qZ hst]
    refine qa H (XA (H.at 2 rfl) ho i (by omega)) λM f H=>?_
    rw [hf]
    simp (disch:=omega) only [go_sem,undef,g0,g5,g6,g59,g60,g61,k0,k5,k6,k59,k60,k61,H.cs,hpt,Option.isNone_none]
    refine qxU H (uZ (H.at 2 rfl) ho i (by omega)) λu M A' hR f H=>?_
    refine Exists.elim hR λbw hR=>?_
    refine hR.E λY2 eu ho2 eA=>?_
    subst eu eA
    simp (disch:=omega) only [go_sem,undef,g0,g5,g6,g59,g60,g61,k0,k5,k6,k59,k60,k61]
    exact K Y2 bw M _ rfl rfl rfl rfl rfl rfl rfl rfl (by rw [hT];exact ho2) (by rw [hT];exact H.tail.tail)
  ·have hT:∀ b,C.XP b i=C:=λb=>if_neg (λh=>hst h.1)
   simp (disch:=omega) only [go_sem,undef,g0,g5,g6,g59,g60,g61,k0,k5,k6,k59,k60,k61,H.cs,qX hst]
   exact K Y 0 M _ rfl rfl rfl rfl rfl rfl rfl rfl (by rw [hT];exact ho) (by rw [hT];exact H.tail.tail)
 show wpN Tryz.prog (.seq Ju (.seq Zt ttB)) Q E M
 generalize hC:ttB=T at *
 simp (disch:=omega) only [go_sem,undef,e0,e59,e60,e61,h0,h59,h60,h61,hix,hlda]
 refine qg H λb5 M f H=>?_
 simp (disch:=omega) only [go_sem,undef,e0,e59,e60,e61,h0,h59,h60,h61,H.cs]
 refine qs H rfl rfl λM f H=>?_
 simp (disch:=omega) only [go_sem,undef,e0,e59,e60,e61,h0,h59,h60,h61,H.cs,qy (H.at 1 rfl),Ly.c]
 refine qp ?_ ?_
 ·simp (disch:=omega) only [go_sem,undef,H.cs,qy (H.at 1 rfl),Ly.c]
  refine qa H (zO (kO (H.at 1 rfl)) i) λM f H=>?_
  rw [hx]
  simp (disch:=omega) only [go_sem,undef,H.cs,qy (H.at 1 rfl),Ly.c]
  refine qg H λb6 M f H=>?_
  simp (disch:=omega) only [go_sem,undef,H.cs,qy (H.at 2 rfl),Ly.c]
  refine qs H rfl rfl λM f H=>?_
  simp (disch:=omega) only [go_sem,undef,e0,e59,e60,e61,h0,h59,h60,h61]
  exact key _ b5 b6 _ rfl rfl rfl rfl rfl rfl rfl rfl rfl rfl rfl rfl H
 ·simp (disch:=omega) only [go_sem,undef,H.cs,qy (H.at 1 rfl),Ly.c]
  refine qg H λb6 M f H=>?_
  simp (disch:=omega) only [go_sem,undef,H.cs,qy (H.at 2 rfl),Ly.c]
  refine qa H (zO (kO (H.at 2 rfl)) i) λM f H=>?_
  rw [hx]
  simp (disch:=omega) only [go_sem,undef,H.cs,qy (H.at 2 rfl),Ly.c]
  refine qs H rfl rfl λM f H=>?_
  simp (disch:=omega) only [go_sem,undef,e0,e59,e60,e61,h0,h59,h60,h61]
  exact key _ b5 b6 _ rfl rfl rfl rfl rfl rfl rfl rfl rfl rfl rfl rfl H
theorem Ps{Q:Exit→Env→Mem→Prop}{E:Env}(ho:Y.ok C)(hok:C.Ok)(hn:C.leads.length≤100000)(hlg:C.lg.length < 1000000)(H:Hq m M S (coA cb Y C::L))(K:∀ Y' M (E':Env) (l':List (Int×Int)) (bs:List Nat),l'.Perm (zw C.lg)→Asc l'→bs.length=l'.length→E'.get 0=lp cb→E'.has 0=true→Y'.ok (C.YY l' bs)→Hq m M S (coA cb Y' (C.YY l' bs)::L)→Q .normal E' M)(e0:E.get 0=lp cb)(h0:E.has 0=true) :
  wpN Tryz.prog ttL Q E M:=by
 have hc:=qy (H.at 0 rfl)
 show wpN Tryz.prog (.seq JA (.block 2 (.loop [0,59,60,61] vq))) Q E M
 rw [qQn]
 generalize hT:ttA=T
 simp (disch:=omega) only [go_sem,undef,e0,h0,hc,Ly.c]
 refine yw H (qZE (kO (H.at 0 rfl)) (by omega)) λu M A' hR f H=>?_
 refine Exists.elim hR λl' hh=>?_
 have hperm:=hh.1
 have hasc:=hh.2.1
 have eA:=hh.2.2
 subst eA
 clear hh hR hc
 have hll:l'.length=C.lg.length:=by rw [hperm.length_eq];simp [zw]
 have H:=H.perm (List.Perm.swap ..)
 refine Own.zC (H.at 1 rfl) λa c eu=>?_
 subst eu
 simp (disch:=omega) only [go_sem,undef,e0,h0]
 refine qe (λk E m'=>∃ (j:Nat) (Y':Ly) (bs:List Nat),j≤l'.length∧k=l'.length - j∧bs.length=j∧E=[(0,lp cb),(59,.slice a l'.length c),(60,.int .i64 (l'.length:Nat)),(61,.int .i64 (j:Nat))]∧Y'.ok (C.YY (l'.take j) bs) ∧
  Hq m m' S (coA cb Y' (C.YY (l'.take j) bs)::qV qW 2 (.slice a l'.length c) l'.length (prs l')::L)) l'.length rfl ⟨0,Y,[],by omega,rfl,rfl,rfl,ho,H⟩ ?_
 clear H f
 rintro k E M1 ⟨j,Y',bs,hj,rfl,hbs,rfl,ho',H⟩
 by_cases hlt:j < l'.length
 ·have hrd:RdS 2 pc M1 (.slice a l'.length c) l':=Own.rds (by decide) Cc (H.at 1 rfl)
  refine RdS.elK hrd hlt (by decide) λbx o i hi hix hE=>?_
  have hst:=Pu C (bs:=bs) (hi:=hi) (hb:=hbs)
  have hS:=Br ((l'.take j).zip bs) C
  have hok':=hS.ok hok
  have hs3:=hS.sz.leads
  have hww:=hok'.wishes
  have hlda:=hE.mD 2 (by decide) (by decide)
  rw [List.take_of_length_le (by rw [Cc];exact Nat.le_refl _)] at hlda
  have hix2:=λM=>hix .i64 M
  have e2:C.YY (l'.take j) bs=((l'.take j).zip bs).foldl (λC p=>C.XP p.2 p.1) C:=rfl
  rw [← e2] at hs3 hok' hww
  generalize C.YY (l'.take j) bs=C' at *
  simp (disch:=omega) only [go_sem,undef,qZ (show ((j:Nat):Int) < (l'.length:Nat) by omega)]
  subst hT
  refine qzA hix2 hlda ho' (by omega) (by omega) H (λY2 b M E2 g0 g59 g60 g61 k0 k59 k60 k61 ho2 H=>?_) rfl rfl rfl rfl rfl rfl rfl rfl
  have hst:=hst b
  simp (disch:=omega) only [go_sem,undef,g0,g59,g60,g61,k0,k59,k60,k61]
  exact qK (l'.length - (j+1)) (by omega) ⟨j+1,Y2,bs++[b],by omega,rfl,by simp [hbs],rfl,by rw [hst];exact ho2,by rw [hst];exact H⟩
 ·have e:j=l'.length:=by omega
  subst e
  rw [List.take_length] at *
  simp (disch:=omega) only [go_sem,undef,qX (show ¬ ((l'.length:Nat):Int) < (l'.length:Nat) by omega)]
  exact K Y' M1 _ l' bs hperm hasc hbs rfl rfl ho' (H.drop 1)
end Go.Fw
namespace Go.Fw
open Go.Proofs
variable {m m0 M:Mem} {S:List Nat} {L:List As}
theorem Tt{a:Option Addr}{c:Nat}{l:List Nat}{g:Nat}{cap:Value}{p:Nat→Bool}(hr:RdS 1 ptV m (.slice a l.length c) l)(hg:VJ Tryz.prog g=true)(hp:∀ M,Fr m M []→∀ x∈l,MC Tryz.prog g [lp x,cap] M λu M'=>u=.bool (p x)∧Fr M M' [])(hn:l.length≤1000000) :
  MC Tryz.prog vL [.slice a l.length c,.func (.func g) #[] #[cap]] m λu M=>u=.int .i64 (ixO (l.findIdx? p))∧Fr m M []:=by
 refine vf (by simp [Tryz.f33]) ?_
 have H:=Hq.refl m []
 simp (disch:=omega) only [go_sem,undef]
 refine qe (λk E m'=>∃ j,j≤l.length∧k=l.length - j∧(∀ t y,t < j→l[t]?=some y→p y=false)∧E=[(0,.slice a l.length c),(1,.func (.func g) #[] #[cap]),(7,.int .i64 (l.length:Nat)),(8,.int .i64 (j:Nat))]∧Hq m m' [] []) l.length rfl ⟨0,by omega,rfl,by simp,rfl,H⟩ ?_
 clear H
 rintro k E M1 ⟨j,hj,rfl,hno,rfl,H⟩
 by_cases hlt:j < l.length
 ·refine RdS.elK (hr.frame H.fr) hlt (by decide) λbx o x hx hix hE=>?_
  have hp0:(ptV x)[0]?=some (lp x):=rfl
  simp (disch:=omega) only [go_sem,undef,qZ (show ((j:Nat):Int) < (l.length:Nat) by omega),hix,hE.ld0,hp0,nh,hg,List.nil_append,List.cons_append]
  refine qa H (hp _ H.fr x (List.mem_of_getElem? hx)) λM f H=>?_
  cases hpx:p x with
  | true =>
   have hf:=Bw hno hx hpx
   simp (disch:=omega) only [go_sem,undef]
   exact ⟨by rw [hf];rfl,H.fr⟩
  | false =>
   simp (disch:=omega) only [go_sem,undef]
   refine qK (l.length - (j+1)) (by omega) ⟨j+1,by omega,rfl,λt y ht hy=>?_,rfl,H⟩
   rcases Nat.lt_or_eq_of_le (Nat.le_of_lt_succ ht) with h | h
   ·exact hno t y h hy
   ·subst h;rw [hx] at hy;cases hy;exact hpx
 ·have e:j=l.length:=by omega
  subst e
  have hf:=Lj hno
  simp (disch:=omega) only [go_sem,undef,qX (show ¬ ((l.length:Nat):Int) < (l.length:Nat) by omega)]
  exact ⟨by rw [hf];rfl,H.fr⟩
abbrev fLW(v:Nat):Value:=lp v
theorem Bv(l:List Nat):l.flatMap ptV=l.map fLW:=by
 induction l with
 | nil=>rfl
 | cons x r ih=>rw [List.flatMap_cons,ih];rfl
def jK(p:Nat→Bool)(l:List Nat)(j:Nat):List Nat:=(l.take j).filter λx=>!p x
def gz(p:Nat→Bool)(l:List Nat)(j:Nat):List Nat:=jK p l j++l.drop (jK p l j).length
theorem gb(p:Nat→Bool)(l:List Nat)(j:Nat)(hj:j≤l.length):(jK p l j).length≤j:=by
 have:=List.length_filter_le (λx=>!p x) (l.take j)
 rw [List.length_take] at this
 unfold jK;omega
theorem OX(p:Nat→Bool)(l:List Nat)(j:Nat)(hj:j≤l.length):(gz p l j).length=l.length:=by
 have:=gb p l j hj
 unfold gz;rw [List.length_append,List.length_drop];omega
theorem qxC(p:Nat→Bool)(l:List Nat)(j:Nat)(hj:j≤l.length)(t:Nat)(ht:j≤t):(gz p l j)[t]?=l[t]?:=by
 have:=gb p l j hj
 unfold gz
 rw [List.getElem?_append_right (by omega),List.getElem?_drop]
 congr 1;omega
theorem Ez{p:Nat→Bool}{l:List Nat}{j:Nat}{x:Nat}(hx:l[j]?=some x)(h:p x=true):jK p l (j+1)=jK p l j:=by
 unfold jK
 rw [List.take_add_one,hx,List.filter_append];simp [h]
theorem Nl{p:Nat→Bool}{l:List Nat}{j:Nat}{x:Nat}(hx:l[j]?=some x)(h:p x=false):jK p l (j+1)=jK p l j++[x]:=by
 unfold jK
 rw [List.take_add_one,hx,List.filter_append];simp [h]
theorem qJe{p:Nat→Bool}{l:List Nat}{j:Nat}{x:Nat}(hx:l[j]?=some x)(h:p x=true):gz p l (j+1)=gz p l j:=by
 unfold gz;rw [Ez hx h]
theorem qJf{p:Nat→Bool}{l:List Nat}{j:Nat}{x:Nat}(hx:l[j]?=some x)(h:p x=false):gz p l (j+1)=(gz p l j).set (jK p l j).length x:=by
 have hj:=(List.getElem?_eq_some_iff.1 hx).1
 have:=gb p l j (by omega)
 unfold gz
 rw [Nl hx h,List.length_append,List.set_append_right _ _ (Nat.le_refl _),Nat.sub_self,List.append_assoc]
 congr 1
 rw [List.length_singleton,List.drop_eq_getElem_cons (show (jK p l j).length < l.length by omega),List.set_cons_zero];rfl
theorem qxJ{p:Nat→Bool}{l:List Nat}{i:Nat}(h:l.findIdx? p=some i):jK p l (i+1)=l.take i∧gz p l (i+1)=l∧i < l.length∧(l.filter λx=>!p x).length < l.length:=by
 rw [List.findIdx?_eq_some_iff_getElem] at h
 obtain ⟨hi,hp,hb⟩:=h
 have h1:jK p l i=l.take i:=by
  unfold jK
  refine List.filter_eq_self.2 λx hx=>?_
  obtain ⟨t,ht,rfl⟩:=List.mem_iff_getElem.1 hx
  rw [List.getElem_take]
  rw [List.length_take] at ht
  have:=hb t (by omega)
  simp only [Bool.not_eq_true] at this
  simp [this]
 have h2:=Ez (List.getElem?_eq_getElem hi) hp
 refine ⟨h2.trans h1,?_,hi,List.length_filter_lt_length_iff_exists.2 ⟨l[i],List.getElem_mem hi,by simp [hp]⟩⟩
 unfold gz
 rw [h2,h1,List.length_take,Nat.min_eq_left (by omega),List.take_append_drop]
theorem RE(p:Nat→Bool)(l:List Nat):jK p l l.length=l.filter λx=>!p x:=by unfold jK;rw [List.take_length]
theorem qjQ(l:List Nat)(tail:List Value)(j:Nat)(x:Nat)(hx:l[j]?=some x):(l.map fLW++tail)[j]?=some (lp x):=by
 have hj:=(List.getElem?_eq_some_iff.1 hx).1
 rw [List.getElem?_append_left (by simpa using hj),List.getElem?_map,hx];rfl
theorem qjy(l:List Nat)(tail:List Value)(j:Nat)(x:Nat)(hj:j < l.length):(l.map fLW++tail).set j (lp x)=(l.set j x).map fLW++tail:=by
 rw [List.set_append_left _ _ (by simpa using hj),List.map_set]
theorem qyw{v:Value}{l:List Nat}{g:Nat}{cap:Value}{p:Nat→Bool}(h:(qV qQ 1 v l.length (l.flatMap ptV)).p m)(hg:VJ Tryz.prog g=true)(hp:∀ M,Fr m M (qG v)→∀ x∈l,MC Tryz.prog g [lp x,cap] M λu M'=>u=.bool (p x)∧Fr M M' [])(hn:l.length≤1000000) :
  CM Tryz.prog jz [v,.func (.func g) #[] #[cap]] m (qV qQ 1 v l.length (l.flatMap ptV)) λu A=>A=qV qQ 1 u (l.filter λx=>!p x).length ((l.filter λx=>!p x).flatMap ptV):=by
 have H:Hq m m (qG v) [qV qQ 1 v l.length (l.flatMap ptV)]:=Hq.one h
 cases hf:l.findIdx? p with
 | none =>
  have he:(l.filter λx=>!p x)=l:=List.filter_eq_self.2 λx hx=>by
   rw [List.findIdx?_eq_none_iff] at hf
   simp [hf x hx]
  rw [he]
  obtain ⟨a,c,rfl⟩:=h.form
  have hr:RdS 1 ptV m (.slice a l.length c) l:=Own.rds (by decide) (λ_=>rfl) h
  have hix:=Tt hr hg (λM f x hx=>hp M (f.sub (by simp)) x hx) hn
  rw [hf] at hix
  refine zI (by simp [Tryz.f33]) ?_
  simp (disch:=omega) only [go_sem,undef]
  refine qa H hix λM f H=>?_
  simp (disch:=omega) only [go_sem,undef,ixO,qZ (show (-1:Int) = -1 by rfl)]
  exact ⟨_,rfl,H.hs.1,H.fr,λb hb=>.inl hb,λb hb=>.inl hb⟩
 | some i =>
  obtain ⟨hk0,hc0,hil,hfl⟩:=qxJ hf
  refine Own.PM h (by omega) λb cp tail e hb hl=>?_
  subst e
  have hr:RdS 1 ptV m (.slice (some ⟨b,0,none⟩) l.length cp) l:=Own.rds (by decide) (λ_=>rfl) h
  have hix:=Tt hr hg (λM f x hx=>hp M (f.sub (by simp)) x hx) hn
  rw [hf] at hix
  have H2:=H.toCell hb
  rw [Bv] at H2 hb hl
  have hkl:(jK p l (i+1)).length=i:=by rw [hk0,List.length_take];omega
  refine zI (by simp [Tryz.f33]) ?_
  simp (disch:=omega) only [go_sem,undef]
  refine qa H2 hix λM f H=>?_
  have hii:ixO (some i)=(i:Int):=rfl
  simp (disch:=omega) only [go_sem,undef,hii,qX (show ¬ ((i:Nat):Int) = -1 by omega)]
  refine qe (λk E m'=>∃ j,j≤l.length∧k=l.length - j∧E=[(0,.slice (some ⟨b,0,none⟩) l.length cp),(1,.func (.func g) #[] #[cap]),(5,.int .i64 ((jK p l j).length:Nat)),(6,.int .i64 (j:Nat))]∧Hq m m' [b] [qw b (.cells ((gz p l j).map fLW++tail).toArray qQ (0,0))]) (l.length - (i+1)) rfl ⟨i+1,by omega,rfl,by rw [hkl];rfl,by rw [hc0];exact H⟩ ?_
  clear H f
  rintro k E M1 ⟨j,hj,rfl,rfl,H⟩
  have hkj:=gb p l j hj
  by_cases hlt:j < l.length
  ·refine Exists.elim (⟨l[j],List.getElem?_eq_getElem hlt⟩:∃ x,l[j]?=some x) λx hx=>?_
   have hg1:=qjQ (gz p l j) tail j x (by rw [qxC p l j hj j (Nat.le_refl _)];exact hx)
   have hs1:=qjy (gz p l j) tail (jK p l j).length x (by rw [OX p l j hj];omega)
   have hxm:=List.mem_of_getElem? hx
   generalize hct:(gz p l j).map fLW++tail=ct at *
   simp (disch:=omega) only [go_sem,undef,qZ (show ((j:Nat):Int) < (l.length:Nat) by omega),H.cs,hg1,nh,hg,List.nil_append,List.cons_append]
   refine qa H (hp _ H.fr x hxm) λM f H=>?_
   cases hpx:p x with
   | true =>
    have e1:=qJe hx hpx
    have e2:=Ez hx hpx
    simp (disch:=omega) only [go_sem,undef,Bool.not_true]
    exact qK (l.length - (j+1)) (by omega) ⟨j+1,by omega,rfl,by rw [e2];rfl,by rw [e1,hct];exact H⟩
   | false =>
    have e1:=qJf hx hpx
    have e2:=Nl hx hpx
    have e3:(jK p l (j+1)).length=(jK p l j).length+1:=by rw [e2];simp
    have hcl:(jK p l j).length < ct.length:=by rw [← hct,List.length_append,List.length_map,OX p l j hj];omega
    simp (disch:=omega) only [go_sem,undef,Bool.not_false,H.cs]
    refine xK H λM f H=>?_
    rw [hs1,← e1] at H
    simp (disch:=omega) only [go_sem,undef]
    exact qK (l.length - (j+1)) (by omega) ⟨j+1,by omega,rfl,by rw [e3];rfl,H⟩
  ·have e:j=l.length:=by omega
   subst e
   have hka:=RE p l
   have hct:gz p l l.length=jK p l l.length++l.drop (jK p l l.length).length:=rfl
   rw [hct] at H
   rw [← hka]
   rw [← hka] at hfl
   generalize jK p l l.length=ks at *
   have hl2:l.length+tail.length=cp:=by simpa using hl
   have hx1:xG 1 (some ⟨b,0,none⟩) cp ks.length l.length=some (.slice (some ⟨b,ks.length,none⟩) (l.length - ks.length) (cp - ks.length)):=by
    unfold xG
    rw [if_pos ⟨by omega,by omega,by omega⟩,if_neg (by omega)];simp [Addr.add];try (intro h;simp [h])
   have hx2:xG 1 (some ⟨b,0,none⟩) cp 0 ks.length=some (.slice (some ⟨b,0,none⟩) ks.length cp):=by
    unfold xG
    rw [if_pos ⟨by omega,by omega,by omega⟩,if_neg (by simp;omega)];simp [Addr.add];try (intro h;simp [h])
   simp (disch:=omega) only [go_sem,undef,qX (show ¬ ((l.length:Nat):Int) < (l.length:Nat) by omega),hx1]
   refine Uj H (by simp<;>omega) λM f H=>?_
   simp (disch:=omega) only [go_sem,undef,hx2]
   have hct2:(List.map fLW (ks++List.drop ks.length l)++tail).take ks.length++List.replicate (l.length - ks.length) (Value.pointer none)++(List.map fLW (ks++List.drop ks.length l)++tail).drop (ks.length+(l.length - ks.length))=ks.flatMap ptV++(List.replicate (l.length - ks.length) (Value.pointer none)++tail):=by
    have e1:(List.map fLW (ks++List.drop ks.length l)++tail).take ks.length=ks.flatMap ptV:=by
     rw [List.map_append,List.append_assoc,List.take_append_of_le_length (by simp),List.take_of_length_le (by simp),Bv]
    have e2:(List.map fLW (ks++List.drop ks.length l)++tail).drop (ks.length+(l.length - ks.length))=tail:=by
     rw [List.drop_append_of_le_length (by simp),List.drop_of_length_le (by simp),List.nil_append]
    rw [e1,e2,List.append_assoc]
   rw [hct2] at H
   have H:=H.eE (size:=1) (n:=ks.length) (cap:=cp) (by rw [Bv];simp) (by rw [Bv];simp;omega)
   exact ⟨_,rfl,H.hs.1,H.fr,λb hb=>.inl (by simpa [qG] using hb),λb hb=>.inl (by simpa [qG] using hb)⟩
end Go.Fw
namespace Go.Fw
open Go.Proofs
variable {m m0 M:Mem} {S:List Nat} {L:List As}
variable {cb:Nat} {Y:Ly} {C:Co}
def Co.iK(C:Co)(q:Nat):Co:={ C with wishes:=C.wishes.eraseIdx q,wb:=C.wb.eraseIdx q }
def Wsh.tick(w:Wsh):Wsh:={ w with ticks:=w.ticks+1 }
def Co.far(C:Co)(i:Int×Int):Int:=((C.me:Int) - i.1+(C.n:Nat)).tmod (C.n:Nat)
def Co.Bo(C:Co)(q:Nat)(w:Wsh):Co :=
 if w.ticks≥12+6*C.far w.id∧((C.kC q w).recover w.id).2=true then ((C.kC q w).recover w.id).1.kC q { w with ticks:=0 } else C.kC q w
def Co.YV(C:Co)(i:Int×Int):Co:=match fdW i C.wishes with
 | none=>C
 | some q=>match C.wishes[q]? with
  | none=>C
  | some w=>if ¬ C.opn i then C.iK q else if fdL i C.leads≠none then C else C.Bo q w.tick
def Co.Ml(C:Co):Co:=(C.wishes.map Wsh.id).foldl Co.YV C
theorem qZU{l:List Wsh}(hn:(l.map Wsh.id).Nodup){p:Nat}{x:Wsh}(hx:l[p]?=some x):fdW x.id l=some p:=by
 refine Bw (p:=λy=>decide (y.id=x.id)) (λt y ht hy=>?_) hx (by simp)
 have hp:=(List.getElem?_eq_some_iff.1 hx).1
 have h2:(l.map Wsh.id)[p]?=some x.id:=by rw [List.getElem?_map,hx];rfl
 by_cases e:y.id=x.id
 ·have h1:(l.map Wsh.id)[t]?=some x.id:=by rw [List.getElem?_map,hy];simp [e]
  have:=(List.getElem?_inj (by simpa using (show t < l.length by omega)) hn).1 (h1.trans h2.symm)
  omega
 ·simp [e]
theorem Sx(C:Co)(i:Int×Int)(x:Cel):(C.set i x).1.wishes=C.wishes∧(C.set i x).1.wb=C.wb:=by
 unfold Co.set
 split
 ·unfold Co.note
  split<;>exact ⟨rfl,rfl⟩
 ·exact ⟨rfl,rfl⟩
theorem Hf(C:Co)(x:Lt)(ans:Dp):∀ j,(C.Zu x ans j).wishes=C.wishes∧(C.Zu x ans j).wb=C.wb
 | 0=>⟨rfl,rfl⟩
 | j+1=>by
  have h:=Hf C x ans j
  unfold Co.Zu
  split
  ·exact h
  ·exact h
theorem SA(C:Co)(x:Ld):(C.kP x).wishes=C.wishes∧(C.kP x).wb=C.wb:=Hf (C.ZT x) x.ask x.ans _
theorem MG(C:Co)(i:Int×Int):(C.recover i).1.wishes=C.wishes∧(C.recover i).1.wb=C.wb:=by
 unfold Co.recover
 split
 ·exact ⟨rfl,rfl⟩
 ·unfold Co.nH
  have h:=Sx C i { C.at i with pr:=((C.bas i).1+1,(C.me:Nat)) }
  split
  ·split
   ·have h2:=SA (C.set i { C.at i with pr:=((C.bas i).1+1,(C.me:Nat)) }).1 (WK i C.me { C.at i with pr:=((C.bas i).1+1,(C.me:Nat)) })
    exact ⟨h2.1.trans h.1,h2.2.trans h.2⟩
   ·exact h
  ·exact ⟨rfl,rfl⟩
theorem qQF{C:Co}{i:Int×Int}{x:Cel}(h:¬ (C.set i x).2=true):(C.set i x).1=C:=by
 unfold Co.set at *
 split
 ·rename_i hm
  rw [if_pos hm] at h
  exact absurd rfl h
 ·rfl
theorem qQO{C:Co}{i:Int×Int}(h:(C.recover i).2=false):(C.recover i).1=C:=by
 unfold Co.recover at *
 split
 ·rfl
 ·rename_i hb
  rw [if_neg hb] at h
  unfold Co.nH at *
  split
  ·rename_i hr
   rw [if_pos hr] at h
   split
   ·rename_i hs
    rw [if_pos hs] at h
    cases h
   ·rename_i hs
    exact qQF hs
  ·rfl
def KpW(i:Int×Int)(C0 C:Co):Prop:=∀ (p b:Nat) (x:Wsh),C0.wb[p]?=some b→C0.wishes[p]?=some x→x.id≠i→∃ p':Nat,C.wb[p']?=some b∧C.wishes[p']?=some x
theorem KpW.same{i:Int×Int}{C0 C:Co}(h1:C.wb=C0.wb)(h2:C.wishes=C0.wishes):KpW i C0 C:=λp v x hv hx _=>⟨p,by rw [h1];exact hv,by rw [h2];exact hx⟩
theorem KpW.trans{i:Int×Int}{C0 C1 C2:Co}(h:KpW i C0 C1)(h':KpW i C1 C2):KpW i C0 C2:=λp v x hv hx hi=>by
 obtain ⟨p',h1,h2⟩:=h p v x hv hx hi
 exact h' p' v x h1 h2 hi
theorem KpW.kC{C:Co}{q:Nat}{x y:Wsh}(hx:C.wishes[q]?=some x):KpW x.id C (C.kC q y):=λp b z hb hz hi=>by
 have hpq:p≠q:=λe=>by subst e;rw [hx] at hz;cases hz;exact hi rfl
 exact ⟨p,hb,by show (C.wishes.set q y)[p]?=_;rw [List.getElem?_set_ne (Ne.symm hpq)];exact hz⟩
theorem NN{α:Type}{l:List α}{p q:Nat}{a:α}(h:l[p]?=some a)(hpq:p≠q):(l.eraseIdx q)[if p < q then p else p - 1]?=some a:=by
 rw [List.getElem?_eraseIdx]
 by_cases hp:p < q
 ·rw [if_pos hp,if_pos hp];exact h
 ·rw [if_neg hp,if_neg (by omega),show p - 1+1=p from by omega];exact h
theorem KpW.iK{C:Co}{q:Nat}{x:Wsh}(hx:C.wishes[q]?=some x):KpW x.id C (C.iK q):=λp b z hb hz hi=>by
 have hpq:p≠q:=λe=>by subst e;rw [hx] at hz;cases hz;exact hi rfl
 exact ⟨_,NN hb hpq,NN hz hpq⟩
theorem qvn{x w:Nat}{cx cw:Array Value}{tx tw:TypeId}(hx:m x=some (.cells cx tx (0,0)))(hw:m w=some (.cells cw tw (0,0))):rd (.eqq false) [lp x,lp w] m=some (.bool (decide (x=w))):=by
 show eqQ m false (lp x) (lp w)=_
 unfold eqQ
 by_cases e:x=w
 ·subst e
  simp
 ·simp [e,ch,hx,hw]
theorem Up{b9 x w:Nat}{cx cw:Array Value}{tx tw:TypeId}(h:m b9=some (.cells [lp w].toArray qQ (0,0)))(hx:m x=some (.cells cx tx (0,0)))(hw:m w=some (.cells cw tw (0,0))):MC Tryz.prog yB [lp x,lp b9] m λu M=>u=.bool (decide (x=w))∧Fr m M []:=by
 refine gw (by simp [Tryz.f33]) ?_
 simp (disch:=omega) only [go_sem,undef,h,qvn hx hw]
 exact ⟨rfl,Fr.refl _ _⟩
theorem Gm:∀ {vs:List Nat} {xs:List Wsh} {m:Mem},vs.length=xs.length→(we vs xs).p m→vs.Nodup
 | [],_,_,_,_=>List.nodup_nil
 | v::r,[],_,h,_=>by simp at h
 | v::r,x::xs,m,hl,h=>by
  have h:(wsA v x).p m∧(we r xs).p m∧JF (wsA v x) (we r xs):=h
  refine List.nodup_cons.2 ⟨λhv=>?_,Gm (by simpa using hl) h.2.1⟩
  refine h.2.2.1 v (by simp [wsA]) ?_
  obtain ⟨j,hj⟩:=List.getElem?_of_mem hv
  have hjl:=(List.getElem?_eq_some_iff.1 hj).1
  have hx:xs[j]?=some (xs[j]'(by simp at hl;omega)):=List.getElem?_eq_getElem (by simp at hl;omega)
  have hmem:wsA v (xs[j]'(by simp at hl;omega))∈List.zipWith wsA r xs:=List.mem_of_getElem? (i:=j) (by rw [List.getElem?_zipWith,hj,hx])
  have hfp:∀ (l:List As) (A:As),A∈l→∀ b∈A.fp,b∈(qP l).fp:=λl=>by
   induction l with
   | nil=>intro A hA;cases hA
   | cons B l ih =>
    intro A hA b hb
    rcases List.mem_cons.1 hA with rfl | hA
    ·exact List.mem_append_left _ hb
    ·exact List.mem_append_right _ (ih A hA b hb)
  exact hfp _ _ hmem v (by simp [wsA])
theorem oN:∀ {l:List Nat} {q b:Nat},l.Nodup→l[q]?=some b→l.filter (λx=>!decide (x=b))=l.eraseIdx q
 | [],q,b,_,h=>by simp at h
 | a::r,0,b,hn,h=>by
  simp at h;subst h
  have hr:=(List.nodup_cons.1 hn).1
  rw [List.filter_cons_of_neg (by simp),List.eraseIdx_cons_zero]
  refine List.filter_eq_self.2 λx hx=>?_
  have:x≠a:=λe=>hr (e▸hx)
  simp [this]
 | a::r,q+1,b,hn,h=>by
  have hr:=List.nodup_cons.1 hn
  have hb:b∈r:=List.mem_of_getElem? (by simpa using h)
  have hab:a≠b:=λe=>hr.1 (e▸hb)
  rw [List.filter_cons_of_pos (by simp [hab]),List.eraseIdx_cons_succ,oN hr.2 (by simpa using h)]
end Go.Fw
namespace Go.Fw
open Go.Proofs
variable {m m0 M:Mem} {S:List Nat} {L:List As}
variable {cb:Nat} {Y:Ly} {C:Co}
abbrev twB:NC:=.seq (.seq Zm (.cond (.qq 119) (.exit 5) .skip)) (.seq Zl (.seq Zi (.seq Zh (.cond (.qq 162) Zg .skip))))
abbrev twA:NC:=.seq Zo (.seq (.seq Zn (.cond (.qq 103) (.seq jC (.exit 5)) .skip)) twB)
def Co.Mh(C:Co)(q:Nat)(x:Wsh):Co:=if ¬ C.opn x.id then C.iK q else if fdL x.id C.leads≠none then C else C.Bo q x.tick
theorem qzB{M:Mem}{q b b9:Nat}{x:Wsh}{R:As}(hb:Y.wss[q]?=some b)(hx:C.wishes[q]?=some x)(ho:Y.ok C)(hnw:C.wishes.length≤10000)(H:Hq m M S [qw b9 (.cells [lp b].toArray qQ (0,0)),coA cb Y C,R]) :
  CM Tryz.prog jz [Y.wv,.func (.func yB) #[] #[lp b9]] M (qV qQ 1 Y.wv Y.wss.length (Y.wss.flatMap ptV)) λu A=>A=qV qQ 1 u (Y.wss.eraseIdx q).length ((Y.wss.eraseIdx q).flatMap ptV):=by
 have hlen:=ho.wss
 have H2:=Hq.coS (H.sel 3 [1,0] rfl (by decide) (by decide))
 have H3:Hq m M S [qw cb (.cells (Y.c C).cs.toArray qH (0,0)),xe Y.lb Y.lr C.cut C.lg,xT Y.xb Y.xr C.xcut C.xl,qV qd 1 Y.lv Y.lds.length (Y.lds.flatMap λv=>ptV v.b),qV qQ 1 Y.wv Y.wss.length (Y.wss.flatMap ptV),
  brA qB Y.rv Y.rs C.recs,qV qv 51 Y.ov C.out.length (C.out.flatMap Lt.cs),Qb Y.lds C.leads,we Y.wss C.wishes,qw b9 (.cells [lp b].toArray qQ (0,0))]:=H2
 have hap:JF (qV qQ 1 Y.wv Y.wss.length (Y.wss.flatMap ptV)) (we Y.wss C.wishes):=H3.apart 4 8 10 rfl (by decide) (by decide) (by decide)
 have hap9:JF (qw b9 (.cells [lp b].toArray qQ (0,0))) (qV qQ 1 Y.wv Y.wss.length (Y.wss.flatMap ptV)):=H3.apart 9 4 10 rfl (by decide) (by decide) (by decide)
 have hws:(we Y.wss C.wishes).p M:=H3.at 8 rfl
 have hb9:M b9=some (.cells [lp b].toArray qQ (0,0)):=cell_of (H3.at 9 rfl)
 have hnd:=Gm hlen hws
 have hfe:=oN hnd hb
 have hdel:=qyw (g:=yB) (cap:=lp b9) (p:=λy=>decide (y=b)) (H3.at 4 rfl) (by kernel_rfl) (λM2 f2 y hy=>by
  have hws2:=(we Y.wss C.wishes).fr hws f2 λb hb hbl=>hap.1 b hbl hb
  have h9:M2 b9=some (.cells [lp b].toArray qQ (0,0)):=f2.get hb9 λhbl=>hap9.2 b9 hbl (by simp)
  obtain ⟨j,hj⟩:=List.getElem?_of_mem hy
  have hjl:=(List.getElem?_eq_some_iff.1 hj).1
  have h1:=VN (cy hws2 hj (List.getElem?_eq_getElem (show j < C.wishes.length by omega)))
  have h2:=VN (cy hws2 hb hx)
  exact Up h9 h1 h2) (by omega)
 rw [hfe] at hdel
 exact hdel
theorem qve{C:Co}(h:C.Ok)(i:Int×Int):0≤(C.bas i).1∧(C.bas i).1≤1073741824:=by
 have hz:xY (C.at i).pr:=by
  unfold Co.at
  cases e:lkC i C.lg with
  | none=>exact (show xY (0,0) by decide)
  | some c=>exact (h.lg _ (IB e)).2.2.2.1
 unfold Co.bas
 cases fdW i C.wishes with
 | none=>exact ⟨hz.1,hz.2.1⟩
 | some j =>
  cases hw:C.wishes[j]? with
  | none=>simp only [Co.qqU,hw];exact ⟨hz.1,hz.2.1⟩
  | some w =>
   simp only [Co.qqU,hw]
   have hr:=h.wt w (List.mem_of_getElem? hw)
   split
   ·exact ⟨hr.1,hr.2.1⟩
   ·exact ⟨hz.1,hz.2.1⟩
abbrev twK(cb:Nat)(S:List Nat)(m:Mem)(C C2:Co)(i:Int×Int)(R:As)(a91 a92 a93:Value)(Q:Exit→Env→Mem→Prop):Prop :=
 ∀ Y' M (e:Exit) (E':Env),(e=.normal∨e=.exit 5)→E'.get 0=lp cb→E'.get 91=a91→E'.get 92=a92→E'.get 93=a93→E'.has 0=true→E'.has 91=true→E'.has 92=true→E'.has 93=true→Y'.ok C2→KpW i C C2→Hq m M S [coA cb Y' C2,R]→Q e E' M
theorem qzt{Q:Exit→Env→Mem→Prop}{E:Env}{q b b9:Nat}{x:Wsh}{R:As}{a91 a92 a93:Value}(hb:Y.wss[q]?=some b)(hx:C.wishes[q]?=some x)(ho:Y.ok C)(hnw:C.wishes.length≤10000)(H:Hq m M S [qw b9 (.cells [lp b].toArray qQ (0,0)),coA cb Y C,R])(K:∀ Y' M (E':Env),E'.get 0=lp cb→E'.get 91=a91→E'.get 92=a92→E'.get 93=a93→E'.has 0=true→E'.has 91=true→E'.has 92=true→E'.has 93=true→Y'.ok (C.iK q)→KpW x.id C (C.iK q)→Hq m M S [coA cb Y' (C.iK q),R]→Q (.exit 5) E' M)(e0:E.get 0=lp cb)(e9:E.get 9=lp b9)(e91:E.get 91=a91)(e92:E.get 92=a92)(e93:E.get 93=a93)(h0:E.has 0=true)(h9:E.has 9=true)(h91:E.has 91=true)(h92:E.has 92=true)(h93:E.has 93=true) :
  wpN Tryz.prog (.seq jC (.exit 5)) Q E M:=by
 have hdel:=qzB hb hx ho hnw H
 have hlen:=ho.wss
 have hc:=qy (H.at 1 rfl)
 refine Own.zC (gf (H.at 1 rfl)) λwa wc hwv=>?_
 rw [hwv] at hdel
 have H:=Hq.coS (H.sel 3 [1,0,2] rfl (by decide) (by decide))
 have H:Hq m M S [qw cb (.cells (Y.c C).cs.toArray qH (0,0)),xe Y.lb Y.lr C.cut C.lg,xT Y.xb Y.xr C.xcut C.xl,qV qd 1 Y.lv Y.lds.length (Y.lds.flatMap λv=>ptV v.b),qV qQ 1 (.slice wa Y.wss.length wc) Y.wss.length (Y.wss.flatMap ptV),
  brA qB Y.rv Y.rs C.recs,qV qv 51 Y.ov C.out.length (C.out.flatMap Lt.cs),Qb Y.lds C.leads,we Y.wss C.wishes,qw b9 (.cells [lp b].toArray qQ (0,0)),R]:=by rw [← hwv];exact H
 simp (disch:=omega) only [go_sem,undef,e0,e9,e91,e92,e93,h0,h9,h91,h92,h93,hc,Ly.c,hwv]
 refine qU 4 H hdel rfl λu M A' eA f H=>?_
 subst eA
 refine Own.zC (H.at 4 rfl) λa2 c2 e2=>Exists.elim (⟨_,rfl⟩:∃ n',n'=(Y.wss.eraseIdx q).length) λn' hn'=>?_
 rw [← hn'] at e2
 subst e2
 have H:Hq m M S [qw cb (.cells (Y.c C).cs.toArray qH (0,0)),xe Y.lb Y.lr C.cut C.lg,xT Y.xb Y.xr C.xcut C.xl,qV qd 1 Y.lv Y.lds.length (Y.lds.flatMap λv=>ptV v.b),qV qQ 1 (.slice a2 n' c2) (Y.wss.eraseIdx q).length ((Y.wss.eraseIdx q).flatMap ptV),
  brA qB Y.rv Y.rs C.recs,qV qv 51 Y.ov C.out.length (C.out.flatMap Lt.cs),Qb Y.lds C.leads,we Y.wss C.wishes,qw b9 (.cells [lp b].toArray qQ (0,0)),R]:=H
 simp (disch:=omega) only [go_sem,undef,e0,e9,e91,e92,e93,h0,h9,h91,h92,h93,H.cs,Ly.c]
 refine xK H λM f H=>?_
 have hsub:(List.zipWith wsA (Y.wss.eraseIdx q) (C.wishes.eraseIdx q)).Sublist (List.zipWith wsA Y.wss C.wishes):=by
  have e:List.zipWith wsA (Y.wss.eraseIdx q) (C.wishes.eraseIdx q)=(List.zipWith wsA Y.wss C.wishes).eraseIdx q:=by
   apply List.ext_getElem?
   intro t
   rw [List.getElem?_eraseIdx,List.getElem?_zipWith,List.getElem?_eraseIdx,List.getElem?_eraseIdx,List.getElem?_zipWith,List.getElem?_zipWith]
   by_cases ht:t < q
   ·simp only [if_pos ht]
   ·simp only [if_neg ht]
  rw [e]
  exact List.eraseIdx_sublist _ _
 have H:Hq m M S (qP (List.zipWith wsA Y.wss C.wishes)::[qw cb (.cells (Ly.c { Y with wv:=.slice a2 n' c2,wss:=Y.wss.eraseIdx q } (C.iK q)).cs.toArray qH (0,0)),xe Y.lb Y.lr C.cut C.lg,xT Y.xb Y.xr C.xcut C.xl,qV qd 1 Y.lv Y.lds.length (Y.lds.flatMap λv=>ptV v.b),qV qQ 1 (.slice a2 n' c2) (Y.wss.eraseIdx q).length ((Y.wss.eraseIdx q).flatMap ptV),
  brA qB Y.rv Y.rs C.recs,qV qv 51 Y.ov C.out.length (C.out.flatMap Lt.cs),Qb Y.lds C.leads,R]):=H.sel 11 [8,0,1,2,3,4,5,6,7,10] rfl (by decide) (by decide)
 have H:=Hq.subL H hsub
 have H:Hq m M S (coL cb { Y with wv:=.slice a2 n' c2,wss:=Y.wss.eraseIdx q } (C.iK q)++[R]):=H.sel 10 [1,2,3,4,5,6,7,8,0,9] rfl (by decide) (by decide)
 have H:=Hq.coJ H
 have ho2:({ Y with wv:=.slice a2 n' c2,wss:=Y.wss.eraseIdx q }:Ly).ok (C.iK q):=⟨ho.lds,by show (Y.wss.eraseIdx q).length=(C.wishes.eraseIdx q).length;rw [List.length_eraseIdx,List.length_eraseIdx,hlen],by show Y.wss.eraseIdx q=C.wb.eraseIdx q;rw [ho.wb]⟩
 simp (disch:=omega) only [go_sem,undef,e0,e9,e91,e92,e93,h0,h9,h91,h92,h93]
 exact K _ _ _ rfl rfl rfl rfl rfl rfl rfl rfl ho2 (KpW.iK hx) H
end Go.Fw
namespace Go.Fw
open Go.Proofs
variable {m m0 M:Mem} {S:List Nat} {L:List As}
variable {cb:Nat} {Y:Ly} {C:Co}
theorem qwr{me n:Nat}{i:Int}(h:me < n)(h0:0≤i)(h1:i < n):0≤((me:Int) - i+(n:Nat)).tmod (n:Nat)∧((me:Int) - i+(n:Nat)).tmod (n:Nat) < (n:Nat) :=
 ⟨Int.tmod_nonneg _ (by omega),Int.tmod_lt_of_pos _ (by omega)⟩
abbrev twC:NC:=.seq Zl (.seq Zi (.seq Zh (.cond (.qq 162) Zg .skip)))
theorem qzs{Q:Exit→Env→Mem→Prop}{E:Env}{q b b9:Nat}{x:Wsh}{R:As}{a91 a92 a93:Value}(hb:Y.wss[q]?=some b)(hx:C.wishes[q]?=some x)(ho:Y.ok C)(hok:C.Ok)(hop:C.opn x.id)(hrec:C.recs.length≤900000)(hn:C.leads.length≤90000)(hout:C.out.length≤900000)(htk:0≤x.ticks∧x.ticks≤1000000000)(H:Hq m M S [qw b9 (.cells [lp b].toArray qQ (0,0)),coA cb Y C,R])(K:twK cb S m C (C.Bo q x.tick) x.id R a91 a92 a93 Q)(e0:E.get 0=lp cb)(e9:E.get 9=lp b9)(e91:E.get 91=a91)(e92:E.get 92=a92)(e93:E.get 93=a93)(h0:E.has 0=true)(h9:E.has 9=true)(h91:E.has 91=true)(h92:E.has 92=true)(h93:E.has 93=true) :
  wpN Tryz.prog twC Q E M:=by
 have hn7:C.n≤7:=by have:=hok.n;omega
 have hme:=hok.me
 have hi0:=hop.2.1.1
 have hi1:=hop.2.1.2
 have hfar:=qwr hme hi0 hi1
 have hR0:C.Bo q x.tick=if x.tick.ticks≥12+6*C.far x.tick.id∧((C.kC q x.tick).recover x.tick.id).2=true then ((C.kC q x.tick).recover x.tick.id).1.kC q { x.tick with ticks:=0 } else C.kC q x.tick:=rfl
 have hF:C.far x.tick.id=((C.me:Int) - x.id.1+(C.n:Nat)).tmod (C.n:Nat):=rfl
 rw [hR0,hF] at K
 clear hR0 hF
 have H:=Lp hb hx (H.sel 3 [1,0,2] rfl (by decide) (by decide))
 have H:Hq m M S [qw b (.cells x.cs.toArray VV (0,0)),qP (coW cb Y C q),qw b9 (.cells [lp b].toArray qQ (0,0)),R]:=H
 simp (disch:=omega) only [go_sem,undef,e0,e9,e91,e92,e93,h0,h9,h91,h92,h93,H.cs]
 refine xK H λM f H=>?_
 have H:Hq m M S (wsA b x.tick::qP (coW cb Y C q)::[qw b9 (.cells [lp b].toArray qQ (0,0)),R]):=H
 have H:=rz hb hx H
 have ho1:=Bq ho q x.tick
 have hql:=(List.getElem?_eq_some_iff.1 hx).1
 have hx1:(C.kC q x.tick).wishes[q]?=some x.tick:=by show (C.wishes.set q x.tick)[q]?=_;exact List.getElem?_set_self hql
 have hk1:KpW x.id C (C.kC q x.tick):=KpW.kC hx
 have hst:=AU C q x x.tick hx rfl id
 have hok1:=hst.ok hok
 have hbas:=qve hok1 x.tick.id
 have hid:x.tick.id=x.id:=rfl
 have htt:x.tick.ticks=x.ticks+1:=rfl
 have hcr:=λM (hA:(coA cb Y (C.kC q x.tick)).p M)=>Wn hA ho1 x.tick.id (by omega) (by omega) (Nat.le_trans hrec (by decide)) (Nat.le_trans hn (by decide)) (Nat.le_trans hok1.wishes (by decide)) hn7 (Nat.le_trans hout (by decide))
 have hrw:=MG (C.kC q x.tick) x.tick.id
 have hrn:=qQO (C:=C.kC q x.tick) (i:=x.tick.id)
 have Hn:Hq m M S [coA cb Y (C.kC q x.tick),qw b9 (.cells [lp b].toArray qQ (0,0)),R]:=H
 clear H
 have hmeC:(C.kC q x.tick).me=C.me:=rfl
 have hnC:(C.kC q x.tick).n=C.n:=rfl
 have hwC:(C.kC q x.tick).wb=C.wb:=rfl
 rw [← hid] at hk1 K
 generalize C.kC q x.tick=C1 at *
 have hti:x.tick.id.1=x.id.1:=rfl
 generalize hxx:x.tick=w at *
 have hcw:=VN (cy (nV (Hn.at 0 rfl)) hb hx1)
 have hcc:=qy (Hn.at 0 rfl)
 rw [← hti] at hfar hi0 hi1
 refine Exists.elim (⟨_,rfl⟩:∃ F,F=((C.me:Int) - w.id.1+(C.n:Nat)).tmod (C.n:Nat)) λF hF=>?_
 rw [← hF] at hfar K
 have hb9:=Hn.cs.1
 by_cases hge:w.ticks≥12+6*F
 ·simp (disch:=omega) only [go_sem,undef,e0,e9,e91,e92,e93,h0,h9,h91,h92,h93,Hn.cs,hcw,hcc,Ly.c,hmeC,hnC,lL,← hF,qZ hge]
  refine zW Hn (hcr _ (Hn.at 0 rfl)) λu M A' hR f H3=>?_
  refine hR.E λY2 eu ho2 eA=>?_
  subst eu eA
  clear hR hcr
  have hyw:Y2.wss[q]?=some b:=by rw [ho2.wb,hrw.2,hwC,← ho.wb];exact hb
  have hyx:(C1.recover w.id).1.wishes[q]?=some w:=by rw [hrw.1];exact hx1
  by_cases hr:(C1.recover w.id).2=true
  ·rw [if_pos ⟨hge,hr⟩] at K
   rw [hr]
   have H4:=Lp hyw hyx H3
   have H4:Hq m M S [qw b (.cells w.cs.toArray VV (0,0)),qP (coW cb Y2 (C1.recover w.id).1 q),qw b9 (.cells [lp b].toArray qQ (0,0)),R]:=H4
   simp (disch:=omega) only [go_sem,undef,e0,e9,e91,e92,e93,h0,h9,h91,h92,h93,H4.cs]
   refine xK H4 λM f H4=>?_
   have H4:Hq m M S (wsA b { w with ticks:=0 }::qP (coW cb Y2 (C1.recover w.id).1 q)::[qw b9 (.cells [lp b].toArray qQ (0,0)),R]):=H4
   have H4:=rz hyw hyx H4
   have ho3:=Bq ho2 q { w with ticks:=0 }
   simp (disch:=omega) only [go_sem,undef]
   exact K _ _ _ _ (.inl rfl) rfl rfl rfl rfl rfl rfl rfl rfl ho3 ((hk1.trans (KpW.same hrw.2 hrw.1)).trans (KpW.kC hyx)) (H4.sel 3 [0,2] rfl (by decide) (by decide))
  ·rw [if_neg (λh=>hr h.2)] at K
   have hrf:(C1.recover w.id).2=false:=by simpa using hr
   rw [hrn hrf] at H3 ho2
   rw [hrf]
   simp (disch:=omega) only [go_sem,undef,e0,e9,e91,e92,e93,h0,h9,h91,h92,h93]
   exact K _ _ _ _ (.inl rfl) rfl rfl rfl rfl rfl rfl rfl rfl ho2 hk1 (H3.sel 3 [0,2] rfl (by decide) (by decide))
 ·rw [if_neg (λh=>hge h.1)] at K
  simp (disch:=omega) only [go_sem,undef,e0,e9,e91,e92,e93,h0,h9,h91,h92,h93,Hn.cs,hcw,hcc,Ly.c,hmeC,hnC,lL,← hF,qX hge]
  exact K _ _ _ _ (.inl rfl) rfl rfl rfl rfl rfl rfl rfl rfl ho1 hk1 (Hn.sel 3 [0,2] rfl (by decide) (by decide))
end Go.Fw
namespace Go.Fw
open Go.Proofs
variable {m m0 M:Mem} {S:List Nat} {L:List As}
variable {cb:Nat} {Y:Ly} {C:Co}
theorem Un{Q:Exit→Env→Mem→Prop}{E:Env}{q b bx o:Nat}{x:Wsh}{R:As}{a:Option Addr}{n c:Nat}{j:Int}(hb:Y.wss[q]?=some b)(hx:C.wishes[q]?=some x)(ho:Y.ok C)(hok:C.Ok)(hrec:C.recs.length≤900000)(hn:C.leads.length≤90000)(hout:C.out.length≤900000)(htk:0≤x.ticks∧x.ticks≤1000000000)(hix:∀ M,rd (.ixs 1) [.slice a n c,.int .i64 j] M=some (.pointer (some ⟨bx,o,none⟩)))(hld:cellAt (M bx) o=some (lp b))(H:Hq m M S [coA cb Y C,R])(K:twK cb S m C (C.Mh q x) x.id R (.slice a n c) (.int .i64 (n:Nat)) (.int .i64 j) Q)(e0:E.get 0=lp cb)(e91:E.get 91=.slice a n c)(e92:E.get 92=.int .i64 (n:Nat))(e93:E.get 93=.int .i64 j)(h0:E.has 0=true)(h91:E.has 91=true)(h92:E.has 92=true)(h93:E.has 93=true) :
  wpN Tryz.prog twA Q E M:=by
 have hnw:=Nat.le_trans hok.wishes (show 256≤10000 by decide)
 have hlen:=ho.lds
 have hV:C.Mh q x=if ¬ C.opn x.id then C.iK q else if fdL x.id C.leads≠none then C else C.Bo q x.tick:=rfl
 rw [hV] at K
 clear hV
 show wpN Tryz.prog (.seq Zo (.seq (.seq Zn (.cond (.qq 103) (.seq jC (.exit 5)) .skip)) (.seq (.seq Zm (.cond (.qq 119) (.exit 5) .skip)) twC))) Q E M
 generalize hT:twC=T
 generalize hT2:(NC.seq jC (.exit 5))=T2
 simp (disch:=omega) only [go_sem,undef,e0,e91,e92,e93,h0,h91,h92,h93,hix,hld]
 refine qg H λb9 M f H=>?_
 simp (disch:=omega) only [go_sem,undef,e0,e91,e92,e93,h0,h91,h92,h93,H.cs]
 refine xK H λM f H=>?_
 have hcw:=VN (cy (nV (H.at 1 rfl)) hb hx)
 simp (disch:=omega) only [go_sem,undef,e0,e91,e92,e93,h0,h91,h92,h93,H.cs,hcw]
 refine qa H (jT (H.at 1 rfl) x.id) λM f H=>?_
 by_cases hop:C.opn x.id
 ·rw [if_neg (λh=>h hop)] at K
  have hcw:=VN (cy (nV (H.at 1 rfl)) hb hx)
  simp (disch:=omega) only [go_sem,undef,e0,e91,e92,e93,h0,h91,h92,h93,H.cs,hcw,qZ hop,Bool.not_true]
  refine qa H (XA (H.at 1 rfl) ho x.id (by omega)) λM f H=>?_
  have hfo:(∃ p,fdL x.id C.leads=some p)∨fdL x.id C.leads=none:=by
   cases fdL x.id C.leads with
   | none=>exact .inr rfl
   | some j=>exact .inl ⟨j,rfl⟩
  rcases hfo with ⟨p,hf⟩ | hf
  ·rw [if_pos (by rw [hf];simp)] at K
   have hpl:p < C.leads.length:=by
    unfold fdL at hf
    rw [List.findIdx?_eq_some_iff_getElem] at hf
    exact hf.1
   refine Exists.elim (⟨Y.lds[p]'(by omega),List.getElem?_eq_getElem (by omega)⟩:∃ v,Y.lds[p]?=some v) λv hv=>?_
   have hpt:ptO Y.lds (some p)=lp v.b:=by simp [ptO,hv]
   rw [hf]
   simp (disch:=omega) only [go_sem,undef,e0,e91,e92,e93,h0,h91,h92,h93,H.cs,hpt,GG]
   exact K _ _ _ _ (.inr rfl) rfl rfl rfl rfl rfl rfl rfl rfl ho (KpW.same rfl rfl) H.tail
  ·rw [if_neg (by rw [hf];simp)] at K
   have hpt:ptO Y.lds none=.pointer none:=rfl
   rw [hf]
   simp (disch:=omega) only [go_sem,undef,e0,e91,e92,e93,h0,h91,h92,h93,H.cs,hpt,GH]
   subst hT
   exact qzs hb hx ho hok hop hrec hn hout htk H K rfl rfl rfl rfl rfl rfl rfl rfl rfl rfl
 ·rw [if_pos hop] at K
  simp (disch:=omega) only [go_sem,undef,e0,e91,e92,e93,h0,h91,h92,h93,H.cs,qX hop,Bool.not_false]
  subst hT2
  exact qzt (a91:=.slice a n c) (a92:=.int .i64 (n:Nat)) (a93:=.int .i64 j) hb hx ho hnw H (λY' M E' g0 g1 g2 g3 k0 k1 k2 k3 hy hk H=>K Y' M (.exit 5) E' (.inr rfl) g0 g1 g2 g3 k0 k1 k2 k3 hy hk H) rfl rfl rfl rfl rfl rfl rfl rfl rfl rfl
theorem qzD{C:Co}(hn:(C.wishes.map Wsh.id).Nodup){p:Nat}{x:Wsh}(hx:C.wishes[p]?=some x):C.YV x.id=C.Mh p x:=by
 unfold Co.YV
 rw [qZU hn hx]
 simp only [hx]
 rfl
theorem qyv(C:Co)(q:Nat):Sts C (C.iK q) 0 0 0 :=
 ⟨λh=>⟨h.n,h.me,h.xl,h.lg,Nat.le_trans (by show (C.wishes.eraseIdx q).length≤_;rw [List.length_eraseIdx];split<;>omega) h.wishes,h.lds,h.lnd,h.wnd.sublist ((List.eraseIdx_sublist _ _).map _),λw hw=>h.wt w ((List.eraseIdx_sublist _ _).subset hw)⟩,⟨by simp [Co.iK],by simp [Co.iK],by simp [Co.iK],rfl,rfl,rfl,rfl⟩⟩
theorem qzE(C:Co)(q:Nat)(x0 x:Wsh)(hx:C.wishes[q]?=some x0)(hid:x.id=x0.id)(ht:xY x0.told→xY x.told):Sts C (C.Bo q x) 1 C.n 1:=by
 have h1:=AU C q x0 x hx hid ht
 have hql:=(List.getElem?_eq_some_iff.1 hx).1
 unfold Co.Bo
 split
 ·have h2:=lH (C.kC q x) x.id
  have hw:=(MG (C.kC q x) x.id).1
  have hx2:((C.kC q x).recover x.id).1.wishes[q]?=some x:=by rw [hw];show (C.wishes.set q x)[q]?=_;exact List.getElem?_set_self hql
  have h3:=AU ((C.kC q x).recover x.id).1 q x { x with ticks:=0 } hx2 rfl id
  rw [show (C.kC q x).n=C.n from rfl] at h2
  exact ((h1.trans h2).trans h3).up (by omega) (by omega) (by omega)
 ·exact h1.up (by omega) (by omega) (by omega)
theorem qzC(C:Co)(i:Int×Int):Sts C (C.YV i) 1 C.n 1:=by
 have hr:Sts C C 1 C.n 1:=(Sts.refl C).up (by omega) (by omega) (by omega)
 unfold Co.YV
 cases fdW i C.wishes with
 | none=>exact hr
 | some q =>
  cases h:C.wishes[q]? with
  | none=>simp only [h];exact hr
  | some w =>
   simp only [h]
   split
   ·exact (qyv C q).up (by omega) (by omega) (by omega)
   split
   ·exact hr
   ·exact qzE C q w w.tick h rfl id
theorem Mi:∀ (ids:List (Int×Int)) (C:Co),C.n≤7→Sts C (ids.foldl Co.YV C) ids.length (7*ids.length) ids.length
 | [],C,_=>Sts.refl C
 | i::r,C,hn=>by
  have h1:=qzC C i
  have h2:=Mi r (C.YV i) (by rw [h1.sz.n];exact hn)
  exact (h1.trans h2).up (by simp;omega) (by simp;omega) (by simp;omega)
abbrev twL:NC:=.seq Zp (.block 4 (.loop [0,91,92,93] kU))
theorem qQi:kU=.seq Yj (.seq (.cond (.qq 94) .skip (.exit 4)) (.seq (.block 5 twA) Yz)):=rfl
theorem Mg{Q:Exit→Env→Mem→Prop}{E:Env}(ho:Y.ok C)(hok:C.Ok)(hrec:C.recs.length≤800000)(hn:C.leads.length≤80000)(hout:C.out.length≤800000)(htk:∀ w∈C.wishes,0≤w.ticks∧w.ticks≤1000000000)(H:Hq m M S [coA cb Y C])(K:∀ Y' M (E':Env),Y'.ok C.Ml→Hq m M S [coA cb Y' C.Ml]→Q .normal E' M)(e0:E.get 0=lp cb)(h0:E.has 0=true) :
  wpN Tryz.prog twL Q E M:=by
 have hlen:=ho.wss
 have hwl:=hok.wishes
 have hrow:RdS 1 ptV M Y.wv Y.wss:=Own.rds (by decide) (λ_=>rfl) (gf (H.at 0 rfl))
 have hc:=qy (H.at 0 rfl)
 have hT1:C.Ml=(C.wishes.map Wsh.id).foldl Co.YV C:=rfl
 rw [hT1] at K
 clear hT1
 show wpN Tryz.prog (.seq Zp (.block 4 (.loop [0,91,92,93] kU))) Q E M
 rw [qQi]
 generalize hT:twA=T
 simp (disch:=omega) only [go_sem,undef,e0,h0,hc,Ly.c]
 refine yw H (qxO hrow (by omega)) λu M A' hR f H=>?_
 refine Exists.elim hR λa hh=>Exists.elim hh λc hh=>?_
 have eu:=hh.1
 have eA:=hh.2
 subst eu eA
 clear hh hR hrow hc
 have H:=H.perm (List.Perm.swap ..)
 have hwb:=ho.wb
 have hrem:∀ (t:Nat),0≤t→∀ (b:Nat) (x:Wsh),Y.wss[t]?=some b→C.wishes[t]?=some x→∃ p:Nat,C.wb[p]?=some b∧C.wishes[p]?=some x:=λt _ v x hv hx=>⟨t,by rw [← hwb];exact hv,hx⟩
 have hn7:C.n≤7:=by have:=hok.n;omega
 have hids:∀ (t:Nat) (x:Wsh),C.wishes[t]?=some x→(C.wishes.map Wsh.id)[t]?=some x.id:=λt x hx=>by rw [List.getElem?_map,hx];rfl
 have hnd:=hok.wnd
 simp (disch:=omega) only [go_sem,undef,e0,h0]
 refine qe (λk E m'=>∃ (j:Nat) (Y':Ly),j≤C.wishes.length∧k=C.wishes.length - j∧E=[(0,lp cb),(91,.slice a Y.wss.length c),(92,.int .i64 (Y.wss.length:Nat)),(93,.int .i64 (j:Nat))]∧Y'.ok (((C.wishes.map Wsh.id).take j).foldl Co.YV C) ∧
  (∀ (t:Nat),j≤t→∀ (b:Nat) (x:Wsh),Y.wss[t]?=some b→C.wishes[t]?=some x→∃ p:Nat,(((C.wishes.map Wsh.id).take j).foldl Co.YV C).wb[p]?=some b∧(((C.wishes.map Wsh.id).take j).foldl Co.YV C).wishes[p]?=some x) ∧
  Hq m m' S [coA cb Y' (((C.wishes.map Wsh.id).take j).foldl Co.YV C),qV qQ 1 (.slice a Y.wss.length c) Y.wss.length (Y.wss.flatMap ptV)]) C.wishes.length rfl ⟨0,Y,by omega,rfl,rfl,ho,hrem,H⟩ ?_
 clear H hrem f
 rintro k E M1 ⟨j,Y',hj,rfl,rfl,ho',hrem,H⟩
 by_cases hlt:j < C.wishes.length
 ·have hrd:RdS 1 ptV M1 (.slice a Y.wss.length c) Y.wss:=Own.rds (by decide) (λ_=>rfl) (H.at 1 rfl)
  refine RdS.elK hrd (show j < Y.wss.length by omega) (by decide) λbx o b hb hix hE=>?_
  have hp0:(ptV b)[0]?=some (lp b):=rfl
  refine Exists.elim (⟨C.wishes[j],List.getElem?_eq_getElem hlt⟩:∃ x,C.wishes[j]?=some x) λx hx=>?_
  have hst:=HZ Co.YV C (hids j x hx)
  have hF:=Mi ((C.wishes.map Wsh.id).take j) C hn7
  have hlj:((C.wishes.map Wsh.id).take j).length≤256:=by rw [List.length_take];omega
  have hok':=hF.ok hok
  have hs1:=hF.sz.recs
  have hs2:=hF.sz.out
  have hs3:=hF.sz.leads
  refine Exists.elim (hrem j (Nat.le_refl _) b x hb hx) λp hp=>?_
  have htx:=htk x (List.mem_of_getElem? hx)
  generalize ((C.wishes.map Wsh.id).take j).foldl Co.YV C=C' at *
  rw [qzD hok'.wnd hp.2] at hst
  have hbw:Y'.wss[p]?=some b:=by rw [ho'.wb];exact hp.1
  have hld:cellAt (M1 bx) o=some (lp b):=by have:=hE.cell 0 _ hp0;rwa [Nat.add_zero] at this
  have hix2:=λM=>hix .i64 M
  simp (disch:=omega) only [go_sem,undef,qZ (show ((j:Nat):Int) < (Y.wss.length:Nat) by omega)]
  subst hT
  refine Un hbw hp.2 ho' hok' (by omega) (by omega) (by omega) htx hix2 hld H (λY2 M e E2 he g0 g91 g92 g93 k0 k91 k92 k93 ho2 hk2 H=>?_) rfl rfl rfl rfl rfl rfl rfl rfl
  have hrem3:∀ (t:Nat),j+1≤t→∀ (v:Nat) (y:Wsh),Y.wss[t]?=some v→C.wishes[t]?=some y→∃ q:Nat,(C'.Mh p x).wb[q]?=some v∧(C'.Mh p x).wishes[q]?=some y:=λt ht v y hv hy=>by
   obtain ⟨q,h1,h2⟩:=hrem t (by omega) v y hv hy
   refine hk2 q v y h1 h2 λe=>?_
   have hty:=(List.getElem?_eq_some_iff.1 hy).1
   have:=(List.getElem?_inj (by simpa using hty) hnd).1 ((hids t y hy).trans (by rw [e,hids j x hx]))
   omega
  clear hrem
  rcases he with rfl | rfl
  all_goals
   simp (disch:=omega) only [go_sem,undef,g0,g91,g92,g93,k0,k91,k92,k93]
   exact qK (C.wishes.length - (j+1)) (by omega) ⟨j+1,Y2,by omega,rfl,rfl,by rw [hst];exact ho2,by rw [hst];exact hrem3,by rw [hst];exact H⟩
 ·have e:j=C.wishes.length:=by omega
  subst e
  have htl:(C.wishes.map Wsh.id).take C.wishes.length=C.wishes.map Wsh.id:=by rw [← List.length_map Wsh.id,List.take_length]
  rw [htl] at ho' H
  simp (disch:=omega) only [go_sem,undef,qX (show ¬ ((C.wishes.length:Nat):Int) < (Y.wss.length:Nat) by omega)]
  exact K Y' M1 _ ho' (H.drop 1)
end Go.Fw
namespace Go.Fw
open Go.Proofs
variable {m m0 M:Mem} {S:List Nat} {L:List As}
variable {cb:Nat} {Y:Ly} {C:Co}
def Co.Tj(C:Co)(l:List (Int×Int))(bs:List Nat):Co:=(C.yv.YY l bs).Ml
def TikR(cb:Nat)(C:Co)(u:Value)(A:As):Prop:=∃ (l':List (Int×Int)) (bs:List Nat),l'.Perm (zw C.yv.lg)∧Asc l'∧bs.length=l'.length∧CoR cb (C.Tj l' bs) (.tuple #[]) u A
theorem Uo:XG=.seq tcL (.seq ttL twL):=rfl
theorem OY(h:(coA cb Y C).p m)(ho:Y.ok C)(hok:C.Ok)(hrec:C.recs.length≤100000)(hn:C.leads.length≤10000)(hout:C.out.length≤100000)(htk:∀ l∈C.leads,0≤l.ticks∧l.ticks≤1000000000)(hlg:C.yv.lg.length < 1000000)(htw:∀ l bs,∀ w∈(C.yv.YY l bs).wishes,0≤w.ticks∧w.ticks≤1000000000) :
  CM Tryz.prog rO [lp cb] m (coA cb Y C) (TikR cb C):=by
 have H:=Hq.one h
 refine pR (by simp [Tryz.f33]) ?_
 rw [Uo]
 have h1:=Bp (C.leads.map Ld.id) C (by have:=hok.n;omega)
 have e1:(C.leads.map Ld.id).foldl Co.YW C=C.yv:=rfl
 rw [e1] at h1
 have hll:(C.leads.map Ld.id).length=C.leads.length:=List.length_map ..
 have z1:=h1.sz.recs
 have z2:=h1.sz.out
 have z3:=h1.sz.leads
 have hok1:=h1.ok hok
 generalize hT2:ttL=T2
 generalize hT3:twL=T3
 refine Pt (L:=[]) ho hok (by omega) (by omega) (by omega) htk H (λY1 M E g0 k0 ho1 H=>?_) rfl rfl
 subst hT2
 refine Ps (L:=[]) ho1 hok1 (by omega) (by omega) H (λY2 M E l' bs hp ha hb g0 k0 ho2 H=>?_) g0 k0
 subst hT3
 have h2:=Br (l'.zip bs) C.yv
 have e2:(l'.zip bs).foldl (λC p=>C.XP p.2 p.1) C.yv=C.yv.YY l' bs:=rfl
 rw [e2] at h2
 have y1:=h2.sz.recs
 have y2:=h2.sz.out
 have y3:=h2.sz.leads
 refine Mg ho2 (h2.ok hok1) (by omega) (by omega) (by omega) (htw l' bs) H (λY3 M E ho3 H=>?_) g0 k0
 simp (disch:=omega) only [go_sem,undef]
 refine ⟨coA cb Y3 (C.Tj l' bs),⟨l',bs,hp,ha,hb,rfl,Y3,ho3,rfl⟩,H.hs.1,H.fr,?_,?_⟩
 ·intro b hb
  rw [qu]
  rw [qu] at hb
  exact H.done.2.2 b hb
 ·exact H.done.2.2
end Go.Fw
namespace Go.Fw
open Go.Proofs
variable {m m0 M:Mem} {S:List Nat} {L:List As}
variable {cb:Nat} {Y:Ly} {C:Co}
end Go.Fw
