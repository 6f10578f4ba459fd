import Derived.Test.YtimedjfpihdffaaGreatCoZ
set_option linter.unusedVariables false
set_option linter.unusedSimpArgs false
set_option maxHeartbeats 16000000
namespace Go.Fw
open Go.Proofs
variable {m m0 M:Mem} {S:List Nat} {L:List As}
variable {cb:Nat} {Y:Ly} {C:Co}
def Co.set(C:Co)(i:Int×Int)(x:Cel):Co×Bool:=if eL C.cut C.lg i x then (({ C with lg:=upC i x C.lg,recs:=C.recs++[lI i x] }:Co).note i x,true) else (C,false)
theorem cL(h:(coA cb Y C).p m)(ho:Y.ok C)(i:Int×Int)(x:Cel)(hn:C.recs.length≤1000000):CM Tryz.prog cU [lp cb,pv i,x.v] m (coA cb Y C) (CoK cb Y (C.set i x).1 (.bool (C.set i x).2)):=by
 have H:=Hq.co h
 have hrl:Y.rs.length=C.recs.length:=BW (H.at 5 rfl)
 by_cases hm:eL C.cut C.lg i x
 ·have hs:C.set i x=(({ C with lg:=upC i x C.lg,recs:=C.recs++[lI i x] }:Co).note i x,true):=if_pos hm
  rw [hs]
  have hi:=hm.1
  have hi1:=hi.1
  have hi2:=hi.2.1
  have hi3:=hi.2.2.1
  have hi4:=hi.2.2.2
  have hx:=hm.2.2.1
  refine bg (by simp [Tryz.f33]) ?_
  simp (disch:=omega) only [go_sem,undef]
  refine qg H λb4 M f H=>?_
  simp (disch:=omega) only [go_sem,undef]
  refine qg H λb5 M f H=>?_
  simp (disch:=omega) only [go_sem,undef,H.cs,Ly.c]
  refine Ux 3 (xe Y.lb Y.lr C.cut C.lg) (xe Y.lb Y.lr C.cut (if eL C.cut C.lg i x then upC i x C.lg else C.lg)) H (GP (H.at 3 rfl) i x) rfl rfl rfl λM f H=>?_
  have H:Hq m M (coA cb Y C).wp (qw b5 (.cells x.cs.toArray qc (0,0))::qw b4 (.cells (pc i).toArray qW (0,0))::qw cb (.cells (Y.c C).cs.toArray qH (0,0))::coT Y { C with lg:=upC i x C.lg }):=by rw [if_pos hm] at H;exact H
  simp (disch:=omega) only [go_sem,undef,H.cs,Ly.c,qZ hm,Bool.not_true]
  refine yw H (Iu i ⟨⟨by omega,by omega⟩,by omega,by omega⟩ x hx) λu M A' eA f H=>?_
  subst eA
  refine Own.zC (H.at 0 rfl) λa3 c3 e=>?_
  subst e
  simp (disch:=omega) only [go_sem,undef,H.cs,Ly.c]
  refine qg H λb6 M f H=>?_
  have H:Hq m M (coA cb Y C).wp [qw b6 (.cells [Value.slice a3 (lI i x).length c3].toArray qB (0,0)),byA jf (.slice a3 (lI i x).length c3) (lI i x),brA qB Y.rv Y.rs C.recs,qw b5 (.cells x.cs.toArray qc (0,0)),qw b4 (.cells (pc i).toArray qW (0,0)),qw cb (.cells (Y.c C).cs.toArray qH (0,0)),xe Y.lb Y.lr C.cut (upC i x C.lg),xT Y.xb Y.xr C.xcut C.xl,qV qd 1 Y.lv Y.lds.length (Y.lds.flatMap λv=>ptV v.b),qV qQ 1 Y.wv Y.wss.length (Y.wss.flatMap ptV),qV qv 51 Y.ov C.out.length (C.out.flatMap Lt.cs),Qb Y.lds C.leads,we Y.wss C.wishes] :=
   H.sel 13 [0,1,9,2,3,4,5,6,7,8,10,11,12] rfl (by decide) (by decide)
  simp (disch:=omega) only [go_sem,undef,H.cs,Ly.c]
  refine qJu H rfl rfl (by omega) λw M H=>?_
  refine Own.zC (H.at 0 rfl).1 λa4 c4 e=>Exists.elim (⟨_,rfl⟩:∃ n',n'=(Y.rs++[Value.slice a3 (lI i x).length c3]).length) λn' hn'=>?_
  rw [← hn'] at e
  subst e
  simp (disch:=omega) only [go_sem,undef,H.cs,Ly.c]
  refine wrQ 3 H rfl λM f H=>?_
  have H:Hq m M (coA cb Y C).wp (coL cb { Y with rv:=.slice a4 n' c4,rs:=Y.rs++[Value.slice a3 (lI i x).length c3] } { C with lg:=upC i x C.lg,recs:=C.recs++[lI i x] }++[qw b5 (.cells x.cs.toArray qc (0,0)),qw b4 (.cells (pc i).toArray qW (0,0))]) :=
   H.sel 11 [3,4,5,6,7,0,8,9,10,1,2] rfl (by decide) (by decide)
  have H:=Hq.coJ H
  simp (disch:=omega) only [go_sem,undef,H.cs,Ly.c]
  refine zW H (OW (H.at 0 rfl) ⟨ho.lds,ho.wss,ho.wb⟩ i x) λu M A' hR f H=>?_
  refine hR.E λY2 eu ho2 eA hy2=>?_
  subst eu eA
  simp (disch:=omega) only [go_sem,undef]
  exact Si ho2 hy2 (H.drop 1 |>.drop 1)
 ·have hs:C.set i x=(C,false):=if_neg hm
  rw [hs]
  refine bg (by simp [Tryz.f33]) ?_
  simp (disch:=omega) only [go_sem,undef]
  refine qg H λb4 M f H=>?_
  simp (disch:=omega) only [go_sem,undef]
  refine qg H λb5 M f H=>?_
  simp (disch:=omega) only [go_sem,undef,H.cs,Ly.c]
  refine Ux 3 (xe Y.lb Y.lr C.cut C.lg) (xe Y.lb Y.lr C.cut (if eL C.cut C.lg i x then upC i x C.lg else C.lg)) H (GP (H.at 3 rfl) i x) rfl rfl rfl λM f H=>?_
  have H:Hq m M (coA cb Y C).wp (qw b5 (.cells x.cs.toArray qc (0,0))::qw b4 (.cells (pc i).toArray qW (0,0))::coL cb Y C):=by rw [if_neg hm] at H;exact H
  simp (disch:=omega) only [go_sem,undef,H.cs,Ly.c,qX hm,Bool.not_false]
  exact BV ho rfl H.tail.tail
theorem XC(h:(coA cb Y C).p m)(ho:Y.ok C)(i:Int×Int)(x:Cel)(hn:C.recs.length≤1000000):CM Tryz.prog cU [lp cb,pv i,x.v] m (coA cb Y C) (CoR cb (C.set i x).1 (.bool (C.set i x).2)):=Uz (cL h ho i x hn)
end Go.Fw
namespace Go.Fw
open Go.Proofs
variable {m m0 M:Mem} {S:List Nat} {L:List As}
theorem Hq.toCell{t:TypeId}{size n b cap:Nat}{xs tail:List Value}(H:Hq m0 m S (qV t size (.slice (some ⟨b,0,none⟩) n cap) n xs::L))(hb:m b=some (.cells (xs++tail).toArray t (0,0))) :
  Hq m0 m S (qw b (.cells (xs++tail).toArray t (0,0))::L) :=
 H.PP (A':=qw b (.cells (xs++tail).toArray t (0,0))) (by with_unfolding_all exact hb) (Fr.refl _ _) (λx hx=>.inl (by simpa [qG] using hx)) (λx hx=>.inl (by simpa [qG] using hx))
theorem Hq.eE{t:TypeId}{size n b cap:Nat}{xs tail:List Value}(H:Hq m0 m S (qw b (.cells (xs++tail).toArray t (0,0))::L))(hx:xs.length=n*size)(hl:(xs++tail).length=cap*size) :
  Hq m0 m S (qV t size (.slice (some ⟨b,0,none⟩) n cap) n xs::L) :=
 H.PP (A':=qV t size (.slice (some ⟨b,0,none⟩) n cap) n xs) ⟨hx,.inr ⟨b,cap,tail,rfl,by have h:=H.hs.1;with_unfolding_all exact h,hl⟩⟩ (Fr.refl _ _) (λx hx=>.inl (by simpa [qG] using hx)) (λx hx=>.inl (by simpa [qG] using hx))
abbrev pL(v:LdV):List Value:=ptV v.b
def ixO:Option Nat→Int
 | some j=>j
 | none=>-1
theorem Bw{α:Type}{p:α→Bool}{l:List α}{j:Nat}{x:α}(h:∀ t y,t < j→l[t]?=some y→p y=false)(hx:l[j]?=some x)(e:p x=true):l.findIdx? p=some j:=by
 obtain ⟨hj,ex⟩:=List.getElem?_eq_some_iff.1 hx
 rw [List.findIdx?_eq_some_iff_getElem]
 refine ⟨hj,by rw [ex];exact e,λt ht=>?_⟩
 have:=h t _ ht (List.getElem?_eq_getElem (by omega))
 simp [this]
theorem Lj{α:Type}{p:α→Bool}{l:List α}(h:∀ t y,t < l.length→l[t]?=some y→p y=false):l.findIdx? p=none:=by
 rw [List.findIdx?_eq_none_iff]
 intro y hy
 obtain ⟨t,ht⟩:=List.getElem?_of_mem hy
 exact h t y (List.getElem?_eq_some_iff.1 ht).1 ht
theorem qxK{a:Option Addr}{c:Nat}{l:List LdV}{g:Nat}{cap:Value}{p:LdV→Bool}(hr:RdS 1 pL m (.slice a l.length c) l)(hg:VJ Tryz.prog g=true)(hp:∀ M,Fr m M []→∀ x∈l,MC Tryz.prog g [lp x.b,cap] M λu M'=>u=.bool (p x)∧Fr M M' [])(hn:l.length≤1000000) :
  MC Tryz.prog vM [.slice a l.length c,.func (.func g) #[] #[cap]] m λu M=>u=.int .i64 (ixO (l.findIdx? p))∧Fr m M []:=by
 refine vA (by simp [Tryz.f33]) ?_
 have H:=Hq.refl m []
 simp (disch:=omega) only [go_sem,undef]
 refine qe (λk E m'=>∃ j,j≤l.length∧k=l.length - j∧(∀ t y,t < j→l[t]?=some y→p y=false)∧E=[(0,.slice a l.length c),(1,.func (.func g) #[] #[cap]),(7,.int .i64 (l.length:Nat)),(8,.int .i64 (j:Nat))]∧Hq m m' [] []) l.length rfl ⟨0,by omega,rfl,by simp,rfl,H⟩ ?_
 clear H
 rintro k E M1 ⟨j,hj,rfl,hno,rfl,H⟩
 by_cases hlt:j < l.length
 ·refine RdS.elK (hr.frame H.fr) hlt (by decide) λbx o x hx hix hE=>?_
  have hp0:(pL x)[0]?=some (lp x.b):=rfl
  simp (disch:=omega) only [go_sem,undef,qZ (show ((j:Nat):Int) < (l.length:Nat) by omega),hix,hE.ld0,hp0,nh,hg,List.nil_append,List.cons_append]
  refine qa H (hp _ H.fr x (List.mem_of_getElem? hx)) λM f H=>?_
  cases hpx:p x with
  | true =>
   have hf:=Bw hno hx hpx
   simp (disch:=omega) only [go_sem,undef]
   exact ⟨by rw [hf];rfl,H.fr⟩
  | false =>
   simp (disch:=omega) only [go_sem,undef]
   refine qK (l.length - (j+1)) (by omega) ⟨j+1,by omega,rfl,λt y ht hy=>?_,rfl,H⟩
   rcases Nat.lt_or_eq_of_le (Nat.le_of_lt_succ ht) with h | h
   ·exact hno t y h hy
   ·subst h;rw [hx] at hy;cases hy;exact hpx
 ·have e:j=l.length:=by omega
  subst e
  have hf:=Lj hno
  simp (disch:=omega) only [go_sem,undef,qX (show ¬ ((l.length:Nat):Int) < (l.length:Nat) by omega)]
  exact ⟨by rw [hf];rfl,H.fr⟩
theorem qvb(n:Nat):(List.replicate n [Value.pointer none]).flatten=List.replicate n (Value.pointer none):=by
 induction n with
 | zero=>rfl
 | succ n ih=>rw [List.replicate_succ,List.flatten_cons,ih];rfl
theorem Uj{P:Program}{t:TypeId}{b o n cap:Nat}{l:List Value}{K:Value→Mem→Prop}{lk:Lk K}(H:Hq m0 m S (qw b (.cells l.toArray t (0,0))::L))(hl:o+n≤l.length)(k:∀ M,Fr m M [b]→Hq m0 M S (qw b (.cells (l.take o++List.replicate n (Value.pointer none)++l.drop (o+n)).toArray t (0,0))::L)→K (.tuple #[]) M):xsP P (.clr [.pointer none]) [.slice (some ⟨b,o,none⟩) n cap] m K lk:=by
 have hv:=qvb n
 have h:=UE (J:=K (.tuple #[])) (off:=o) (vs:=List.replicate n (Value.pointer none)) (l:=⟨⟩) (l':=⟨⟩) 0 H rfl (by simpa using hl) (by simp [Value.oneCell']) (λM f H=>k M f (by simpa using H))
 simp only [xsP,xs,sP,qyW]
 rw [hv]
 exact h
end Go.Fw
namespace Go.Fw
open Go.Proofs
variable {m m0 M:Mem} {S:List Nat} {L:List As}
abbrev fL(v:LdV):Value:=lp v.b
theorem Lz(l:List LdV):l.flatMap pL=l.map fL:=by
 induction l with
 | nil=>rfl
 | cons x r ih=>rw [List.flatMap_cons,ih];rfl
def xu(p:LdV→Bool)(l:List LdV)(j:Nat):List LdV:=(l.take j).filter λx=>!p x
def ctN(p:LdV→Bool)(l:List LdV)(j:Nat):List LdV:=xu p l j++l.drop (xu p l j).length
theorem ou(p:LdV→Bool)(l:List LdV)(j:Nat)(hj:j≤l.length):(xu p l j).length≤j:=by
 have:=List.length_filter_le (λx=>!p x) (l.take j)
 rw [List.length_take] at this
 unfold xu;omega
theorem TM(p:LdV→Bool)(l:List LdV)(j:Nat)(hj:j≤l.length):(ctN p l j).length=l.length:=by
 have:=ou p l j hj
 unfold ctN;rw [List.length_append,List.length_drop];omega
theorem qyJ(p:LdV→Bool)(l:List LdV)(j:Nat)(hj:j≤l.length)(t:Nat)(ht:j≤t):(ctN p l j)[t]?=l[t]?:=by
 have:=ou p l j hj
 unfold ctN
 rw [List.getElem?_append_right (by omega),List.getElem?_drop]
 congr 1;omega
theorem IG{p:LdV→Bool}{l:List LdV}{j:Nat}{x:LdV}(hx:l[j]?=some x)(h:p x=true):xu p l (j+1)=xu p l j:=by
 unfold xu
 rw [List.take_add_one,hx,List.filter_append];simp [h]
theorem Tr{p:LdV→Bool}{l:List LdV}{j:Nat}{x:LdV}(hx:l[j]?=some x)(h:p x=false):xu p l (j+1)=xu p l j++[x]:=by
 unfold xu
 rw [List.take_add_one,hx,List.filter_append];simp [h]
theorem ctN_t{p:LdV→Bool}{l:List LdV}{j:Nat}{x:LdV}(hx:l[j]?=some x)(h:p x=true):ctN p l (j+1)=ctN p l j:=by
 unfold ctN;rw [IG hx h]
theorem ctN_f{p:LdV→Bool}{l:List LdV}{j:Nat}{x:LdV}(hx:l[j]?=some x)(h:p x=false):ctN p l (j+1)=(ctN p l j).set (xu p l j).length x:=by
 have hj:=(List.getElem?_eq_some_iff.1 hx).1
 have:=ou p l j (by omega)
 unfold ctN
 rw [Tr hx h,List.length_append,List.set_append_right _ _ (Nat.le_refl _),Nat.sub_self,List.append_assoc]
 congr 1
 rw [List.length_singleton,List.drop_eq_getElem_cons (show (xu p l j).length < l.length by omega),List.set_cons_zero];rfl
theorem qwa{p:LdV→Bool}{l:List LdV}{i:Nat}(h:l.findIdx? p=some i):xu p l (i+1)=l.take i∧ctN p l (i+1)=l∧i < l.length∧(l.filter λx=>!p x).length < l.length:=by
 rw [List.findIdx?_eq_some_iff_getElem] at h
 obtain ⟨hi,hp,hb⟩:=h
 have h1:xu p l i=l.take i:=by
  unfold xu
  refine List.filter_eq_self.2 λx hx=>?_
  obtain ⟨t,ht,rfl⟩:=List.mem_iff_getElem.1 hx
  rw [List.getElem_take]
  rw [List.length_take] at ht
  have:=hb t (by omega)
  simp only [Bool.not_eq_true] at this
  simp [this]
 have h2:=IG (List.getElem?_eq_getElem hi) hp
 refine ⟨h2.trans h1,?_,hi,List.length_filter_lt_length_iff_exists.2 ⟨l[i],List.getElem_mem hi,by simp [hp]⟩⟩
 unfold ctN
 rw [h2,h1,List.length_take,Nat.min_eq_left (by omega),List.take_append_drop]
theorem qqn(p:LdV→Bool)(l:List LdV):xu p l l.length=l.filter λx=>!p x:=by unfold xu;rw [List.take_length]
theorem qva(l:List LdV)(tail:List Value)(j:Nat)(x:LdV)(hx:l[j]?=some x):(l.map fL++tail)[j]?=some (lp x.b):=by
 have hj:=(List.getElem?_eq_some_iff.1 hx).1
 rw [List.getElem?_append_left (by simpa using hj),List.getElem?_map,hx];rfl
theorem qvY(l:List LdV)(tail:List Value)(j:Nat)(x:LdV)(hj:j < l.length):(l.map fL++tail).set j (lp x.b)=(l.set j x).map fL++tail:=by
 rw [List.set_append_left _ _ (by simpa using hj),List.map_set]
theorem Own.PM{G:Prop}{t:TypeId}{size n:Nat}{v:Value}{xs:List Value}(h:Own m t size v n xs)(h0:0 < n)(K:∀ b cap tail,v=.slice (some ⟨b,0,none⟩) n cap→m b=some (.cells (xs++tail).toArray t (0,0))→(xs++tail).length=cap*size→G):G:=by
 obtain ⟨_,⟨_,h⟩ | ⟨b,cap,tail,h1,h2,h3⟩⟩:=h
 ·omega
 ·exact K b cap tail h1 h2 h3
theorem qJc{v:Value}{l:List LdV}{g:Nat}{cap:Value}{p:LdV→Bool}(h:(qV qd 1 v l.length (l.flatMap pL)).p m)(hg:VJ Tryz.prog g=true)(hp:∀ M,Fr m M (qG v)→∀ x∈l,MC Tryz.prog g [lp x.b,cap] M λu M'=>u=.bool (p x)∧Fr M M' [])(hn:l.length≤1000000) :
  CM Tryz.prog vC [v,.func (.func g) #[] #[cap]] m (qV qd 1 v l.length (l.flatMap pL)) λu A=>A=qV qd 1 u (l.filter λx=>!p x).length ((l.filter λx=>!p x).flatMap pL):=by
 have H:Hq m m (qG v) [qV qd 1 v l.length (l.flatMap pL)]:=Hq.one h
 cases hf:l.findIdx? p with
 | none =>
  have he:(l.filter λx=>!p x)=l:=List.filter_eq_self.2 λx hx=>by
   rw [List.findIdx?_eq_none_iff] at hf
   simp [hf x hx]
  rw [he]
  obtain ⟨a,c,rfl⟩:=h.form
  have hr:RdS 1 pL m (.slice a l.length c) l:=Own.rds (by decide) (λ_=>rfl) h
  have hix:=qxK hr hg (λM f x hx=>hp M (f.sub (by simp)) x hx) hn
  rw [hf] at hix
  refine zL (by simp [Tryz.f33]) ?_
  simp (disch:=omega) only [go_sem,undef]
  refine qa H hix λM f H=>?_
  simp (disch:=omega) only [go_sem,undef,ixO,qZ (show (-1:Int) = -1 by rfl)]
  exact ⟨_,rfl,H.hs.1,H.fr,λb hb=>.inl hb,λb hb=>.inl hb⟩
 | some i =>
  obtain ⟨hk0,hc0,hil,hfl⟩:=qwa hf
  refine Own.PM h (by omega) λb cp tail e hb hl=>?_
  subst e
  have hr:RdS 1 pL m (.slice (some ⟨b,0,none⟩) l.length cp) l:=Own.rds (by decide) (λ_=>rfl) h
  have hix:=qxK hr hg (λM f x hx=>hp M (f.sub (by simp)) x hx) hn
  rw [hf] at hix
  have H2:=H.toCell hb
  rw [Lz] at H2 hb hl
  have hkl:(xu p l (i+1)).length=i:=by rw [hk0,List.length_take];omega
  refine zL (by simp [Tryz.f33]) ?_
  simp (disch:=omega) only [go_sem,undef]
  refine qa H2 hix λM f H=>?_
  have hii:ixO (some i)=(i:Int):=rfl
  simp (disch:=omega) only [go_sem,undef,hii,qX (show ¬ ((i:Nat):Int) = -1 by omega)]
  refine qe (λk E m'=>∃ j,j≤l.length∧k=l.length - j∧E=[(0,.slice (some ⟨b,0,none⟩) l.length cp),(1,.func (.func g) #[] #[cap]),(5,.int .i64 ((xu p l j).length:Nat)),(6,.int .i64 (j:Nat))]∧Hq m m' [b] [qw b (.cells ((ctN p l j).map fL++tail).toArray qd (0,0))]) (l.length - (i+1)) rfl ⟨i+1,by omega,rfl,by rw [hkl];rfl,by rw [hc0];exact H⟩ ?_
  clear H f
  rintro k E M1 ⟨j,hj,rfl,rfl,H⟩
  have hkj:=ou p l j hj
  by_cases hlt:j < l.length
  ·refine Exists.elim (⟨l[j],List.getElem?_eq_getElem hlt⟩:∃ x,l[j]?=some x) λx hx=>?_
   have hg1:=qva (ctN p l j) tail j x (by rw [qyJ p l j hj j (Nat.le_refl _)];exact hx)
   have hs1:=qvY (ctN p l j) tail (xu p l j).length x (by rw [TM p l j hj];omega)
   have hxm:=List.mem_of_getElem? hx
   generalize hct:(ctN p l j).map fL++tail=ct at *
   simp (disch:=omega) only [go_sem,undef,qZ (show ((j:Nat):Int) < (l.length:Nat) by omega),H.cs,hg1,nh,hg,List.nil_append,List.cons_append]
   refine qa H (hp _ H.fr x hxm) λM f H=>?_
   cases hpx:p x with
   | true =>
    have e1:=ctN_t hx hpx
    have e2:=IG hx hpx
    simp (disch:=omega) only [go_sem,undef,Bool.not_true]
    exact qK (l.length - (j+1)) (by omega) ⟨j+1,by omega,rfl,by rw [e2];rfl,by rw [e1,hct];exact H⟩
   | false =>
    have e1:=ctN_f hx hpx
    have e2:=Tr hx hpx
    have e3:(xu p l (j+1)).length=(xu p l j).length+1:=by rw [e2];simp
    have hcl:(xu p l j).length < ct.length:=by rw [← hct,List.length_append,List.length_map,TM p l j hj];omega
    simp (disch:=omega) only [go_sem,undef,Bool.not_false,H.cs]
    refine xK H λM f H=>?_
    rw [hs1,← e1] at H
    simp (disch:=omega) only [go_sem,undef]
    exact qK (l.length - (j+1)) (by omega) ⟨j+1,by omega,rfl,by rw [e3];rfl,H⟩
  ·have e:j=l.length:=by omega
   subst e
   have hka:=qqn p l
   have hct:ctN p l l.length=xu p l l.length++l.drop (xu p l l.length).length:=rfl
   rw [hct] at H
   rw [← hka]
   rw [← hka] at hfl
   generalize xu p l l.length=ks at *
   have hl2:l.length+tail.length=cp:=by simpa using hl
   have hx1:xG 1 (some ⟨b,0,none⟩) cp ks.length l.length=some (.slice (some ⟨b,ks.length,none⟩) (l.length - ks.length) (cp - ks.length)):=by
    unfold xG
    rw [if_pos ⟨by omega,by omega,by omega⟩,if_neg (by omega)];simp [Addr.add];try (intro h;simp [h])
   have hx2:xG 1 (some ⟨b,0,none⟩) cp 0 ks.length=some (.slice (some ⟨b,0,none⟩) ks.length cp):=by
    unfold xG
    rw [if_pos ⟨by omega,by omega,by omega⟩,if_neg (by simp;omega)];simp [Addr.add];try (intro h;simp [h])
   simp (disch:=omega) only [go_sem,undef,qX (show ¬ ((l.length:Nat):Int) < (l.length:Nat) by omega),hx1]
   refine Uj H (by simp<;>omega) λM f H=>?_
   simp (disch:=omega) only [go_sem,undef,hx2]
   have hct2:(List.map fL (ks++List.drop ks.length l)++tail).take ks.length++List.replicate (l.length - ks.length) (Value.pointer none)++(List.map fL (ks++List.drop ks.length l)++tail).drop (ks.length+(l.length - ks.length))=ks.flatMap pL++(List.replicate (l.length - ks.length) (Value.pointer none)++tail):=by
    have e1:(List.map fL (ks++List.drop ks.length l)++tail).take ks.length=ks.flatMap pL:=by
     rw [List.map_append,List.append_assoc,List.take_append_of_le_length (by simp),List.take_of_length_le (by simp),Lz]
    have e2:(List.map fL (ks++List.drop ks.length l)++tail).drop (ks.length+(l.length - ks.length))=tail:=by
     rw [List.drop_append_of_le_length (by simp),List.drop_of_length_le (by simp),List.nil_append]
    rw [e1,e2,List.append_assoc]
   rw [hct2] at H
   have H:=H.eE (size:=1) (n:=ks.length) (cap:=cp) (by rw [Lz];simp) (by rw [Lz];simp;omega)
   exact ⟨_,rfl,H.hs.1,H.fr,λb hb=>.inl (by simpa [qG] using hb),λb hb=>.inl (by simpa [qG] using hb)⟩
end Go.Fw
namespace Go.Fw
open Go.Proofs
variable {m m0 M:Mem} {S:List Nat} {L:List As}
variable {cb:Nat} {Y:Ly} {C:Co}
theorem Hq.apart(H:Hq m0 m S L)(i j n:Nat)(hn:L.length=n)(hi:i < n)(hj:j < n)(hij:i≠j):JF (L[i]'(by omega)) (L[j]'(by omega)):=Pa H.dj i j (by omega) (by omega) hij
theorem RD{b3:Nat}{v:LdV}{x:Ld}{i:Int×Int}(h:m v.b=some (.cells (x.c v).cs.toArray qN (0,0)))(h3:m b3=some (.cells (pc i).toArray qW (0,0))) :
  MC Tryz.prog Kk [lp v.b,lp b3] m λu M=>u=.bool (decide (x.id=i))∧Fr m M []:=by
 refine ej (by simp [Tryz.f33]) ?_
 simp (disch:=omega) only [go_sem,undef,h,h3,Ld.c]
 exact ⟨rfl,Fr.refl _ _⟩
def idM(m:Mem)(b:Nat):Int×Int:=match cellAt (m b) 0,cellAt (m b) 1 with
 | some (.int _ x),some (.int _ y)=>(x,y)
 | _,_=>(0,0)
theorem qxV{v:LdV}{x:Ld}(h:m v.b=some (.cells (x.c v).cs.toArray qN (0,0))):idM m v.b=x.id:=by
 unfold idM;rw [h];rfl
theorem SL{q:LdV→Bool}{r:Ld→Bool}(f:LdV→Ld→As):∀ (vs:List LdV) (xs:List Ld),vs.length=xs.length→(∀ (j:Nat) (v:LdV) (x:Ld),vs[j]?=some v→xs[j]?=some x→q v=r x) →
  (List.zipWith f (vs.filter q) (xs.filter r)).Sublist (List.zipWith f vs xs)∧(vs.filter q).length=(xs.filter r).length
 | [],[],_,_=>by simp
 | [],_::_,h,_=>by simp at h
 | _::_,[],h,_=>by simp at h
 | v::vs,x::xs,h,hq=>by
  have e:=hq 0 v x rfl rfl
  obtain ⟨h1,h2⟩:=SL (q:=q) (r:=r) f vs xs (by simpa using h) λj v' x' hv hx=>hq (j+1) v' x' (by simpa using hv) (by simpa using hx)
  cases hr:r x with
  | true =>
   rw [hr] at e
   rw [List.filter_cons_of_pos e,List.filter_cons_of_pos hr]
   exact ⟨by simpa using h1,by simpa using h2⟩
  | false =>
   rw [hr] at e
   rw [List.filter_cons_of_neg (by simp [e]),List.filter_cons_of_neg (by simp [hr])]
   exact ⟨by simpa using h1.cons _,h2⟩
theorem Hq.subL{l l':List As}(H:Hq m0 m S (qP l::L))(h:l'.Sublist l):Hq m0 m S (qP l'::L):=by
 have H:=Hq.zc H
 refine Hq.jc ⟨Hps.of λA hA=>?_,H.fr,H.dj.sublist (h.append_right L),λA hA=>?_⟩
 ·exact H.hs.mem A ((h.append_right L).subset hA)
 ·exact H.nw A ((h.append_right L).subset hA)
theorem Tu{q:LdV→Bool}{r:Ld→Bool}:∀ (vs:List LdV) (xs:List Ld),(∀ (j:Nat) (v:LdV) (x:Ld),vs[j]?=some v→xs[j]?=some x→q v=r x)→∀ (p:Nat) (v:LdV) (x:Ld),vs[p]?=some v→xs[p]?=some x→r x=true→∃ p':Nat,(vs.filter q)[p']?=some v∧(xs.filter r)[p']?=some x
 | [],_,_,p,v,x,h,_,_=>by simp at h
 | _::_,[],_,p,v,x,_,h,_=>by simp at h
 | a::vs,b::xs,hq,0,v,x,h1,h2,h3=>by
  simp at h1 h2;subst h1 h2
  have e:=hq 0 a b rfl rfl
  rw [h3] at e
  exact ⟨0,by rw [List.filter_cons_of_pos e];rfl,by rw [List.filter_cons_of_pos h3];rfl⟩
 | a::vs,b::xs,hq,p+1,v,x,h1,h2,h3=>by
  have e:=hq 0 a b rfl rfl
  obtain ⟨p',h4,h5⟩:=Tu (q:=q) (r:=r) vs xs (λj v' x' hv hx=>hq (j+1) v' x' (by simpa using hv) (by simpa using hx)) p v x (by simpa using h1) (by simpa using h2) h3
  cases hr:r b with
  | true =>
   rw [hr] at e
   exact ⟨p'+1,by rw [List.filter_cons_of_pos e];exact h4,by rw [List.filter_cons_of_pos hr];exact h5⟩
  | false =>
   rw [hr] at e
   exact ⟨p',by rw [List.filter_cons_of_neg (by simp [e])];exact h4,by rw [List.filter_cons_of_neg (by simp [hr])];exact h5⟩
def Co.zk(C:Co)(i:Int×Int):Co:={ C with leads:=C.leads.filter λx=>!decide (x.id=i) }
theorem Jf(h:(coA cb Y C).p m)(ho:Y.ok C)(i:Int×Int)(hn:C.leads.length≤1000000):CM Tryz.prog Yf [lp cb,pv i] m (coA cb Y C) (CoN cb Y C i (C.zk i) (.tuple #[])):=by
 have H:=Hq.co h
 have hlen:=ho.lds
 refine mS (by simp [Tryz.f33]) ?_
 simp (disch:=omega) only [go_sem,undef]
 refine qg H λb3 M f H=>?_
 have hap:JF (qV qd 1 Y.lv Y.lds.length (Y.lds.flatMap pL)) (Qb Y.lds C.leads):=H.apart 4 8 10 rfl (by decide) (by decide) (by decide)
 have hap3:JF (qw b3 (.cells (pc i).toArray qW (0,0))) (qV qd 1 Y.lv Y.lds.length (Y.lds.flatMap pL)):=H.apart 0 4 10 rfl (by decide) (by decide) (by decide)
 have hlds:(Qb Y.lds C.leads).p M:=H.at 8 rfl
 have hb3:M b3=some (.cells (pc i).toArray qW (0,0)):=H.cs.1
 have hid:∀ (j:Nat) (v:LdV) (x:Ld),Y.lds[j]?=some v→C.leads[j]?=some x→(!decide (idM M v.b=i))=!decide (x.id=i):=λj v x hv hx=>by rw [qxV (qT (zy hlds hv hx))]
 have hzs:=SL (q:=λv=>!decide (idM M v.b=i)) (r:=λx=>!decide (x.id=i)) ldA Y.lds C.leads hlen hid
 have hdel:=qJc (g:=Kk) (cap:=lp b3) (p:=λv=>decide (idM M v.b=i)) (H.at 4 rfl) (by kernel_rfl) (λM2 f2 v hv=>by
  obtain ⟨j,hj⟩:=List.getElem?_of_mem hv
  have hjl:=(List.getElem?_eq_some_iff.1 hj).1
  have hx:C.leads[j]?=some (C.leads[j]'(by omega)):=List.getElem?_eq_getElem (by omega)
  have h1:=qT (zy hlds hj hx)
  have h2:=qT (zy ((Qb Y.lds C.leads).fr hlds f2 λb hb hbl=>hap.1 b hbl hb) hj hx)
  have h3:M2 b3=some (.cells (pc i).toArray qW (0,0)):=f2.get hb3 λhbl=>hap3.2 b3 hbl (by simp)
  have:=RD h2 h3
  rw [← qxV h1] at this
  exact this) (by omega)
 simp (disch:=omega) only [go_sem,undef,H.cs,Ly.c]
 refine qU 4 H hdel rfl λu M2 A' eA f H=>?_
 subst eA
 refine Own.zC (H.at 4 rfl) λa c e=>Exists.elim (⟨_,rfl⟩:∃ n',n'=(Y.lds.filter λx=>!decide (idM M x.b=i)).length) λn' hn'=>?_
 rw [← hn'] at e
 subst e
 have H:Hq m M2 (coA cb Y C).wp [Qb Y.lds C.leads,qw cb (.cells (Y.c C).cs.toArray qH (0,0)),xe Y.lb Y.lr C.cut C.lg,xT Y.xb Y.xr C.xcut C.xl,qV qd 1 (Value.slice a n' c) (Y.lds.filter λx=>!decide (idM M x.b=i)).length ((Y.lds.filter λx=>!decide (idM M x.b=i)).flatMap pL),
  qV qQ 1 Y.wv Y.wss.length (Y.wss.flatMap ptV),brA qB Y.rv Y.rs C.recs,qV qv 51 Y.ov C.out.length (C.out.flatMap Lt.cs),we Y.wss C.wishes]:=H.sel 10 [8,1,2,3,4,5,6,7,9] rfl (by decide) (by decide)
 have H:=Hq.subL H hzs.1
 have H:Hq m M2 (coA cb Y C).wp (qw cb (.cells (Y.c C).cs.toArray qH (0,0))::coT { Y with lv:=.slice a n' c,lds:=Y.lds.filter λx=>!decide (idM M x.b=i) } (C.zk i)):=H.sel 9 [1,2,3,4,5,6,7,0,8] rfl (by decide) (by decide)
 simp (disch:=omega) only [go_sem,undef,H.cs,Ly.c]
 refine xK H λM3 f H=>?_
 simp (disch:=omega) only [go_sem,undef]
 have hkp:Kp i Y C { Y with lv:=.slice a n' c,lds:=Y.lds.filter λx=>!decide (idM M x.b=i) } (C.zk i):=λp v x hv hx hi=>Tu Y.lds C.leads hid p v x hv hx (by simp [hi])
 exact nY qu (Y':={ Y with lv:=.slice a n' c,lds:=Y.lds.filter λx=>!decide (idM M x.b=i) }) (C':=C.zk i) ⟨hzs.2,ho.wss,ho.wb⟩ hkp (Hq.coJ (L:=[]) (by rw [List.append_nil];exact H))
theorem Je(h:(coA cb Y C).p m)(ho:Y.ok C)(i:Int×Int)(hn:C.leads.length≤1000000):CM Tryz.prog Yf [lp cb,pv i] m (coA cb Y C) (CoR cb (C.zk i) (.tuple #[])):=BK (Jf h ho i hn)
end Go.Fw
namespace Go.Fw
open Go.Proofs
variable {m m0 M:Mem} {S:List Nat} {L:List As}
theorem uQ{P:Program}{x y:Value}{size b o n capn k ck:Nat}{y0:Option Addr}{t:TypeId}{c news:List Value}{K:Value→Mem→Prop}{lk:Lk K}{l1:Lk x}{l2:Lk m}(H:Hq m0 m S (qw b (.cells c.toArray t (0,0))::L))(hb:m b=some (.cells c.toArray t (0,0)))(ex:x=.slice (some ⟨b,o,none⟩) n capn)(ey:y=.slice y0 k ck)(hnews:ldS m y0 (min k n*size)=some news)(h1:∀ v∈news,v.oneCell'=true)(hl:o+news.length≤c.length)(hK:∀ M,Fr m M [b]→Hq m0 M S (qw b (.cells (c.take o++news++c.drop (o+news.length)).toArray t (0,0))::L)→K (.int .i64 (min k n:Nat)) M):cpyQ P size x y m K lk l1 l2:=by
 subst ex ey
 show ∃ cells,ldS m y0 (min k n*size)=some cells∧∃ m',jW m ⟨b,o,none⟩ 0 cells=some m'∧K _ m'
 refine ⟨news,hnews,_,Kq (t:=t) news 0 m c hb (by simpa using hl) h1,?_⟩
 rw [Nat.add_zero]
 refine xK (l:={}) (l':={}) (x:=.cells (c.take o++news++c.drop (o+news.length)).toArray t (0,0)) (J:=λM=>K (.int .i64 (min k n:Nat)) M) H λM f H=>hK M f H
theorem UQ{P:Program}{t:TypeId}{size bytes:Nat}{zero old:List Value}{a:Option Addr}{i k cap:Nat}{kk:Int}{y:Value}{K:Value→Mem→Prop}{lk:Lk K}(H:Hq m0 m S L)(ey:y=.int .i64 kk)(hkk:kk=(k:Nat))(hold:ldS m a (i*size)=some old)(hcap:cap < i+k)(hb:(i+k)*bytes≤140737488355328)(h62:i+k≤4611686018427387904)(hK:∀ c b M,i+k≤c→Fr m M []→Hq m0 M S (qw b (.cells (old++(List.replicate k zero).flatten++(List.replicate (c - (i+k)) zero).flatten).toArray t (0,0))::L)→K (.slice (some ⟨b,0,none⟩) (i+k) c) M):xsP P (.appn t size bytes zero) [.slice a i cap,y] m K lk:=by
 subst ey hkk
 show 0≤((k:Nat):Int)∧((k:Nat):Int)*(bytes:Int)≤281474976710656∧Mz size bytes zero t m K a i cap (List.replicate ((k:Nat):Int).toNat zero).flatten ((k:Nat):Int).toNat
 rw [Int.toNat_natCast]
 have hkb:k*bytes≤140737488355328:=Nat.le_trans (Nat.mul_le_mul_right _ (by omega)) hb
 refine ⟨by omega,by rw [← Int.natCast_mul];omega,hb,h62,λh=>by omega,λ_=>⟨old,hold,λc b hc hbn=>?_⟩⟩
 exact qg (l:={}) (l':={}) (J:=λb M=>K (.slice (some ⟨b,0,none⟩) (i+k) c) M) H (λb M f H=>hK c b M hc f H) b hbn
theorem Hv(c r X:List Value)(o:Nat)(hr:r.length=1)(h:o+1+X.length≤c.length) :
  (c.take o++r++c.drop (o+r.length)).take (o+1)++X++(c.take o++r++c.drop (o+r.length)).drop (o+1+X.length)=c.take o++r++X++c.drop (o+1+X.length):=by
 have ho:(c.take o++r).length=o+1:=by rw [List.length_append,List.length_take,hr];omega
 rw [hr,List.take_left' ho,List.drop_append,List.drop_eq_nil_of_le (by omega),List.nil_append,ho,List.drop_drop]
 congr 2;omega
theorem Ej(c r X:List Value)(o:Nat)(hr:r.length=1)(h:o+1+X.length≤c.length) :
  (c.take (o+1)++X++c.drop (o+1+X.length)).take o++r++(c.take (o+1)++X++c.drop (o+1+X.length)).drop (o+r.length)=c.take o++r++X++c.drop (o+1+X.length):=by
 have ho:(c.take (o+1)).length=o+1:=by rw [List.length_take];omega
 rw [hr,List.append_assoc (c.take (o+1)),List.drop_left' ho,List.take_append_of_le_length (by omega),List.take_take,Nat.min_eq_left (by omega)]
 simp only [List.append_assoc]
theorem qjd(s:Nat)(x y:Value):rd (.ovl s) [x,y] m=ovQ m s x y:=rfl
def zq{α:Type}(l:List α)(i:Nat)(x:α):List α:=l.take i++x::l.drop i
theorem Nt{α:Type}(l:List α)(x:α):zq l l.length x=l++[x]:=by simp [zq]
theorem xS{α:Type}(l:List α)(i:Nat)(x:α)(h:i≤l.length):(zq l i x).length=l.length+1:=by simp [zq];omega
theorem cF{α:Type}{enc:α→List Value}(h1:∀ x,(enc x).length=1)(l:List α)(i:Nat)(x:α)(tail T:List Value)(h:i≤l.length):(l.flatMap enc++tail).take i++enc x++(l.drop i).flatMap enc++T=(zq l i x).flatMap enc++T:=by
 have hfl:(l.flatMap enc).length=l.length:=by rw [xQ h1,Nat.mul_one]
 have ht:(l.flatMap enc).take i=(l.take i).flatMap enc:=by
  have:=su h1 l i
  rw [Nat.mul_one] at this;exact this.symm
 rw [List.take_append_of_le_length (by omega),ht,zq,List.flatMap_append,List.flatMap_cons,List.append_assoc (List.flatMap enc (List.take i l))]
theorem qZO{v:Value}{l:List LdV}{b0:Nat}{x:LdV}{T:TypeId}(h:(qV qd 1 v l.length (l.flatMap pL)).p m)(hb0:m b0=some (.cells (pL x).toArray T (0,0)))(hne:b0∉qG v)(i:Nat)(hi:i≤l.length)(hn:l.length≤1000000) :
  CM Tryz.prog jn [v,.int .i64 (i:Nat),.slice (some ⟨b0,0,none⟩) 1 1] m (qV qd 1 v l.length (l.flatMap pL)) λu A=>A=qV qd 1 u (zq l i x).length ((zq l i x).flatMap pL):=by
 have hgo:∀ {R:Value→Mem→Prop},wpN Tryz.prog zf (vB zg.rvs R) (lC 0 [v,.int .i64 (i:Nat),.slice (some ⟨b0,0,none⟩) 1 1]) m→MC Tryz.prog jn [v,.int .i64 (i:Nat),.slice (some ⟨b0,0,none⟩) 1 1] m R:=λh=>yu (by simp [Tryz.f33]) h
 refine hgo ?_
 have H:Hq m m (qG v) [qV qd 1 v l.length (l.flatMap pL)]:=Hq.one h
 have hlen1:∀ y:LdV,(pL y).length=1:=λ_=>rfl
 have hr1:∀ w∈pL x,w.oneCell'=true:=λw hw=>by
  simp only [List.mem_cons,List.not_mem_nil,or_false] at hw
  subst hw;rfl
 have hone:∀ w∈l.flatMap pL,w.oneCell'=true:=λw hw=>by
  obtain ⟨y,_,hy⟩:=List.mem_flatMap.1 hw
  simp only [List.mem_cons,List.not_mem_nil,or_false] at hy
  subst hy;rfl
 have hrds:=Own.rds (k:=1) (enc:=pL) (by decide) hlen1 h
 rcases Nat.lt_or_eq_of_le hi with hlt | rfl
 ·refine Own.PM h (by omega) λb cap tail ev hb hl=>?_
  subst ev
  have hnb:b0≠b:=λe=>hne (by simp [qG,e])
  have hfl:(l.flatMap pL).length=l.length:=by rw [xQ hlen1,Nat.mul_one]
  have hfd:((l.drop i).flatMap pL).length=l.length - i:=by rw [xQ hlen1];simp
  have hcl:cap=l.length+tail.length:=by rw [List.length_append,hfl] at hl;omega
  have hcut:∀ n c b':Nat,i≤n→n≤c→i < c→xG 1 (some ⟨b',0,none⟩) c (i:Nat) (n:Nat)=some (.slice (some ⟨b',i,none⟩) (n - i) (c - i)):=λn c b' h1 h2 h3=>by
   unfold xG
   rw [if_pos (by omega),Int.toNat_natCast,Int.toNat_natCast,if_neg (by omega)]
   simp [xH]
  have hcut1:∀ n c b':Nat,i+1≤n→n≤c→i+1 < c→xG 1 (some ⟨b',0,none⟩) c ((i:Nat)+((1:Nat):Int)) (n:Nat)=some (.slice (some ⟨b',i+1,none⟩) (n - (i+1)) (c - (i+1))):=λn c b' h1 h2 h3=>by
   unfold xG
   rw [show ((i:Nat):Int)+((1:Nat):Int)=((i+1:Nat):Int) from rfl,if_pos (by omega),Int.toNat_natCast,Int.toNat_natCast,if_neg (by omega)]
   simp [xH]
  have hcut0:xG 1 (some ⟨b,0,none⟩) cap 0 (i:Nat)=some (.slice (some ⟨b,0,none⟩) i cap):=by
   unfold xG
   rw [if_pos (by omega)]
   simp [xH]
  have hnd:(l.drop i).length=l.length - i:=by simp
  have hXone:∀ w∈(l.drop i).flatMap pL,w.oneCell'=true:=λw hw=>hone w (by
   obtain ⟨y,hy,hz⟩:=List.mem_flatMap.1 hw
   exact List.mem_flatMap.2 ⟨y,List.mem_of_mem_drop hy,hz⟩)
  have hldX:∀ M,RdS 1 pL M (.slice (some ⟨b,0,none⟩) l.length cap) l→ldS M (some ⟨b,i,none⟩) ((l.length - i)*1)=some ((l.drop i).flatMap pL):=λM hrM=>by
   refine Exists.elim (hrM.cut (by decide) i l.length (by omega) (Nat.le_refl _)) λa' hh=>Exists.elim hh λc' hcr=>?_
   have hcb:=hcr.1
   have hrb:=hcr.2.1
   rw [hcut l.length cap b (by omega) (by omega) (by omega)] at hcb
   have e:(some ⟨b,i,none⟩:Option Addr)=a':=by injection hcb with hcb;injection hcb
   subst e
   rw [List.take_length,← hnd] at hrb
   have:=cC hrb
   rw [hnd] at this
   exact this
  have hcut2:l.length+1≤cap→xG 1 (some ⟨b,0,none⟩) cap 0 ((l.length:Nat)+((1:Nat):Int))=some (.slice (some ⟨b,0,none⟩) (l.length+1) cap):=λhh=>by
   unfold xG
   rw [show ((l.length:Nat):Int)+((1:Nat):Int)=((l.length+1:Nat):Int) from rfl,if_pos (by omega),Int.toNat_natCast]
   simp [xH]
  by_cases hcap:l.length+1 > cap
  ·simp (disch:=omega) only [go_sem,undef,jA,hcut l.length cap b (by omega) (by omega) (by omega),qX (show ¬ ((i:Nat):Int)=(l.length:Nat) by omega),qZ (show ((l.length:Nat):Int)+1 > (cap:Nat) by omega),ed,hcut0]
   have e1:i+(l.length+1 - i)=l.length+1:=by omega
   refine UQ (k:=l.length+1 - i) H rfl (by omega) (zQ hb (n:=i*1) (by rw [List.length_append,hfl];omega)) (by omega) (by omega) (by omega) λc b1 M hc f H=>?_
   rw [e1] at H hc ⊢
   have hzl:((List.replicate (l.length+1 - i) [Value.pointer none]).flatten).length=l.length+1 - i:=by simp
   have hzl2:((List.replicate (c - (l.length+1)) [Value.pointer none]).flatten).length=c - (l.length+1):=by simp
   generalize (List.replicate (l.length+1 - i) [Value.pointer none]).flatten=z1 at H hzl
   generalize (List.replicate (c - (l.length+1)) [Value.pointer none]).flatten=z2 at H hzl2
   have htl:((l.flatMap pL++tail).take (i*1)).length=i:=by rw [List.length_take,List.length_append,hfl];omega
   have hC:(List.take (i*1) (l.flatMap pL++tail)++z1++z2).length=c:=by simp only [List.length_append,htl,hzl,hzl2];omega
   have hCt:(List.take (i*1) (l.flatMap pL++tail)++z1++z2).take i=(l.flatMap pL++tail).take i:=by rw [List.append_assoc,Nat.mul_one];rw [Nat.mul_one] at htl;exact List.take_left' htl
   generalize List.take (i*1) (l.flatMap pL++tail)++z1++z2=C0 at H hC hCt
   simp (disch:=omega) only [go_sem,undef,jA,hcut (l.length+1) c b1 (by omega) (by omega) (by omega)]
   have hb0:=f.get hb0 (by simp)
   refine uQ (n:=l.length+1 - i) (k:=1) (size:=1) H H.cs.1 rfl rfl (news:=pL x) (by rw [Nat.min_eq_left (by omega)];exact zQ hb0 (n:=1*1) (by simp)) hr1 (by rw [hC,hlen1];omega) λM f2 H=>?_
   simp (disch:=omega) only [go_sem,undef,jA,hcut1 (l.length+1) c b1 (by omega) (by omega) (by omega),hcut l.length cap b (by omega) (by omega) (by omega)]
   have hrM:=Own.rds (k:=1) (enc:=pL) (by decide) hlen1 (H.at 1 rfl)
   refine uQ (n:=l.length+1 - (i+1)) (k:=l.length - i) (size:=1) H H.cs.1 rfl rfl (news:=(l.drop i).flatMap pL) (by rw [Nat.min_eq_left (by omega)];exact hldX M hrM) hXone (by simp only [List.length_append,List.length_take,List.length_drop,hC,hfd,hlen1];omega) λM f3 H=>?_
   simp (disch:=omega) only [go_sem,undef]
   rw [Hv C0 (pL x) _ i rfl (by rw [hC,hfd];omega),hCt,cF hlen1 l i x tail _ (by omega)] at H
   have hil:=xS l i x (by omega)
   have hif:((zq l i x).flatMap pL).length=(l.length+1)*1:=by rw [xQ hlen1,hil]
   have H:=Hq.eE (size:=1) (n:=l.length+1) (cap:=c) H hif (by rw [List.length_append,hif,List.length_drop,hC,hfd];omega)
   rw [← hil] at H ⊢
   have H:=H.perm (List.Perm.swap ..) |>.tail
   exact ⟨_,rfl,H.hs.1,H.fr,λb hb=>H.done.2.2 b hb,H.done.2.2⟩
  ·have hcut2:=hcut2 (by omega)
   simp (disch:=omega) only [go_sem,undef,jA,hcut l.length cap b (by omega) (by omega) (by omega),qX (show ¬ ((i:Nat):Int)=(l.length:Nat) by omega),qX (show ¬ ((l.length:Nat):Int)+1 > (cap:Nat) by omega),ed,hcut2,hcut1 (l.length+1) cap b (by omega) (by omega) (by omega)]
   have hov:rd (.ovl 1) [Value.slice (some ⟨b0,0,none⟩) 1 1,.slice (some ⟨b,i+1,none⟩) (l.length+1 - (i+1)) (cap - (i+1))] m=some (.bool false):=by
    rw [qjd]
    unfold ovQ
    simp only [ch,hb0,hb]
    rw [if_neg (by omega),if_neg hnb];rfl
   have H:=Hq.toCell H hb
   have hXl:i+1+((l.drop i).flatMap pL).length≤(l.flatMap pL++tail).length:=by rw [hl,hfd];omega
   simp (disch:=omega) only [go_sem,undef,hov,jA,hcut (l.length+1) cap b (by omega) (by omega) (by omega),hcut1 (l.length+1) cap b (by omega) (by omega) (by omega)]
   refine uQ (n:=l.length+1 - (i+1)) (k:=l.length+1 - i) (size:=1) H hb rfl rfl (news:=(l.drop i).flatMap pL) (by rw [Nat.min_eq_right (by omega),show l.length+1 - (i+1)=l.length - i from by omega];exact hldX m hrds) hXone hXl λM f H=>?_
   simp (disch:=omega) only [go_sem,undef,jA,hcut (l.length+1) cap b (by omega) (by omega) (by omega)]
   have hb0:M b0=some (.cells (pL x).toArray T (0,0)):=by rw [f b0 (by rw [hb0];simp) (by simpa using hnb)];exact hb0
   refine uQ (n:=l.length+1 - i) (k:=1) (size:=1) H H.cs.1 rfl rfl (news:=pL x) (by rw [Nat.min_eq_left (by omega)];exact zQ hb0 (n:=1*1) (by simp)) hr1 (by simp only [List.length_append,List.length_take,List.length_drop,hfl,hfd,hlen1];omega) λM f3 H=>?_
   simp (disch:=omega) only [go_sem,undef]
   rw [Ej _ (pL x) _ i rfl hXl,cF hlen1 l i x tail _ (by omega)] at H
   have hil:=xS l i x (by omega)
   have hif:((zq l i x).flatMap pL).length=(l.length+1)*1:=by rw [xQ hlen1,hil]
   have H:=Hq.eE (size:=1) (n:=l.length+1) (cap:=cap) H hif (by rw [List.length_append,hif,List.length_drop,hl,hfd];omega)
   rw [← hil] at H ⊢
   exact ⟨_,rfl,H.hs.1,H.fr,λb hb=>H.done.2.2 b hb,H.done.2.2⟩
 ·refine Own.zC h λa2 c2 ev=>?_
  subst ev
  have hcut:∃ z,xG 1 a2 c2 (l.length:Nat) (l.length:Nat)=some z:=by
   obtain ⟨_,_,h,_⟩:=hrds.cut (by decide) l.length l.length (Nat.le_refl _) (Nat.le_refl _)
   exact ⟨_,h⟩
  obtain ⟨z,hcut⟩:=hcut
  simp (disch:=omega) only [go_sem,undef,jA,hcut]
  refine Hd H (k:=1) (news:=pL x) rfl (zQ (n:=1) hb0 (by simp)) rfl hr1 rfl (by omega) (by omega) λw M f H=>?_
  simp (disch:=omega) only [go_sem,undef]
  have e:qV qd 1 w (l.length+1) (l.flatMap pL++pL x)=qV qd 1 w (zq l l.length x).length ((zq l l.length x).flatMap pL):=by rw [Nt];simp
  rw [e] at H
  exact ⟨_,rfl,H.hs.1,H.fr,λb hb=>H.done.2.2 b hb,H.done.2.2⟩
theorem qZN{v:Value}{l:List Nat}{b0:Nat}{x:Nat}{T:TypeId}(h:(qV qQ 1 v l.length (l.flatMap ptV)).p m)(hb0:m b0=some (.cells (ptV x).toArray T (0,0)))(hne:b0∉qG v)(i:Nat)(hi:i≤l.length)(hn:l.length≤1000000) :
  CM Tryz.prog jm [v,.int .i64 (i:Nat),.slice (some ⟨b0,0,none⟩) 1 1] m (qV qQ 1 v l.length (l.flatMap ptV)) λu A=>A=qV qQ 1 u (zq l i x).length ((zq l i x).flatMap ptV):=by
 have hgo:∀ {R:Value→Mem→Prop},wpN Tryz.prog zd (vB ze.rvs R) (lC 0 [v,.int .i64 (i:Nat),.slice (some ⟨b0,0,none⟩) 1 1]) m→MC Tryz.prog jm [v,.int .i64 (i:Nat),.slice (some ⟨b0,0,none⟩) 1 1] m R:=λh=>yf (by simp [Tryz.f33]) h
 refine hgo ?_
 have H:Hq m m (qG v) [qV qQ 1 v l.length (l.flatMap ptV)]:=Hq.one h
 have hlen1:∀ y:Nat,(ptV y).length=1:=λ_=>rfl
 have hr1:∀ w∈ptV x,w.oneCell'=true:=λw hw=>by
  simp only [List.mem_cons,List.not_mem_nil,or_false] at hw
  subst hw;rfl
 have hone:∀ w∈l.flatMap ptV,w.oneCell'=true:=λw hw=>by
  obtain ⟨y,_,hy⟩:=List.mem_flatMap.1 hw
  simp only [List.mem_cons,List.not_mem_nil,or_false] at hy
  subst hy;rfl
 have hrds:=Own.rds (k:=1) (enc:=ptV) (by decide) hlen1 h
 rcases Nat.lt_or_eq_of_le hi with hlt | rfl
 ·refine Own.PM h (by omega) λb cap tail ev hb hl=>?_
  subst ev
  have hnb:b0≠b:=λe=>hne (by simp [qG,e])
  have hfl:(l.flatMap ptV).length=l.length:=by rw [xQ hlen1,Nat.mul_one]
  have hfd:((l.drop i).flatMap ptV).length=l.length - i:=by rw [xQ hlen1];simp
  have hcl:cap=l.length+tail.length:=by rw [List.length_append,hfl] at hl;omega
  have hcut:∀ n c b':Nat,i≤n→n≤c→i < c→xG 1 (some ⟨b',0,none⟩) c (i:Nat) (n:Nat)=some (.slice (some ⟨b',i,none⟩) (n - i) (c - i)):=λn c b' h1 h2 h3=>by
   unfold xG
   rw [if_pos (by omega),Int.toNat_natCast,Int.toNat_natCast,if_neg (by omega)]
   simp [xH]
  have hcut1:∀ n c b':Nat,i+1≤n→n≤c→i+1 < c→xG 1 (some ⟨b',0,none⟩) c ((i:Nat)+((1:Nat):Int)) (n:Nat)=some (.slice (some ⟨b',i+1,none⟩) (n - (i+1)) (c - (i+1))):=λn c b' h1 h2 h3=>by
   unfold xG
   rw [show ((i:Nat):Int)+((1:Nat):Int)=((i+1:Nat):Int) from rfl,if_pos (by omega),Int.toNat_natCast,Int.toNat_natCast,if_neg (by omega)]
   simp [xH]
  have hcut0:xG 1 (some ⟨b,0,none⟩) cap 0 (i:Nat)=some (.slice (some ⟨b,0,none⟩) i cap):=by
   unfold xG
   rw [if_pos (by omega)]
   simp [xH]
  have hnd:(l.drop i).length=l.length - i:=by simp
  have hXone:∀ w∈(l.drop i).flatMap ptV,w.oneCell'=true:=λw hw=>hone w (by
   obtain ⟨y,hy,hz⟩:=List.mem_flatMap.1 hw
   exact List.mem_flatMap.2 ⟨y,List.mem_of_mem_drop hy,hz⟩)
  have hldX:∀ M,RdS 1 ptV M (.slice (some ⟨b,0,none⟩) l.length cap) l→ldS M (some ⟨b,i,none⟩) ((l.length - i)*1)=some ((l.drop i).flatMap ptV):=λM hrM=>by
   refine Exists.elim (hrM.cut (by decide) i l.length (by omega) (Nat.le_refl _)) λa' hh=>Exists.elim hh λc' hcr=>?_
   have hcb:=hcr.1
   have hrb:=hcr.2.1
   rw [hcut l.length cap b (by omega) (by omega) (by omega)] at hcb
   have e:(some ⟨b,i,none⟩:Option Addr)=a':=by injection hcb with hcb;injection hcb
   subst e
   rw [List.take_length,← hnd] at hrb
   have:=cC hrb
   rw [hnd] at this
   exact this
  have hcut2:l.length+1≤cap→xG 1 (some ⟨b,0,none⟩) cap 0 ((l.length:Nat)+((1:Nat):Int))=some (.slice (some ⟨b,0,none⟩) (l.length+1) cap):=λhh=>by
   unfold xG
   rw [show ((l.length:Nat):Int)+((1:Nat):Int)=((l.length+1:Nat):Int) from rfl,if_pos (by omega),Int.toNat_natCast]
   simp [xH]
  by_cases hcap:l.length+1 > cap
  ·simp (disch:=omega) only [go_sem,undef,jA,hcut l.length cap b (by omega) (by omega) (by omega),qX (show ¬ ((i:Nat):Int)=(l.length:Nat) by omega),qZ (show ((l.length:Nat):Int)+1 > (cap:Nat) by omega),ed,hcut0]
   have e1:i+(l.length+1 - i)=l.length+1:=by omega
   refine UQ (k:=l.length+1 - i) H rfl (by omega) (zQ hb (n:=i*1) (by rw [List.length_append,hfl];omega)) (by omega) (by omega) (by omega) λc b1 M hc f H=>?_
   rw [e1] at H hc ⊢
   have hzl:((List.replicate (l.length+1 - i) [Value.pointer none]).flatten).length=l.length+1 - i:=by simp
   have hzl2:((List.replicate (c - (l.length+1)) [Value.pointer none]).flatten).length=c - (l.length+1):=by simp
   generalize (List.replicate (l.length+1 - i) [Value.pointer none]).flatten=z1 at H hzl
   generalize (List.replicate (c - (l.length+1)) [Value.pointer none]).flatten=z2 at H hzl2
   have htl:((l.flatMap ptV++tail).take (i*1)).length=i:=by rw [List.length_take,List.length_append,hfl];omega
   have hC:(List.take (i*1) (l.flatMap ptV++tail)++z1++z2).length=c:=by simp only [List.length_append,htl,hzl,hzl2];omega
   have hCt:(List.take (i*1) (l.flatMap ptV++tail)++z1++z2).take i=(l.flatMap ptV++tail).take i:=by rw [List.append_assoc,Nat.mul_one];rw [Nat.mul_one] at htl;exact List.take_left' htl
   generalize List.take (i*1) (l.flatMap ptV++tail)++z1++z2=C0 at H hC hCt
   simp (disch:=omega) only [go_sem,undef,jA,hcut (l.length+1) c b1 (by omega) (by omega) (by omega)]
   have hb0:=f.get hb0 (by simp)
   refine uQ (n:=l.length+1 - i) (k:=1) (size:=1) H H.cs.1 rfl rfl (news:=ptV x) (by rw [Nat.min_eq_left (by omega)];exact zQ hb0 (n:=1*1) (by simp)) hr1 (by rw [hC,hlen1];omega) λM f2 H=>?_
   simp (disch:=omega) only [go_sem,undef,jA,hcut1 (l.length+1) c b1 (by omega) (by omega) (by omega),hcut l.length cap b (by omega) (by omega) (by omega)]
   have hrM:=Own.rds (k:=1) (enc:=ptV) (by decide) hlen1 (H.at 1 rfl)
   refine uQ (n:=l.length+1 - (i+1)) (k:=l.length - i) (size:=1) H H.cs.1 rfl rfl (news:=(l.drop i).flatMap ptV) (by rw [Nat.min_eq_left (by omega)];exact hldX M hrM) hXone (by simp only [List.length_append,List.length_take,List.length_drop,hC,hfd,hlen1];omega) λM f3 H=>?_
   simp (disch:=omega) only [go_sem,undef]
   rw [Hv C0 (ptV x) _ i rfl (by rw [hC,hfd];omega),hCt,cF hlen1 l i x tail _ (by omega)] at H
   have hil:=xS l i x (by omega)
   have hif:((zq l i x).flatMap ptV).length=(l.length+1)*1:=by rw [xQ hlen1,hil]
   have H:=Hq.eE (size:=1) (n:=l.length+1) (cap:=c) H hif (by rw [List.length_append,hif,List.length_drop,hC,hfd];omega)
   rw [← hil] at H ⊢
   have H:=H.perm (List.Perm.swap ..) |>.tail
   exact ⟨_,rfl,H.hs.1,H.fr,λb hb=>H.done.2.2 b hb,H.done.2.2⟩
  ·have hcut2:=hcut2 (by omega)
   simp (disch:=omega) only [go_sem,undef,jA,hcut l.length cap b (by omega) (by omega) (by omega),qX (show ¬ ((i:Nat):Int)=(l.length:Nat) by omega),qX (show ¬ ((l.length:Nat):Int)+1 > (cap:Nat) by omega),ed,hcut2,hcut1 (l.length+1) cap b (by omega) (by omega) (by omega)]
   have hov:rd (.ovl 1) [Value.slice (some ⟨b0,0,none⟩) 1 1,.slice (some ⟨b,i+1,none⟩) (l.length+1 - (i+1)) (cap - (i+1))] m=some (.bool false):=by
    rw [qjd]
    unfold ovQ
    simp only [ch,hb0,hb]
    rw [if_neg (by omega),if_neg hnb];rfl
   have H:=Hq.toCell H hb
   have hXl:i+1+((l.drop i).flatMap ptV).length≤(l.flatMap ptV++tail).length:=by rw [hl,hfd];omega
   simp (disch:=omega) only [go_sem,undef,hov,jA,hcut (l.length+1) cap b (by omega) (by omega) (by omega),hcut1 (l.length+1) cap b (by omega) (by omega) (by omega)]
   refine uQ (n:=l.length+1 - (i+1)) (k:=l.length+1 - i) (size:=1) H hb rfl rfl (news:=(l.drop i).flatMap ptV) (by rw [Nat.min_eq_right (by omega),show l.length+1 - (i+1)=l.length - i from by omega];exact hldX m hrds) hXone hXl λM f H=>?_
   simp (disch:=omega) only [go_sem,undef,jA,hcut (l.length+1) cap b (by omega) (by omega) (by omega)]
   have hb0:M b0=some (.cells (ptV x).toArray T (0,0)):=by rw [f b0 (by rw [hb0];simp) (by simpa using hnb)];exact hb0
   refine uQ (n:=l.length+1 - i) (k:=1) (size:=1) H H.cs.1 rfl rfl (news:=ptV x) (by rw [Nat.min_eq_left (by omega)];exact zQ hb0 (n:=1*1) (by simp)) hr1 (by simp only [List.length_append,List.length_take,List.length_drop,hfl,hfd,hlen1];omega) λM f3 H=>?_
   simp (disch:=omega) only [go_sem,undef]
   rw [Ej _ (ptV x) _ i rfl hXl,cF hlen1 l i x tail _ (by omega)] at H
   have hil:=xS l i x (by omega)
   have hif:((zq l i x).flatMap ptV).length=(l.length+1)*1:=by rw [xQ hlen1,hil]
   have H:=Hq.eE (size:=1) (n:=l.length+1) (cap:=cap) H hif (by rw [List.length_append,hif,List.length_drop,hl,hfd];omega)
   rw [← hil] at H ⊢
   exact ⟨_,rfl,H.hs.1,H.fr,λb hb=>H.done.2.2 b hb,H.done.2.2⟩
 ·refine Own.zC h λa2 c2 ev=>?_
  subst ev
  have hcut:∃ z,xG 1 a2 c2 (l.length:Nat) (l.length:Nat)=some z:=by
   obtain ⟨_,_,h,_⟩:=hrds.cut (by decide) l.length l.length (Nat.le_refl _) (Nat.le_refl _)
   exact ⟨_,h⟩
  obtain ⟨z,hcut⟩:=hcut
  simp (disch:=omega) only [go_sem,undef,jA,hcut]
  refine Hd H (k:=1) (news:=ptV x) rfl (zQ (n:=1) hb0 (by simp)) rfl hr1 rfl (by omega) (by omega) λw M f H=>?_
  simp (disch:=omega) only [go_sem,undef]
  have e:qV qQ 1 w (l.length+1) (l.flatMap ptV++ptV x)=qV qQ 1 w (zq l l.length x).length ((zq l l.length x).flatMap ptV):=by rw [Nt];simp
  rw [e] at H
  exact ⟨_,rfl,H.hs.1,H.fr,λb hb=>H.done.2.2 b hb,H.done.2.2⟩
end Go.Fw
namespace Go.Fw
open Go.Proofs
variable {m m0 M:Mem} {S:List Nat} {L:List As}
variable {cb:Nat} {Y:Ly} {C:Co}
theorem qS{A:As}{Y':Ly}{C':Co}{V:Value}(hfw:A.fp=A.wp)(ho:Y'.ok C')(H:Hq m M A.wp [coA cb Y' C']) :
  ∃ A',CoR cb C' V V A'∧A'.p M∧Fr m M A.wp∧(∀ b∈A'.fp,b∈A.fp∨m b=none)∧∀ b∈A'.wp,b∈A.wp∨m b=none :=
 ⟨_,⟨rfl,_,ho,rfl⟩,H.hs.1,H.fr,λb hb=>by rw [hfw];rw [qu] at hb;exact H.done.2.2 b hb,H.done.2.2⟩
theorem qyP{v:LdV}{x:Ld}:(vG (ldA v x) (coA cb Y C)).fp=(vG (ldA v x) (coA cb Y C)).wp:=by
 show (ldA v x).fp++(coA cb Y C).fp=(ldA v x).wp++(coA cb Y C).wp
 rw [qyO,qu]
theorem Hi{α β γ:Type}(f:α→β→γ)(v:α)(x:β):∀ (j:Nat) (vs:List α) (xs:List β),vs.length=xs.length→List.zipWith f (zq vs j v) (zq xs j x)=zq (List.zipWith f vs xs) j (f v x)
 | 0,vs,xs,_=>by simp [zq]
 | j+1,[],[],_=>by simp [zq]
 | j+1,[],_::_,h=>by simp at h
 | j+1,_::_,[],h=>by simp at h
 | j+1,a::vs,b::xs,h=>by
  have:=Hi f v x j vs xs (by simpa using h)
  simpa [zq] using this
theorem bV{α:Type}(l:List α)(j:Nat)(x:α):(zq l j x).Perm (x::l):=by
 have h:(l.take j++x::l.drop j).Perm (x::(l.take j++l.drop j)):=List.perm_middle
 rwa [List.take_append_drop] at h
theorem Ts{α:Type}(l:List α)(j:Nat)(x:α)(h:j≤l.length):(zq l j x)[j]?=some x:=by
 unfold zq
 rw [List.getElem?_append_right (by rw [List.length_take];omega),List.length_take,Nat.min_eq_left h,Nat.sub_self];rfl
theorem qwK{vs:List LdV}{xs:List Ld}{v:LdV}{x:Ld}(j:Nat)(hl:vs.length=xs.length)(H:Hq m0 m S (ldA v x::Qb vs xs::L)):Hq m0 m S (Qb (zq vs j v) (zq xs j x)::L):=by
 have H:=Hq.zc (l:=List.zipWith ldA vs xs) (H.perm (List.Perm.swap ..))
 refine Hq.jc (l:=List.zipWith ldA (zq vs j v) (zq xs j x)) ?_
 rw [Hi ldA v x j vs xs hl]
 have hp:(List.zipWith ldA vs xs++ldA v x::L).Perm (zq (List.zipWith ldA vs xs) j (ldA v x)++L) :=
  List.perm_middle.trans ((bV (List.zipWith ldA vs xs) j (ldA v x)).symm.append_right L)
 exact H.perm hp.symm
theorem qZM{α β:Type}(vs:List α)(xs:List β)(a:α)(b:β)(j:Nat)(p:Nat)(v:α)(x:β)(hv:vs[p]?=some v)(hx:xs[p]?=some x):∃ p':Nat,(zq vs j a)[p']?=some v∧(zq xs j b)[p']?=some x:=by
 have h1:=(List.getElem?_eq_some_iff.1 hv).1
 have h2:=(List.getElem?_eq_some_iff.1 hx).1
 by_cases hp:p < j
 ·refine ⟨p,?_,?_⟩
  ·unfold zq;rw [List.getElem?_append_left (by rw [List.length_take];omega),List.getElem?_take_of_lt hp];exact hv
  ·unfold zq;rw [List.getElem?_append_left (by rw [List.length_take];omega),List.getElem?_take_of_lt hp];exact hx
 ·refine ⟨p+1,?_,?_⟩
  ·unfold zq
   rw [List.getElem?_append_right (by rw [List.length_take];omega),List.length_take,Nat.min_eq_left (by omega),show p+1 - j=(p - j)+1 from by omega,List.getElem?_cons_succ,List.getElem?_drop,show j+(p - j)=p from by omega]
   exact hv
  ·unfold zq
   rw [List.getElem?_append_right (by rw [List.length_take];omega),List.length_take,Nat.min_eq_left (by omega),show p+1 - j=(p - j)+1 from by omega,List.getElem?_cons_succ,List.getElem?_drop,show j+(p - j)=p from by omega]
   exact hx
def CoL(cb:Nat)(Y0:Ly)(C0:Co)(C:Co)(v:LdV)(x:Ld)(V u:Value)(A:As):Prop:=u=V∧∃ Y:Ly,Y.ok C∧(∃ j:Nat,Y.lds[j]?=some v∧C.leads[j]?=some x)∧Kp x.id Y0 C0 Y C∧A=coA cb Y C
theorem CoL.E{G:Prop}{Y0:Ly}{C0 C:Co}{v:LdV}{x:Ld}{V u:Value}{A:As}(h:CoL cb Y0 C0 C v x V u A)(k:∀ (Y:Ly) (j:Nat),u=V→Y.ok C→Y.lds[j]?=some v→C.leads[j]?=some x→A=coA cb Y C→Kp x.id Y0 C0 Y C→G):G:=by
 obtain ⟨h1,Y,h2,⟨j,h3,h4⟩,h6,h5⟩:=h
 exact k Y j h1 h2 h3 h4 h5 h6
theorem qJl{A:As}{Y0 Y':Ly}{C0 C':Co}{v:LdV}{x:Ld}{V:Value}(hfw:A.fp=A.wp)(ho:Y'.ok C')(hl:∃ j:Nat,Y'.lds[j]?=some v∧C'.leads[j]?=some x)(hk:Kp x.id Y0 C0 Y' C')(H:Hq m M A.wp [coA cb Y' C']) :
  ∃ A',CoL cb Y0 C0 C' v x V V A'∧A'.p M∧Fr m M A.wp∧(∀ b∈A'.fp,b∈A.fp∨m b=none)∧∀ b∈A'.wp,b∈A.wp∨m b=none :=
 ⟨_,⟨rfl,_,ho,hl,hk,rfl⟩,H.hs.1,H.fr,λb hb=>by rw [hfw];rw [qu] at hb;exact H.done.2.2 b hb,H.done.2.2⟩
def eh(i:Int×Int)(l:List Ld):Nat:=(l.takeWhile λy=>decide (lt2 y.id i)).length
theorem Iy(i:Int×Int)(l:List Ld):eh i l≤l.length:=(List.takeWhile_sublist _).length_le
theorem Tf{i:Int×Int}:∀ {l:List Ld} {j:Nat} {y:Ld},j < eh i l→l[j]?=some y→lt2 y.id i
 | [],j,y,h,_=>by simp [eh] at h
 | a::r,j,y,h,hy=>by
  by_cases ha:lt2 a.id i
  ·cases j with
   | zero=>simp at hy;subst hy;exact ha
   | succ j=>exact Tf (l:=r) (j:=j) (by simpa [eh,List.takeWhile_cons,ha] using h) (by simpa using hy)
  ·simp [eh,List.takeWhile_cons,ha] at h
theorem Tg{i:Int×Int}:∀ {l:List Ld} {y:Ld},l[eh i l]?=some y→¬ lt2 y.id i
 | [],y,h=>by simp at h
 | a::r,y,h=>by
  by_cases ha:lt2 a.id i
  ·have e:eh i (a::r)=eh i r+1:=by simp [eh,List.takeWhile_cons,ha]
   rw [e] at h
   exact Tg (l:=r) (by simpa using h)
  ·have e:eh i (a::r)=0:=by simp [eh,List.takeWhile_cons,ha]
   rw [e] at h
   simp at h;subst h;exact ha
def Co.ZT(C:Co)(x:Ld):Co:={ C.zk x.id with leads:=zq (C.zk x.id).leads (eh x.id (C.zk x.id).leads) x }
theorem OV{v:LdV}{x:Ld}(h:(vG (ldA v x) (coA cb Y C)).p m)(ho:Y.ok C)(hn:C.leads.length≤100000) :
  CM Tryz.prog rH [lp cb,lp v.b] m (vG (ldA v x) (coA cb Y C)) (CoL cb Y C (C.ZT x) v x (.tuple #[])):=by
 have H:Hq m m (vG (ldA v x) (coA cb Y C)).wp [ldA v x,coA cb Y C]:=Hq.split (Hq.one h)
 refine pK (by simp [Tryz.f33]) ?_
 simp (disch:=omega) only [go_sem,undef,qT (H.at 0 rfl),Ld.c]
 refine qJo H (Jf (H.at 1 rfl) ho x.id (by omega)) λu M A' hR f H=>?_
 refine hR.E λY1 eu ho1 eA hk1=>?_
 subst eu eA
 have hln:(C.zk x.id).leads.length≤100000:=Nat.le_trans (List.length_filter_le ..) hn
 have hte:C.ZT x={ C.zk x.id with leads:=zq (C.zk x.id).leads (eh x.id (C.zk x.id).leads) x }:=rfl
 rw [hte]
 generalize C.zk x.id=C1 at *
 have hple:=Iy x.id C1.leads
 have hplt:∀ j y,j < eh x.id C1.leads→C1.leads[j]?=some y→lt2 y.id x.id:=λj y h hy=>Tf h hy
 have hpat:∀ y,C1.leads[eh x.id C1.leads]?=some y→¬ lt2 y.id x.id:=λy hy=>Tg hy
 generalize eh x.id C1.leads=p at *
 simp (disch:=omega) only [go_sem,undef]
 refine qe (λk E m'=>∃ j,j≤p∧k=p - j∧E=[(0,lp cb),(1,lp v.b),(4,.int .i64 (j:Nat))]∧Hq m m' (vG (ldA v x) (coA cb Y C)).wp [ldA v x,coA cb Y1 C1]) p rfl ⟨0,by omega,rfl,rfl,H⟩ ?_
 clear H f hR
 rintro k E M1 ⟨j,hj,rfl,rfl,H⟩
 have hc:=qy (H.at 1 rfl)
 have hrow:=rj (H.at 1 rfl)
 have hlen:=ho1.lds
 have hlds:=zV (H.at 1 rfl)
 have hrd:RdS 1 pL M1 Y1.lv Y1.lds:=Own.rds (by decide) (λ_=>rfl) hrow
 refine Own.zC hrow λa c hv=>?_
 rw [hv] at hrd
 have hlx:=qT (H.at 0 rfl)
 have hend:∀ (E1:Env),j=p→E1.get 0=lp cb→E1.get 1=lp v.b→E1.get 4=.int .i64 (j:Nat)→E1.has 0=true→E1.has 1=true→E1.has 4=true →
   ∀ M1,Hq m M1 (vG (ldA v x) (coA cb Y C)).wp [ldA v x,coA cb Y1 C1] →
   wpN Tryz.prog Jh (vB [] λu M=>∃ A',CoL cb Y C { C1 with leads:=zq C1.leads p x } v x (.tuple #[]) u A'∧A'.p M∧Fr m M (vG (ldA v x) (coA cb Y C)).wp∧(∀ b∈A'.fp,b∈(vG (ldA v x) (coA cb Y C)).fp∨m b=none)∧∀ b∈A'.wp,b∈(vG (ldA v x) (coA cb Y C)).wp∨m b=none) E1 M1:=by
  intro E1 e g0 g1 g4 k0 k1 k4 M1 H
  have hc:=qy (H.at 1 rfl)
  simp (disch:=omega) only [go_sem,undef,g0,g1,g4,k0,k1,k4,hc,Ly.c,hv]
  refine qg H λb7 M f H=>?_
  have hb7:=H.cs.1
  have H:Hq m M (vG (ldA v x) (coA cb Y C)).wp (coA cb Y1 C1::[qw b7 (.cells [lp v.b].toArray qd (0,0)),ldA v x]):=H.sel 3 [2,0,1] rfl (by decide) (by decide)
  have H:=Hq.coS H
  have hap:JF (qV qd 1 Y1.lv Y1.lds.length (Y1.lds.flatMap pL)) (qw b7 (.cells [lp v.b].toArray qd (0,0))):=H.apart 3 9 11 rfl (by decide) (by decide) (by decide)
  have hins:=qZO (v:=Y1.lv) (l:=Y1.lds) (b0:=b7) (x:=v) (H.at 3 rfl) hb7 (λhb=>hap.2 b7 (by simp) hb) p (by omega) (by omega)
  have hargs:[Y1.lv,Value.int .i64 (p:Nat),.slice (some ⟨b7,0,none⟩) 1 1]=[.slice a Y1.lds.length c,Value.int .i64 (j:Nat),.slice (some ⟨b7,0,none⟩) 1 1]:=by rw [hv,e]
  rw [hargs] at hins
  simp (disch:=omega) only [go_sem,undef,g0,g1,g4,k0,k1,k4]
  refine qU 3 H hins rfl λu M2 A' eA f H=>?_
  subst eA
  refine Own.zC (H.at 3 rfl) λa2 c2 e2=>Exists.elim (⟨_,rfl⟩:∃ n',n'=(zq Y1.lds p v).length) λn' hn'=>?_
  rw [← hn'] at e2
  subst e2
  have H:Hq m M2 (vG (ldA v x) (coA cb Y C)).wp [qw cb (.cells (Y1.c C1).cs.toArray qH (0,0)),xe Y1.lb Y1.lr C1.cut C1.lg,xT Y1.xb Y1.xr C1.xcut C1.xl,qV qd 1 (.slice a2 n' c2) (zq Y1.lds p v).length ((zq Y1.lds p v).flatMap pL),qV qQ 1 Y1.wv Y1.wss.length (Y1.wss.flatMap ptV),brA qB Y1.rv Y1.rs C1.recs,qV qv 51 Y1.ov C1.out.length (C1.out.flatMap Lt.cs),Qb Y1.lds C1.leads,we Y1.wss C1.wishes,qw b7 (.cells [lp v.b].toArray qd (0,0)),ldA v x]:=H
  simp (disch:=omega) only [go_sem,undef,g0,g1,g4,k0,k1,k4,H.cs,Ly.c]
  refine xK H λM3 f H=>?_
  have H:Hq m M3 (vG (ldA v x) (coA cb Y C)).wp (ldA v x::Qb Y1.lds C1.leads::[qw cb (.cells (Ly.c { Y1 with lv:=.slice a2 n' c2,lds:=zq Y1.lds p v } { C1 with leads:=zq C1.leads p x }).cs.toArray qH (0,0)),xe Y1.lb Y1.lr C1.cut C1.lg,xT Y1.xb Y1.xr C1.xcut C1.xl,qV qd 1 (.slice a2 n' c2) (zq Y1.lds p v).length ((zq Y1.lds p v).flatMap pL),qV qQ 1 Y1.wv Y1.wss.length (Y1.wss.flatMap ptV),brA qB Y1.rv Y1.rs C1.recs,qV qv 51 Y1.ov C1.out.length (C1.out.flatMap Lt.cs),we Y1.wss C1.wishes]):=H.sel 11 [10,7,0,1,2,3,4,5,6,8] rfl (by decide) (by decide)
  have H:=qwK p hlen H
  have H:Hq m M3 (vG (ldA v x) (coA cb Y C)).wp (coL cb { Y1 with lv:=.slice a2 n' c2,lds:=zq Y1.lds p v } { C1 with leads:=zq C1.leads p x }++[]):=H.sel 9 [1,2,3,4,5,6,7,0,8] rfl (by decide) (by decide)
  simp (disch:=omega) only [go_sem,undef]
  exact qJl qyP (Y':={ Y1 with lv:=.slice a2 n' c2,lds:=zq Y1.lds p v }) (C':={ C1 with leads:=zq C1.leads p x }) ⟨by rw [xS _ _ _ (by omega),xS _ _ _ hple,hlen],ho1.wss,ho1.wb⟩ ⟨p,Ts _ _ _ (by omega),Ts _ _ _ hple⟩ (hk1.trans λp' v' x' hv' hx' _=>qZM Y1.lds C1.leads v x p p' v' x' hv' hx') (Hq.coJ H)
 generalize hC:Jh=T at *
 by_cases hjl:j < Y1.lds.length
 ·refine RdS.elK hrd hjl (by decide) λbx o w hw hix hE=>?_
  have hp0:(pL w)[0]?=some (lp w.b):=rfl
  refine Exists.elim (⟨C1.leads[j],List.getElem?_eq_getElem (by omega)⟩:∃ y,C1.leads[j]?=some y) λy hy=>?_
  have hcy:=qT (zy hlds hw hy)
  by_cases hjp:j < p
  ·have hless:=hplt j y hjp hy
   simp (disch:=omega) only [go_sem,undef,hc,Ly.c,hv,qZ (show ((j:Nat):Int) < (Y1.lds.length:Nat) by omega),hix,hE.ld0,hp0,hcy,hlx,Ld.c]
   refine qa H (Kt y.id x.id _) λM f H=>?_
   simp (disch:=omega) only [go_sem,undef,qZ hless]
   exact qK (p - (j+1)) (by omega) ⟨j+1,by omega,rfl,rfl,H⟩
  ·have e:j=p:=by omega
   have hless:=hpat y (by rw [← e];exact hy)
   simp (disch:=omega) only [go_sem,undef,hc,Ly.c,hv,qZ (show ((j:Nat):Int) < (Y1.lds.length:Nat) by omega),hix,hE.ld0,hp0,hcy,hlx,Ld.c]
   refine qa H (Kt y.id x.id _) λM f H=>?_
   simp (disch:=omega) only [go_sem,undef,qX hless]
   exact hend _ e rfl rfl rfl rfl rfl rfl _ H
 ·have e:j=p:=by omega
  simp (disch:=omega) only [go_sem,undef,hc,Ly.c,hv,qX (show ¬ ((j:Nat):Int) < (Y1.lds.length:Nat) by omega)]
  exact hend _ e rfl rfl rfl rfl rfl rfl _ H
def Co.kP(C:Co)(x:Ld):Co:=(C.ZT x).all x.ask x.ans
theorem pk{v:LdV}{x:Ld}(h:(vG (ldA v x) (coA cb Y C)).p m)(ho:Y.ok C)(hn:C.leads.length≤100000)(hn7:C.n≤7)(hout:C.out.length≤999000) :
  CM Tryz.prog Yg [lp cb,lp v.b] m (vG (ldA v x) (coA cb Y C)) (CoN cb Y C x.id (C.kP x) (.tuple #[])):=by
 have H:Hq m m (vG (ldA v x) (coA cb Y C)).wp [vG (ldA v x) (coA cb Y C)]:=Hq.one h
 have htk:=OV h ho hn
 refine nq (by simp [Tryz.f33]) ?_
 simp (disch:=omega) only [go_sem,undef]
 refine zW H htk λu M A' hR f H=>?_
 refine hR.E λY1 j eu ho1 hj1 hj2 eA hk1=>?_
 subst eu eA
 have hcx:=qT (zy (zV (H.at 0 rfl)) hj1 hj2)
 simp (disch:=omega) only [go_sem,undef,hcx,Ld.c]
 refine qa H (qkK hcx) λM f H=>?_
 have hcx:=qT (zy (zV (H.at 0 rfl)) hj1 hj2)
 simp (disch:=omega) only [go_sem,undef,hcx,Ld.c]
 refine zW H (UX (H.at 0 rfl) ho1 x.ask x.ans hn7 hout) λu M A' hR f H=>?_
 refine hR.E λY2 eu ho2 eA hy2=>?_
 subst eu eA
 simp (disch:=omega) only [go_sem,undef]
 exact nY qyP ho2 (hk1.trans (Kp.same hy2 (gl ..))) H
theorem cM{v:LdV}{x:Ld}(h:(vG (ldA v x) (coA cb Y C)).p m)(ho:Y.ok C)(hn:C.leads.length≤100000)(hn7:C.n≤7)(hout:C.out.length≤999000) :
  CM Tryz.prog Yg [lp cb,lp v.b] m (vG (ldA v x) (coA cb Y C)) (CoR cb (C.kP x) (.tuple #[])):=BK (pk h ho hn hn7 hout)
end Go.Fw
namespace Go.Fw
open Go.Proofs
variable {m m0 M:Mem} {S:List Nat} {L:List As}
variable {cb:Nat} {Y:Ly} {C:Co}
theorem LdC.bz(c:LdC)(p:Int×Int)(w:Int)(f:Bool)(x:Cmd)(a:Att):lay c.cs [(0,2),(2,1),(5,1),(6,7),(13,8)] [.agg (pc p).toArray,.int .i64 w,.bool f,.agg x.cs.toArray,.agg a.cs.toArray]=some ({ c with id:=p,way:=w,first:=f,cmd:=x,att:=a }:LdC).cs:=rfl
theorem LdC.Dh(c:LdC)(p:Int×Int)(w:Int)(b:Int×Int)(x:Cmd)(a:Att):lay c.cs [(0,2),(2,1),(3,2),(6,7),(13,8)] [.agg (pc p).toArray,.int .i64 w,.agg (pc b).toArray,.agg x.cs.toArray,.agg a.cs.toArray]=some ({ c with id:=p,way:=w,bal:=b,cmd:=x,att:=a }:LdC).cs:=rfl
attribute [go_sem] LdC.bz LdC.Dh
def xd(i:Int×Int)(w:Int)(b:Int×Int)(f:Bool)(x:Cmd)(a:Att):Ld:=⟨i,w,b,f,x,a,Dp.zero,[],[],0,0⟩
theorem RJ{b:Nat}{i:Int×Int}{w:Int}{bl:Int×Int}{f:Bool}{x:Cmd}{a:Att}(H:Hq m0 m S (qw b (.cells (LdC.mk i w bl f x a Dp.zero (.slice none 0 0) (.slice none 0 0) 0 0).cs.toArray qN (0,0))::L)) :
  Hq m0 m S (ldA ⟨b,.slice none 0 0,.slice none 0 0⟩ (xd i w bl f x a)::L):=by
 have H:=(H.QP qb 8).QP qD 22
 have H:Hq m0 m S ([qw b (.cells (LdC.mk i w bl f x a Dp.zero (.slice none 0 0) (.slice none 0 0) 0 0).cs.toArray qN (0,0)),qV qb 8 (.slice none 0 0) 0 [],qV qD 22 (.slice none 0 0) 0 []]++L) :=
  H.perm (List.Perm.append_right L (List.reverse_perm [qV qD 22 (.slice none 0 0) 0 [],qV qb 8 (.slice none 0 0) 0 [],qw b (.cells (LdC.mk i w bl f x a Dp.zero (.slice none 0 0) (.slice none 0 0) 0 0).cs.toArray qN (0,0))]))
 exact Hq.jc H
theorem wx(C:Co)(i:Int×Int)(x:Cel):(C.set i x).1.leads=C.leads∧(C.set i x).1.n=C.n∧(C.set i x).1.out=C.out∧(C.set i x).1.me=C.me:=by
 unfold Co.set
 split
 ·unfold Co.note
  split<;>exact ⟨rfl,rfl,rfl,rfl⟩
 ·exact ⟨rfl,rfl,rfl,rfl⟩
def Co.lz(C:Co)(x:Cmd)(i:Int×Int)(a:Att):Co×Value:=if xC a then (((C.set i ⟨1,(0,0),(0,0),x,a,true⟩).1).kP (xd i 0 (0,0) true x a),.tuple #[pv i,.bool true]) else (C,.tuple #[pv (0,0),.bool false])
abbrev prC:NC:=.seq (.seq Vy (.cond (.qq 55) (.seq Vw .ret) .skip)) (.seq Vv (.seq Vk (.seq Vx .ret)))
theorem GD{C0:Co}{Y0:Ly}{E:Env}{b3 b4 b6 b7:Nat}{x:Cmd}{i:Int×Int}{a:Att}(ho:Y.ok C)(hrec:C.recs.length≤1000000)(hn:C.leads.length≤100000)(hn7:C.n≤7)(hout:C.out.length≤999000)(H:Hq m M (coA cb Y0 C0).wp [qw b7 (.cells a.cs.toArray qb (0,0)),qw b6 (.cells (pc i).toArray qW (0,0)),qw b4 (.cells (pc (0,0)).toArray qW (0,0)),qw b3 (.cells x.cs.toArray qA (0,0)),coA cb Y C])(e0:E.get 0=lp cb)(e3:E.get 3=lp b3)(e4:E.get 4=lp b4)(e6:E.get 6=lp b6)(e7:E.get 7=lp b7)(h0:E.has 0=true)(h3:E.has 3=true)(h4:E.has 4=true)(h6:E.has 6=true)(h7:E.has 7=true) :
  wpN Tryz.prog prC (vB [.cells 4 2,.qq 5] λu M=>∃ A',CoR cb (C.lz x i a).1 (C.lz x i a).2 u A'∧A'.p M∧Fr m M (coA cb Y0 C0).wp∧(∀ b∈A'.fp,b∈(coA cb Y0 C0).fp∨m b=none)∧∀ b∈A'.wp,b∈(coA cb Y0 C0).wp∨m b=none) E M:=by
 by_cases hr:xC a
 ·have hp:C.lz x i a=(((C.set i ⟨1,(0,0),(0,0),x,a,true⟩).1).kP (xd i 0 (0,0) true x a),.tuple #[pv i,.bool true]):=if_pos hr
  rw [hp]
  have hss:=wx C i ⟨1,(0,0),(0,0),x,a,true⟩
  simp (disch:=omega) only [go_sem,undef,e0,e3,e4,e6,e7,h0,h3,h4,h6,h7,H.cs]
  refine qa H (zl a _) λM f H=>?_
  simp (disch:=omega) only [go_sem,undef,e0,e3,e4,e6,e7,h0,h3,h4,h6,h7,H.cs,qZ hr,Bool.not_true]
  refine qU 4 H (XC (H.at 4 rfl) ho i ⟨1,(0,0),(0,0),x,a,true⟩ hrec) rfl λu M A' hR f H=>?_
  refine hR.E λY1 eu ho1 eA=>?_
  subst eu eA
  generalize (C.set i ⟨1,(0,0),(0,0),x,a,true⟩).1=C1 at *
  have H:Hq m M (coA cb Y0 C0).wp [qw b7 (.cells a.cs.toArray qb (0,0)),qw b6 (.cells (pc i).toArray qW (0,0)),qw b4 (.cells (pc (0,0)).toArray qW (0,0)),qw b3 (.cells x.cs.toArray qA (0,0)),coA cb Y1 C1]:=H
  simp (disch:=omega) only [go_sem,undef,e0,e3,e4,e6,e7,h0,h3,h4,h6,h7,H.cs]
  refine qg H λb9 M f H=>?_
  have H:=RJ H
  have H:Hq m M (coA cb Y0 C0).wp (ldA ⟨b9,.slice none 0 0,.slice none 0 0⟩ (xd i 0 (0,0) true x a)::coA cb Y1 C1::[qw b6 (.cells (pc i).toArray qW (0,0)),qw b4 (.cells (pc (0,0)).toArray qW (0,0))]):=H.sel 6 [0,5,2,3] rfl (by decide) (by decide)
  have H:=Hq.join H
  simp (disch:=omega) only [go_sem,undef]
  refine zW H (cM (H.at 0 rfl) ho1 (by rw [hss.1];exact hn) (by rw [hss.2.1];exact hn7) (by rw [hss.2.2.1];exact hout)) λu M A' hR f H=>?_
  refine hR.E λY2 eu ho2 eA=>?_
  subst eu eA
  simp (disch:=omega) only [go_sem,undef,H.cs]
  refine ZB H rfl rfl λM f H=>?_
  simp (disch:=omega) only [go_sem,undef,H.cs]
  exact qS qu ho2 (H.drop 1 |>.drop 1)
 ·have hp:C.lz x i a=(C,.tuple #[pv (0,0),.bool false]):=if_neg hr
  rw [hp]
  simp (disch:=omega) only [go_sem,undef,e0,e3,e4,e6,e7,h0,h3,h4,h6,h7,H.cs]
  refine qa H (zl a _) λM f H=>?_
  simp (disch:=omega) only [go_sem,undef,e0,e3,e4,e6,e7,h0,h3,h4,h6,h7,H.cs,qX hr,Bool.not_false]
  refine ZB H rfl rfl λM f H=>?_
  simp (disch:=omega) only [go_sem,undef,H.cs]
  exact qS qu ho (H.tail.tail.tail.tail)
end Go.Fw
namespace Go.Fw
open Go.Proofs
variable {m m0 M:Mem} {S:List Nat} {L:List As}
variable {cb:Nat} {Y:Ly} {C:Co}
theorem qqx{C0:Co}{Y0:Ly}{E:Env}{b3 b4 b6:Nat}{x:Cmd}{i:Int×Int}(ho:Y.ok C)(hx:x.right)(hxl:Qe C.xl)(hrec:C.recs.length≤1000000)(hn:C.leads.length≤100000)(hn7:C.n≤7)(hout:C.out.length≤999000)(H:Hq m M (coA cb Y0 C0).wp [qw b6 (.cells (pc i).toArray qW (0,0)),qw b4 (.cells (pc (0,0)).toArray qW (0,0)),qw b3 (.cells x.cs.toArray qA (0,0)),coA cb Y C])(e0:E.get 0=lp cb)(e3:E.get 3=lp b3)(e4:E.get 4=lp b4)(e6:E.get 6=lp b6)(h0:E.has 0=true)(h3:E.has 3=true)(h4:E.has 4=true)(h6:E.has 6=true) :
  wpN Tryz.prog (.seq jV prC) (vB [.cells 4 2,.qq 5] λu M=>∃ A',CoR cb (C.lz x i (zp C.xcut C.xl i x)).1 (C.lz x i (zp C.xcut C.xl i x)).2 u A'∧A'.p M∧Fr m M (coA cb Y0 C0).wp∧(∀ b∈A'.fp,b∈(coA cb Y0 C0).fp∨m b=none)∧∀ b∈A'.wp,b∈(coA cb Y0 C0).wp∨m b=none) E M:=by
 generalize hC:prC=T
 simp (disch:=omega) only [go_sem,undef,e0,e3,e4,e6,h0,h3,h4,h6,H.cs,qy (H.at 3 rfl),Ly.c]
 refine qp ?_ ?_
 ·simp (disch:=omega) only [go_sem,undef,e0,e3,e4,e6,h0,h3,h4,h6,H.cs,qy (H.at 3 rfl),Ly.c]
  refine qa H (tr (tm (H.at 3 rfl)) hxl i x (gg hx)) λM f H=>?_
  simp (disch:=omega) only [go_sem,undef,e0,e3,e4,e6,h0,h3,h4,h6,H.cs,qy (H.at 3 rfl),Ly.c]
  refine qg H λb7 M f H=>?_
  simp (disch:=omega) only [go_sem,undef,e0,e3,e4,e6,h0,h3,h4,h6,H.cs,qy (H.at 4 rfl),Ly.c]
  refine qs H rfl rfl λM f H=>?_
  simp (disch:=omega) only [go_sem,undef,e0,e3,e4,e6,h0,h3,h4,h6,H.cs]
  subst hC
  exact GD ho hrec hn hn7 hout H rfl rfl rfl rfl rfl rfl rfl rfl rfl rfl
 ·simp (disch:=omega) only [go_sem,undef,e0,e3,e4,e6,h0,h3,h4,h6,H.cs,qy (H.at 3 rfl),Ly.c]
  refine qg H λb7 M f H=>?_
  simp (disch:=omega) only [go_sem,undef,e0,e3,e4,e6,h0,h3,h4,h6,H.cs,qy (H.at 4 rfl),Ly.c]
  refine qa H (tr (tm (H.at 4 rfl)) hxl i x (gg hx)) λM f H=>?_
  simp (disch:=omega) only [go_sem,undef,e0,e3,e4,e6,h0,h3,h4,h6,H.cs]
  refine qs H rfl rfl λM f H=>?_
  simp (disch:=omega) only [go_sem,undef,e0,e3,e4,e6,h0,h3,h4,h6,H.cs]
  subst hC
  exact GD ho hrec hn hn7 hout H rfl rfl rfl rfl rfl rfl rfl rfl rfl rfl
def Co.next(C:Co):Int×Int:=((C.me:Nat),C.top.g C.me+1)
def Co.wU(C:Co)(x:Cmd):Co×Value:=if ¬ x.right∨x.kind=0∨C.next.2 > 1073741824∨256≤C.leads.length then (C,.tuple #[pv (0,0),.bool false]) else C.lz x C.next (zp C.xcut C.xl C.next x)
abbrev prA:NC:=.seq (.seq wK (.cond (.qq 44) (.seq wX .ret) .skip)) (.seq jV prC)
theorem GF{C0:Co}{Y0:Ly}{E:Env}{b3 b4 b6:Nat}{x:Cmd}(ho:Y.ok C)(hxl:Qe C.xl)(hrec:C.recs.length≤1000000)(hn:C.leads.length≤100000)(hn7:C.n≤7)(hout:C.out.length≤999000)(H:Hq m M (coA cb Y0 C0).wp [qw b6 (.cells (pc C.next).toArray qW (0,0)),qw b4 (.cells (pc (0,0)).toArray qW (0,0)),qw b3 (.cells x.cs.toArray qA (0,0)),coA cb Y C])(e0:E.get 0=lp cb)(e3:E.get 3=lp b3)(e4:E.get 4=lp b4)(e6:E.get 6=lp b6)(h0:E.has 0=true)(h3:E.has 3=true)(h4:E.has 4=true)(h6:E.has 6=true) :
  wpN Tryz.prog prA (vB [.cells 4 2,.qq 5] λu M=>∃ A',CoR cb (C.wU x).1 (C.wU x).2 u A'∧A'.p M∧Fr m M (coA cb Y0 C0).wp∧(∀ b∈A'.fp,b∈(coA cb Y0 C0).fp∨m b=none)∧∀ b∈A'.wp,b∈(coA cb Y0 C0).wp∨m b=none) E M:=by
 have hlen:=ho.lds
 refine Own.zC (rj (H.at 3 rfl)) λa c hv=>?_
 rw [hlen] at hv
 by_cases hbad:¬ x.right∨x.kind=0∨C.next.2 > 1073741824∨256≤C.leads.length
 ·have hp:C.wU x=(C,.tuple #[pv (0,0),.bool false]):=if_pos hbad
  rw [hp]
  by_cases hx:x.right
  ·by_cases hk:x.kind=0
   ·simp (disch:=omega) only [go_sem,undef,e0,e3,e4,e6,h0,h3,h4,h6,H.cs]
    refine qa H (xv x _) λM f H=>?_
    simp (disch:=omega) only [go_sem,undef,e0,e3,e4,e6,h0,h3,h4,h6,H.cs,qZ hx,Bool.not_true,qZ hk]
    refine zA H rfl rfl λM f H=>?_
    simp (disch:=omega) only [go_sem,undef,H.cs]
    exact qS qu ho (H.tail.tail.tail)
   ·by_cases hs:C.next.2 > 1073741824
    ·simp (disch:=omega) only [go_sem,undef,e0,e3,e4,e6,h0,h3,h4,h6,H.cs]
     refine qa H (xv x _) λM f H=>?_
     simp (disch:=omega) only [go_sem,undef,e0,e3,e4,e6,h0,h3,h4,h6,H.cs,qZ hx,Bool.not_true,qX hk,qZ hs]
     refine zA H rfl rfl λM f H=>?_
     simp (disch:=omega) only [go_sem,undef,H.cs]
     exact qS qu ho (H.tail.tail.tail)
    ·have hl:256≤C.leads.length:=((hbad.resolve_left (λh=>h hx)).resolve_left hk).resolve_left hs
     simp (disch:=omega) only [go_sem,undef,e0,e3,e4,e6,h0,h3,h4,h6,H.cs]
     refine qa H (xv x _) λM f H=>?_
     simp (disch:=omega) only [go_sem,undef,e0,e3,e4,e6,h0,h3,h4,h6,H.cs,qZ hx,Bool.not_true,qX hk,qX hs,qy (H.at 3 rfl),Ly.c,hv,qZ (show ((C.leads.length:Nat):Int)≥256 by omega)]
     refine zA H rfl rfl λM f H=>?_
     simp (disch:=omega) only [go_sem,undef,H.cs]
     exact qS qu ho (H.tail.tail.tail)
  ·simp (disch:=omega) only [go_sem,undef,e0,e3,e4,e6,h0,h3,h4,h6,H.cs]
   refine qa H (xv x _) λM f H=>?_
   simp (disch:=omega) only [go_sem,undef,e0,e3,e4,e6,h0,h3,h4,h6,H.cs,qX hx,Bool.not_false]
   refine zA H rfl rfl λM f H=>?_
   simp (disch:=omega) only [go_sem,undef,H.cs]
   exact qS qu ho (H.tail.tail.tail)
 ·have hp:C.wU x=C.lz x C.next (zp C.xcut C.xl C.next x):=if_neg hbad
  rw [hp]
  have hx:x.right:=Classical.byContradiction λh=>hbad (.inl h)
  have hk:¬ x.kind=0:=λh=>hbad (.inr (.inl h))
  have hs:¬ C.next.2 > 1073741824:=λh=>hbad (.inr (.inr (.inl h)))
  have hl:¬ 256≤C.leads.length:=λh=>hbad (.inr (.inr (.inr h)))
  show wpN Tryz.prog (.seq (.seq wK (.cond (.qq 44) (.seq wX .ret) .skip)) (.seq jV prC)) _ E M
  generalize hC:(NC.seq jV prC)=T
  simp (disch:=omega) only [go_sem,undef,e0,e3,e4,e6,h0,h3,h4,h6,H.cs]
  refine qa H (xv x _) λM f H=>?_
  simp (disch:=omega) only [go_sem,undef,e0,e3,e4,e6,h0,h3,h4,h6,H.cs,qZ hx,Bool.not_true,qX hk,qX hs,qy (H.at 3 rfl),Ly.c,hv,qX (show ¬ ((C.leads.length:Nat):Int)≥256 by omega)]
  subst hC
  exact qqx ho hx hxl hrec hn hn7 hout H rfl rfl rfl rfl rfl rfl rfl rfl
theorem Iv:Qz=.seq VZ (.seq VQ prA):=rfl
theorem Wo(h:(coA cb Y C).p m)(ho:Y.ok C)(x:Cmd)(hk:∀ k∈zw C.lg,zj k)(htop:C.top.g C.me≤1073741824)(htop0:0≤C.top.g C.me)(hxl:Qe C.xl)(hrec:C.recs.length≤1000000)(hn:C.leads.length≤100000)(hn7:C.n≤7)(hme:C.me < 7)(hout:C.out.length≤999000) :
  CM Tryz.prog hZ [lp cb,x.v] m (coA cb Y C) (λu A=>CoR cb (C.wU x).1 (C.wU x).2 u A):=by
 have H:=Hq.one h
 refine gZ (by simp [Tryz.f33]) ?_
 rw [Iv]
 have htp:=sj (kO h) hk
 have hT:=λM (hA:(coA cb Y C).p M)=>(sj (kO hA) hk).mono λu M' ⟨⟨l',hp,e⟩,f⟩=>(⟨e.trans (congrArg Dp.v (Gp C.cut hk hp.symm).symm),f⟩:u=C.top.v∧Fr M M' [])
 generalize hC:prA=T
 have hz:(pc (0,0))=[Value.int .i64 0,.int .i64 0]:=rfl
 simp (disch:=omega) only [go_sem,undef]
 refine qg H λb3 M f H=>?_
 simp (disch:=omega) only [go_sem,undef]
 refine qg H λb4 M f H=>?_
 simp (disch:=omega) only [go_sem,undef,qy (H.at 2 rfl),Ly.c]
 refine qp ?_ ?_
 ·simp (disch:=omega) only [go_sem,undef,qy (H.at 2 rfl),Ly.c]
  refine qa H (hT _ (H.at 2 rfl)) λM f H=>?_
  simp (disch:=omega) only [go_sem,undef,qy (H.at 2 rfl),Ly.c]
  refine qg H λb6 M f H=>?_
  simp (disch:=omega) only [go_sem,undef,qy (H.at 3 rfl),Ly.c]
  refine qs H rfl rfl λM f H=>?_
  simp (disch:=omega) only [go_sem,undef]
  subst hC
  exact GF ho hxl hrec hn hn7 hout H rfl rfl rfl rfl rfl rfl rfl rfl
 ·simp (disch:=omega) only [go_sem,undef,qy (H.at 2 rfl),Ly.c]
  refine qg H λb6 M f H=>?_
  simp (disch:=omega) only [go_sem,undef,qy (H.at 3 rfl),Ly.c]
  refine qa H (hT _ (H.at 3 rfl)) λM f H=>?_
  simp (disch:=omega) only [go_sem,undef,qy (H.at 3 rfl),Ly.c]
  refine qs H rfl rfl λM f H=>?_
  simp (disch:=omega) only [go_sem,undef]
  subst hC
  exact GF ho hxl hrec hn hn7 hout H rfl rfl rfl rfl rfl rfl rfl rfl
end Go.Fw
namespace Go.Fw
open Go.Proofs
variable {m m0 M:Mem} {S:List Nat} {L:List As}
variable {cb:Nat} {Y:Ly} {C:Co}
def Co.qh(C:Co):Co:={ C with recs:=[],out:=[] }
def DrR(cb:Nat)(C:Co)(u:Value)(A:As):Prop:=∃ (Y:Ly) (rv:Value) (rs:List Value) (ov:Value),Y.ok C.qh∧u=.tuple #[rv,ov]∧A=qP [coA cb Y C.qh,brA qB rv rs C.recs,qV qv 51 ov C.out.length (C.out.flatMap Lt.cs)]
theorem Wq(h:(coA cb Y C).p m)(ho:Y.ok C):CM Tryz.prog oy [lp cb] m (coA cb Y C) (DrR cb C):=by
 have H:=Hq.co h
 obtain ⟨a,c,hv⟩:=(H.at 6 rfl:Own m qv 51 Y.ov C.out.length (C.out.flatMap Lt.cs)).form
 obtain ⟨a2,c2,hw⟩:=((H.at 5 rfl:(brA qB Y.rv Y.rs C.recs).p m).1).form
 refine nX (by simp [Tryz.f33]) ?_
 simp (disch:=omega) only [go_sem,undef,H.cs,Ly.c,hv,hw]
 refine xK H λM f H=>?_
 simp (disch:=omega) only [go_sem,undef,H.cs]
 refine xK H λM f H=>?_
 have H:=(H.QP qv 51).qjH qB
 have H:Hq m M (coA cb Y C).wp (coL cb { Y with rv:=.slice none 0 0,rs:=[],ov:=.slice none 0 0 } C.qh++[brA qB Y.rv Y.rs C.recs,qV qv 51 Y.ov C.out.length (C.out.flatMap Lt.cs)]):=H.sel 11 [2,3,4,5,6,0,1,9,10,7,8] rfl (by decide) (by decide)
 have H:=Hq.coJ H
 have H:Hq m M (coA cb Y C).wp [qP [coA cb { Y with rv:=.slice none 0 0,rs:=[],ov:=.slice none 0 0 } C.qh,brA qB Y.rv Y.rs C.recs,qV qv 51 Y.ov C.out.length (C.out.flatMap Lt.cs)]]:=Hq.jc (L:=[]) H
 have hfw:(qP [coA cb { Y with rv:=.slice none 0 0,rs:=[],ov:=.slice none 0 0 } C.qh,brA qB Y.rv Y.rs C.recs,qV qv 51 Y.ov C.out.length (C.out.flatMap Lt.cs)]).fp=(qP [coA cb { Y with rv:=.slice none 0 0,rs:=[],ov:=.slice none 0 0 } C.qh,brA qB Y.rv Y.rs C.recs,qV qv 51 Y.ov C.out.length (C.out.flatMap Lt.cs)]).wp:=Qx λA hA=>by
  simp only [List.mem_cons,List.not_mem_nil,or_false] at hA
  rcases hA with rfl | rfl | rfl
  ·exact qu
  ·rfl
  ·rfl
 simp (disch:=omega) only [go_sem,undef]
 exact ⟨_,⟨{ Y with rv:=.slice none 0 0,rs:=[],ov:=.slice none 0 0 },Y.rv,Y.rs,Y.ov,⟨ho.lds,ho.wss,ho.wb⟩,by rw [hv,hw],rfl⟩,H.hs.1,H.fr,λb hb=>by rw [qu];rw [hfw] at hb;exact H.done.2.2 b hb,H.done.2.2⟩
def Co.qxG(C:Co)(i:Int×Int)(was:Cel)(x:Cmd)(a:Att):Co :=
 if (C.set i ⟨3,was.pr,was.vo,x,a,false⟩).2=true then (C.set i ⟨3,was.pr,was.vo,x,a,false⟩).1.all { Lt.zero with kind:=5,inst:=i,cmd:=x,att:=a } Dp.zero else (C.set i ⟨3,was.pr,was.vo,x,a,false⟩).1
def Co.JD(C:Co)(i:Int×Int)(x:Cmd)(a:Att):Co:=(C.zk i).qxG i ((lkC i C.lg).getD Cel.zero) x a
abbrev cmA:NC:=.seq VB (.cond (.qq 31) VA .skip)
theorem Ot{C0:Co}{Y0:Ly}{E:Env}{b5 b6 b7 b8:Nat}{x:Cmd}{i:Int×Int}{a:Att}{was:Cel}(hk:Kp i Y0 C0 Y C)(ho:Y.ok C)(hrec:C.recs.length≤1000000)(hn7:C.n≤7)(hout:C.out.length≤999000)(H:Hq m M (coA cb Y0 C0).wp [qw b8 (.cells was.cs.toArray qc (0,0)),qw b7 (.cells a.cs.toArray qb (0,0)),qw b6 (.cells x.cs.toArray qA (0,0)),qw b5 (.cells (pc i).toArray qW (0,0)),coA cb Y C])(e0:E.get 0=lp cb)(e5:E.get 5=lp b5)(e6:E.get 6=lp b6)(e7:E.get 7=lp b7)(e8:E.get 8=lp b8)(h0:E.has 0=true)(h5:E.has 5=true)(h6:E.has 6=true)(h7:E.has 7=true)(h8:E.has 8=true) :
  wpN Tryz.prog cmA (vB [] λu M=>∃ A',CoN cb Y0 C0 i (C.qxG i was x a) (.tuple #[]) u A'∧A'.p M∧Fr m M (coA cb Y0 C0).wp∧(∀ b∈A'.fp,b∈(coA cb Y0 C0).fp∨m b=none)∧∀ b∈A'.wp,b∈(coA cb Y0 C0).wp∨m b=none) E M:=by
 have hss:=wx C i ⟨3,was.pr,was.vo,x,a,false⟩
 have hc2:C.qxG i was x a=if (C.set i ⟨3,was.pr,was.vo,x,a,false⟩).2=true then (C.set i ⟨3,was.pr,was.vo,x,a,false⟩).1.all { Lt.zero with kind:=5,inst:=i,cmd:=x,att:=a } Dp.zero else (C.set i ⟨3,was.pr,was.vo,x,a,false⟩).1:=rfl
 rw [hc2]
 simp (disch:=omega) only [go_sem,undef,e0,e5,e6,e7,e8,h0,h5,h6,h7,h8,H.cs]
 refine qU 4 H (cL (H.at 4 rfl) ho i ⟨3,was.pr,was.vo,x,a,false⟩ hrec) rfl λu M A' hR f H=>?_
 refine hR.E λY1 eu ho1 eA hy1=>?_
 subst eu eA
 clear hR hc2
 generalize C.set i ⟨3,was.pr,was.vo,x,a,false⟩=r at *
 obtain ⟨C1,ok⟩:=r
 have hk1:Kp i Y0 C0 Y1 C1:=hk.trans (Kp.same hy1 hss.1)
 have Hn:Hq m M (coA cb Y0 C0).wp [qw b8 (.cells was.cs.toArray qc (0,0)),qw b7 (.cells a.cs.toArray qb (0,0)),qw b6 (.cells x.cs.toArray qA (0,0)),qw b5 (.cells (pc i).toArray qW (0,0)),coA cb Y1 C1]:=H
 clear H
 cases ok with
 | true =>
  have H:=Hn
  simp (disch:=omega) only [go_sem,undef,e0,e5,e6,e7,e8,h0,h5,h6,h7,h8,H.cs]
  refine qU 4 H (UX (H.at 4 rfl) ho1 { Lt.zero with kind:=5,inst:=i,cmd:=x,att:=a } Dp.zero (Nat.le_trans (Nat.le_of_eq hss.2.1) hn7) (Nat.le_trans (Nat.le_of_eq (congrArg List.length hss.2.2.1)) hout)) rfl λu M A' hR f H=>?_
  refine hR.E λY2 eu ho2 eA hy2=>?_
  subst eu eA
  simp (disch:=omega) only [go_sem,undef]
  exact nY qu ho2 (hk1.trans (Kp.same hy2 (gl ..))) (H.tail.tail.tail.tail)
 | false =>
  have H:=Hn
  simp (disch:=omega) only [go_sem,undef,e0,e5,e6,e7,e8,h0,h5,h6,h7,h8,H.cs]
  exact nY qu ho1 hk1 (H.tail.tail.tail.tail)
theorem Oo:ZW=.seq VE (.seq VD (.seq VC cmA)):=rfl
theorem lm(h:(coA cb Y C).p m)(ho:Y.ok C)(i:Int×Int)(x:Cmd)(a:Att)(hrec:C.recs.length≤1000000)(hn:C.leads.length≤100000)(hn7:C.n≤7)(hout:C.out.length≤999000) :
  CM Tryz.prog Wa [lp cb,pv i,x.v,a.v] m (coA cb Y C) (CoN cb Y C i (C.JD i x a) (.tuple #[])):=by
 have H:=Hq.one h
 refine iA (by simp [Tryz.f33]) ?_
 rw [Oo]
 generalize hC:cmA=T
 simp (disch:=omega) only [go_sem,undef]
 refine qg H λb5 M f H=>?_
 simp (disch:=omega) only [go_sem,undef]
 refine qg H λb6 M f H=>?_
 simp (disch:=omega) only [go_sem,undef]
 refine qg H λb7 M f H=>?_
 simp (disch:=omega) only [go_sem,undef,H.cs]
 refine qU 3 H (Jf (H.at 3 rfl) ho i (by omega)) rfl λu M A' hR f H=>?_
 refine hR.E λY1 eu ho1 eA hk1=>?_
 subst eu eA
 have H:Hq m M (coA cb Y C).wp [qw b7 (.cells a.cs.toArray qb (0,0)),qw b6 (.cells x.cs.toArray qA (0,0)),qw b5 (.cells (pc i).toArray qW (0,0)),coA cb Y1 (C.zk i)]:=H
 simp (disch:=omega) only [go_sem,undef,H.cs,qy (H.at 3 rfl),Ly.c]
 refine qp ?_ ?_
 ·simp (disch:=omega) only [go_sem,undef,H.cs,qy (H.at 3 rfl),Ly.c]
  refine qa H (zO (kO (H.at 3 rfl)) i) λM f H=>?_
  simp (disch:=omega) only [go_sem,undef,H.cs,qy (H.at 3 rfl),Ly.c]
  refine qg H λb8 M f H=>?_
  simp (disch:=omega) only [go_sem,undef,H.cs,qy (H.at 4 rfl),Ly.c]
  refine qs H rfl rfl λM f H=>?_
  simp (disch:=omega) only [go_sem,undef]
  subst hC
  exact Ot hk1 ho1 hrec hn7 hout H rfl rfl rfl rfl rfl rfl rfl rfl rfl rfl
 ·simp (disch:=omega) only [go_sem,undef,H.cs,qy (H.at 3 rfl),Ly.c]
  refine qg H λb8 M f H=>?_
  simp (disch:=omega) only [go_sem,undef,H.cs,qy (H.at 4 rfl),Ly.c]
  refine qa H (zO (kO (H.at 4 rfl)) i) λM f H=>?_
  simp (disch:=omega) only [go_sem,undef,H.cs,qy (H.at 4 rfl),Ly.c]
  refine qs H rfl rfl λM f H=>?_
  simp (disch:=omega) only [go_sem,undef]
  subst hC
  exact Ot hk1 ho1 hrec hn7 hout H rfl rfl rfl rfl rfl rfl rfl rfl rfl rfl
theorem ll(h:(coA cb Y C).p m)(ho:Y.ok C)(i:Int×Int)(x:Cmd)(a:Att)(hrec:C.recs.length≤1000000)(hn:C.leads.length≤100000)(hn7:C.n≤7)(hout:C.out.length≤999000) :
  CM Tryz.prog Wa [lp cb,pv i,x.v,a.v] m (coA cb Y C) (CoR cb (C.JD i x a) (.tuple #[])):=BK (lm h ho i x a hrec hn hn7 hout)
end Go.Fw
namespace Go.Fw
open Go.Proofs
variable {m m0 M:Mem} {S:List Nat} {L:List As}
variable {cb:Nat} {Y:Ly} {C:Co}
def Co.Bn(C:Co)(x:Lt)(was:Cel):Co:=if was.st=3 then C else ((C.zk x.inst).set x.inst ⟨3,was.pr,was.vo,x.cmd,x.att,false⟩).1
def Co.told(C:Co)(x:Lt):Co:=C.Bn x ((lkC x.inst C.lg).getD Cel.zero)
abbrev tdA:NC:=.seq (.seq YS (.cond (.qq 18) .ret .skip)) (.seq YR YP)
theorem qzo{C0:Co}{Y0:Ly}{E:Env}{b3 b4:Nat}{x:Lt}{was:Cel}(ho:Y.ok C)(hrec:C.recs.length≤1000000)(hn:C.leads.length≤100000)(H:Hq m M (coA cb Y0 C0).wp [qw b4 (.cells was.cs.toArray qc (0,0)),qw b3 (.cells x.cs.toArray qv (0,0)),coA cb Y C])(e0:E.get 0=lp cb)(e3:E.get 3=lp b3)(e4:E.get 4=lp b4)(h0:E.has 0=true)(h3:E.has 3=true)(h4:E.has 4=true) :
  wpN Tryz.prog tdA (vB [] λu M=>∃ A',CoR cb (C.Bn x was) (.tuple #[]) u A'∧A'.p M∧Fr m M (coA cb Y0 C0).wp∧(∀ b∈A'.fp,b∈(coA cb Y0 C0).fp∨m b=none)∧∀ b∈A'.wp,b∈(coA cb Y0 C0).wp∨m b=none) E M:=by
 by_cases hs:was.st=3
 ·have ht:C.Bn x was=C:=if_pos hs
  rw [ht]
  simp (disch:=omega) only [go_sem,undef,e0,e3,e4,h0,h3,h4,H.cs,qZ hs]
  exact qS qu ho (H.tail.tail)
 ·have ht:C.Bn x was=((C.zk x.inst).set x.inst ⟨3,was.pr,was.vo,x.cmd,x.att,false⟩).1:=if_neg hs
  rw [ht]
  simp (disch:=omega) only [go_sem,undef,e0,e3,e4,h0,h3,h4,H.cs,qX hs]
  refine qU 2 H (Je (H.at 2 rfl) ho x.inst (by omega)) rfl λu M A' hR f H=>?_
  refine hR.E λY1 eu ho1 eA=>?_
  subst eu eA
  have H:Hq m M (coA cb Y0 C0).wp [qw b4 (.cells was.cs.toArray qc (0,0)),qw b3 (.cells x.cs.toArray qv (0,0)),coA cb Y1 (C.zk x.inst)]:=H
  simp (disch:=omega) only [go_sem,undef,e0,e3,e4,h0,h3,h4,H.cs]
  refine qU 2 H (XC (H.at 2 rfl) ho1 x.inst ⟨3,was.pr,was.vo,x.cmd,x.att,false⟩ hrec) rfl λu M A' hR f H=>?_
  refine hR.E λY2 eu ho2 eA=>?_
  subst eu eA
  simp (disch:=omega) only [go_sem,undef]
  exact qS qu ho2 (H.tail.tail)
theorem Um:XD=.seq YU (.seq YT tdA):=rfl
theorem OK(h:(coA cb Y C).p m)(ho:Y.ok C)(x:Lt)(hrec:C.recs.length≤1000000)(hn:C.leads.length≤100000) :
  CM Tryz.prog rG [lp cb,x.v] m (coA cb Y C) (CoR cb (C.told x) (.tuple #[])):=by
 have H:=Hq.one h
 refine pw (by simp [Tryz.f33]) ?_
 rw [Um]
 generalize hC:tdA=T
 simp (disch:=omega) only [go_sem,undef]
 refine qg H λb3 M f H=>?_
 simp (disch:=omega) only [go_sem,undef,H.cs,qy (H.at 1 rfl),Ly.c]
 refine qp ?_ ?_
 ·simp (disch:=omega) only [go_sem,undef,H.cs,qy (H.at 1 rfl),Ly.c]
  refine qa H (zO (kO (H.at 1 rfl)) x.inst) λM f H=>?_
  simp (disch:=omega) only [go_sem,undef,H.cs,qy (H.at 1 rfl),Ly.c]
  refine qg H λb4 M f H=>?_
  simp (disch:=omega) only [go_sem,undef,H.cs,qy (H.at 2 rfl),Ly.c]
  refine qs H rfl rfl λM f H=>?_
  simp (disch:=omega) only [go_sem,undef]
  subst hC
  exact qzo ho hrec hn H rfl rfl rfl rfl rfl rfl
 ·simp (disch:=omega) only [go_sem,undef,H.cs,qy (H.at 1 rfl),Ly.c]
  refine qg H λb4 M f H=>?_
  simp (disch:=omega) only [go_sem,undef,H.cs,qy (H.at 2 rfl),Ly.c]
  refine qa H (zO (kO (H.at 2 rfl)) x.inst) λM f H=>?_
  simp (disch:=omega) only [go_sem,undef,H.cs,qy (H.at 2 rfl),Ly.c]
  refine qs H rfl rfl λM f H=>?_
  simp (disch:=omega) only [go_sem,undef]
  subst hC
  exact qzo ho hrec hn H rfl rfl rfl rfl rfl rfl
end Go.Fw
