import Derived.Test.YtimedjfpihdffaaGreatCoZ
set_option linter.unusedVariables false
set_option linter.unusedSimpArgs false
set_option maxHeartbeats 16000000
namespace Go.Fw
open Go.Proofs
variable {m m0 M:Mem} {S:List Nat} {L:List As}
variable {cb:Nat} {Y:Ly} {C:Co}
def Co.set (C:Co) (i:Int×Int) (x:Cel):Co×Bool:=if cJ C.cut C.lg i x then (({ C with lg:=upC i x C.lg,recs:=C.recs++[Xe i x] }:Co).note i x,true) else (C,false)
theorem cm (h:(coA cb Y C).p m) (ho:Y.ok C) (i:Int×Int) (x:Cel) (hn:C.recs.length≤1000000):CM Tryz.prog cE [lp cb,pv i,x.v] m (coA cb Y C) (CoK cb Y (C.set i x).1 (.bool (C.set i x).2)):=by
 have H:=Hq.co h
 have hrl:Y.rs.length=C.recs.length:=gZ (H.at 5 rfl)
 by_cases hm:cJ C.cut C.lg i x
 ·have hs:C.set i x=(({ C with lg:=upC i x C.lg,recs:=C.recs++[Xe i x] }:Co).note i x,true):=if_pos hm
  rw [hs]
  have hi:=hm.1
  have hi1:=hi.1
  have hi2:=hi.2.1
  have hi3:=hi.2.2.1
  have hi4:=hi.2.2.2
  have hx:=hm.2.2.1
  refine bz (by simp [Tryz.f33]) ?_
  simp (disch:=omega) only [go_sem,undef]
  refine qh H fun b4 M f H=>?_
  simp (disch:=omega) only [go_sem,undef]
  refine qh H fun b5 M f H=>?_
  simp (disch:=omega) only [go_sem,undef,H.cs,Ly.c]
  refine bE 3 (jT Y.lb Y.lr C.cut C.lg) (jT Y.lb Y.lr C.cut (if cJ C.cut C.lg i x then upC i x C.lg else C.lg)) H (gq (H.at 3 rfl) i x) rfl rfl rfl fun M f H=>?_
  have H:Hq m M (coA cb Y C).wp (qv b5 (.cells x.cs.toArray qd (0,0))::qv b4 (.cells (pc i).toArray qa (0,0))::qv cb (.cells (Y.c C).cs.toArray qG (0,0))::coT Y { C with lg:=upC i x C.lg }):=by rw [if_pos hm] at H;exact H
  simp (disch:=omega) only [go_sem,undef,H.cs,Ly.c,qX hm,Bool.not_true]
  refine xd H (MU i ⟨⟨by omega,by omega⟩,by omega,by omega⟩ x hx) fun u M A' eA f H=>?_
  subst eA
  refine Own.zA (H.at 0 rfl) fun a3 c3 e=>?_
  subst e
  simp (disch:=omega) only [go_sem,undef,H.cs,Ly.c]
  refine qh H fun b6 M f H=>?_
  have H:Hq m M (coA cb Y C).wp [qv b6 (.cells [Value.slice a3 (Xe i x).length c3].toArray qC (0,0)),byA jm (.slice a3 (Xe i x).length c3) (Xe i x),brA qC Y.rv Y.rs C.recs,qv b5 (.cells x.cs.toArray qd (0,0)),qv b4 (.cells (pc i).toArray qa (0,0)),qv cb (.cells (Y.c C).cs.toArray qG (0,0)),jT Y.lb Y.lr C.cut (upC i x C.lg),xC Y.xb Y.xr C.xcut C.xl,qK qc 1 Y.lv Y.lds.length (Y.lds.flatMap fun v=>ptV v.b),qK qQ 1 Y.wv Y.wss.length (Y.wss.flatMap ptV),qK qw 51 Y.ov C.out.length (C.out.flatMap Lt.cs),Qg Y.lds C.leads,wu Y.wss C.wishes] :=
   H.sel 13 [0,1,9,2,3,4,5,6,7,8,10,11,12] rfl (by decide) (by decide)
  simp (disch:=omega) only [go_sem,undef,H.cs,Ly.c]
  refine qKC H rfl rfl (by omega) fun w M H=>?_
  refine Own.zA (H.at 0 rfl).1 fun a4 c4 e=>Exists.elim (⟨_,rfl⟩:∃ n',n'=(Y.rs++[Value.slice a3 (Xe i x).length c3]).length) fun n' hn'=>?_
  rw [← hn'] at e
  subst e
  simp (disch:=omega) only [go_sem,undef,H.cs,Ly.c]
  refine wrQ 3 H rfl fun M f H=>?_
  have H:Hq m M (coA cb Y C).wp (coL cb { Y with rv:=.slice a4 n' c4,rs:=Y.rs++[Value.slice a3 (Xe i x).length c3] } { C with lg:=upC i x C.lg,recs:=C.recs++[Xe i x] }++[qv b5 (.cells x.cs.toArray qd (0,0)),qv b4 (.cells (pc i).toArray qa (0,0))]) :=
   H.sel 11 [3,4,5,6,7,0,8,9,10,1,2] rfl (by decide) (by decide)
  have H:=Hq.coJ H
  simp (disch:=omega) only [go_sem,undef,H.cs,Ly.c]
  refine jb H (AL (H.at 0 rfl) ⟨ho.lds,ho.wss,ho.wb⟩ i x) fun u M A' hR f H=>?_
  refine hR.E fun Y2 eu ho2 eA hy2=>?_
  subst eu eA
  simp (disch:=omega) only [go_sem,undef]
  exact qqA ho2 hy2 (H.drop 1 |>.drop 1)
 ·have hs:C.set i x=(C,false):=if_neg hm
  rw [hs]
  refine bz (by simp [Tryz.f33]) ?_
  simp (disch:=omega) only [go_sem,undef]
  refine qh H fun b4 M f H=>?_
  simp (disch:=omega) only [go_sem,undef]
  refine qh H fun b5 M f H=>?_
  simp (disch:=omega) only [go_sem,undef,H.cs,Ly.c]
  refine bE 3 (jT Y.lb Y.lr C.cut C.lg) (jT Y.lb Y.lr C.cut (if cJ C.cut C.lg i x then upC i x C.lg else C.lg)) H (gq (H.at 3 rfl) i x) rfl rfl rfl fun M f H=>?_
  have H:Hq m M (coA cb Y C).wp (qv b5 (.cells x.cs.toArray qd (0,0))::qv b4 (.cells (pc i).toArray qa (0,0))::coL cb Y C):=by rw [if_neg hm] at H;exact H
  simp (disch:=omega) only [go_sem,undef,H.cs,Ly.c,qZ hm,Bool.not_false]
  exact CO ho rfl H.tail.tail
theorem Xp (h:(coA cb Y C).p m) (ho:Y.ok C) (i:Int×Int) (x:Cel) (hn:C.recs.length≤1000000):CM Tryz.prog cE [lp cb,pv i,x.v] m (coA cb Y C) (CoR cb (C.set i x).1 (.bool (C.set i x).2)):=OY (cm h ho i x hn)
end Go.Fw
namespace Go.Fw
open Go.Proofs
variable {m m0 M:Mem} {S:List Nat} {L:List As}
theorem Hq.toCell {t:TypeId} {size n b cap:Nat} {xs tail:List Value} (H:Hq m0 m S (qK t size (.slice (some ⟨b,0,none⟩) n cap) n xs::L)) (hb:m b=some (.cells (xs++tail).toArray t (0,0))) :
  Hq m0 m S (qv b (.cells (xs++tail).toArray t (0,0))::L) :=
 H.TP (A':=qv b (.cells (xs++tail).toArray t (0,0))) (by with_unfolding_all exact hb) (Fr.refl _ _) (fun x hx=>.inl (by simpa [qH] using hx)) (fun x hx=>.inl (by simpa [qH] using hx))
theorem Hq.cy {t:TypeId} {size n b cap:Nat} {xs tail:List Value} (H:Hq m0 m S (qv b (.cells (xs++tail).toArray t (0,0))::L)) (hx:xs.length=n*size) (hl:(xs++tail).length=cap*size) :
  Hq m0 m S (qK t size (.slice (some ⟨b,0,none⟩) n cap) n xs::L) :=
 H.TP (A':=qK t size (.slice (some ⟨b,0,none⟩) n cap) n xs) ⟨hx,.inr ⟨b,cap,tail,rfl,by have h:=H.hs.1;with_unfolding_all exact h,hl⟩⟩ (Fr.refl _ _) (fun x hx=>.inl (by simpa [qH] using hx)) (fun x hx=>.inl (by simpa [qH] using hx))
abbrev pL (v:LdV):List Value:=ptV v.b
def ixO:Option Nat→Int
 | some j=>j
 | none=>-1
theorem CC {α:Type} {p:α→Bool} {l:List α} {j:Nat} {x:α} (h:∀ t y,t < j→l[t]?=some y→p y=false) (hx:l[j]?=some x) (e:p x=true):l.findIdx? p=some j:=by
 obtain ⟨hj,ex⟩:=List.getElem?_eq_some_iff.1 hx
 rw [List.findIdx?_eq_some_iff_getElem]
 refine ⟨hj,by rw [ex];exact e,fun t ht=>?_⟩
 have:=h t _ ht (List.getElem?_eq_getElem (by omega))
 simp [this]
theorem Nb {α:Type} {p:α→Bool} {l:List α} (h:∀ t y,t < l.length→l[t]?=some y→p y=false):l.findIdx? p=none:=by
 rw [List.findIdx?_eq_none_iff]
 intro y hy
 obtain ⟨t,ht⟩:=List.getElem?_of_mem hy
 exact h t y (List.getElem?_eq_some_iff.1 ht).1 ht
theorem qvO {a:Option Addr} {c:Nat} {l:List LdV} {g:Nat} {cap:Value} {p:LdV→Bool} (hr:RdS 1 pL m (.slice a l.length c) l) (hg:Ks Tryz.prog g=true)
  (hp:∀ M,Fr m M []→∀ x∈l,MC Tryz.prog g [lp x.b,cap] M fun u M'=>u=.bool (p x)∧Fr M M' []) (hn:l.length≤1000000) :
  MC Tryz.prog vO [.slice a l.length c,.func (.func g) #[] #[cap]] m fun u M=>u=.int .i64 (ixO (l.findIdx? p))∧Fr m M []:=by
 refine vD (by simp [Tryz.f33]) ?_
 have H:=Hq.refl m []
 simp (disch:=omega) only [go_sem,undef]
 refine ql (fun k E m'=>∃ j,j≤l.length∧k=l.length - j∧(∀ t y,t < j→l[t]?=some y→p y=false)∧E=[(0,.slice a l.length c),(1,.func (.func g) #[] #[cap]),(7,.int .i64 (l.length:Nat)),(8,.int .i64 (j:Nat))]∧Hq m m' [] []) l.length rfl ⟨0,by omega,rfl,by simp,rfl,H⟩ ?_
 clear H
 rintro k E M1 ⟨j,hj,rfl,hno,rfl,H⟩
 by_cases hlt:j < l.length
 ·refine RdS.elK (hr.frame H.fr) hlt (by decide) fun bx o x hx hix hE=>?_
  have hp0:(pL x)[0]?=some (lp x.b):=rfl
  simp (disch:=omega) only [go_sem,undef,qX (show ((j:Nat):Int) < (l.length:Nat) by omega),hix,hE.ld0,hp0,oD,hg,List.nil_append,List.cons_append]
  refine qY H (hp _ H.fr x (List.mem_of_getElem? hx)) fun M f H=>?_
  cases hpx:p x with
  | true =>
   have hf:=CC hno hx hpx
   simp (disch:=omega) only [go_sem,undef]
   exact ⟨by rw [hf];rfl,H.fr⟩
  | false =>
   simp (disch:=omega) only [go_sem,undef]
   refine qV (l.length - (j+1)) (by omega) ⟨j+1,by omega,rfl,fun t y ht hy=>?_,rfl,H⟩
   rcases Nat.lt_or_eq_of_le (Nat.le_of_lt_succ ht) with h | h
   ·exact hno t y h hy
   ·subst h;rw [hx] at hy;cases hy;exact hpx
 ·have e:j=l.length:=by omega
  subst e
  have hf:=Nb hno
  simp (disch:=omega) only [go_sem,undef,qZ (show ¬ ((l.length:Nat):Int) < (l.length:Nat) by omega)]
  exact ⟨by rw [hf];rfl,H.fr⟩
theorem qyt (n:Nat):(List.replicate n [Value.pointer none]).flatten=List.replicate n (Value.pointer none):=by
 induction n with
 | zero=>rfl
 | succ n ih=>rw [List.replicate_succ,List.flatten_cons,ih];rfl
theorem qjk {P:Program} {t:TypeId} {b o n cap:Nat} {l:List Value} {K:Value→Mem→Prop} {lk:Lk K} (H:Hq m0 m S (qv b (.cells l.toArray t (0,0))::L)) (hl:o+n≤l.length)
  (k:∀ M,Fr m M [b]→Hq m0 M S (qv b (.cells (l.take o++List.replicate n (Value.pointer none)++l.drop (o+n)).toArray t (0,0))::L)→K (.tuple #[]) M):xsP P (.clr [.pointer none]) [.slice (some ⟨b,o,none⟩) n cap] m K lk:=by
 have hv:=qyt n
 have h:=qjr (J:=K (.tuple #[])) (off:=o) (vs:=List.replicate n (Value.pointer none)) (l:=⟨⟩) (l':=⟨⟩) 0 H rfl (by simpa using hl) (by simp [Value.oneCell']) (fun M f H=>k M f (by simpa using H))
 simp only [xsP,xs,sP,qZi]
 rw [hv]
 exact h
end Go.Fw
namespace Go.Fw
open Go.Proofs
variable {m m0 M:Mem} {S:List Nat} {L:List As}
abbrev fL (v:LdV):Value:=lp v.b
theorem Na (l:List LdV):l.flatMap pL=l.map fL:=by
 induction l with
 | nil=>rfl
 | cons x r ih=>rw [List.flatMap_cons,ih];rfl
def xI (p:LdV→Bool) (l:List LdV) (j:Nat):List LdV:=(l.take j).filter fun x=>!p x
def ctN (p:LdV→Bool) (l:List LdV) (j:Nat):List LdV:=xI p l j++l.drop (xI p l j).length
theorem rY (p:LdV→Bool) (l:List LdV) (j:Nat) (hj:j≤l.length):(xI p l j).length≤j:=by
 have:=List.length_filter_le (fun x=>!p x) (l.take j)
 rw [List.length_take] at this
 unfold xI;omega
theorem qjq (p:LdV→Bool) (l:List LdV) (j:Nat) (hj:j≤l.length):(ctN p l j).length=l.length:=by
 have:=rY p l j hj
 unfold ctN;rw [List.length_append,List.length_drop];omega
theorem qZf (p:LdV→Bool) (l:List LdV) (j:Nat) (hj:j≤l.length) (t:Nat) (ht:j≤t):(ctN p l j)[t]?=l[t]?:=by
 have:=rY p l j hj
 unfold ctN
 rw [List.getElem?_append_right (by omega),List.getElem?_drop]
 congr 1;omega
theorem Nv {p:LdV→Bool} {l:List LdV} {j:Nat} {x:LdV} (hx:l[j]?=some x) (h:p x=true):xI p l (j+1)=xI p l j:=by
 unfold xI
 rw [List.take_add_one,hx,List.filter_append];simp [h]
theorem qzI {p:LdV→Bool} {l:List LdV} {j:Nat} {x:LdV} (hx:l[j]?=some x) (h:p x=false):xI p l (j+1)=xI p l j++[x]:=by
 unfold xI
 rw [List.take_add_one,hx,List.filter_append];simp [h]
theorem ctN_t {p:LdV→Bool} {l:List LdV} {j:Nat} {x:LdV} (hx:l[j]?=some x) (h:p x=true):ctN p l (j+1)=ctN p l j:=by
 unfold ctN;rw [Nv hx h]
theorem ctN_f {p:LdV→Bool} {l:List LdV} {j:Nat} {x:LdV} (hx:l[j]?=some x) (h:p x=false):ctN p l (j+1)=(ctN p l j).set (xI p l j).length x:=by
 have hj:=(List.getElem?_eq_some_iff.1 hx).1
 have:=rY p l j (by omega)
 unfold ctN
 rw [qzI hx h,List.length_append,List.set_append_right _ _ (Nat.le_refl _),Nat.sub_self,List.append_assoc]
 congr 1
 rw [List.length_singleton,List.drop_eq_getElem_cons (show (xI p l j).length < l.length by omega),List.set_cons_zero];rfl
theorem qQm {p:LdV→Bool} {l:List LdV} {i:Nat} (h:l.findIdx? p=some i):xI p l (i+1)=l.take i∧ctN p l (i+1)=l∧i < l.length∧(l.filter fun x=>!p x).length < l.length:=by
 rw [List.findIdx?_eq_some_iff_getElem] at h
 obtain ⟨hi,hp,hb⟩:=h
 have h1:xI p l i=l.take i:=by
  unfold xI
  refine List.filter_eq_self.2 fun x hx=>?_
  obtain ⟨t,ht,rfl⟩:=List.mem_iff_getElem.1 hx
  rw [List.getElem_take]
  rw [List.length_take] at ht
  have:=hb t (by omega)
  simp only [Bool.not_eq_true] at this
  simp [this]
 have h2:=Nv (List.getElem?_eq_getElem hi) hp
 refine ⟨h2.trans h1,?_,hi,List.length_filter_lt_length_iff_exists.2 ⟨l[i],List.getElem_mem hi,by simp [hp]⟩⟩
 unfold ctN
 rw [h2,h1,List.length_take,Nat.min_eq_left (by omega),List.take_append_drop]
theorem qxh (p:LdV→Bool) (l:List LdV):xI p l l.length=l.filter fun x=>!p x:=by unfold xI;rw [List.take_length]
theorem qys (l:List LdV) (tail:List Value) (j:Nat) (x:LdV) (hx:l[j]?=some x):(l.map fL++tail)[j]?=some (lp x.b):=by
 have hj:=(List.getElem?_eq_some_iff.1 hx).1
 rw [List.getElem?_append_left (by simpa using hj),List.getElem?_map,hx];rfl
theorem qyr (l:List LdV) (tail:List Value) (j:Nat) (x:LdV) (hj:j < l.length):(l.map fL++tail).set j (lp x.b)=(l.set j x).map fL++tail:=by
 rw [List.set_append_left _ _ (by simpa using hj),List.map_set]
theorem Own.Px {G:Prop} {t:TypeId} {size n:Nat} {v:Value} {xs:List Value} (h:Own m t size v n xs) (h0:0 < n) (K:∀ b cap tail,v=.slice (some ⟨b,0,none⟩) n cap→m b=some (.cells (xs++tail).toArray t (0,0))→(xs++tail).length=cap*size→G):G:=by
 obtain ⟨_,⟨_,h⟩ | ⟨b,cap,tail,h1,h2,h3⟩⟩:=h
 ·omega
 ·exact K b cap tail h1 h2 h3
theorem qKi {v:Value} {l:List LdV} {g:Nat} {cap:Value} {p:LdV→Bool} (h:(qK qc 1 v l.length (l.flatMap pL)).p m) (hg:Ks Tryz.prog g=true)
  (hp:∀ M,Fr m M (qH v)→∀ x∈l,MC Tryz.prog g [lp x.b,cap] M fun u M'=>u=.bool (p x)∧Fr M M' []) (hn:l.length≤1000000) :
  CM Tryz.prog vE [v,.func (.func g) #[] #[cap]] m (qK qc 1 v l.length (l.flatMap pL)) fun u A=>A=qK qc 1 u (l.filter fun x=>!p x).length ((l.filter fun x=>!p x).flatMap pL):=by
 have H:Hq m m (qH v) [qK qc 1 v l.length (l.flatMap pL)]:=Hq.one h
 cases hf:l.findIdx? p with
 | none =>
  have he:(l.filter fun x=>!p x)=l:=List.filter_eq_self.2 fun x hx=>by
   rw [List.findIdx?_eq_none_iff] at hf
   simp [hf x hx]
  rw [he]
  obtain ⟨a,c,rfl⟩:=h.form
  have hr:RdS 1 pL m (.slice a l.length c) l:=Own.rds (by decide) (fun _=>rfl) h
  have hix:=qvO hr hg (fun M f x hx=>hp M (f.sub (by simp)) x hx) hn
  rw [hf] at hix
  refine zD (by simp [Tryz.f33]) ?_
  simp (disch:=omega) only [go_sem,undef]
  refine qY H hix fun M f H=>?_
  simp (disch:=omega) only [go_sem,undef,ixO,qX (show (-1:Int) = -1 by rfl)]
  exact ⟨_,rfl,H.hs.1,H.fr,fun b hb=>.inl hb,fun b hb=>.inl hb⟩
 | some i =>
  obtain ⟨hk0,hc0,hil,hfl⟩:=qQm hf
  refine Own.Px h (by omega) fun b cp tail e hb hl=>?_
  subst e
  have hr:RdS 1 pL m (.slice (some ⟨b,0,none⟩) l.length cp) l:=Own.rds (by decide) (fun _=>rfl) h
  have hix:=qvO hr hg (fun M f x hx=>hp M (f.sub (by simp)) x hx) hn
  rw [hf] at hix
  have H2:=H.toCell hb
  rw [Na] at H2 hb hl
  have hkl:(xI p l (i+1)).length=i:=by rw [hk0,List.length_take];omega
  refine zD (by simp [Tryz.f33]) ?_
  simp (disch:=omega) only [go_sem,undef]
  refine qY H2 hix fun M f H=>?_
  have hii:ixO (some i)=(i:Int):=rfl
  simp (disch:=omega) only [go_sem,undef,hii,qZ (show ¬ ((i:Nat):Int) = -1 by omega)]
  refine ql (fun k E m'=>∃ j,j≤l.length∧k=l.length - j∧E=[(0,.slice (some ⟨b,0,none⟩) l.length cp),(1,.func (.func g) #[] #[cap]),(5,.int .i64 ((xI p l j).length:Nat)),(6,.int .i64 (j:Nat))]∧Hq m m' [b] [qv b (.cells ((ctN p l j).map fL++tail).toArray qc (0,0))]) (l.length - (i+1)) rfl ⟨i+1,by omega,rfl,by rw [hkl];rfl,by rw [hc0];exact H⟩ ?_
  clear H f
  rintro k E M1 ⟨j,hj,rfl,rfl,H⟩
  have hkj:=rY p l j hj
  by_cases hlt:j < l.length
  ·refine Exists.elim (⟨l[j],List.getElem?_eq_getElem hlt⟩:∃ x,l[j]?=some x) fun x hx=>?_
   have hg1:=qys (ctN p l j) tail j x (by rw [qZf p l j hj j (Nat.le_refl _)];exact hx)
   have hs1:=qyr (ctN p l j) tail (xI p l j).length x (by rw [qjq p l j hj];omega)
   have hxm:=List.mem_of_getElem? hx
   generalize hct:(ctN p l j).map fL++tail=ct at *
   simp (disch:=omega) only [go_sem,undef,qX (show ((j:Nat):Int) < (l.length:Nat) by omega),H.cs,hg1,oD,hg,List.nil_append,List.cons_append]
   refine qY H (hp _ H.fr x hxm) fun M f H=>?_
   cases hpx:p x with
   | true =>
    have e1:=ctN_t hx hpx
    have e2:=Nv hx hpx
    simp (disch:=omega) only [go_sem,undef,Bool.not_true]
    exact qV (l.length - (j+1)) (by omega) ⟨j+1,by omega,rfl,by rw [e2];rfl,by rw [e1,hct];exact H⟩
   | false =>
    have e1:=ctN_f hx hpx
    have e2:=qzI hx hpx
    have e3:(xI p l (j+1)).length=(xI p l j).length+1:=by rw [e2];simp
    have hcl:(xI p l j).length < ct.length:=by rw [← hct,List.length_append,List.length_map,qjq p l j hj];omega
    simp (disch:=omega) only [go_sem,undef,Bool.not_false,H.cs]
    refine zG H fun M f H=>?_
    rw [hs1,← e1] at H
    simp (disch:=omega) only [go_sem,undef]
    exact qV (l.length - (j+1)) (by omega) ⟨j+1,by omega,rfl,by rw [e3];rfl,H⟩
  ·have e:j=l.length:=by omega
   subst e
   have hka:=qxh p l
   have hct:ctN p l l.length=xI p l l.length++l.drop (xI p l l.length).length:=rfl
   rw [hct] at H
   rw [← hka]
   rw [← hka] at hfl
   generalize xI p l l.length=ks at *
   have hl2:l.length+tail.length=cp:=by simpa using hl
   have hx1:xy 1 (some ⟨b,0,none⟩) cp ks.length l.length=some (.slice (some ⟨b,ks.length,none⟩) (l.length - ks.length) (cp - ks.length)):=by
    unfold xy
    rw [if_pos ⟨by omega,by omega,by omega⟩,if_neg (by omega)];simp [Addr.add];try (intro h;simp [h])
   have hx2:xy 1 (some ⟨b,0,none⟩) cp 0 ks.length=some (.slice (some ⟨b,0,none⟩) ks.length cp):=by
    unfold xy
    rw [if_pos ⟨by omega,by omega,by omega⟩,if_neg (by simp;omega)];simp [Addr.add];try (intro h;simp [h])
   simp (disch:=omega) only [go_sem,undef,qZ (show ¬ ((l.length:Nat):Int) < (l.length:Nat) by omega),hx1]
   refine qjk H (by simp<;>omega) fun M f H=>?_
   simp (disch:=omega) only [go_sem,undef,hx2]
   have hct2:(List.map fL (ks++List.drop ks.length l)++tail).take ks.length++List.replicate (l.length - ks.length) (Value.pointer none)++(List.map fL (ks++List.drop ks.length l)++tail).drop (ks.length+(l.length - ks.length))=ks.flatMap pL++(List.replicate (l.length - ks.length) (Value.pointer none)++tail):=by
    have e1:(List.map fL (ks++List.drop ks.length l)++tail).take ks.length=ks.flatMap pL:=by
     rw [List.map_append,List.append_assoc,List.take_append_of_le_length (by simp),List.take_of_length_le (by simp),Na]
    have e2:(List.map fL (ks++List.drop ks.length l)++tail).drop (ks.length+(l.length - ks.length))=tail:=by
     rw [List.drop_append_of_le_length (by simp),List.drop_of_length_le (by simp),List.nil_append]
    rw [e1,e2,List.append_assoc]
   rw [hct2] at H
   have H:=H.cy (size:=1) (n:=ks.length) (cap:=cp) (by rw [Na];simp) (by rw [Na];simp;omega)
   exact ⟨_,rfl,H.hs.1,H.fr,fun b hb=>.inl (by simpa [qH] using hb),fun b hb=>.inl (by simpa [qH] using hb)⟩
end Go.Fw
namespace Go.Fw
open Go.Proofs
variable {m m0 M:Mem} {S:List Nat} {L:List As}
variable {cb:Nat} {Y:Ly} {C:Co}
theorem Hq.apart (H:Hq m0 m S L) (i j n:Nat) (hn:L.length=n) (hi:i < n) (hj:j < n) (hij:i≠j):ZM (L[i]'(by omega)) (L[j]'(by omega)):=TW H.dj i j (by omega) (by omega) hij
theorem UE {b3:Nat} {v:LdV} {x:Ld} {i:Int×Int} (h:m v.b=some (.cells (x.c v).cs.toArray qM (0,0))) (h3:m b3=some (.cells (pc i).toArray qa (0,0))) :
  MC Tryz.prog XL [lp v.b,lp b3] m fun u M=>u=.bool (decide (x.id=i))∧Fr m M []:=by
 refine dB (by simp [Tryz.f33]) ?_
 simp (disch:=omega) only [go_sem,undef,h,h3,Ld.c]
 exact ⟨rfl,Fr.refl _ _⟩
def idM (m:Mem) (b:Nat):Int×Int:=match cellAt (m b) 0,cellAt (m b) 1 with
 | some (.int _ x),some (.int _ y)=>(x,y)
 | _,_=>(0,0)
theorem qvP {v:LdV} {x:Ld} (h:m v.b=some (.cells (x.c v).cs.toArray qM (0,0))):idM m v.b=x.id:=by
 unfold idM;rw [h];rfl
theorem qqU {q:LdV→Bool} {r:Ld→Bool} (f:LdV→Ld→As):∀ (vs:List LdV) (xs:List Ld),vs.length=xs.length→(∀ (j:Nat) (v:LdV) (x:Ld),vs[j]?=some v→xs[j]?=some x→q v=r x) →
  (List.zipWith f (vs.filter q) (xs.filter r)).Sublist (List.zipWith f vs xs)∧(vs.filter q).length=(xs.filter r).length
 | [],[],_,_=>by simp
 | [],_::_,h,_=>by simp at h
 | _::_,[],h,_=>by simp at h
 | v::vs,x::xs,h,hq=>by
  have e:=hq 0 v x rfl rfl
  obtain ⟨h1,h2⟩:=qqU (q:=q) (r:=r) f vs xs (by simpa using h) fun j v' x' hv hx=>hq (j+1) v' x' (by simpa using hv) (by simpa using hx)
  cases hr:r x with
  | true =>
   rw [hr] at e
   rw [List.filter_cons_of_pos e,List.filter_cons_of_pos hr]
   exact ⟨by simpa using h1,by simpa using h2⟩
  | false =>
   rw [hr] at e
   rw [List.filter_cons_of_neg (by simp [e]),List.filter_cons_of_neg (by simp [hr])]
   exact ⟨by simpa using h1.cons _,h2⟩
theorem Hq.subL {l l':List As} (H:Hq m0 m S (qP l::L)) (h:l'.Sublist l):Hq m0 m S (qP l'::L):=by
 have H:=Hq.ze H
 refine Hq.xq ⟨Hps.of fun A hA=>?_,H.fr,H.dj.sublist (h.append_right L),fun A hA=>?_⟩
 ·exact H.hs.mem A ((h.append_right L).subset hA)
 ·exact H.nw A ((h.append_right L).subset hA)
theorem qzN {q:LdV→Bool} {r:Ld→Bool}:∀ (vs:List LdV) (xs:List Ld),(∀ (j:Nat) (v:LdV) (x:Ld),vs[j]?=some v→xs[j]?=some x→q v=r x)→∀ (p:Nat) (v:LdV) (x:Ld),vs[p]?=some v→xs[p]?=some x→r x=true→∃ p':Nat,(vs.filter q)[p']?=some v∧(xs.filter r)[p']?=some x
 | [],_,_,p,v,x,h,_,_=>by simp at h
 | _::_,[],_,p,v,x,_,h,_=>by simp at h
 | a::vs,b::xs,hq,0,v,x,h1,h2,h3=>by
  simp at h1 h2;subst h1 h2
  have e:=hq 0 a b rfl rfl
  rw [h3] at e
  exact ⟨0,by rw [List.filter_cons_of_pos e];rfl,by rw [List.filter_cons_of_pos h3];rfl⟩
 | a::vs,b::xs,hq,p+1,v,x,h1,h2,h3=>by
  have e:=hq 0 a b rfl rfl
  obtain ⟨p',h4,h5⟩:=qzN (q:=q) (r:=r) vs xs (fun j v' x' hv hx=>hq (j+1) v' x' (by simpa using hv) (by simpa using hx)) p v x (by simpa using h1) (by simpa using h2) h3
  cases hr:r b with
  | true =>
   rw [hr] at e
   exact ⟨p'+1,by rw [List.filter_cons_of_pos e];exact h4,by rw [List.filter_cons_of_pos hr];exact h5⟩
  | false =>
   rw [hr] at e
   exact ⟨p',by rw [List.filter_cons_of_neg (by simp [e])];exact h4,by rw [List.filter_cons_of_neg (by simp [hr])];exact h5⟩
def Co.qU (C:Co) (i:Int×Int):Co:={ C with leads:=C.leads.filter fun x=>!decide (x.id=i) }
theorem Jl (h:(coA cb Y C).p m) (ho:Y.ok C) (i:Int×Int) (hn:C.leads.length≤1000000):CM Tryz.prog YW [lp cb,pv i] m (coA cb Y C) (CoN cb Y C i (C.qU i) (.tuple #[])):=by
 have H:=Hq.co h
 have hlen:=ho.lds
 refine oK (by simp [Tryz.f33]) ?_
 simp (disch:=omega) only [go_sem,undef]
 refine qh H fun b3 M f H=>?_
 have hap:ZM (qK qc 1 Y.lv Y.lds.length (Y.lds.flatMap pL)) (Qg Y.lds C.leads):=H.apart 4 8 10 rfl (by decide) (by decide) (by decide)
 have hap3:ZM (qv b3 (.cells (pc i).toArray qa (0,0))) (qK qc 1 Y.lv Y.lds.length (Y.lds.flatMap pL)):=H.apart 0 4 10 rfl (by decide) (by decide) (by decide)
 have hlds:(Qg Y.lds C.leads).p M:=H.at 8 rfl
 have hb3:M b3=some (.cells (pc i).toArray qa (0,0)):=H.cs.1
 have hid:∀ (j:Nat) (v:LdV) (x:Ld),Y.lds[j]?=some v→C.leads[j]?=some x→(!decide (idM M v.b=i))=!decide (x.id=i):=fun j v x hv hx=>by rw [qvP (zz (zZ hlds hv hx))]
 have hzs:=qqU (q:=fun v=>!decide (idM M v.b=i)) (r:=fun x=>!decide (x.id=i)) ldA Y.lds C.leads hlen hid
 have hdel:=qKi (g:=XL) (cap:=lp b3) (p:=fun v=>decide (idM M v.b=i)) (H.at 4 rfl) (by kernel_rfl) (fun M2 f2 v hv=>by
  obtain ⟨j,hj⟩:=List.getElem?_of_mem hv
  have hjl:=(List.getElem?_eq_some_iff.1 hj).1
  have hx:C.leads[j]?=some (C.leads[j]'(by omega)):=List.getElem?_eq_getElem (by omega)
  have h1:=zz (zZ hlds hj hx)
  have h2:=zz (zZ ((Qg Y.lds C.leads).fr hlds f2 fun b hb hbl=>hap.1 b hbl hb) hj hx)
  have h3:M2 b3=some (.cells (pc i).toArray qa (0,0)):=f2.get hb3 fun hbl=>hap3.2 b3 hbl (by simp)
  have:=UE h2 h3
  rw [← qvP h1] at this
  exact this) (by omega)
 simp (disch:=omega) only [go_sem,undef,H.cs,Ly.c]
 refine zq 4 H hdel rfl fun u M2 A' eA f H=>?_
 subst eA
 refine Own.zA (H.at 4 rfl) fun a c e=>Exists.elim (⟨_,rfl⟩:∃ n',n'=(Y.lds.filter fun x=>!decide (idM M x.b=i)).length) fun n' hn'=>?_
 rw [← hn'] at e
 subst e
 have H:Hq m M2 (coA cb Y C).wp [Qg Y.lds C.leads,qv cb (.cells (Y.c C).cs.toArray qG (0,0)),jT Y.lb Y.lr C.cut C.lg,xC Y.xb Y.xr C.xcut C.xl,qK qc 1 (Value.slice a n' c) (Y.lds.filter fun x=>!decide (idM M x.b=i)).length ((Y.lds.filter fun x=>!decide (idM M x.b=i)).flatMap pL),
  qK qQ 1 Y.wv Y.wss.length (Y.wss.flatMap ptV),brA qC Y.rv Y.rs C.recs,qK qw 51 Y.ov C.out.length (C.out.flatMap Lt.cs),wu Y.wss C.wishes]:=H.sel 10 [8,1,2,3,4,5,6,7,9] rfl (by decide) (by decide)
 have H:=Hq.subL H hzs.1
 have H:Hq m M2 (coA cb Y C).wp (qv cb (.cells (Y.c C).cs.toArray qG (0,0))::coT { Y with lv:=.slice a n' c,lds:=Y.lds.filter fun x=>!decide (idM M x.b=i) } (C.qU i)):=H.sel 9 [1,2,3,4,5,6,7,0,8] rfl (by decide) (by decide)
 simp (disch:=omega) only [go_sem,undef,H.cs,Ly.c]
 refine zG H fun M3 f H=>?_
 simp (disch:=omega) only [go_sem,undef]
 have hkp:Kp i Y C { Y with lv:=.slice a n' c,lds:=Y.lds.filter fun x=>!decide (idM M x.b=i) } (C.qU i):=fun p v x hv hx hi=>qzN Y.lds C.leads hid p v x hv hx (by simp [hi])
 exact ou qu (Y':={ Y with lv:=.slice a n' c,lds:=Y.lds.filter fun x=>!decide (idM M x.b=i) }) (C':=C.qU i) ⟨hzs.2,ho.wss,ho.wb⟩ hkp (Hq.coJ (L:=[]) (by rw [List.append_nil];exact H))
theorem Ji (h:(coA cb Y C).p m) (ho:Y.ok C) (i:Int×Int) (hn:C.leads.length≤1000000):CM Tryz.prog YW [lp cb,pv i] m (coA cb Y C) (CoR cb (C.qU i) (.tuple #[])):=CH (Jl h ho i hn)
end Go.Fw
namespace Go.Fw
open Go.Proofs
variable {m m0 M:Mem} {S:List Nat} {L:List As}
theorem AI {P:Program} {x y:Value} {size b o n capn k ck:Nat} {y0:Option Addr} {t:TypeId} {c news:List Value} {K:Value→Mem→Prop} {lk:Lk K} {l1:Lk x} {l2:Lk m}
  (H:Hq m0 m S (qv b (.cells c.toArray t (0,0))::L)) (hb:m b=some (.cells c.toArray t (0,0))) (ex:x=.slice (some ⟨b,o,none⟩) n capn) (ey:y=.slice y0 k ck) (hnews:ldS m y0 (min k n*size)=some news) (h1:∀ v∈news,v.oneCell'=true) (hl:o+news.length≤c.length)
  (hK:∀ M,Fr m M [b]→Hq m0 M S (qv b (.cells (c.take o++news++c.drop (o+news.length)).toArray t (0,0))::L)→K (.int .i64 (min k n:Nat)) M):cpyQ P size x y m K lk l1 l2:=by
 subst ex ey
 show ∃ cells,ldS m y0 (min k n*size)=some cells∧∃ m',zT m ⟨b,o,none⟩ 0 cells=some m'∧K _ m'
 refine ⟨news,hnews,_,XG (t:=t) news 0 m c hb (by simpa using hl) h1,?_⟩
 rw [Nat.add_zero]
 refine zG (l:={}) (l':={}) (x:=.cells (c.take o++news++c.drop (o+news.length)).toArray t (0,0)) (J:=fun M=>K (.int .i64 (min k n:Nat)) M) H fun M f H=>hK M f H
theorem qjQ {P:Program} {t:TypeId} {size bytes:Nat} {zero old:List Value} {a:Option Addr} {i k cap:Nat} {kk:Int} {y:Value} {K:Value→Mem→Prop} {lk:Lk K}
  (H:Hq m0 m S L) (ey:y=.int .i64 kk) (hkk:kk=(k:Nat)) (hold:ldS m a (i*size)=some old) (hcap:cap < i+k) (hb:(i+k)*bytes≤140737488355328) (h62:i+k≤4611686018427387904)
  (hK:∀ c b M,i+k≤c→Fr m M []→Hq m0 M S (qv b (.cells (old++(List.replicate k zero).flatten++(List.replicate (c - (i+k)) zero).flatten).toArray t (0,0))::L)→K (.slice (some ⟨b,0,none⟩) (i+k) c) M):xsP P (.appn t size bytes zero) [.slice a i cap,y] m K lk:=by
 subst ey hkk
 show 0≤((k:Nat):Int)∧((k:Nat):Int)*(bytes:Int)≤281474976710656∧Oe size bytes zero t m K a i cap (List.replicate ((k:Nat):Int).toNat zero).flatten ((k:Nat):Int).toNat
 rw [Int.toNat_natCast]
 have hkb:k*bytes≤140737488355328:=Nat.le_trans (Nat.mul_le_mul_right _ (by omega)) hb
 refine ⟨by omega,by rw [← Int.natCast_mul];omega,hb,h62,fun h=>by omega,fun _=>⟨old,hold,fun c b hc hbn=>?_⟩⟩
 exact qh (l:={}) (l':={}) (J:=fun b M=>K (.slice (some ⟨b,0,none⟩) (i+k) c) M) H (fun b M f H=>hK c b M hc f H) b hbn
theorem LJ (c r X:List Value) (o:Nat) (hr:r.length=1) (h:o+1+X.length≤c.length) :
  (c.take o++r++c.drop (o+r.length)).take (o+1)++X++(c.take o++r++c.drop (o+r.length)).drop (o+1+X.length)=c.take o++r++X++c.drop (o+1+X.length):=by
 have ho:(c.take o++r).length=o+1:=by rw [List.length_append,List.length_take,hr];omega
 rw [hr,List.take_left' ho,List.drop_append,List.drop_eq_nil_of_le (by omega),List.nil_append,ho,List.drop_drop]
 congr 2;omega
theorem FF (c r X:List Value) (o:Nat) (hr:r.length=1) (h:o+1+X.length≤c.length) :
  (c.take (o+1)++X++c.drop (o+1+X.length)).take o++r++(c.take (o+1)++X++c.drop (o+1+X.length)).drop (o+r.length)=c.take o++r++X++c.drop (o+1+X.length):=by
 have ho:(c.take (o+1)).length=o+1:=by rw [List.length_take];omega
 rw [hr,List.append_assoc (c.take (o+1)),List.drop_left' ho,List.take_append_of_le_length (by omega),List.take_take,Nat.min_eq_left (by omega)]
 simp only [List.append_assoc]
theorem qvz (s:Nat) (x y:Value):rd (.ovl s) [x,y] m=ovQ m s x y:=rfl
def zj {α:Type} (l:List α) (i:Nat) (x:α):List α:=l.take i++x::l.drop i
theorem Rx {α:Type} (l:List α) (x:α):zj l l.length x=l++[x]:=by simp [zj]
theorem kQ {α:Type} (l:List α) (i:Nat) (x:α) (h:i≤l.length):(zj l i x).length=l.length+1:=by simp [zj];omega
theorem cg {α:Type} {enc:α→List Value} (h1:∀ x,(enc x).length=1) (l:List α) (i:Nat) (x:α) (tail T:List Value) (h:i≤l.length):(l.flatMap enc++tail).take i++enc x++(l.drop i).flatMap enc++T=(zj l i x).flatMap enc++T:=by
 have hfl:(l.flatMap enc).length=l.length:=by rw [jI h1,Nat.mul_one]
 have ht:(l.flatMap enc).take i=(l.take i).flatMap enc:=by
  have:=ub h1 l i
  rw [Nat.mul_one] at this;exact this.symm
 rw [List.take_append_of_le_length (by omega),ht,zj,List.flatMap_append,List.flatMap_cons,List.append_assoc (List.flatMap enc (List.take i l))]
theorem qKq {v:Value} {l:List LdV} {b0:Nat} {x:LdV} {T:TypeId} (h:(qK qc 1 v l.length (l.flatMap pL)).p m) (hb0:m b0=some (.cells (pL x).toArray T (0,0))) (hne:b0∉qH v) (i:Nat) (hi:i≤l.length) (hn:l.length≤1000000) :
  CM Tryz.prog jt [v,.int .i64 (i:Nat),.slice (some ⟨b0,0,none⟩) 1 1] m (qK qc 1 v l.length (l.flatMap pL)) fun u A=>A=qK qc 1 u (zj l i x).length ((zj l i x).flatMap pL):=by
 have hgo:∀ {R:Value→Mem→Prop},wpN Tryz.prog zh (vL zi.rvs R) (mK 0 [v,.int .i64 (i:Nat),.slice (some ⟨b0,0,none⟩) 1 1]) m→MC Tryz.prog jt [v,.int .i64 (i:Nat),.slice (some ⟨b0,0,none⟩) 1 1] m R:=fun h=>yC (by simp [Tryz.f33]) h
 refine hgo ?_
 have H:Hq m m (qH v) [qK qc 1 v l.length (l.flatMap pL)]:=Hq.one h
 have hlen1:∀ y:LdV,(pL y).length=1:=fun _=>rfl
 have hr1:∀ w∈pL x,w.oneCell'=true:=fun w hw=>by
  simp only [List.mem_cons,List.not_mem_nil,or_false] at hw
  subst hw;rfl
 have hone:∀ w∈l.flatMap pL,w.oneCell'=true:=fun w hw=>by
  obtain ⟨y,_,hy⟩:=List.mem_flatMap.1 hw
  simp only [List.mem_cons,List.not_mem_nil,or_false] at hy
  subst hy;rfl
 have hrds:=Own.rds (k:=1) (enc:=pL) (by decide) hlen1 h
 rcases Nat.lt_or_eq_of_le hi with hlt | rfl
 ·refine Own.Px h (by omega) fun b cap tail ev hb hl=>?_
  subst ev
  have hnb:b0≠b:=fun e=>hne (by simp [qH,e])
  have hfl:(l.flatMap pL).length=l.length:=by rw [jI hlen1,Nat.mul_one]
  have hfd:((l.drop i).flatMap pL).length=l.length - i:=by rw [jI hlen1];simp
  have hcl:cap=l.length+tail.length:=by rw [List.length_append,hfl] at hl;omega
  have hcut:∀ n c b':Nat,i≤n→n≤c→i < c→xy 1 (some ⟨b',0,none⟩) c (i:Nat) (n:Nat)=some (.slice (some ⟨b',i,none⟩) (n - i) (c - i)):=fun n c b' h1 h2 h3=>by
   unfold xy
   rw [if_pos (by omega),Int.toNat_natCast,Int.toNat_natCast,if_neg (by omega)]
   simp [xT]
  have hcut1:∀ n c b':Nat,i+1≤n→n≤c→i+1 < c→xy 1 (some ⟨b',0,none⟩) c ((i:Nat)+((1:Nat):Int)) (n:Nat)=some (.slice (some ⟨b',i+1,none⟩) (n - (i+1)) (c - (i+1))):=fun n c b' h1 h2 h3=>by
   unfold xy
   rw [show ((i:Nat):Int)+((1:Nat):Int)=((i+1:Nat):Int) from rfl,if_pos (by omega),Int.toNat_natCast,Int.toNat_natCast,if_neg (by omega)]
   simp [xT]
  have hcut0:xy 1 (some ⟨b,0,none⟩) cap 0 (i:Nat)=some (.slice (some ⟨b,0,none⟩) i cap):=by
   unfold xy
   rw [if_pos (by omega)]
   simp [xT]
  have hnd:(l.drop i).length=l.length - i:=by simp
  have hXone:∀ w∈(l.drop i).flatMap pL,w.oneCell'=true:=fun w hw=>hone w (by
   obtain ⟨y,hy,hz⟩:=List.mem_flatMap.1 hw
   exact List.mem_flatMap.2 ⟨y,List.mem_of_mem_drop hy,hz⟩)
  have hldX:∀ M,RdS 1 pL M (.slice (some ⟨b,0,none⟩) l.length cap) l→ldS M (some ⟨b,i,none⟩) ((l.length - i)*1)=some ((l.drop i).flatMap pL):=fun M hrM=>by
   refine Exists.elim (hrM.cut (by decide) i l.length (by omega) (Nat.le_refl _)) fun a' hh=>Exists.elim hh fun c' hcr=>?_
   have hcb:=hcr.1
   have hrb:=hcr.2.1
   rw [hcut l.length cap b (by omega) (by omega) (by omega)] at hcb
   have e:(some ⟨b,i,none⟩:Option Addr)=a':=by injection hcb with hcb;injection hcb
   subst e
   rw [List.take_length,← hnd] at hrb
   have:=al hrb
   rw [hnd] at this
   exact this
  have hcut2:l.length+1≤cap→xy 1 (some ⟨b,0,none⟩) cap 0 ((l.length:Nat)+((1:Nat):Int))=some (.slice (some ⟨b,0,none⟩) (l.length+1) cap):=fun hh=>by
   unfold xy
   rw [show ((l.length:Nat):Int)+((1:Nat):Int)=((l.length+1:Nat):Int) from rfl,if_pos (by omega),Int.toNat_natCast]
   simp [xT]
  by_cases hcap:l.length+1 > cap
  ·simp (disch:=omega) only [go_sem,undef,jH,hcut l.length cap b (by omega) (by omega) (by omega),qZ (show ¬ ((i:Nat):Int)=(l.length:Nat) by omega),qX (show ((l.length:Nat):Int)+1 > (cap:Nat) by omega),dG,hcut0]
   have e1:i+(l.length+1 - i)=l.length+1:=by omega
   refine qjQ (k:=l.length+1 - i) H rfl (by omega) (zY hb (n:=i*1) (by rw [List.length_append,hfl];omega)) (by omega) (by omega) (by omega) fun c b1 M hc f H=>?_
   rw [e1] at H hc ⊢
   have hzl:((List.replicate (l.length+1 - i) [Value.pointer none]).flatten).length=l.length+1 - i:=by simp
   have hzl2:((List.replicate (c - (l.length+1)) [Value.pointer none]).flatten).length=c - (l.length+1):=by simp
   generalize (List.replicate (l.length+1 - i) [Value.pointer none]).flatten=z1 at H hzl
   generalize (List.replicate (c - (l.length+1)) [Value.pointer none]).flatten=z2 at H hzl2
   have htl:((l.flatMap pL++tail).take (i*1)).length=i:=by rw [List.length_take,List.length_append,hfl];omega
   have hC:(List.take (i*1) (l.flatMap pL++tail)++z1++z2).length=c:=by simp only [List.length_append,htl,hzl,hzl2];omega
   have hCt:(List.take (i*1) (l.flatMap pL++tail)++z1++z2).take i=(l.flatMap pL++tail).take i:=by rw [List.append_assoc,Nat.mul_one];rw [Nat.mul_one] at htl;exact List.take_left' htl
   generalize List.take (i*1) (l.flatMap pL++tail)++z1++z2=C0 at H hC hCt
   simp (disch:=omega) only [go_sem,undef,jH,hcut (l.length+1) c b1 (by omega) (by omega) (by omega)]
   have hb0:=f.get hb0 (by simp)
   refine AI (n:=l.length+1 - i) (k:=1) (size:=1) H H.cs.1 rfl rfl (news:=pL x) (by rw [Nat.min_eq_left (by omega)];exact zY hb0 (n:=1*1) (by simp)) hr1 (by rw [hC,hlen1];omega) fun M f2 H=>?_
   simp (disch:=omega) only [go_sem,undef,jH,hcut1 (l.length+1) c b1 (by omega) (by omega) (by omega),hcut l.length cap b (by omega) (by omega) (by omega)]
   have hrM:=Own.rds (k:=1) (enc:=pL) (by decide) hlen1 (H.at 1 rfl)
   refine AI (n:=l.length+1 - (i+1)) (k:=l.length - i) (size:=1) H H.cs.1 rfl rfl (news:=(l.drop i).flatMap pL) (by rw [Nat.min_eq_left (by omega)];exact hldX M hrM) hXone (by simp only [List.length_append,List.length_take,List.length_drop,hC,hfd,hlen1];omega) fun M f3 H=>?_
   simp (disch:=omega) only [go_sem,undef]
   rw [LJ C0 (pL x) _ i rfl (by rw [hC,hfd];omega),hCt,cg hlen1 l i x tail _ (by omega)] at H
   have hil:=kQ l i x (by omega)
   have hif:((zj l i x).flatMap pL).length=(l.length+1)*1:=by rw [jI hlen1,hil]
   have H:=Hq.cy (size:=1) (n:=l.length+1) (cap:=c) H hif (by rw [List.length_append,hif,List.length_drop,hC,hfd];omega)
   rw [← hil] at H ⊢
   have H:=H.perm (List.Perm.swap ..) |>.tail
   exact ⟨_,rfl,H.hs.1,H.fr,fun b hb=>H.done.2.2 b hb,H.done.2.2⟩
  ·have hcut2:=hcut2 (by omega)
   simp (disch:=omega) only [go_sem,undef,jH,hcut l.length cap b (by omega) (by omega) (by omega),qZ (show ¬ ((i:Nat):Int)=(l.length:Nat) by omega),qZ (show ¬ ((l.length:Nat):Int)+1 > (cap:Nat) by omega),dG,hcut2,hcut1 (l.length+1) cap b (by omega) (by omega) (by omega)]
   have hov:rd (.ovl 1) [Value.slice (some ⟨b0,0,none⟩) 1 1,.slice (some ⟨b,i+1,none⟩) (l.length+1 - (i+1)) (cap - (i+1))] m=some (.bool false):=by
    rw [qvz]
    unfold ovQ
    simp only [cz,hb0,hb]
    rw [if_neg (by omega),if_neg hnb];rfl
   have H:=Hq.toCell H hb
   have hXl:i+1+((l.drop i).flatMap pL).length≤(l.flatMap pL++tail).length:=by rw [hl,hfd];omega
   simp (disch:=omega) only [go_sem,undef,hov,jH,hcut (l.length+1) cap b (by omega) (by omega) (by omega),hcut1 (l.length+1) cap b (by omega) (by omega) (by omega)]
   refine AI (n:=l.length+1 - (i+1)) (k:=l.length+1 - i) (size:=1) H hb rfl rfl (news:=(l.drop i).flatMap pL) (by rw [Nat.min_eq_right (by omega),show l.length+1 - (i+1)=l.length - i from by omega];exact hldX m hrds) hXone hXl fun M f H=>?_
   simp (disch:=omega) only [go_sem,undef,jH,hcut (l.length+1) cap b (by omega) (by omega) (by omega)]
   have hb0:M b0=some (.cells (pL x).toArray T (0,0)):=by rw [f b0 (by rw [hb0];simp) (by simpa using hnb)];exact hb0
   refine AI (n:=l.length+1 - i) (k:=1) (size:=1) H H.cs.1 rfl rfl (news:=pL x) (by rw [Nat.min_eq_left (by omega)];exact zY hb0 (n:=1*1) (by simp)) hr1 (by simp only [List.length_append,List.length_take,List.length_drop,hfl,hfd,hlen1];omega) fun M f3 H=>?_
   simp (disch:=omega) only [go_sem,undef]
   rw [FF _ (pL x) _ i rfl hXl,cg hlen1 l i x tail _ (by omega)] at H
   have hil:=kQ l i x (by omega)
   have hif:((zj l i x).flatMap pL).length=(l.length+1)*1:=by rw [jI hlen1,hil]
   have H:=Hq.cy (size:=1) (n:=l.length+1) (cap:=cap) H hif (by rw [List.length_append,hif,List.length_drop,hl,hfd];omega)
   rw [← hil] at H ⊢
   exact ⟨_,rfl,H.hs.1,H.fr,fun b hb=>H.done.2.2 b hb,H.done.2.2⟩
 ·refine Own.zA h fun a2 c2 ev=>?_
  subst ev
  have hcut:∃ z,xy 1 a2 c2 (l.length:Nat) (l.length:Nat)=some z:=by
   obtain ⟨_,_,h,_⟩:=hrds.cut (by decide) l.length l.length (Nat.le_refl _) (Nat.le_refl _)
   exact ⟨_,h⟩
  obtain ⟨z,hcut⟩:=hcut
  simp (disch:=omega) only [go_sem,undef,jH,hcut]
  refine Lu H (k:=1) (news:=pL x) rfl (zY (n:=1) hb0 (by simp)) rfl hr1 rfl (by omega) (by omega) fun w M f H=>?_
  simp (disch:=omega) only [go_sem,undef]
  have e:qK qc 1 w (l.length+1) (l.flatMap pL++pL x)=qK qc 1 w (zj l l.length x).length ((zj l l.length x).flatMap pL):=by rw [Rx];simp
  rw [e] at H
  exact ⟨_,rfl,H.hs.1,H.fr,fun b hb=>H.done.2.2 b hb,H.done.2.2⟩
theorem qXU {v:Value} {l:List Nat} {b0:Nat} {x:Nat} {T:TypeId} (h:(qK qQ 1 v l.length (l.flatMap ptV)).p m) (hb0:m b0=some (.cells (ptV x).toArray T (0,0))) (hne:b0∉qH v) (i:Nat) (hi:i≤l.length) (hn:l.length≤1000000) :
  CM Tryz.prog js [v,.int .i64 (i:Nat),.slice (some ⟨b0,0,none⟩) 1 1] m (qK qQ 1 v l.length (l.flatMap ptV)) fun u A=>A=qK qQ 1 u (zj l i x).length ((zj l i x).flatMap ptV):=by
 have hgo:∀ {R:Value→Mem→Prop},wpN Tryz.prog zf (vL zg.rvs R) (mK 0 [v,.int .i64 (i:Nat),.slice (some ⟨b0,0,none⟩) 1 1]) m→MC Tryz.prog js [v,.int .i64 (i:Nat),.slice (some ⟨b0,0,none⟩) 1 1] m R:=fun h=>yi (by simp [Tryz.f33]) h
 refine hgo ?_
 have H:Hq m m (qH v) [qK qQ 1 v l.length (l.flatMap ptV)]:=Hq.one h
 have hlen1:∀ y:Nat,(ptV y).length=1:=fun _=>rfl
 have hr1:∀ w∈ptV x,w.oneCell'=true:=fun w hw=>by
  simp only [List.mem_cons,List.not_mem_nil,or_false] at hw
  subst hw;rfl
 have hone:∀ w∈l.flatMap ptV,w.oneCell'=true:=fun w hw=>by
  obtain ⟨y,_,hy⟩:=List.mem_flatMap.1 hw
  simp only [List.mem_cons,List.not_mem_nil,or_false] at hy
  subst hy;rfl
 have hrds:=Own.rds (k:=1) (enc:=ptV) (by decide) hlen1 h
 rcases Nat.lt_or_eq_of_le hi with hlt | rfl
 ·refine Own.Px h (by omega) fun b cap tail ev hb hl=>?_
  subst ev
  have hnb:b0≠b:=fun e=>hne (by simp [qH,e])
  have hfl:(l.flatMap ptV).length=l.length:=by rw [jI hlen1,Nat.mul_one]
  have hfd:((l.drop i).flatMap ptV).length=l.length - i:=by rw [jI hlen1];simp
  have hcl:cap=l.length+tail.length:=by rw [List.length_append,hfl] at hl;omega
  have hcut:∀ n c b':Nat,i≤n→n≤c→i < c→xy 1 (some ⟨b',0,none⟩) c (i:Nat) (n:Nat)=some (.slice (some ⟨b',i,none⟩) (n - i) (c - i)):=fun n c b' h1 h2 h3=>by
   unfold xy
   rw [if_pos (by omega),Int.toNat_natCast,Int.toNat_natCast,if_neg (by omega)]
   simp [xT]
  have hcut1:∀ n c b':Nat,i+1≤n→n≤c→i+1 < c→xy 1 (some ⟨b',0,none⟩) c ((i:Nat)+((1:Nat):Int)) (n:Nat)=some (.slice (some ⟨b',i+1,none⟩) (n - (i+1)) (c - (i+1))):=fun n c b' h1 h2 h3=>by
   unfold xy
   rw [show ((i:Nat):Int)+((1:Nat):Int)=((i+1:Nat):Int) from rfl,if_pos (by omega),Int.toNat_natCast,Int.toNat_natCast,if_neg (by omega)]
   simp [xT]
  have hcut0:xy 1 (some ⟨b,0,none⟩) cap 0 (i:Nat)=some (.slice (some ⟨b,0,none⟩) i cap):=by
   unfold xy
   rw [if_pos (by omega)]
   simp [xT]
  have hnd:(l.drop i).length=l.length - i:=by simp
  have hXone:∀ w∈(l.drop i).flatMap ptV,w.oneCell'=true:=fun w hw=>hone w (by
   obtain ⟨y,hy,hz⟩:=List.mem_flatMap.1 hw
   exact List.mem_flatMap.2 ⟨y,List.mem_of_mem_drop hy,hz⟩)
  have hldX:∀ M,RdS 1 ptV M (.slice (some ⟨b,0,none⟩) l.length cap) l→ldS M (some ⟨b,i,none⟩) ((l.length - i)*1)=some ((l.drop i).flatMap ptV):=fun M hrM=>by
   refine Exists.elim (hrM.cut (by decide) i l.length (by omega) (Nat.le_refl _)) fun a' hh=>Exists.elim hh fun c' hcr=>?_
   have hcb:=hcr.1
   have hrb:=hcr.2.1
   rw [hcut l.length cap b (by omega) (by omega) (by omega)] at hcb
   have e:(some ⟨b,i,none⟩:Option Addr)=a':=by injection hcb with hcb;injection hcb
   subst e
   rw [List.take_length,← hnd] at hrb
   have:=al hrb
   rw [hnd] at this
   exact this
  have hcut2:l.length+1≤cap→xy 1 (some ⟨b,0,none⟩) cap 0 ((l.length:Nat)+((1:Nat):Int))=some (.slice (some ⟨b,0,none⟩) (l.length+1) cap):=fun hh=>by
   unfold xy
   rw [show ((l.length:Nat):Int)+((1:Nat):Int)=((l.length+1:Nat):Int) from rfl,if_pos (by omega),Int.toNat_natCast]
   simp [xT]
  by_cases hcap:l.length+1 > cap
  ·simp (disch:=omega) only [go_sem,undef,jH,hcut l.length cap b (by omega) (by omega) (by omega),qZ (show ¬ ((i:Nat):Int)=(l.length:Nat) by omega),qX (show ((l.length:Nat):Int)+1 > (cap:Nat) by omega),dG,hcut0]
   have e1:i+(l.length+1 - i)=l.length+1:=by omega
   refine qjQ (k:=l.length+1 - i) H rfl (by omega) (zY hb (n:=i*1) (by rw [List.length_append,hfl];omega)) (by omega) (by omega) (by omega) fun c b1 M hc f H=>?_
   rw [e1] at H hc ⊢
   have hzl:((List.replicate (l.length+1 - i) [Value.pointer none]).flatten).length=l.length+1 - i:=by simp
   have hzl2:((List.replicate (c - (l.length+1)) [Value.pointer none]).flatten).length=c - (l.length+1):=by simp
   generalize (List.replicate (l.length+1 - i) [Value.pointer none]).flatten=z1 at H hzl
   generalize (List.replicate (c - (l.length+1)) [Value.pointer none]).flatten=z2 at H hzl2
   have htl:((l.flatMap ptV++tail).take (i*1)).length=i:=by rw [List.length_take,List.length_append,hfl];omega
   have hC:(List.take (i*1) (l.flatMap ptV++tail)++z1++z2).length=c:=by simp only [List.length_append,htl,hzl,hzl2];omega
   have hCt:(List.take (i*1) (l.flatMap ptV++tail)++z1++z2).take i=(l.flatMap ptV++tail).take i:=by rw [List.append_assoc,Nat.mul_one];rw [Nat.mul_one] at htl;exact List.take_left' htl
   generalize List.take (i*1) (l.flatMap ptV++tail)++z1++z2=C0 at H hC hCt
   simp (disch:=omega) only [go_sem,undef,jH,hcut (l.length+1) c b1 (by omega) (by omega) (by omega)]
   have hb0:=f.get hb0 (by simp)
   refine AI (n:=l.length+1 - i) (k:=1) (size:=1) H H.cs.1 rfl rfl (news:=ptV x) (by rw [Nat.min_eq_left (by omega)];exact zY hb0 (n:=1*1) (by simp)) hr1 (by rw [hC,hlen1];omega) fun M f2 H=>?_
   simp (disch:=omega) only [go_sem,undef,jH,hcut1 (l.length+1) c b1 (by omega) (by omega) (by omega),hcut l.length cap b (by omega) (by omega) (by omega)]
   have hrM:=Own.rds (k:=1) (enc:=ptV) (by decide) hlen1 (H.at 1 rfl)
   refine AI (n:=l.length+1 - (i+1)) (k:=l.length - i) (size:=1) H H.cs.1 rfl rfl (news:=(l.drop i).flatMap ptV) (by rw [Nat.min_eq_left (by omega)];exact hldX M hrM) hXone (by simp only [List.length_append,List.length_take,List.length_drop,hC,hfd,hlen1];omega) fun M f3 H=>?_
   simp (disch:=omega) only [go_sem,undef]
   rw [LJ C0 (ptV x) _ i rfl (by rw [hC,hfd];omega),hCt,cg hlen1 l i x tail _ (by omega)] at H
   have hil:=kQ l i x (by omega)
   have hif:((zj l i x).flatMap ptV).length=(l.length+1)*1:=by rw [jI hlen1,hil]
   have H:=Hq.cy (size:=1) (n:=l.length+1) (cap:=c) H hif (by rw [List.length_append,hif,List.length_drop,hC,hfd];omega)
   rw [← hil] at H ⊢
   have H:=H.perm (List.Perm.swap ..) |>.tail
   exact ⟨_,rfl,H.hs.1,H.fr,fun b hb=>H.done.2.2 b hb,H.done.2.2⟩
  ·have hcut2:=hcut2 (by omega)
   simp (disch:=omega) only [go_sem,undef,jH,hcut l.length cap b (by omega) (by omega) (by omega),qZ (show ¬ ((i:Nat):Int)=(l.length:Nat) by omega),qZ (show ¬ ((l.length:Nat):Int)+1 > (cap:Nat) by omega),dG,hcut2,hcut1 (l.length+1) cap b (by omega) (by omega) (by omega)]
   have hov:rd (.ovl 1) [Value.slice (some ⟨b0,0,none⟩) 1 1,.slice (some ⟨b,i+1,none⟩) (l.length+1 - (i+1)) (cap - (i+1))] m=some (.bool false):=by
    rw [qvz]
    unfold ovQ
    simp only [cz,hb0,hb]
    rw [if_neg (by omega),if_neg hnb];rfl
   have H:=Hq.toCell H hb
   have hXl:i+1+((l.drop i).flatMap ptV).length≤(l.flatMap ptV++tail).length:=by rw [hl,hfd];omega
   simp (disch:=omega) only [go_sem,undef,hov,jH,hcut (l.length+1) cap b (by omega) (by omega) (by omega),hcut1 (l.length+1) cap b (by omega) (by omega) (by omega)]
   refine AI (n:=l.length+1 - (i+1)) (k:=l.length+1 - i) (size:=1) H hb rfl rfl (news:=(l.drop i).flatMap ptV) (by rw [Nat.min_eq_right (by omega),show l.length+1 - (i+1)=l.length - i from by omega];exact hldX m hrds) hXone hXl fun M f H=>?_
   simp (disch:=omega) only [go_sem,undef,jH,hcut (l.length+1) cap b (by omega) (by omega) (by omega)]
   have hb0:M b0=some (.cells (ptV x).toArray T (0,0)):=by rw [f b0 (by rw [hb0];simp) (by simpa using hnb)];exact hb0
   refine AI (n:=l.length+1 - i) (k:=1) (size:=1) H H.cs.1 rfl rfl (news:=ptV x) (by rw [Nat.min_eq_left (by omega)];exact zY hb0 (n:=1*1) (by simp)) hr1 (by simp only [List.length_append,List.length_take,List.length_drop,hfl,hfd,hlen1];omega) fun M f3 H=>?_
   simp (disch:=omega) only [go_sem,undef]
   rw [FF _ (ptV x) _ i rfl hXl,cg hlen1 l i x tail _ (by omega)] at H
   have hil:=kQ l i x (by omega)
   have hif:((zj l i x).flatMap ptV).length=(l.length+1)*1:=by rw [jI hlen1,hil]
   have H:=Hq.cy (size:=1) (n:=l.length+1) (cap:=cap) H hif (by rw [List.length_append,hif,List.length_drop,hl,hfd];omega)
   rw [← hil] at H ⊢
   exact ⟨_,rfl,H.hs.1,H.fr,fun b hb=>H.done.2.2 b hb,H.done.2.2⟩
 ·refine Own.zA h fun a2 c2 ev=>?_
  subst ev
  have hcut:∃ z,xy 1 a2 c2 (l.length:Nat) (l.length:Nat)=some z:=by
   obtain ⟨_,_,h,_⟩:=hrds.cut (by decide) l.length l.length (Nat.le_refl _) (Nat.le_refl _)
   exact ⟨_,h⟩
  obtain ⟨z,hcut⟩:=hcut
  simp (disch:=omega) only [go_sem,undef,jH,hcut]
  refine Lu H (k:=1) (news:=ptV x) rfl (zY (n:=1) hb0 (by simp)) rfl hr1 rfl (by omega) (by omega) fun w M f H=>?_
  simp (disch:=omega) only [go_sem,undef]
  have e:qK qQ 1 w (l.length+1) (l.flatMap ptV++ptV x)=qK qQ 1 w (zj l l.length x).length ((zj l l.length x).flatMap ptV):=by rw [Rx];simp
  rw [e] at H
  exact ⟨_,rfl,H.hs.1,H.fr,fun b hb=>H.done.2.2 b hb,H.done.2.2⟩
end Go.Fw
namespace Go.Fw
open Go.Proofs
variable {m m0 M:Mem} {S:List Nat} {L:List As}
variable {cb:Nat} {Y:Ly} {C:Co}
theorem qT {A:As} {Y':Ly} {C':Co} {V:Value} (hfw:A.fp=A.wp) (ho:Y'.ok C') (H:Hq m M A.wp [coA cb Y' C']) :
  ∃ A',CoR cb C' V V A'∧A'.p M∧Fr m M A.wp∧(∀ b∈A'.fp,b∈A.fp∨m b=none)∧∀ b∈A'.wp,b∈A.wp∨m b=none :=
 ⟨_,⟨rfl,_,ho,rfl⟩,H.hs.1,H.fr,fun b hb=>by rw [hfw];rw [qu] at hb;exact H.done.2.2 b hb,H.done.2.2⟩
theorem qJj {v:LdV} {x:Ld}:(vH (ldA v x) (coA cb Y C)).fp=(vH (ldA v x) (coA cb Y C)).wp:=by
 show (ldA v x).fp++(coA cb Y C).fp=(ldA v x).wp++(coA cb Y C).wp
 rw [qJz,qu]
theorem LF {α β γ:Type} (f:α→β→γ) (v:α) (x:β):∀ (j:Nat) (vs:List α) (xs:List β),vs.length=xs.length→List.zipWith f (zj vs j v) (zj xs j x)=zj (List.zipWith f vs xs) j (f v x)
 | 0,vs,xs,_=>by simp [zj]
 | j+1,[],[],_=>by simp [zj]
 | j+1,[],_::_,h=>by simp at h
 | j+1,_::_,[],h=>by simp at h
 | j+1,a::vs,b::xs,h=>by
  have:=LF f v x j vs xs (by simpa using h)
  simpa [zj] using this
theorem aP {α:Type} (l:List α) (j:Nat) (x:α):(zj l j x).Perm (x::l):=by
 have h:(l.take j++x::l.drop j).Perm (x::(l.take j++l.drop j)):=List.perm_middle
 rwa [List.take_append_drop] at h
theorem qzL {α:Type} (l:List α) (j:Nat) (x:α) (h:j≤l.length):(zj l j x)[j]?=some x:=by
 unfold zj
 rw [List.getElem?_append_right (by rw [List.length_take];omega),List.length_take,Nat.min_eq_left h,Nat.sub_self];rfl
theorem qQf {vs:List LdV} {xs:List Ld} {v:LdV} {x:Ld} (j:Nat) (hl:vs.length=xs.length) (H:Hq m0 m S (ldA v x::Qg vs xs::L)):Hq m0 m S (Qg (zj vs j v) (zj xs j x)::L):=by
 have H:=Hq.ze (l:=List.zipWith ldA vs xs) (H.perm (List.Perm.swap ..))
 refine Hq.xq (l:=List.zipWith ldA (zj vs j v) (zj xs j x)) ?_
 rw [LF ldA v x j vs xs hl]
 have hp:(List.zipWith ldA vs xs++ldA v x::L).Perm (zj (List.zipWith ldA vs xs) j (ldA v x)++L) :=
  List.perm_middle.trans ((aP (List.zipWith ldA vs xs) j (ldA v x)).symm.append_right L)
 exact H.perm hp.symm
theorem qXT {α β:Type} (vs:List α) (xs:List β) (a:α) (b:β) (j:Nat) (p:Nat) (v:α) (x:β) (hv:vs[p]?=some v) (hx:xs[p]?=some x):∃ p':Nat,(zj vs j a)[p']?=some v∧(zj xs j b)[p']?=some x:=by
 have h1:=(List.getElem?_eq_some_iff.1 hv).1
 have h2:=(List.getElem?_eq_some_iff.1 hx).1
 by_cases hp:p < j
 ·refine ⟨p,?_,?_⟩
  ·unfold zj;rw [List.getElem?_append_left (by rw [List.length_take];omega),List.getElem?_take_of_lt hp];exact hv
  ·unfold zj;rw [List.getElem?_append_left (by rw [List.length_take];omega),List.getElem?_take_of_lt hp];exact hx
 ·refine ⟨p+1,?_,?_⟩
  ·unfold zj
   rw [List.getElem?_append_right (by rw [List.length_take];omega),List.length_take,Nat.min_eq_left (by omega),show p+1 - j=(p - j)+1 from by omega,List.getElem?_cons_succ,List.getElem?_drop,show j+(p - j)=p from by omega]
   exact hv
  ·unfold zj
   rw [List.getElem?_append_right (by rw [List.length_take];omega),List.length_take,Nat.min_eq_left (by omega),show p+1 - j=(p - j)+1 from by omega,List.getElem?_cons_succ,List.getElem?_drop,show j+(p - j)=p from by omega]
   exact hx
def CoL (cb:Nat) (Y0:Ly) (C0:Co) (C:Co) (v:LdV) (x:Ld) (V u:Value) (A:As):Prop:=u=V∧∃ Y:Ly,Y.ok C∧(∃ j:Nat,Y.lds[j]?=some v∧C.leads[j]?=some x)∧Kp x.id Y0 C0 Y C∧A=coA cb Y C
theorem CoL.E {G:Prop} {Y0:Ly} {C0 C:Co} {v:LdV} {x:Ld} {V u:Value} {A:As} (h:CoL cb Y0 C0 C v x V u A) (k:∀ (Y:Ly) (j:Nat),u=V→Y.ok C→Y.lds[j]?=some v→C.leads[j]?=some x→A=coA cb Y C→Kp x.id Y0 C0 Y C→G):G:=by
 obtain ⟨h1,Y,h2,⟨j,h3,h4⟩,h6,h5⟩:=h
 exact k Y j h1 h2 h3 h4 h5 h6
theorem qKr {A:As} {Y0 Y':Ly} {C0 C':Co} {v:LdV} {x:Ld} {V:Value} (hfw:A.fp=A.wp) (ho:Y'.ok C') (hl:∃ j:Nat,Y'.lds[j]?=some v∧C'.leads[j]?=some x) (hk:Kp x.id Y0 C0 Y' C') (H:Hq m M A.wp [coA cb Y' C']) :
  ∃ A',CoL cb Y0 C0 C' v x V V A'∧A'.p M∧Fr m M A.wp∧(∀ b∈A'.fp,b∈A.fp∨m b=none)∧∀ b∈A'.wp,b∈A.wp∨m b=none :=
 ⟨_,⟨rfl,_,ho,hl,hk,rfl⟩,H.hs.1,H.fr,fun b hb=>by rw [hfw];rw [qu] at hb;exact H.done.2.2 b hb,H.done.2.2⟩
def dy (i:Int×Int) (l:List Ld):Nat:=(l.takeWhile fun y=>decide (lt2 y.id i)).length
theorem Me (i:Int×Int) (l:List Ld):dy i l≤l.length:=(List.takeWhile_sublist _).length_le
theorem qzp {i:Int×Int}:∀ {l:List Ld} {j:Nat} {y:Ld},j < dy i l→l[j]?=some y→lt2 y.id i
 | [],j,y,h,_=>by simp [dy] at h
 | a::r,j,y,h,hy=>by
  by_cases ha:lt2 a.id i
  ·cases j with
   | zero=>simp at hy;subst hy;exact ha
   | succ j=>exact qzp (l:=r) (j:=j) (by simpa [dy,List.takeWhile_cons,ha] using h) (by simpa using hy)
  ·simp [dy,List.takeWhile_cons,ha] at h
theorem qzr {i:Int×Int}:∀ {l:List Ld} {y:Ld},l[dy i l]?=some y→¬ lt2 y.id i
 | [],y,h=>by simp at h
 | a::r,y,h=>by
  by_cases ha:lt2 a.id i
  ·have e:dy i (a::r)=dy i r+1:=by simp [dy,List.takeWhile_cons,ha]
   rw [e] at h
   exact qzr (l:=r) (by simpa using h)
  ·have e:dy i (a::r)=0:=by simp [dy,List.takeWhile_cons,ha]
   rw [e] at h
   simp at h;subst h;exact ha
def Co.Qw (C:Co) (x:Ld):Co:={ C.qU x.id with leads:=zj (C.qU x.id).leads (dy x.id (C.qU x.id).leads) x }
theorem RR {v:LdV} {x:Ld} (h:(vH (ldA v x) (coA cb Y C)).p m) (ho:Y.ok C) (hn:C.leads.length≤100000) :
  CM Tryz.prog tu [lp cb,lp v.b] m (vH (ldA v x) (coA cb Y C)) (CoL cb Y C (C.Qw x) v x (.tuple #[])):=by
 have H:Hq m m (vH (ldA v x) (coA cb Y C)).wp [ldA v x,coA cb Y C]:=Hq.split (Hq.one h)
 refine sv (by simp [Tryz.f33]) ?_
 simp (disch:=omega) only [go_sem,undef,zz (H.at 0 rfl),Ld.c]
 refine qKt H (Jl (H.at 1 rfl) ho x.id (by omega)) fun u M A' hR f H=>?_
 refine hR.E fun Y1 eu ho1 eA hk1=>?_
 subst eu eA
 have hln:(C.qU x.id).leads.length≤100000:=Nat.le_trans (List.length_filter_le ..) hn
 have hte:C.Qw x={ C.qU x.id with leads:=zj (C.qU x.id).leads (dy x.id (C.qU x.id).leads) x }:=rfl
 rw [hte]
 generalize C.qU x.id=C1 at *
 have hple:=Me x.id C1.leads
 have hplt:∀ j y,j < dy x.id C1.leads→C1.leads[j]?=some y→lt2 y.id x.id:=fun j y h hy=>qzp h hy
 have hpat:∀ y,C1.leads[dy x.id C1.leads]?=some y→¬ lt2 y.id x.id:=fun y hy=>qzr hy
 generalize dy x.id C1.leads=p at *
 simp (disch:=omega) only [go_sem,undef]
 refine ql (fun k E m'=>∃ j,j≤p∧k=p - j∧E=[(0,lp cb),(1,lp v.b),(4,.int .i64 (j:Nat))]∧Hq m m' (vH (ldA v x) (coA cb Y C)).wp [ldA v x,coA cb Y1 C1]) p rfl ⟨0,by omega,rfl,rfl,H⟩ ?_
 clear H f hR
 rintro k E M1 ⟨j,hj,rfl,rfl,H⟩
 have hc:=qy (H.at 1 rfl)
 have hrow:=gw (H.at 1 rfl)
 have hlen:=ho1.lds
 have hlds:=zb (H.at 1 rfl)
 have hrd:RdS 1 pL M1 Y1.lv Y1.lds:=Own.rds (by decide) (fun _=>rfl) hrow
 refine Own.zA hrow fun a c hv=>?_
 rw [hv] at hrd
 have hlx:=zz (H.at 0 rfl)
 have hend:∀ (E1:Env),j=p→E1.get 0=lp cb→E1.get 1=lp v.b→E1.get 4=.int .i64 (j:Nat)→E1.has 0=true→E1.has 1=true→E1.has 4=true →
   ∀ M1,Hq m M1 (vH (ldA v x) (coA cb Y C)).wp [ldA v x,coA cb Y1 C1] →
   wpN Tryz.prog Jo (vL [] fun u M=>∃ A',CoL cb Y C { C1 with leads:=zj C1.leads p x } v x (.tuple #[]) u A'∧A'.p M∧Fr m M (vH (ldA v x) (coA cb Y C)).wp∧(∀ b∈A'.fp,b∈(vH (ldA v x) (coA cb Y C)).fp∨m b=none)∧∀ b∈A'.wp,b∈(vH (ldA v x) (coA cb Y C)).wp∨m b=none) E1 M1:=by
  intro E1 e g0 g1 g4 k0 k1 k4 M1 H
  have hc:=qy (H.at 1 rfl)
  simp (disch:=omega) only [go_sem,undef,g0,g1,g4,k0,k1,k4,hc,Ly.c,hv]
  refine qh H fun b7 M f H=>?_
  have hb7:=H.cs.1
  have H:Hq m M (vH (ldA v x) (coA cb Y C)).wp (coA cb Y1 C1::[qv b7 (.cells [lp v.b].toArray qc (0,0)),ldA v x]):=H.sel 3 [2,0,1] rfl (by decide) (by decide)
  have H:=Hq.coS H
  have hap:ZM (qK qc 1 Y1.lv Y1.lds.length (Y1.lds.flatMap pL)) (qv b7 (.cells [lp v.b].toArray qc (0,0))):=H.apart 3 9 11 rfl (by decide) (by decide) (by decide)
  have hins:=qKq (v:=Y1.lv) (l:=Y1.lds) (b0:=b7) (x:=v) (H.at 3 rfl) hb7 (fun hb=>hap.2 b7 (by simp) hb) p (by omega) (by omega)
  have hargs:[Y1.lv,Value.int .i64 (p:Nat),.slice (some ⟨b7,0,none⟩) 1 1]=[.slice a Y1.lds.length c,Value.int .i64 (j:Nat),.slice (some ⟨b7,0,none⟩) 1 1]:=by rw [hv,e]
  rw [hargs] at hins
  simp (disch:=omega) only [go_sem,undef,g0,g1,g4,k0,k1,k4]
  refine zq 3 H hins rfl fun u M2 A' eA f H=>?_
  subst eA
  refine Own.zA (H.at 3 rfl) fun a2 c2 e2=>Exists.elim (⟨_,rfl⟩:∃ n',n'=(zj Y1.lds p v).length) fun n' hn'=>?_
  rw [← hn'] at e2
  subst e2
  have H:Hq m M2 (vH (ldA v x) (coA cb Y C)).wp [qv cb (.cells (Y1.c C1).cs.toArray qG (0,0)),jT Y1.lb Y1.lr C1.cut C1.lg,xC Y1.xb Y1.xr C1.xcut C1.xl,qK qc 1 (.slice a2 n' c2) (zj Y1.lds p v).length ((zj Y1.lds p v).flatMap pL),qK qQ 1 Y1.wv Y1.wss.length (Y1.wss.flatMap ptV),brA qC Y1.rv Y1.rs C1.recs,qK qw 51 Y1.ov C1.out.length (C1.out.flatMap Lt.cs),Qg Y1.lds C1.leads,wu Y1.wss C1.wishes,qv b7 (.cells [lp v.b].toArray qc (0,0)),ldA v x]:=H
  simp (disch:=omega) only [go_sem,undef,g0,g1,g4,k0,k1,k4,H.cs,Ly.c]
  refine zG H fun M3 f H=>?_
  have H:Hq m M3 (vH (ldA v x) (coA cb Y C)).wp (ldA v x::Qg Y1.lds C1.leads::[qv cb (.cells (Ly.c { Y1 with lv:=.slice a2 n' c2,lds:=zj Y1.lds p v } { C1 with leads:=zj C1.leads p x }).cs.toArray qG (0,0)),jT Y1.lb Y1.lr C1.cut C1.lg,xC Y1.xb Y1.xr C1.xcut C1.xl,qK qc 1 (.slice a2 n' c2) (zj Y1.lds p v).length ((zj Y1.lds p v).flatMap pL),qK qQ 1 Y1.wv Y1.wss.length (Y1.wss.flatMap ptV),brA qC Y1.rv Y1.rs C1.recs,qK qw 51 Y1.ov C1.out.length (C1.out.flatMap Lt.cs),wu Y1.wss C1.wishes]):=H.sel 11 [10,7,0,1,2,3,4,5,6,8] rfl (by decide) (by decide)
  have H:=qQf p hlen H
  have H:Hq m M3 (vH (ldA v x) (coA cb Y C)).wp (coL cb { Y1 with lv:=.slice a2 n' c2,lds:=zj Y1.lds p v } { C1 with leads:=zj C1.leads p x }++[]):=H.sel 9 [1,2,3,4,5,6,7,0,8] rfl (by decide) (by decide)
  simp (disch:=omega) only [go_sem,undef]
  exact qKr qJj (Y':={ Y1 with lv:=.slice a2 n' c2,lds:=zj Y1.lds p v }) (C':={ C1 with leads:=zj C1.leads p x }) ⟨by rw [kQ _ _ _ (by omega),kQ _ _ _ hple,hlen],ho1.wss,ho1.wb⟩ ⟨p,qzL _ _ _ (by omega),qzL _ _ _ hple⟩ (hk1.trans fun p' v' x' hv' hx' _=>qXT Y1.lds C1.leads v x p p' v' x' hv' hx') (Hq.coJ H)
 generalize hC:Jo=T at *
 by_cases hjl:j < Y1.lds.length
 ·refine RdS.elK hrd hjl (by decide) fun bx o w hw hix hE=>?_
  have hp0:(pL w)[0]?=some (lp w.b):=rfl
  refine Exists.elim (⟨C1.leads[j],List.getElem?_eq_getElem (by omega)⟩:∃ y,C1.leads[j]?=some y) fun y hy=>?_
  have hcy:=zz (zZ hlds hw hy)
  by_cases hjp:j < p
  ·have hless:=hplt j y hjp hy
   simp (disch:=omega) only [go_sem,undef,hc,Ly.c,hv,qX (show ((j:Nat):Int) < (Y1.lds.length:Nat) by omega),hix,hE.ld0,hp0,hcy,hlx,Ld.c]
   refine qY H (XU y.id x.id _) fun M f H=>?_
   simp (disch:=omega) only [go_sem,undef,qX hless]
   exact qV (p - (j+1)) (by omega) ⟨j+1,by omega,rfl,rfl,H⟩
  ·have e:j=p:=by omega
   have hless:=hpat y (by rw [← e];exact hy)
   simp (disch:=omega) only [go_sem,undef,hc,Ly.c,hv,qX (show ((j:Nat):Int) < (Y1.lds.length:Nat) by omega),hix,hE.ld0,hp0,hcy,hlx,Ld.c]
   refine qY H (XU y.id x.id _) fun M f H=>?_
   simp (disch:=omega) only [go_sem,undef,qZ hless]
   exact hend _ e rfl rfl rfl rfl rfl rfl _ H
 ·have e:j=p:=by omega
  simp (disch:=omega) only [go_sem,undef,hc,Ly.c,hv,qZ (show ¬ ((j:Nat):Int) < (Y1.lds.length:Nat) by omega)]
  exact hend _ e rfl rfl rfl rfl rfl rfl _ H
def Co.jl (C:Co) (x:Ld):Co:=(C.Qw x).all x.ask x.ans
theorem rS {v:LdV} {x:Ld} (h:(vH (ldA v x) (coA cb Y C)).p m) (ho:Y.ok C) (hn:C.leads.length≤100000) (hn7:C.n≤7) (hout:C.out.length≤999000) :
  CM Tryz.prog YY [lp cb,lp v.b] m (vH (ldA v x) (coA cb Y C)) (CoN cb Y C x.id (C.jl x) (.tuple #[])):=by
 have H:Hq m m (vH (ldA v x) (coA cb Y C)).wp [vH (ldA v x) (coA cb Y C)]:=Hq.one h
 have htk:=RR h ho hn
 refine oY (by simp [Tryz.f33]) ?_
 simp (disch:=omega) only [go_sem,undef]
 refine jb H htk fun u M A' hR f H=>?_
 refine hR.E fun Y1 j eu ho1 hj1 hj2 eA hk1=>?_
 subst eu eA
 have hcx:=zz (zZ (zb (H.at 0 rfl)) hj1 hj2)
 simp (disch:=omega) only [go_sem,undef,hcx,Ld.c]
 refine qY H (qwF hcx) fun M f H=>?_
 have hcx:=zz (zZ (zb (H.at 0 rfl)) hj1 hj2)
 simp (disch:=omega) only [go_sem,undef,hcx,Ld.c]
 refine jb H (qjJ (H.at 0 rfl) ho1 x.ask x.ans hn7 hout) fun u M A' hR f H=>?_
 refine hR.E fun Y2 eu ho2 eA hy2=>?_
 subst eu eA
 simp (disch:=omega) only [go_sem,undef]
 exact ou qJj ho2 (hk1.trans (Kp.same hy2 (gV ..))) H
theorem cn {v:LdV} {x:Ld} (h:(vH (ldA v x) (coA cb Y C)).p m) (ho:Y.ok C) (hn:C.leads.length≤100000) (hn7:C.n≤7) (hout:C.out.length≤999000) :
  CM Tryz.prog YY [lp cb,lp v.b] m (vH (ldA v x) (coA cb Y C)) (CoR cb (C.jl x) (.tuple #[])):=CH (rS h ho hn hn7 hout)
end Go.Fw
namespace Go.Fw
open Go.Proofs
variable {m m0 M:Mem} {S:List Nat} {L:List As}
variable {cb:Nat} {Y:Ly} {C:Co}
theorem LdC.aL (c:LdC) (p:Int×Int) (w:Int) (f:Bool) (x:Cmd) (a:Att):lay c.cs [(0,2),(2,1),(5,1),(6,7),(13,8)] [.agg (pc p).toArray,.int .i64 w,.bool f,.agg x.cs.toArray,.agg a.cs.toArray]=some ({ c with id:=p,way:=w,first:=f,cmd:=x,att:=a }:LdC).cs:=rfl
theorem LdC.FQ (c:LdC) (p:Int×Int) (w:Int) (b:Int×Int) (x:Cmd) (a:Att):lay c.cs [(0,2),(2,1),(3,2),(6,7),(13,8)] [.agg (pc p).toArray,.int .i64 w,.agg (pc b).toArray,.agg x.cs.toArray,.agg a.cs.toArray]=some ({ c with id:=p,way:=w,bal:=b,cmd:=x,att:=a }:LdC).cs:=rfl
attribute [go_sem] LdC.aL LdC.FQ
def xa (i:Int×Int) (w:Int) (b:Int×Int) (f:Bool) (x:Cmd) (a:Att):Ld:=⟨i,w,b,f,x,a,Dp.zero,[],[],0,0⟩
theorem UK {b:Nat} {i:Int×Int} {w:Int} {bl:Int×Int} {f:Bool} {x:Cmd} {a:Att} (H:Hq m0 m S (qv b (.cells (LdC.mk i w bl f x a Dp.zero (.slice none 0 0) (.slice none 0 0) 0 0).cs.toArray qM (0,0))::L)) :
  Hq m0 m S (ldA ⟨b,.slice none 0 0,.slice none 0 0⟩ (xa i w bl f x a)::L):=by
 have H:=(H.yD qb 8).yD qE 22
 have H:Hq m0 m S ([qv b (.cells (LdC.mk i w bl f x a Dp.zero (.slice none 0 0) (.slice none 0 0) 0 0).cs.toArray qM (0,0)),qK qb 8 (.slice none 0 0) 0 [],qK qE 22 (.slice none 0 0) 0 []]++L) :=
  H.perm (List.Perm.append_right L (List.reverse_perm [qK qE 22 (.slice none 0 0) 0 [],qK qb 8 (.slice none 0 0) 0 [],qv b (.cells (LdC.mk i w bl f x a Dp.zero (.slice none 0 0) (.slice none 0 0) 0 0).cs.toArray qM (0,0))]))
 exact Hq.xq H
theorem xS (C:Co) (i:Int×Int) (x:Cel):(C.set i x).1.leads=C.leads∧(C.set i x).1.n=C.n∧(C.set i x).1.out=C.out∧(C.set i x).1.me=C.me:=by
 unfold Co.set
 split
 ·unfold Co.note
  split<;>exact ⟨rfl,rfl,rfl,rfl⟩
 ·exact ⟨rfl,rfl,rfl,rfl⟩
def Co.cD (C:Co) (x:Cmd) (i:Int×Int) (a:Att):Co×Value:=if xW a then (((C.set i ⟨1,(0,0),(0,0),x,a,true⟩).1).jl (xa i 0 (0,0) true x a),.tuple #[pv i,.bool true]) else (C,.tuple #[pv (0,0),.bool false])
abbrev prC:NC:=.seq (.seq Kn (.cond (.qq 55) (.seq Km .ret) .skip)) (.seq Kl (.seq Ki (.seq Kh .ret)))
theorem IN {C0:Co} {Y0:Ly} {E:Env} {b3 b4 b6 b7:Nat} {x:Cmd} {i:Int×Int} {a:Att} (ho:Y.ok C) (hrec:C.recs.length≤1000000) (hn:C.leads.length≤100000) (hn7:C.n≤7) (hout:C.out.length≤999000)
  (H:Hq m M (coA cb Y0 C0).wp [qv b7 (.cells a.cs.toArray qb (0,0)),qv b6 (.cells (pc i).toArray qa (0,0)),qv b4 (.cells (pc (0,0)).toArray qa (0,0)),qv b3 (.cells x.cs.toArray qB (0,0)),coA cb Y C])
  (e0:E.get 0=lp cb) (e3:E.get 3=lp b3) (e4:E.get 4=lp b4) (e6:E.get 6=lp b6) (e7:E.get 7=lp b7) (h0:E.has 0=true) (h3:E.has 3=true) (h4:E.has 4=true) (h6:E.has 6=true) (h7:E.has 7=true) :
  wpN Tryz.prog prC (vL [.cells 4 2,.qq 5] fun u M=>∃ A',CoR cb (C.cD x i a).1 (C.cD x i a).2 u A'∧A'.p M∧Fr m M (coA cb Y0 C0).wp∧(∀ b∈A'.fp,b∈(coA cb Y0 C0).fp∨m b=none)∧∀ b∈A'.wp,b∈(coA cb Y0 C0).wp∨m b=none) E M:=by
 by_cases hr:xW a
 ·have hp:C.cD x i a=(((C.set i ⟨1,(0,0),(0,0),x,a,true⟩).1).jl (xa i 0 (0,0) true x a),.tuple #[pv i,.bool true]):=if_pos hr
  rw [hp]
  have hss:=xS C i ⟨1,(0,0),(0,0),x,a,true⟩
  simp (disch:=omega) only [go_sem,undef,e0,e3,e4,e6,e7,h0,h3,h4,h6,h7,H.cs]
  refine qY H (zK a _) fun M f H=>?_
  simp (disch:=omega) only [go_sem,undef,e0,e3,e4,e6,e7,h0,h3,h4,h6,h7,H.cs,qX hr,Bool.not_true]
  refine zq 4 H (Xp (H.at 4 rfl) ho i ⟨1,(0,0),(0,0),x,a,true⟩ hrec) rfl fun u M A' hR f H=>?_
  refine hR.E fun Y1 eu ho1 eA=>?_
  subst eu eA
  generalize (C.set i ⟨1,(0,0),(0,0),x,a,true⟩).1=C1 at *
  have H:Hq m M (coA cb Y0 C0).wp [qv b7 (.cells a.cs.toArray qb (0,0)),qv b6 (.cells (pc i).toArray qa (0,0)),qv b4 (.cells (pc (0,0)).toArray qa (0,0)),qv b3 (.cells x.cs.toArray qB (0,0)),coA cb Y1 C1]:=H
  simp (disch:=omega) only [go_sem,undef,e0,e3,e4,e6,e7,h0,h3,h4,h6,h7,H.cs]
  refine qh H fun b9 M f H=>?_
  have H:=UK H
  have H:Hq m M (coA cb Y0 C0).wp (ldA ⟨b9,.slice none 0 0,.slice none 0 0⟩ (xa i 0 (0,0) true x a)::coA cb Y1 C1::[qv b6 (.cells (pc i).toArray qa (0,0)),qv b4 (.cells (pc (0,0)).toArray qa (0,0))]):=H.sel 6 [0,5,2,3] rfl (by decide) (by decide)
  have H:=Hq.join H
  simp (disch:=omega) only [go_sem,undef]
  refine jb H (cn (H.at 0 rfl) ho1 (by rw [hss.1];exact hn) (by rw [hss.2.1];exact hn7) (by rw [hss.2.2.1];exact hout)) fun u M A' hR f H=>?_
  refine hR.E fun Y2 eu ho2 eA=>?_
  subst eu eA
  simp (disch:=omega) only [go_sem,undef,H.cs]
  refine jU H rfl rfl fun M f H=>?_
  simp (disch:=omega) only [go_sem,undef,H.cs]
  exact qT qu ho2 (H.drop 1 |>.drop 1)
 ·have hp:C.cD x i a=(C,.tuple #[pv (0,0),.bool false]):=if_neg hr
  rw [hp]
  simp (disch:=omega) only [go_sem,undef,e0,e3,e4,e6,e7,h0,h3,h4,h6,h7,H.cs]
  refine qY H (zK a _) fun M f H=>?_
  simp (disch:=omega) only [go_sem,undef,e0,e3,e4,e6,e7,h0,h3,h4,h6,h7,H.cs,qZ hr,Bool.not_false]
  refine jU H rfl rfl fun M f H=>?_
  simp (disch:=omega) only [go_sem,undef,H.cs]
  exact qT qu ho (H.tail.tail.tail.tail)
end Go.Fw
namespace Go.Fw
open Go.Proofs
variable {m m0 M:Mem} {S:List Nat} {L:List As}
variable {cb:Nat} {Y:Ly} {C:Co}
theorem qjN {C0:Co} {Y0:Ly} {E:Env} {b3 b4 b6:Nat} {x:Cmd} {i:Int×Int} (ho:Y.ok C) (hx:x.right) (hxl:wo C.xl) (hrec:C.recs.length≤1000000) (hn:C.leads.length≤100000) (hn7:C.n≤7) (hout:C.out.length≤999000)
  (H:Hq m M (coA cb Y0 C0).wp [qv b6 (.cells (pc i).toArray qa (0,0)),qv b4 (.cells (pc (0,0)).toArray qa (0,0)),qv b3 (.cells x.cs.toArray qB (0,0)),coA cb Y C])
  (e0:E.get 0=lp cb) (e3:E.get 3=lp b3) (e4:E.get 4=lp b4) (e6:E.get 6=lp b6) (h0:E.has 0=true) (h3:E.has 3=true) (h4:E.has 4=true) (h6:E.has 6=true) :
  wpN Tryz.prog (.seq ja prC) (vL [.cells 4 2,.qq 5] fun u M=>∃ A',CoR cb (C.cD x i (zB C.xcut C.xl i x)).1 (C.cD x i (zB C.xcut C.xl i x)).2 u A'∧A'.p M∧Fr m M (coA cb Y0 C0).wp∧(∀ b∈A'.fp,b∈(coA cb Y0 C0).fp∨m b=none)∧∀ b∈A'.wp,b∈(coA cb Y0 C0).wp∨m b=none) E M:=by
 generalize hC:prC=T
 simp (disch:=omega) only [go_sem,undef,e0,e3,e4,e6,h0,h3,h4,h6,H.cs,qy (H.at 3 rfl),Ly.c]
 refine qI ?_ ?_
 ·simp (disch:=omega) only [go_sem,undef,e0,e3,e4,e6,h0,h3,h4,h6,H.cs,qy (H.at 3 rfl),Ly.c]
  refine qY H (Aw (Ak (H.at 3 rfl)) hxl i x (gy hx)) fun M f H=>?_
  simp (disch:=omega) only [go_sem,undef,e0,e3,e4,e6,h0,h3,h4,h6,H.cs,qy (H.at 3 rfl),Ly.c]
  refine qh H fun b7 M f H=>?_
  simp (disch:=omega) only [go_sem,undef,e0,e3,e4,e6,h0,h3,h4,h6,H.cs,qy (H.at 4 rfl),Ly.c]
  refine qs H rfl rfl fun M f H=>?_
  simp (disch:=omega) only [go_sem,undef,e0,e3,e4,e6,h0,h3,h4,h6,H.cs]
  subst hC
  exact IN ho hrec hn hn7 hout H rfl rfl rfl rfl rfl rfl rfl rfl rfl rfl
 ·simp (disch:=omega) only [go_sem,undef,e0,e3,e4,e6,h0,h3,h4,h6,H.cs,qy (H.at 3 rfl),Ly.c]
  refine qh H fun b7 M f H=>?_
  simp (disch:=omega) only [go_sem,undef,e0,e3,e4,e6,h0,h3,h4,h6,H.cs,qy (H.at 4 rfl),Ly.c]
  refine qY H (Aw (Ak (H.at 4 rfl)) hxl i x (gy hx)) fun M f H=>?_
  simp (disch:=omega) only [go_sem,undef,e0,e3,e4,e6,h0,h3,h4,h6,H.cs]
  refine qs H rfl rfl fun M f H=>?_
  simp (disch:=omega) only [go_sem,undef,e0,e3,e4,e6,h0,h3,h4,h6,H.cs]
  subst hC
  exact IN ho hrec hn hn7 hout H rfl rfl rfl rfl rfl rfl rfl rfl rfl rfl
def Co.next (C:Co):Int×Int:=((C.me:Nat),C.top.g C.me+1)
def Co.zm (C:Co) (x:Cmd):Co×Value:=if ¬ x.right∨x.kind=0∨C.next.2 > 1073741824∨256≤C.leads.length then (C,.tuple #[pv (0,0),.bool false]) else C.cD x C.next (zB C.xcut C.xl C.next x)
abbrev prA:NC:=.seq (.seq wh (.cond (.qq 44) (.seq wg .ret) .skip)) (.seq ja prC)
theorem IP {C0:Co} {Y0:Ly} {E:Env} {b3 b4 b6:Nat} {x:Cmd} (ho:Y.ok C) (hxl:wo C.xl) (hrec:C.recs.length≤1000000) (hn:C.leads.length≤100000) (hn7:C.n≤7) (hout:C.out.length≤999000)
  (H:Hq m M (coA cb Y0 C0).wp [qv b6 (.cells (pc C.next).toArray qa (0,0)),qv b4 (.cells (pc (0,0)).toArray qa (0,0)),qv b3 (.cells x.cs.toArray qB (0,0)),coA cb Y C])
  (e0:E.get 0=lp cb) (e3:E.get 3=lp b3) (e4:E.get 4=lp b4) (e6:E.get 6=lp b6) (h0:E.has 0=true) (h3:E.has 3=true) (h4:E.has 4=true) (h6:E.has 6=true) :
  wpN Tryz.prog prA (vL [.cells 4 2,.qq 5] fun u M=>∃ A',CoR cb (C.zm x).1 (C.zm x).2 u A'∧A'.p M∧Fr m M (coA cb Y0 C0).wp∧(∀ b∈A'.fp,b∈(coA cb Y0 C0).fp∨m b=none)∧∀ b∈A'.wp,b∈(coA cb Y0 C0).wp∨m b=none) E M:=by
 have hlen:=ho.lds
 refine Own.zA (gw (H.at 3 rfl)) fun a c hv=>?_
 rw [hlen] at hv
 by_cases hbad:¬ x.right∨x.kind=0∨C.next.2 > 1073741824∨256≤C.leads.length
 ·have hp:C.zm x=(C,.tuple #[pv (0,0),.bool false]):=if_pos hbad
  rw [hp]
  by_cases hx:x.right
  ·by_cases hk:x.kind=0
   ·simp (disch:=omega) only [go_sem,undef,e0,e3,e4,e6,h0,h3,h4,h6,H.cs]
    refine qY H (ju x _) fun M f H=>?_
    simp (disch:=omega) only [go_sem,undef,e0,e3,e4,e6,h0,h3,h4,h6,H.cs,qX hx,Bool.not_true,qX hk]
    refine zQ H rfl rfl fun M f H=>?_
    simp (disch:=omega) only [go_sem,undef,H.cs]
    exact qT qu ho (H.tail.tail.tail)
   ·by_cases hs:C.next.2 > 1073741824
    ·simp (disch:=omega) only [go_sem,undef,e0,e3,e4,e6,h0,h3,h4,h6,H.cs]
     refine qY H (ju x _) fun M f H=>?_
     simp (disch:=omega) only [go_sem,undef,e0,e3,e4,e6,h0,h3,h4,h6,H.cs,qX hx,Bool.not_true,qZ hk,qX hs]
     refine zQ H rfl rfl fun M f H=>?_
     simp (disch:=omega) only [go_sem,undef,H.cs]
     exact qT qu ho (H.tail.tail.tail)
    ·have hl:256≤C.leads.length:=((hbad.resolve_left (fun h=>h hx)).resolve_left hk).resolve_left hs
     simp (disch:=omega) only [go_sem,undef,e0,e3,e4,e6,h0,h3,h4,h6,H.cs]
     refine qY H (ju x _) fun M f H=>?_
     simp (disch:=omega) only [go_sem,undef,e0,e3,e4,e6,h0,h3,h4,h6,H.cs,qX hx,Bool.not_true,qZ hk,qZ hs,qy (H.at 3 rfl),Ly.c,hv,qX (show ((C.leads.length:Nat):Int)≥256 by omega)]
     refine zQ H rfl rfl fun M f H=>?_
     simp (disch:=omega) only [go_sem,undef,H.cs]
     exact qT qu ho (H.tail.tail.tail)
  ·simp (disch:=omega) only [go_sem,undef,e0,e3,e4,e6,h0,h3,h4,h6,H.cs]
   refine qY H (ju x _) fun M f H=>?_
   simp (disch:=omega) only [go_sem,undef,e0,e3,e4,e6,h0,h3,h4,h6,H.cs,qZ hx,Bool.not_false]
   refine zQ H rfl rfl fun M f H=>?_
   simp (disch:=omega) only [go_sem,undef,H.cs]
   exact qT qu ho (H.tail.tail.tail)
 ·have hp:C.zm x=C.cD x C.next (zB C.xcut C.xl C.next x):=if_neg hbad
  rw [hp]
  have hx:x.right:=Classical.byContradiction fun h=>hbad (.inl h)
  have hk:¬ x.kind=0:=fun h=>hbad (.inr (.inl h))
  have hs:¬ C.next.2 > 1073741824:=fun h=>hbad (.inr (.inr (.inl h)))
  have hl:¬ 256≤C.leads.length:=fun h=>hbad (.inr (.inr (.inr h)))
  show wpN Tryz.prog (.seq (.seq wh (.cond (.qq 44) (.seq wg .ret) .skip)) (.seq ja prC)) _ E M
  generalize hC:(NC.seq ja prC)=T
  simp (disch:=omega) only [go_sem,undef,e0,e3,e4,e6,h0,h3,h4,h6,H.cs]
  refine qY H (ju x _) fun M f H=>?_
  simp (disch:=omega) only [go_sem,undef,e0,e3,e4,e6,h0,h3,h4,h6,H.cs,qX hx,Bool.not_true,qZ hk,qZ hs,qy (H.at 3 rfl),Ly.c,hv,qZ (show ¬ ((C.leads.length:Nat):Int)≥256 by omega)]
  subst hC
  exact qjN ho hx hxl hrec hn hn7 hout H rfl rfl rfl rfl rfl rfl rfl rfl
theorem Mc:Qx=.seq Kr (.seq Ko prA):=rfl
theorem We (h:(coA cb Y C).p m) (ho:Y.ok C) (x:Cmd) (hk:∀ k∈zS C.lg,qN k) (htop:C.top.g C.me≤1073741824) (htop0:0≤C.top.g C.me) (hxl:wo C.xl) (hrec:C.recs.length≤1000000) (hn:C.leads.length≤100000) (hn7:C.n≤7) (hme:C.me < 7) (hout:C.out.length≤999000) :
  CM Tryz.prog ir [lp cb,x.v] m (coA cb Y C) (fun u A=>CoR cb (C.zm x).1 (C.zm x).2 u A):=by
 have H:=Hq.one h
 refine fH (by simp [Tryz.f33]) ?_
 rw [Mc]
 have htp:=tN (kP h) hk
 have hT:=fun M (hA:(coA cb Y C).p M)=>(tN (kP hA) hk).mono fun u M' ⟨⟨l',hp,e⟩,f⟩=>(⟨e.trans (congrArg Dp.v (IA C.cut hk hp.symm).symm),f⟩:u=C.top.v∧Fr M M' [])
 generalize hC:prA=T
 have hz:(pc (0,0))=[Value.int .i64 0,.int .i64 0]:=rfl
 simp (disch:=omega) only [go_sem,undef]
 refine qh H fun b3 M f H=>?_
 simp (disch:=omega) only [go_sem,undef]
 refine qh H fun b4 M f H=>?_
 simp (disch:=omega) only [go_sem,undef,qy (H.at 2 rfl),Ly.c]
 refine qI ?_ ?_
 ·simp (disch:=omega) only [go_sem,undef,qy (H.at 2 rfl),Ly.c]
  refine qY H (hT _ (H.at 2 rfl)) fun M f H=>?_
  simp (disch:=omega) only [go_sem,undef,qy (H.at 2 rfl),Ly.c]
  refine qh H fun b6 M f H=>?_
  simp (disch:=omega) only [go_sem,undef,qy (H.at 3 rfl),Ly.c]
  refine qs H rfl rfl fun M f H=>?_
  simp (disch:=omega) only [go_sem,undef]
  subst hC
  exact IP ho hxl hrec hn hn7 hout H rfl rfl rfl rfl rfl rfl rfl rfl
 ·simp (disch:=omega) only [go_sem,undef,qy (H.at 2 rfl),Ly.c]
  refine qh H fun b6 M f H=>?_
  simp (disch:=omega) only [go_sem,undef,qy (H.at 3 rfl),Ly.c]
  refine qY H (hT _ (H.at 3 rfl)) fun M f H=>?_
  simp (disch:=omega) only [go_sem,undef,qy (H.at 3 rfl),Ly.c]
  refine qs H rfl rfl fun M f H=>?_
  simp (disch:=omega) only [go_sem,undef]
  subst hC
  exact IP ho hxl hrec hn hn7 hout H rfl rfl rfl rfl rfl rfl rfl rfl
end Go.Fw
namespace Go.Fw
open Go.Proofs
variable {m m0 M:Mem} {S:List Nat} {L:List As}
variable {cb:Nat} {Y:Ly} {C:Co}
def Co.qA (C:Co):Co:={ C with recs:=[],out:=[] }
def DrR (cb:Nat) (C:Co) (u:Value) (A:As):Prop:=∃ (Y:Ly) (rv:Value) (rs:List Value) (ov:Value),Y.ok C.qA∧u=.tuple #[rv,ov]∧A=qP [coA cb Y C.qA,brA qC rv rs C.recs,qK qw 51 ov C.out.length (C.out.flatMap Lt.cs)]
theorem Ve (h:(coA cb Y C).p m) (ho:Y.ok C):CM Tryz.prog po [lp cb] m (coA cb Y C) (DrR cb C):=by
 have H:=Hq.co h
 obtain ⟨a,c,hv⟩:=(H.at 6 rfl:Own m qw 51 Y.ov C.out.length (C.out.flatMap Lt.cs)).form
 obtain ⟨a2,c2,hw⟩:=((H.at 5 rfl:(brA qC Y.rv Y.rs C.recs).p m).1).form
 refine oo (by simp [Tryz.f33]) ?_
 simp (disch:=omega) only [go_sem,undef,H.cs,Ly.c,hv,hw]
 refine zG H fun M f H=>?_
 simp (disch:=omega) only [go_sem,undef,H.cs]
 refine zG H fun M f H=>?_
 have H:=(H.yD qw 51).qzC qC
 have H:Hq m M (coA cb Y C).wp (coL cb { Y with rv:=.slice none 0 0,rs:=[],ov:=.slice none 0 0 } C.qA++[brA qC Y.rv Y.rs C.recs,qK qw 51 Y.ov C.out.length (C.out.flatMap Lt.cs)]):=H.sel 11 [2,3,4,5,6,0,1,9,10,7,8] rfl (by decide) (by decide)
 have H:=Hq.coJ H
 have H:Hq m M (coA cb Y C).wp [qP [coA cb { Y with rv:=.slice none 0 0,rs:=[],ov:=.slice none 0 0 } C.qA,brA qC Y.rv Y.rs C.recs,qK qw 51 Y.ov C.out.length (C.out.flatMap Lt.cs)]]:=Hq.xq (L:=[]) H
 have hfw:(qP [coA cb { Y with rv:=.slice none 0 0,rs:=[],ov:=.slice none 0 0 } C.qA,brA qC Y.rv Y.rs C.recs,qK qw 51 Y.ov C.out.length (C.out.flatMap Lt.cs)]).fp=(qP [coA cb { Y with rv:=.slice none 0 0,rs:=[],ov:=.slice none 0 0 } C.qA,brA qC Y.rv Y.rs C.recs,qK qw 51 Y.ov C.out.length (C.out.flatMap Lt.cs)]).wp:=Qy fun A hA=>by
  simp only [List.mem_cons,List.not_mem_nil,or_false] at hA
  rcases hA with rfl | rfl | rfl
  ·exact qu
  ·rfl
  ·rfl
 simp (disch:=omega) only [go_sem,undef]
 exact ⟨_,⟨{ Y with rv:=.slice none 0 0,rs:=[],ov:=.slice none 0 0 },Y.rv,Y.rs,Y.ov,⟨ho.lds,ho.wss,ho.wb⟩,by rw [hv,hw],rfl⟩,H.hs.1,H.fr,fun b hb=>by rw [qu];rw [hfw] at hb;exact H.done.2.2 b hb,H.done.2.2⟩
def Co.qwg (C:Co) (i:Int×Int) (was:Cel) (x:Cmd) (a:Att):Co :=
 if (C.set i ⟨3,was.pr,was.vo,x,a,false⟩).2=true then (C.set i ⟨3,was.pr,was.vo,x,a,false⟩).1.all { Lt.zero with kind:=5,inst:=i,cmd:=x,att:=a } Dp.zero else (C.set i ⟨3,was.pr,was.vo,x,a,false⟩).1
def Co.Qk (C:Co) (i:Int×Int) (x:Cmd) (a:Att):Co:=(C.qU i).qwg i ((lkC i C.lg).getD Cel.zero) x a
abbrev cmA:NC:=.seq Vv (.cond (.qq 31) Vk .skip)
theorem SY {C0:Co} {Y0:Ly} {E:Env} {b5 b6 b7 b8:Nat} {x:Cmd} {i:Int×Int} {a:Att} {was:Cel} (hk:Kp i Y0 C0 Y C) (ho:Y.ok C) (hrec:C.recs.length≤1000000) (hn7:C.n≤7) (hout:C.out.length≤999000)
  (H:Hq m M (coA cb Y0 C0).wp [qv b8 (.cells was.cs.toArray qd (0,0)),qv b7 (.cells a.cs.toArray qb (0,0)),qv b6 (.cells x.cs.toArray qB (0,0)),qv b5 (.cells (pc i).toArray qa (0,0)),coA cb Y C])
  (e0:E.get 0=lp cb) (e5:E.get 5=lp b5) (e6:E.get 6=lp b6) (e7:E.get 7=lp b7) (e8:E.get 8=lp b8) (h0:E.has 0=true) (h5:E.has 5=true) (h6:E.has 6=true) (h7:E.has 7=true) (h8:E.has 8=true) :
  wpN Tryz.prog cmA (vL [] fun u M=>∃ A',CoN cb Y0 C0 i (C.qwg i was x a) (.tuple #[]) u A'∧A'.p M∧Fr m M (coA cb Y0 C0).wp∧(∀ b∈A'.fp,b∈(coA cb Y0 C0).fp∨m b=none)∧∀ b∈A'.wp,b∈(coA cb Y0 C0).wp∨m b=none) E M:=by
 have hss:=xS C i ⟨3,was.pr,was.vo,x,a,false⟩
 have hc2:C.qwg i was x a=if (C.set i ⟨3,was.pr,was.vo,x,a,false⟩).2=true then (C.set i ⟨3,was.pr,was.vo,x,a,false⟩).1.all { Lt.zero with kind:=5,inst:=i,cmd:=x,att:=a } Dp.zero else (C.set i ⟨3,was.pr,was.vo,x,a,false⟩).1:=rfl
 rw [hc2]
 simp (disch:=omega) only [go_sem,undef,e0,e5,e6,e7,e8,h0,h5,h6,h7,h8,H.cs]
 refine zq 4 H (cm (H.at 4 rfl) ho i ⟨3,was.pr,was.vo,x,a,false⟩ hrec) rfl fun u M A' hR f H=>?_
 refine hR.E fun Y1 eu ho1 eA hy1=>?_
 subst eu eA
 clear hR hc2
 generalize C.set i ⟨3,was.pr,was.vo,x,a,false⟩=r at *
 obtain ⟨C1,ok⟩:=r
 have hk1:Kp i Y0 C0 Y1 C1:=hk.trans (Kp.same hy1 hss.1)
 have Hn:Hq m M (coA cb Y0 C0).wp [qv b8 (.cells was.cs.toArray qd (0,0)),qv b7 (.cells a.cs.toArray qb (0,0)),qv b6 (.cells x.cs.toArray qB (0,0)),qv b5 (.cells (pc i).toArray qa (0,0)),coA cb Y1 C1]:=H
 clear H
 cases ok with
 | true =>
  have H:=Hn
  simp (disch:=omega) only [go_sem,undef,e0,e5,e6,e7,e8,h0,h5,h6,h7,h8,H.cs]
  refine zq 4 H (qjJ (H.at 4 rfl) ho1 { Lt.zero with kind:=5,inst:=i,cmd:=x,att:=a } Dp.zero (Nat.le_trans (Nat.le_of_eq hss.2.1) hn7) (Nat.le_trans (Nat.le_of_eq (congrArg List.length hss.2.2.1)) hout)) rfl fun u M A' hR f H=>?_
  refine hR.E fun Y2 eu ho2 eA hy2=>?_
  subst eu eA
  simp (disch:=omega) only [go_sem,undef]
  exact ou qu ho2 (hk1.trans (Kp.same hy2 (gV ..))) (H.tail.tail.tail.tail)
 | false =>
  have H:=Hn
  simp (disch:=omega) only [go_sem,undef,e0,e5,e6,e7,e8,h0,h5,h6,h7,h8,H.cs]
  exact ou qu ho1 hk1 (H.tail.tail.tail.tail)
theorem SV:Zd=.seq VQ (.seq Vy (.seq Vw cmA)):=rfl
theorem my (h:(coA cb Y C).p m) (ho:Y.ok C) (i:Int×Int) (x:Cmd) (a:Att) (hrec:C.recs.length≤1000000) (hn:C.leads.length≤100000) (hn7:C.n≤7) (hout:C.out.length≤999000) :
  CM Tryz.prog VH [lp cb,pv i,x.v,a.v] m (coA cb Y C) (CoN cb Y C i (C.Qk i x a) (.tuple #[])):=by
 have H:=Hq.one h
 refine lK (by simp [Tryz.f33]) ?_
 rw [SV]
 generalize hC:cmA=T
 simp (disch:=omega) only [go_sem,undef]
 refine qh H fun b5 M f H=>?_
 simp (disch:=omega) only [go_sem,undef]
 refine qh H fun b6 M f H=>?_
 simp (disch:=omega) only [go_sem,undef]
 refine qh H fun b7 M f H=>?_
 simp (disch:=omega) only [go_sem,undef,H.cs]
 refine zq 3 H (Jl (H.at 3 rfl) ho i (by omega)) rfl fun u M A' hR f H=>?_
 refine hR.E fun Y1 eu ho1 eA hk1=>?_
 subst eu eA
 have H:Hq m M (coA cb Y C).wp [qv b7 (.cells a.cs.toArray qb (0,0)),qv b6 (.cells x.cs.toArray qB (0,0)),qv b5 (.cells (pc i).toArray qa (0,0)),coA cb Y1 (C.qU i)]:=H
 simp (disch:=omega) only [go_sem,undef,H.cs,qy (H.at 3 rfl),Ly.c]
 refine qI ?_ ?_
 ·simp (disch:=omega) only [go_sem,undef,H.cs,qy (H.at 3 rfl),Ly.c]
  refine qY H (zH (kP (H.at 3 rfl)) i) fun M f H=>?_
  simp (disch:=omega) only [go_sem,undef,H.cs,qy (H.at 3 rfl),Ly.c]
  refine qh H fun b8 M f H=>?_
  simp (disch:=omega) only [go_sem,undef,H.cs,qy (H.at 4 rfl),Ly.c]
  refine qs H rfl rfl fun M f H=>?_
  simp (disch:=omega) only [go_sem,undef]
  subst hC
  exact SY hk1 ho1 hrec hn7 hout H rfl rfl rfl rfl rfl rfl rfl rfl rfl rfl
 ·simp (disch:=omega) only [go_sem,undef,H.cs,qy (H.at 3 rfl),Ly.c]
  refine qh H fun b8 M f H=>?_
  simp (disch:=omega) only [go_sem,undef,H.cs,qy (H.at 4 rfl),Ly.c]
  refine qY H (zH (kP (H.at 4 rfl)) i) fun M f H=>?_
  simp (disch:=omega) only [go_sem,undef,H.cs,qy (H.at 4 rfl),Ly.c]
  refine qs H rfl rfl fun M f H=>?_
  simp (disch:=omega) only [go_sem,undef]
  subst hC
  exact SY hk1 ho1 hrec hn7 hout H rfl rfl rfl rfl rfl rfl rfl rfl rfl rfl
theorem mw (h:(coA cb Y C).p m) (ho:Y.ok C) (i:Int×Int) (x:Cmd) (a:Att) (hrec:C.recs.length≤1000000) (hn:C.leads.length≤100000) (hn7:C.n≤7) (hout:C.out.length≤999000) :
  CM Tryz.prog VH [lp cb,pv i,x.v,a.v] m (coA cb Y C) (CoR cb (C.Qk i x a) (.tuple #[])):=CH (my h ho i x a hrec hn hn7 hout)
end Go.Fw
namespace Go.Fw
open Go.Proofs
variable {m m0 M:Mem} {S:List Nat} {L:List As}
variable {cb:Nat} {Y:Ly} {C:Co}
def Co.IB (C:Co) (x:Lt) (was:Cel):Co:=if was.st=3 then C else ((C.qU x.inst).set x.inst ⟨3,was.pr,was.vo,x.cmd,x.att,false⟩).1
def Co.told (C:Co) (x:Lt):Co:=C.IB x ((lkC x.inst C.lg).getD Cel.zero)
abbrev tdA:NC:=.seq (.seq YC (.cond (.qq 18) .ret .skip)) (.seq YB YA)
theorem qkV {C0:Co} {Y0:Ly} {E:Env} {b3 b4:Nat} {x:Lt} {was:Cel} (ho:Y.ok C) (hrec:C.recs.length≤1000000) (hn:C.leads.length≤100000)
  (H:Hq m M (coA cb Y0 C0).wp [qv b4 (.cells was.cs.toArray qd (0,0)),qv b3 (.cells x.cs.toArray qw (0,0)),coA cb Y C])
  (e0:E.get 0=lp cb) (e3:E.get 3=lp b3) (e4:E.get 4=lp b4) (h0:E.has 0=true) (h3:E.has 3=true) (h4:E.has 4=true) :
  wpN Tryz.prog tdA (vL [] fun u M=>∃ A',CoR cb (C.IB x was) (.tuple #[]) u A'∧A'.p M∧Fr m M (coA cb Y0 C0).wp∧(∀ b∈A'.fp,b∈(coA cb Y0 C0).fp∨m b=none)∧∀ b∈A'.wp,b∈(coA cb Y0 C0).wp∨m b=none) E M:=by
 by_cases hs:was.st=3
 ·have ht:C.IB x was=C:=if_pos hs
  rw [ht]
  simp (disch:=omega) only [go_sem,undef,e0,e3,e4,h0,h3,h4,H.cs,qX hs]
  exact qT qu ho (H.tail.tail)
 ·have ht:C.IB x was=((C.qU x.inst).set x.inst ⟨3,was.pr,was.vo,x.cmd,x.att,false⟩).1:=if_neg hs
  rw [ht]
  simp (disch:=omega) only [go_sem,undef,e0,e3,e4,h0,h3,h4,H.cs,qZ hs]
  refine zq 2 H (Ji (H.at 2 rfl) ho x.inst (by omega)) rfl fun u M A' hR f H=>?_
  refine hR.E fun Y1 eu ho1 eA=>?_
  subst eu eA
  have H:Hq m M (coA cb Y0 C0).wp [qv b4 (.cells was.cs.toArray qd (0,0)),qv b3 (.cells x.cs.toArray qw (0,0)),coA cb Y1 (C.qU x.inst)]:=H
  simp (disch:=omega) only [go_sem,undef,e0,e3,e4,h0,h3,h4,H.cs]
  refine zq 2 H (Xp (H.at 2 rfl) ho1 x.inst ⟨3,was.pr,was.vo,x.cmd,x.att,false⟩ hrec) rfl fun u M A' hR f H=>?_
  refine hR.E fun Y2 eu ho2 eA=>?_
  subst eu eA
  simp (disch:=omega) only [go_sem,undef]
  exact qT qu ho2 (H.tail.tail)
theorem qjh:Xr=.seq YE (.seq YD tdA):=rfl
theorem RP (h:(coA cb Y C).p m) (ho:Y.ok C) (x:Lt) (hrec:C.recs.length≤1000000) (hn:C.leads.length≤100000) :
  CM Tryz.prog tr [lp cb,x.v] m (coA cb Y C) (CoR cb (C.told x) (.tuple #[])):=by
 have H:=Hq.one h
 refine rT (by simp [Tryz.f33]) ?_
 rw [qjh]
 generalize hC:tdA=T
 simp (disch:=omega) only [go_sem,undef]
 refine qh H fun b3 M f H=>?_
 simp (disch:=omega) only [go_sem,undef,H.cs,qy (H.at 1 rfl),Ly.c]
 refine qI ?_ ?_
 ·simp (disch:=omega) only [go_sem,undef,H.cs,qy (H.at 1 rfl),Ly.c]
  refine qY H (zH (kP (H.at 1 rfl)) x.inst) fun M f H=>?_
  simp (disch:=omega) only [go_sem,undef,H.cs,qy (H.at 1 rfl),Ly.c]
  refine qh H fun b4 M f H=>?_
  simp (disch:=omega) only [go_sem,undef,H.cs,qy (H.at 2 rfl),Ly.c]
  refine qs H rfl rfl fun M f H=>?_
  simp (disch:=omega) only [go_sem,undef]
  subst hC
  exact qkV ho hrec hn H rfl rfl rfl rfl rfl rfl
 ·simp (disch:=omega) only [go_sem,undef,H.cs,qy (H.at 1 rfl),Ly.c]
  refine qh H fun b4 M f H=>?_
  simp (disch:=omega) only [go_sem,undef,H.cs,qy (H.at 2 rfl),Ly.c]
  refine qY H (zH (kP (H.at 2 rfl)) x.inst) fun M f H=>?_
  simp (disch:=omega) only [go_sem,undef,H.cs,qy (H.at 2 rfl),Ly.c]
  refine qs H rfl rfl fun M f H=>?_
  simp (disch:=omega) only [go_sem,undef]
  subst hC
  exact qkV ho hrec hn H rfl rfl rfl rfl rfl rfl
end Go.Fw
