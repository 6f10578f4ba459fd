import Derived.Test.YtimedjfpihdffaaGreatCtX
import Derived.Test.YtimedjfpihdffaaGreatPk
import Derived.Test.YtimedjfpihdffaaGreatCdF
import Derived.Test.YtimedjfpihdffaaGreatFxB
set_option linter.unusedVariables false
set_option linter.unusedSimpArgs false
set_option maxHeartbeats 16000000
namespace Go.Fw
open Go.Proofs
theorem rcLen {i:Int×Int} {c:Cel} (h:c.right):(Xe i c).length≤2000:=by
 have n1:=qo i.1
 have n2:=qo i.2
 have n3:=qo c.st
 have n4:=qo c.pr.1
 have n5:=qo c.pr.2
 have n6:=qo c.vo.1
 have n7:=qo c.vo.2
 have n8:=zr h.2.2.2.2.2.2.2.1
 have n9:=qo c.att.seq
 have nd:(Wc c.att.deps 7).length≤70:=by
  have h0:=qo (c.att.deps.g 0)
  have h1:=qo (c.att.deps.g 1)
  have h2:=qo (c.att.deps.g 2)
  have h3:=qo (c.att.deps.g 3)
  have h4:=qo (c.att.deps.g 4)
  have h5:=qo (c.att.deps.g 5)
  have h6:=qo (c.att.deps.g 6)
  simp only [Wc,List.length_append,List.length_nil]
  omega
 have nf:(Le c.same).length≤1:=by unfold Le;split<;>simp
 unfold Xe bF qqB bF TK
 simp only [List.length_append]
 split
 ·simp;omega
 ·simp only [List.length_append];omega
theorem qvs {α:Type} [BEq α] [LawfulBEq α]:∀ (l r:List α),l.Nodup→(∀ x∈l,x∈r)→l.length≤r.length
 | [],_,_,_=>by simp
 | x::l,r,hn,hs=>by
  have hx:=hs x (List.mem_cons_self ..)
  obtain ⟨h1,h2⟩:=List.nodup_cons.1 hn
  have:=qvs l (r.erase x) h2 fun y hy=>(List.mem_erase_of_ne (fun e=>by subst e;exact h1 hy)).2 (hs y (List.mem_cons_of_mem _ hy))
  rw [List.length_erase_of_mem hx] at this
  have:=List.length_pos_of_mem hx
  simp only [List.length_cons];omega
theorem Ai {α β:Type} {f:α→β}:∀ {l:List α},(∀ x∈l,∀ y∈l,f x=f y→x=y)→l.Nodup→(l.map f).Nodup
 | [],_,_=>by simp
 | a::r,hf,hn=>by
  obtain ⟨h1,h2⟩:=List.nodup_cons.1 hn
  rw [List.map_cons]
  refine List.nodup_cons.2 ⟨fun hm=>?_,Ai (fun x hx y hy=>hf x (List.mem_cons_of_mem _ hx) y (List.mem_cons_of_mem _ hy)) h2⟩
  obtain ⟨y,hy,e⟩:=List.mem_map.1 hm
  have:=hf y (List.mem_cons_of_mem _ hy) a (List.mem_cons_self ..) e
  subst this
  exact h1 hy
theorem qQr {l:List (Int×Int)} (hn:l.Nodup) {k:Nat} (h:∀ p∈l,qN p∧p.2≤k):l.length≤7*k:=by
 let f:Int×Int→Nat:=fun p=>p.1.toNat*k+(p.2 - 1).toNat
 have h1:(l.map f).Nodup:=by
  refine Ai (fun x hx y hy e=>?_) hn
  have hx:=h x hx
  have hy:=h y hy
  have ex:x.1.toNat*k+(x.2 - 1).toNat=y.1.toNat*k+(y.2 - 1).toNat:=e
  have a1:(x.2 - 1).toNat < k:=by omega
  have a2:(y.2 - 1).toNat < k:=by omega
  have hk:0 < k:=by omega
  have e1:(x.1.toNat*k+(x.2 - 1).toNat) / k=x.1.toNat:=by rw [Nat.mul_comm,Nat.mul_add_div hk,Nat.div_eq_of_lt a1];omega
  have e2:(y.1.toNat*k+(y.2 - 1).toNat) / k=y.1.toNat:=by rw [Nat.mul_comm,Nat.mul_add_div hk,Nat.div_eq_of_lt a2];omega
  have e3:x.1.toNat=y.1.toNat:=by rw [← e1,← e2,ex]
  rw [e3] at ex
  exact Prod.ext (by omega) (by omega)
 have h2:=qvs (l.map f) (List.range (7*k)) h1 fun z hz=>by
  obtain ⟨p,hp,rfl⟩:=List.mem_map.1 hz
  have hp:=h p hp
  refine List.mem_range.2 (show p.1.toNat*k+(p.2 - 1).toNat < 7*k from ?_)
  have:p.1.toNat*k≤6*k:=Nat.mul_le_mul_right _ (by omega)
  omega
 rw [List.length_map,List.length_range] at h2
 exact h2
theorem uJ {a b:Att} {k:Int} (ha:a.seq≤k) (hb:b.seq≤k):(xL a b).seq≤k:=Int.max_le.2 ⟨ha,hb⟩
theorem Lb {k:Int}:∀ (l:List Att) (a:Att),a.seq≤k→(∀ b∈l,b.seq≤k)→(l.foldl xL a).seq≤k
 | [],a,h,_=>h
 | b::r,a,h,hl=>Lb r _ (uJ h (hl b (List.mem_cons_self ..))) fun c hc=>hl c (List.mem_cons_of_mem _ hc)
theorem qxi {k:Int} (h0:0≤k) {l:List Att} (hl:∀ b∈l,b.seq≤k):(xq l).seq≤k:=by
 cases l with
 | nil=>exact h0
 | cons a r=>exact Lb r a (hl a (List.mem_cons_self ..)) fun c hc=>hl c (List.mem_cons_of_mem _ hc)
theorem Ls {l:kR} {k:Int} (h0:0≤k) (h:∀ p∈l,p.2.seq≤k) (i:Int×Int) (c:Cmd):∀ (ks:List (Int×Int)) (a:Att),a.seq≤k+1→(ks.foldl (Vo l i c) a).seq≤k+1
 | [],a,ha=>ha
 | q::r,a,ha=>by
  refine Ls h0 h i c r _ ?_
  unfold Vo au
  split
  ·exact ha
  ·have hq:((lkN q l).getD qD.zero).seq≤k:=by
    cases e:lkN q l with
    | none=>exact h0
    | some z=>exact h _ (qzE e)
   exact Int.max_le.2 ⟨ha,by omega⟩
theorem gX {cut:Dp} {l:kR} {k:Int} (h0:0≤k) (h:∀ p∈l,p.2.seq≤k) (i:Int×Int) (c:Cmd):(zB cut l i c).seq≤k+1:=Ls h0 h i c _ _ (show (0:Int)≤k+1 by omega)
theorem qvX {n:Nat} {f late:Bool} {own:Att} {l:List Att} {k:Int} (h0:0≤k) (h:own.seq≤k) (hl:∀ b∈l,b.seq≤k):(Bk n f own l late).2.seq≤k:=by
 unfold Bk
 split
 ·exact h
 split
 ·exact h0
 ·exact qxi h0 fun b hb=>by
   rcases List.mem_cons.1 hb with rfl | hb
   ·exact h
   ·exact hl b hb
theorem DV {l:List Sd} {k:Int} (h0:0≤k) (hl:∀ s∈l,s.cel.att.seq≤k) (i:Int):(Sd.at l i).cel.att.seq≤k:=by
 unfold Sd.at
 cases e:l[i.toNat]? with
 | none=>exact h0
 | some s=>exact hl s (List.mem_of_getElem? e)
theorem qjP {n:Nat} {o:Int} {l:List Sd} {k:Int} (h0:0≤k) (hl:∀ s∈l,s.cel.att.seq≤k):(JP n o l).2.2.seq≤k:=by
 unfold JP
 split
 ·exact h0
 split
 ·rename_i s hs
  exact hl s (List.mem_of_find?_eq_some hs)
 ·split
  ·exact DV h0 hl _
  split
  ·exact h0
  split
  ·exact DV h0 hl _
  ·exact DV h0 hl _
theorem qxk (i:Int×Int):(Ah i).seq=0:=by unfold Ah;split<;>rfl
end Go.Fw
namespace Go.Fw
open Go.Proofs
structure LdB (k T:Int) (l:Ld):Prop where
 id:qN l.id
 sl:l.id.2≤k
 att:l.att.seq≤k
 reps:∀ a∈l.reps,a.seq≤k
 said:∀ s∈l.said,s.cel.att.seq≤k
 t0:0≤l.ticks
 t1:l.ticks≤T
structure LtC (k:Int) (y:Lt):Prop where
 att:y.att.seq≤k
 cel:y.cel.att.seq≤k
 sl:y.inst.2≤k
structure LtB (n:Nat) (k:Int) (y:Lt):Prop where
 c:LtC k y
 dst:∃ d:Nat,d < n∧y.dst=(d:Nat)
structure WsB (k T:Int) (w:Wsh):Prop where
 sl:w.id.2≤k
 t0:0≤w.ticks
 t1:w.ticks≤T
structure Inv (n i:Nat) (k T:Int) (base:List (List UInt8)) (C:Co):Prop where
 num:C.n=n
 who:C.me=i
 cut:C.cut=Dp.zero
 xcut:C.xcut=Dp.zero
 rl:(Co.jc n i Dp.zero (base++C.recs)).lg=C.lg
 rx:(Co.jc n i Dp.zero (base++C.recs)).xl=C.xl
 k0:0≤k
 t0:0≤T
 lg:∀ p∈C.lg,p.1.2≤k∧p.2.att.seq≤k
 xl:∀ p∈C.xl,p.2.seq≤k
 lds:∀ l∈C.leads,LdB k T l
 wsh:∀ w∈C.wishes,WsB k T w
 out:∀ y∈C.out,LtB n k y
 len:∀ b∈base++C.recs,b.length≤2000
theorem LtC.up {k k':Int} {y:Lt} (h:LtC k y) (hk:k≤k'):LtC k' y:=⟨Int.le_trans h.att hk,Int.le_trans h.cel hk,Int.le_trans h.sl hk⟩
theorem LtB.up {n:Nat} {k k':Int} {y:Lt} (h:LtB n k y) (hk:k≤k'):LtB n k' y:=⟨h.c.up hk,h.dst⟩
theorem LdB.up {k k' T T':Int} {l:Ld} (h:LdB k T l) (hk:k≤k') (hT:T≤T'):LdB k' T' l:=⟨h.id,Int.le_trans h.sl hk,Int.le_trans h.att hk,fun a ha=>Int.le_trans (h.reps a ha) hk,fun a ha=>Int.le_trans (h.said a ha) hk,h.t0,Int.le_trans h.t1 hT⟩
variable {n i:Nat} {k T:Int} {base:List (List UInt8)} {C:Co}
theorem Inv.up {k' T':Int} (h:Inv n i k T base C) (hk:k≤k') (hT:T≤T'):Inv n i k' T' base C :=
 ⟨h.num,h.who,h.cut,h.xcut,h.rl,h.rx,Int.le_trans h.k0 hk,Int.le_trans h.t0 hT,fun p hp=>⟨Int.le_trans (h.lg p hp).1 hk,Int.le_trans (h.lg p hp).2 hk⟩,fun p hp=>Int.le_trans (h.xl p hp) hk,fun l hl=>(h.lds l hl).up hk hT,fun w hw=>⟨Int.le_trans (h.wsh w hw).sl hk,(h.wsh w hw).t0,Int.le_trans (h.wsh w hw).t1 hT⟩,fun y hy=>(h.out y hy).up hk,h.len⟩
theorem bN:xH Dp.zero Dp.zero=Dp.zero:=by funext j;show max (0:Int) (min (max 0 0) 1073741824)=0;decide
theorem qyu (C:Co) (b:List UInt8):(C.rep b).cut=C.cut∧(C.rep b).xcut=C.xcut∧(C.rep b).n=C.n∧(C.rep b).me=C.me∧(C.rep b).leads=C.leads∧(C.rep b).wishes=C.wishes∧(C.rep b).wb=C.wb:=by
 unfold Co.rep Co.GG
 split
 ·unfold Co.note
  split<;>exact ⟨rfl,rfl,rfl,rfl,rfl,rfl,rfl⟩
 ·exact ⟨rfl,rfl,rfl,rfl,rfl,rfl,rfl⟩
theorem Pw:∀ (ls:List (List UInt8)) (C:Co),(ls.foldl Co.rep C).cut=C.cut∧(ls.foldl Co.rep C).xcut=C.xcut∧(ls.foldl Co.rep C).n=C.n∧(ls.foldl Co.rep C).me=C.me∧(ls.foldl Co.rep C).leads=C.leads∧(ls.foldl Co.rep C).wishes=C.wishes∧(ls.foldl Co.rep C).wb=C.wb
 | [],C=>⟨rfl,rfl,rfl,rfl,rfl,rfl,rfl⟩
 | b::r,C=>by
  have h1:=Pw r (C.rep b)
  have h2:=qyu C b
  exact ⟨h1.1.trans h2.1,h1.2.1.trans h2.2.1,h1.2.2.1.trans h2.2.2.1,h1.2.2.2.1.trans h2.2.2.2.1,h1.2.2.2.2.1.trans h2.2.2.2.2.1,h1.2.2.2.2.2.1.trans h2.2.2.2.2.2.1,h1.2.2.2.2.2.2.trans h2.2.2.2.2.2.2⟩
theorem eV (n i:Nat) (ls:List (List UInt8)):(Co.jc n i Dp.zero ls).cut=Dp.zero∧(Co.jc n i Dp.zero ls).xcut=Dp.zero∧(Co.jc n i Dp.zero ls).n=n∧(Co.jc n i Dp.zero ls).me=i∧(Co.jc n i Dp.zero ls).leads=[]∧(Co.jc n i Dp.zero ls).wishes=[]∧(Co.jc n i Dp.zero ls).wb=[]:=by
 have h:=Pw ls (Co.new n i Dp.zero)
 exact ⟨h.1.trans bN,h.2.1.trans bN,h.2.2.1,h.2.2.2.1,h.2.2.2.2.1,h.2.2.2.2.2.1,h.2.2.2.2.2.2⟩
theorem qxv (n i:Nat) (ls:List (List UInt8)) (b:List UInt8):Co.jc n i Dp.zero (ls++[b])=(Co.jc n i Dp.zero ls).rep b:=by unfold Co.jc;rw [List.foldl_append];rfl
theorem qyQ {q:Int×Int} {c:qD} {l:kR} {p:(Int×Int)×qD} (h:p∈upN q c l):p=(q,c)∨p∈l:=by
 unfold upN at h
 split at h
 ·obtain ⟨z,hz,e⟩:=List.mem_map.1 h
  split at e
  ·exact .inl e.symm
  ·subst e;exact .inr hz
 ·rcases List.mem_append.1 h with h | h
  ·exact .inr h
  ·exact .inl (List.mem_singleton.1 h)
theorem Inv.set (h:Inv n i k T base C) {p:Int×Int} {x:Cel} (hi:p.2≤k) (hx:x.att.seq≤k):Inv n i k T base (C.set p x).1:=by
 unfold Co.set
 by_cases hm:cJ C.cut C.lg p x
 ·rw [if_pos hm]
  have hr:=TO hm.1 hm.2.2.1
  have hnc:=eV n i (base++C.recs)
  have hst:Co.jc n i Dp.zero (base++(C.recs++[Xe p x]))=(Co.jc n i Dp.zero (base++C.recs)).rep (Xe p x):=by rw [← List.append_assoc];exact qxv ..
  have hrep:(Co.jc n i Dp.zero (base++C.recs)).rep (Xe p x)=({ Co.jc n i Dp.zero (base++C.recs) with lg:=upC p x (Co.jc n i Dp.zero (base++C.recs)).lg }:Co).note p x:=by
   unfold Co.rep Co.GG
   rw [hr]
   exact if_pos ⟨rfl,by rw [hnc.1,h.rl,← h.cut];exact hm⟩
  rw [hrep] at hst
  have hlen:∀ b∈base++(C.recs++[Xe p x]),b.length≤2000:=fun b hb=>by
   rw [← List.append_assoc] at hb
   rcases List.mem_append.1 hb with hb | hb
   ·exact h.len b hb
   ·rw [List.mem_singleton] at hb;subst hb;exact rcLen hm.2.2.1
  have hlg:∀ q∈upC p x C.lg,q.1.2≤k∧q.2.att.seq≤k:=fun q hq=>by
   rcases LL hq with rfl | hq
   ·exact ⟨hi,hx⟩
   ·exact h.lg q hq
  unfold Co.note at hst ⊢
  by_cases h0:x.st≠0
  ·rw [if_pos h0] at hst
   simp only [if_pos h0]
   refine ⟨h.num,h.who,h.cut,h.xcut,?_,?_,h.k0,h.t0,hlg,?_,h.lds,h.wsh,h.out,hlen⟩
   ·show (Co.jc n i Dp.zero (base++(C.recs++[Xe p x]))).lg=upC p x C.lg
    rw [hst]
    show upC p x (Co.jc n i Dp.zero (base++C.recs)).lg=_
    rw [h.rl]
   ·show (Co.jc n i Dp.zero (base++(C.recs++[Xe p x]))).xl=if ee C.xcut p x.cmd x.att.seq then upN p ⟨x.cmd,x.att.seq⟩ C.xl else C.xl
    rw [hst]
    show (if ee (Co.jc n i Dp.zero (base++C.recs)).xcut p x.cmd x.att.seq then upN p ⟨x.cmd,x.att.seq⟩ (Co.jc n i Dp.zero (base++C.recs)).xl else (Co.jc n i Dp.zero (base++C.recs)).xl)=_
    rw [h.rx,hnc.2.1,h.xcut]
   ·show ∀ q∈(if ee C.xcut p x.cmd x.att.seq then upN p ⟨x.cmd,x.att.seq⟩ C.xl else C.xl),q.2.seq≤k
    intro q hq
    split at hq
    ·rcases qyQ hq with rfl | hq
     ·exact hx
     ·exact h.xl q hq
    ·exact h.xl q hq
  ·rw [if_neg h0] at hst
   simp only [if_neg h0]
   refine ⟨h.num,h.who,h.cut,h.xcut,?_,?_,h.k0,h.t0,hlg,h.xl,h.lds,h.wsh,h.out,hlen⟩
   ·show (Co.jc n i Dp.zero (base++(C.recs++[Xe p x]))).lg=upC p x C.lg
    rw [hst]
    show upC p x (Co.jc n i Dp.zero (base++C.recs)).lg=_
    rw [h.rl]
   ·show (Co.jc n i Dp.zero (base++(C.recs++[Xe p x]))).xl=C.xl
    rw [hst]
    exact h.rx
 ·rw [if_neg hm];exact h
theorem Inv.rest (h:Inv n i k T base C) {C':Co} (e1:C'.n=C.n) (e2:C'.me=C.me) (e3:C'.cut=C.cut) (e4:C'.xcut=C.xcut) (e5:C'.recs=C.recs) (e6:C'.lg=C.lg) (e7:C'.xl=C.xl)
  (hl:∀ l∈C'.leads,LdB k T l) (hw:∀ w∈C'.wishes,WsB k T w) (ho:∀ y∈C'.out,LtB n k y):Inv n i k T base C' :=
 ⟨e1.trans h.num,e2.trans h.who,e3.trans h.cut,e4.trans h.xcut,by rw [e5,e6];exact h.rl,by rw [e5,e7];exact h.rx,h.k0,h.t0,by rw [e6];exact h.lg,by rw [e7];exact h.xl,hl,hw,ho,by rw [e5];exact h.len⟩
theorem Inv.send (h:Inv n i k T base C) {to:Int} {y:Lt} (hy:LtC k y) (ht:nQ n to):Inv n i k T base (C.send to y) :=
 h.rest rfl rfl rfl rfl rfl rfl rfl h.lds h.wsh fun z hz=>by
  rcases List.mem_append.1 (show z∈C.out++[{ y with src:=C.me,dst:=to }] from hz) with hz | hz
  ·exact h.out z hz
  ·rw [List.mem_singleton] at hz
   subst hz
   exact ⟨⟨hy.att,hy.cel,hy.sl⟩,to.toNat,by have:=ht.1;have:=ht.2;omega,by show to=_;have:=ht.1;omega⟩
theorem Inv.JL (h:Inv n i k T base C) {y:Lt} (hy:LtC k y) (ans:Dp):∀ j,j≤n→Inv n i k T base (C.JL y ans j)
 | 0,_=>h
 | j+1,hj=>by
  unfold Co.JL
  split
  ·exact (Inv.JL h hy ans j (by omega)).send hy ⟨by omega,by omega⟩
  ·exact Inv.JL h hy ans j (by omega)
theorem Inv.all (h:Inv n i k T base C) {y:Lt} (hy:LtC k y) (ans:Dp):Inv n i k T base (C.all y ans):=h.JL hy ans _ (Nat.le_of_eq h.num)
theorem Inv.qU (h:Inv n i k T base C) (p:Int×Int):Inv n i k T base (C.qU p) :=
 h.rest rfl rfl rfl rfl rfl rfl rfl (fun l hl=>h.lds l (List.mem_filter.1 hl).1) h.wsh h.out
theorem Inv.Qw (h:Inv n i k T base C) {l:Ld} (hl:LdB k T l):Inv n i k T base (C.Qw l) :=
 (h.qU l.id).rest rfl rfl rfl rfl rfl rfl rfl (fun y hy=>by
  rcases fo (show y∈zj _ _ l from hy) with rfl | hy
  ·exact hl
  ·exact (h.qU l.id).lds y hy) h.wsh h.out
theorem qJw (hk:0≤k) {l:Ld} (hl:LdB k T l):LtC k l.ask:=by
 unfold Ld.ask
 split
 ·exact ⟨hl.att,hk,hl.sl⟩
 split
 ·exact ⟨hl.att,hk,hl.sl⟩
 ·exact ⟨hk,hk,hl.sl⟩
theorem Inv.jl (h:Inv n i k T base C) {l:Ld} (hl:LdB k T l):Inv n i k T base (C.jl l):=(h.Qw hl).all (qJw h.k0 hl) _
theorem MB (hT:0≤T) {p:Int×Int} (hp:qN p) (hk:p.2≤k) {w:Int} {b:Int×Int} {f:Bool} {x:Cmd} {a:Att} (ha:a.seq≤k):LdB k T (xa p w b f x a) :=
 ⟨hp,hk,ha,by simp [xa],by simp [xa],Int.le_refl _,hT⟩
theorem Inv.Qk (h:Inv n i k T base C) {p:Int×Int} {x:Cmd} {a:Att} (hp:p.2≤k) (ha:a.seq≤k):Inv n i k T base (C.Qk p x a):=by
 unfold Co.Qk Co.qwg
 have h1:=(h.qU p).set (p:=p) (x:=⟨3,((lkC p C.lg).getD Cel.zero).pr,((lkC p C.lg).getD Cel.zero).vo,x,a,false⟩) hp ha
 split
 ·exact h1.all ⟨ha,h.k0,hp⟩ _
 ·exact h1
theorem Inv.accept (h:Inv n i k T base C) {l:Ld} (hr:qN l.id) (hp:l.id.2≤k) {x:Cmd} {a:Att} (ha:a.seq≤k):Inv n i k T base (C.accept l x a):=by
 unfold Co.accept
 have h1:=h.set (p:=l.id) (x:=⟨2,l.bal,l.bal,x,a,false⟩) hp ha
 split
 ·split
  ·exact h1.jl (MB h.t0 hr hp ha)
  ·exact h1.qU _
 ·exact h.qU _
theorem Inv.again (h:Inv n i k T base C) {l:Ld} (hr:qN l.id) (hp:l.id.2≤k) {x:Cmd} {a:Att} (ha:a.seq≤k):Inv n i (k+1) T base (C.again l x a):=by
 have hk:=h.k0
 have hs:(xL a (zB C.xcut C.xl l.id x)).seq≤k+1:=uJ (by omega) (gX hk h.xl _ _)
 have h:=h.up (show k≤k+1 by omega) (Int.le_refl T)
 unfold Co.again Co.oB
 generalize xL a (zB C.xcut C.xl l.id x)=a at *
 have h1:=h.set (p:=l.id) (x:=⟨1,l.bal,l.bal,x,a,false⟩) (by omega) hs
 split
 ·split
  ·exact h1.jl (MB h.t0 hr (by omega) hs)
  ·exact h1.qU _
 ·exact h.qU _
theorem Inv.vF (h:Inv n i k T base C) {l:Ld} (hl:LdB k T l) (late:Bool):Inv n i k T base (C.vF l late).1:=by
 have hq:(Bk C.n l.first l.att l.reps late).2.seq≤k:=qvX h.k0 hl.att hl.reps
 unfold Co.vF Co.Ku
 split
 ·exact h.Qk hl.sl hq
 split
 ·exact h.accept hl.id hl.sl hq
 ·exact h
theorem Inv.Qe (h:Inv n i k T base C) {l:Ld} (hl:LdB k T l):Inv n i (k+1) T base (C.Qe l):=by
 have hk:=h.k0
 have hq:(JP C.n l.id.1 l.said).2.2.seq≤k:=qjP hk hl.said
 have h1:=h.up (show k≤k+1 by omega) (Int.le_refl T)
 have hsl:=hl.sl
 unfold Co.Qe Co.YQ
 split
 ·exact h1.Qk (by omega) (by omega)
 split
 ·exact h1.accept hl.id (by omega) (by omega)
 split
 ·exact h1.accept hl.id (by omega) (by rw [qxk];omega)
 split
 ·exact h.again hl.id hl.sl hq
 ·exact h1
theorem Inv.put (h:Inv n i k T base C) (j:Nat) {l:Ld} (hl:LdB k T l):Inv n i k T base (C.put j l) :=
 h.rest rfl rfl rfl rfl rfl rfl rfl (fun y hy=>by
  rcases List.mem_or_eq_of_mem_set hy with e | e
  ·exact h.lds y e
  ·subst e;exact hl) h.wsh h.out
theorem Inv.tK (h:Inv n i k T base C) {j:Nat} {l:Ld} (hl:LdB k T l) {x:Lt} (hx:LtC k x) (q:Nat):Inv n i (k+1) T base (C.tK j l x q):=by
 have hk:k≤k+1:=by omega
 have hh:LdB k T (l.heard q):=⟨hl.id,hl.sl,hl.att,hl.reps,hl.said,hl.t0,hl.t1⟩
 unfold Co.tK
 split
 ·have hr:LdB k T ((l.heard q).pk x.att):=⟨hl.id,hl.sl,hl.att,fun a ha=>by
   rcases List.mem_append.1 (show a∈l.reps++[x.att] from ha) with ha | ha
   ·exact hl.reps a ha
   ·rw [List.mem_singleton] at ha;subst ha;exact hx.att,hl.said,hl.t0,hl.t1⟩
  exact ((h.put j hr).vF hr false).up hk (Int.le_refl T)
 split
 ·split
  ·exact ((h.put j hh).Qk hl.sl hl.att).up hk (Int.le_refl T)
  ·exact (h.put j hh).up hk (Int.le_refl T)
 ·have hs:LdB k T ((l.heard q).oT ⟨q,x.cel⟩):=⟨hl.id,hl.sl,hl.att,hl.reps,fun a ha=>by
   rcases List.mem_append.1 (show a∈l.said++[⟨q,x.cel⟩] from ha) with ha | ha
   ·exact hl.said a ha
   ·rw [List.mem_singleton] at ha;subst ha;exact hx.cel,hl.t0,hl.t1⟩
  exact (h.put j hs).Qe hs
theorem Inv.kJ (h:Inv n i k T base C) {x:Lt} (hx:LtC k x):Inv n i (k+1) T base (C.kJ x):=by
 have h1:=h.up (show k≤k+1 by omega) (Int.le_refl T)
 unfold Co.kJ
 cases fdL x.inst C.leads with
 | none=>exact h1
 | some j =>
  cases e:C.leads[j]? with
  | none=>simp only [Co.Tb,e];exact h1
  | some l =>
   simp only [Co.Tb,e]
   split
   ·exact h1
   split
   ·exact h1
   ·exact h.tK (h.lds l (List.mem_of_getElem? e)) hx _
theorem qwB (h:Inv n i k T base C) (p:Int×Int):((lkC p C.lg).getD Cel.zero).att.seq≤k:=by
 cases e:lkC p C.lg with
 | none=>exact h.k0
 | some c=>exact (h.lg _ (Cu e)).2
theorem Inv.Hv (h:Inv n i k T base C) {x:Lt} (hs:x.inst.2≤k) (ho:nQ n x.src) {a:Att} (ha:a.seq≤k):Inv n i k T base (C.Hv x a):=by
 unfold Co.Hv
 have h1:=h.set (p:=x.inst) (x:=⟨1,x.bal,x.bal,x.cmd,a,decide (x.bal=(0,0)∧a=x.att)⟩) hs ha
 split
 ·split
  ·exact h1.send ⟨ha,h.k0,hs⟩ ho
  ·exact h1
 ·exact h
theorem Inv.pre (h:Inv n i k T base C) {x:Lt} (hx:LtC k x) (ho:nQ n x.src) {c:Cel} (hc:c.att.seq≤k) (own:Bool):Inv n i (k+1) T base (C.pre x c own):=by
 have hk:=h.k0
 have h1:=h.up (show k≤k+1 by omega) (Int.le_refl T)
 have hsl:=hx.sl
 have hat:=hx.att
 unfold Co.pre
 split
 ·split
  ·exact h1.send ⟨by show c.att.seq≤k+1;omega,h1.k0,by show x.inst.2≤k+1;omega⟩ ho
  ·exact h1
 ·exact h1.Hv (by omega) ho (uJ (by omega) (gX hk h.xl _ _))
theorem Inv.Ir (h:Inv n i k T base C) {x:Lt} (hx:LtC k x) (ho:nQ n x.src) (d:Bool):Inv n i k T base (C.Ir x d):=by
 unfold Co.Ir
 have h1:=h.set (p:=x.inst) (x:=⟨2,x.bal,x.bal,x.cmd,x.att,false⟩) hx.sl hx.att
 have hy:LtC k (TY x):=⟨h.k0,h.k0,hx.sl⟩
 split
 ·exact h.send hy ho
 split
 ·exact h1.send hy ho
 ·exact h1
theorem Inv.Hx (h:Inv n i k T base C) {x:Lt} (hx:LtC k x) (ho:nQ n x.src) {c:Cel} (hc:c.att.seq≤k):Inv n i k T base (C.Hx x c):=by
 unfold Co.Hx
 have h1:=h.set (p:=x.inst) (x:={ c with pr:=x.bal }) hx.sl hc
 split
 ·exact h.send ⟨h.k0,hc,hx.sl⟩ ho
 split
 ·exact h1.send ⟨h.k0,hc,hx.sl⟩ ho
 ·exact h1
theorem Inv.bH (h:Inv n i k T base C) (p b:Int×Int):Inv n i k T base (C.bH p b):=by
 unfold Co.bH
 split
 ·split
  ·split
   ·exact h.qU _
   ·exact h
  ·exact h
 ·exact h
theorem Inv.asked (h:Inv n i k T base C) {x:Lt} (hx:LtC k x) (ho:nQ n x.src):Inv n i (k+1) T base (C.asked x):=by
 have hc:=qwB h x.inst
 have hk:=h.k0
 have h1:=h.up (show k≤k+1 by omega) (Int.le_refl T)
 have hx1:=hx.up (show k≤k+1 by omega)
 unfold Co.asked
 generalize (lkC x.inst C.lg).getD Cel.zero=c at *
 unfold Co.Od
 split
 ·exact h1.send ⟨by show c.att.seq≤k+1;omega,h1.k0,hx1.sl⟩ ho
 split
 ·exact h1.send ⟨h1.k0,h1.k0,hx1.sl⟩ ho
 have hy:=h.bH x.inst x.bal
 have hy1:=hy.up (show k≤k+1 by omega) (Int.le_refl T)
 unfold Co.tJ
 split
 ·exact hy.pre hx ho hc _
 split
 ·exact hy1.Ir hx1 ho _
 split
 ·exact hy1.Hx hx1 ho (by omega)
 ·exact hy1
theorem Inv.told (h:Inv n i k T base C) {x:Lt} (hx:LtC k x):Inv n i k T base (C.told x):=by
 unfold Co.told Co.IB
 split
 ·exact h
 ·exact (h.qU _).set hx.sl hx.att
theorem Inv.want (h:Inv n i k T base C) (b:Nat) {p:Int×Int} (hp:p.2≤k):Inv n i k T base (C.want b p):=by
 unfold Co.want
 split
 ·exact h.rest rfl rfl rfl rfl rfl rfl rfl h.lds (fun w hw=>by
   rcases fo (show w∈zj _ _ _ from hw) with rfl | hw
   ·exact ⟨hp,Int.le_refl _,h.t0⟩
   ·exact h.wsh w hw) h.out
 ·exact h
theorem Inv.xf (h:Inv n i k T base C) (j:Nat) {w:Wsh} (hw:WsB k T w):Inv n i k T base (C.xf j w) :=
 h.rest rfl rfl rfl rfl rfl rfl rfl h.lds (fun y hy=>by
  rcases List.mem_or_eq_of_mem_set hy with e | e
  ·exact h.wsh y e
  ·subst e;exact hw) h.out
theorem Inv.refused (h:Inv n i k T base C) (b:Nat) {x:Lt} (hx:LtC k x):Inv n i k T base (C.refused b x):=by
 unfold Co.refused
 cases fdL x.inst C.leads with
 | none=>exact h
 | some j =>
  cases e:C.leads[j]? with
  | none=>simp only [Co.PQ,e];exact h
  | some l =>
   simp only [Co.PQ,e]
   split
   ·unfold Co.qkR
    have h1:=(h.qU x.inst).want b hx.sl
    generalize (C.qU x.inst).want b x.inst=C1 at *
    cases fdW x.inst C1.wishes with
    | none=>exact h1
    | some q =>
     cases e2:C1.wishes[q]? with
     | none=>simp only [Co.MK,e2];exact h1
     | some w =>
      simp only [Co.MK,e2]
      have hw:=h1.wsh w (List.mem_of_getElem? e2)
      exact h1.xf q ⟨hw.sl,Int.le_refl _,h1.t0⟩
   ·exact h
theorem Inv.take (h:Inv n i k T base C) (b:Nat) {x:Lt} (hx:LtC k x):Inv n i (k+1) T base (C.take b x).1:=by
 have h1:=h.up (show k≤k+1 by omega) (Int.le_refl T)
 have hx1:=hx.up (show k≤k+1 by omega)
 unfold Co.take
 split
 ·exact h1
 rename_i hb
 have ho:nQ n x.src:=by rw [← h.num];exact Classical.byContradiction fun e=>hb (.inr (.inr (.inl e)))
 split
 ·exact h1
 show Inv n i (k+1) T base (C.XE b x)
 unfold Co.XE
 split
 ·exact h.asked hx ho
 split
 ·exact h1.told hx1
 split
 ·exact h1.refused b hx1
 ·exact h.kJ hx
end Go.Fw
namespace Go.Fw
open Go.Proofs
variable {n i:Nat} {k T:Int} {base:List (List UInt8)} {C:Co}
theorem qzZ {k:Int}:∀ (l:List (Int×Int)) (d:Dp) (r:Nat),r < 7→d.g r≤k→(∀ p∈l,p.2≤k)→(Dy d l).g r≤k
 | [],d,r,_,h,_=>h
 | p::l,d,r,hr,h,hl=>by
  refine qzZ l (Dp.up d p.1.toNat (max (d.g p.1.toNat) p.2)) r hr ?_ fun q hq=>hl q (List.mem_cons_of_mem _ hq)
  have hp:=hl p (List.mem_cons_self ..)
  by_cases e:r=p.1.toNat
  ·subst e
   rw [show (Dp.up d p.1.toNat (max (d.g p.1.toNat) p.2)).g p.1.toNat=max (d.g p.1.toNat) p.2 by simp [Dp.g,hr,Dp.up]]
   exact Int.max_le.2 ⟨h,hp⟩
  ·rw [show (Dp.up d p.1.toNat (max (d.g p.1.toNat) p.2)).g r=d.g r by simp [Dp.g,hr,Dp.up,e]]
   exact h
theorem qzJ {k:Int}:∀ (l:List (Int×Int)) (d:Dp) (r:Nat),r < 7→k≤d.g r→k≤(Dy d l).g r
 | [],d,r,_,h=>h
 | p::l,d,r,hr,h=>by
  refine qzJ l (Dp.up d p.1.toNat (max (d.g p.1.toNat) p.2)) r hr ?_
  by_cases e:r=p.1.toNat
  ·subst e
   rw [show (Dp.up d p.1.toNat (max (d.g p.1.toNat) p.2)).g p.1.toNat=max (d.g p.1.toNat) p.2 by simp [Dp.g,hr,Dp.up]]
   exact Int.le_trans h (Int.le_max_left ..)
  ·rw [show (Dp.up d p.1.toNat (max (d.g p.1.toNat) p.2)).g r=d.g r by simp [Dp.g,hr,Dp.up,e]]
   exact h
theorem qxU (r:Nat):Dp.zero.g r=0:=by unfold Dp.g;split<;>rfl
theorem Inv.top (h:Inv n i k T base C) (r:Nat) (hr:r < 7):0≤C.top.g r∧C.top.g r≤k:=by
 unfold Co.top
 rw [h.cut]
 refine ⟨qzJ _ _ _ hr (by rw [qxU];exact Int.le_refl _),qzZ _ _ _ hr (by rw [qxU];exact h.k0) fun p hp=>?_⟩
 obtain ⟨q,hq,rfl⟩:=List.mem_map.1 hp
 exact (h.lg q hq).1
theorem Inv.zm (h:Inv n i k T base C) (hi:i < 7) (x:Cmd):Inv n i (k+1) T base (C.zm x).1:=by
 have h1:=h.up (show k≤k+1 by omega) (Int.le_refl T)
 have ht:=h.top i hi
 have hnx:C.next=(((i:Nat):Int),C.top.g i+1):=by unfold Co.next;rw [h.who]
 unfold Co.zm
 split
 ·exact h1
 ·rename_i hb
  have hs:(zB C.xcut C.xl C.next x).seq≤k+1:=gX h.k0 h.xl _ _
  have hr:qN C.next:=by
   have:¬ C.next.2 > 1073741824:=fun e=>hb (.inr (.inr (.inl e)))
   rw [hnx] at this ⊢
   have this:¬ C.top.g i+1 > 1073741824:=this
   exact ⟨by show (0:Int)≤(i:Nat);omega,by show ((i:Nat):Int) < 7;omega,by show 1≤C.top.g i+1;omega,by show C.top.g i+1≤1073741824;omega⟩
  have hsl:C.next.2≤k+1:=by rw [hnx];show C.top.g i+1≤k+1;omega
  generalize zB C.xcut C.xl C.next x=a at *
  unfold Co.cD
  split
  ·exact (h1.set hsl hs).jl (MB h1.t0 hr hsl hs)
  ·exact h1
theorem Inv.recover (h:Inv n i k T base C) {p:Int×Int} (hp:p.2≤k):Inv n i k T base (C.recover p).1:=by
 unfold Co.recover
 split
 ·exact h
 ·rename_i hb
  have hr:qN p:=(Classical.byContradiction fun e=>hb (.inl e):C.opn p).1
  have hs:(C.at p).att.seq≤k:=qwB h p
  unfold Co.mc
  split
  ·have h1:=h.set (p:=p) (x:={ C.at p with pr:=((C.bas p).1+1,(C.me:Nat)) }) hp hs
   split
   ·refine h1.jl ⟨hr,hp,h.k0,by simp [XH,xa],fun s hs2=>?_,Int.le_refl _,h.t0⟩
    rw [show (XH p C.me { C.at p with pr:=((C.bas p).1+1,(C.me:Nat)) }).said=[⟨(C.me:Nat),{ C.at p with pr:=((C.bas p).1+1,(C.me:Nat)) }⟩] from rfl,List.mem_singleton] at hs2
    subst hs2
    exact hs
   ·exact h1
  ·exact h
theorem Inv.Qv (h:Inv n i k T base C) (p:Int×Int):Inv n i k (T+1) base (C.Qv p):=by
 have h1:=h.up (Int.le_refl k) (show T≤T+1 by omega)
 unfold Co.Qv
 cases fdL p C.leads with
 | none=>exact h1
 | some q =>
  cases e:C.leads[q]? with
  | none=>simp only [e];exact h1
  | some l =>
   simp only [e]
   have hl:=h.lds l (List.mem_of_getElem? e)
   have ht0:=hl.t0
   have ht1:=hl.t1
   have hl2:LdB k (T+1) l.tick:=⟨hl.id,hl.sl,hl.att,hl.reps,hl.said,by show 0≤l.ticks+1;omega,by show l.ticks+1≤T+1;omega⟩
   have h2:=h1.put q hl2
   unfold Co.dD
   split
   ·exact h2
   split
   ·exact h2.vF hl2 true
   ·exact h2.all (qJw h2.k0 hl2) _
theorem Inv.qZM:∀ (ids:List (Int×Int)) {T:Int} {C:Co},Inv n i k T base C→Inv n i k (T+ids.length) base (ids.foldl Co.Qv C)
 | [],T,C,h=>by simpa using h
 | p::r,T,C,h=>by
  have:=Inv.qZM r (h.Qv p)
  rw [show T+((p::r).length:Nat)=T+1+(r.length:Nat) by simp;omega]
  exact this
theorem Inv.jq (h:Inv n i k T base C):Inv n i k (T+C.leads.length) base C.jq:=by
 have:=h.qZM (C.leads.map Ld.id)
 rw [List.length_map] at this
 exact this
theorem Inv.keys (h:Inv n i k T base C) {p:Int×Int} (hp:p∈zS C.lg):p.2≤k:=by
 obtain ⟨q,hq,rfl⟩:=List.mem_map.1 hp
 exact (h.lg q hq).1
theorem Inv.kS:∀ (l:List ((Int×Int)×Nat)) {C:Co},Inv n i k T base C→(∀ p∈l,p.1.2≤k)→Inv n i k T base (l.foldl (fun C p=>C.Jw p.2 p.1) C)
 | [],C,h,_=>h
 | p::r,C,h,hl=>by
  refine Inv.kS r ?_ fun q hq=>hl q (List.mem_cons_of_mem _ hq)
  show Inv n i k T base (C.Jw p.2 p.1)
  unfold Co.Jw
  split
  ·exact h.want _ (hl p (List.mem_cons_self ..))
  ·exact h
theorem Inv.ZF (h:Inv n i k T base C) (p:Int×Int):Inv n i k (T+1) base (C.ZF p):=by
 have h1:=h.up (Int.le_refl k) (show T≤T+1 by omega)
 unfold Co.ZF
 cases fdW p C.wishes with
 | none=>exact h1
 | some q =>
  cases e:C.wishes[q]? with
  | none=>simp only [e];exact h1
  | some w =>
   simp only [e]
   have hw:=h.wsh w (List.mem_of_getElem? e)
   have ht0:=hw.t0
   have ht1:=hw.t1
   split
   ·exact h1.rest rfl rfl rfl rfl rfl rfl rfl h1.lds (fun y hy=>h1.wsh y ((List.eraseIdx_sublist _ _).subset hy)) h1.out
   split
   ·exact h1
   ·have hw2:WsB k (T+1) w.tick:=⟨hw.sl,by show 0≤w.ticks+1;omega,by show w.ticks+1≤T+1;omega⟩
    have h2:=h1.xf q hw2
    unfold Co.AX
    split
    ·exact (h2.recover hw.sl).xf q ⟨hw.sl,Int.le_refl _,h1.t0⟩
    ·exact h2
theorem Inv.qZL:∀ (ids:List (Int×Int)) {T:Int} {C:Co},Inv n i k T base C→Inv n i k (T+ids.length) base (ids.foldl Co.ZF C)
 | [],T,C,h=>by simpa using h
 | p::r,T,C,h=>by
  have:=Inv.qZL r (h.ZF p)
  rw [show T+((p::r).length:Nat)=T+1+(r.length:Nat) by simp;omega]
  exact this
theorem qxR {α β:Type} {l:List α} {r:List β} {p:α×β} (h:p∈l.zip r):p.1∈l:=(List.of_mem_zip (a:=p.1) (b:=p.2) h).1
theorem Inv.qJn (h:Inv n i k T base C) (l:List (Int×Int)) (bs:List Nat) (hl:∀ p∈l,p.2≤k):Inv n i k (T+C.leads.length) base (C.jq.kS l bs) :=
 Inv.kS (l.zip bs) h.jq fun p hp=>hl p.1 (qxR hp)
theorem Inv.oH (h:Inv n i k T base C) (hok:C.Ok) {l:List (Int×Int)} {bs:List Nat} (hl:l.Perm (zS C.jq.lg)):Inv n i k (T+C.leads.length+256) base (C.oH l bs):=by
 have h1:=h.jq
 have h2:=h.qJn l bs fun p hp=>h1.keys (hl.subset hp)
 have h3:=h2.qZL ((C.jq.kS l bs).wishes.map Wsh.id)
 rw [List.length_map] at h3
 have hk1:=ar (C.leads.map Ld.id) C (by have:=hok.n;omega)
 have hk2:=dE (l.zip bs) C.jq
 have hw:(C.jq.kS l bs).wishes.length≤256:=(hk2.ok (hk1.ok hok)).wishes
 exact h3.up (Int.le_refl k) (by omega)
theorem Inv.qA (h:Inv n i k T base C):Inv n i k T (base++C.recs) C.qA :=
 ⟨h.num,h.who,h.cut,h.xcut,by show (Co.jc n i Dp.zero (base++C.recs++[])).lg=C.lg;rw [List.append_nil];exact h.rl,by show (Co.jc n i Dp.zero (base++C.recs++[])).xl=C.xl;rw [List.append_nil];exact h.rx,h.k0,h.t0,h.lg,h.xl,h.lds,h.wsh,by simp [Co.qA],by show ∀ b∈base++C.recs++[],b.length≤2000;rw [List.append_nil];exact h.len⟩
theorem Inv.qqP (h:Inv n i k T base C) (h0:C.recs=[]):Inv n i k T base (Co.jc n i Dp.zero base):=by
 have hc:=eV n i base
 have ho:=eK n i Dp.zero base
 have hl:=h.rl
 have hx:=h.rx
 have hn:=h.len
 rw [h0,List.append_nil] at hl hx hn
 exact ⟨hc.2.2.1,hc.2.2.2.1,hc.1,hc.2.1,by rw [ho.1,List.append_nil],by rw [ho.1,List.append_nil],h.k0,h.t0,by rw [hl];exact h.lg,by rw [hx];exact h.xl,by rw [hc.2.2.2.2.1];simp,by rw [hc.2.2.2.2.2.1];simp,by rw [ho.2];simp,by rw [ho.1,List.append_nil];exact hn⟩
theorem MA (hn:n=3∨n=5∨n=7) (hi:i < n) (base:List (List UInt8)):(Co.jc n i Dp.zero base).Ok:=by
 have key:∀ (ls:List (List UInt8)) (C:Co),C.Ok→(ls.foldl Co.rep C).Ok:=by
  intro ls
  induction ls with
  | nil=>exact fun C h=>h
  | cons b r ih =>
   intro C h
   refine ih _ ?_
   unfold Co.rep Co.GG
   split
   ·rename_i hm
    have h2:({ C with lg:=upC (jG b).1 (jG b).2.1 C.lg }:Co).Ok:=⟨h.n,h.me,h.xl,fun p hp=>by
     rcases LL hp with e | e
     ·subst e;exact ⟨hm.2.1,hm.2.2.2.1⟩
     ·exact h.lg p e,h.wishes,h.lds,h.lnd,h.wnd,h.wt⟩
    exact (qzB _ _ _).ok h2
   ·exact h
 exact key base _ (UX n i Dp.zero hn hi)
theorem qJH (C:Co) (b:List UInt8):(C.rep b).lg.length≤C.lg.length+1:=by
 unfold Co.rep Co.GG
 split
 ·have e:(({ C with lg:=upC (jG b).1 (jG b).2.1 C.lg }:Co).note (jG b).1 (jG b).2.1).lg=upC (jG b).1 (jG b).2.1 C.lg:=by unfold Co.note;split<;>rfl
  rw [e]
  unfold upC
  split
  ·rw [List.length_map];omega
  ·simp
 ·omega
theorem qzd:∀ (ls:List (List UInt8)) (C:Co),(ls.foldl Co.rep C).lg.length≤C.lg.length+ls.length
 | [],C=>by simp
 | b::r,C=>by
  have h1:=qzd r (C.rep b)
  have h2:=qJH C b
  simp only [List.foldl_cons,List.length_cons]
  omega
theorem Inv.lgLen (h:Inv n i k T base C):C.lg.length≤base.length+C.recs.length:=by
 have:=qzd (base++C.recs) (Co.new n i Dp.zero)
 rw [List.length_append] at this
 have e:(Co.jc n i Dp.zero (base++C.recs)).lg=C.lg:=h.rl
 unfold Co.jc at e
 rw [e] at this
 simpa [Co.new] using this
theorem Inv.few {j:Nat} (h:Inv n i (j:Nat) T base C) (hok:C.Ok):C.leads.length≤7*j:=by
 have:=qQr hok.lnd (k:=j) fun p hp=>by
  obtain ⟨l,hl,rfl⟩:=List.mem_map.1 hp
  exact ⟨(h.lds l hl).id,(h.lds l hl).sl⟩
 rwa [List.length_map] at this
theorem Inv.qQY (n i:Nat) (k:Int) (hk:0≤k):Inv n i k 0 [] (Co.new n i Dp.zero) :=
 ⟨rfl,rfl,bN,bN,rfl,rfl,hk,Int.le_refl _,by simp [Co.new],by simp [Co.new],by simp [Co.new],by simp [Co.new],by simp [Co.new],by simp [Co.new]⟩
end Go.Fw
namespace Go.Fw
open Go.Proofs
variable {n i j:Nat} {k:List (List UInt8)} {C:Co} {W W':Wd} {x:Mv}
structure CI (C:Co) (n i j:Nat) (k:List (List UInt8)):Prop where
 inv:Inv n i ((9+j:Nat):Int) ((1000*j:Nat):Int) k C
 ok:C.Ok
 recs:C.recs=[]
 out:C.out=[]
 kl:k.length≤1000*j
structure WI (W:Wd) (n j:Nat):Prop where
 num:W.n=n
 n3:n=3∨n=5∨n=7
 cl:W.cores.length=n
 kl:W.kept.length=n
 co:∀ i C k,W.cores[i]?=some C→W.kept[i]?=some k→CI C n i j k
 on:W.on.length≤8000
 lt:∀ y∈W.on,LtB n ((9+j:Nat):Int) y
theorem CI.up {j':Nat} (h:CI C n i j k) (hj:j≤j'):CI C n i j' k:=⟨h.inv.up (by omega) (by omega),h.ok,h.recs,h.out,by have:=h.kl;omega⟩
theorem WI.kp (h:WI W n j) {i:Nat} (hi:i < n):∃ C k,W.cores[i]?=some C∧W.kept[i]?=some k∧CI C n i j k:=by
 have h1:=h.kl
 have h2:=h.cl
 have e1:W.cores[i]?=some (W.cores[i]'(by omega)):=List.getElem?_eq_getElem (by omega)
 have e2:W.kept[i]?=some (W.kept[i]'(by omega)):=List.getElem?_eq_getElem (by omega)
 exact ⟨_,_,e1,e2,h.co i _ _ e1 e2⟩
theorem WI.finR {room:Int} (hroom:room≤300) (h:WI W n j) {W0:Wd} (hn:W0.n=W.n) (hon:∀ y∈W0.on,y∈W.on) (hol:W0.on.length≤W.on.length) (hk:W0.kept=W.kept) (hi:i < n) {C1:Co} (hc:W0.cores=W.cores.set i C1) (hkk:W.kept[i]?=some k) (hkl:k.length≤1000*j)
  (hinv:Inv n i ((9+(j+1):Nat):Int) ((1000*(j+1):Nat):Int) k C1) (hok:C1.Ok) (hr:C1.recs.length≤1000) (ho:C1.out.length≤7000):WI (W0.drain i room) n (j+1):=by
 have hcl:=h.cl
 have hkl2:=h.kl
 have hon2:=h.on
 have e1:W0.cores[i]?=some C1:=by rw [hc];exact List.getElem?_set_self (by omega)
 have e2:W0.kept[i]?=some k:=by rw [hk];exact hkk
 have hD:W0.drain i room={ W0 with cores:=W0.cores.set i C1.qA,kept:=W0.kept.set i (k++C1.recs),on:=if (W0.on.length:Int) < room then W0.on++C1.out else W0.on }:=by unfold Wd.drain;rw [e1,e2]
 rw [hD]
 refine ⟨hn.trans h.num,h.n3,?_,?_,fun i' C' k' h1 h2=>?_,?_,?_⟩
 ·show (W0.cores.set i C1.qA).length=n
  rw [List.length_set,hc,List.length_set];exact hcl
 ·show (W0.kept.set i (k++C1.recs)).length=n
  rw [List.length_set,hk];exact hkl2
 ·have h1:(W0.cores.set i C1.qA)[i']?=some C':=h1
  have h2:(W0.kept.set i (k++C1.recs))[i']?=some k':=h2
  by_cases e:i'=i
  ·subst e
   rw [List.getElem?_set_self (by rw [hc,List.length_set];omega)] at h1
   rw [List.getElem?_set_self (by rw [hk];omega)] at h2
   cases h1
   cases h2
   exact ⟨hinv.qA,xR hok,rfl,rfl,by rw [List.length_append];omega⟩
  ·rw [List.getElem?_set_ne (Ne.symm e),hc,List.getElem?_set_ne (Ne.symm e)] at h1
   rw [List.getElem?_set_ne (Ne.symm e),hk] at h2
   exact (h.co i' C' k' h1 h2).up (by omega)
 ·show (if _ then _ else _:List Lt).length≤_
  split
  ·rw [List.length_append];omega
  ·omega
 ·show ∀ y∈(if (W0.on.length:Int) < room then W0.on++C1.out else W0.on),_
  intro y hy
  split at hy
  ·rcases List.mem_append.1 hy with hy | hy
   ·exact (h.lt y (hon y hy)).up (by omega)
   ·exact hinv.out y hy
  ·exact (h.lt y (hon y hy)).up (by omega)
theorem WI.fin (h:WI W n j) {W0:Wd} (hn:W0.n=W.n) (hon:∀ y∈W0.on,y∈W.on) (hol:W0.on.length≤W.on.length) (hk:W0.kept=W.kept) (hi:i < n) {C1:Co} (hc:W0.cores=W.cores.set i C1) (hkk:W.kept[i]?=some k) (hkl:k.length≤1000*j)
  (hinv:Inv n i ((9+(j+1):Nat):Int) ((1000*(j+1):Nat):Int) k C1) (hok:C1.Ok) (hr:C1.recs.length≤1000) (ho:C1.out.length≤7000):WI (W0.drain i 300) n (j+1):=h.finR (Int.le_refl _) hn hon hol hk hi hc hkk hkl hinv hok hr ho
theorem WI.ic (h:WI W n j) {i:Nat} {C:Co} (hC:W.cores[i]?=some C):i < n:=by
 have h1:=h.cl
 have:=(List.getElem?_eq_some_iff.1 hC).1
 omega
theorem WI.OR (h:WI W n j) {W0:Wd} (hn:W0.n=W.n) (hon:∀ y∈W0.on,y∈W.on) (hol:W0.on.length≤W.on.length) (hk:W0.kept=W.kept) (hc0:W0.cores=W.cores) {C C1:Co} (hC:W.cores[i]?=some C)
  (hinv:∀ k,CI C n i j k→Inv n i ((9+(j+1):Nat):Int) ((1000*(j+1):Nat):Int) k C1) {a b c:Nat} (hs:Sts C C1 a b c) (ha:a≤1000) (hb:b≤7000):WI ((W0.put i C1).drain i 300) n (j+1):=by
 obtain ⟨C',k,e1,e2,hci⟩:=h.kp (h.ic hC)
 rw [hC] at e1
 cases e1
 have s1:=hs.sz.recs
 have s2:=hs.sz.out
 rw [hci.recs] at s1
 rw [hci.out] at s2
 simp only [List.length_nil] at s1 s2
 exact h.fin (W0:=W0.put i C1) hn hon hol hk (h.ic hC) (by show W0.cores.set i C1=_;rw [hc0]) e2 hci.kl (hinv k hci) (hs.ok hci.ok) (by omega) (by omega)
theorem qye {α:Type} {l:List α} {i:Nat} {a:α} (h:l[i]?=some a):l.set i a=l:=by
 apply List.ext_getElem?
 intro t
 by_cases e:i=t
 ·subst e;rw [List.getElem?_set_self (List.getElem?_eq_some_iff.1 h).1,h]
 ·rw [List.getElem?_set_ne e]
theorem WI.DX (h:WI W n j) {W0:Wd} (hn:W0.n=W.n) (hon:∀ y∈W0.on,y∈W.on) (hol:W0.on.length≤W.on.length) (hk:W0.kept=W.kept) (hc0:W0.cores=W.cores) (hi:i < n):WI (W0.drain i 300) n (j+1):=by
 obtain ⟨C,k,e1,e2,hci⟩:=h.kp hi
 exact h.fin (W0:=W0) hn hon hol hk hi (by rw [hc0,qye e1]) e2 hci.kl (hci.inv.up (by omega) (by omega)) hci.ok (by rw [hci.recs];simp) (by rw [hci.out];simp)
theorem qzT (W:Wd) (q:Nat):∀ y∈(W.cut q).on,y∈W.on:=fun y hy=>(List.eraseIdx_sublist _ _).subset hy
theorem WI.ply (h:WI W n j) (hj:j≤90) (hp:Ply x W W') (hx:x.inst.2≤9):WI W' n (j+1):=by
 have h3:=h.n3
 rcases hp with ⟨rfl,_⟩ | ⟨W1,i,hp,rfl⟩
 ·exact ⟨h.num,h.n3,h.cl,h.kl,fun i C k a b=>(h.co i C k a b).up (by omega),h.on,fun y hy=>(h.lt y hy).up (by omega)⟩
 have ek:((9+j:Nat):Int)+1=((9+(j+1):Nat):Int):=by omega
 cases hp with
 | prop _ hC =>
  have hi:=h.ic hC
  have hn:=(h.kp hi)
  obtain ⟨C',k0,e1,e2,hci⟩:=hn
  rw [hC] at e1;cases e1
  have hnn:=hci.ok.n
  refine h.OR (W0:=W) rfl (fun _ h=>h) (Nat.le_refl _) rfl rfl hC (fun k hc=>?_) (mE _ x.cmd) (by omega) (by omega)
  rw [← ek]
  exact (hc.inv.zm (by omega) x.cmd).up (Int.le_refl _) (by omega)
 | @give q _ y _ b _ hy _ hC =>
  obtain ⟨C',k0,e1,e2,hci⟩:=h.kp (h.ic hC)
  rw [hC] at e1;cases e1
  have hnn:=hci.ok.n
  have hyl:=(h.lt y (List.mem_of_getElem? hy)).c
  refine h.OR (W0:=W.cut q) rfl (qzT W q) (NI W q) rfl rfl hC (fun k hc=>?_) (oI _ b y (by omega)) (by omega) (by omega)
  rw [← ek]
  exact (hc.inv.take b hyl).up (Int.le_refl _) (by omega)
 | @lose q _ _ hq hi=>exact h.DX (W0:=W.cut q) rfl (qzT W q) (NI W q) rfl rfl (by rw [← h.num];exact hi)
 | @dup q _ y _ b _ hy _ hC =>
  obtain ⟨C',k0,e1,e2,hci⟩:=h.kp (h.ic hC)
  rw [hC] at e1;cases e1
  have hnn:=hci.ok.n
  have hyl:=(h.lt y (List.mem_of_getElem? hy)).c
  refine h.OR (W0:=W) rfl (fun _ h=>h) (Nat.le_refl _) rfl rfl hC (fun k hc=>?_) (oI _ b y (by omega)) (by omega) (by omega)
  rw [← ek]
  exact (hc.inv.take b hyl).up (Int.le_refl _) (by omega)
 | @tick _ _ l bs _ hC hl _ _ =>
  obtain ⟨C',k0,e1,e2,hci⟩:=h.kp (h.ic hC)
  rw [hC] at e1;cases e1
  have hf:=hci.inv.few hci.ok
  refine h.OR (W0:=W) rfl (fun _ h=>h) (Nat.le_refl _) rfl rfl hC (fun k hc=>?_) (ON _ l bs hci.ok) (by omega) (by omega)
  exact (hc.inv.oH hc.ok hl).up (by omega) (by omega)
 | recv _ hC =>
  obtain ⟨C',k0,e1,e2,hci⟩:=h.kp (h.ic hC)
  rw [hC] at e1;cases e1
  have hnn:=hci.ok.n
  refine h.OR (W0:=W) rfl (fun _ h=>h) (Nat.le_refl _) rfl rfl hC (fun k hc=>?_) (Vp _ x.inst) (by omega) (by omega)
  exact (hc.inv.recover (p:=x.inst) (by omega)).up (by omega) (by omega)
 | @qqP _ _ k0 _ hC hk =>
  have hi:=h.ic hC
  have hci:=h.co _ _ _ hC hk
  have ho:=eK n i Dp.zero k0
  rw [h.num]
  exact h.fin (W0:=W.put i (Co.jc n i Dp.zero k0)) rfl (fun _ h=>h) (Nat.le_refl _) rfl hi rfl hk hci.kl ((hci.inv.qqP hci.recs).up (by omega) (by omega)) (MA h3 hi k0) (by rw [ho.1];simp) (by rw [ho.2];simp)
 | none hi=>exact h.DX (W0:=W) rfl (fun _ h=>h) (Nat.le_refl _) rfl rfl (by rw [← h.num];exact hi)
theorem OO {T:Int} (h0:0≤T):∀ (l:List ((Int×Int)×Nat)) (C:Co),(∀ w∈C.wishes,0≤w.ticks∧w.ticks≤T)→∀ w∈(l.foldl (fun C p=>C.Jw p.2 p.1) C).wishes,0≤w.ticks∧w.ticks≤T
 | [],C,h=>h
 | p::r,C,h=>by
  refine OO h0 r (C.Jw p.2 p.1) ?_
  unfold Co.Jw
  split
  ·unfold Co.want
   split
   ·intro w hw
    rcases fo (show w∈zj _ _ _ from hw) with rfl | hw
    ·exact ⟨Int.le_refl _,h0⟩
    ·exact h w hw
   ·exact h
  ·exact h
theorem CI.qQu (h:CI C n i j k) (hj:j≤90):CoG C n i:=by
 have hf:=h.inv.few h.ok
 have ht:=h.inv.jq
 have hkl:=h.kl
 have hs:=ar (C.leads.map Ld.id) C (by have:=h.ok.n;omega)
 have e1:(C.leads.map Ld.id).foldl Co.Qv C=C.jq:=rfl
 rw [e1,List.length_map] at hs
 have s1:=hs.sz.recs
 have hl:=ht.lgLen
 rw [h.recs] at s1
 simp only [List.length_nil] at s1
 have hme:C.me < 7:=by have:=h.ok.me;have:=h.ok.n;omega
 have htop:=h.inv.top C.me hme
 refine ⟨h.ok,h.inv.num,h.inv.who,by rw [h.recs];simp,by rw [h.out];simp,by omega,fun l hl=>?_,by omega,fun l bs w hw=>?_,h.ok.wishes,by omega,htop.1⟩
 ·have hb:=h.inv.lds l hl
  have b1:=hb.t0
  have b2:=hb.t1
  exact ⟨b1,by omega⟩
 ·have:=OO (T:=((1000*j:Nat):Int)+(C.leads.length:Nat)) (by omega) (l.zip bs) C.jq (fun w hw=>⟨(ht.wsh w hw).t0,(ht.wsh w hw).t1⟩) w hw
  exact ⟨this.1,by omega⟩
theorem WI.qQu (h:WI W n j) (hj:j≤90):PlG W n:=by
 refine ⟨h.num,h.n3,h.cl,h.kl,fun i C hC=>?_,fun k hk=>?_,by have:=h.on;omega,fun y hy=>(h.lt y hy).dst⟩
 ·obtain ⟨C',k,e1,e2,hci⟩:=h.kp (h.ic hC)
  rw [hC] at e1;cases e1
  exact hci.qQu hj
 ·obtain ⟨i,hi⟩:=List.getElem?_of_mem hk
  have hil:i < n:=by have:=(List.getElem?_eq_some_iff.1 hi).1;have:=h.kl;omega
  obtain ⟨C,k',e1,e2,hci⟩:=h.kp hil
  rw [hi] at e2;cases e2
  have hkl:=hci.kl
  refine ⟨by omega,fun b hb=>?_⟩
  have:=hci.inv.len b (List.mem_append_left _ hb)
  omega
theorem qvT (hn:n=3∨n=5∨n=7):WI (Wd.fresh n) n 0:=by
 refine ⟨rfl,hn,by simp [Wd.fresh,Wd.qF],by simp [Wd.fresh,Wd.qF],fun i C k hC hk=>?_,by simp [Wd.fresh,Wd.qF],by simp [Wd.fresh,Wd.qF]⟩
 have hC:((List.range n).map fun j=>Co.new n j Dp.zero)[i]?=some C:=hC
 have hk:(List.replicate n ([]:List (List UInt8)))[i]?=some k:=hk
 rw [List.getElem?_map] at hC
 obtain ⟨hi,e⟩:=List.getElem?_eq_some_iff.1 hk
 rw [List.length_replicate] at hi
 rw [List.getElem?_range hi] at hC
 simp at hC e
 subst hC e
 exact ⟨Inv.qQY n i _ (by omega),UX n i Dp.zero hn hi,rfl,rfl,by simp⟩
end Go.Fw
namespace Go.Fw
open Go.Proofs
variable {n i j:Nat} {k:List (List UInt8)} {C:Co} {W W':Wd} {x:Mv}
theorem CI.same (h:CI C n i j k):(Co.jc n i Dp.zero k).lg=C.lg∧(Co.jc n i Dp.zero k).top=C.top:=by
 have h1:=h.inv.rl
 rw [h.recs,List.append_nil] at h1
 refine ⟨h1,?_⟩
 unfold Co.top
 rw [h1,(eV n i k).1,h.inv.cut]
def kXc:Cmd:=⟨2,1,1,⟨#[107]⟩,noB,noB,noB⟩
theorem Bz {l:kR} (hl:wo l) (q:Int×Int) (c:Cmd):∀ (ks:List (Int×Int)) (a:Att),(∀ p∈ks,p∈yy l)→TM a.deps→0≤a.seq→TM (ks.foldl (Vo l q c) a).deps∧0≤(ks.foldl (Vo l q c) a).seq
 | [],a,_,h1,h2=>⟨h1,h2⟩
 | p::r,a,hk,h1,h2=>by
  have hp:qN p:=by
   obtain ⟨z,hz,e⟩:=List.mem_map.1 (hk p (List.mem_cons_self ..))
   rw [← e];exact (hl.ok z hz).1
  refine Bz hl q c r (Vo l q c a p) (fun z hz=>hk z (List.mem_cons_of_mem _ hz)) ?_ ?_
  ·unfold Vo au
   split
   ·exact h1
   ·intro t
    show 0≤Dp.up a.deps p.1.toNat (max (a.deps.g p.1.toNat) p.2) t∧Dp.up a.deps p.1.toNat (max (a.deps.g p.1.toNat) p.2) t≤1073741824
    have ht:=h1 t
    unfold Dp.up
    split
    ·rename_i e
     have hg:a.deps.g p.1.toNat=a.deps t:=by unfold Dp.g;rw [dif_pos (by omega)];congr 1;exact Fin.ext e.symm
     rw [hg]
     have:=hp.2.2
     omega
    ·exact ht
  ·unfold Vo au
   split
   ·exact h2
   ·show 0≤max _ _
    omega
theorem TX {l:kR} (hl:wo l) {q:Int×Int} (hq:qN q) (c:Cmd) {K:Int} (h0:0≤K) (hs:∀ p∈l,p.2.seq≤K) (hK:K+1≤1099511627776):xW (zB Dp.zero l q c):=by
 have h1:=Bz hl q c (yy l) Att.zero (fun _ h=>h) (by decide) (Int.le_refl _)
 have h2:=gX (cut:=Dp.zero) h0 hs q c
 refine ⟨fun t=>?_,h1.2,by omega⟩
 have ht:=h1.1 t
 show 0≤tQ Dp.zero q (tZ l q c).deps t∧tQ Dp.zero q (tZ l q c).deps t≤1073741824
 have e0:(tZ l q c)=(yy l).foldl (Vo l q c) Att.zero:=rfl
 rw [← e0] at ht
 have hz:Dp.zero t=0:=rfl
 have:=hq.2.2
 unfold tQ
 by_cases h3:(t.val:Int)≠q.1
 ·rw [if_pos h3,hz];omega
 ·rw [if_neg h3,if_pos hq];omega
theorem CI.prop (h:CI C n i j k) (hn3:n=3∨n=5∨n=7) (hi:i < n) (hj:j≤90) :
  ((Co.jc n i Dp.zero k).zm kXc).2=.tuple #[pv (((i:Nat):Int),C.top.g i+1),.bool true]∧((Co.jc n i Dp.zero k).zm kXc).1.leads.length=1∧((Co.jc n i Dp.zero k).zm kXc).1.wishes.length=0:=by
 have hN:=(h.inv.qqP h.recs)
 have hok:=MA hn3 hi k
 have hc:=eV n i k
 have ht:=h.same.2
 have htp:=h.inv.top i (by omega)
 have hnx:(Co.jc n i Dp.zero k).next=(((i:Nat):Int),C.top.g i+1):=by unfold Co.next;rw [hc.2.2.2.1,ht]
 generalize Co.jc n i Dp.zero k=N at *
 have hr:qN N.next:=by
  rw [hnx]
  exact ⟨by show (0:Int)≤(i:Nat);omega,by show ((i:Nat):Int) < 7;omega,by show 1≤C.top.g i+1;omega,by show C.top.g i+1≤1073741824;omega⟩
 have hA:=TX hok.xl hr kXc hN.k0 hN.xl (by omega)
 rw [← hc.2.1] at hA
 have hx:kXc.right:=by decide
 have hp:N.zm kXc=N.cD kXc N.next (zB N.xcut N.xl N.next kXc):=if_neg (by
  rintro (e | e | e | e)
  ·exact e hx
  ·exact absurd e (by decide)
  ·rw [hnx] at e
   have e:C.top.g i+1 > 1073741824:=e
   omega
  ·rw [hc.2.2.2.2.1] at e
   simp at e)
 rw [hp]
 generalize zB N.xcut N.xl N.next kXc=a at *
 have hp2:N.cD kXc N.next a=(((N.set N.next ⟨1,(0,0),(0,0),kXc,a,true⟩).1).jl (xa N.next 0 (0,0) true kXc a),.tuple #[pv N.next,.bool true]):=if_pos hA
 rw [hp2]
 have hs:=xS N N.next ⟨1,(0,0),(0,0),kXc,a,true⟩
 have hw:=(Gz N N.next ⟨1,(0,0),(0,0),kXc,a,true⟩).1
 refine ⟨by rw [hnx],?_,?_⟩
 ·generalize (N.set N.next ⟨1,(0,0),(0,0),kXc,a,true⟩).1=N1 at *
  generalize xa N.next 0 (0,0) true kXc a=l at *
  have e:=(CS (N1.Qw l) l.ask l.ans (N1.Qw l).n).2.2.1
  show (N1.jl l).leads.length=1
  rw [show (N1.jl l).leads=(N1.Qw l).leads from e]
  show (zj (N1.qU l.id).leads (dy l.id (N1.qU l.id).leads) l).length=1
  have e2:(N1.qU l.id).leads=[]:=by
   show N1.leads.filter _=[]
   rw [hs.1,hc.2.2.2.2.1];rfl
  rw [e2];rfl
 ·have e:=(Gf (N.set N.next ⟨1,(0,0),(0,0),kXc,a,true⟩).1 (xa N.next 0 (0,0) true kXc a)).1
  show (((N.set N.next ⟨1,(0,0),(0,0),kXc,a,true⟩).1).jl (xa N.next 0 (0,0) true kXc a)).wishes.length=0
  rw [e,hw,hc.2.2.2.2.2.1];rfl
end Go.Fw
namespace Go.Fw
open Go.Proofs
variable {m m0 M:Mem} {S:List Nat} {L:List As}
variable {Q:Exit→Env→Mem→Prop} {E:Env} {wb n j b9:Nat} {V:Wv} {W:Wd} {x:Mv}
theorem WI.up1 (h:WI W n j):WI W n (j+1):=⟨h.num,h.n3,h.cl,h.kl,fun i C k a b=>(h.co i C k a b).up (by omega),h.on,fun y hy=>(h.lt y hy).up (by omega)⟩
structure qvd (x:Mv):Prop where
 kind:R64 x.kind
 who:R64 x.who
 num:R64 x.num
 cmd:okC x.cmd
 inst:ok2 x.inst
abbrev k8K (m:Mem) (S:List Nat) (wb b9 n:Nat) (V:Wv) (W:Wd) (x:Mv) (a1 a2 a8:Value) (Q:Exit→Env→Mem→Prop):Prop :=
 ∀ M (E':Env) (r s:Int),1≤s→s≤9→E'.get 1=a1→E'.get 2=a2→E'.get 7=lp wb→E'.get 8=a8→E'.get 9=lp b9→E'.has 1=true→E'.has 2=true→E'.has 7=true→E'.has 8=true→E'.has 9=true→Hq m M S [wdA wb V W,mvA b9 { x with inst:=(r,s) }]→Q .normal E' M
theorem qXP {a1 a2 a8:Value} (hx:qvd x) (hn:W.n=n) (hn3:n=3∨n=5∨n=7)
  (H:Hq m M S [wdA wb V W,mvA b9 x]) (K:k8K m S wb b9 n V W x a1 a2 a8 Q)
  (e1:E.get 1=a1) (e2:E.get 2=a2) (e7:E.get 7=lp wb) (e8:E.get 8=a8) (e9:E.get 9=lp b9) (h1:E.has 1=true) (h2:E.has 2=true) (h7:E.has 7=true) (h8:E.has 8=true) (h9:E.has 9=true) :
  wpN Tryz.prog xv Q E M:=by
 have hi:=hx.inst
 have hc:=ji (H.at 0 rfl)
 have hcx:=cell_of (H.at 1 rfl)
 simp (disch:=omega) only [go_sem,undef,e1,e2,e7,e8,e9,h1,h2,h7,h8,h9,hc,wdC,hcx,hn]
 refine GV H (aO x.inst.1 0 ((n:Nat) - 1) (by omega) hi.1 (by decide) (by omega)) fun u M hR f H=>?_
 refine Exists.elim hR fun r hr=>?_
 have eu:=hr.1
 subst eu
 have hc:=ji (H.at 0 rfl)
 have hcx:=cell_of (H.at 1 rfl)
 simp (disch:=omega) only [go_sem,undef,e1,e2,e7,e8,e9,h1,h2,h7,h8,h9,hc,wdC,hcx,hn]
 refine GV H (aO x.inst.2 1 9 (by omega) hi.2 (by decide) (by omega)) fun u M hR2 f H=>?_
 refine Exists.elim hR2 fun s hs=>?_
 have eu:=hs.1
 subst eu
 have H:=H.perm (List.Perm.swap ..)
 simp (disch:=omega) only [go_sem,undef,e1,e2,e7,e8,e9,h1,h2,h7,h8,h9,H.cs]
 refine zG H fun M f H=>?_
 have H:Hq m M S [mvA b9 { x with inst:=(r,x.inst.2) },wdA wb V W]:=H
 simp (disch:=omega) only [go_sem,undef,e1,e2,e7,e8,e9,h1,h2,h7,h8,h9,H.cs]
 refine zG H fun M f H=>?_
 have H:Hq m M S [mvA b9 { x with inst:=(r,s) },wdA wb V W]:=H
 simp (disch:=omega) only [go_sem,undef,e1,e2,e7,e8,e9,h1,h2,h7,h8,h9]
 exact K M _ r s hs.2.1 hs.2.2 rfl rfl rfl rfl rfl rfl rfl rfl rfl rfl (H.perm (List.Perm.swap ..))
abbrev kmA:NC:=.seq Yi (.cond (.qq 86) (.seq WK .ret) .skip)
abbrev kmB:NC:=.seq Jg (.seq (.seq Jf (.cond (.qq 65) (.exit 1) .skip)) (.seq xv kmA))
abbrev kmK (m:Mem) (S:List Nat) (wb n j:Nat) (a1 a2 a8:Value) (Q:Exit→Env→Mem→Prop):Prop :=
 ∀ V' W' M (e:Exit) (E':Env),(e=.normal∨e=.exit 1)→E'.get 1=a1→E'.get 2=a2→E'.get 7=lp wb→E'.get 8=a8→E'.has 1=true→E'.has 2=true→E'.has 7=true→E'.has 8=true→V'.ok W'→WI W' n (j+1)→Hq m M S [wdA wb V' W']→Q e E' M
theorem qXO {a1 a2 a8:Value} (hw:R64 x.who) (hnm:R64 x.num) (h9s:x.inst.2≤9) (hV:V.ok W) (hW:WI W n j) (hj:j≤90)
  (H:Hq m M S [wdA wb V W,mvA b9 x]) (K:kmK m S wb n j a1 a2 a8 Q)
  (e1:E.get 1=a1) (e2:E.get 2=a2) (e7:E.get 7=lp wb) (e8:E.get 8=a8) (e9:E.get 9=lp b9) (h1:E.has 1=true) (h2:E.has 2=true) (h7:E.has 7=true) (h8:E.has 8=true) (h9:E.has 9=true) :
  wpN Tryz.prog kmA Q E M:=by
 have hcx:=cell_of (H.at 1 rfl)
 have hpl:=fun M (hA:(wdA wb V W).p M)=>qXm hA hV (hW.qQu hj) x hw hnm
 simp (disch:=omega) only [go_sem,undef,e1,e2,e7,e8,e9,h1,h2,h7,h8,h9,hcx]
 refine jb H (hpl _ (H.at 0 rfl)) fun u M A' hR f H=>?_
 refine Exists.elim hR fun W' hR=>?_
 have hW2:=hW.ply hj hR.1 h9s
 refine hR.2.E fun V' eu hV' eA=>?_
 subst eu eA
 simp (disch:=omega) only [go_sem,undef,e1,e2,e7,e8,h1,h2,h7,h8,Bool.not_true]
 exact K V' W' M _ _ (.inl rfl) rfl rfl rfl rfl rfl rfl rfl rfl hV' hW2 (H.drop 1)
theorem qxe {a:Option Addr} {c:Nat} {l:List Mv} {a2:Value} (hl:RdS 12 Mv.cs M (.slice a l.length c) l) (hlj:l[j]?=some x) (hx:qvd x) (hV:V.ok W) (hW:WI W n j) (hj:j≤90)
  (H:Hq m M S [wdA wb V W]) (K:kmK m S wb n j (.slice a l.length c) a2 (.int .i64 (j:Nat)) Q)
  (e1:E.get 1=.slice a l.length c) (e2:E.get 2=a2) (e7:E.get 7=lp wb) (e8:E.get 8=.int .i64 (j:Nat)) (h1:E.has 1=true) (h2:E.has 2=true) (h7:E.has 7=true) (h8:E.has 8=true) :
  wpN Tryz.prog kmB Q E M:=by
 have hjl:=(List.getElem?_eq_some_iff.1 hlj).1
 refine RdS.elK hl hjl (by decide) fun bx o x' hx' hix hE=>?_
 have ex:x'=x:=Option.some.inj (hx'.symm.trans hlj)
 subst ex
 have hlda:=hE.uZ 12 (by decide) (by decide)
 have htk:(x'.cs.take 12)=x'.cs:=rfl
 rw [htk] at hlda
 show wpN Tryz.prog (.seq Jg (.seq (.seq Jf (.cond (.qq 65) (.exit 1) .skip)) (.seq xv kmA))) Q E M
 generalize hT:kmA=T
 generalize hT8:xv=T8
 simp (disch:=omega) only [go_sem,undef,e1,e2,e7,e8,h1,h2,h7,h8,hix,hlda]
 refine qh H fun b9 M f H=>?_
 simp (disch:=omega) only [go_sem,undef,H.cs]
 refine qs H rfl rfl fun M f H=>?_
 have H:Hq m M S [mvA b9 x',wdA wb V W]:=H
 simp (disch:=omega) only [go_sem,undef,e1,e2,e7,e8,h1,h2,h7,h8,H.cs]
 refine qe (fun hq=>?_) (fun hq=>?_)
 ·exact K V W M _ _ (.inr rfl) rfl rfl rfl rfl rfl rfl rfl rfl hV hW.up1 H.tail
 ·subst hT8
  refine qXP hx hW.num hW.n3 (H.perm (List.Perm.swap ..)) (fun M E' r s hs1 hs9 g1 g2 g7 g8 g9 k1 k2 k7 k8 k9 H=>?_) rfl rfl rfl rfl rfl rfl rfl rfl rfl rfl
  subst hT
  exact qXO (x:={ x' with inst:=(r,s) }) hx.who hx.num hs9 hV hW hj H K g1 g2 g7 g8 g9 k1 k2 k7 k8 k9
end Go.Fw
namespace Go.Fw
open Go.Proofs
variable {m m0 M:Mem} {S:List Nat} {L:List As}
variable {Q:Exit→Env→Mem→Prop} {E:Env} {wb n j b9:Nat} {V:Wv} {W:Wd} {x:Mv}
theorem WI.upN (h:WI W n j) {j':Nat} (hj:j≤j'):WI W n j':=⟨h.num,h.n3,h.cl,h.kl,fun i C k a b=>(h.co i C k a b).up hj,h.on,fun y hy=>(h.lt y hy).up (by omega)⟩
theorem qXN:kT=.seq (.seq Yl (.cond (.qq 39) .skip (.exit 0))) (.seq (.block 1 kmB) WX):=rfl
abbrev klA:NC:=.seq Jh (.block 0 (.loop [1,2,7,8] kT))
theorem UG {a:Option Addr} {c:Nat} {l:List Mv} {a2:Value} (hl:RdS 12 Mv.cs m (.slice a l.length c) l) (hx:∀ x∈l,qvd x) (hV:V.ok W) (hW:WI W n 0)
  (H:Hq m M [] [wdA wb V W])
  (K:∀ V' W' M (E':Env),E'.get 2=a2→E'.get 7=lp wb→E'.has 2=true→E'.has 7=true→V'.ok W'→WI W' n 80→Hq m M [] [wdA wb V' W']→Q .normal E' M)
  (e1:E.get 1=.slice a l.length c) (e2:E.get 2=a2) (e7:E.get 7=lp wb) (h1:E.has 1=true) (h2:E.has 2=true) (h7:E.has 7=true) :
  wpN Tryz.prog klA Q E M:=by
 show wpN Tryz.prog (.seq Jh (.block 0 (.loop [1,2,7,8] kT))) Q E M
 rw [qXN]
 generalize hT:kmB=T
 simp (disch:=omega) only [go_sem,undef,e1,e2,e7,h1,h2,h7]
 refine ql (fun k E m'=>∃ (j:Nat) (V:Wv) (W:Wd),j≤80∧k=80 - j∧E=[(1,.slice a l.length c),(2,a2),(7,lp wb),(8,.int .i64 (j:Nat))]∧V.ok W∧WI W n j∧Hq m m' [] [wdA wb V W]) 80 rfl ⟨0,V,W,by omega,rfl,rfl,hV,hW,H⟩ ?_
 clear H hV hW e1 e2 e7 h1 h2 h7
 rintro k E M1 ⟨j,V,W,hj,rfl,rfl,hV,hW,H⟩
 by_cases hjl:j < l.length
 ·by_cases hj8:j < 80
  ·refine Exists.elim (⟨l[j],List.getElem?_eq_getElem hjl⟩:∃ x,l[j]?=some x) fun x hlj=>?_
   simp (disch:=omega) only [go_sem,undef,qX (show ((j:Nat):Int) < (l.length:Nat) by omega),qX (show ((j:Nat):Int) < 80 by omega)]
   subst hT
   refine qxe (hl.frame H.fr) hlj (hx x (List.mem_of_getElem? hlj)) hV hW (by omega) H (fun V' W' M e E' he g1 g2 g7 g8 k1 k2 k7 k8 hV' hW' H=>?_) rfl rfl rfl rfl rfl rfl rfl rfl
   rcases he with rfl | rfl
   all_goals
    simp (disch:=omega) only [go_sem,undef,g1,g2,g7,g8,k1,k2,k7,k8]
    exact qV (80 - (j+1)) (by omega) ⟨j+1,V',W',by omega,rfl,rfl,hV',hW',H⟩
  ·simp (disch:=omega) only [go_sem,undef,qX (show ((j:Nat):Int) < (l.length:Nat) by omega),qZ (show ¬ ((j:Nat):Int) < 80 by omega)]
   exact K V W M1 _ rfl rfl rfl rfl hV (hW.upN hj) H
 ·simp (disch:=omega) only [go_sem,undef,qZ (show ¬ ((j:Nat):Int) < (l.length:Nat) by omega)]
  exact K V W M1 _ rfl rfl rfl rfl hV (hW.upN hj) H
abbrev kkQ (m:Mem):Exit→Env→Mem→Prop:=vL [.qq 6] fun u M=>u=.bool true∧Fr m M []
abbrev kbD:NC:=.seq Wq (.seq VU (.seq VT .ret))
variable {i b13 cbN:Nat} {C:Co} {k:List (List UInt8)} {YN:Ly}
theorem qvL {N:Co} {D:Dp} (hYN:YN.ok N) (hok:N.Ok) (hme:i < n) (hn7:n≤7) (hNn:N.n=n) (hNm:N.me=i) (h0:N.leads=[]∧N.recs=[]∧N.out=[]) (hD:N.top=D) (hT0:0≤D.g i) (hT1:D.g i≤1000)
  (hP:(N.zm kXc).2=.tuple #[pv (((i:Nat):Int),D.g i+1),.bool true]∧(N.zm kXc).1.leads.length=1∧(N.zm kXc).1.wishes.length=0)
  (H:Hq m M [] (qv b13 (.cells (dv D).toArray wm (0,0))::coA cbN YN N::L))
  (e10:E.get 10=.int .i64 (i:Nat)) (e11:E.get 11=lp cbN) (e13:E.get 13=lp b13) (h10:E.has 10=true) (h11:E.has 11=true) (h13:E.has 13=true) :
  wpN Tryz.prog kbD (kkQ m) E M:=by
 have hkk:∀ k∈zS N.lg,qN k:=fun k hk=>by
  obtain ⟨p,hp,rfl⟩:=List.mem_map.1 hk
  exact (hok.lg p hp).1
 have hpr:=fun M (hA:(coA cbN YN N).p M)=>We hA hYN kXc hkk (by rw [hNm,hD];omega) (by rw [hNm,hD];omega) hok.xl (by rw [h0.2.1];simp) (by rw [h0.1];simp) (by omega) (by omega) (by rw [h0.2.2];simp)
 rw [hP.1] at hpr
 have hl1:=hP.2.1
 have hl0:=hP.2.2
 generalize (N.zm kXc).1=N2 at *
 simp (disch:=omega) only [go_sem,undef,e10,e11,e13,h10,h11,h13]
 refine qY H (qZR 1 1 ⟨#[107]⟩ _) fun M f H=>?_
 have hxx:(Cmd.mk 2 1 1 ⟨#[107]⟩ noB noB noB)=kXc:=rfl
 rw [hxx]
 simp (disch:=omega) only [go_sem,undef,e10,e11,e13,h10,h11,h13]
 refine zq 1 H (hpr _ (H.at 1 rfl)) rfl fun u M A' hR f H=>?_
 refine hR.E fun Y2 eu hoY eA=>?_
 subst eu eA
 have H:Hq m M [] (qv b13 (.cells (dv D).toArray wm (0,0))::coA cbN Y2 N2::L):=H
 simp (disch:=omega) only [go_sem,undef,e10,e11,e13,h10,h11,h13]
 refine qh H fun b20 M f H=>?_
 simp (disch:=omega) only [go_sem,undef,e10,e11,e13,h10,h11,h13,H.cs]
 refine qs H rfl rfl fun M f H=>?_
 have H:Hq m M [] (qv b20 (.cells (pc (((i:Nat):Int),D.g i+1)).toArray qa (0,0))::qv b13 (.cells (dv D).toArray wm (0,0))::coA cbN Y2 N2::L):=H
 have hbusy:=fun M (hA:(coA cbN Y2 N2).p M)=>SK hA hoY
 have hz:((1:Nat):Int)=1:=rfl
 have hz0:((0:Nat):Int)=0:=rfl
 rw [hl1,hl0,hz,hz0] at hbusy
 simp (disch:=omega) only [go_sem,undef,e10,e11,e13,h10,h11,h13,H.cs]
 refine qY H (hbusy _ (H.at 2 rfl)) fun M f H=>?_
 have hdg:=Ng D i (by omega)
 simp (disch:=omega) only [go_sem,undef,e10,e11,e13,h10,h11,h13,H.cs,hdg]
 refine qY H (qqv _) fun M f H=>?_
 simp (disch:=omega) only [go_sem,undef]
 exact ⟨rfl,H.fr⟩
end Go.Fw
namespace Go.Fw
open Go.Proofs
variable {m m0 M:Mem} {S:List Nat} {L:List As}
variable {Q:Exit→Env→Mem→Prop} {E:Env} {wb n j b9 i b13 cbN:Nat} {V:Wv} {W:Wd} {x:Mv} {C N:Co} {YN:Ly} {D:Dp}
abbrev ksA:NC:=.seq Wy (.seq Ww (.seq Wk (.cond (.qq 176) (.seq Wx .ret) .skip)))
abbrev k3L (b13 cbN wb:Nat) (D:Dp) (YN:Ly) (N:Co) (V:Wv) (W:Wd):List As:=[qv b13 (.cells (dv D).toArray wm (0,0)),coA cbN YN N,wdA wb V W]
abbrev ksE (wb i cbN b13:Nat) (r s:Int):Env:=[(7,lp wb),(10,.int .i64 (i:Nat)),(11,lp cbN),(13,lp b13),(14,.int .i64 r),(15,.int .i64 s)]
theorem qxg {r s:Int} (hn:W.n=n) (hV:V.ok W) (hC:W.cores[i]?=some C) (hlg:N.lg=C.lg)
  (H:Hq m M [] (k3L b13 cbN wb D YN N V W))
  (K:∀ M E',E'.get 7=lp wb→E'.get 10=.int .i64 (i:Nat)→E'.get 11=lp cbN→E'.get 13=lp b13→E'.get 14=.int .i64 r→E'.get 15=.int .i64 s→E'.has 7=true→E'.has 10=true→E'.has 11=true→E'.has 13=true→E'.has 14=true→E'.has 15=true→Hq m M [] (k3L b13 cbN wb D YN N V W)→Q .normal E' M)
  (e7:E.get 7=lp wb) (e10:E.get 10=.int .i64 (i:Nat)) (e11:E.get 11=lp cbN) (e13:E.get 13=lp b13) (e14:E.get 14=.int .i64 r) (e15:E.get 15=.int .i64 s)
  (h7:E.has 7=true) (h10:E.has 10=true) (h11:E.has 11=true) (h13:E.has 13=true) (h14:E.has 14=true) (h15:E.has 15=true) :
  wpN Tryz.prog ksA Q E M:=by
 have hNc:=fun M (hA:(coA cbN YN N).p M)=>ZH hA (r,s)
 rw [hlg] at hNc
 refine Exists.elim (cr hV hC) fun v hv=>?_
 have hWc:=fun M (hA:(wdA wb V W).p M)=>ZH (qZI hA hv.1 hC) (r,s)
 have hvl:=(List.getElem?_eq_some_iff.1 hv.1).1
 generalize (lkC (r,s) C.lg).isSome=o at hNc hWc
 generalize (lkC (r,s) C.lg).getD Cel.zero=c at hNc hWc
 simp (disch:=omega) only [go_sem,undef,e7,e10,e11,e13,e14,e15,h7,h10,h11,h13,h14,h15]
 refine qY H (hNc _ (H.at 1 rfl)) fun M f H=>?_
 simp (disch:=omega) only [go_sem,undef]
 refine qh H fun b16 M f H=>?_
 simp (disch:=omega) only [go_sem,undef,H.cs]
 refine qs H rfl rfl fun M f H=>?_
 have H:Hq m M [] (qv b16 (.cells c.cs.toArray qd (0,0))::k3L b13 cbN wb D YN N V W):=H
 have hcr:=Yj (H.at 3 rfl)
 refine Exists.elim hcr.form fun ca hcv=>Exists.elim hcv fun cc hcv=>?_
 rw [hcv] at hcr
 refine RdS.elK hcr hvl (by decide) fun bx3 o3 v' hv' hix3 hE3=>?_
 have ev:v'=v:=Option.some.inj (hv'.symm.trans hv.1)
 subst ev
 have hp0:(cpL v')[0]?=some (lp v'.1):=rfl
 have hc:=ji (H.at 3 rfl)
 simp (disch:=omega) only [go_sem,undef,e7,e10,e11,e13,e14,e15,h7,h10,h11,h13,h14,h15,hc,wdC,hcv,hix3,hE3.ld0,hp0]
 refine qY H (hWc _ (H.at 3 rfl)) fun M f H=>?_
 simp (disch:=omega) only [go_sem,undef]
 refine qh H fun b18 M f H=>?_
 simp (disch:=omega) only [go_sem,undef,H.cs]
 refine qs H rfl rfl fun M f H=>?_
 have H:Hq m M [] (qv b18 (.cells c.cs.toArray qd (0,0))::qv b16 (.cells c.cs.toArray qd (0,0))::k3L b13 cbN wb D YN N V W):=H
 simp (disch:=omega) only [go_sem,undef,H.cs,bne_self_eq_false]
 exact K M _ rfl rfl rfl rfl rfl rfl rfl rfl rfl rfl rfl rfl H.tail.tail
abbrev qQn:NC:=.seq ZJ (.block 2 (.loop [7,10,11,13,14] Yr))
theorem UH (hn:W.n=n) (hn7:n≤7) (hV:V.ok W) (hC:W.cores[i]?=some C) (hlg:N.lg=C.lg) (hD:∀ r < 7,0≤D.g r∧D.g r≤1000)
  (H:Hq m M [] (k3L b13 cbN wb D YN N V W))
  (K:∀ M E',E'.get 7=lp wb→E'.get 10=.int .i64 (i:Nat)→E'.get 11=lp cbN→E'.get 13=lp b13→E'.has 7=true→E'.has 10=true→E'.has 11=true→E'.has 13=true→Hq m M [] (k3L b13 cbN wb D YN N V W)→Q .normal E' M)
  (e7:E.get 7=lp wb) (e10:E.get 10=.int .i64 (i:Nat)) (e11:E.get 11=lp cbN) (e13:E.get 13=lp b13)
  (h7:E.has 7=true) (h10:E.has 10=true) (h11:E.has 11=true) (h13:E.has 13=true) :
  wpN Tryz.prog qQn Q E M:=by
 show wpN Tryz.prog (.seq ZJ (.block 2 (.loop [7,10,11,13,14] (.seq (.seq WJ (.cond (.qq 137) .skip (.exit 2))) (.seq (.block 3 (.seq WZ (.block 4 (.loop [7,10,11,13,14,15] (.seq (.seq WQ (.cond (.qq 144) .skip (.exit 4))) (.seq (.block 5 ksA) Wj)))))) Wz))))) Q E M
 generalize hT:ksA=T
 simp (disch:=omega) only [go_sem,undef,e7,e10,e11,e13,h7,h10,h11,h13]
 refine ql (fun k E m'=>∃ (r:Nat),r≤n∧k=n - r∧E=[(7,lp wb),(10,.int .i64 (i:Nat)),(11,lp cbN),(13,lp b13),(14,.int .i64 (r:Nat))]∧Hq m m' [] (k3L b13 cbN wb D YN N V W)) n rfl ⟨0,by omega,rfl,rfl,H⟩ ?_
 clear H e7 e10 e11 e13 h7 h10 h11 h13
 rintro k E M1 ⟨r,hr,rfl,rfl,H⟩
 have hc:=ji (H.at 2 rfl)
 by_cases hlt:r < n
 ·have hDr:=hD r (by omega)
  have hdg:=Ng D r (by omega)
  simp (disch:=omega) only [go_sem,undef,hc,wdC,hn,qX (show ((r:Nat):Int) < (n:Nat) by omega)]
  refine ql (fun k E m'=>∃ (s:Int),1≤s∧s≤D.g r+1∧k=(D.g r+1 - s).toNat∧E=ksE wb i cbN b13 (r:Nat) s∧Hq m m' [] (k3L b13 cbN wb D YN N V W)) (D.g r).toNat rfl ⟨1,by omega,by omega,by omega,rfl,H⟩ ?_
  clear H hc
  rintro k E M2 ⟨s,hs1,hs2,rfl,rfl,H⟩
  by_cases hsl:s≤D.g r
  ·simp (disch:=omega) only [go_sem,undef,H.cs,hdg,qX hsl]
   subst hT
   refine qxg (r:=(r:Nat)) (s:=s) hn hV hC hlg H (fun M E' g7 g10 g11 g13 g14 g15 k7 k10 k11 k13 k14 k15 H=>?_) rfl rfl rfl rfl rfl rfl rfl rfl rfl rfl rfl rfl
   simp (disch:=omega) only [go_sem,undef,g7,g10,g11,g13,g14,g15,k7,k10,k11,k13,k14,k15]
   exact qV (D.g r+1 - (s+1)).toNat (by omega) ⟨s+1,by omega,by omega,rfl,rfl,H⟩
  ·simp (disch:=omega) only [go_sem,undef,H.cs,hdg,qZ hsl]
   exact qV (n - (r+1)) (by omega) ⟨r+1,by omega,rfl,rfl,H⟩
 ·simp (disch:=omega) only [go_sem,undef,hc,wdC,hn,qZ (show ¬ ((r:Nat):Int) < (n:Nat) by omega)]
  exact K M1 _ rfl rfl rfl rfl rfl rfl rfl rfl H
end Go.Fw
namespace Go.Fw
open Go.Proofs
variable {m m0 M:Mem} {S:List Nat} {L:List As}
variable {Q:Exit→Env→Mem→Prop} {E:Env} {wb n j b9 i b13 cbN:Nat} {V:Wv} {W:Wd} {x:Mv} {C N:Co} {YN:Ly} {D:Dp}
theorem Co.Ok.keys (h:C.Ok):∀ k∈zS C.lg,qN k:=fun k hk=>by
 obtain ⟨p,hp,rfl⟩:=List.mem_map.1 hk
 exact (h.lg p hp).1
abbrev knB:NC:=.seq (.seq ZV (.cond (.qq 129) (.seq ZK .ret) .skip)) (.seq ZX (.seq qQn kbD))
abbrev knA:NC:=.seq ZY (.seq ZW knB)
theorem qQl {k:List (List UInt8)} (hV:V.ok W) (hW:WI W n 80) (hi:i < n) (hC:W.cores[i]?=some C) (hci:CI C n i 80 k) (hYN:YN.ok N) (hN:N=Co.jc n i Dp.zero k)
  (H:Hq m M [] [coA cbN YN N,wdA wb V W])
  (e7:E.get 7=lp wb) (e10:E.get 10=.int .i64 (i:Nat)) (e11:E.get 11=lp cbN) (e12:E.get 12=.int .i64 0) (h7:E.has 7=true) (h10:E.has 10=true) (h11:E.has 11=true) (h12:E.has 12=true) :
  wpN Tryz.prog knB (kkQ m) E M:=by
 have hn3:=hW.n3
 have hokN:N.Ok:=hN▸MA hn3 hi k
 have hout:N.recs=[]∧N.out=[]:=hN▸eK n i Dp.zero k
 have hcut:=eV n i k
 have hP:=hci.prop hn3 hi (by omega)
 have hlg:N.lg=C.lg:=hN▸hci.same.1
 have htop:N.top=C.top:=hN▸hci.same.2
 rw [← hN] at hcut hP
 have hT:=fun r hr=>hci.inv.top r hr
 have hTN:=fun M (hA:(coA cbN YN N).p M)=>Gk hA hokN.keys
 have hokC:=hci.ok
 refine Exists.elim (cr hV hC) fun v hv=>?_
 have hTW:=fun M (hA:(wdA wb V W).p M)=>Gk (qZI hA hv.1 hC) hokC.keys
 rw [htop] at hTN
 generalize hD:C.top=D at hT hP hTN hTW htop
 clear hD
 have hvl:=(List.getElem?_eq_some_iff.1 hv.1).1
 show wpN Tryz.prog (.seq (.seq ZV (.cond (.qq 129) (.seq ZK .ret) .skip)) (.seq ZX (.seq qQn kbD))) (kkQ m) E M
 generalize hT1:qQn=T1
 generalize hT2:kbD=T2
 have hcr:=Yj (H.at 1 rfl)
 refine Exists.elim hcr.form fun ca hcv=>Exists.elim hcv fun cc hcv=>?_
 rw [hcv] at hcr
 refine RdS.elK hcr hvl (by decide) fun bx3 o3 v' hv' hix3 hE3=>?_
 have ev:v'=v:=Option.some.inj (hv'.symm.trans hv.1)
 subst ev
 have hp0:(cpL v')[0]?=some (lp v'.1):=rfl
 have hc:=ji (H.at 1 rfl)
 simp (disch:=omega) only [go_sem,undef,e7,e10,e11,e12,h7,h10,h11,h12,hc,wdC,hcv,hix3,hE3.ld0,hp0,Option.isNone_some]
 refine qY H (hTN _ (H.at 0 rfl)) fun M f H=>?_
 have hE3:=hE3.frame f
 have hc:=ji (H.at 1 rfl)
 simp (disch:=omega) only [go_sem,undef,e7,e10,e11,e12,h7,h10,h11,h12,hc,wdC,hcv,hix3,hE3.ld0,hp0]
 refine qY H (hTW _ (H.at 1 rfl)) fun M f H=>?_
 simp (disch:=omega) only [go_sem,undef,e7,e10,e11,e12,h7,h10,h11,h12]
 refine qY H (hTN _ (H.at 0 rfl)) fun M f H=>?_
 simp (disch:=omega) only [go_sem,undef]
 refine qh H fun b13 M f H=>?_
 simp (disch:=omega) only [go_sem,undef,H.cs]
 refine qs H rfl rfl fun M f H=>?_
 have H:Hq m M [] (k3L b13 cbN wb D YN N V W):=H
 simp (disch:=omega) only [go_sem,undef,e7,e10,e11,h7,h10,h11]
 subst hT1
 refine UH hW.num (by omega) hV hC hlg (fun r hr=>⟨(hT r hr).1,by have:=(hT r hr).2;omega⟩) H (fun M E' g7 g10 g11 g13 k7 k10 k11 k13 H=>?_) rfl rfl rfl rfl rfl rfl rfl rfl
 subst hT2
 exact qvL hYN hokN hi (by omega) hcut.2.2.1 hcut.2.2.2.1 ⟨hcut.2.2.2.2.1,hout.1,hout.2⟩ htop (hT i (by omega)).1 (by have:=(hT i (by omega)).2;omega) hP H g10 g11 g13 k10 k11 k13
theorem qvI {who:Int} (hw:R64 who) (hV:V.ok W) (hW:WI W n 80)
  (H:Hq m M [] [wdA wb V W])
  (e2:E.get 2=.int .i64 who) (e7:E.get 7=lp wb) (h2:E.has 2=true) (h7:E.has 7=true) :
  wpN Tryz.prog knA (kkQ m) E M:=by
 have hn3:=hW.n3
 have hnum:=hW.num
 have hc:=ji (H.at 0 rfl)
 show wpN Tryz.prog (.seq ZY (.seq ZW knB)) (kkQ m) E M
 generalize hT:knB=T
 simp (disch:=omega) only [go_sem,undef,e2,e7,h2,h7,hc,wdC,hnum]
 refine GV H (aO who 0 ((n:Nat) - 1) (by omega) hw (by decide) (by omega)) fun u M hR f H=>?_
 refine Exists.elim hR fun r hr=>?_
 have eu:=hr.1
 subst eu
 refine Exists.elim (⟨r.toNat,by omega⟩:∃ i:Nat,r=(i:Nat)) fun i hi=>?_
 subst hi
 have hin:i < n:=by omega
 refine Exists.elim (hW.kp hin) fun C hk=>Exists.elim hk fun k hk=>?_
 have hC:=hk.1
 have hkk:=hk.2.1
 have hci:=hk.2.2
 have hg:=(hW.qQu (by omega)).ke k (List.mem_of_getElem? hkk)
 have hil:=(List.getElem?_eq_some_iff.1 hC).1
 have hkl2:=(List.getElem?_eq_some_iff.1 hkk).1
 have hl1:=hV.cs
 have hl2:=hV.ks
 refine Exists.elim (⟨V.ks[i]'(by omega),List.getElem?_eq_getElem (by omega)⟩:∃ v,V.ks[i]?=some v) fun kv hkv=>?_
 have hkr:=qzj (H.at 0 rfl)
 refine Exists.elim hkr.form fun ka hkf=>Exists.elim hkf fun kc hkf=>?_
 rw [hkf] at hkr
 have hbr:(kvA kv k).p M:=Tc (f:=kvA) (zy (H.at 0 rfl) (zw kvA V.ks W.kept) (by simp [wdL])) hkv hkk
 refine RdS.elK hkr (show i < V.ks.length by omega) (by decide) fun bx o v' hv' hix hE=>?_
 have ev:v'=kv:=Option.some.inj (hv'.symm.trans hkv)
 subst ev
 have hp0:(kpL v')[0]?=some v'.1:=rfl
 have hc:=ji (H.at 0 rfl)
 have hz:[Value.int .i64 0,.int .i64 0,.int .i64 0,.int .i64 0,.int .i64 0,.int .i64 0,.int .i64 0]=dv Dp.zero:=rfl
 have hnew:=Gv n i hn3 hin Dp.zero mj M (v:=v'.1) (vs:=v'.2) (ls:=k) (Oa hbr) (gZ hbr) (fun j w b hw hb=>⟨qqF hbr hw hb,hg.2 b (List.mem_of_getElem? hb)⟩) (by omega)
 simp (disch:=omega) only [go_sem,undef,e7,h7,hc,wdC,hkf,hix,hE.ld0,hp0,hnum]
 refine xd H hnew fun u M A' hR f H=>?_
 refine Exists.elim hR fun cb hR=>Exists.elim hR fun Y' hR=>?_
 have hoY:=hR.1
 have eu:=hR.2.1
 have eA:=hR.2.2
 subst eu eA
 clear hR hnew hbr hix hE hkr hc
 simp (disch:=omega) only [go_sem,undef]
 subst hT
 exact qQl hV hW hin hC hci hoY rfl H rfl rfl rfl rfl rfl rfl rfl rfl
theorem ch3 (r:Int) (h0:0≤r) (h2:r≤2):∃ (k n:Nat),r=(k:Nat)∧k < 3∧([.int .i64 3,.int .i64 5,.int .i64 7]:List Value)[k]?=some (.int .i64 (n:Nat))∧(n=3∨n=5∨n=7):=by
 have:r=0∨r=1∨r=2:=by omega
 rcases this with rfl | rfl | rfl
 ·exact ⟨0,3,rfl,by decide,rfl,.inl rfl⟩
 ·exact ⟨1,5,rfl,by decide,rfl,.inr (.inl rfl)⟩
 ·exact ⟨2,7,rfl,by decide,rfl,.inr (.inr rfl)⟩
theorem qxf:Xl=.seq Yp (.seq Yo (.seq (.seq Yn (.cond (.qq 31) (.seq Ym .ret) .skip)) (.seq klA knA))):=rfl
theorem qqw (nn who:Int) {v:Value} {l:List Mv} (hn:R64 nn) (hw:R64 who) (m:Mem) (hl:RdS 12 Mv.cs m v l) (hx:∀ x∈l,qvd x):MC Tryz.prog tn [.int .i64 nn,v,.int .i64 who] m fun u M=>u=.bool true∧Fr m M []:=by
 obtain ⟨a,c,rfl⟩:=hl.form
 refine rW (by simp [Tryz.f33]) ?_
 rw [qxf]
 generalize hT:klA=T
 generalize hT2:knA=T2
 have H:=Hq.refl m []
 simp (disch:=omega) only [go_sem,undef]
 refine qh H fun b3 M f H=>?_
 simp (disch:=omega) only [go_sem,undef,H.cs]
 refine GV H (aO nn 0 2 (by decide) hn (by decide) (by decide)) fun u M hR f H=>?_
 refine Exists.elim hR fun r hr=>?_
 have eu:=hr.1
 subst eu
 refine Exists.elim (ch3 r hr.2.1 hr.2.2) fun k hk=>Exists.elim hk fun n hk=>?_
 have ek:=hk.1
 have hk3:=hk.2.1
 have hkn:=hk.2.2.1
 have hn357:=hk.2.2.2
 subst ek
 clear hk hr hR
 simp (disch:=omega) only [go_sem,undef,H.cs,hkn]
 refine xd H (qQE n hn357 _) fun u M A' hR f H=>?_
 refine Exists.elim hR fun wb hh=>Exists.elim hh fun V hh=>?_
 have hV:=hh.1
 have eu:=hh.2.1
 have eA:=hh.2.2
 subst eu eA
 clear hh hR
 simp (disch:=omega) only [go_sem,undef,Option.isNone_some]
 subst hT
 refine UG hl hx hV (qvT hn357) (H.sel 2 [0] rfl (by decide) (by decide)) (fun V' W' M E' g2 g7 k2 k7 hV' hW' H=>?_) rfl rfl rfl rfl rfl rfl
 subst hT2
 exact qvI hw hV' hW' H g2 g7 k2 k7
theorem qKl:Dec [.i .i64,.i .i64,.i .i64,.i .i64,.i .i64,.i .i64,.s,.s,.s,.s,.i .i64,.i .i64] Mv.cs qvd :=
 Dec.seq (Dec.seq CF Gq (e:=fun p:Int×Int×Int=>[.int .i64 p.1,.int .i64 p.2.1,.int .i64 p.2.2]) (o:=fun p=>R64 p.1∧R64 p.2.1∧R64 p.2.2) (fun a b=>(a,b.1,b.2)) (fun _ _=>rfl) fun _ _ h1 h2=>⟨h1,h2⟩)
  (Dec.seq qZd Gq (e:=fun p:Cmd×Int×Int=>p.1.cs++pc p.2) (o:=fun p=>okC p.1∧ok2 p.2) (fun a b=>(a,b)) (fun _ _=>rfl) fun _ _ h1 h2=>⟨h1,h2⟩)
  (fun a b=>⟨a.1,a.2.1,a.2.2,b.1,b.2⟩) (fun _ _=>rfl) fun _ _ h1 h2=>⟨h1.1,h1.2.1,h1.2.2,h2.1,h2.2⟩
end Go.Fw
