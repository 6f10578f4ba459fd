import Derived.Test.YtimedjfpihdffaaGreatCtY
import Derived.Test.YtimedjfpihdffaaGreatCqZ
import Derived.Test.YtimedjfpihdffaaGreatCtX
set_option linter.unusedVariables false
set_option linter.unusedSimpArgs false
set_option maxHeartbeats 16000000
namespace Go.Fw
open Go.Proofs
variable {key:ByteArray} {o r n:Nat} {K K':Int} {a b:Att} {c:Cel} {C:Co}
structure Key(key:ByteArray):Prop where
 ne:key≠noB
 sz:key.size≤16
def cX(key:ByteArray)(o:Nat):Cmd:=⟨2,((o:Nat):Int)+1,1,key,noB,noB,noB⟩
def dS(o:Nat)(s:Int):Att:=⟨s,Dp.up Dp.zero (1 - o) 1⟩
def okT(o:Nat)(K:Int)(a:Att):Prop:=a=Att.zero∨∃ s,1≤s∧s≤K∧a=dS o s
theorem okT.up(h:okT o K a)(hk:K≤K'):okT o K' a:=h.imp id λ⟨s,h1,h2,e⟩=>⟨s,h1,by omega,e⟩
theorem okT.seq(h:okT o K a)(hK:0≤K):0≤a.seq∧a.seq≤K:=by
 rcases h with rfl | ⟨s,h1,h2,rfl⟩
 ·exact ⟨Int.le_refl _,hK⟩
 ·exact ⟨by show 0≤s;omega,h2⟩
theorem Lq{s:Int}(h:1≤s):dS o s≠Att.zero:=λe=>by
 have:s=0:=congrArg Att.seq e
 omega
theorem qzc(o k:Nat):0≤(Dp.up Dp.zero (1 - o) 1).g k∧(Dp.up Dp.zero (1 - o) 1).g k≤1:=by
 rw [Dp.dg,z_g]
 split<;>decide
theorem okT.right(h:okT o K a)(hK:K≤1000000):xC a:=by
 rcases h with rfl | ⟨s,h1,h2,rfl⟩
 ·exact zr
 ·refine ⟨λi=>?_,by show 0≤s;omega,by show s≤1099511627776;omega⟩
  have h3:=qzc o i.val
  have h4:=Dp.qxa (Dp.up Dp.zero (1 - o) 1) i
  show 0≤(Dp.up Dp.zero (1 - o) 1) i∧(Dp.up Dp.zero (1 - o) 1) i≤1073741824
  omega
theorem VK(h:Key key)(ho:o < 2):(cX key o).right:=by
 refine .inr ⟨show (1:Int)≤2 by decide,show (2:Int)≤5 by decide,by show 1≤((o:Nat):Int)+1;omega,by show ((o:Nat):Int)+1≤8;omega,show (1:Int)≤1 by decide,show (1:Int)≤1099511627776 by decide,?_,h.sz,show noB.size≤16 by decide,show noB.size≤64 by decide,show noB.size≤64 by decide,.inl h.ne⟩
 simp [cX,Cmd.bare]
theorem Hz:∀ l:List UInt8,Op.bytesLess l (l++[0])=true
 | []=>rfl
 | a::l=>by
  have:=Hz l
  simp [Op.bytesLess,this]
theorem qkq{p q:Nat}:Qj (cX key p) (cX key q):=by
 have hu:Bl key (key++⟨#[0]⟩):=by
  refine .inr ?_
  have:(key++(⟨#[0]⟩:ByteArray)).data.toList=key.data.toList++[0]:=by simp
  rw [this]
  exact Hz _
 refine ⟨rfl,rfl,.inr ⟨.inl (.inl rfl),?_⟩⟩
 show rR ⟨key,key++⟨#[0]⟩⟩ ⟨key,key++⟨#[0]⟩⟩
 exact ⟨λh=>h hu,λh=>h hu,hu,hu⟩
theorem IH(h:okT o K a):zG Att.zero a=a:=by
 rcases h with rfl | ⟨s,h1,h2,rfl⟩
 ·exact qwb
 ·unfold zG dS
  rw [Att.mk.injEq]
  refine ⟨Int.max_eq_right (by show (0:Int)≤s;omega),Dp.fT λk hk=>?_⟩
  have:Dp.g (λi=>max (Att.zero.deps i) ((Dp.up Dp.zero (1 - o) 1) i)) k=max (Att.zero.deps.g k) ((Dp.up Dp.zero (1 - o) 1).g k):=by simp [Dp.g,hk]
  rw [this]
  have h0:Att.zero.deps.g k=0:=z_g k
  have:=qzc o k
  omega
theorem qwd(o:Nat)(s t:Int):zG (dS o s) (dS o t)=dS o (max s t):=by
 unfold zG dS
 rw [Att.mk.injEq]
 exact ⟨rfl,funext λi=>Int.max_self _⟩
theorem join_comm(a b:Att):zG a b=zG b a:=by
 unfold zG
 rw [Att.mk.injEq]
 exact ⟨Int.max_comm ..,funext λi=>Int.max_comm ..⟩
theorem qwc(ha:okT o K a)(hb:okT o K b):okT o K (zG a b)∧(zG a b=Att.zero→a=Att.zero∧b=Att.zero):=by
 rcases ha with rfl | ⟨s,h1,h2,rfl⟩
 ·rw [IH hb];exact ⟨hb,λe=>⟨rfl,e⟩⟩
 rcases hb with rfl | ⟨t,h3,h4,rfl⟩
 ·rw [join_comm,IH (.inr ⟨s,h1,h2,rfl⟩)];exact ⟨.inr ⟨s,h1,h2,rfl⟩,λe=>absurd e (Lq h1)⟩
 ·rw [qwd]
  exact ⟨.inr ⟨_,by omega,by omega,rfl⟩,λe=>absurd e (Lq (by omega))⟩
theorem Np:∀ (l:List Att) (a:Att),okT o K a→(∀ b∈l,okT o K b)→okT o K (l.foldl zG a)∧(l.foldl zG a=Att.zero→a=Att.zero∧∀ b∈l,b=Att.zero)
 | [],a,h,_=>⟨h,λe=>⟨e,by simp⟩⟩
 | b::l,a,h,hl=>by
  have h1:=qwc h (hl b (List.mem_cons_self ..))
  have h2:=Np l (zG a b) h1.1 λd hd=>hl d (List.mem_cons_of_mem _ hd)
  refine ⟨h2.1,λe=>?_⟩
  obtain ⟨e1,e2⟩:=h2.2 e
  obtain ⟨e3,e4⟩:=h1.2 e1
  exact ⟨e3,λd hd=>by
   rcases List.mem_cons.1 hd with rfl | hd
   ·exact e4
   ·exact e2 d hd⟩
theorem XN{p q:Nat}:fId p=fId q↔p=q:=by
 unfold fId
 constructor
 ·intro h
  have:((p:Nat):Int)=(q:Nat):=congrArg Prod.fst h
  omega
 ·rintro rfl;rfl
theorem qkw{xl:wY}(ho:o < 2)(hk:∀ k∈zB xl,k=fId 0∨k=fId 1)(hs:∀ v,lkN (fId (1 - o)) xl=some v→v.cmd=cX key (1 - o)∧0≤v.seq) :
  zp iW xl (fId o) (cX key o)=match lkN (fId (1 - o)) xl with
   | none=>Att.zero
   | some v=>dS o (v.seq+1):=by
 have hk2:∀ k∈zB xl,k=fId o∨k=fId (1 - o):=λk hm=>by
  rcases hk k hm with e | e<;>subst e<;>(have:o=0∨o=1:=by omega)<;>rcases this with rfl | rfl<;>simp
 have hself:∀ a:Att,aN xl (fId o) (cX key o) a (fId o)=a:=λa=>by
  unfold aN cT
  exact if_pos (.inl ⟨rfl,Int.le_refl _⟩)
 have hD:∀ d:Dp,(∀ k,k < 7→0≤d.g k)→uc iW (fId o) d=d:=λd hd=>Dp.fT λk h7=>by
  have:=hd k h7
  rw [LS _ _ _ _ h7,cI]
  have e:(fId o).2 - 1=0:=rfl
  split
  ·omega
  ·split
   ·rw [e];omega
   ·rfl
 cases hv:lkN (fId (1 - o)) xl with
 | none =>
  have hne:∀ k∈zB xl,k=fId o:=λk hm=>by
   rcases hk2 k hm with e | e
   ·exact e
   ·exact absurd (e▸hm) (DJ.1 hv)
  have:∀ (ks:List (Int×Int)) (a:Att),(∀ k∈ks,k=fId o)→ks.foldl (aN xl (fId o) (cX key o)) a=a:=by
   intro ks
   induction ks with
   | nil=>exact λ_ _=>rfl
   | cons k ks ih =>
    intro a h
    rw [List.foldl_cons,h k (List.mem_cons_self ..),hself]
    exact ih a λd hd=>h d (List.mem_cons_of_mem _ hd)
  unfold zp rW
  rw [this _ _ hne,hD _ λk _=>by show 0≤Dp.zero.g k;rw [z_g];exact Int.le_refl _]
 | some v =>
  obtain ⟨ec,hsq⟩:=hs v hv
  have hot:∀ a:Att,a=Att.zero∨a=dS o (v.seq+1)→aN xl (fId o) (cX key o) a (fId (1 - o))=dS o (v.seq+1):=λa ha=>by
   unfold aN cT
   rw [hv]
   have hn:¬ (((fId (1 - o)).1=(fId o).1∧(fId o).2≤(fId (1 - o)).2)∨¬ Qj ((some v).getD qC.zero).cmd (cX key o)):=by
    rintro (e | e)
    ·have e:=e.1
     simp [fId] at e
     omega
    ·refine e ?_
     show Qj v.cmd (cX key o)
     rw [ec];exact qkq
   rw [if_neg hn]
   show (⟨max a.seq (v.seq+1),Dp.up a.deps (((1 - o:Nat):Int).toNat) (max (a.deps.g (((1 - o:Nat):Int).toNat)) 1)⟩:Att)=dS o (v.seq+1)
   rw [Int.toNat_natCast]
   rcases ha with rfl | rfl
   ·unfold dS
    rw [Att.mk.injEq]
    refine ⟨Int.max_eq_right (by show (0:Int)≤v.seq+1;omega),?_⟩
    have:Att.zero.deps.g (1 - o)=0:=z_g _
    rw [this];rfl
   ·unfold dS
    rw [Att.mk.injEq]
    refine ⟨Int.max_self _,?_⟩
    show Dp.up (Dp.up Dp.zero (1 - o) 1) (1 - o) (max ((Dp.up Dp.zero (1 - o) 1).g (1 - o)) 1)=_
    have:(Dp.up Dp.zero (1 - o) 1).g (1 - o)=1:=by rw [Dp.dg,if_pos ⟨rfl,by omega⟩]
    rw [this]
    funext i
    unfold Dp.up
    split<;>rfl
  have hin:fId (1 - o)∈zB xl:=Classical.byContradiction λh=>by
   rw [DJ.2 h] at hv
   exact nomatch hv
  have:∀ (ks:List (Int×Int)) (a:Att),(∀ k∈ks,k=fId o∨k=fId (1 - o))→(a=Att.zero∨a=dS o (v.seq+1))→(fId (1 - o)∈ks∨a=dS o (v.seq+1))→ks.foldl (aN xl (fId o) (cX key o)) a=dS o (v.seq+1):=by
   intro ks
   induction ks with
   | nil =>
    intro a _ _ h
    rcases h with h | h
    ·exact nomatch h
    ·exact h
   | cons k ks ih =>
    intro a h ha hm
    rw [List.foldl_cons]
    rcases h k (List.mem_cons_self ..) with e | e
    ·rw [e,hself]
     refine ih a (λd hd=>h d (List.mem_cons_of_mem _ hd)) ha (hm.imp (λhm=>?_) id)
     rcases List.mem_cons.1 hm with e2 | hm
     ·have:=XN.1 (e2.trans e)
      omega
     ·exact hm
    ·rw [e,hot a ha]
     exact ih _ (λd hd=>h d (List.mem_cons_of_mem _ hd)) (.inr rfl) (.inr rfl)
  unfold zp rW
  rw [this _ _ hk2 (.inl rfl) (.inl hin),hD (dS o (v.seq+1)).deps λk _=>(qzc o k).1]
structure CeB(key:ByteArray)(K:Int)(o:Nat)(c:Cel):Prop where
 pr:c.pr=(0,0)
 vo:c.vo=(0,0)
 cmd:c.cmd=cX key o
 st:c.st=1∨c.st=2∨c.st=3
 same:c.same=true→c.st=1
 att:okT o K c.att
theorem CeB.up(h:CeB key K o c)(hk:K≤K'):CeB key K' o c:=⟨h.pr,h.vo,h.cmd,h.st,h.same,h.att.up hk⟩
theorem CeB.right(h:CeB key K o c)(hk:Key key)(ho:o < 2)(hK:K≤1000000):c.right:=by
 have hs:=h.st
 refine ⟨by omega,by omega,by rw [h.pr];decide,by rw [h.vo];decide,by rw [h.pr,h.vo];decide,λe=>⟨h.same e,h.vo⟩,λe=>by omega,by rw [h.cmd];exact VK hk ho,h.att.right hK⟩
structure CB(n:Nat)(key:ByteArray)(K:Int)(r:Nat)(C:Co):Prop where
 n:C.n=n
 me:C.me=r
 cut:C.cut=iW
 xcut:C.xcut=iW
 wish:C.wishes=[]
 wb:C.wb=[]
 kc:∀ k∈zw C.lg,k=fId 0∨k=fId 1
 kcd:(zw C.lg).Nodup
 kn:∀ k∈zB C.xl,k=fId 0∨k=fId 1
 knd:(zB C.xl).Nodup
 no:∀ o,o < 2→lkN (fId o) C.xl=(lkC (fId o) C.lg).map λc=>⟨c.cmd,c.att.seq⟩
 ce:∀ o,o < 2→∀ c,lkC (fId o) C.lg=some c→CeB key K o c
theorem CB.up(h:CB n key K r C)(hk:K≤K'):CB n key K' r C:=⟨h.n,h.me,h.cut,h.xcut,h.wish,h.wb,h.kc,h.kcd,h.kn,h.knd,h.no,λo ho c hc=>(h.ce o ho c hc).up hk⟩
def Co.upd(C:Co)(o:Nat)(c:Cel):Co:={ C with lg:=upC (fId o) c C.lg,xl:=upN (fId o) ⟨c.cmd,c.att.seq⟩ C.xl,recs:=C.recs++[lI (fId o) c] }
theorem TG{o:Nat}(ho:o < 2):fId o=fId 0∨fId o=fId 1:=by
 have:o=0∨o=1:=by omega
 rcases this with rfl | rfl
 ·exact .inl rfl
 ·exact .inr rfl
theorem CB.upd(h:CB n key K r C)(ho:o < 2)(hc:CeB key K o c):CB n key K r (C.upd o c):=by
 refine ⟨h.n,h.me,h.cut,h.xcut,h.wish,h.wb,λk hk=>?_,?_,λk hk=>?_,?_,λp hp=>?_,λp hp d hd=>?_⟩
 ·have hk:k∈zw (upC (fId o) c C.lg):=hk
  rw [Ni] at hk
  split at hk
  ·exact h.kc k hk
  ·rcases List.mem_append.1 hk with hk | hk
   ·exact h.kc k hk
   ·rw [List.mem_singleton.1 hk];exact TG ho
 ·show (zw (upC (fId o) c C.lg)).Nodup
  rw [Ni]
  split
  ·exact h.kcd
  ·rename_i hn
   exact List.nodup_append.2 ⟨h.kcd,by simp,λa ha b hb e=>by rw [List.mem_singleton.1 hb] at e;subst e;exact hn ha⟩
 ·have hk:k∈zB (upN (fId o) _ C.xl):=hk
  rw [Nh] at hk
  split at hk
  ·exact h.kn k hk
  ·rcases List.mem_append.1 hk with hk | hk
   ·exact h.kn k hk
   ·rw [List.mem_singleton.1 hk];exact TG ho
 ·show (zB (upN (fId o) _ C.xl)).Nodup
  rw [Nh]
  split
  ·exact h.knd
  ·rename_i hn
   exact List.nodup_append.2 ⟨h.knd,by simp,λa ha b hb e=>by rw [List.mem_singleton.1 hb] at e;subst e;exact hn ha⟩
 ·show lkN (fId p) (upN (fId o) ⟨c.cmd,c.att.seq⟩ C.xl)=(lkC (fId p) (upC (fId o) c C.lg)).map _
  rw [qZD,RB]
  split
  ·rfl
  ·exact h.no p hp
 ·have hd:lkC (fId p) (upC (fId o) c C.lg)=some d:=hd
  rw [RB] at hd
  split at hd
  ·rename_i e
   cases hd
   have:=XN.1 e
   subst this
   exact hc
  ·exact h.ce p hp d hd
theorem rh(C:Co)(o p:Nat)(c:Cel):lkC (fId p) (C.upd o c).lg=if p=o then some c else lkC (fId p) C.lg:=by
 show lkC (fId p) (upC (fId o) c C.lg)=_
 rw [RB]
 by_cases e:p=o
 ·subst e;simp
 ·rw [if_neg (λh=>e (XN.1 h)),if_neg e]
theorem CB.set(h:CB n key K r C)(hk:Key key)(hK:K≤1000000)(hK0:0≤K)(ho:o < 2)(hc:CeB key K o c)(hm:∀ w,lkC (fId o) C.lg=some w→w.st≤c.st∧w.st≠3):C.set (fId o) c=(C.upd o c,true):=by
 have hr:=hc.right hk ho hK
 have hi:zj (fId o):=Wx (by omega)
 have h1:eL C.cut C.lg (fId o) c:=by
  refine ⟨hi,by rw [h.cut,cI];simp [fId],hr,?_⟩
  cases e:lkC (fId o) C.lg with
  | none=>trivial
  | some w =>
   have hw:=h.ce o ho w e
   have h2:=hm w e
   show qqa w c
   refine ⟨λhh=>h2.2 hh.1,by rw [hw.pr,hc.pr];decide,by rw [hw.vo,hc.vo];decide,.inl h2.1⟩
 have hs:=hc.att.seq hK0
 have h2:dh C.xcut (fId o) c.cmd c.att.seq:=⟨hi,by rw [h.xcut,cI];simp [fId],by rw [hc.cmd];exact VK hk ho,hs.1,by omega⟩
 have h3:c.st≠0:=by have:=hc.st;omega
 unfold Co.set
 rw [if_pos h1]
 unfold Co.note
 rw [if_pos h3,if_pos h2]
 rfl
end Go.Fw
namespace Go.Fw
open Go.Proofs
variable {key:ByteArray} {o r n bk:Nat} {K K':Int} {a v:Att} {c:Cel} {C:Co}
def JI(o r:Nat)(a:Att):Lt:={ Lt.zero with kind:=2,src:=(r:Nat),dst:=(o:Nat),inst:=fId o,att:=a }
def JL(key:ByteArray)(o r:Nat)(v:Att):Lt:={ Lt.zero with kind:=3,src:=(o:Nat),dst:=(r:Nat),inst:=fId o,cmd:=cX key o,att:=v }
def akL(o r:Nat):Lt:={ Lt.zero with kind:=4,src:=(r:Nat),dst:=(o:Nat),inst:=fId o }
def cmL(key:ByteArray)(s r o:Nat)(v:Att):Lt:={ Lt.zero with kind:=5,src:=(s:Nat),dst:=(r:Nat),inst:=fId o,cmd:=cX key o,att:=v }
def prL(key:ByteArray)(o r:Nat):Lt:={ Lt.zero with kind:=1,src:=(o:Nat),dst:=(r:Nat),inst:=fId o,cmd:=cX key o,att:=Att.zero }
theorem ltR(k:Int)(hk:k=1∨k=2∨k=3∨k=4∨k=5){s d o:Nat}(hs:s < 7)(hd:d < 7)(hsd:s≠d)(ho:o < 7){x:Cmd}(hx:x.right){a:Att}(ha:xC a)(hb:({ Lt.zero with kind:=k,src:=(s:Nat),dst:=(d:Nat),inst:=fId o,cmd:=x,att:=a }:Lt)=({ Lt.zero with kind:=k,src:=(s:Nat),dst:=(d:Nat),inst:=fId o,cmd:=x,att:=a }:Lt).bare (Prt.of k)) :
  ({ Lt.zero with kind:=k,src:=(s:Nat),dst:=(d:Nat),inst:=fId o,cmd:=x,att:=a }:Lt).right :=
 ⟨⟨by show 1≤k;omega,by show k≤11;omega⟩,⟨by show (0:Int)≤(s:Nat);omega,by show ((s:Nat):Int) < 7;omega⟩,⟨by show (0:Int)≤(d:Nat);omega,by show ((d:Nat):Int) < 7;omega⟩,by show ((s:Nat):Int)≠(d:Nat);omega,hb,λ_=>Wx ho,show xY (0,0) by decide,hx,ha,Sl,zr,show noB.size≤16384 by decide⟩
theorem OZ:Cmd.zero.right:=.inl rfl
theorem CB.open(h:CB n key K r C){y:Lt}(hy:y.right)(hd:y.dst=(r:Nat))(hs:uf n y.src)(h9:y.kind < 9){o:Nat}(hi:y.inst=fId o)(hon:o < n):(C.take bk y).1=C.ZU bk y:=by
 unfold Co.take
 rw [if_neg (qwk hy (by rw [hd,h.me]) (by rw [h.n];exact hs) h9 (by rw [h.n,hi];exact qwt hon)),if_neg (qwx (y:=y.inst) h.cut (by rw [hi];show (0:Int) < 1;decide))]
theorem qxd{ls:List Ld}(hl:∀ l∈ls,l.id≠fId o):fdL (fId o) ls=none:=by
 unfold fdL
 rw [List.findIdx?_eq_none_iff]
 intro l hm
 exact decide_eq_false (hl l hm)
theorem RC(hl:∀ l∈C.leads,l.id≠fId o):C.zk (fId o)=C:=by
 unfold Co.zk
 rw [List.filter_eq_self.2 λl hm=>by simp [hl l hm]]
theorem MZ{i b:Int×Int}(h:fdL i C.leads=none):C.lD i b=C:=by
 unfold Co.lD
 rw [h]
theorem rY(x:Lt)(hi:x.inst=fId o)(hb:x.bal=(0,0))(hl:∀ l∈C.leads,l.id≠fId o){c:Cel}(hc:(lkC (fId o) C.lg).getD Cel.zero=c)(h3:¬ c.st=3)(hp:c.pr=(0,0)):C.asked x=C.cP x c (Ci x c):=by
 unfold Co.asked
 rw [hi,hc]
 unfold Co.Gg
 rw [if_neg h3,hb,hp,if_neg (show ¬ lt2 (0,0) (0,0) by decide),hi,MZ (qxd hl)]
def Co.say(C:Co)(y:Lt):Co:={ C with out:=C.out++[y] }
theorem Uy(h:CB n key K r C)(ho:o < 2)(x:Lt)(hi:x.inst=fId o)(hs:x.src=(o:Nat))(e:lkC (fId o) C.lg=some c)(h3:c.st=3):C.asked x=C.say (cmL key r o o c.att):=by
 unfold Co.asked
 rw [hi,e]
 unfold Co.Gg
 rw [if_pos (show ((some c).getD Cel.zero).st=3 from h3),hs,hi]
 show C.send (o:Nat) { Lt.zero with kind:=5,inst:=fId o,cmd:=c.cmd,att:=c.att }=_
 unfold Co.send Co.say cmL
 rw [(h.ce o ho c e).cmd,h.me]
structure AtO(n o r:Nat):Prop where
 o2:o < 2
 on:o < n
 rn:r < n
 ne:r≠o
 n7:n≤7
theorem CB.AO(h:CB n key K r C)(hk:Key key)(A:AtO n o r)(hl:∀ l∈C.leads,l.id≠fId o):(C.take bk (prL key o r)).1=C.asked (prL key o r):=by
 have ho:=A.o2
 have h1:=A.on
 have h2:=A.rn
 have h3:=A.ne
 have h7:=A.n7
 rw [h.open (y:=prL key o r) (o:=o) (ltR 1 (by simp) (by omega) (by omega) (Ne.symm h3) (by omega) (VK hk ho) zr rfl) rfl ⟨by show (0:Int)≤(o:Nat);omega,by show ((o:Nat):Int) < (n:Nat);omega⟩ (show (1:Int) < 9 by decide) rfl h1]
 exact if_pos (.inl rfl)
theorem Mo(h:CB n key K r C)(hk:Key key)(hK:K≤1000000)(hK0:0≤K)(A:AtO n o r)(hl:∀ l∈C.leads,l.id≠fId o)(e:lkC (fId o) C.lg=none)(ha:zp iW C.xl (fId o) (cX key o)=a)(hok:okT o K a) :
  (C.take bk (prL key o r)).1=(C.upd o ⟨1,(0,0),(0,0),cX key o,a,decide (a=Att.zero)⟩).say (JI o r a):=by
 have ho:=A.o2
 rw [h.AO hk A hl,rY (c:=Cel.zero) _ rfl rfl hl (by rw [e];rfl) (by decide) rfl]
 have how:Ci (prL key o r) Cel.zero=false:=rfl
 rw [how]
 unfold Co.cP
 rw [if_pos (show (prL key o r).kind=1 from rfl)]
 unfold Co.pre
 rw [if_neg (by decide)]
 have hj:zG (prL key o r).att (zp C.xcut C.xl (prL key o r).inst (prL key o r).cmd)=a:=by
  have:zp C.xcut C.xl (prL key o r).inst (prL key o r).cmd=a:=by rw [h.xcut];exact ha
  rw [this]
  exact IH hok
 rw [hj]
 unfold Co.Rw
 rw [if_pos (hok.right hK)]
 have hd:decide ((prL key o r).bal=(0,0)∧a=(prL key o r).att)=decide (a=Att.zero):=by
  have:((prL key o r).bal=(0,0)∧a=(prL key o r).att)=(a=Att.zero):=by
   apply propext
   exact ⟨λh=>h.2,λh=>⟨rfl,h⟩⟩
  simp only [this]
 rw [hd]
 have hs:C.set (prL key o r).inst ⟨1,(prL key o r).bal,(prL key o r).bal,(prL key o r).cmd,a,decide (a=Att.zero)⟩=_:=h.set hk hK hK0 ho (c:=⟨1,(0,0),(0,0),cX key o,a,decide (a=Att.zero)⟩) ⟨rfl,rfl,rfl,.inl rfl,λ_=>rfl,hok⟩ (λw hw=>by rw [e] at hw;exact nomatch hw)
 rw [hs]
 show (C.upd o _).send (o:Nat) (okL (prL key o r) a)=_
 unfold Co.send Co.say okL JI
 have:(C.upd o ⟨1,(0,0),(0,0),cX key o,a,decide (a=Att.zero)⟩).me=r:=h.me
 rw [this]
 rfl
theorem Uu(h:CB n key K r C)(hk:Key key)(A:AtO n o r)(hl:∀ l∈C.leads,l.id≠fId o)(e:lkC (fId o) C.lg=some c)(h1:c.st=1):(C.take bk (prL key o r)).1=C.say (JI o r c.att):=by
 have hc:=h.ce o A.o2 c e
 rw [h.AO hk A hl,rY (c:=c) _ rfl rfl hl (by rw [e];rfl) (by omega) hc.pr]
 have how:Ci (prL key o r) c=true:=decide_eq_true ⟨by omega,by rw [hc.vo];rfl⟩
 rw [how]
 unfold Co.cP
 rw [if_pos (show (prL key o r).kind=1 from rfl)]
 unfold Co.pre
 rw [if_pos rfl,if_pos h1]
 show C.send (o:Nat) (okL (prL key o r) c.att)=_
 unfold Co.send Co.say okL JI
 rw [h.me]
 rfl
theorem Ut(h:CB n key K r C)(hk:Key key)(A:AtO n o r)(hl:∀ l∈C.leads,l.id≠fId o)(e:lkC (fId o) C.lg=some c)(h1:c.st=2):(C.take bk (prL key o r)).1=C:=by
 have hc:=h.ce o A.o2 c e
 rw [h.AO hk A hl,rY (c:=c) _ rfl rfl hl (by rw [e];rfl) (by omega) hc.pr]
 have how:Ci (prL key o r) c=true:=decide_eq_true ⟨by omega,by rw [hc.vo];rfl⟩
 rw [how]
 unfold Co.cP
 rw [if_pos (show (prL key o r).kind=1 from rfl)]
 unfold Co.pre
 rw [if_pos rfl,if_neg (by omega)]
theorem Us(h:CB n key K r C)(hk:Key key)(A:AtO n o r)(hl:∀ l∈C.leads,l.id≠fId o)(e:lkC (fId o) C.lg=some c)(h1:c.st=3):(C.take bk (prL key o r)).1=C.say (cmL key r o o c.att):=by
 rw [h.AO hk A hl]
 exact Uy h A.o2 _ rfl rfl e h1
theorem CB.HB(h:CB n key K r C)(hk:Key key)(hK:K≤1000000)(A:AtO n o r)(hv:okT o K v):(C.take bk (JL key o r v)).1=C.asked (JL key o r v):=by
 have ho:=A.o2
 have h1:=A.on
 have h2:=A.rn
 have h3:=A.ne
 have h7:=A.n7
 rw [h.open (y:=JL key o r v) (o:=o) (ltR 3 (by simp) (by omega) (by omega) (Ne.symm h3) (by omega) (VK hk ho) (hv.right hK) rfl) rfl ⟨by show (0:Int)≤(o:Nat);omega,by show ((o:Nat):Int) < (n:Nat);omega⟩ (show (3:Int) < 9 by decide) rfl h1]
 exact if_pos (.inr (.inl rfl))
theorem UB(h:CB n key K r C)(hk:Key key)(hK:K≤1000000)(A:AtO n o r)(hv:okT o K v)(e:lkC (fId o) C.lg=some c)(h1:c.st=3):(C.take bk (JL key o r v)).1=C.say (cmL key r o o c.att):=by
 rw [h.HB hk hK A hv]
 exact Uy h A.o2 _ rfl rfl e h1
theorem UW(C:Co)(h:C.me=r):C.send (JL key o r v).src (Gh (JL key o r v))=C.say (akL o r):=by
 show C.send (o:Nat) (Gh (JL key o r v))=_
 unfold Co.send Co.say Gh akL
 rw [h]
 rfl
theorem UC(h:CB n key K r C)(hk:Key key)(hK:K≤1000000)(A:AtO n o r)(hv:okT o K v)(hl:∀ l∈C.leads,l.id≠fId o)(e:lkC (fId o) C.lg=some c)(h1:c.st=2):(C.take bk (JL key o r v)).1=C.say (akL o r):=by
 have hc:=h.ce o A.o2 c e
 rw [h.HB hk hK A hv,rY (c:=c) _ rfl rfl hl (by rw [e];rfl) (by omega) hc.pr]
 have how:Ci (JL key o r v) c=true:=decide_eq_true ⟨by omega,by rw [hc.vo];rfl⟩
 rw [how]
 unfold Co.cP
 rw [decide_eq_true h1]
 rw [if_neg (show ¬ (JL key o r v).kind=1 from (show ¬ (3:Int)=1 by decide)),if_pos (show (JL key o r v).kind=3 from rfl)]
 unfold Co.Pd
 rw [Bool.and_true,if_pos rfl,UW C h.me]
theorem Mp(h:CB n key K r C)(hk:Key key)(hK:K≤1000000)(hK0:0≤K)(A:AtO n o r)(hv:okT o K v)(hl:∀ l∈C.leads,l.id≠fId o)(e:∀ c,lkC (fId o) C.lg=some c→c.st=1) :
  (C.take bk (JL key o r v)).1=(C.upd o ⟨2,(0,0),(0,0),cX key o,v,false⟩).say (akL o r):=by
 have ho:=A.o2
 have hs:C.set (fId o) ⟨2,(0,0),(0,0),cX key o,v,false⟩=_:=h.set hk hK hK0 ho (c:=⟨2,(0,0),(0,0),cX key o,v,false⟩) ⟨rfl,rfl,rfl,.inr (.inl rfl),λe=>by simp at e,hv⟩ (λw hw=>by
  have:=e w hw
  exact ⟨by rw [this];show (1:Int)≤2;decide,by omega⟩)
 have key2:∀ c:Cel,(lkC (fId o) C.lg).getD Cel.zero=c→¬ c.st=3→¬ c.st=2→c.pr=(0,0)→C.asked (JL key o r v)=(C.upd o ⟨2,(0,0),(0,0),cX key o,v,false⟩).say (akL o r):=by
  intro c hc h3 h2 hp
  rw [rY (c:=c) _ rfl rfl hl hc h3 hp]
  unfold Co.cP
  rw [decide_eq_false h2,Bool.and_false]
  rw [if_neg (show ¬ (JL key o r v).kind=1 from (show ¬ (3:Int)=1 by decide)),if_pos (show (JL key o r v).kind=3 from rfl)]
  unfold Co.Pd
  rw [if_neg (by decide)]
  have hs:C.set (JL key o r v).inst ⟨2,(JL key o r v).bal,(JL key o r v).bal,(JL key o r v).cmd,(JL key o r v).att,false⟩=_:=hs
  rw [hs]
  exact UW _ h.me
 rw [h.HB hk hK A hv]
 cases e2:lkC (fId o) C.lg with
 | none=>exact key2 Cel.zero (by rw [e2];rfl) (by decide) (by decide) rfl
 | some c =>
  have h1:=e c e2
  exact key2 c (by rw [e2];rfl) (by omega) (by omega) (h.ce o ho c e2).pr
theorem CB.Tx(h:CB n key K r C)(hk:Key key)(hK:K≤1000000){s:Nat}(ho:o < 2)(hon:o < n)(hrn:r < n)(hsn:s < n)(hne:s≠r)(h7:n≤7)(hv:okT o K v):(C.take bk (cmL key s r o v)).1=C.told (cmL key s r o v):=by
 rw [h.open (y:=cmL key s r o v) (o:=o) (ltR 5 (by simp) (by omega) (by omega) hne (by omega) (VK hk ho) (hv.right hK) rfl) rfl ⟨by show (0:Int)≤(s:Nat);omega,by show ((s:Nat):Int) < (n:Nat);omega⟩ (show (5:Int) < 9 by decide) rfl hon]
 unfold Co.ZU
 rw [if_neg (by simp [YZ,cmL]),if_pos (show (cmL key s r o v).kind=5 from rfl)]
theorem qzp{x:Lt}(hi:x.inst=fId o)(e:lkC (fId o) C.lg=some c)(h1:c.st=3):C.told x=C:=by
 unfold Co.told Co.Bn
 rw [hi,e]
 exact if_pos h1
theorem qzn(h:CB n key K r C)(hk:Key key)(hK:K≤1000000)(hK0:0≤K){s:Nat}(ho:o < 2)(hv:okT o K v)(hl:∀ l∈C.leads,l.id≠fId o)(e:∀ c,lkC (fId o) C.lg=some c→c.st≠3) :
  C.told (cmL key s r o v)=C.upd o ⟨3,(0,0),(0,0),cX key o,v,false⟩:=by
 have hs:C.set (fId o) ⟨3,(0,0),(0,0),cX key o,v,false⟩=_:=h.set hk hK hK0 ho (c:=⟨3,(0,0),(0,0),cX key o,v,false⟩) ⟨rfl,rfl,rfl,.inr (.inr rfl),λe=>by simp at e,hv⟩ (λw hw=>by
  have h1:=e w hw
  have h2:=(h.ce o ho w hw).st
  exact ⟨by show w.st≤3;omega,h1⟩)
 have key2:∀ c:Cel,(lkC (fId o) C.lg).getD Cel.zero=c→¬ c.st=3→c.pr=(0,0)→c.vo=(0,0)→C.told (cmL key s r o v)=C.upd o ⟨3,(0,0),(0,0),cX key o,v,false⟩:=by
  intro c hc h3 hp hv
  unfold Co.told
  have:(lkC (cmL key s r o v).inst C.lg).getD Cel.zero=c:=hc
  rw [this]
  unfold Co.Bn
  rw [if_neg h3,hp,hv]
  have:C.zk (cmL key s r o v).inst=C:=RC hl
  rw [this]
  have hs:C.set (cmL key s r o v).inst ⟨3,(0,0),(0,0),(cmL key s r o v).cmd,(cmL key s r o v).att,false⟩=_:=hs
  rw [hs]
 cases e2:lkC (fId o) C.lg with
 | none=>exact key2 Cel.zero (by rw [e2];rfl) (by decide) rfl rfl
 | some c =>
  have hc:=h.ce o ho c e2
  exact key2 c (by rw [e2];rfl) (e c e2) hc.pr hc.vo
end Go.Fw
namespace Go.Fw
open Go.Proofs
variable {key:ByteArray} {o r n bk:Nat} {K K':Int} {a v:Att} {c:Cel} {C:Co} {d:Dp} {reps:List Att} {cnt:Int}
def zn(key:ByteArray)(o:Nat)(d:Dp)(reps:List Att)(cnt:Int):Ld:=⟨fId o,0,(0,0),true,cX key o,Att.zero,d,reps,[],cnt,0⟩
def xy(key:ByteArray)(o:Nat)(v:Att)(d:Dp)(cnt:Int):Ld:=⟨fId o,1,(0,0),false,cX key o,v,d,[],[],cnt,0⟩
def Co.led(C:Co)(ls:List Ld):Co:={ C with leads:=ls }
def Co.ri(C:Co)(ys:List Lt):Co:={ C with out:=C.out++ys }
theorem CB.led(h:CB n key K r C)(ls:List Ld):CB n key K r (C.led ls):=⟨h.n,h.me,h.cut,h.xcut,h.wish,h.wb,h.kc,h.kcd,h.kn,h.knd,h.no,h.ce⟩
theorem CB.say(h:CB n key K r C)(y:Lt):CB n key K r (C.say y):=⟨h.n,h.me,h.cut,h.xcut,h.wish,h.wb,h.kc,h.kcd,h.kn,h.knd,h.no,h.ce⟩
theorem CB.qh(h:CB n key K r C):CB n key K r C.qh:=⟨h.n,h.me,h.cut,h.xcut,h.wish,h.wb,h.kc,h.kcd,h.kn,h.knd,h.no,h.ce⟩
theorem CB.qkM(h:CB n key K o C)(hk:Key key)(hK:K≤1000000)(A:AtO n o r)(ha:okT o K a):(C.take bk (JI o r a)).1=C.zt (JI o r a):=by
 have ho:=A.o2
 have h1:=A.on
 have h2:=A.rn
 have h3:=A.ne
 have h7:=A.n7
 rw [h.open (y:=JI o r a) (o:=o) (ltR 2 (by simp) (by omega) (by omega) h3 (by omega) OZ (ha.right hK) rfl) rfl ⟨by show (0:Int)≤(r:Nat);omega,by show ((r:Nat):Int) < (n:Nat);omega⟩ (show (2:Int) < 9 by decide) rfl h1]
 unfold Co.ZU
 rw [if_neg (by simp [YZ,JI]),if_neg (show ¬ (JI o r a).kind=5 from (show ¬ (2:Int)=5 by decide)),if_neg (show ¬ (JI o r a).kind=8 from (show ¬ (2:Int)=8 by decide))]
theorem CB.qkN(h:CB n key K o C)(hk:Key key)(A:AtO n o r):(C.take bk (akL o r)).1=C.zt (akL o r):=by
 have ho:=A.o2
 have h1:=A.on
 have h2:=A.rn
 have h3:=A.ne
 have h7:=A.n7
 rw [h.open (y:=akL o r) (o:=o) (ltR 4 (by simp) (by omega) (by omega) h3 (by omega) OZ zr rfl) rfl ⟨by show (0:Int)≤(r:Nat);omega,by show ((r:Nat):Int) < (n:Nat);omega⟩ (show (4:Int) < 9 by decide) rfl h1]
 unfold Co.ZU
 rw [if_neg (by simp [YZ,akL]),if_neg (show ¬ (akL o r).kind=5 from (show ¬ (4:Int)=5 by decide)),if_neg (show ¬ (akL o r).kind=8 from (show ¬ (4:Int)=8 by decide))]
theorem Pc{x:Lt}(hi:x.inst=fId o)(hl:C.leads=[]):C.zt x=C:=by
 unfold Co.zt
 rw [hl]
 rfl
theorem cz{x:Lt}{l:Ld}(hi:x.inst=fId o)(hs:x.src=(r:Nat))(hl:C.leads=[l])(hid:l.id=fId o) :
  C.zt x=if l.bal≠x.bal∨l.ans.g r≠0 then C else if l.way≠df x.kind then C else C.tA 0 l x r:=by
 unfold Co.zt
 have hf:fdL x.inst C.leads=some 0:=by rw [hi,hl];simp [fdL,hid]
 have h0:C.leads[0]?=some l:=by rw [hl];rfl
 rw [hf,hs,Int.toNat_natCast]
 simp only [Co.SD,h0]
theorem qZm(hl:C.leads=[xy key o v d cnt]):C.zt (JI o r a)=C:=by
 rw [cz (o:=o) (r:=r) rfl rfl hl rfl]
 split
 ·rfl
 ·exact if_pos (by show (1:Int)≠0;decide)
theorem qJA(hl:C.leads=[zn key o d reps cnt]):C.zt (akL o r)=C:=by
 rw [cz (o:=o) (r:=r) rfl rfl hl rfl]
 split
 ·rfl
 ·exact if_pos (by show (0:Int)≠1;decide)
theorem qZl(hl:C.leads=[zn key o d reps cnt])(hd:d.g r≠0):C.zt (JI o r a)=C:=by
 rw [cz (o:=o) (r:=r) rfl rfl hl rfl]
 exact if_pos (.inr hd)
theorem qJB(hl:C.leads=[xy key o v d cnt])(hd:d.g r≠0):C.zt (akL o r)=C:=by
 rw [cz (o:=o) (r:=r) rfl rfl hl rfl]
 exact if_pos (.inr hd)
theorem po_go(hl:C.leads=[zn key o d reps cnt])(hd:d.g r=0):C.zt (JI o r a)=((C.led [zn key o (Dp.up d r 1) (reps++[a]) (cnt+1)]).xp (zn key o (Dp.up d r 1) (reps++[a]) (cnt+1)) false).1:=by
 rw [cz (o:=o) (r:=r) rfl rfl hl rfl,if_neg (by rintro (e | e);exact e rfl;exact e hd),if_neg (λe=>e rfl)]
 unfold Co.tA
 rw [if_pos (show df (JI o r a).kind=0 from rfl)]
 have:C.put 0 (((zn key o d reps cnt).heard r).nG (JI o r a).att)=C.led [zn key o (Dp.up d r 1) (reps++[a]) (cnt+1)]:=by
  unfold Co.put Co.led
  rw [hl]
  rfl
 rw [this]
 rfl
theorem ak_go(hl:C.leads=[xy key o v d cnt])(hd:d.g r=0):C.zt (akL o r)=if ((C.n / 2+1:Nat):Int)≤cnt+2 then (C.led [xy key o v (Dp.up d r 1) (cnt+1)]).JD (fId o) (cX key o) v else C.led [xy key o v (Dp.up d r 1) (cnt+1)]:=by
 rw [cz (o:=o) (r:=r) rfl rfl hl rfl,if_neg (by rintro (e | e);exact e rfl;exact e hd),if_neg (λe=>e rfl)]
 unfold Co.tA
 rw [if_neg (show ¬ df (akL o r).kind=0 from (show ¬ (1:Int)=0 by decide)),if_pos (show df (akL o r).kind=1 from rfl)]
 have:C.put 0 ((xy key o v d cnt).heard r)=C.led [xy key o v (Dp.up d r 1) (cnt+1)]:=by
  unfold Co.put Co.led
  rw [hl]
  rfl
 rw [this]
 rfl
theorem Hj{l:Ld}(hl:C.leads=[l])(hid:l.id=fId o):C.zk (fId o)=C.led []:=by
 unfold Co.zk Co.led
 rw [hl]
 simp [hid]
theorem Ea(h:CB n key K o C)(hk:Key key)(hK:K≤1000000)(hK0:0≤K)(ho:o < 2)(hv:okT o K v){l:Ld}(hl:C.leads=[l])(hid:l.id=fId o)(e:lkC (fId o) C.lg=some c)(h3:c.st≠3) :
  C.JD (fId o) (cX key o) v=(((C.led []).upd o ⟨3,(0,0),(0,0),cX key o,v,false⟩).ri ((yA n o).map λk=>cmL key o k o v)):=by
 have hc:=h.ce o ho c e
 have h0:=h.led []
 have hs:(C.led []).set (fId o) ⟨3,(0,0),(0,0),cX key o,v,false⟩=_:=h0.set hk hK hK0 ho (c:=⟨3,(0,0),(0,0),cX key o,v,false⟩) ⟨rfl,rfl,rfl,.inr (.inr rfl),λe=>by simp at e,hv⟩ (λw hw=>by
  have hw:lkC (fId o) C.lg=some w:=hw
  rw [e] at hw
  cases hw
  have:=hc.st
  exact ⟨by show c.st≤3;omega,h3⟩)
 unfold Co.JD
 rw [Hj hl hid,e]
 unfold Co.qxG
 have:(⟨3,((some c).getD Cel.zero).pr,((some c).getD Cel.zero).vo,cX key o,v,false⟩:Cel)=⟨3,(0,0),(0,0),cX key o,v,false⟩:=by
  show (⟨3,c.pr,c.vo,cX key o,v,false⟩:Cel)=_
  rw [hc.pr,hc.vo]
 rw [this,hs,if_pos rfl,all_eq]
 have hn:((C.led []).upd o ⟨3,(0,0),(0,0),cX key o,v,false⟩).n=n:=h.n
 have hm:((C.led []).upd o ⟨3,(0,0),(0,0),cX key o,v,false⟩).me=o:=h.me
 show Co.ri _ ((yA ((C.led []).upd o ⟨3,(0,0),(0,0),cX key o,v,false⟩).n ((C.led []).upd o ⟨3,(0,0),(0,0),cX key o,v,false⟩).me).map λk=>_)=_
 rw [hn,hm]
 rfl
theorem SH(h:CB n key K o C)(hk:Key key)(hK:K≤1000000)(hK0:0≤K)(ho:o < 2)(hv:okT o K v){l:Ld}(hl:C.leads=[l])(hid:l.id=fId o)(hb:l.bal=(0,0))(e:lkC (fId o) C.lg=some c)(h1:c.st=1) :
  C.accept l (cX key o) v=((((C.upd o ⟨2,(0,0),(0,0),cX key o,v,false⟩).led [xy key o v Dp.zero 0]).ri ((yA n o).map λk=>JL key o k v))):=by
 have hc:=h.ce o ho c e
 have hs:C.set (fId o) ⟨2,(0,0),(0,0),cX key o,v,false⟩=_:=h.set hk hK hK0 ho (c:=⟨2,(0,0),(0,0),cX key o,v,false⟩) ⟨rfl,rfl,rfl,.inr (.inl rfl),λe=>by simp at e,hv⟩ (λw hw=>by
  rw [e] at hw
  cases hw
  exact ⟨by rw [h1];show (1:Int)≤2;decide,by omega⟩)
 unfold Co.accept
 rw [if_pos (hv.right hK),hid,hb,hs,if_pos rfl]
 have hn:(C.upd o ⟨2,(0,0),(0,0),cX key o,v,false⟩).n=n:=h.n
 have hm:(C.upd o ⟨2,(0,0),(0,0),cX key o,v,false⟩).me=o:=h.me
 have hl2:(C.upd o ⟨2,(0,0),(0,0),cX key o,v,false⟩).leads=[l]:=hl
 show (C.upd o ⟨2,(0,0),(0,0),cX key o,v,false⟩).kP (xd (fId o) 1 (0,0) false (cX key o) v)=_
 generalize C.upd o ⟨2,(0,0),(0,0),cX key o,v,false⟩=C1 at *
 unfold Co.kP
 have ht:C1.ZT (xd (fId o) 1 (0,0) false (cX key o) v)=C1.led [xy key o v Dp.zero 0]:=by
  unfold Co.ZT
  have:C1.zk (xd (fId o) 1 (0,0) false (cX key o) v).id=C1.led []:=Hj hl2 hid
  rw [this]
  rfl
 rw [ht]
 have:(xd (fId o) 1 (0,0) false (cX key o) v).ans=Dp.zero:=rfl
 rw [this,all_eq]
 show Co.ri _ ((yA C1.n C1.me).map λk=>_)=_
 rw [hn,hm]
 have hm2:(C1.led [xy key o v Dp.zero 0]).me=o:=hm
 rw [hm2]
 rfl
theorem qkr{l:Ld}(h:(VT C.n l.first l.att l.reps false).1=0):(C.xp l false).1=C:=by
 unfold Co.xp Co.ZS
 rw [h,if_neg (by decide),if_neg (by decide)]
theorem qkp{l:Ld}{a:Att}(h:VT C.n l.first l.att l.reps false=(1,a)):(C.xp l false).1=C.JD l.id l.cmd a:=by
 unfold Co.xp Co.ZS
 rw [h,if_pos rfl]
theorem qko{l:Ld}{a:Att}(h:VT C.n l.first l.att l.reps false=(2,a)):(C.xp l false).1=C.accept l l.cmd a:=by
 unfold Co.xp Co.ZS
 rw [h,if_neg (show ¬ (2:Int)=1 by decide),if_pos rfl]
end Go.Fw
namespace Go.Fw
open Go.Proofs
variable {key:ByteArray} {o r s n bk:Nat} {K K':Int} {a v:Att} {c:Cel} {C:Co} {d:Dp} {reps:List Att} {cnt:Int}
inductive Ph where
 | pre
 | acc (v:Att)
 | com (v:Att)
def Ph.val:Ph→Option Att
 | .pre=>none
 | .acc v=>some v
 | .com v=>some v
def Ph.done:Ph→Prop
 | .com _=>True
 | _=>False
structure Ph.le(p q:Ph):Prop where
 val:∀ v,p.val=some v→q.val=some v
 done:p.done→q.done
theorem Ph.le.refl(p:Ph):p.le p:=⟨λ_ h=>h,id⟩
theorem Ph.qxF{p:Ph}{v:Att}(h1:p.val=some v)(h2:p.done):p=.com v:=by
 cases p with
 | pre=>exact nomatch h1
 | acc _=>exact h2.elim
 | com u=>cases h1;rfl
theorem BX{p q:Nat→Bool}{r:Nat}(h:∀ j,j≠r→q j=p j)(h0:p r=false)(h1:q r=true):∀ n,(List.range n).countP q=(List.range n).countP p+if r < n then 1 else 0
 | 0=>by simp
 | n+1=>by
  rw [List.range_succ,List.countP_append,List.countP_append,BX h h0 h1 n]
  by_cases e:n=r
  ·subst e
   simp [h0,h1]
  ·have:=h n e
   simp only [List.countP_cons,List.countP_nil,this]
   split<;>split<;>split<;>omega
theorem cq{p q:Nat→Bool}(n:Nat)(h:∀ j,j < n→p j=true→q j=true):(List.range n).countP p≤(List.range n).countP q :=
 List.countP_mono_left λj hj=>h j (List.mem_range.1 hj)
theorem qxI(n:Nat):(List.range n).countP (λ_=>true)=n:=by simp
def GV(n:Nat)(d:Dp):Nat:=(List.range n).countP λj=>decide (d.g j≠0)
def SQ(n:Nat)(d:Dp)(w:Nat→Nat)(o:Nat):Nat:=(List.range n).countP λj=>decide (d.g j≠0∧w j=1+o)
def nW(n:Nat)(w:Nat→Nat)(o:Nat):Nat:=(List.range n).countP λj=>decide (j≠o∧w j=1+o)
theorem Bh{d:Dp}{r j:Nat}(h:j≠r):(Dp.up d r 1).g j=d.g j:=by rw [Dp.dg,if_neg λe=>h e.1]
theorem Bi{d:Dp}{r:Nat}(h:r < 7):(Dp.up d r 1).g r=1:=by rw [Dp.dg,if_pos ⟨rfl,h⟩]
theorem Uq(hr:r < n)(h7:n≤7)(hd:d.g r=0):GV n (Dp.up d r 1)=GV n d+1:=by
 have:=BX (p:=λj=>decide (d.g j≠0)) (q:=λj=>decide ((Dp.up d r 1).g j≠0)) (r:=r) (λj hj=>by simp only [Bh hj]) (by simp [hd]) (by simp [Bi (d:=d) (show r < 7 by omega)]) n
 rw [if_pos hr] at this
 exact this
theorem qyK{w:Nat→Nat}(hr:r < n)(h7:n≤7)(hd:d.g r=0)(hw:w r=1+o):SQ n (Dp.up d r 1) w o=SQ n d w o+1:=by
 have:=BX (p:=λj=>decide (d.g j≠0∧w j=1+o)) (q:=λj=>decide ((Dp.up d r 1).g j≠0∧w j=1+o)) (r:=r) (λj hj=>by simp only [Bh hj]) (by simp [hd]) (by simp [Bi (d:=d) (show r < 7 by omega),hw]) n
 rw [if_pos hr] at this
 exact this
theorem qyV{w:Nat→Nat}(h7:n≤7):SQ n d w o≤SQ n (Dp.up d r 1) w o:=cq n λj hj h=>by
 have h:=of_decide_eq_true h
 refine decide_eq_true ⟨?_,h.2⟩
 by_cases e:j=r
 ·subst e
  rw [Bi (by omega)];decide
 ·rw [Bh e];exact h.1
theorem qJh{w:Nat→Nat}(hd:d.g o=0):SQ n d w o≤nW n w o:=cq n λj hj h=>by
 have h:=of_decide_eq_true h
 exact decide_eq_true ⟨λe=>h.1 (e▸hd),h.2⟩
theorem cntO(ho:o < n):(List.range n).countP (λj=>decide (j≠o))+1=n:=by
 have:=BX (p:=λj=>decide (j≠o)) (q:=λ_=>true) (r:=o) (λj hj=>by simp [hj]) (by simp) rfl n
 rw [if_pos ho,qxI] at this
 exact this.symm
theorem qjC(ho:o < n):(yA n o).length+1=n:=by
 unfold yA
 rw [← List.countP_eq_length_filter]
 exact cntO ho
theorem Ou(ho:o < n)(h:∀ r,r < n→r≠o→d.g r≠0):n≤GV n d+1:=by
 have h1:=cq (p:=λj=>decide (j≠o)) (q:=λj=>decide (d.g j≠0)) n λj hj e=>decide_eq_true (h j hj (of_decide_eq_true e))
 have h2:=cntO ho
 unfold GV
 omega
theorem qxH{w:Nat→Nat}(h3:3≤n)(h0:w 0=1)(h1:w 1=2)(z0:n≤nW n w 0+2)(z1:n≤nW n w 1+2):False:=by
 have e:∀ m,2≤m→nW m w 0+nW m w 1+2≤m:=by
  intro m
  induction m with
  | zero=>intro h;omega
  | succ m ih =>
   intro h
   by_cases h2:2≤m
   ·have ih:=ih h2
    unfold nW at *
    rw [List.range_succ,List.countP_append,List.countP_append]
    simp only [List.countP_cons,List.countP_nil]
    by_cases a:w m=1
    ·have:decide (m≠1∧w m=1+1)=false:=decide_eq_false λe=>by omega
     simp only [this,Bool.false_eq_true,if_false]
     split<;>omega
    ·have:decide (m≠0∧w m=1+0)=false:=decide_eq_false λe=>a (by omega)
     simp only [this,Bool.false_eq_true,if_false]
     split<;>omega
   ·have:m=1:=by omega
    subst this
    have a:nW 2 w 0=0:=by simp [nW,List.range_succ,h0,h1]
    have b:nW 2 w 1=0:=by simp [nW,List.range_succ,h0,h1]
    show nW 2 w 0+nW 2 w 1+2≤2
    omega
 have:=e n (by omega)
 omega
def LtW(n:Nat)(key:ByteArray)(K:Int)(ph:Nat→Ph)(w:Nat→Nat)(y:Lt):Prop :=
 ∃ o r,AtO n o r∧(y=prL key o r∨(∃ a,y=JI o r a∧okT o K a∧(a=Att.zero→w r=1+o))∨(∃ v,y=JL key o r v∧(ph o).val=some v)∨y=akL o r∨∃ v,ph o=.com v∧(y=cmL key o r o v∨y=cmL key r o o v))
def Hh(p:Ph)(w o:Nat)(c:Cel):Prop:=(c.st=1∧(c.att=Att.zero→w=1+o))∨(p.val=some c.att∧c.st≠1∧(c.st=3→p.done))
structure qyu(n:Nat)(K:Int)(w:Nat→Nat)(o:Nat)(d:Dp)(reps:List Att):Prop where
 z:d.g o=0
 len:reps.length=GV n d
 ok:∀ a∈reps,okT o K a
 same:vH Att.zero reps≤SQ n d w o
 un:(VT n true Att.zero reps false).1=0
structure qyD(n:Nat)(K:Int)(o:Nat)(v:Att)(d:Dp)(cnt:Nat):Prop where
 z:d.g o=0
 ok:okT o K v
 nz:v≠Att.zero
 num:cnt=GV n d
 un:cnt < n / 2
def rf(n:Nat)(key:ByteArray)(K:Int)(f:Nat→Co)(on:List Lt)(w:Nat→Nat)(o:Nat):Ph→Prop
 | .pre=>∃ d reps,(f o).leads=[zn key o d reps (reps.length:Nat)]∧qyu n K w o d reps∧(∃ c,lkC (fId o) (f o).lg=some c∧c.st=1)∧∀ r,AtO n o r→prL key o r∈on∨(∃ a,JI o r a∈on)∨d.g r≠0
 | .acc v=>∃ d,∃ cnt:Nat,(f o).leads=[xy key o v d (cnt:Nat)]∧qyD n K o v d cnt∧(∃ c,lkC (fId o) (f o).lg=some c∧c.st=2)∧∀ r,AtO n o r→JL key o r v∈on∨akL o r∈on∨d.g r≠0
 | .com v=>(f o).leads=[]∧okT o K v∧(v=Att.zero→n≤nW n w o+2)∧(∃ c,lkC (fId o) (f o).lg=some c∧c.st=3)∧∀ r,AtO n o r→cmL key o r o v∈on∨∃ c,lkC (fId o) (f r).lg=some c∧c.st=3
structure Two(n:Nat)(key:ByteArray)(K:Int)(f:Nat→Co)(on:List Lt)(ph:Nat→Ph)(w:Nat→Nat):Prop where
 cb:∀ r,r < n→CB n key K r (f r)
 q:∀ r,r < n→(f r).recs=[]∧(f r).out=[]
 ld2:∀ r,r < n→2≤r→(f r).leads=[]
 wv:∀ r,r < n→w r=0∨w r=1∨w r=2
 wn:∀ r,r < n→∀ o,o < 2→lkC (fId o) (f r).lg≠none→w r≠0
 wh:∀ r,r < n→∀ o,o < 2→w r=1+o→lkC (fId o) (f r).lg≠none
 w0:w 0=1
 w1:w 1=2
 lt:∀ y∈on,LtW n key K ph w y
 ce:∀ r,r < n→∀ o,o < 2→∀ c,lkC (fId o) (f r).lg=some c→Hh (ph o) (w r) o c
 own:∀ o,o < 2→rf n key K f on w o (ph o)
theorem Hh.mono{p q:Ph}{w w':Nat}(h:Hh p w o c)(hp:p.le q)(hw:w≠0→w'=w):Hh q w' o c:=by
 rcases h with ⟨h1,h2⟩ | ⟨h1,h2,h3⟩
 ·exact .inl ⟨h1,λe=>by have:=h2 e;rw [hw (by omega)];exact this⟩
 ·exact .inr ⟨hp.val _ h1,h2,λe=>hp.done (h3 e)⟩
theorem LtW.mono{ph ph':Nat→Ph}{w w':Nat→Nat}{y:Lt}(h:LtW n key K ph w y)(hK:K≤K')(hp:∀ o,(ph o).le (ph' o))(hw:∀ r,w r≠0→w' r=w r):LtW n key K' ph' w' y:=by
 obtain ⟨o,r,A,h⟩:=h
 refine ⟨o,r,A,?_⟩
 rcases h with e | ⟨a,e,h1,h2⟩ | ⟨v,e,h1⟩ | e | ⟨v,h1,h2⟩
 ·exact .inl e
 ·exact .inr (.inl ⟨a,e,h1.up hK,λea=>by have:=h2 ea;rw [hw r (by omega)];exact this⟩)
 ·exact .inr (.inr (.inl ⟨v,e,(hp o).val v h1⟩))
 ·exact .inr (.inr (.inr (.inl e)))
 ·refine .inr (.inr (.inr (.inr ⟨v,?_,h2⟩)))
  have:=(hp o).val v (by rw [h1];rfl)
  have h3:=(hp o).done (by rw [h1];trivial)
  exact Ph.qxF this h3
theorem qyu.mono{w w':Nat→Nat}(h:qyu n K w o d reps)(hK:K≤K')(hw:∀ r,w r≠0→w' r=w r):qyu n K' w' o d reps :=
 ⟨h.z,h.len,λa ha=>(h.ok a ha).up hK,Nat.le_trans h.same (cq n λj _ e=>by
  have e:=of_decide_eq_true e
  exact decide_eq_true ⟨e.1,by rw [hw j (by omega)];exact e.2⟩),h.un⟩
theorem qyD.mono{cnt:Nat}(h:qyD n K o v d cnt)(hK:K≤K'):qyD n K' o v d cnt:=⟨h.z,h.ok.up hK,h.nz,h.num,h.un⟩
theorem HW{w w':Nat→Nat}(hw:∀ r,w r≠0→w' r=w r):nW n w o≤nW n w' o:=cq n λj _ e=>by
 have e:=of_decide_eq_true e
 exact decide_eq_true ⟨e.1,by rw [hw j (by omega)];exact e.2⟩
theorem rf.mono{f f':Nat→Co}{on on':List Lt}{w w':Nat→Nat}{p:Ph}(h:rf n key K f on w o p)(hK:K≤K')(hw:∀ r,w r≠0→w' r=w r)(hl:(f' o).leads=(f o).leads)(hg:∀ r,lkC (fId o) (f' r).lg=lkC (fId o) (f r).lg)(hon:∀ z∈on,z.inst=fId o→z∈on'):rf n key K' f' on' w' o p:=by
 cases p with
 | pre =>
  obtain ⟨d,reps,h1,h2,h3,h4⟩:=h
  refine ⟨d,reps,hl.trans h1,h2.mono hK hw,by rw [hg];exact h3,λr A=>?_⟩
  rcases h4 r A with m | ⟨a,m⟩ | m
  ·exact .inl (hon _ m rfl)
  ·exact .inr (.inl ⟨a,hon _ m rfl⟩)
  ·exact .inr (.inr m)
 | acc v =>
  obtain ⟨d,cnt,h1,h2,h3,h4⟩:=h
  refine ⟨d,cnt,hl.trans h1,h2.mono hK,by rw [hg];exact h3,λr A=>?_⟩
  rcases h4 r A with m | m | m
  ·exact .inl (hon _ m rfl)
  ·exact .inr (.inl (hon _ m rfl))
  ·exact .inr (.inr m)
 | com v =>
  obtain ⟨h1,h2,h3,h4,h5⟩:=h
  refine ⟨hl.trans h1,h2.up hK,λe=>Nat.le_trans (h3 e) (Nat.add_le_add_right (HW hw) 2),by rw [hg];exact h4,λr A=>?_⟩
  rcases h5 r A with m | m
  ·exact .inl (hon _ m rfl)
  ·exact .inr (by rw [hg];exact m)
def upF{α:Type}(f:Nat→α)(s:Nat)(x:α):Nat→α:=λj=>if j=s then x else f j
theorem zJ{α:Type}(f:Nat→α)(s:Nat)(x:α):upF f s x s=x:=if_pos rfl
theorem zH{α:Type}(f:Nat→α){s j:Nat}(x:α)(h:j≠s):upF f s x j=f j:=if_neg h
theorem aM{α:Type}(f:Nat→α)(s:Nat):upF f s (f s)=f:=by
 funext j
 unfold upF
 split
 ·rename_i e;rw [e]
 ·rfl
theorem Two.step{f:Nat→Co}{on on0:List Lt}{ph:Nat→Ph}{w:Nat→Nat}(T:Two n key K f on ph w){s:Nat}(hs:s < n){y:Lt}(hsub:∀ z∈on0,z∈on)(hrem:∀ z∈on,z=y∨z∈on0)(ho:o < 2)(hy:y.inst=fId o){C1:Co}{ys:List Lt}{p':Ph}{w':Nat}(hp:(ph o).le p')(hcb:CB n key (K+1) s C1)(hq:C1.recs=[]∧C1.out=[])(hld:s≠o→C1.leads=(f s).leads)(hot:lkC (fId (1 - o)) C1.lg=lkC (fId (1 - o)) (f s).lg)(hwm:w s≠0→w'=w s)(hwv:w s=0→w'=0∨w'=1+o)(hwn:lkC (fId o) C1.lg≠none→w'≠0)(hwh:w'=1+o→lkC (fId o) C1.lg≠none)(hlt:∀ z∈ys,LtW n key (K+1) (upF ph o p') (upF w s w') z)(hce:∀ c,lkC (fId o) C1.lg=some c→Hh p' w' o c)(hown:rf n key (K+1) (upF f s C1) (on0++ys) (upF w s w') o p'):Two n key (K+1) (upF f s C1) (on0++ys) (upF ph o p') (upF w s w'):=by
 have hwm2:∀ r,w r≠0→upF w s w' r=w r:=λr h=>by
  by_cases e:r=s
  ·subst e;rw [zJ];exact hwm h
  ·rw [zH _ _ e]
 have hple:∀ q,(ph q).le (upF ph o p' q):=λq=>by
  by_cases e:q=o
  ·subst e;rw [zJ];exact hp
  ·rw [zH _ _ e];exact Ph.le.refl _
 have hon2:∀ q,q < 2→q≠o→q=1 - o:=λq h e=>by omega
 have hoth:∀ q,q < 2→q≠o→∀ r,lkC (fId q) (upF f s C1 r).lg=lkC (fId q) (f r).lg:=λq h e r=>by
  by_cases er:r=s
  ·subst er;rw [zJ,hon2 q h e];exact hot
  ·rw [zH _ _ er]
 refine ⟨λr hr=>?_,λr hr=>?_,λr hr h2=>?_,λr hr=>?_,λr hr q hq2 hc=>?_,λr hr q hq2 hc=>?_,?_,?_,λz hz=>?_,λr hr q hq2 c hc=>?_,λq hq2=>?_⟩
 ·by_cases e:r=s
  ·subst e;rw [zJ];exact hcb
  ·rw [zH _ _ e];exact (T.cb r hr).up (by omega)
 ·by_cases e:r=s
  ·subst e;rw [zJ];exact hq
  ·rw [zH _ _ e];exact T.q r hr
 ·by_cases e:r=s
  ·subst e;rw [zJ,hld (by omega)];exact T.ld2 r hr h2
  ·rw [zH _ _ e];exact T.ld2 r hr h2
 ·by_cases e:r=s
  ·subst e;rw [zJ]
   by_cases h:w r=0
   ·have:=hwv h;omega
   ·rw [hwm h];exact T.wv r hr
  ·rw [zH _ _ e];exact T.wv r hr
 ·by_cases e:r=s
  ·subst e;rw [zJ] at hc ⊢
   by_cases eq:q=o
   ·subst eq;exact hwn hc
   ·rw [hon2 q hq2 eq,hot] at hc
    have:=T.wn r hr (1 - o) (by omega) hc
    rw [hwm this];exact this
  ·rw [zH _ _ e] at hc ⊢;exact T.wn r hr q hq2 hc
 ·by_cases e:r=s
  ·subst e;rw [zJ] at hc ⊢
   by_cases eq:q=o
   ·subst eq;exact hwh hc
   ·rw [hon2 q hq2 eq] at hc ⊢
    rw [hot]
    refine T.wh r hr (1 - o) (by omega) ?_
    by_cases h:w r=0
    ·have:=hwv h;omega
    ·rw [← hwm h];exact hc
  ·rw [zH _ _ e] at hc ⊢;exact T.wh r hr q hq2 hc
 ·have:=T.w0
  rw [hwm2 0 (by omega)];exact this
 ·have:=T.w1
  rw [hwm2 1 (by omega)];exact this
 ·rcases List.mem_append.1 hz with hz | hz
  ·exact (T.lt z (hsub z hz)).mono (by omega) hple hwm2
  ·exact hlt z hz
 ·by_cases eq:q=o
  ·subst eq
   rw [zJ]
   by_cases e:r=s
   ·subst e;rw [zJ] at hc ⊢;exact hce c hc
   ·rw [zH _ _ e] at hc ⊢;exact (T.ce r hr q hq2 c hc).mono hp λ_=>rfl
  ·rw [hoth q hq2 eq] at hc
   exact (T.ce r hr q hq2 c hc).mono (hple q) (hwm2 r)
 ·by_cases eq:q=o
  ·subst eq
   have:upF ph q p' q=p':=zJ ..
   rw [this];exact hown
  ·have:upF ph o p' q=ph q:=zH _ _ eq
   rw [this]
   refine (T.own q hq2).mono (by omega) hwm2 ?_ (hoth q hq2 eq) λz hz hi=>?_
   ·by_cases e:q=s
    ·subst e;rw [zJ];exact hld eq
    ·rw [zH _ _ e]
   ·rcases hrem z hz with rfl | hz
    ·rw [hi] at hy
     exact absurd (XN.1 hy) eq
    ·exact List.mem_append_left _ hz
end Go.Fw
namespace Go.Fw
open Go.Proofs
variable {key:ByteArray} {o r s n bk:Nat} {K K':Int} {a v:Att} {c:Cel} {C:Co} {d:Dp} {reps:List Att} {cnt:Int}
def wt(y:Lt):Nat:=if y.kind=1∨y.kind=3 then 2 else 1
def pot(n:Nat):Ph→Nat
 | .pre=>3*(n - 1)
 | .acc _=>n - 1
 | .com _=>0
structure StH(n:Nat)(key:ByteArray)(K:Int)(f:Nat→Co)(on:List Lt)(ph:Nat→Ph)(w:Nat→Nat)(y:Lt)(on0:List Lt):Prop where
 T:Two n key K f on ph w
 hk:Key key
 hK:K+1≤1000000
 hK0:0≤K
 n3:3≤n
 n7:n≤7
 sub:∀ z∈on0,z∈on
 rem:∀ z∈on,z=y∨z∈on0
def Nx(n:Nat)(key:ByteArray)(K:Int)(f:Nat→Co)(on0:List Lt)(ph:Nat→Ph)(w:Nat→Nat)(o s:Nat)(y:Lt):Prop :=
 ∃ C1 ys p' w',(∀ bk,((f s).take bk y).1.qh=C1∧((f s).take bk y).1.out=ys)∧Two n key (K+1) (upF f s C1) (on0++ys) (upF ph o p') (upF w s w')∧(ys.map wt).sum+pot n p'+1≤wt y+pot n (ph o)
theorem zv{x y:Lt}(h:x.kind≠y.kind)(e:x=y){P:Prop}:P:=absurd (congrArg Lt.kind e) h
theorem rf.next{f f':Nat→Co}{on on':List Lt}{w w':Nat→Nat}{p:Ph}{y:Lt}(h:rf n key K f on w o p)(hK:K≤K')(hw:∀ r,w r≠0→w' r=w r)(hl:(f' o).leads=(f o).leads)(hgo:lkC (fId o) (f' o).lg=lkC (fId o) (f o).lg)(hg3:∀ r c,lkC (fId o) (f r).lg=some c→c.st=3→lkC (fId o) (f' r).lg=some c)(hrem:∀ z∈on,z=y∨z∈on')(h1:∀ r,AtO n o r→prL key o r=y→p=.pre→∃ a,JI o r a∈on')(h2:∀ r a d reps,AtO n o r→JI o r a=y→(f o).leads=[zn key o d reps (reps.length:Nat)]→d.g r≠0)(h3:∀ r v,AtO n o r→JL key o r v=y→p=.acc v→akL o r∈on')(h4:∀ r v d,∀ cnt:Nat,AtO n o r→akL o r=y→(f o).leads=[xy key o v d (cnt:Nat)]→d.g r≠0)(h5:∀ r v,AtO n o r→cmL key o r o v=y→p=.com v→∃ c,lkC (fId o) (f' r).lg=some c∧c.st=3):rf n key K' f' on' w' o p:=by
 cases p with
 | pre =>
  obtain ⟨d,reps,k1,k2,k3,k4⟩:=h
  refine ⟨d,reps,hl.trans k1,k2.mono hK hw,by rw [hgo];exact k3,λr A=>?_⟩
  rcases k4 r A with m | ⟨a,m⟩ | m
  ·rcases hrem _ m with e | m
   ·exact .inr (.inl (h1 r A e rfl))
   ·exact .inl m
  ·rcases hrem _ m with e | m
   ·exact .inr (.inr (h2 r a d reps A e k1))
   ·exact .inr (.inl ⟨a,m⟩)
  ·exact .inr (.inr m)
 | acc v =>
  obtain ⟨d,cnt,k1,k2,k3,k4⟩:=h
  refine ⟨d,cnt,hl.trans k1,k2.mono hK,by rw [hgo];exact k3,λr A=>?_⟩
  rcases k4 r A with m | m | m
  ·rcases hrem _ m with e | m
   ·exact .inr (.inl (h3 r v A e rfl))
   ·exact .inl m
  ·rcases hrem _ m with e | m
   ·exact .inr (.inr (h4 r v d cnt A e k1))
   ·exact .inr (.inl m)
  ·exact .inr (.inr m)
 | com v =>
  obtain ⟨k1,k2,k3,k4,k5⟩:=h
  refine ⟨hl.trans k1,k2.up hK,λe=>Nat.le_trans (k3 e) (Nat.add_le_add_right (HW hw) 2),by rw [hgo];exact k4,λr A=>?_⟩
  rcases k5 r A with m | ⟨c,m,m3⟩
  ·rcases hrem _ m with e | m
   ·exact .inr (h5 r v A e rfl)
   ·exact .inl m
  ·exact .inr ⟨c,hg3 r c m m3,m3⟩
theorem BZ(h:C.recs=[]∧C.out=[])(ys:List Lt):(C.ri ys).qh=C∧(C.ri ys).out=ys:=by
 obtain ⟨h1,h2⟩:=h
 constructor
 ·unfold Co.ri Co.qh
  cases C
  simp at h1 h2
  subst h1 h2
  rfl
 ·show C.out++ys=ys
  rw [h2];rfl
theorem xI(C:Co):C.ri []=C:=by
 unfold Co.ri
 rw [List.append_nil]
variable {f:Nat→Co} {on on0:List Lt} {ph:Nat→Ph} {w:Nat→Nat} {y:Lt}
theorem xc(S:StH n key K f on ph w y on0)(hs:s < n)(ho:o < 2)(hy:y.inst=fId o){ys:List Lt}(ht:∀ bk,((f s).take bk y).1=(f s).ri ys)(hlt:∀ z∈ys,LtW n key (K+1) ph w z)(hown:rf n key (K+1) f (on0++ys) w o (ph o))(hwt:(ys.map wt).sum+1≤wt y):Nx n key K f on0 ph w o s y:=by
 have T:=S.T
 have hq:=T.q s hs
 refine ⟨f s,ys,ph o,w s,λbk=>by rw [ht];exact BZ hq ys,?_,by omega⟩
 refine T.step hs S.sub S.rem ho hy (Ph.le.refl _) ((T.cb s hs).up (by omega)) hq (λ_=>rfl) rfl (λ_=>rfl) (λh=>.inl h) (T.wn s hs o ho) (T.wh s hs o ho) ?_ (T.ce s hs o ho) ?_
 ·rw [aM,aM];exact hlt
 ·rw [aM,aM];exact hown
theorem Two.RZ(T:Two n key K f on ph w)(A:AtO n o r):∀ l∈(f r).leads,l.id≠fId o:=by
 by_cases h2:2≤r
 ·rw [T.ld2 r A.rn h2];simp
 ·have h:=T.own r (by omega)
  have hne:=A.ne
  intro l hl e
  cases hp:ph r with
  | pre =>
   rw [hp] at h
   obtain ⟨d,reps,k1,_⟩:=h
   rw [k1] at hl
   rw [List.mem_singleton.1 hl] at e
   exact hne (XN.1 e)
  | acc v =>
   rw [hp] at h
   obtain ⟨d,cnt,k1,_⟩:=h
   rw [k1] at hl
   rw [List.mem_singleton.1 hl] at e
   exact hne (XN.1 e)
  | com v =>
   rw [hp] at h
   rw [h.1] at hl
   exact nomatch hl
theorem Two.qxS(T:Two n key K f on ph w)(hr:r < n)(ho:o < 2)(e:lkC (fId o) (f r).lg=some c)(h3:c.st=3):ph o=.com c.att:=by
 rcases T.ce r hr o ho c e with ⟨h1,_⟩ | ⟨h1,_,h2⟩
 ·omega
 ·exact Ph.qxF h1 (h2 h3)
theorem qkS(S:StH n key K f on ph w (prL key o r) on0)(A:AtO n o r):Nx n key K f on0 ph w o r (prL key o r):=by
 have T:=S.T
 have ho:=A.o2
 have hr:=A.rn
 have hK:=S.hK
 have hK0:=S.hK0
 have hcb:=T.cb r hr
 have hl:=T.RZ A
 have hq:=T.q r hr
 have hcb1:=hcb.up (show K≤K+1 by omega)
 have own2:∀ {ys:List Lt} (h1:ph o=.pre→∃ a,JI o r a∈ys),rf n key (K+1) f (on0++ys) w o (ph o):=λ{ys} h1 =>
  (T.own o ho).next (by omega) (λ_ _=>rfl) rfl rfl (λ_ _ h _=>h) (λz hz=>(S.rem z hz).imp id (List.mem_append_left _)) (λr' A' e hp=>by
   have:((r':Nat):Int)=(r:Nat):=congrArg Lt.dst e
   have:r'=r:=by omega
   subst this
   obtain ⟨a,ha⟩:=h1 hp
   exact ⟨a,List.mem_append_right _ ha⟩) (λr' a d reps A' e=>zv (show (2:Int)≠1 by decide) e) (λr' v A' e=>zv (show (3:Int)≠1 by decide) e) (λr' v d cnt A' e=>zv (show (4:Int)≠1 by decide) e) (λr' v A' e=>zv (show (5:Int)≠1 by decide) e)
 cases e:lkC (fId o) (f r).lg with
 | some c =>
  have hce:=T.ce r hr o ho c e
  have hcB:=hcb.ce o ho c e
  rcases hcB.st with h1 | h2 | h3
  ·refine xc (ys:=[JI o r c.att]) S hr ho rfl (λbk=>Uu hcb S.hk A hl e h1) (λz hz=>?_) (own2 λ_=>⟨c.att,List.mem_singleton_self _⟩) (by show 1+0+1≤2;omega)
   rw [List.mem_singleton.1 hz]
   refine ⟨o,r,A,.inr (.inl ⟨c.att,rfl,hcB.att.up (by omega),λea=>?_⟩)⟩
   rcases hce with ⟨_,k⟩ | ⟨_,k,_⟩
   ·exact k ea
   ·exact absurd h1 k
  ·refine xc (ys:=[]) S hr ho rfl (λbk=>(Ut hcb S.hk A hl e h2).trans (xI _).symm) (λz hz=>nomatch hz) (own2 λhp=>?_) (by show 0+1≤2;omega)
   rcases hce with ⟨k,_⟩ | ⟨k,_,_⟩
   ·omega
   ·rw [hp] at k;exact nomatch k
  ·have hp:=T.qxS hr ho e h3
   refine xc (ys:=[cmL key r o o c.att]) S hr ho rfl (λbk=>Us hcb S.hk A hl e h3) (λz hz=>?_) (own2 λhp2=>?_) (by show 1+0+1≤2;omega)
   ·rw [List.mem_singleton.1 hz]
    exact ⟨o,r,A,.inr (.inr (.inr (.inr ⟨c.att,hp,.inr rfl⟩)))⟩
   ·rw [hp] at hp2;exact nomatch hp2
 | none =>
  have hat:∃ a,zp iW (f r).xl (fId o) (cX key o)=a∧okT o (K+1) a∧(a=Att.zero→w r=0):=by
   have hno:=hcb.no (1 - o) (by omega)
   have hat:=qkw (key:=key) ho hcb.kn (λv hv=>by
    rw [hno] at hv
    cases e2:lkC (fId (1 - o)) (f r).lg with
    | none=>rw [e2] at hv;exact nomatch hv
    | some c2 =>
     rw [e2] at hv
     cases hv
     have h2:=hcb.ce (1 - o) (by omega) c2 e2
     exact ⟨h2.cmd,(h2.att.seq hK0).1⟩)
   cases e2:lkC (fId (1 - o)) (f r).lg with
   | none =>
    rw [hno,e2] at hat
    refine ⟨_,hat,.inl rfl,λ_=>?_⟩
    rcases T.wv r hr with h | h | h
    ·exact h
    ·by_cases e0:o=0
     ·subst e0;exact absurd e (T.wh r hr 0 ho h)
     ·have:o=1:=by omega
      subst this
      exact absurd e2 (T.wh r hr 0 (by omega) h)
    ·by_cases e0:o=0
     ·subst e0;exact absurd e2 (T.wh r hr 1 (by omega) h)
     ·have:o=1:=by omega
      subst this
      exact absurd e (T.wh r hr 1 ho h)
   | some c2 =>
    rw [hno,e2] at hat
    have h2:=(hcb.ce (1 - o) (by omega) c2 e2).att.seq hK0
    have hat:zp iW (f r).xl (fId o) (cX key o)=dS o (c2.att.seq+1):=hat
    exact ⟨_,hat,.inr ⟨_,by omega,by omega,rfl⟩,λea=>absurd ea (Lq (by omega))⟩
  obtain ⟨a,ha,hok,hz⟩:=hat
  have ht:=λbk=>Mo (bk:=bk) hcb1 S.hk hK (by omega) A hl e ha hok
  have hce:CeB key (K+1) o ⟨1,(0,0),(0,0),cX key o,a,decide (a=Att.zero)⟩:=⟨rfl,rfl,rfl,.inl rfl,λ_=>rfl,hok⟩
  have hcb2:=hcb1.upd ho hce
  have hlk:∀ p,lkC (fId p) ((f r).upd o ⟨1,(0,0),(0,0),cX key o,a,decide (a=Att.zero)⟩).lg=if p=o then some ⟨1,(0,0),(0,0),cX key o,a,decide (a=Att.zero)⟩ else lkC (fId p) (f r).lg:=λp=>rh ..
  have hlo:=hlk o
  rw [if_pos rfl] at hlo
  have hw':∀ {x:Nat},x=(if w r=0 then 1+o else w r)→x≠0:=λh=>by split at h<;>omega
  refine ⟨(((f r).upd o ⟨1,(0,0),(0,0),cX key o,a,decide (a=Att.zero)⟩).say (JI o r a)).qh,[JI o r a],ph o,if w r=0 then 1+o else w r,λbk=>?_,?_,?_⟩
  ·rw [ht]
   refine ⟨rfl,?_⟩
   show (f r).out++[JI o r a]=_
   rw [hq.2];rfl
  ·refine T.step hr S.sub S.rem ho rfl (Ph.le.refl _) (hcb2.say _).qh ⟨rfl,rfl⟩ (λ_=>rfl) ((hlk (1 - o)).trans (if_neg (by omega))) (λh=>if_neg h) (λh=>.inr (if_pos h)) (λ_=>hw' rfl) (λ_ h=>by
    have h:lkC (fId o) ((f r).upd o ⟨1,(0,0),(0,0),cX key o,a,decide (a=Att.zero)⟩).lg=none:=h
    rw [hlo] at h;exact nomatch h) (λz hz2=>?_) (λc hc=>?_) ?_
   ·rw [List.mem_singleton.1 hz2]
    refine ⟨o,r,A,.inr (.inl ⟨a,rfl,hok,λea=>?_⟩)⟩
    rw [zJ,if_pos (hz ea)]
   ·have hc:lkC (fId o) ((f r).upd o ⟨1,(0,0),(0,0),cX key o,a,decide (a=Att.zero)⟩).lg=some c:=hc
    rw [hlo] at hc
    cases hc
    exact .inl ⟨rfl,λea=>if_pos (hz ea)⟩
   ·refine (T.own o ho).next (by omega) (λq hq2=>?_) (by rw [zH _ _ (Ne.symm A.ne)]) (by rw [zH _ _ (Ne.symm A.ne)]) (λq c hc h3=>?_) (λz hz=>(S.rem z hz).imp id (List.mem_append_left _)) (λr' A' e hp=>?_) (λr' a d reps A' e=>zv (show (2:Int)≠1 by decide) e) (λr' v A' e=>zv (show (3:Int)≠1 by decide) e) (λr' v d cnt A' e=>zv (show (4:Int)≠1 by decide) e) (λr' v A' e=>zv (show (5:Int)≠1 by decide) e)
    ·by_cases eq:q=r
     ·subst eq;rw [zJ,if_neg hq2]
     ·rw [zH _ _ eq]
    ·by_cases eq:q=r
     ·subst eq;rw [e] at hc;exact nomatch hc
     ·rw [zH _ _ eq];exact hc
    ·have:((r':Nat):Int)=(r:Nat):=congrArg Lt.dst e
     have:r'=r:=by omega
     subst this
     exact ⟨a,List.mem_append_right _ (List.mem_singleton_self _)⟩
  ·show 1+0+pot n (ph o)+1≤2+pot n (ph o)
   omega
end Go.Fw
namespace Go.Fw
open Go.Proofs
variable {key:ByteArray} {o r s n bk:Nat} {K K':Int} {a v:Att} {c:Cel} {C:Co} {d:Dp} {reps:List Att} {cnt:Int}
variable {f:Nat→Co} {on on0:List Lt} {ph:Nat→Ph} {w:Nat→Nat} {y:Lt}
theorem Two.qzY(T:Two n key K f on ph w)(ho:o < 2)(h:(ph o).val=some v):okT o K v:=by
 have h2:=T.own o ho
 cases hp:ph o with
 | pre=>rw [hp] at h;exact nomatch h
 | acc u=>rw [hp] at h h2;cases h;obtain ⟨d,cnt,_,k,_⟩:=h2;exact k.ok
 | com u=>rw [hp] at h h2;cases h;exact h2.2.1
theorem qvj(S:StH n key K f on ph w (JL key o r v) on0)(A:AtO n o r)(hv:(ph o).val=some v):Nx n key K f on0 ph w o r (JL key o r v):=by
 have T:=S.T
 have ho:=A.o2
 have hr:=A.rn
 have hK:=S.hK
 have hK0:=S.hK0
 have hcb:=T.cb r hr
 have hl:=T.RZ A
 have hq:=T.q r hr
 have hcb1:=hcb.up (show K≤K+1 by omega)
 have hvo:=T.qzY ho hv
 have hvo1:=hvo.up (show K≤K+1 by omega)
 have own2:∀ {ys:List Lt} (h1:∀ u,ph o=.acc u→akL o r∈ys),rf n key (K+1) f (on0++ys) w o (ph o):=λ{ys} h1 =>
  (T.own o ho).next (by omega) (λ_ _=>rfl) rfl rfl (λ_ _ h _=>h) (λz hz=>(S.rem z hz).imp id (List.mem_append_left _)) (λr' A' e=>zv (show (1:Int)≠3 by decide) e) (λr' a d reps A' e=>zv (show (2:Int)≠3 by decide) e) (λr' v A' e hp=>by
   have:((r':Nat):Int)=(r:Nat):=congrArg Lt.dst e
   have:r'=r:=by omega
   subst this
   exact List.mem_append_right _ (h1 v hp)) (λr' v d cnt A' e=>zv (show (4:Int)≠3 by decide) e) (λr' v A' e=>zv (show (5:Int)≠3 by decide) e)
 by_cases hnew:∀ c,lkC (fId o) (f r).lg=some c→c.st=1
 ·have ht:=λbk=>Mp (bk:=bk) hcb1 S.hk hK (by omega) A hvo1 hl hnew
  have hce:CeB key (K+1) o ⟨2,(0,0),(0,0),cX key o,v,false⟩:=⟨rfl,rfl,rfl,.inr (.inl rfl),λe=>by simp at e,hvo1⟩
  have hcb2:=hcb1.upd ho hce
  have hlk:∀ p,lkC (fId p) ((f r).upd o ⟨2,(0,0),(0,0),cX key o,v,false⟩).lg=if p=o then some ⟨2,(0,0),(0,0),cX key o,v,false⟩ else lkC (fId p) (f r).lg:=λp=>rh ..
  have hlo:=hlk o
  rw [if_pos rfl] at hlo
  have hw':∀ {x:Nat},x=(if w r=0 then 1+o else w r)→x≠0:=λh=>by split at h<;>omega
  refine ⟨(((f r).upd o ⟨2,(0,0),(0,0),cX key o,v,false⟩).say (akL o r)).qh,[akL o r],ph o,if w r=0 then 1+o else w r,λbk=>?_,?_,?_⟩
  ·rw [ht]
   refine ⟨rfl,?_⟩
   show (f r).out++[akL o r]=_
   rw [hq.2];rfl
  ·refine T.step hr S.sub S.rem ho rfl (Ph.le.refl _) (hcb2.say _).qh ⟨rfl,rfl⟩ (λ_=>rfl) ((hlk (1 - o)).trans (if_neg (by omega))) (λh=>if_neg h) (λh=>.inr (if_pos h)) (λ_=>hw' rfl) (λ_ h=>by
    have h:lkC (fId o) ((f r).upd o ⟨2,(0,0),(0,0),cX key o,v,false⟩).lg=none:=h
    rw [hlo] at h;exact nomatch h) (λz hz2=>?_) (λc hc=>?_) ?_
   ·rw [List.mem_singleton.1 hz2]
    exact ⟨o,r,A,.inr (.inr (.inr (.inl rfl)))⟩
   ·have hc:lkC (fId o) ((f r).upd o ⟨2,(0,0),(0,0),cX key o,v,false⟩).lg=some c:=hc
    rw [hlo] at hc
    cases hc
    exact .inr ⟨hv,show (2:Int)≠1 by decide,λe=>absurd e (show ¬ (2:Int)=3 by decide)⟩
   ·refine (T.own o ho).next (by omega) (λq hq2=>?_) (by rw [zH _ _ (Ne.symm A.ne)]) (by rw [zH _ _ (Ne.symm A.ne)]) (λq c hc h3=>?_) (λz hz=>(S.rem z hz).imp id (List.mem_append_left _)) (λr' A' e=>zv (show (1:Int)≠3 by decide) e) (λr' a d reps A' e=>zv (show (2:Int)≠3 by decide) e) (λr' v A' e hp=>?_) (λr' v d cnt A' e=>zv (show (4:Int)≠3 by decide) e) (λr' v A' e=>zv (show (5:Int)≠3 by decide) e)
    ·by_cases eq:q=r
     ·subst eq;rw [zJ,if_neg hq2]
     ·rw [zH _ _ eq]
    ·by_cases eq:q=r
     ·subst eq
      have:=hnew c hc
      omega
     ·rw [zH _ _ eq];exact hc
    ·have:((r':Nat):Int)=(r:Nat):=congrArg Lt.dst e
     have:r'=r:=by omega
     subst this
     exact List.mem_append_right _ (List.mem_singleton_self _)
  ·show 1+0+pot n (ph o)+1≤2+pot n (ph o)
   omega
 ·obtain ⟨c,hc⟩:=Classical.not_forall.1 hnew
  obtain ⟨e,h1⟩:lkC (fId o) (f r).lg=some c∧c.st≠1:=Classical.not_imp.1 hc
  have hcB:=hcb.ce o ho c e
  rcases hcB.st with h1' | h2 | h3
  ·exact absurd h1' h1
  ·refine xc (ys:=[akL o r]) S hr ho rfl (λbk=>UC hcb S.hk (by omega) A hvo hl e h2) (λz hz=>?_) (own2 λ_ _=>List.mem_singleton_self _) (by show 1+0+1≤2;omega)
   rw [List.mem_singleton.1 hz]
   exact ⟨o,r,A,.inr (.inr (.inr (.inl rfl)))⟩
  ·have hp:=T.qxS hr ho e h3
   refine xc (ys:=[cmL key r o o c.att]) S hr ho rfl (λbk=>UB hcb S.hk (by omega) A hvo e h3) (λz hz=>?_) (own2 λu hp2=>?_) (by show 1+0+1≤2;omega)
   ·rw [List.mem_singleton.1 hz]
    exact ⟨o,r,A,.inr (.inr (.inr (.inr ⟨c.att,hp,.inr rfl⟩)))⟩
   ·rw [hp] at hp2;exact nomatch hp2
theorem qkU(S:StH n key K f on ph w (cmL key o r o v) on0)(A:AtO n o r)(hv:ph o=.com v):Nx n key K f on0 ph w o r (cmL key o r o v):=by
 have T:=S.T
 have ho:=A.o2
 have hr:=A.rn
 have hK:=S.hK
 have hK0:=S.hK0
 have hcb:=T.cb r hr
 have hl:=T.RZ A
 have hq:=T.q r hr
 have hcb1:=hcb.up (show K≤K+1 by omega)
 have hvo:=T.qzY (v:=v) ho (by rw [hv];rfl)
 have hvo1:=hvo.up (show K≤K+1 by omega)
 have ht0:=λbk=>hcb.Tx (bk:=bk) S.hk (by omega) (s:=o) ho A.on hr A.on (Ne.symm A.ne) A.n7 hvo
 have nokind:∀ {P:Prop} {x:Lt},x=cmL key o r o v→x.kind≠5→P:=λe h=>by subst e;exact absurd rfl h
 by_cases h3:∃ c,lkC (fId o) (f r).lg=some c∧c.st=3
 ·obtain ⟨c,e,h3⟩:=h3
  refine xc (ys:=[]) S hr ho rfl (λbk=>((ht0 bk).trans (qzp rfl e h3)).trans (xI _).symm) (λz hz=>nomatch hz) ?_ (by show 0+1≤1;omega)
  refine (T.own o ho).next (by omega) (λ_ _=>rfl) rfl rfl (λ_ _ h _=>h) (λz hz=>(S.rem z hz).imp id (List.mem_append_left _)) (λr' A' e=>zv (show (1:Int)≠5 by decide) e) (λr' a d reps A' e=>zv (show (2:Int)≠5 by decide) e) (λr' v A' e=>zv (show (3:Int)≠5 by decide) e) (λr' v d cnt A' e=>zv (show (4:Int)≠5 by decide) e) (λr' v A' e' hp=>?_)
  have:((r':Nat):Int)=(r:Nat):=congrArg Lt.dst e'
  have:r'=r:=by omega
  subst this
  exact ⟨c,e,h3⟩
 ·have hnew:∀ c,lkC (fId o) (f r).lg=some c→c.st≠3:=λc e h=>h3 ⟨c,e,h⟩
  have ht:=λbk=>(ht0 bk).trans (qzn (s:=o) hcb1 S.hk hK (by omega) ho hvo1 hl hnew)
  have hce:CeB key (K+1) o ⟨3,(0,0),(0,0),cX key o,v,false⟩:=⟨rfl,rfl,rfl,.inr (.inr rfl),λe=>by simp at e,hvo1⟩
  have hcb2:=hcb1.upd ho hce
  have hlk:∀ p,lkC (fId p) ((f r).upd o ⟨3,(0,0),(0,0),cX key o,v,false⟩).lg=if p=o then some ⟨3,(0,0),(0,0),cX key o,v,false⟩ else lkC (fId p) (f r).lg:=λp=>rh ..
  have hlo:=hlk o
  rw [if_pos rfl] at hlo
  have hw':∀ {x:Nat},x=(if w r=0 then 1+o else w r)→x≠0:=λh=>by split at h<;>omega
  refine ⟨((f r).upd o ⟨3,(0,0),(0,0),cX key o,v,false⟩).qh,[],ph o,if w r=0 then 1+o else w r,λbk=>?_,?_,?_⟩
  ·rw [ht]
   exact ⟨rfl,hq.2⟩
  ·refine T.step hr S.sub S.rem ho rfl (Ph.le.refl _) hcb2.qh ⟨rfl,rfl⟩ (λ_=>rfl) ((hlk (1 - o)).trans (if_neg (by omega))) (λh=>if_neg h) (λh=>.inr (if_pos h)) (λ_=>hw' rfl) (λ_ h=>by
    have h:lkC (fId o) ((f r).upd o ⟨3,(0,0),(0,0),cX key o,v,false⟩).lg=none:=h
    rw [hlo] at h;exact nomatch h) (λz hz2=>nomatch hz2) (λc hc=>?_) ?_
   ·have hc:lkC (fId o) ((f r).upd o ⟨3,(0,0),(0,0),cX key o,v,false⟩).lg=some c:=hc
    rw [hlo] at hc
    cases hc
    exact .inr ⟨by rw [hv];rfl,show (3:Int)≠1 by decide,λe=>by rw [hv];trivial⟩
   ·refine (T.own o ho).next (by omega) (λq hq2=>?_) (by rw [zH _ _ (Ne.symm A.ne)]) (by rw [zH _ _ (Ne.symm A.ne)]) (λq c hc h33=>?_) (λz hz=>(S.rem z hz).imp id (List.mem_append_left _)) (λr' A' e=>zv (show (1:Int)≠5 by decide) e) (λr' a d reps A' e=>zv (show (2:Int)≠5 by decide) e) (λr' v A' e=>zv (show (3:Int)≠5 by decide) e) (λr' v d cnt A' e=>zv (show (4:Int)≠5 by decide) e) (λr' v A' e' hp=>?_)
    ·by_cases eq:q=r
     ·subst eq;rw [zJ,if_neg hq2]
     ·rw [zH _ _ eq]
    ·by_cases eq:q=r
     ·subst eq
      exact absurd h33 (hnew c hc)
     ·rw [zH _ _ eq];exact hc
    ·have:((r':Nat):Int)=(r:Nat):=congrArg Lt.dst e'
     have:r'=r:=by omega
     subst this
     rw [zJ]
     exact ⟨_,hlo,rfl⟩
  ·show 0+pot n (ph o)+1≤1+pot n (ph o)
   omega
theorem qvq(S:StH n key K f on ph w (cmL key r o o v) on0)(A:AtO n o r)(hv:ph o=.com v):Nx n key K f on0 ph w o o (cmL key r o o v):=by
 have T:=S.T
 have ho:=A.o2
 have hK:=S.hK
 have hcb:=T.cb o A.on
 have hvo:=T.qzY (v:=v) ho (by rw [hv];rfl)
 have hown:=T.own o ho
 have h4:=hown
 rw [hv] at h4
 obtain ⟨c,e,h3⟩:=h4.2.2.2.1
 have ht0:=λbk=>hcb.Tx (bk:=bk) S.hk (by omega) (s:=r) ho A.on A.on A.rn A.ne A.n7 hvo
 refine xc (ys:=[]) S A.on ho rfl (λbk=>((ht0 bk).trans (qzp rfl e h3)).trans (xI _).symm) (λz hz=>nomatch hz) ?_ (by show 0+1≤1;omega)
 refine hown.next (by omega) (λ_ _=>rfl) rfl rfl (λ_ _ h _=>h) (λz hz=>(S.rem z hz).imp id (List.mem_append_left _)) (λr' A' e=>zv (show (1:Int)≠5 by decide) e) (λr' a d reps A' e=>zv (show (2:Int)≠5 by decide) e) (λr' v A' e=>zv (show (3:Int)≠5 by decide) e) (λr' v d cnt A' e=>zv (show (4:Int)≠5 by decide) e) (λr' v A' e' hp=>?_)
 have:((r':Nat):Int)=(o:Nat):=congrArg Lt.dst e'
 exact absurd (show r'=o by omega) A'.ne
end Go.Fw
namespace Go.Fw
open Go.Proofs
variable {key:ByteArray} {o r s n bk:Nat} {K K':Int} {a v:Att} {c:Cel} {C:Co} {d:Dp} {reps:List Att} {cnt:Int}
variable {f:Nat→Co} {on on0:List Lt} {ph:Nat→Ph} {w:Nat→Nat} {y:Lt}
theorem qzj{g:Nat→Lt}{m:Nat}(hg:∀ k,wt (g k)=m):∀ l:List Nat,((l.map g).map wt).sum=m*l.length
 | []=>by simp
 | a::l=>by
  rw [List.map_cons,List.map_cons,List.sum_cons,qzj hg l,hg a,List.length_cons,Nat.mul_add]
  omega
theorem Be{g:Nat→Lt}{m:Nat}(hg:∀ k,wt (g k)=m)(ho:o < n):(((yA n o).map g).map wt).sum=m*(n - 1):=by
 have:=qjC ho
 rw [qzj hg,show (yA n o).length=n - 1 by omega]
theorem qvD{d d':Dp}{reps reps':List Att}{c c':Int}(h:[zn key o d reps c]=[zn key o d' reps' c']):d=d':=congrArg Ld.ans (List.cons.inj h).1
theorem qys{d d':Dp}{v v':Att}{c c':Int}(h:[xy key o v d c]=[xy key o v' d' c']):d=d':=congrArg Ld.ans (List.cons.inj h).1
theorem Tc{d d':Dp}{v':Att}{c c':Int}(h:[zn key o d reps c]=[xy key o v' d' c']){P:Prop}:P:=absurd (congrArg Ld.way (List.cons.inj h).1) (show ¬ (0:Int)=1 by decide)
theorem Cp(T:Two n key K f on ph w)(hsub:∀ z∈on0,z∈on)(hrem:∀ z∈on,z=y∨z∈on0)(ho:o < 2)(hon:o < n)(hy:y.inst=fId o){C1:Co}{ys:List Lt}{p':Ph}(ht:∀ bk,((f o).take bk y).1.qh=C1∧((f o).take bk y).1.out=ys)(hp:(ph o).le p')(hcb:CB n key (K+1) o C1)(hq:C1.recs=[]∧C1.out=[])(hot:lkC (fId (1 - o)) C1.lg=lkC (fId (1 - o)) (f o).lg)(hlk:lkC (fId o) C1.lg≠none)(hwo:w o≠0)(hlt:∀ z∈ys,LtW n key (K+1) (upF ph o p') w z)(hce:∀ c,lkC (fId o) C1.lg=some c→Hh p' (w o) o c)(hown:rf n key (K+1) (upF f o C1) (on0++ys) w o p')(hwt:(ys.map wt).sum+pot n p'+1≤wt y+pot n (ph o)):Nx n key K f on0 ph w o o y:=by
 refine ⟨C1,ys,p',w o,ht,T.step hon hsub hrem ho hy hp hcb hq (λh=>absurd rfl h) hot (λ_=>rfl) (λh=>absurd h hwo) (λ_=>hwo) (λ_=>hlk) ?_ hce ?_,hwt⟩
 ·rw [aM];exact hlt
 ·rw [aM];exact hown
theorem UH(l:List Att)(a:Att):vH Att.zero (l++[a])=vH Att.zero l+if a=Att.zero then 1 else 0:=by
 unfold vH
 rw [List.countP_append]
 by_cases h:a=Att.zero
 ·simp [h]
 ·simp [h]
theorem qkT(S:StH n key K f on ph w (JI o r a) on0)(A:AtO n o r)(hok:okT o K a)(hz:a=Att.zero→w r=1+o):Nx n key K f on0 ph w o o (JI o r a):=by
 have T:=S.T
 have ho:=A.o2
 have hr:=A.rn
 have hon:=A.on
 have h7:=A.n7
 have hK:=S.hK
 have hK0:=S.hK0
 have h3n:=S.n3
 have hcb:=T.cb o hon
 have hq:=T.q o hon
 have hcb1:=hcb.up (show K≤K+1 by omega)
 have hown:=T.own o ho
 have ht0:=λbk=>hcb.qkM (bk:=bk) S.hk (by omega) A hok
 have own2:∀ (h2:∀ d reps,(f o).leads=[zn key o d reps (reps.length:Nat)]→d.g r≠0),rf n key (K+1) f (on0++[]) w o (ph o):=λh2 =>
  hown.next (by omega) (λ_ _=>rfl) rfl rfl (λ_ _ h _=>h) (λz hz=>(S.rem z hz).imp id (List.mem_append_left _)) (λr' A' e=>zv (show (1:Int)≠2 by decide) e) (λr' a d reps A' e hl=>by
   have:((r':Nat):Int)=(r:Nat):=congrArg Lt.src e
   have:r'=r:=by omega
   subst this
   exact h2 d reps hl) (λr' v A' e=>zv (show (3:Int)≠2 by decide) e) (λr' v d cnt A' e=>zv (show (4:Int)≠2 by decide) e) (λr' v A' e=>zv (show (5:Int)≠2 by decide) e)
 cases hp:ph o with
 | com v =>
  have k:=hown
  rw [hp] at k
  have hl:=k.1
  exact xc (ys:=[]) S hon ho rfl (λbk=>((ht0 bk).trans (Pc (o:=o) rfl hl)).trans (xI _).symm) (λz hz=>nomatch hz) (own2 λd reps e=>by rw [hl] at e;exact nomatch e) (by show 0+1≤1;omega)
 | acc v =>
  have k:=hown
  rw [hp] at k
  obtain ⟨d,cnt,hl,_⟩:=k
  exact xc (ys:=[]) S hon ho rfl (λbk=>((ht0 bk).trans (qZm hl)).trans (xI _).symm) (λz hz=>nomatch hz) (own2 λd reps e=>by rw [hl] at e;exact Tc e.symm) (by show 0+1≤1;omega)
 | pre =>
  have k:=hown
  rw [hp] at k
  obtain ⟨d,reps,hl,P,⟨c,ec,hc1⟩,htok⟩:=k
  by_cases hd:d.g r≠0
  ·exact xc (ys:=[]) S hon ho rfl (λbk=>((ht0 bk).trans (qZl hl hd)).trans (xI _).symm) (λz hz=>nomatch hz) (own2 λd' reps' e=>by rw [hl] at e;rw [← qvD e];exact hd) (by show 0+1≤1;omega)
  ·have hd:d.g r=0:=Classical.not_not.1 hd
   have ht:=λbk=>(ht0 bk).trans (po_go hl hd)
   have hwo:w o≠0:=T.wn o hon o ho (by rw [ec];simp)
   have hsame:vH Att.zero (reps++[a])≤SQ n (Dp.up d r 1) w o:=by
    rw [UH]
    have h1:=P.same
    by_cases e:a=Att.zero
    ·have:=qyK (o:=o) hr h7 hd (hz e)
     rw [if_pos e];omega
    ·have:=qyV (d:=d) (r:=r) (w:=w) (o:=o) h7
     rw [if_neg e];omega
   have hlen:(reps++[a]).length=GV n (Dp.up d r 1):=by
    rw [Uq hr h7 hd,← P.len];simp
   have hoks:∀ b∈reps++[a],okT o (K+1) b:=λb hb=>by
    rcases List.mem_append.1 hb with hb | hb
    ·exact (P.ok b hb).up (by omega)
    ·rw [List.mem_singleton.1 hb];exact hok.up (by omega)
   have hz':(Dp.up d r 1).g o=0:=by rw [Bh (Ne.symm A.ne)];exact P.z
   have hcnt:((reps.length:Nat):Int)+1=((reps++[a]).length:Nat):=by simp
   rw [hcnt] at ht
   generalize hreps:reps++[a]=R at *
   generalize hd':Dp.up d r 1=D at *
   have hlC:((f o).led [zn key o D R (R.length:Nat)]).leads=[zn key o D R (R.length:Nat)]:=rfl
   have hcb2:=hcb1.led [zn key o D R (R.length:Nat)]
   have ec2:lkC (fId o) ((f o).led [zn key o D R (R.length:Nat)]).lg=some c:=ec
   have hn2:((f o).led [zn key o D R (R.length:Nat)]).n=n:=hcb.n
   by_cases h1:n≤vH Att.zero R+2
   ·have hpq:VT ((f o).led [zn key o D R (R.length:Nat)]).n (zn key o D R (R.length:Nat)).first (zn key o D R (R.length:Nat)).att (zn key o D R (R.length:Nat)).reps false=(1,Att.zero):=by
     rw [hn2]
     show VT n true Att.zero R false=_
     unfold VT
     rw [if_pos ⟨rfl,h1⟩]
    have hcm:=Ea hcb2 S.hk hK (by omega) ho (v:=Att.zero) (.inl rfl) hlC rfl ec2 (by omega)
    have ht2:∀ bk,((f o).take bk (JI o r a)).1=(((((f o).led [zn key o D R (R.length:Nat)]).led []).upd o ⟨3,(0,0),(0,0),cX key o,Att.zero,false⟩).ri ((yA n o).map λk=>cmL key o k o Att.zero)):=λbk=>(ht bk).trans ((qkp hpq).trans hcm)
    have hce:CeB key (K+1) o ⟨3,(0,0),(0,0),cX key o,Att.zero,false⟩:=⟨rfl,rfl,rfl,.inr (.inr rfl),λe=>by simp at e,.inl rfl⟩
    have hlk:∀ p,lkC (fId p) ((((f o).led [zn key o D R (R.length:Nat)]).led []).upd o ⟨3,(0,0),(0,0),cX key o,Att.zero,false⟩).lg=if p=o then some ⟨3,(0,0),(0,0),cX key o,Att.zero,false⟩ else lkC (fId p) (f o).lg:=λp=>rh ..
    have hlo:=hlk o
    rw [if_pos rfl] at hlo
    refine Cp (p':=.com Att.zero) (C1:=((((f o).led [zn key o D R (R.length:Nat)]).led []).upd o ⟨3,(0,0),(0,0),cX key o,Att.zero,false⟩).qh) (ys:=(yA n o).map λk=>cmL key o k o Att.zero) T S.sub S.rem ho hon rfl (λbk=>?_) ⟨λv h=>by rw [hp] at h;exact (nomatch h),λ_=>trivial⟩ (((hcb2.led []).upd ho hce).qh) ⟨rfl,rfl⟩ ((hlk (1 - o)).trans (if_neg (by omega))) (λh=>?_) hwo (λz hz=>?_) (λc hc=>?_) ?_ ?_
    ·rw [ht2]
     refine ⟨rfl,?_⟩
     show (f o).out++_=_
     rw [hq.2];rfl
    ·have h:lkC (fId o) ((((f o).led [zn key o D R (R.length:Nat)]).led []).upd o ⟨3,(0,0),(0,0),cX key o,Att.zero,false⟩).lg=none:=h
     rw [hlo] at h;exact nomatch h
    ·obtain ⟨k,hk,rfl⟩:=List.mem_map.1 hz
     have hk:=QY.1 hk
     exact ⟨o,k,⟨ho,hon,hk.1,hk.2,h7⟩,.inr (.inr (.inr (.inr ⟨Att.zero,zJ ..,.inl rfl⟩)))⟩
    ·have hc:lkC (fId o) ((((f o).led [zn key o D R (R.length:Nat)]).led []).upd o ⟨3,(0,0),(0,0),cX key o,Att.zero,false⟩).lg=some c:=hc
     rw [hlo] at hc
     cases hc
     exact .inr ⟨rfl,show (3:Int)≠1 by decide,λ_=>trivial⟩
    ·refine ⟨by rw [zJ];rfl,.inl rfl,λ_=>?_,⟨_,by rw [zJ];exact hlo,rfl⟩,λr' A'=>.inl (List.mem_append_right _ (List.mem_map.2 ⟨r',QY.2 ⟨A'.rn,A'.ne⟩,rfl⟩))⟩
     have:=qJh (n:=n) (w:=w) hz'
     omega
    ·rw [Be (m:=1) (λk=>rfl) hon,hp]
     show 1*(n - 1)+0+1≤1+3*(n - 1)
     omega
   ·by_cases h2:R.length < n / 2∨(true=true∧false=false∧R.length < vH Att.zero R+2)
    ·have hpq:VT n true Att.zero R false=(0,Att.zero):=by
      unfold VT
      rw [if_neg (λh=>h1 h.2),if_pos h2]
     have hw:(((f o).led [zn key o D R (R.length:Nat)]).xp (zn key o D R (R.length:Nat)) false).1=(f o).led [zn key o D R (R.length:Nat)]:=qkr (by
      rw [hn2]
      show (VT n true Att.zero R false).1=0
      rw [hpq])
     have ht2:=λbk=>(ht bk).trans hw
     refine Cp (p':=.pre) (C1:=(f o).led [zn key o D R (R.length:Nat)]) (ys:=[]) T S.sub S.rem ho hon rfl (λbk=>?_) (by rw [hp];exact Ph.le.refl _) hcb2 hq rfl (λh=>?_) hwo (λz hz=>nomatch hz) (λc hc=>?_) ?_ (by rw [hp];show 0+pot n .pre+1≤1+pot n .pre;omega)
     ·rw [ht2]
      have:=BZ (C:=(f o).led [zn key o D R (R.length:Nat)]) hq []
      rw [xI] at this
      exact this
     ·have h:lkC (fId o) (f o).lg=none:=h
      rw [ec] at h;exact nomatch h
     ·have:=T.ce o hon o ho c hc
      rw [hp] at this
      exact this
     ·refine ⟨D,R,by rw [zJ];rfl,⟨hz',hlen,hoks,hsame,by rw [hpq]⟩,⟨c,by rw [zJ];exact ec,hc1⟩,λr' A'=>?_⟩
      rcases htok r' A' with m | ⟨b,m⟩ | m
      ·rcases S.rem _ m with e | m
       ·exact zv (show (1:Int)≠2 by decide) e
       ·exact .inl (List.mem_append_left _ m)
      ·rcases S.rem _ m with e | m
       ·have:((r':Nat):Int)=(r:Nat):=congrArg Lt.src e
        have:r'=r:=by omega
        subst this
        refine .inr (.inr ?_)
        rw [← hd',Bi (by omega)];decide
       ·exact .inr (.inl ⟨b,List.mem_append_left _ m⟩)
      ·refine .inr (.inr ?_)
       rw [← hd']
       by_cases e:r'=r
       ·subst e;rw [Bi (by omega)];decide
       ·rw [Bh e];exact m
    ·have hpq:VT ((f o).led [zn key o D R (R.length:Nat)]).n (zn key o D R (R.length:Nat)).first (zn key o D R (R.length:Nat)).att (zn key o D R (R.length:Nat)).reps false=(2,jc (Att.zero::R)):=by
      rw [hn2]
      show VT n true Att.zero R false=_
      unfold VT
      rw [if_neg (λh=>h1 h.2),if_neg h2]
     have hj:=Np (o:=o) (K:=K+1) R Att.zero (.inl rfl) hoks
     have hjv:R.foldl zG Att.zero=jc (Att.zero::R):=rfl
     rw [hjv] at hj
     have hnz:jc (Att.zero::R)≠Att.zero:=λe=>by
      have hall:=(hj.2 e).2
      refine h2 (.inr ⟨rfl,rfl,?_⟩)
      have:vH Att.zero R=R.length:=by
       unfold vH
       exact List.countP_eq_length.2 λb hb=>decide_eq_true (hall b hb)
      omega
     generalize jc (Att.zero::R)=v at *
     have hac:=SH hcb2 S.hk hK (by omega) ho hj.1 hlC rfl rfl ec2 hc1
     have ht2:∀ bk,((f o).take bk (JI o r a)).1=((((f o).led [zn key o D R (R.length:Nat)]).upd o ⟨2,(0,0),(0,0),cX key o,v,false⟩).led [xy key o v Dp.zero 0]).ri ((yA n o).map λk=>JL key o k v):=λbk=>(ht bk).trans ((qko hpq).trans hac)
     have hce:CeB key (K+1) o ⟨2,(0,0),(0,0),cX key o,v,false⟩:=⟨rfl,rfl,rfl,.inr (.inl rfl),λe=>by simp at e,hj.1⟩
     have hlk:∀ p,lkC (fId p) (((f o).led [zn key o D R (R.length:Nat)]).upd o ⟨2,(0,0),(0,0),cX key o,v,false⟩).lg=if p=o then some ⟨2,(0,0),(0,0),cX key o,v,false⟩ else lkC (fId p) (f o).lg:=λp=>rh ..
     have hlo:=hlk o
     rw [if_pos rfl] at hlo
     refine Cp (p':=.acc v) (C1:=((((f o).led [zn key o D R (R.length:Nat)]).upd o ⟨2,(0,0),(0,0),cX key o,v,false⟩).led [xy key o v Dp.zero 0]).qh) (ys:=(yA n o).map λk=>JL key o k v) T S.sub S.rem ho hon rfl (λbk=>?_) ⟨λv h=>by rw [hp] at h;exact (nomatch h),λh=>by rw [hp] at h;exact h.elim⟩ (((hcb2.upd ho hce).led _).qh) ⟨rfl,rfl⟩ ((hlk (1 - o)).trans (if_neg (by omega))) (λh=>?_) hwo (λz hz=>?_) (λc hc=>?_) ?_ ?_
     ·rw [ht2]
      refine ⟨rfl,?_⟩
      show (f o).out++_=_
      rw [hq.2];rfl
     ·have h:lkC (fId o) (((f o).led [zn key o D R (R.length:Nat)]).upd o ⟨2,(0,0),(0,0),cX key o,v,false⟩).lg=none:=h
      rw [hlo] at h;exact nomatch h
     ·obtain ⟨k,hk,rfl⟩:=List.mem_map.1 hz
      have hk:=QY.1 hk
      exact ⟨o,k,⟨ho,hon,hk.1,hk.2,h7⟩,.inr (.inr (.inl ⟨v,rfl,by rw [zJ];rfl⟩))⟩
     ·have hc:lkC (fId o) (((f o).led [zn key o D R (R.length:Nat)]).upd o ⟨2,(0,0),(0,0),cX key o,v,false⟩).lg=some c:=hc
      rw [hlo] at hc
      cases hc
      exact .inr ⟨rfl,show (2:Int)≠1 by decide,λe=>absurd e (show ¬ (2:Int)=3 by decide)⟩
     ·refine ⟨Dp.zero,0,by rw [zJ];rfl,⟨z_g _,hj.1,hnz,by simp [GV,z_g],by omega⟩,⟨_,by rw [zJ];exact hlo,rfl⟩,λr' A'=>.inl (List.mem_append_right _ (List.mem_map.2 ⟨r',QY.2 ⟨A'.rn,A'.ne⟩,rfl⟩))⟩
     ·rw [Be (m:=2) (λk=>rfl) hon,hp]
      show 2*(n - 1)+(n - 1)+1≤1+3*(n - 1)
      omega
end Go.Fw
namespace Go.Fw
open Go.Proofs
variable {key:ByteArray} {o r s n bk:Nat} {K K':Int} {a v:Att} {c:Cel} {C:Co} {d:Dp} {reps:List Att} {cnt:Int}
variable {f:Nat→Co} {on on0:List Lt} {ph:Nat→Ph} {w:Nat→Nat} {y:Lt}
theorem qvz(S:StH n key K f on ph w (akL o r) on0)(A:AtO n o r):Nx n key K f on0 ph w o o (akL o r):=by
 have T:=S.T
 have ho:=A.o2
 have hr:=A.rn
 have hon:=A.on
 have h7:=A.n7
 have hK:=S.hK
 have hK0:=S.hK0
 have h3n:=S.n3
 have hcb:=T.cb o hon
 have hq:=T.q o hon
 have hcb1:=hcb.up (show K≤K+1 by omega)
 have hown:=T.own o ho
 have ht0:=λbk=>hcb.qkN (bk:=bk) S.hk A
 have own2:∀ (h2:∀ v d,∀ cnt:Nat,(f o).leads=[xy key o v d (cnt:Nat)]→d.g r≠0),rf n key (K+1) f (on0++[]) w o (ph o):=λh2 =>
  hown.next (by omega) (λ_ _=>rfl) rfl rfl (λ_ _ h _=>h) (λz hz=>(S.rem z hz).imp id (List.mem_append_left _)) (λr' A' e=>zv (show (1:Int)≠4 by decide) e) (λr' a d reps A' e=>zv (show (2:Int)≠4 by decide) e) (λr' v A' e=>zv (show (3:Int)≠4 by decide) e) (λr' v d cnt A' e hl=>by
   have:((r':Nat):Int)=(r:Nat):=congrArg Lt.src e
   have:r'=r:=by omega
   subst this
   exact h2 v d cnt hl) (λr' v A' e=>zv (show (5:Int)≠4 by decide) e)
 cases hp:ph o with
 | com v =>
  have k:=hown
  rw [hp] at k
  have hl:=k.1
  exact xc (ys:=[]) S hon ho rfl (λbk=>((ht0 bk).trans (Pc (o:=o) rfl hl)).trans (xI _).symm) (λz hz=>nomatch hz) (own2 λv d cnt e=>by rw [hl] at e;exact nomatch e) (by show 0+1≤1;omega)
 | pre =>
  have k:=hown
  rw [hp] at k
  obtain ⟨d,reps,hl,_⟩:=k
  exact xc (ys:=[]) S hon ho rfl (λbk=>((ht0 bk).trans (qJA hl)).trans (xI _).symm) (λz hz=>nomatch hz) (own2 λv d cnt e=>by rw [hl] at e;exact Tc e) (by show 0+1≤1;omega)
 | acc v =>
  have k:=hown
  rw [hp] at k
  obtain ⟨d,cnt,hl,P,⟨c,ec,hc2⟩,htok⟩:=k
  by_cases hd:d.g r≠0
  ·exact xc (ys:=[]) S hon ho rfl (λbk=>((ht0 bk).trans (qJB hl hd)).trans (xI _).symm) (λz hz=>nomatch hz) (own2 λv' d' cnt' e=>by rw [hl] at e;rw [← qys e];exact hd) (by show 0+1≤1;omega)
  ·have hd:d.g r=0:=Classical.not_not.1 hd
   have ht:=λbk=>(ht0 bk).trans (ak_go hl hd)
   have hwo:w o≠0:=T.wn o hon o ho (by rw [ec];simp)
   have hz':(Dp.up d r 1).g o=0:=by rw [Bh (Ne.symm A.ne)];exact P.z
   have hnum:cnt+1=GV n (Dp.up d r 1):=by rw [Uq hr h7 hd,← P.num]
   have hcnt:((cnt:Nat):Int)+1=((cnt+1:Nat):Nat):=by omega
   rw [hcnt,hcb.n] at ht
   have hvo:=P.ok.up (show K≤K+1 by omega)
   generalize hd':Dp.up d r 1=D at *
   have hlC:((f o).led [xy key o v D ((cnt+1:Nat):Nat)]).leads=[xy key o v D ((cnt+1:Nat):Nat)]:=rfl
   have hcb2:=hcb1.led [xy key o v D ((cnt+1:Nat):Nat)]
   have ec2:lkC (fId o) ((f o).led [xy key o v D ((cnt+1:Nat):Nat)]).lg=some c:=ec
   by_cases h1:((n / 2+1:Nat):Int)≤(cnt:Nat)+2
   ·have hcm:=Ea hcb2 S.hk hK (by omega) ho hvo hlC rfl ec2 (by omega)
    have ht2:∀ bk,((f o).take bk (akL o r)).1=(((((f o).led [xy key o v D ((cnt+1:Nat):Nat)]).led []).upd o ⟨3,(0,0),(0,0),cX key o,v,false⟩).ri ((yA n o).map λk=>cmL key o k o v)):=λbk=>((ht bk).trans (if_pos h1)).trans hcm
    have hce:CeB key (K+1) o ⟨3,(0,0),(0,0),cX key o,v,false⟩:=⟨rfl,rfl,rfl,.inr (.inr rfl),λe=>by simp at e,hvo⟩
    have hlk:∀ p,lkC (fId p) ((((f o).led [xy key o v D ((cnt+1:Nat):Nat)]).led []).upd o ⟨3,(0,0),(0,0),cX key o,v,false⟩).lg=if p=o then some ⟨3,(0,0),(0,0),cX key o,v,false⟩ else lkC (fId p) (f o).lg:=λp=>rh ..
    have hlo:=hlk o
    rw [if_pos rfl] at hlo
    refine Cp (p':=.com v) (C1:=((((f o).led [xy key o v D ((cnt+1:Nat):Nat)]).led []).upd o ⟨3,(0,0),(0,0),cX key o,v,false⟩).qh) (ys:=(yA n o).map λk=>cmL key o k o v) T S.sub S.rem ho hon rfl (λbk=>?_) ⟨λu h=>by rw [hp] at h;exact h,λ_=>trivial⟩ (((hcb2.led []).upd ho hce).qh) ⟨rfl,rfl⟩ ((hlk (1 - o)).trans (if_neg (by omega))) (λh=>?_) hwo (λz hz=>?_) (λc hc=>?_) ?_ ?_
    ·rw [ht2]
     refine ⟨rfl,?_⟩
     show (f o).out++_=_
     rw [hq.2];rfl
    ·have h:lkC (fId o) ((((f o).led [xy key o v D ((cnt+1:Nat):Nat)]).led []).upd o ⟨3,(0,0),(0,0),cX key o,v,false⟩).lg=none:=h
     rw [hlo] at h;exact nomatch h
    ·obtain ⟨k,hk,rfl⟩:=List.mem_map.1 hz
     have hk:=QY.1 hk
     exact ⟨o,k,⟨ho,hon,hk.1,hk.2,h7⟩,.inr (.inr (.inr (.inr ⟨v,zJ ..,.inl rfl⟩)))⟩
    ·have hc:lkC (fId o) ((((f o).led [xy key o v D ((cnt+1:Nat):Nat)]).led []).upd o ⟨3,(0,0),(0,0),cX key o,v,false⟩).lg=some c:=hc
     rw [hlo] at hc
     cases hc
     exact .inr ⟨rfl,show (3:Int)≠1 by decide,λ_=>trivial⟩
    ·exact ⟨by rw [zJ];rfl,hvo,λe=>absurd e P.nz,⟨_,by rw [zJ];exact hlo,rfl⟩,λr' A'=>.inl (List.mem_append_right _ (List.mem_map.2 ⟨r',QY.2 ⟨A'.rn,A'.ne⟩,rfl⟩))⟩
    ·rw [Be (m:=1) (λk=>rfl) hon,hp]
     show 1*(n - 1)+0+1≤1+(n - 1)
     omega
   ·have ht2:=λbk=>(ht bk).trans (if_neg h1)
    refine Cp (p':=.acc v) (C1:=(f o).led [xy key o v D ((cnt+1:Nat):Nat)]) (ys:=[]) T S.sub S.rem ho hon rfl (λbk=>?_) (by rw [hp];exact Ph.le.refl _) hcb2 hq rfl (λh=>?_) hwo (λz hz=>nomatch hz) (λc hc=>?_) ?_ (by rw [hp];show 0+pot n (.acc v)+1≤1+pot n (.acc v);omega)
    ·rw [ht2]
     have:=BZ (C:=(f o).led [xy key o v D ((cnt+1:Nat):Nat)]) hq []
     rw [xI] at this
     exact this
    ·have h:lkC (fId o) (f o).lg=none:=h
     rw [ec] at h;exact nomatch h
    ·have:=T.ce o hon o ho c hc
     rw [hp] at this
     exact this
    ·refine ⟨D,cnt+1,by rw [zJ];rfl,⟨hz',hvo,P.nz,hnum,by have:=P.un;omega⟩,⟨c,by rw [zJ];exact ec,hc2⟩,λr' A'=>?_⟩
     rcases htok r' A' with m | m | m
     ·rcases S.rem _ m with e | m
      ·exact zv (show (3:Int)≠4 by decide) e
      ·exact .inl (List.mem_append_left _ m)
     ·rcases S.rem _ m with e | m
      ·have:((r':Nat):Int)=(r:Nat):=congrArg Lt.src e
       have:r'=r:=by omega
       subst this
       refine .inr (.inr ?_)
       rw [← hd',Bi (by omega)];decide
      ·exact .inr (.inl (List.mem_append_left _ m))
     ·refine .inr (.inr ?_)
      rw [← hd']
      by_cases e:r'=r
      ·subst e;rw [Bi (by omega)];decide
      ·rw [Bh e];exact m
theorem qzP(S:StH n key K f on ph w y on0)(hy:LtW n key K ph w y):∃ o s,o < 2∧s < n∧y.dst=(s:Nat)∧Nx n key K f on0 ph w o s y:=by
 obtain ⟨o,r,A,h⟩:=hy
 rcases h with e | ⟨a,e,h1,h2⟩ | ⟨v,e,h1⟩ | e | ⟨v,h1,e | e⟩
 ·subst e;exact ⟨o,r,A.o2,A.rn,rfl,qkS S A⟩
 ·subst e;exact ⟨o,o,A.o2,A.on,rfl,qkT S A h1 h2⟩
 ·subst e;exact ⟨o,r,A.o2,A.rn,rfl,qvj S A h1⟩
 ·subst e;exact ⟨o,o,A.o2,A.on,rfl,qvz S A⟩
 ·subst e;exact ⟨o,r,A.o2,A.rn,rfl,qkU S A h1⟩
 ·subst e;exact ⟨o,o,A.o2,A.on,rfl,qvq S A h1⟩
def Phi(n:Nat)(on:List Lt)(ph:Nat→Ph):Nat:=(on.map wt).sum+pot n (ph 0)+pot n (ph 1)
theorem qZo{p:Ph}(ho:o < 2){on':List Lt}(h:(on'.map wt).sum+pot n p+1≤(on.map wt).sum+pot n (ph o)):Phi n on' (upF ph o p)+1≤Phi n on ph:=by
 have:o=0∨o=1:=by omega
 unfold Phi
 rcases this with rfl | rfl
 ·rw [zJ,zH _ _ (show 1≠0 by decide)];omega
 ·rw [zJ,zH _ _ (show 0≠1 by decide)];omega
theorem qqt{k:Nat}(h:on[k]?=some y):(∀ z∈on.eraseIdx k,z∈on)∧(∀ z∈on,z=y∨z∈on.eraseIdx k)∧(on.map wt).sum=wt y+((on.eraseIdx k).map wt).sum:=by
 obtain ⟨hk,e⟩:=List.getElem?_eq_some_iff.1 h
 have e1:on=on.take k++y::on.drop (k+1):=by
  rw [← e,List.getElem_cons_drop,List.take_append_drop]
 have e2:on.eraseIdx k=on.take k++on.drop (k+1):=List.eraseIdx_eq_take_drop_succ ..
 refine ⟨λz hz=>(List.eraseIdx_sublist _ _).subset hz,λz hz=>?_,?_⟩
 ·rw [e1] at hz
  rw [e2]
  rcases List.mem_append.1 hz with hz | hz
  ·exact .inr (List.mem_append_left _ hz)
  ·rcases List.mem_cons.1 hz with rfl | hz
   ·exact .inl rfl
   ·exact .inr (List.mem_append_right _ hz)
 ·rw [e2]
  conv=>lhs;rw [e1]
  simp only [List.map_append,List.map_cons,List.sum_append,List.sum_cons]
  omega
theorem Two.play(T:Two n key K f on ph w)(hk:Key key)(hK:K+1≤1000000)(hK0:0≤K)(h3:3≤n)(h7:n≤7){k:Nat}(hy:on[k]?=some y) :
  ∃ s C1 ys ph' w',s < n∧y.dst=(s:Nat)∧(∀ bk,((f s).take bk y).1.qh=C1∧((f s).take bk y).1.out=ys)∧Two n key (K+1) (upF f s C1) (on.eraseIdx k++ys) ph' w'∧Phi n (on.eraseIdx k++ys) ph'+1≤Phi n on ph:=by
 have he:=qqt hy
 have S:StH n key K f on ph w y (on.eraseIdx k):=⟨T,hk,hK,hK0,h3,h7,he.1,he.2.1⟩
 obtain ⟨o,s,ho,hs,hd,C1,ys,p',w',h1,h2,h3⟩:=qzP S (T.lt y (List.mem_of_getElem? hy))
 refine ⟨s,C1,ys,_,_,hs,hd,h1,h2,qZo ho ?_⟩
 rw [List.map_append,List.sum_append,he.2.2]
 omega
theorem Two.fin(T:Two n key K f [] ph w)(h3:3≤n)(h7:n≤7)(ho:o < 2):∃ v,ph o=.com v∧okT o K v∧(f o).leads=[]∧∀ r,r < n→∃ c,lkC (fId o) (f r).lg=some c∧c.st=3∧c.att=v∧c.cmd=cX key o:=by
 have hon:o < n:=by omega
 have h:=T.own o ho
 cases hp:ph o with
 | pre =>
  exfalso
  rw [hp] at h
  obtain ⟨d,reps,_,P,_,htok⟩:=h
  have hall:∀ r,r < n→r≠o→d.g r≠0:=λr hr hne=>by
   rcases htok r ⟨ho,hon,hr,hne,h7⟩ with m | ⟨a,m⟩ | m
   ·exact nomatch m
   ·exact nomatch m
   ·exact m
  have h1:=Ou hon hall
  have h2:=P.len
  have h4:=P.un
  unfold VT at h4
  by_cases c1:n≤vH Att.zero reps+2
  ·rw [if_pos ⟨rfl,c1⟩] at h4
   exact absurd h4 (show ¬ (1:Int)=0 by decide)
  ·have c2:¬ (reps.length < n / 2∨(true=true∧false=false∧reps.length < vH Att.zero reps+2)):=by
    rintro (h | h)
    ·omega
    ·have:=h.2.2;omega
   rw [if_neg (λh=>c1 h.2),if_neg c2] at h4
   exact absurd h4 (show ¬ (2:Int)=0 by decide)
 | acc v =>
  exfalso
  rw [hp] at h
  obtain ⟨d,cnt,_,P,_,htok⟩:=h
  have hall:∀ r,r < n→r≠o→d.g r≠0:=λr hr hne=>by
   rcases htok r ⟨ho,hon,hr,hne,h7⟩ with m | m | m
   ·exact nomatch m
   ·exact nomatch m
   ·exact m
  have h1:=Ou hon hall
  have h2:=P.num
  have h4:=P.un
  omega
 | com v =>
  rw [hp] at h
  obtain ⟨k1,k2,k3,⟨c,k4,k5⟩,k6⟩:=h
  have hfin:∀ r,r < n→∀ c,lkC (fId o) (f r).lg=some c→c.st=3→c.att=v∧c.cmd=cX key o:=λr hr c e e3=>by
   have:=T.qxS hr ho e e3
   rw [hp] at this
   cases this
   exact ⟨rfl,((T.cb r hr).ce o ho c e).cmd⟩
  refine ⟨v,rfl,k2,k1,λr hr=>?_⟩
  by_cases e:r=o
  ·subst e
   exact ⟨c,k4,k5,hfin r hr c k4 k5⟩
  ·rcases k6 r ⟨ho,hon,hr,e,h7⟩ with m | ⟨c,m,m3⟩
   ·exact nomatch m
   ·exact ⟨c,m,m3,hfin r hr c m m3⟩
theorem Two.reach(T:Two n key K f on ph w)(h3:3≤n){u v:Att}(h0:ph 0=.com u)(h1:ph 1=.com v):u.deps.g 1=1∨v.deps.g 0=1:=by
 have k0:=T.own 0 (by decide)
 have k1:=T.own 1 (by decide)
 rw [h0] at k0
 rw [h1] at k1
 rcases k0.2.1 with e0 | ⟨s,_,_,e0⟩
 ·rcases k1.2.1 with e1 | ⟨s,_,_,e1⟩
  ·exact (qxH h3 T.w0 T.w1 (k0.2.2.1 e0) (k1.2.2.1 e1)).elim
  ·refine .inr ?_
   rw [e1]
   show (Dp.up Dp.zero (1 - 1) 1).g 0=1
   rw [Dp.dg,if_pos ⟨rfl,by decide⟩]
 ·refine .inl ?_
  rw [e0]
  show (Dp.up Dp.zero (1 - 0) 1).g 1=1
  rw [Dp.dg,if_pos ⟨rfl,by decide⟩]
end Go.Fw
namespace Go.Fw
open Go.Proofs
variable {key:ByteArray} {o r s n bk q:Nat} {K K':Int} {a v:Att} {c:Cel} {C:Co}
variable {f:Nat→Co} {on on0:List Lt} {ph:Nat→Ph} {w:Nat→Nat} {y:Lt} {W W':Wd} {x:Mv}
structure TwP(n:Nat)(key:ByteArray)(W:Wd)(q:Nat)(j:Nat)(f:Nat→Co)(ph:Nat→Ph)(w:Nat→Nat):Prop where
 shp:Shp W n f W.on
 two:Two n key (j:Nat) f W.on ph w
 phi:Phi n W.on ph=q
 k1:j+q≤90
 n3:n=3∨n=5∨n=7
 okc:∀ r,r < n→(f r).Ok
 ke:∀ k∈W.kept,k.length≤j
def TW(n:Nat)(key:ByteArray)(W:Wd)(q:Nat):Prop:=∃ j f ph w,TwP n key W q j f ph w
theorem qQV(l:List Lt):l.length≤(l.map wt).sum:=by
 induction l with
 | nil=>simp
 | cons a l ih =>
  rw [List.map_cons,List.sum_cons,List.length_cons]
  have:1≤wt a:=by unfold wt;split<;>omega
  omega
theorem TwP.onl{j:Nat}(h:TwP n key W q j f ph w):W.on.length≤q:=by
 have h1:=qQV W.on
 have h2:=h.phi
 unfold Phi at h2
 omega
theorem qyQ{k:Nat}(h:Shp W n f W.on):Shp (W.cut k) n f (W.on.eraseIdx k):=⟨h.num,h.cores,h.kept,rfl⟩
theorem Two.qZF(T:Two n key K f on ph w){r:Nat}(hr:r < n):(f r).leads.length≤1:=by
 by_cases h2:2≤r
 ·rw [T.ld2 r hr h2];exact Nat.zero_le _
 ·have ho:=T.own r (by omega)
  cases hp:ph r with
  | pre=>rw [hp] at ho;obtain ⟨d,reps,k,_⟩:=ho;rw [k];exact Nat.le_refl _
  | acc v=>rw [hp] at ho;obtain ⟨d,cnt,k,_⟩:=ho;rw [k];exact Nat.le_refl _
  | com v=>rw [hp] at ho;rw [ho.1];exact Nat.zero_le _
theorem LtW.dst(h:LtW n key K ph w y):∃ k:Nat,k < n∧y.dst=(k:Nat):=by
 obtain ⟨o,r,A,h⟩:=h
 rcases h with e | ⟨a,e,_⟩ | ⟨v,e,_⟩ | e | ⟨v,_,e | e⟩<;>rw [e]
 ·exact ⟨r,A.rn,rfl⟩
 ·exact ⟨o,A.on,rfl⟩
 ·exact ⟨r,A.rn,rfl⟩
 ·exact ⟨o,A.on,rfl⟩
 ·exact ⟨r,A.rn,rfl⟩
 ·exact ⟨o,A.on,rfl⟩
theorem TwP.wl{j:Nat}(P:TwP n key W q j f ph w):WL W n:=by
 have hk1:=P.k1
 refine ⟨P.shp.num,P.n3,by rw [P.shp.cores];simp,P.shp.kept,λC hC=>?_,λk hk=>by have:=P.ke k hk;omega,by have:=P.onl;omega,λy hy=>(P.two.lt y hy).dst⟩
 rw [P.shp.cores] at hC
 obtain ⟨r,hr,rfl⟩:=List.mem_map.1 hC
 have hr:=List.mem_range.1 hr
 exact ⟨P.okc r hr,(P.two.q r hr).1,(P.two.q r hr).2,P.two.qZF hr⟩
theorem cH{i:Nat}{room:Int}{k:List (List UInt8)}(h:k∈(W.drain i room).kept):k∈W.kept∨∃ C k0,W.cores[i]?=some C∧k0∈W.kept∧k=k0++C.recs:=by
 unfold Wd.drain at h
 cases hc:W.cores[i]? with
 | none=>rw [hc] at h;exact .inl h
 | some C =>
  cases hk:W.kept[i]? with
  | none=>rw [hc,hk] at h;exact .inl h
  | some k0 =>
   rw [hc,hk] at h
   have h:k∈W.kept.set i (k0++C.recs):=h
   rcases List.mem_or_eq_of_mem_set h with h | rfl
   ·exact .inl h
   ·exact .inr ⟨C,k0,rfl,List.mem_of_getElem? hk,rfl⟩
theorem TW.giv(h:TW n key W q)(hk:Key key)(hp:Gv W W'):∃ q',q' < q∧TW n key W' q':=by
 obtain ⟨j,f,ph,w,P⟩:=h
 have h3:=P.n3
 have hk1:=P.k1
 obtain ⟨W1,i,⟨k,y,C,b,hy,hd,hC,rfl⟩,rfl⟩:=hp
 obtain ⟨s,C1,ys,ph',w',hs,hds,ht,T',hphi⟩:=P.two.play hk (by omega) (by omega) (by omega) (by omega) hy
 have hsi:s=i:=by rw [hd] at hds;omega
 subst hsi
 have hCs:C=f s:=by
  have:=P.shp.get hs
  rw [hC] at this
  exact Option.some.inj this
 subst hCs
 have h1:=(qyQ (k:=k) P.shp).put s (((f s).take b y).1)
 have hlen:=P.onl
 have hel:(W.on.eraseIdx k).length≤W.on.length:=(List.eraseIdx_sublist _ _).length_le
 have h2:=h1.drain (k:=s) hs (room:=300) (by omega)
 simp only [↓reduceIte] at h2
 obtain ⟨e1,e2⟩:=ht b
 rw [e1,e2] at h2
 have h3s:Shp (((W.cut k).put s ((f s).take b y).1).drain s 300) n (upF f s C1) (W.on.eraseIdx k++ys):=h2.ext λj hj=>by
  by_cases e:j=s
  ·subst e;rw [zJ,if_pos rfl]
  ·rw [zH _ _ e,if_neg e,if_neg e]
 have hon2:=h3s.on
 have hK:((j:Nat):Int)+1=((j+1:Nat):Int):=by omega
 rw [hK] at T'
 have hst:=HA (f s) b y (by rw [(P.two.cb s hs).n];omega)
 have hrl:=hst.sz.recs
 rw [(P.two.q s hs).1] at hrl
 simp only [List.length_nil] at hrl
 have hok1:C1.Ok:=by rw [← e1];exact xZ (hst.ok (P.okc s hs))
 refine ⟨_,?_,j+1,upF f s C1,ph',w',?_,?_,rfl,?_,h3,λr hr=>?_,λk' hk'=>?_⟩
 ·rw [hon2]
  have:=P.phi
  omega
 ·rw [hon2];exact h3s
 ·rw [hon2];exact T'
 ·rw [hon2]
  have:=P.phi
  omega
 ·by_cases e:r=s
  ·subst e;rw [zJ];exact hok1
  ·rw [zH _ _ e];exact P.okc r hr
 ·rcases cH hk' with h | ⟨C2,k0,hC2,hk0,rfl⟩
  ·have:=P.ke k' h;omega
  ·have hk0:=P.ke k0 hk0
   have hsl:s < W.cores.length:=(List.getElem?_eq_some_iff.1 hC).1
   have e:C2=((f s).take b y).1:=by
    have h4:(W.cores.set s ((f s).take b y).1)[s]?=some C2:=hC2
    rw [List.getElem?_set_self hsl] at h4
    exact (Option.some.inj h4).symm
   rw [List.length_append,e]
   omega
theorem Sj{i:Nat}{r1 r2:Int}(h1:(W.on.length:Int) < r1)(h2:(W.on.length:Int) < r2):W.drain i r1=W.drain i r2:=by
 unfold Wd.drain
 cases W.cores[i]? with
 | none=>rfl
 | some D =>
  cases W.kept[i]? with
  | none=>rfl
  | some k=>simp only [if_pos h1,if_pos h2]
theorem qqA{i j:Nat}(hij:i≠j)(room:Int):(W.put j C).drain i room=(W.drain i room).put j C:=by
 have e:(W.put j C).cores[i]?=W.cores[i]?:=List.getElem?_set_ne (Ne.symm hij)
 unfold Wd.drain
 rw [e]
 show (match W.cores[i]?,W.kept[i]? with | some D,some k=>_ | _,_=>_)=_
 cases W.cores[i]? with
 | none=>rfl
 | some D =>
  cases W.kept[i]? with
  | none=>rfl
  | some k =>
   show (⟨W.n,(W.cores.set j C).set i D.qh,_,_⟩:Wd)=⟨W.n,(W.cores.set i D.qh).set j C,_,_⟩
   rw [List.set_comm _ _ (Ne.symm hij)]
   rfl
theorem nA:(10:Int)≤WX:=by unfold WX;decide
def twW(n:Nat)(key:ByteArray):Wd:=((((Wd.fresh n).put 0 (fA1 n 0 (cX key 0))).put 1 (fA1 n 1 (cX key 1))).drain 0 WX).drain 1 WX
def twF(n:Nat)(key:ByteArray)(r:Nat):Co:=if r=1 then (fA1 n 1 (cX key 1)).qh else if r=0 then (fA1 n 0 (cX key 0)).qh else Co.new n r Dp.zero
def twO(n:Nat)(key:ByteArray):List Lt:=(yA n 0).map (λk=>prL key 0 k)++(yA n 1).map (λk=>prL key 1 k)
theorem qkF(h3:3≤n)(h7:n≤7):Shp (twW n key) n (twF n key) (twO n key):=by
 have h0:=((Xu n).put 0 (fA1 n 0 (cX key 0))).put 1 (fA1 n 1 (cX key 1))
 have h1:=h0.drain (k:=0) (by omega) (room:=WX) (Int.lt_of_lt_of_le (show (0:Int) < 10 by decide) nA)
 simp only [if_neg (show ¬ (0:Nat)=1 by decide),↓reduceIte] at h1
 have hl0:=qjC (n:=n) (o:=0) (by omega)
 have h2:=h1.drain (k:=1) (by omega) (room:=WX) (by
  refine Int.lt_of_lt_of_le ?_ nA
  show (([]++(yA n 0).map λk=>qjt 0 k (cX key 0)).length:Int) < 10
  rw [List.nil_append,List.length_map];omega)
 simp only [if_neg (show ¬ (1:Nat)=0 by decide),↓reduceIte] at h2
 refine ⟨h2.num,?_,h2.kept,h2.on⟩
 refine (h2.ext (g:=twF n key) λk _=>?_).cores
 unfold twF
 by_cases e1:k=1
 ·rw [if_pos e1,if_pos e1]
 ·by_cases e0:k=0
  ·rw [if_neg e1,if_pos e0,if_neg e1,if_pos e0]
  ·rw [if_neg e1,if_neg e0,if_neg e1,if_neg e0,if_neg e1,if_neg e0]
theorem fA_cb(hk:Key key)(ho:o < 2)(hon:o < n):CB n key 0 o (fA1 n o (cX key o)).qh:=by
 have hl:∀ p,lkC (fId p) [(fId o,fC1 (cX key o))]=if p=o then some (fC1 (cX key o)) else none:=λp=>by
  by_cases e:p=o
  ·subst e;simp [lkC]
  ·have:fId p≠fId o:=λh=>e (XN.1 h)
   simp [lkC,e,Ne.symm this]
 have hn:∀ p,lkN (fId p) [(fId o,(⟨cX key o,0⟩:qC))]=if p=o then some ⟨cX key o,0⟩ else none:=λp=>by
  by_cases e:p=o
  ·subst e;simp [lkN]
  ·have:fId p≠fId o:=λh=>e (XN.1 h)
   simp [lkN,e,Ne.symm this]
 refine ⟨rfl,rfl,rfl,rfl,rfl,rfl,λk hk=>?_,?_,λk hk=>?_,?_,λp hp=>?_,λp hp c hc=>?_⟩
 ·have hk:k∈[fId o]:=hk
  rw [List.mem_singleton.1 hk];exact TG ho
 ·show [fId o].Nodup
  simp
 ·have hk:k∈[fId o]:=hk
  rw [List.mem_singleton.1 hk];exact TG ho
 ·show [fId o].Nodup
  simp
 ·show lkN (fId p) [(fId o,(⟨cX key o,0⟩:qC))]=(lkC (fId p) [(fId o,fC1 (cX key o))]).map _
  rw [hl,hn]
  split<;>rfl
 ·have hc:lkC (fId p) [(fId o,fC1 (cX key o))]=some c:=hc
  rw [hl] at hc
  split at hc
  ·rename_i e
   subst e
   cases hc
   exact ⟨rfl,rfl,rfl,.inl rfl,λ_=>rfl,.inl rfl⟩
  ·exact nomatch hc
theorem fA_lk(ho:o < 2)(p:Nat):lkC (fId p) (fA1 n o (cX key o)).qh.lg=if p=o then some (fC1 (cX key o)) else none:=by
 show lkC (fId p) [(fId o,fC1 (cX key o))]=_
 by_cases e:p=o
 ·subst e;simp [lkC]
 ·have:fId p≠fId o:=λh=>e (XN.1 h)
  simp [lkC,e,Ne.symm this]
def twN(r:Nat):Nat:=if r=0 then 1 else if r=1 then 2 else 0
theorem Me(h:2≤r):twF n key r=Co.new n r Dp.zero:=by
 unfold twF
 rw [if_neg (by omega),if_neg (by omega)]
theorem Md(ho:o < 2):twF n key o=(fA1 n o (cX key o)).qh:=by
 have:o=0∨o=1:=by omega
 rcases this with rfl | rfl<;>rfl
theorem qQf(hk:Key key)(h3:3≤n)(h7:n≤7):Two n key 0 (twF n key) (twO n key) (λ_=>.pre) twN:=by
 have hnew:∀ r,CB n key 0 r (Co.new n r Dp.zero):=λr=>⟨rfl,rfl,rfl,rfl,rfl,rfl,λk hk=>(nomatch hk),List.nodup_nil,λk hk=>(nomatch hk),List.nodup_nil,λ_ _=>rfl,λ_ _ c hc=>(nomatch hc)⟩
 have hlk:∀ r p,lkC (fId p) (twF n key r).lg=if p=r∧r < 2 then some (fC1 (cX key r)) else none:=λr p=>by
  by_cases h2:r < 2
  ·rw [Md h2,fA_lk h2]
   by_cases e:p=r
   ·rw [if_pos e,if_pos ⟨e,h2⟩]
   ·rw [if_neg e,if_neg (λh=>e h.1)]
  ·rw [Me (by omega),if_neg (λh=>h2 h.2)];rfl
 have hmem:∀ o r,AtO n o r→prL key o r∈twO n key:=λo r A=>by
  have ho:=A.o2
  have:o=0∨o=1:=by omega
  rcases this with rfl | rfl
  ·exact List.mem_append_left _ (List.mem_map.2 ⟨r,QY.2 ⟨A.rn,A.ne⟩,rfl⟩)
  ·exact List.mem_append_right _ (List.mem_map.2 ⟨r,QY.2 ⟨A.rn,A.ne⟩,rfl⟩)
 refine ⟨λr hr=>?_,λr hr=>?_,λr hr h2=>?_,λr hr=>?_,λr hr o ho h=>?_,λr hr o ho h=>?_,rfl,rfl,λy hy=>?_,λr hr o ho c hc=>?_,λo ho=>?_⟩
 ·by_cases h2:r < 2
  ·rw [Md h2];exact fA_cb hk h2 hr
  ·rw [Me (by omega)];exact hnew r
 ·by_cases h2:r < 2
  ·rw [Md h2];exact ⟨rfl,rfl⟩
  ·rw [Me (by omega)];exact ⟨rfl,rfl⟩
 ·rw [Me h2];rfl
 ·unfold twN
  split
  ·exact .inr (.inl rfl)
  ·split
   ·exact .inr (.inr rfl)
   ·exact .inl rfl
 ·rw [hlk] at h
  split at h
  ·rename_i e
   have:r=0∨r=1:=by omega
   rcases this with rfl | rfl<;>decide
  ·exact absurd rfl h
 ·rw [hlk]
  unfold twN at h
  split at h
  ·rename_i e
   subst e
   have:o=0:=by omega
   subst this
   simp
  ·split at h
   ·rename_i e
    subst e
    have:o=1:=by omega
    subst this
    simp
   ·omega
 ·rcases List.mem_append.1 hy with hy | hy
  ·obtain ⟨k,hk,rfl⟩:=List.mem_map.1 hy
   have hk:=QY.1 hk
   exact ⟨0,k,⟨by decide,by omega,hk.1,hk.2,h7⟩,.inl rfl⟩
  ·obtain ⟨k,hk,rfl⟩:=List.mem_map.1 hy
   have hk:=QY.1 hk
   exact ⟨1,k,⟨by decide,by omega,hk.1,hk.2,h7⟩,.inl rfl⟩
 ·rw [hlk] at hc
  split at hc
  ·rename_i e
   obtain ⟨e,h2⟩:=e
   subst e
   cases hc
   refine .inl ⟨rfl,λ_=>?_⟩
   have:o=0∨o=1:=by omega
   rcases this with rfl | rfl<;>rfl
  ·exact nomatch hc
 ·refine ⟨Dp.zero,[],by rw [Md ho];rfl,⟨z_g _,by simp [GV,z_g],by simp,by simp [vH],?_⟩,⟨fC1 (cX key o),by rw [hlk,if_pos ⟨rfl,ho⟩],rfl⟩,λr A=>.inl (hmem o r A)⟩
  unfold VT
  rw [if_neg (λh=>by have:=h.2;simp [vH] at this;omega),if_pos (.inl (by simp;omega))]
theorem qQg(h3:3≤n):Phi n (twO n key) (λ_=>.pre)=10*(n - 1):=by
 unfold Phi twO
 rw [List.map_append,List.sum_append,Be (m:=2) (λk=>rfl) (by omega),Be (m:=2) (λk=>rfl) (by omega)]
 show 2*(n - 1)+2*(n - 1)+3*(n - 1)+3*(n - 1)=_
 omega
theorem qQh(h3:3≤n)(h7:n≤7):∀ k∈(twW n key).kept,k.length≤2:=by
 intro k hk
 have hs:=((Xu n).put 0 (fA1 n 0 (cX key 0))).put 1 (fA1 n 1 (cX key 1))
 have h0:∀ k∈(((Wd.fresh n).put 0 (fA1 n 0 (cX key 0))).put 1 (fA1 n 1 (cX key 1))).kept,k=[]:=λk hk=>List.eq_of_mem_replicate hk
 have c0:=hs.get (k:=0) (by omega)
 simp only [if_neg (show ¬ (0:Nat)=1 by decide),↓reduceIte] at c0
 have h1:∀ k∈((((Wd.fresh n).put 0 (fA1 n 0 (cX key 0))).put 1 (fA1 n 1 (cX key 1))).drain 0 WX).kept,k.length≤1:=λk hk=>by
  rcases cH hk with h | ⟨C,k0,hC,hk0,rfl⟩
  ·rw [h0 k h];exact Nat.zero_le _
  ·rw [c0] at hC
   cases hC
   rw [h0 k0 hk0];exact Nat.le_refl _
 have h1s:=hs.drain (k:=0) (by omega) (room:=WX) (Int.lt_of_lt_of_le (show (0:Int) < 10 by decide) nA)
 have c1:=h1s.get (k:=1) (by omega)
 simp only [if_neg (show ¬ (1:Nat)=0 by decide),↓reduceIte] at c1
 rcases cH hk with h | ⟨C,k0,hC,hk0,rfl⟩
 ·have:=h1 k h;omega
 ·rw [c1] at hC
  cases hC
  have:=h1 k0 hk0
  rw [List.length_append]
  show k0.length+1≤2
  omega
theorem fA_ok(hk:Key key)(h3:n=3∨n=5∨n=7)(ho:o < 2):(fA1 n o (cX key o)).qh.Ok:=by
 have p:=rB (n:=n) (i:=o) (x:=cX key o) (by omega) (by omega) (VK hk ho) (show (2:Int)≠0 by decide)
 have h:=(Ca (Co.new n o Dp.zero) (cX key o)).ok (Cs n o Dp.zero h3 (by omega))
 rw [p] at h
 exact xZ h
theorem qzi(hk:Key key)(h3:n=3∨n=5∨n=7):TW n key (twW n key) (10*(n - 1)):=by
 have hs:=qkF (key:=key) (show 3≤n by omega) (show n≤7 by omega)
 have ht:=qQf hk (show 3≤n by omega) (show n≤7 by omega)
 refine ⟨2,twF n key,λ_=>.pre,twN,by rw [hs.on];exact hs,?_,by rw [hs.on];exact qQg (by omega),by omega,h3,λr hr=>?_,qQh (by omega) (by omega)⟩
 ·rw [hs.on]
  exact ⟨λr hr=>(ht.cb r hr).up (by omega),ht.q,ht.ld2,ht.wv,ht.wn,ht.wh,ht.w0,ht.w1,λy hy=>(ht.lt y hy).mono (by omega) (λ_=>Ph.le.refl _) (λ_ _=>rfl),ht.ce,λo ho=>(ht.own o ho).mono (by omega) (λ_ _=>rfl) rfl (λ_=>rfl) λ_ h _=>h⟩
 ·by_cases h2:r < 2
  ·rw [Md h2];exact fA_ok hk h3 h2
  ·rw [Me (by omega)];exact Cs n r Dp.zero h3 hr
end Go.Fw
