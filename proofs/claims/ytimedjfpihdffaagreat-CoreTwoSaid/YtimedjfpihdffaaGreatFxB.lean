import Derived.Test.YtimedjfpihdffaaGreatFxA
import Derived.RowKit3
import Derived.Below
import Derived.WideKeyArgs
import Derived.Deep.Matrix
import Derived.OpenShut
import Derived.ChangeSame
import Derived.Test.YtimedjfpihdffaaGreatFv
import Derived.Deep.Slices
set_option linter.unusedVariables false
set_option linter.unusedSimpArgs false
set_option maxHeartbeats 16000000
namespace Go.Fw
open Go.RowKit
theorem PV{w w':World}(hs:jg w w')(hf:Fr (qO w) (qO w') []):Below w.heap.size w w' :=
 ⟨hs.os,hs.tape,hs.out,hs.size,λi hi=>hf i (by
  show w.heap[i]?≠none
  rw [Array.getElem?_eq_getElem hi];exact Option.some_ne_none _) (by simp)⟩
theorem qxT{P:Program}{f:Nat}{args:List Value}{w:World}{v:Value}(h:MC P f args (qO w) λr m'=>r=v∧Fr (qO w) m' []) :
  Calls P f args.toArray w λe w'=>e=.returned v∧Below w.heap.size w w' :=
 (h w rfl).mono λe w' ⟨r,he,hs,hr,hf⟩=>⟨by rw [he,hr],PV hs hf⟩
end Go.Fw
namespace Go.Fw
open Go.RowKit Go.ChangeShapes Go.WideShapes
theorem UI{w w':World}(h:Below w.heap.size w w'){p:MemPlace}(hp:p.block < w.heap.size):w.sameAt w' p:=by
 cases p with
 | cell b o=>exact World.cell?_of_block (w:=w) (h.block b hp)
 | map b=>exact h.block b hp
theorem iF{H:Type}{enc:TypeId×Value→H}{P:Program}{base:Nat}(hl:laidOutB P=true){W W':World}{sp':Nat→Bool}:∀ {ts:List TypeId} {vs:List Value} {ds:List (DataW H)} {ps:List MemPlace},
  (∀ t∈ts,P.readableRec t=true∧t < P.types.size)→DataW.TrodAll enc P W base (λ_=>true) true ts vs ds ps→(∀ p∈ps,W.sameAt W' p)→(∀ p∈ps,sp' p.block=true)→DataW.TrodAll enc P W' base sp' true ts vs ds ps
 | [],[],[],_,_,h,_,_=>h
 | _::_,_::_,_::_,_,hT,⟨p,q,h1,h2,e⟩,hs,hp=>⟨p,q,
   WideElems.Trod_stays hl (hT _ (List.mem_cons.2 (Or.inl rfl))).1 (hT _ (List.mem_cons.2 (Or.inl rfl))).2 h1 (λx hx=>hs x (by rw [e];exact List.mem_append_left _ hx)) (λx hx=>hp x (by rw [e];exact List.mem_append_left _ hx)),
   iF hl (λt ht=>hT t (List.mem_cons.2 (Or.inr ht))) h2 (λx hx=>hs x (by rw [e];exact List.mem_append_right _ hx)) (λx hx=>hp x (by rw [e];exact List.mem_append_right _ hx)),e⟩
theorem qwY{H:Type}{enc:TypeId×Value→H}{P:Program}{f:Func}{s:ChangeSpec}{apart fresh handsOn again:Bool}{W W':World}{args:Array Value}{v:Value}{ds gs:List (DataW H)}{ps:List MemPlace}(hW:DataW.Whole enc P f.params.toList s.vars apart W args.toList ds gs (ps++[]))(hb:Below W.heap.size W W')(hres:∀ (b:Nat) (sp:Nat→Bool) (hd:Bool),DataW.TrodAll enc P W' b sp hd f.resultTypes.toList (v.resultList f.resultTypes.size) (s.fn H (ds++gs)).results [])(hargs:∀ sp:Nat→Bool,(∀ p∈ps++[],sp p.block=true)→DataW.TrodAll enc P W' 0 sp true f.params.toList args.toList (s.fn H (ds++gs)).args ps)(hvars:∀ sp:Nat→Bool,DataW.TrodVars enc P W' sp s.vars (s.fn H (ds++gs)).vars [])(hok:∀ (j:Nat) (t:TypeId) (r:Value),f.resultTypes[j]?=some t→(v.resultList f.resultTypes.size)[j]?=some r→Value.okWide P W' .any 0 t r) :
  s.post enc P f apart fresh handsOn again W args v W':=by
 have lt:∀ p∈ps++[],p.block < W.heap.size:=hW.lt
 have ha:=hargs (λb=>decide (b < W.heap.size)) (λp hp=>decide_eq_true (lt p hp))
 have hkept:W.keptBut W' (λp=>p∈ps++[]∧(p∈([]:List MemPlace)∨p∈ps∨p∈([]:List MemPlace))) :=
  World.keptBut_mono (λp hp=>⟨hp,.inr (List.mem_append.1 hp)⟩) (hb.frame (·∈ps++[]))
 refine ⟨ds,gs,ps++[],[],ps,[],hW,hres _ _ _,ha,hvars _,hkept,λ_=>⟨hok,?_⟩⟩
 obtain ⟨_,_,_,_,_,hz,hn⟩:=hW
 have hfree:=hargs (λ_=>true) (λ_ _=>rfl)
 refine ⟨_,_,([]++ps)++[],⟨[]++ps,[],trodAll_append hfree (hres _ _ _),hvars _,rfl,?_,?_⟩,?_⟩
 ·intro b off hp
  rw [List.nil_append] at hp
  rw [hb.frozen (lt _ hp)]
  exact hz b off hp
 ·intro h;have:=hn h;simpa using this
 ·intro p hp _;simpa using hp
end Go.Fw
namespace Go.Fw
open Go.RowKit Go.ChangeShapes Go.WideShapes
def LeafV:LK→Value→Prop
 | .b,v=>∃ b,v=.bool b
 | .i k,v=>∃ n,v=.int k n∧(Lit.int k n).wf=true
 | .s,v=>∃ s:ByteArray,v=.string s∧s.size≤maxLen
def Leaves:List LK→List Value→Prop
 | [],[]=>True
 | k::ks,v::vs=>LeafV k v∧Leaves ks vs
 | _,_=>False
theorem Leaves.length:∀ {ks:List LK} {vs:List Value},Leaves ks vs→vs.length=ks.length
 | [],[],_=>rfl
 | _::ks,_::vs,h=>by simp [Leaves.length h.2]
 | [],_::_,h=>h.elim
 | _::_,[],h=>h.elim
theorem Leaves.append:∀ {k1 k2:List LK} {l1 l2:List Value},Leaves k1 l1→Leaves k2 l2→Leaves (k1++k2) (l1++l2)
 | [],_,[],_,_,h=>h
 | _::_,_,_::_,_,h,g=>⟨h.1,Leaves.append h.2 g⟩
 | [],_,_::_,_,h,_=>h.elim
 | _::_,_,[],_,h,_=>h.elim
section
variable {H:Type} {enc:TypeId×Value→H} {P:Program} {w:World} {base:Nat} {spare:Nat→Bool} {held:Bool}
theorem YQ{d:Nat}{t:TypeId}{ks:List LK}(h:qR P d t=some ks):P.cellsOf t=ks.length:=by
 obtain ⟨i,hi,hs⟩:=Qa h
 simp [Program.cellsOf,hi,hs]
theorem fZ:∀ (d:Nat) (t:TypeId) (ks:List LK) (fuel:Nat) (cs:List Value) (x:DataW H×List MemPlace),qR P d t=some ks→DataW.trod enc P w base spare held fuel t cs=some x→Leaves ks cs
 | 0,_,_,_,_,_,h,_=>by cases h
 | d+1,t,ks,fuel,cs,x,h,ht=>by
  simp only [qR] at h
  split at h
  ·rename_i hu
   obtain ⟨rfl,_⟩:=zZ h
   obtain ⟨b,rfl,_⟩:=DataW.trod_bool hu ht
   exact ⟨⟨b,rfl⟩,trivial⟩
  ·rename_i k hu
   obtain ⟨rfl,_⟩:=zZ h
   obtain ⟨n,rfl,_,hw⟩:=DataW.trod_int hu ht
   exact ⟨⟨n,rfl,hw⟩,trivial⟩
  ·rename_i hu
   obtain ⟨rfl,_⟩:=zZ h
   obtain ⟨s,rfl,_,hs⟩:=DataW.trod_string hu ht
   exact ⟨⟨s,rfl,hs⟩,trivial⟩
  ·rename_i fs hu
   split at h
   ·cases h
   obtain ⟨l,hl,h⟩:=Option.bind_eq_some_iff.1 h
   obtain ⟨rfl,i,hi,hsz⟩:=zZ h
   obtain ⟨xs,n,_,_,hlen,hxs,hf⟩:=DataW.trod_struct hu ht
   have hcl:P.cellsOf t=ks.length:=by simp [Program.cellsOf,hi,hsz]
   rw [hcl] at hlen
   have go:∀ (r:List Field) (j off:Nat) (l:List LK),(∀ i f,r[i]?=some f→fs[j+i]?=some f)→jj (qR P d) r off=some l→off+l.length≤cs.length→Leaves l ((cs.drop off).take l.length):=by
    intro r
    induction r with
    | nil=>intro j off l _ hl _;simp only [jj,Option.some.injEq] at hl;subst hl;simp [Leaves]
    | cons f r ih =>
     intro j off l hin hl hle
     simp only [jj] at hl
     split at hl
     case isFalse=>cases hl
     rename_i hoff
     obtain ⟨l1,h1,hl⟩:=Option.bind_eq_some_iff.1 hl
     obtain ⟨l2,h2,rfl⟩:=Option.map_eq_some_iff.1 hl
     rw [List.length_append] at hle
     have hfj:=hin 0 f rfl
     rw [Nat.add_zero] at hfj
     have hj:=(Array.getElem?_eq_some_iff.1 hfj).1
     have h3:=hf j f hfj
     rw [List.getElem?_eq_getElem (by omega)] at h3
     rw [hoff.2,YQ h1] at h3
     have a1:=fZ d f.type l1 n _ _ h1 h3
     have a2:=ih (j+1) (off+l1.length) l2 (λi f hi=>by rw [Nat.add_assoc,Nat.add_comm 1];exact hin (i+1) f (by simpa using hi)) h2 (by omega)
     have:=a1.append a2
     rw [List.length_append,List.take_add,List.drop_drop]
     exact this
   have:=go fs.toList 0 0 ks (λi f hi=>by simpa using hi) hl (by omega)
   rw [List.drop_zero,List.take_of_length_le (by omega)] at this
   exact this
  ·rename_i n e hu
   obtain ⟨l,hl,h⟩:=Option.bind_eq_some_iff.1 h
   obtain ⟨rfl,i,hi,hsz⟩:=zZ h
   obtain ⟨xs,m,_,_,hlen,hxs,hf⟩:=DataW.trod_array hu ht
   have hcl:P.cellsOf t=n*l.length:=by simp [Program.cellsOf,hi,hsz]
   rw [hcl] at hlen
   have hce:=YQ hl
   rw [hce] at hf
   have go:∀ (k j:Nat),j+k≤n→Leaves (List.replicate k l).flatten ((cs.drop (j*l.length)).take (k*l.length)):=by
    intro k
    induction k with
    | zero=>intro j _;simp [Leaves]
    | succ k ih =>
     intro j hj
     have h3:=hf j (by omega)
     rw [List.getElem?_eq_getElem (by omega)] at h3
     have a1:=fZ d e l m _ _ hl h3
     have a2:=ih (j+1) (by omega)
     have:=a1.append a2
     rw [List.replicate_succ,List.flatten_cons,Nat.add_mul,Nat.one_mul,Nat.add_comm (k*l.length),List.take_add,List.drop_drop]
     rw [Nat.add_mul,Nat.one_mul] at this
     exact this
   have:=go n 0 (by omega)
   rw [Nat.zero_mul,List.drop_zero,List.take_of_length_le (by omega)] at this
   exact this
  ·cases h
theorem qqy{r:Reach}{b0:Nat}{t e:TypeId}{ks:List LK}{v:Value}{d:DataW H}{p:List MemPlace}(ht:P.underlying t=some (.slice e))(hk:qR P 10000 e=some ks)(k0:0 < ks.length)(hv:Value.okWide P w r b0 t v)(h:DataW.Trod enc P w base spare held t v d p) :
  ∃ (L:List (List Value)) (a:Option Addr) (c:Nat),v=.slice a L.length c∧L.length≤c∧(∀ cs∈L,Leaves ks cs)∧L.length≤9223372036854775807∧Rd1 (qO w) a L.flatten:=by
 obtain ⟨fuel,hf⟩:=h
 obtain ⟨a0,n0,c0,rfl⟩:=okWide_slice ht hv
 have hcs:(Value.slice a0 n0 c0).cells.toList=[.slice a0 n0 c0]:=rfl
 rw [hcs] at hf
 rcases Deep.open_slice ht hf with ⟨h1,_⟩ | ⟨a,len,cap,m,n,D,Pl,h1,_,hl,hm,hmm,_,hrows⟩
 ·cases h1
  exact ⟨[],none,0,rfl,by simp,by simp,by simp,.inl rfl⟩
 ·cases h1
  have hmm':n0≤m:=by rw [hmm];split<;>omega
  have hce:=YQ hk
  rw [hce] at hrows
  have hex:∀ i:Nat,∃ cs:List Value,i < n0→Leaves ks cs∧∀ j,j < ks.length→w.cell? (a.add (i*ks.length+j))=cs[j]?:=by
   intro i
   by_cases hi:i < n0
   ·obtain ⟨cs,h2,h3⟩:=hrows i (by omega)
    refine ⟨cs,λ_=>⟨fZ _ _ _ _ _ _ hk h3,λj hj=>?_⟩⟩
    rw [← Deep.add_add]
    exact (World.cells?_some h2).2.2 j hj
   ·exact ⟨[],λh=>absurd h hi⟩
  obtain ⟨C,hC⟩:=Classical.axiomOfChoice hex
  refine ⟨(List.range n0).map C,some a,c0,by simp,by simpa using hl,?_,?_,?_⟩
  ·intro cs hcs
   obtain ⟨i,hi,rfl⟩:=List.mem_map.1 hcs
   exact (hC i (List.mem_range.1 hi)).1
  ·rw [List.length_map,List.length_range];unfold maxLen at hm;omega
  ·have hflat:∀ n,n≤n0→(((List.range n).map C).flatten.length=n*ks.length)∧∀ i v,((List.range n).map C).flatten[i]?=some v→w.cell? (a.add i)=some v:=by
    intro n
    induction n with
    | zero=>intro _;simp
    | succ n ih =>
     intro hn
     obtain ⟨h1,h2⟩:=ih (by omega)
     have hn':=hC n (by omega)
     have hlen:=hn'.1.length
     rw [List.range_succ,List.map_append,List.flatten_append]
     simp only [List.map_cons,List.map_nil,List.flatten_cons,List.flatten_nil,List.append_nil]
     refine ⟨by rw [List.length_append,h1,hlen,Nat.add_mul,Nat.one_mul],λi v hv=>?_⟩
     rw [List.getElem?_append] at hv
     split at hv
     ·exact h2 i v hv
     ·rename_i hge
      have hi:=(List.getElem?_eq_some_iff.1 hv).1
      have:=hn'.2 (i - n*ks.length) (by omega)
      rw [show n*ks.length+(i - n*ks.length)=i from by omega] at this
      rw [this,← h1];exact hv
   obtain ⟨h1,h2⟩:=hflat n0 (Nat.le_refl _)
   by_cases h0:((List.range n0).map C).flatten=[]
   ·exact .inl h0
   ·obtain ⟨b,o,s⟩:=a
    have hpos:=List.length_pos_iff.2 h0
    have hs:s=none:=by
     have:=h2 0 _ (List.getElem?_eq_getElem hpos)
     simpa [Addr.add] using World.cell?_spot this
    subst hs
    refine .inr ⟨b,o,rfl,λi v hv=>?_⟩
    have:=h2 i v hv
    rw [xH,← PZ,cN] at this
    exact this
end
end Go.Fw
namespace Go.Fw
open Go.RowKit Go.ChangeShapes Go.WideShapes Go
def R64(n:Int):Prop:=-9223372036854775808≤n∧n≤9223372036854775807
theorem qjm{n:Int}(h:(Lit.int .i64 n).wf=true):R64 n:=by
 simp [Lit.wf,IntKind.min,IntKind.max,IntKind.bits,IntKind.signed] at h
 exact ⟨by omega,by omega⟩
theorem Leaves.split:∀ {k1 k2:List LK} {cs:List Value},Leaves (k1++k2) cs→∃ a b,cs=a++b∧Leaves k1 a∧Leaves k2 b
 | [],k2,cs,h=>⟨[],cs,rfl,trivial,h⟩
 | k::k1,k2,v::cs,h=>by
  obtain ⟨a,b,rfl,h1,h2⟩:=Leaves.split (k1:=k1) h.2
  exact ⟨v::a,b,rfl,⟨h.1,h1⟩,h2⟩
abbrev Dec{α:Type}(ks:List LK)(enc:α→List Value)(ok:α→Prop):Prop:=∀ cs,Leaves ks cs→∃ x,cs=enc x∧ok x
theorem qyy:Dec [.i .i64] (λn:Int=>[.int .i64 n]) R64:=λcs h=>by
 rcases cs with _ | ⟨v,_ | ⟨_,_⟩⟩
 ·exact h.elim
 ·obtain ⟨⟨a,rfl,ha⟩,_⟩:=h;exact ⟨a,rfl,qjm ha⟩
 ·exact h.2.elim
theorem Dec.seq{α β γ:Type}{k1 k2:List LK}{e1:α→List Value}{e2:β→List Value}{o1:α→Prop}{o2:β→Prop}(h1:Dec k1 e1 o1)(h2:Dec k2 e2 o2)(f:α→β→γ){e:γ→List Value}{o:γ→Prop}(he:∀ a b,e1 a++e2 b=e (f a b))(ho:∀ a b,o1 a→o2 b→o (f a b)):Dec (k1++k2) e o:=λcs h=>by
 obtain ⟨a,b,rfl,ha,hb⟩:=h.split
 obtain ⟨x,rfl,hx⟩:=h1 a ha
 obtain ⟨y,rfl,hy⟩:=h2 b hb
 exact ⟨f x y,he x y,ho x y hx hy⟩
theorem OQ{α:Type}{ks:List LK}{enc:α→List Value}{ok:α→Prop}(hd:Dec ks enc ok):∀ {L:List (List Value)},(∀ cs∈L,Leaves ks cs)→∃ l:List α,l.length=L.length∧L.flatten=l.flatMap enc∧∀ x∈l,ok x
 | [],_=>⟨[],rfl,rfl,by simp⟩
 | cs::L,h=>by
  obtain ⟨a,rfl,ha⟩:=hd cs (h cs (List.mem_cons_self ..))
  obtain ⟨l,h1,h2,h3⟩:=OQ hd (L:=L) λc hc=>h c (List.mem_cons_of_mem _ hc)
  exact ⟨a::l,by simp [h1],by simp [h2],by
   intro x hx
   rcases List.mem_cons.1 hx with rfl | hx
   ·exact ha
   ·exact h3 x hx⟩
section
variable {H:Type} {enc:TypeId×Value→H} {P:Program} {w:World} {base:Nat} {spare:Nat→Bool} {held:Bool}
theorem qqQ{α:Type}{ks:List LK}{en:α→List Value}{ok:α→Prop}(hd:Dec ks en ok)(hk0:∀ x,(en x).length=ks.length){r:Reach}{b0:Nat}{t e:TypeId}{v:Value}{d:DataW H}{p:List MemPlace}(ht:P.underlying t=some (.slice e))(hk:qR P 10000 e=some ks)(k0:0 < ks.length)(hv:Value.okWide P w r b0 t v)(h:DataW.Trod enc P w base spare held t v d p):∃ l,RdS ks.length en (qO w) v l∧(∀ x∈l,ok x)∧l.length≤9223372036854775807:=by
 obtain ⟨L,a,c,rfl,hc,hL,hn,hr⟩:=qqy ht hk k0 hv h
 obtain ⟨l,h1,h2,h3⟩:=OQ hd hL
 exact ⟨l,⟨hk0,a,c,by rw [h1],by omega,h2▸hr⟩,h3,by omega⟩
end
end Go.Fw
