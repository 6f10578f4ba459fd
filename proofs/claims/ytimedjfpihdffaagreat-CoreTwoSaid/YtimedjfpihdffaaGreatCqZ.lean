import Derived.Test.YtimedjfpihdffaaGreatCqY
set_option linter.unusedVariables false
set_option linter.unusedSimpArgs false
set_option maxHeartbeats 16000000
namespace Go.Fw
open Go.Proofs
def WX:Int:=1048576
structure Shp(W:Wd)(n:Nat)(f:Nat→Co)(l:List Lt):Prop where
 num:W.n=n
 cores:W.cores=(List.range n).map f
 kept:W.kept.length=n
 on:W.on=l
variable {W:Wd} {n:Nat} {f:Nat→Co} {l:List Lt}
theorem Shp.get(h:Shp W n f l){k:Nat}(hk:k < n):W.cores[k]?=some (f k):=by
 rw [h.cores,List.getElem?_map,List.getElem?_range hk];rfl
theorem map_set(n:Nat)(f:Nat→Co)(k:Nat)(C:Co):((List.range n).map f).set k C=(List.range n).map λj=>if j=k then C else f j:=by
 apply List.ext_getElem?
 intro j
 by_cases hj:j < n
 ·by_cases e:j=k
  ·subst e
   rw [List.getElem?_set_self (by simpa using hj),List.getElem?_map,List.getElem?_range hj];simp
  ·rw [List.getElem?_set_ne (Ne.symm e),List.getElem?_map,List.getElem?_map,List.getElem?_range hj];simp [e]
 ·rw [List.getElem?_eq_none (by simp;omega),List.getElem?_eq_none (by simp;omega)]
theorem Shp.put(h:Shp W n f l)(k:Nat)(C:Co):Shp (W.put k C) n (λj=>if j=k then C else f j) l :=
 ⟨h.num,by show W.cores.set k C=_;rw [h.cores,map_set],h.kept,h.on⟩
theorem Shp.ext{g:Nat→Co}(h:Shp W n f l)(e:∀ k,k < n→f k=g k):Shp W n g l :=
 ⟨h.num,by rw [h.cores];exact List.map_congr_left λk hk=>e k (List.mem_range.1 hk),h.kept,h.on⟩
theorem Shp.drain(h:Shp W n f l){k:Nat}(hk:k < n){room:Int}(hl:(l.length:Int) < room):Shp (W.drain k room) n (λj=>if j=k then (f k).qh else f j) (l++(f k).out):=by
 have hC:=h.get hk
 have hk2:k < W.kept.length:=by rw [h.kept];exact hk
 unfold Wd.drain
 rw [hC,List.getElem?_eq_getElem hk2]
 refine ⟨h.num,?_,by simp [h.kept],?_⟩
 ·show W.cores.set k _=_
  rw [h.cores,map_set]
 ·show (if (W.on.length:Int) < room then W.on++(f k).out else W.on)=_
  rw [h.on,if_pos hl]
def yA(n i:Nat):List Nat:=(List.range n).filter λk=>decide (k≠i)
theorem QY{n i k:Nat}:k∈yA n i↔k < n∧k≠i:=by simp [yA]
theorem UJ(C:Co)(x:Lt):∀ j,(C.Zu x Dp.zero j).out=C.out++(yA j C.me).map λk=>{ x with src:=C.me,dst:=(k:Nat) }
 | 0=>by simp [Co.Zu,yA]
 | j+1=>by
  have ih:=UJ C x j
  have hm:=(Ba C x Dp.zero j).1
  have hz:Dp.zero.g j=0:=by unfold Dp.g Dp.zero;split<;>rfl
  unfold Co.Zu
  by_cases e:j=C.me
  ·rw [if_neg (λh=>h.1 e),ih]
   have:yA (j+1) C.me=yA j C.me:=by unfold yA;rw [List.range_succ,List.filter_append];simp [e]
   rw [this]
  ·rw [if_pos ⟨e,hz⟩]
   show (C.Zu x Dp.zero j).out++[{ x with src:=((C.Zu x Dp.zero j).me:Nat),dst:=(j:Nat) }]=_
   rw [ih,hm]
   have:yA (j+1) C.me=yA j C.me++[j]:=by unfold yA;rw [List.range_succ,List.filter_append];simp [e]
   rw [this,List.map_append,List.append_assoc];rfl
theorem qkW(C:Co)(x:Lt)(ans:Dp)(j:Nat):C.Zu x ans j={ C with out:=(C.Zu x ans j).out }:=by
 induction j with
 | zero=>rfl
 | succ j ih =>
  unfold Co.Zu
  split
  ·rw [ih];rfl
  ·exact ih
theorem all_eq(C:Co)(x:Lt):C.all x Dp.zero={ C with out:=C.out++(yA C.n C.me).map λk=>{ x with src:=C.me,dst:=(k:Nat) } }:=by
 unfold Co.all
 rw [qkW,UJ]
end Go.Fw
namespace Go.Fw
open Go.Proofs
theorem z_g(k:Nat):Dp.zero.g k=0:=by unfold Dp.g Dp.zero;split<;>rfl
def iW:Dp:=vF Dp.zero Dp.zero
theorem cI(k:Nat):iW.g k=0:=by
 unfold Dp.g
 split
 ·show max (0:Int) (min (max 0 0) 1073741824)=0;decide
 ·rfl
theorem qwb:zG Att.zero Att.zero=Att.zero:=by
 unfold zG Att.zero Dp.zero;simp
theorem qky(i:Nat)(x:Cmd):zp iW [] ((i:Nat),1) x=Att.zero:=by
 have h0:rW [] ((i:Nat),1) x=Att.zero:=rfl
 unfold zp
 rw [h0]
 have:uc iW ((i:Nat),1) Att.zero.deps=Dp.zero:=Dp.fT λj hj=>by
  rw [LS _ _ _ _ hj,cI,z_g]
  simp only [Att.zero,z_g]
  split
  ·simp
  ·split<;>simp
 rw [this]
def fId(i:Nat):Int×Int:=((i:Nat),1)
theorem Wx{i:Nat}(h:i < 7):zj (fId i):=⟨by simp [fId],by simp [fId];omega,by simp [fId],by simp [fId]⟩
def fC1(x:Cmd):Cel:=⟨1,(0,0),(0,0),x,Att.zero,true⟩
theorem zr:xC Att.zero:=⟨λi=>⟨Int.le_refl _,show (0:Int)≤1073741824 by decide⟩,by decide,by decide⟩
theorem qqs{x:Cmd}(h:x.right):(fC1 x).right:=⟨show (0:Int)≤1 by decide,show (1:Int)≤3 by decide,show xY (0,0) by decide,show xY (0,0) by decide,show ¬ lt2 (0,0) (0,0) by decide,λ_=>⟨rfl,rfl⟩,λh=>absurd h (show ¬ (1:Int)=0 by decide),h,zr⟩
def qjt(i k:Nat)(x:Cmd):Lt:={ Lt.zero with kind:=1,src:=(i:Nat),dst:=(k:Nat),inst:=fId i,cmd:=x,att:=Att.zero }
theorem Sl:Cel.zero.right:=⟨by decide,by decide,by decide,by decide,by decide,λh=>absurd h (show ¬ false=true by decide),λ_=>rfl,.inl rfl,zr⟩
def fLd(i:Nat)(x:Cmd)(d:Dp)(j:Nat):Ld:=⟨fId i,0,(0,0),true,x,Att.zero,d,List.replicate j Att.zero,[],(j:Nat),0⟩
def fA1(n i:Nat)(x:Cmd):Co:={ Co.new n i Dp.zero with lg:=[(fId i,fC1 x)],xl:=[(fId i,⟨x,0⟩)],recs:=[lI (fId i) (fC1 x)],leads:=[fLd i x Dp.zero 0],out:=(yA n i).map λk=>qjt i k x }
theorem qjP{i:Nat}(hi:i < 7){c:Cel}(hc:c.right):eL iW [] (fId i) c:=⟨Wx hi,by rw [cI];simp [fId],hc,trivial⟩
theorem qjR{i:Nat}(hi:i < 7){x:Cmd}(hx:x.right):dh iW (fId i) x 0:=⟨Wx hi,by rw [cI];simp [fId],hx,by decide,by decide⟩
theorem qvw{C:Co}{i:Nat}(hi:i < 7){x:Cmd}(hx:x.right)(hcut:C.cut=iW)(hxc:C.xcut=iW)(hlg:C.lg=[])(hxl:C.xl=[]) :
  C.set (fId i) (fC1 x)=({ C with lg:=[(fId i,fC1 x)],xl:=[(fId i,⟨x,0⟩)],recs:=C.recs++[lI (fId i) (fC1 x)] },true):=by
 have hm:eL C.cut C.lg (fId i) (fC1 x):=by rw [hcut,hlg];exact qjP hi (qqs hx)
 have hu:upC (fId i) (fC1 x) C.lg=[(fId i,fC1 x)]:=by rw [hlg];rfl
 have hn:dh C.xcut (fId i) x 0:=by rw [hxc];exact qjR hi hx
 have hv:upN (fId i) ⟨x,0⟩ C.xl=[(fId i,⟨x,0⟩)]:=by rw [hxl];rfl
 unfold Co.set
 rw [if_pos hm,hu]
 unfold Co.note
 rw [if_pos (show (fC1 x).st≠0 from (show (1:Int)≠0 by decide))]
 show (({ C with lg:=[(fId i,fC1 x)],recs:=C.recs++[lI (fId i) (fC1 x)],xl:=if dh C.xcut (fId i) x 0 then upN (fId i) ⟨x,0⟩ C.xl else C.xl }:Co),true)=_
 rw [if_pos hn,hv]
end Go.Fw
namespace Go.Fw
open Go.Proofs
variable {n i k:Nat} {x:Cmd}
theorem rB(hn:i < n)(hn7:n≤7)(hx:x.right)(hk:x.kind≠0):(Co.new n i Dp.zero).wU x=(fA1 n i x,.tuple #[pv (fId i),.bool true]):=by
 have hnx:(Co.new n i Dp.zero).next=fId i:=by
  show ((i:Int),iW.g i+1)=fId i
  rw [cI];rfl
 unfold Co.wU
 rw [hnx]
 have hc:¬ (¬ x.right∨x.kind=0∨(fId i).2 > 1073741824∨256≤(Co.new n i Dp.zero).leads.length):=by
  rintro (h | h | h | h)
  ·exact h hx
  ·exact hk h
  ·simp [fId] at h
  ·simp [Co.new] at h
 rw [if_neg hc]
 have ha:zp (Co.new n i Dp.zero).xcut (Co.new n i Dp.zero).xl (fId i) x=Att.zero:=qky i x
 rw [ha]
 unfold Co.lz
 rw [if_pos zr]
 have hs:(Co.new n i Dp.zero).set (fId i) ⟨1,(0,0),(0,0),x,Att.zero,true⟩=_:=qvw (C:=Co.new n i Dp.zero) (x:=x) (i:=i) (by omega) hx rfl rfl rfl rfl
 rw [hs]
 have hb:∀ C:Co,C.leads=[]→C.kP (xd (fId i) 0 (0,0) true x Att.zero)={ C with leads:=[fLd i x Dp.zero 0],out:=C.out++(yA C.n C.me).map λk=>{ (xd (fId i) 0 (0,0) true x Att.zero).ask with src:=(C.me:Nat),dst:=(k:Nat) } }:=by
  intro C h
  unfold Co.kP
  have ht:C.ZT (xd (fId i) 0 (0,0) true x Att.zero)={ C with leads:=[fLd i x Dp.zero 0] }:=by
   unfold Co.ZT Co.zk
   rw [h];rfl
  rw [ht]
  exact all_eq _ _
 rw [hb _ rfl]
 rfl
theorem qwk{C:Co}{y:Lt}(hy:y.right)(h1:y.dst=C.me)(h2:uf C.n y.src)(h3:y.kind < 9)(h4:uf C.n y.inst.1):¬ C.bars y:=by
 rintro (h | h | h | h | h)
 ·exact h hy
 ·exact h h1
 ·exact h h2
 ·omega
 ·exact h h4
theorem qwx{C:Co}{y:Int×Int}(hc:C.cut=iW)(h:0 < y.2):¬ C.gone y:=by
 rintro ⟨_,h2⟩
 rw [hc,cI] at h2;omega
theorem qwt(hi:i < n):uf n (fId i).1:=⟨by simp [fId],by simp [fId];omega⟩
end Go.Fw
namespace Go.Fw
open Go.Proofs
variable {n i k:Nat} {x:Cmd}
theorem Xu(n:Nat):Shp (Wd.fresh n) n (λk=>Co.new n k Dp.zero) []:=⟨rfl,rfl,by simp [Wd.fresh,Wd.qI],rfl⟩
end Go.Fw
