import Derived.Test.YtimedjfpihdffaaGreatFxA
import Derived.Test.YtimedjfpihdffaaGreatCd
import Derived.Test.YtimedjfpihdffaaGreatCdL
import Derived.Test.YtimedjfpihdffaaGreatFxB
import Derived.Shelf.SlSortCmp.WholeK
set_option linter.unusedVariables false
set_option linter.unusedSimpArgs false
set_option maxHeartbeats 16000000
namespace Go.Fw
open Go.Proofs
abbrev lt2(x y:Int×Int):Prop:=x.1 < y.1∨x.1=y.1∧x.2 < y.2
abbrev zj(p:Int×Int):Prop:=0≤p.1∧p.1 < 7∧1≤p.2∧p.2≤1073741824
abbrev xY(p:Int×Int):Prop:=0≤p.1∧p.1≤1073741824∧0≤p.2∧p.2 < 7
abbrev qQN(d:Dp):Prop:=∀ i,0≤d i∧d i≤1073741824
abbrev xC(a:Att):Prop:=qQN a.deps∧0≤a.seq∧a.seq≤1099511627776
def Cmd.bare(c:Cmd):Cmd:={ kind:=c.kind,client:=c.client,seq:=c.seq,key:=c.key,fin:=if c.kind=5 then c.fin else noB,old:=if c.kind=4 then c.old else noB,val:=if c.kind=2∨c.kind=4 then c.val else noB }
def Cmd.right(c:Cmd):Prop:=c=Cmd.zero∨(1≤c.kind∧c.kind≤5∧1≤c.client∧c.client≤8∧1≤c.seq∧c.seq≤1099511627776∧c=c.bare∧c.key.size≤16∧c.fin.size≤16∧c.old.size≤64∧c.val.size≤64∧(c.key≠noB∨c.kind=5))
instance (c:Cmd):Decidable c.right:=by unfold Cmd.right;exact inferInstance
def Cel.right(c:Cel):Prop:=0≤c.st∧c.st≤3∧xY c.pr∧xY c.vo∧¬ lt2 c.pr c.vo∧(c.same=true→c.st=1∧c.vo=(0,0))∧(c.st=0→c={ Cel.zero with pr:=c.pr })∧c.cmd.right∧xC c.att
instance (c:Cel):Decidable c.right:=by unfold Cel.right;exact inferInstance
theorem zx(p:Int×Int)(m:Mem):MC Tryz.prog Ii [pv p] m λv m'=>v=.bool (decide (zj p))∧Fr m m' []:=by
 refine FF (by simp [Tryz.f33]) ?_
 have H:=Hp.refl m []
 simp (disch:=omega) only [go_sem,undef]
 repeat' ((first
  | refine zh H λ_ _ _ _ H=>?_
  | (refine qE (λhq=>?_) (λhq=>?_)<;>(try simp only [Bool.not_true,Bool.not_false] at hq))
  | refine ql (λhq=>?_) (λhq=>?_)
  | refine wr0 H λ_ _ H=>?_
  | refine wr1 H λ_ _ H=>?_
  | refine wr2 H λ_ _ H=>?_
  | refine wr3 H λ_ _ H=>?_
  | refine JG H rfl rfl λ_ _ H=>?_
  | refine XU H rfl rfl λ_ _ H=>?_)<;>simp (disch:=omega) only [go_sem,undef,H.hs, *])
 all_goals (try simp only [decide_eq_true_eq,decide_eq_false_iff_not] at *)
 all_goals exact ⟨by first | rfl | (simp only [Value.bool.injEq,decide_eq_true_eq,eq_comm (a:=true),eq_comm (a:=false),decide_eq_false_iff_not,decide_eq_decide];grind []),H.fr⟩
theorem xF(p:Int×Int)(m:Mem):MC Tryz.prog mJ [pv p] m λv m'=>v=.bool (decide (xY p))∧Fr m m' []:=by
 refine iX (by simp [Tryz.f33]) ?_
 have H:=Hp.refl m []
 simp (disch:=omega) only [go_sem,undef]
 repeat' ((first
  | refine zh H λ_ _ _ _ H=>?_
  | (refine qE (λhq=>?_) (λhq=>?_)<;>(try simp only [Bool.not_true,Bool.not_false] at hq))
  | refine ql (λhq=>?_) (λhq=>?_)
  | refine wr0 H λ_ _ H=>?_
  | refine wr1 H λ_ _ H=>?_
  | refine wr2 H λ_ _ H=>?_
  | refine wr3 H λ_ _ H=>?_
  | refine JG H rfl rfl λ_ _ H=>?_
  | refine XU H rfl rfl λ_ _ H=>?_)<;>simp (disch:=omega) only [go_sem,undef,H.hs, *])
 all_goals (try simp only [decide_eq_true_eq,decide_eq_false_iff_not] at *)
 all_goals exact ⟨by first | rfl | (simp only [Value.bool.injEq,decide_eq_true_eq,eq_comm (a:=true),eq_comm (a:=false),decide_eq_false_iff_not,decide_eq_decide];grind []),H.fr⟩
theorem Kt(p q:Int×Int)(m:Mem):MC Tryz.prog NW [pv p,pv q] m λv m'=>v=.bool (decide (lt2 p q))∧Fr m m' []:=by
 refine IR (by simp [Tryz.f33]) ?_
 have H:=Hp.refl m []
 simp (disch:=omega) only [go_sem,undef]
 repeat' ((first
  | refine zh H λ_ _ _ _ H=>?_
  | (refine qE (λhq=>?_) (λhq=>?_)<;>(try simp only [Bool.not_true,Bool.not_false] at hq))
  | refine ql (λhq=>?_) (λhq=>?_)
  | refine wr0 H λ_ _ H=>?_
  | refine wr1 H λ_ _ H=>?_
  | refine wr2 H λ_ _ H=>?_
  | refine wr3 H λ_ _ H=>?_
  | refine JG H rfl rfl λ_ _ H=>?_
  | refine XU H rfl rfl λ_ _ H=>?_)<;>simp (disch:=omega) only [go_sem,undef,H.hs, *])
 all_goals (try simp only [decide_eq_true_eq,decide_eq_false_iff_not] at *)
 all_goals exact ⟨by first | rfl | (simp only [Value.bool.injEq,decide_eq_true_eq,eq_comm (a:=true),eq_comm (a:=false),decide_eq_false_iff_not,decide_eq_decide];grind []),H.fr⟩
theorem zi(p q:Int×Int)(m:Mem):MC Tryz.prog Il [pv p,pv q] m λv m'=>v=.bool (decide (lt2 p q))∧Fr m m' []:=by
 refine FI (by simp [Tryz.f33]) ?_
 have H:=Hp.refl m []
 simp (disch:=omega) only [go_sem,undef]
 repeat' ((first
  | refine zh H λ_ _ _ _ H=>?_
  | (refine qE (λhq=>?_) (λhq=>?_)<;>(try simp only [Bool.not_true,Bool.not_false] at hq))
  | refine ql (λhq=>?_) (λhq=>?_)
  | refine wr0 H λ_ _ H=>?_
  | refine wr1 H λ_ _ H=>?_
  | refine wr2 H λ_ _ H=>?_
  | refine wr3 H λ_ _ H=>?_
  | refine JG H rfl rfl λ_ _ H=>?_
  | refine XU H rfl rfl λ_ _ H=>?_)<;>simp (disch:=omega) only [go_sem,undef,H.hs, *])
 all_goals (try simp only [decide_eq_true_eq,decide_eq_false_iff_not] at *)
 all_goals exact ⟨by first | rfl | (simp only [Value.bool.injEq,decide_eq_true_eq,eq_comm (a:=true),eq_comm (a:=false),decide_eq_false_iff_not,decide_eq_decide];grind []),H.fr⟩
theorem Lr(a b:Int)(m:Mem):MC Tryz.prog Ip [.int .i64 a,.int .i64 b] m λv m'=>v=.bool (decide (1≤a∧a≤b))∧Fr m m' []:=by
 refine Ga (by simp [Tryz.f33]) ?_
 have H:=Hp.refl m []
 simp (disch:=omega) only [go_sem,undef]
 repeat' ((first
  | refine zh H λ_ _ _ _ H=>?_
  | (refine qE (λhq=>?_) (λhq=>?_)<;>(try simp only [Bool.not_true,Bool.not_false] at hq))
  | refine ql (λhq=>?_) (λhq=>?_)
  | refine wr0 H λ_ _ H=>?_
  | refine wr1 H λ_ _ H=>?_
  | refine wr2 H λ_ _ H=>?_
  | refine wr3 H λ_ _ H=>?_
  | refine JG H rfl rfl λ_ _ H=>?_
  | refine XU H rfl rfl λ_ _ H=>?_)<;>simp (disch:=omega) only [go_sem,undef,H.hs, *])
 all_goals (try simp only [decide_eq_true_eq,decide_eq_false_iff_not] at *)
 all_goals exact ⟨by first | rfl | (simp only [Value.bool.injEq,decide_eq_true_eq,eq_comm (a:=true),eq_comm (a:=false),decide_eq_false_iff_not,decide_eq_decide];grind []),H.fr⟩
theorem SZ(c:Cmd)(m:Mem):MC Tryz.prog Rb [c.v] m λv m'=>v=c.bare.v∧Fr m m' []:=by
 refine OM (by simp [Tryz.f33]) ?_
 have H:=Hp.refl m []
 simp (disch:=omega) only [go_sem,undef]
 repeat' ((first
  | refine zh H λ_ _ _ _ H=>?_
  | (refine qE (λhq=>?_) (λhq=>?_)<;>(try simp only [Bool.not_true,Bool.not_false] at hq))
  | refine ql (λhq=>?_) (λhq=>?_)
  | refine wr0 H λ_ _ H=>?_
  | refine wr1 H λ_ _ H=>?_
  | refine wr2 H λ_ _ H=>?_
  | refine wr3 H λ_ _ H=>?_
  | refine JG H rfl rfl λ_ _ H=>?_
  | refine XU H rfl rfl λ_ _ H=>?_)<;>simp (disch:=omega) only [go_sem,undef,H.hs, *])
 all_goals (simp only [decide_eq_true_eq,decide_eq_false_iff_not] at *)
 all_goals exact ⟨by simp [Cmd.bare, *],H.fr⟩
theorem xv(c:Cmd)(m:Mem):MC Tryz.prog Na [c.v] m λv m'=>v=.bool (decide c.right)∧Fr m m' []:=by
 refine LG (by simp [Tryz.f33]) ?_
 have H:=Hp.refl m []
 simp (disch:=omega) only [go_sem,undef]
 repeat' ((first
  | refine zh H λ_ _ _ _ H=>?_
  | refine zR H (Lr _ _ _) λ_ _ H=>?_
  | refine zR H (SZ _ _) λ_ _ H=>?_
  | (refine qE (λhq=>?_) (λhq=>?_)<;>(try simp only [Bool.not_true,Bool.not_false] at hq))
  | refine ql (λhq=>?_) (λhq=>?_)
  | refine wr0 H λ_ _ H=>?_
  | refine wr1 H λ_ _ H=>?_
  | refine wr2 H λ_ _ H=>?_
  | refine wr3 H λ_ _ H=>?_
  | refine JG H rfl rfl λ_ _ H=>?_
  | refine XU H rfl rfl λ_ _ H=>?_)<;>simp (disch:=omega) only [go_sem,undef,H.hs, *])
 all_goals (try simp only [decide_eq_true_eq,decide_eq_false_iff_not] at *)
 all_goals exact ⟨by first | rfl | (simp only [Value.bool.injEq,decide_eq_true_eq,eq_comm (a:=true),eq_comm (a:=false),decide_eq_false_iff_not,decide_eq_decide];grind [Cmd.right]),H.fr⟩
theorem zl(a:Att)(m:Mem):MC Tryz.prog Im [a.v] m λv m'=>v=.bool (decide (xC a))∧Fr m m' []:=by
 refine Gx (by simp [Tryz.f33]) ?_
 have H:=Hp.refl m []
 simp (disch:=omega) only [go_sem,undef]
 refine zh H λb M hb f H=>?_
 simp (disch:=omega) only [go_sem,undef,H.hs]
 refine qe (λn E m'=>∃ k:Nat,k≤7∧n=7 - k∧E=[(1,.pointer (some ⟨b,0,none⟩)),(6,.agg (dv a.deps).toArray),(7,.int .i64 k)]∧(∀ i:Fin 7,i.val < k→0≤a.deps i∧a.deps i≤1073741824)∧Hp m m' [] [(b,Obj.cells a.cs.toArray qb)]) 7 rfl ⟨0,by omega,rfl,rfl,by simp,H⟩ ?_
 clear H f hb
 rintro n E m' ⟨k,hk,rfl,rfl,hall,H⟩
 simp (disch:=omega) only [go_sem,undef,H.hs]
 refine bT (λh=>?_) (λh=>?_)
 ·have hk7:k < 7:=by omega
  simp (disch:=omega) only [go_sem,undef,H.hs]
  repeat' ((first
   | refine zh H λ_ _ _ _ H=>?_
   | (refine qE (λhq=>?_) (λhq=>?_)<;>(try simp only [Bool.not_true,Bool.not_false] at hq))
   | refine ql (λhq=>?_) (λhq=>?_)
   | refine wr0 H λ_ _ H=>?_
   | refine wr1 H λ_ _ H=>?_
   | refine wr2 H λ_ _ H=>?_
   | refine wr3 H λ_ _ H=>?_
   | refine JG H rfl rfl λ_ _ H=>?_
   | refine XU H rfl rfl λ_ _ H=>?_)<;>simp (disch:=omega) only [go_sem,undef,H.hs, *])
  all_goals (try simp only [Dp.g_lt _ hk7] at *)
  ·exact ⟨by simp [xC];intro h1;simp at hq;exact absurd (h1 ⟨k,hk7⟩) (by omega),H.fr⟩
  ·refine qK (7 - (k+1)) (by omega) ⟨k+1,by omega,rfl,rfl,λi hi=>?_,H⟩
   simp only [decide_eq_false_iff_not] at *
   rcases Nat.lt_or_eq_of_le (Nat.le_of_lt_succ hi) with h | h
   ·exact hall i h
   ·have:i=⟨k,hk7⟩:=Fin.ext h
    subst this;omega
  ·exact ⟨by simp [xC];intro h1;simp at hq;exact absurd (h1 ⟨k,hk7⟩) (by omega),H.fr⟩
 ·simp (disch:=omega) only [go_sem,undef,H.hs]
  repeat' ((first
   | refine zh H λ_ _ _ _ H=>?_
   | (refine qE (λhq=>?_) (λhq=>?_)<;>(try simp only [Bool.not_true,Bool.not_false] at hq))
   | refine ql (λhq=>?_) (λhq=>?_)
   | refine wr0 H λ_ _ H=>?_
   | refine wr1 H λ_ _ H=>?_
   | refine wr2 H λ_ _ H=>?_
   | refine wr3 H λ_ _ H=>?_
   | refine JG H rfl rfl λ_ _ H=>?_
   | refine XU H rfl rfl λ_ _ H=>?_)<;>simp (disch:=omega) only [go_sem,undef,H.hs, *])
  all_goals (try simp only [decide_eq_true_eq,decide_eq_false_iff_not] at *)
  all_goals exact ⟨by first | rfl | (simp only [Value.bool.injEq,decide_eq_true_eq,eq_comm (a:=true),eq_comm (a:=false),decide_eq_false_iff_not,decide_eq_decide];grind []),H.fr⟩
end Go.Fw
namespace Go.Fw
open Go.Proofs
theorem QT(c:Cel)(m:Mem):MC Tryz.prog mQ [c.v] m λv m'=>v=.bool (decide c.right)∧Fr m m' []:=by
 refine iy (by simp [Tryz.f33]) ?_
 have H:=Hp.refl m []
 simp (disch:=omega) only [go_sem,undef]
 repeat' ((first
  | refine zh H λ_ _ _ _ H=>?_
  | refine zR H (xF _ _) λ_ _ H=>?_
  | refine zR H (zi _ _ _) λ_ _ H=>?_
  | refine zR H (xv _ _) λ_ _ H=>?_
  | refine zR H (zl _ _) λ_ _ H=>?_
  | (refine qE (λhq=>?_) (λhq=>?_)<;>(try simp only [Bool.not_true,Bool.not_false] at hq))
  | refine ql (λhq=>?_) (λhq=>?_)
  | refine wr0 H λ_ _ H=>?_
  | refine wr1 H λ_ _ H=>?_
  | refine wr2 H λ_ _ H=>?_
  | refine wr3 H λ_ _ H=>?_
  | refine JG H rfl rfl λ_ _ H=>?_
  | refine XU H rfl rfl λ_ _ H=>?_)<;>simp (disch:=omega) only [go_sem,undef,H.hs, *])
 all_goals (try simp only [decide_eq_true_eq,decide_eq_false_iff_not] at *)
 all_goals exact ⟨by first | rfl | (simp only [Value.bool.injEq,decide_eq_true_eq,eq_comm (a:=true),eq_comm (a:=false),decide_eq_false_iff_not,decide_eq_decide];grind [Cel.right]),H.fr⟩
end Go.Fw
namespace Go.Fw
open Go.Proofs
theorem aG:XI true [.i .i64,.i .i64] pv where
 fit x:=rfl
 eq x y:=GI x y
abbrev vD:=List ((Int×Int)×Cel)
def cv(l:vD):List ((Int×Int)×Value):=l.map λp=>(p.1,p.2.v)
def lkC(k:Int×Int):vD→Option Cel
 | []=>none
 | (a,c)::r=>if a=k then some c else lkC k r
def zw(l:vD):List (Int×Int):=l.map (·.1)
def upC(k:Int×Int)(c:Cel)(l:vD):vD:=if k∈zw l then l.map (λp=>if p.1=k then (k,c) else p) else l++[(k,c)]
theorem xE(l:vD):zz (cv l)=zw l:=by simp [zz,cv,zw,List.map_map,Function.comp_def]
theorem qzb(k:Int×Int)(c:Cel)(l:vD):gm k c.v (cv l)=cv (upC k c l):=by
 unfold gm upC
 rw [xE]
 split
 ·simp only [cv,List.map_map]
  refine List.map_congr_left λp _=>?_
  simp only [Function.comp]
  split<;>rfl
 ·simp [cv]
theorem qJb(k:Int×Int)(l:vD):sC k (cv l)=cv (l.filter λp=>p.1≠k):=by
 unfold sC cv
 rw [List.filter_map];rfl
theorem DX{k:Int×Int}:∀ {l:vD},lkC k l=none↔k∉zw l
 | []=>by simp [lkC,zw]
 | (a,c)::r=>by
  have:=DX (k:=k) (l:=r)
  simp only [lkC,zw,List.map_cons,List.mem_cons,not_or] at this ⊢
  split
  ·rename_i e;subst e;simp
  ·rename_i e;rw [this];exact ⟨λh=>⟨λe'=>e e'.symm,h⟩,λh=>h.2⟩
theorem IB{k:Int×Int}{c:Cel}:∀ {l:vD},lkC k l=some c→(k,c)∈l
 | (a,d)::r,h=>by
  simp only [lkC] at h
  split at h
  ·rename_i e;subst e;cases h;exact List.mem_cons_self ..
  ·exact List.mem_cons_of_mem _ (IB h)
theorem qjU{k:Int×Int}{c:Cel}:∀ {l:vD},(zw l).Nodup→(k,c)∈l→lkC k l=some c
 | (a,d)::r,hn,h=>by
  simp only [zw,List.map_cons,List.nodup_cons] at hn
  simp only [lkC]
  rcases List.mem_cons.1 h with e | h
  ·cases e;simp
  ·rw [if_neg]
   ·exact qjU hn.2 h
   ·rintro rfl;exact hn.1 (List.mem_map.2 ⟨_,h,rfl⟩)
theorem qwJ(k:Int×Int)(l:vD)(hn:(zw l).Nodup):look k (cv l)=(lkC k l).map Cel.v:=by
 cases h:look k (cv l) with
 | none =>
  rw [qqd,xE] at h
  rw [DX.2 h];rfl
 | some v =>
  have h1:=qqc h
  obtain ⟨p,hp,e⟩:=List.mem_map.1 h1
  simp only [Prod.mk.injEq] at e
  rw [qjU (c:=p.2) hn (by rw [← e.1];exact hp),← e.2];rfl
theorem Ni(k:Int×Int)(c:Cel)(l:vD):zw (upC k c l)=if k∈zw l then zw l else zw l++[k]:=by
 have:=ot (k:=k) (v:=c.v) (l:=cv l)
 rw [qzb,xE,xE] at this
 by_cases hk:k∈zw l<;>simp_all
theorem RB(k x:Int×Int)(c:Cel)(l:vD):lkC x (upC k c l)=if x=k then some c else lkC x l:=by
 unfold upC
 split
 ·rename_i h
  induction l with
  | nil=>simp [zw] at h
  | cons p r ih =>
   obtain ⟨a,d⟩:=p
   by_cases e:a=k
   ·subst e
    simp only [List.map_cons,if_true,lkC]
    by_cases hx:a=x
    ·subst hx;simp
    ·rw [if_neg hx,if_neg (λe=>hx e.symm),if_neg hx]
     by_cases hr:a∈zw r
     ·rw [ih hr,if_neg (λe=>hx e.symm)]
     ·congr 1
      refine (List.map_congr_left λp hp=>?_).trans (List.map_id _)
      rw [if_neg];rfl
      rintro rfl;exact hr (List.mem_map.2 ⟨p,hp,rfl⟩)
   ·simp only [zw,List.map_cons,List.mem_cons] at h
    have hr:k∈zw r:=h.resolve_left (λe'=>e e'.symm)
    simp only [List.map_cons,if_neg e,lkC]
    by_cases hx:a=x
    ·subst hx;simp [e]
    ·rw [if_neg hx,if_neg hx,ih hr]
 ·rename_i h
  induction l with
  | nil=>simp [lkC,eq_comm]
  | cons p r ih =>
   obtain ⟨a,d⟩:=p
   simp only [zw,List.map_cons,List.mem_cons,not_or] at h
   simp only [List.cons_append,lkC]
   by_cases hx:a=x
   ·subst hx;simp [Ne.symm h.1]
   ·rw [if_neg hx,if_neg hx,ih h.2]
structure kq(m:Mem)(lb r:Nat)(cut:Dp)(l:vD):Prop where
 box:m lb=some (.cells (Value.map (some r)::dv cut).toArray tD (0,0))
 map:VW pv m r (cv l)
theorem kq.nd{m:Mem}{lb r:Nat}{cut:Dp}{l:vD}(h:kq m lb r cut l):(zw l).Nodup:=by
 have:=h.map.nd;rwa [xE] at this
theorem kq.frame{m m':Mem}{lb r:Nat}{cut:Dp}{l:vD}{S:List Nat}(h:kq m lb r cut l)(f:Fr m m' S)(h1:lb∉S)(h2:r∉S):kq m' lb r cut l:=⟨f.get h.box h1,h.map.frame f h2⟩
theorem kq.mI{m m':Mem}{lb r:Nat}{cut:Dp}{l:vD}(h:kq m lb r cut l)(f:Fr m m' []):kq m' lb r cut l:=h.frame f (by simp) (by simp)
theorem kq.ne{m:Mem}{lb r:Nat}{cut:Dp}{l:vD}(h:kq m lb r cut l):lb≠r:=by
 obtain ⟨es,c,hm,_⟩:=h.map
 rintro rfl
 rw [h.box] at hm;cases hm
abbrev lp(lb:Nat):Value:=.pointer (some ⟨lb,0,none⟩)
theorem TV{m:Mem}{r:Nat}{l:vD}(h:VW pv m r (cv l))(k:Int×Int) :
  rd (.lkp true [.i .i64,.i .i64] Cel.zero.v true) [.map (some r),pv k] m=some (.tuple #[((lkC k l).getD Cel.zero).v,.bool (lkC k l).isSome]):=by
 rw [qjf aG h k]
 have hn:(zw l).Nodup:=by have:=h.nd;rwa [xE] at this
 rw [qwJ k l hn]
 cases lkC k l<;>rfl
theorem zO{m:Mem}{lb r:Nat}{cut:Dp}{l:vD}(h:kq m lb r cut l)(k:Int×Int) :
  MC Tryz.prog CA [lp lb,pv k] m λv m'=>v=.tuple #[((lkC k l).getD Cel.zero).v,.bool (lkC k l).isSome]∧Fr m m' []:=by
 refine AK (by simp [Tryz.f33]) ?_
 have H:=Hp.refl m []
 simp (disch:=omega) only [go_sem,undef]
 repeat' ((first
  | refine zh H λ_ _ _ _ H=>?_
  | (refine qE (λhq=>?_) (λhq=>?_)<;>(try simp only [Bool.not_true,Bool.not_false] at hq))
  | refine ql (λhq=>?_) (λhq=>?_)
  | refine wr0 H λ_ _ H=>?_
  | refine wr1 H λ_ _ H=>?_
  | refine wr2 H λ_ _ H=>?_
  | refine wr3 H λ_ _ H=>?_
  | refine JG H rfl rfl λ_ _ H=>?_
  | refine XU H rfl rfl λ_ _ H=>?_)<;>simp (disch:=omega) only [go_sem,undef,H.hs, *,H.fr.xJ h.box,TV (h.map.frame H.fr (by simp)) k])
 all_goals exact ⟨by cases hl:lkC k l<;>simp_all,H.fr⟩
theorem Xl{m:Mem}{lb r:Nat}{cut:Dp}{l:vD}(h:kq m lb r cut l)(k:Int×Int) :
  MC Tryz.prog Cu [lp lb,pv k] m λv m'=>v=.bool (decide (zj k∧k.2≤cut.g k.1.toNat))∧Fr m m' []:=by
 refine Aw (by simp [Tryz.f33]) ?_
 have H:=Hp.refl m []
 simp (disch:=omega) only [go_sem,undef]
 refine zh H λb M hb f H=>?_
 simp (disch:=omega) only [go_sem,undef,H.hs]
 refine zR H (zx k M) λM f H=>?_
 by_cases hr:zj k
 ·obtain ⟨h1,h2,h3,h4⟩:=hr
  simp (disch:=omega) only [go_sem,undef,H.hs,H.fr.xJ h.box,qZ (show zj k from ⟨h1,h2,h3,h4⟩)]
  exact ⟨by simp [h1,h2,h3,h4,zj],H.fr⟩
 ·simp (disch:=omega) only [go_sem,undef,H.hs,H.fr.xJ h.box,qX hr]
  exact ⟨by simp [hr],H.fr⟩
def qqa(was c:Cel):Prop:=¬ (was.st=3∧(c.st≠3∨c.cmd≠was.cmd∨c.att≠was.att))∧¬ lt2 c.pr was.pr∧¬ lt2 c.vo was.vo∧(was.st≤c.st∨c.vo≠was.vo)
instance (w c:Cel):Decidable (qqa w c):=by unfold qqa;exact inferInstance
def Nw(c:Cel):Option Cel→Prop
 | none=>True
 | some w=>qqa w c
instance (c:Cel) (o:Option Cel):Decidable (Nw c o):=by cases o<;>unfold Nw<;>exact inferInstance
theorem qqe(w c:Cel)(m:Mem):MC Tryz.prog qqW [w.v,c.v] m λv m'=>v=.bool (decide (qqa w c))∧Fr m m' []:=by
 refine Rn (by simp [Tryz.f33]) ?_
 have H:=Hp.refl m []
 simp (disch:=omega) only [go_sem,undef]
 repeat' ((first
  | refine zh H λ_ _ _ _ H=>?_
  | refine zR H (zi _ _ _) λ_ _ H=>?_
  | (refine qE (λhq=>?_) (λhq=>?_)<;>(try simp only [Bool.not_true,Bool.not_false] at hq))
  | refine ql (λhq=>?_) (λhq=>?_)
  | refine wr0 H λ_ _ H=>?_
  | refine wr1 H λ_ _ H=>?_
  | refine wr2 H λ_ _ H=>?_
  | refine wr3 H λ_ _ H=>?_
  | refine JG H rfl rfl λ_ _ H=>?_
  | refine XU H rfl rfl λ_ _ H=>?_)<;>simp (disch:=omega) only [go_sem,undef,H.hs, *])
 all_goals (try simp only [decide_eq_true_eq,decide_eq_false_iff_not] at *)
 all_goals exact ⟨by first | rfl | (simp only [Value.bool.injEq,decide_eq_true_eq,eq_comm (a:=true),eq_comm (a:=false),decide_eq_false_iff_not,decide_eq_decide];grind [qqa]),H.fr⟩
def eL(cut:Dp)(l:vD)(k:Int×Int)(c:Cel):Prop:=zj k∧¬ k.2≤cut.g k.1.toNat∧c.right∧Nw c (lkC k l)
instance (cut:Dp) (l:vD) (k:Int×Int) (c:Cel):Decidable (eL cut l k c):=by unfold eL;exact inferInstance
theorem qqf{m:Mem}{lb r:Nat}{cut:Dp}{l:vD}(h:kq m lb r cut l)(k:Int×Int)(c:Cel) :
    MC Tryz.prog lj [lp lb,pv k,c.v] m λv m'=>(v=.bool (decide (eL cut l k c))∧kq m' lb r cut (if eL cut l k c then upC k c l else l))∧Fr m m' [r]:=by
  have hne:=h.ne
  have hx:∀ s∈[r],m s≠none:=λs hs=>by simp at hs;subst hs;exact h.map.there
  refine DZ (by simp [Tryz.f33]) ?_
  have H:=Hp.refl m []
  simp (disch:=omega) only [go_sem,undef]
  repeat' ((first
    | refine zh H λ_ _ _ _ H=>?_
    | refine zR H (zx _ _) λ_ _ H=>?_
    | refine zR H (Xl (h.mI H.fr) _) λ_ _ H=>?_
    | refine zR H (QT _ _) λ_ _ H=>?_
    | refine zR H (qqe _ _ _) λ_ _ H=>?_
    | (refine qE (λhq=>?_) (λhq=>?_)<;>(try simp only [Bool.not_true,Bool.not_false] at hq))
    | refine ql (λhq=>?_) (λhq=>?_)
    | refine wr0 H λ_ _ H=>?_
    | refine wr1 H λ_ _ H=>?_
    | refine wr2 H λ_ _ H=>?_
    | refine wr3 H λ_ _ H=>?_
    | refine JG H rfl rfl λ_ _ H=>?_
    | refine XU H rfl rfl λ_ _ H=>?_)<;>simp (disch:=omega) only [go_sem,undef,H.hs, *,H.fr.xJ h.box,TV (h.map.frame H.fr (by simp)) k])
  all_goals (try simp only [decide_eq_true_eq,decide_eq_false_iff_not] at *)
  all_goals first
    | (have hm:eL cut l k c:=by
         clear H
         cases hl:lkC k l<;>grind [eL,Nw]
       refine oQ (k:=k) aG (h.map.frame H.fr (by simp)) λN hN f _=>?_
       simp (disch:=omega) only [go_sem]
       rw [qzb] at hN
       refine ⟨⟨by rw [decide_eq_true hm],?_⟩,(H.fr.sub (by simp)).cZ f⟩
       rw [if_pos hm]
       exact ⟨f.get (H.fr.xJ h.box) (by simpa using hne),hN⟩)
    | (have hm:¬ eL cut l k c:=by
         clear H
         cases hl:lkC k l<;>grind [eL,Nw]
       refine ⟨⟨by rw [decide_eq_false hm],?_⟩,H.fr.sub (by simp)⟩
       rw [if_neg hm]
       exact h.mI H.fr)
end Go.Fw
namespace Go.Fw
open Go.Proofs
def vF(cut upto:Dp):Dp:=λi=>max (cut i) (min (max (upto i) 0) 1073741824)
abbrev NB(cut:Dp)(k:Int×Int):Prop:=zj k∧k.2≤cut.g k.1.toNat
theorem Tq(cut upto:Dp)(k:Nat)(h:k < 7):(vF cut upto).g k=max (cut.g k) (min (max (upto.g k) 0) 1073741824):=by simp [Dp.g,h,vF]
theorem Ro{m:Mem}{lb r:Nat}{cut:Dp}{l:vD}(h:kq m lb r cut l)(upto:Dp) :
  MC Tryz.prog Ct [lp lb,upto.v] m λv m'=>(v=.tuple #[]∧kq m' lb r (vF cut upto) (l.filter λp=>¬ NB (vF cut upto) p.1))∧Fr m m' [lb,r]:=by
 have hne:=h.ne
 have hx:∀ s∈[lb,r],m s≠none:=λs hs=>by
  simp at hs;rcases hs with rfl | rfl
  ·rw [h.box];exact Option.some_ne_none _
  ·exact h.map.there
 refine uN (by simp [Tryz.f33]) ?_
 have H:=Hp.refl m [lb,r] hx
 simp (disch:=omega) only [go_sem,undef]
 refine zh H λb M hb f H=>?_
 have hL:=h.mI f
 simp (disch:=omega) only [go_sem,undef,H.hs]
 refine qe (λn E m'=>∃ (k:Nat) (c:Dp),k≤7∧n=7 - k∧E=[(0,lp lb),(7,upto.v),(8,.int .i64 k)]∧(∀ j,j < k→c.g j=(vF cut upto).g j)∧(∀ j,k≤j→c.g j=cut.g j)∧kq m' lb r c l∧Fr m m' [lb,r]) 7 rfl ⟨0,cut,by omega,rfl,rfl,by simp,by simp,hL,H.fr⟩ ?_
 clear H hL f hb
 rintro n E m' ⟨k,c,hk,rfl,rfl,h1,h2,hL,f⟩
 simp (disch:=omega) only [go_sem,undef]
 refine bT (λh=>?_) (λh=>?_)
 ·have hk7:k < 7:=by omega
  have H:=Hp.refl m' [lb] (by simp [hL.box])
  simp (disch:=omega) only [go_sem,undef,hL.box]
  refine wrS H (by simp) λM hM f' H=>?_
  simp (disch:=omega) only [go_sem,undef]
  refine qK (7 - (k+1)) (by omega) ⟨k+1,_,by omega,rfl,rfl,λj hj=>?_,λj hj=>?_,⟨hM,hL.map.frame f' (by simpa using hne.symm)⟩,f.trans f' (by simp)⟩
  ·rw [Dp.dg]
   by_cases e:j=k
   ·subst e;simp [hk7,Tq,h2 j (Nat.le_refl _)]
   ·rw [if_neg (λh=>e h.1)];exact h1 j (by omega)
  ·rw [Dp.dg,if_neg (by omega)];exact h2 j (by omega)
 ·have hc:c=vF cut upto:=Dp.fT λj hj=>h1 j (by omega)
  subst hc
  clear h1 h2
  simp (disch:=omega) only [go_sem,undef,hL.box]
  refine AP hL.map λit N hit hI f1=>?_
  have hbox:=f1.xJ hL.box
  have f2:=f.VY f1
  have hitm:m it=none:=by
   cases hm:m it with
   | none=>rfl
   | some o=>exact absurd hit (f.some (by rw [hm];exact Option.some_ne_none _) (by
     intro hs;simp at hs
     rcases hs with rfl | rfl
     ·rw [hL.box] at hit;cases hit
     ·exact hL.map.there hit))
  have hitl:it≠lb:=by rintro rfl;rw [hL.box] at hit;cases hit
  have hitr:it≠r:=by rintro rfl;exact hL.map.there hit
  clear f f1 hL hit
  simp (disch:=omega) only [go_sem,undef]
  generalize hcut:vF cut upto=ct at *
  refine qe (λn E m'=>∃ (l':vD) (done D:List (Int×Int)),n=l'.length - done.length∧E=[(0,lp lb),(32,.pointer (some ⟨it,0,none⟩))]∧xo pv m' it r (cv l') done∧m' lb=some (.cells (Value.map (some r)::dv ct).toArray tD (0,0)) ∧
   l'=l.filter (λp=>p.1∉D)∧(∀ x∈D,NB ct x)∧(∀ x∈done,¬ NB ct x)∧Fr m m' [lb,r]) l.length rfl ⟨l,[],[],by simp,rfl,hI,hbox,(List.filter_eq_self.2 (by simp)).symm,by simp,by simp,f2⟩ ?_
  clear hI hbox f2
  rintro n E m' ⟨l',done,D,rfl,rfl,hI,hbox,hl',hD,hdone,f⟩
  have hle:done.length≤l'.length:=by
   obtain ⟨es,c,seen,_,hh,_,hd,hsub,_⟩:=hI
   rw [xE] at hsub
   have:=hd.length_le_of_subset hsub
   simpa [zw] using this
  simp (disch:=omega) only [go_sem,undef]
  refine Bj aG hI (λhperm=>?_) (λk w N hkw hk hI2 hent f1 hnone=>?_)
  ·simp (disch:=omega) only [go_sem,undef]
   refine ⟨⟨rfl,hbox,?_⟩,f⟩
   rw [xE] at hperm
   have:l.filter (λp=>¬ NB ct p.1)=l':=by
    rw [hl']
    refine List.filter_congr λp hp=>?_
    by_cases hx:p.1∈D
    ·rw [decide_eq_false (λhn=>hn (hD _ hx)),decide_eq_false (λhn=>hn hx)]
    ·have hin:p.1∈zw l':=by rw [hl'];exact List.mem_map.2 ⟨p,List.mem_filter.2 ⟨hp,by simpa using hx⟩,rfl⟩
     have:=hdone _ (hperm.mem_iff.1 hin)
     rw [decide_eq_true this,decide_eq_true hx]
   rw [this]
   exact hI.map
  ·have hI2l:(done++[k]).length≤l'.length:=by
    obtain ⟨es,c,seen,_,hh,_,hd,hsub,_⟩:=hI2
    rw [xE] at hsub
    have:=hd.length_le_of_subset hsub
    simpa [zw] using this
   simp only [List.length_append,List.length_cons,List.length_nil] at hI2l
   have hboxN:=f1.get hbox (by simpa using hitl.symm)
   have H:=Hp.refl N []
   simp (disch:=omega) only [go_sem,undef,hent]
   refine zh H λb M hb f2 H=>?_
   simp (disch:=omega) only [go_sem,undef,H.hs]
   refine JG H rfl rfl λM f3 H=>?_
   simp (disch:=omega) only [go_sem,undef,H.hs]
   have hI3:=hI2.frame H.fr (by simp) (by simp)
   refine zR H (Xl ⟨H.fr.xJ hboxN,hI3.map⟩ k) λM f4 H=>?_
   have hI4:=hI2.frame H.fr (by simp) (by simp)
   have fall:=f1.VY H.fr
   by_cases hg:NB ct k
   ·simp (disch:=omega) only [go_sem,undef,H.hs,qZ hg,H.fr.xJ hboxN]
    refine NR (k:=k) aG hI4 λM2 hI5 f5 _=>?_
    rw [qJb] at hI5
    have hdn:(done++[k]).filter (·≠k)=done:=by
     rw [List.filter_append]
     simp only [ne_eq,decide_not,List.filter_cons,decide_true,Bool.not_true,Bool.false_eq_true,if_false,List.filter_nil,List.append_nil]
     refine List.filter_eq_self.2 λx hx=>?_
     simp only [Bool.not_eq_true',decide_eq_false_iff_not]
     rintro rfl;exact hk hx
    rw [hdn] at hI5
    have hlen:(l'.filter λp=>p.1≠k).length < l'.length:=by
     obtain ⟨p,hp,e⟩:=List.mem_map.1 hkw
     exact List.length_filter_lt_length_iff_exists.2 ⟨p,hp,by simp only [Prod.mk.injEq] at e;simp [e.1]⟩
    have hle2:done.length≤(l'.filter λp=>p.1≠k).length:=by
     obtain ⟨es,c,seen,_,hh,_,hd,hsub,_⟩:=hI5
     rw [xE] at hsub
     have:=hd.length_le_of_subset hsub
     simpa [zw] using this
    simp (disch:=omega) only [go_sem,undef]
    refine qK ((l'.filter λp=>p.1≠k).length - done.length) (by omega) ⟨_,done,k::D,rfl,rfl,hI5,f5.get (H.fr.xJ hboxN) (by simpa using hne),?_,?_,hdone,?_⟩
    ·rw [hl',List.filter_filter]
     refine List.filter_congr λp _=>?_
     simp
    ·intro x hx
     rcases List.mem_cons.1 hx with rfl | hx
     ·exact hg
     ·exact hD x hx
    ·exact (f.trans ((fall.sub (T:=[it,r]) (by simp)).trans f5 (by simp)) (λx hx hx0=>by
      simp at hx;rcases hx with rfl | rfl
      ·exact absurd hitm hx0
      ·simp))
   ·simp (disch:=omega) only [go_sem,undef,H.hs,qX hg]
    refine qK (l'.length - (done.length+1)) (by omega) ⟨l',done++[k],D,by simp,rfl,hI4,H.fr.xJ hboxN,hl',hD,?_,?_⟩
    ·intro x hx
     rcases List.mem_append.1 hx with hx | hx
     ·exact hdone x hx
     ·simp only [List.mem_singleton] at hx;subst hx;exact hg
    ·exact f.trans fall (λx hx hx0=>by simp at hx;subst hx;exact absurd hitm hx0)
end Go.Fw
namespace Go.Fw
open Go Go.Proofs Go.Shelf Go.Sort
variable {α:Type} [Inhabited α]
theorem qwh{w w':World}(hs:jg w w')(hf:Fr (qO w) (qO w') []):∃ q os,w'=grow (w.drewN q) os:=by
 have hb:=(PV hs hf).block
 refine ⟨w'.drawn - w.drawn,w'.heap.extract w.heap.size w'.heap.size,?_⟩
 have hheap:w'.heap=w.heap++w'.heap.extract w.heap.size w'.heap.size:=by
  apply Array.ext_getElem?
  intro i
  rw [Array.getElem?_append]
  split
  ·rename_i h;exact hb i h
  ·rename_i h
   rw [Array.getElem?_extract]
   split
   ·congr 1;omega
   ·rename_i h2;exact Array.getElem?_eq_none (by omega)
 obtain ⟨h1,h2,h3,h4,h5⟩:=hs
 have hd:w'.drawn=w.drawn+(w'.drawn - w.drawn):=by omega
 cases w';cases w
 simp only at h1 h2 h4 hd hheap
 subst h1 h2 h4
 simp only [grow,World.drewN]
 congr 1
theorem oM{β:Type}{enc:β→List Value}{k:Nat}(hk:∀ x,(enc x).length=k):∀ l:List β,(l.flatMap enc).length=l.length*k
 | []=>by simp
 | x::r=>by rw [List.flatMap_cons,List.length_append,hk,oM hk r,List.length_cons,Nat.add_mul];omega
theorem NE{enc:α→List Value}{k:Nat}(hk:∀ x,(enc x).length=k)(k0:0 < k):∀ (l:List α) (t:Nat),t < l.length*k→(l.flatMap enc)[t]! = (enc l[t / k]!)[t % k]!
 | [],t,h=>by simp at h
 | x::r,t,h=>by
  rw [List.flatMap_cons]
  by_cases ht:t < k
  ·rw [Nat.div_eq_of_lt ht,Nat.mod_eq_of_lt ht]
   simp [List.getElem?_append,hk,ht]
  ·have h1:t / k=(t - k) / k+1:=Nat.div_eq_sub_div k0 (Nat.le_of_not_lt ht)
   have h2:t % k=(t - k) % k:=Nat.mod_eq_sub_mod (Nat.le_of_not_lt ht)
   have ih:=NE hk k0 r (t - k) (by rw [List.length_cons,Nat.add_mul] at h;omega)
   rw [h1,h2]
   simp only [List.getElem!_cons_succ]
   rw [← ih]
   simp [List.getElem?_append,hk,ht]
theorem NF{enc:α→List Value}{k:Nat}(hk:∀ x,(enc x).length=k)(k0:0 < k)(d:Array α):flatK enc k d=(d.toList.flatMap enc).toArray:=by
 refine ext_get! (by simp [oM hk]) λt ht=>?_
 rw [size_flatK] at ht
 rw [get_flatK _ _ _ _ ht]
 have:=NE hk k0 d.toList t (by simpa using ht)
 rw [show d.toList[t / k]! = d[t / k]! from by rw [Array.getElem!_eq_getD];simp [Array.getD_eq_getD_getElem?]] at this
 rw [← this];simp
theorem qvv{P:Program}{ρ:Ren}(L:SlLaysF0.n6 P ρ)(k:Nat)(k0:0 < k)(aE:∀ w,(isAgg (ρ.t 24)).run P w=.ok true w)(zE:∀ w,(Go.sizeOf (ρ.t 24)).run P w=.ok k w)(enc:α→List Value)(hk:∀ x,(enc x).length=k)(h1:∀ x,∀ v∈enc x,v.oneCell'=true)(cf:α→α→Int)(hO:SWO (ltOf cf))(g:Nat)(eg:∀ args w,(callFunc g args).run P w=.ok (.enter g args) w)(hc:∀ x y m,MC P g [.agg (enc x).toArray,.agg (enc y).toArray] m λv m'=>v=.int .i64 (cf x y)∧Fr m m' []){m:Mem}{b cap:Nat}{l:List α}{tail:List Value}{T:TypeId}(hb:m b=some (.cells (l.flatMap enc++tail).toArray T (0,0)))(hl:l.length < 4611686018427387904) :
  MC P (ρ.f 6) [.slice (some ⟨b,0,none⟩) l.length cap,.func (.func g) #[] #[]] m λv m'=>v=.tuple #[]∧∃ l':List α,l'.Perm l∧l'.Pairwise (λx y=>ltOf cf y x=false) ∧
   m' b=some (.cells (l'.flatMap enc++tail).toArray T (0,0))∧Fr m m' [b]:=by
 intro w hw
 subst hw
 have hbw:w.heap[b]?=some (.cells (l.flatMap enc++tail).toArray T (0,0)):=hb
 have hlt:b < w.heap.size:=(Array.getElem?_eq_some_iff.1 hbw).1
 have hH:HoldsK enc k w b 0 l.toArray:=by
  intro j hj
  rw [NF hk k0] at hj ⊢
  simp only [List.size_toArray] at hj
  constructor
  ·simp only [World.cell?,hbw,Option.isSome_none,Bool.false_eq_true,if_false,Nat.zero_add,id]
   simp only [List.getElem?_toArray,List.getElem?_append_left hj]
   rw [List.getElem?_eq_getElem hj]
   simp
   rw [List.getElem?_eq_getElem hj];rfl
  ·simp only [World.frozen?,hbw];simp
 have hcmp:CmpLays P g #[] enc k cf b 0 l.toArray.size w:=by
  intro n os dk hs x y
  refine (hc x y _ _ rfl).mono λe w' ⟨v,he,hside,hv,hf⟩=>⟨by rw [he,hv],qwh hside hf⟩
 have hcon:=AnyQ.slices_SortFunc L k aE zE enc hk h1 cf hO g #[] b 0 cap l.toArray w eg hcmp hH hlt (by simpa using hl)
 simp only [List.size_toArray] at hcon
 refine hcon.mono λe w' ⟨he,d',n,os,hp,hs,hw'⟩=>⟨_,he,?_,rfl,d'.toList,?_,?_,?_,?_⟩
 ·subst hw'
  refine ⟨rfl,rfl,?_,rfl,?_⟩
  ·simp only [sortWorldK,putRowK,putRow,mapBlock,grow,Sort.ahead,Array.size_append,Array.size_modify];omega
  ·simp only [sortWorldK,putRowK,putRow,mapBlock,grow,Sort.ahead];omega
 ·have h3:=hp.2.2
  have hsz:=hp.1
  simp only [List.size_toArray] at hsz
  have e1:d'.extract 0 l.length=d':=by rw [← hsz];simp
  rw [e1] at h3
  simpa using h3
 ·have hsz:=hp.1
  simp only [List.size_toArray] at hsz
  rw [List.pairwise_iff_getElem]
  intro i j hi hj hij
  have:=hs i j (Nat.zero_le _) hij (by simp at hj;omega)
  simp only [Array.length_toList] at hi hj
  rw [getElem!_pos d' j hj,getElem!_pos d' i hi] at this
  simpa using this
 ·subst hw'
  have hsz:=hp.1
  simp only [List.size_toArray] at hsz
  show (grow (putRowK enc k (Sort.ahead w n) b 0 d') os).heap[b]?=_
  have hlt2:b < (putRowK enc k (Sort.ahead w n) b 0 d').heap.size:=by
   simp only [putRowK,putRow,mapBlock,Sort.ahead,Array.size_modify];exact hlt
  rw [heap_grow_old _ _ hlt2]
  simp only [putRowK,putRow,mapBlock,Sort.ahead,Array.getElem?_modify,if_true,hbw,Option.map_some,onCells]
  congr 2
  apply Array.ext_getElem?
  intro i
  have hfl:(d'.toList.flatMap enc).length=l.length*k:=by rw [oM hk];simp [hsz]
  have hfl0:(l.flatMap enc).length=l.length*k:=oM hk l
  simp only [putCells,Array.getElem?_mapIdx,List.getElem?_toArray,NF hk k0,List.size_toArray,Nat.zero_le,true_and,Nat.zero_add,Nat.sub_zero,id]
  by_cases hi:i < l.length*k
  ·rw [List.getElem?_append_left (by omega),List.getElem?_append_left (by omega),List.getElem?_eq_getElem (by omega),List.getElem?_eq_getElem (by omega)]
   simp only [Option.map_some,hfl,hi,if_true,Option.some.injEq]
   rw [List.getElem!_toArray]
   exact getElem!_pos _ i (by omega)
  ·rw [List.getElem?_append_right (by omega),List.getElem?_append_right (by omega),hfl,hfl0]
   simp only [hi,if_false,Option.map_id']
 ·subst hw'
  intro x hx hxb
  have hxl:x < w.heap.size:=by
   rcases Nat.lt_or_ge x w.heap.size with h | h
   ·exact h
   ·exact absurd (Array.getElem?_eq_none h) hx
  show (grow (putRowK enc k (Sort.ahead w n) b 0 d') os).heap[x]?=w.heap[x]?
  have hlt2:x < (putRowK enc k (Sort.ahead w n) b 0 d').heap.size:=by
   simp only [putRowK,putRow,mapBlock,Sort.ahead,Array.size_modify];exact hxl
  rw [heap_grow_old _ _ hlt2]
  simp only [List.mem_singleton] at hxb
  simp only [putRowK,putRow,mapBlock,Sort.ahead,Array.getElem?_modify]
  rw [if_neg (λe=>hxb e.symm)]
end Go.Fw
namespace Go.Fw
open Go.Proofs Go.Shelf Go.Sort
def qzU:Ren where
 f:=fun | 6=>91 | 15=>119 | 14=>118 | 28=>140 | 29=>141 | 20=>132 | 21=>133 | 22=>134 | 23=>135 | 24=>136 | 25=>137 | 26=>138 | 27=>139 | 46=>147 | 47=>148 | 48=>149 | 49=>150 | 50=>151 | 57=>154 | n=>n
 t:=fun | 22=>107 | 24=>25 | 25=>163 | 3=>3 | 39=>182 | 0=>0 | 53=>209 | 55=>180 | 4=>4 | 46=>202 | 45=>201 | 50=>206 | 5=>5 | 9=>9 | 66=>212 | 70=>216 | 76=>220 | 77=>61 | n=>n
 g:=λn=>n
theorem UF:SlLaysF0.n6 Tryz.prog qzU where
 mixed:=by kernel_rfl
 f6:=Exists.intro Tryz.f91.name (And.intro (by kernel_rfl) (Eq.trans Tryz.func91 (congrArg some rfl)))
 f14:=Exists.intro Tryz.f118.name (And.intro (by kernel_rfl) (Eq.trans Tryz.func118 (congrArg some rfl)))
 f15:=Eq.trans Tryz.func119 (congrArg some rfl)
 f20:=Exists.intro Tryz.f132.name (And.intro (by kernel_rfl) (Eq.trans Tryz.func132 (congrArg some rfl)))
 f21:=Exists.intro Tryz.f133.name (And.intro (by kernel_rfl) (Eq.trans Tryz.func133 (congrArg some rfl)))
 f22:=Exists.intro Tryz.f134.name (And.intro (by kernel_rfl) (Eq.trans Tryz.func134 (congrArg some rfl)))
 f23:=Exists.intro Tryz.f135.name (And.intro (by kernel_rfl) (Eq.trans Tryz.func135 (congrArg some rfl)))
 f24:=Exists.intro Tryz.f136.name (And.intro (by kernel_rfl) (Eq.trans Tryz.func136 (congrArg some rfl)))
 f25:=Exists.intro Tryz.f137.name (And.intro (by kernel_rfl) (Eq.trans Tryz.func137 (congrArg some rfl)))
 f26:=Exists.intro Tryz.f138.name (And.intro (by kernel_rfl) (Eq.trans Tryz.func138 (congrArg some rfl)))
 f27:=Exists.intro Tryz.f139.name (And.intro (by kernel_rfl) (Eq.trans Tryz.func139 (congrArg some rfl)))
 f28:=Eq.trans Tryz.func140 (congrArg some rfl)
 f29:=Eq.trans Tryz.func141 (congrArg some rfl)
 f46:=Exists.intro Tryz.f147.name (And.intro (by kernel_rfl) (Eq.trans Tryz.func147 (congrArg some rfl)))
 f47:=Eq.trans Tryz.func148 (congrArg some rfl)
 f48:=Eq.trans Tryz.func149 (congrArg some rfl)
 f49:=Exists.intro Tryz.f150.name (And.intro (by kernel_rfl) (Eq.trans Tryz.func150 (congrArg some rfl)))
 f50:=Exists.intro Tryz.f151.name (And.intro (by kernel_rfl) (Eq.trans Tryz.func151 (congrArg some rfl)))
 f57:=Exists.intro Tryz.f154.name (And.intro (by kernel_rfl) (Eq.trans Tryz.func154 (congrArg some rfl)))
 t0:=Tryz.underlying0
 a0:=Tryz.isAgg0
 z0:=Tryz.sizeOf0
 v0:=Tryz.zeroValue0
 t3:=Tryz.underlying3
 a3:=Tryz.isAgg3
 z3:=Tryz.sizeOf3
 v3:=Tryz.zeroValue3
 t4:=Tryz.underlying4
 a4:=Tryz.isAgg4
 z4:=Tryz.sizeOf4
 v4:=Tryz.zeroValue4
 t5:=Tryz.underlying5
 a5:=Tryz.isAgg5
 z5:=Tryz.sizeOf5
 v5:=Tryz.zeroValue5
 t9:=Tryz.underlying9
 a9:=Tryz.isAgg9
 z9:=Tryz.sizeOf9
 v9:=Tryz.zeroValue9
 t22:=Tryz.underlying107
 a22:=Tryz.isAgg107
 z22:=Tryz.sizeOf107
 v22:=Tryz.zeroValue107
 t25:=Tryz.underlying163
 a25:=Tryz.isAgg163
 z25:=Tryz.sizeOf163
 v25:=Tryz.zeroValue163
 t39:=Tryz.underlying182
 a39:=Tryz.isAgg182
 z39:=Tryz.sizeOf182
 v39:=Tryz.zeroValue182
 t45:=Tryz.underlying201
 a45:=Tryz.isAgg201
 z45:=Tryz.sizeOf201
 v45:=Tryz.zeroValue201
 t46:=Tryz.underlying202
 a46:=Tryz.isAgg202
 z46:=Tryz.sizeOf202
 v46:=Tryz.zeroValue202
 t50:=Tryz.underlying206
 a50:=Tryz.isAgg206
 z50:=Tryz.sizeOf206
 v50:=Tryz.zeroValue206
 t53:=Tryz.underlying209
 a53:=Tryz.isAgg209
 z53:=Tryz.sizeOf209
 v53:=Tryz.zeroValue209
 t55:=Tryz.underlying180
 a55:=Tryz.isAgg180
 z55:=Tryz.sizeOf180
 v55:=Tryz.zeroValue180
 t66:=Tryz.underlying212
 a66:=Tryz.isAgg212
 z66:=Tryz.sizeOf212
 v66:=Tryz.zeroValue212
 t70:=Tryz.underlying216
 a70:=Tryz.isAgg216
 z70:=Tryz.sizeOf216
 v70:=Tryz.zeroValue216
 t76:=Tryz.underlying220
 a76:=Tryz.isAgg220
 z76:=Tryz.sizeOf220
 v76:=Tryz.zeroValue220
 t77:=Tryz.underlying61
 a77:=Tryz.isAgg61
 z77:=Tryz.sizeOf61
 v77:=Tryz.zeroValue61
def cf2(x y:Int×Int):Int:=if lt2 x y then -1 else 1
theorem Is(x y:Int×Int):ltOf cf2 x y=decide (lt2 x y):=by
 unfold ltOf cf2
 by_cases h:lt2 x y<;>simp [h]
theorem swo2:SWO (ltOf cf2) where
 irrefl x:=by rw [Is];simp [lt2]
 trans x y z h1 h2:=by rw [Is] at *;simp only [decide_eq_true_eq] at *;unfold lt2 at *;omega
 ntrans x y z h1 h2:=by rw [Is] at *;simp only [decide_eq_false_iff_not] at *;unfold lt2 at *;omega
theorem qkz(m:Mem):MC Tryz.prog nS [.int .u64 0] m λv m'=>(∃ k:Int,v=.int .i64 k)∧m'=m:=by
 refine ml (by simp [Tryz.f33]) ?_
 simp (disch:=omega) only [go_sem]
 simp (disch:=omega) only [go_sem,show rd .idxs [.string Lib.len8tab,.int .u8 (IntKind.u8.wrap 0)] m=some (.int .u8 0) from by kernel_rfl]
 exact ⟨⟨_,rfl⟩,rfl⟩
theorem qJr(m:Mem):MC Tryz.prog ug [.int .u64 (IntKind.u64.wrap 0)] m λv m'=>(∃ k:Int,v=.int .i64 k)∧m'=m:=by
 refine sq (by simp [Tryz.f33]) ?_
 simp (disch:=omega) only [go_sem,show IntKind.u64.wrap 0=0 from rfl]
 refine jL (qkz m) ?_
 rintro v m' ⟨⟨k,rfl⟩,rfl⟩
 simp (disch:=omega) only [go_sem]
 exact ⟨⟨k,rfl⟩,rfl⟩
theorem ins_0(a f:Value)(m:Mem):MC Tryz.prog vI [a,.int .i64 0,.int .i64 0,f] m λv m'=>v=.tuple #[]∧m'=m:=by
 refine vX (by simp [Tryz.f33]) ?_
 simp (disch:=omega) only [go_sem]
 refine qe (λ_ E m'=>E=[(0,a),(1,.int .i64 0),(2,.int .i64 0),(3,f),(8,.int .i64 1)]∧m'=m) 0 rfl ⟨by simp [only,Env.get],rfl⟩ ?_
 rintro n E m' ⟨rfl,rfl⟩
 simp (disch:=omega) only [go_sem]
 exact ⟨rfl,rfl⟩
theorem pdq_0(a f:Value)(k:Int)(m:Mem):MC Tryz.prog Jj [a,.int .i64 0,.int .i64 0,.int .i64 k,f] m λv m'=>v=.tuple #[]∧m'=m:=by
 refine ZR (by simp [Tryz.f33]) ?_
 simp (disch:=omega) only [go_sem]
 refine qe (λ_ E m'=>E=[(0,a),(1,.int .i64 0),(2,.int .i64 0),(3,.int .i64 k),(4,f),(10,.bool true),(11,.bool true)]∧m'=m) 0 rfl ⟨by simp [only,Env.get],rfl⟩ ?_
 rintro n E m' ⟨rfl,rfl⟩
 simp (disch:=omega) only [go_sem]
 refine jL (ins_0 a f m') ?_
 rintro v m2 ⟨rfl,rfl⟩
 simp (disch:=omega) only [go_sem]
 exact ⟨rfl,rfl⟩
theorem qjq(f:Value)(m:Mem):MC Tryz.prog jl [.slice none 0 0,f] m λv m'=>v=.tuple #[]∧m'=m:=by
 refine yJ (by simp [Tryz.f33]) ?_
 simp (disch:=omega) only [go_sem]
 refine jL (qJr m) ?_
 rintro v m' ⟨⟨k,rfl⟩,rfl⟩
 simp (disch:=omega) only [go_sem]
 refine jL (pdq_0 _ f k m') ?_
 rintro v m2 ⟨rfl,rfl⟩
 simp (disch:=omega) only [go_sem]
 exact ⟨rfl,rfl⟩
abbrev prs(l:List (Int×Int)):List Value:=l.flatMap pc
theorem Ik(l:List (Int×Int)):(prs l).length=l.length*2:=by
 induction l with
 | nil=>rfl
 | cons p r ih=>simp only [prs,List.flatMap_cons,List.length_append,Cc,List.length_cons] at *;omega
abbrev Asc(l:List (Int×Int)):Prop:=l.Pairwise lt2
theorem Mr{m:Mem}{v:Value}{l:List (Int×Int)}{g:Nat}(eg:∀ args w,(callFunc g args).run Tryz.prog w=.ok (.enter g args) w)(hcmp:∀ x y m,MC Tryz.prog g [pv x,pv y] m λv m'=>v=.int .i64 (cf2 x y)∧Fr m m' [])(ho:Own m qW 2 v l.length (prs l))(hnd:l.Nodup)(hl:l.length < 2 ^ 40) :
  MC Tryz.prog jl [v,.func (.func g) #[] #[]] m λu m'=>(u=.tuple #[]∧∃ l',l'.Perm l∧Asc l'∧Own m' qW 2 v l'.length (prs l'))∧Fr m m' (qG v):=by
 obtain ⟨hlen,h | ⟨b,cap,tail,rfl,hb,hcap⟩⟩:=ho
 ·obtain ⟨rfl,h0⟩:=h
  have:l=[]:=List.eq_nil_of_length_eq_zero h0
  subst this
  refine (qjq _ m).mono ?_
  rintro u m' ⟨rfl,rfl⟩
  exact ⟨⟨rfl,[],List.Perm.refl _,List.Pairwise.nil,Own.nil _ _ _⟩,Fr.refl _ _⟩
 ·have hs:=qvv UF 2 (by omega) Tryz.isAgg25 Tryz.sizeOf25 pc (λ_=>rfl)
   (λx v hv=>List.all_eq_true.1 (rD x) v hv) cf2 swo2 g eg hcmp (cap:=cap) (l:=l) (tail:=tail) hb (by omega)
  refine MC.mono hs ?_
  rintro u m' ⟨rfl,l',hp,hsorted,hb',hf⟩
  have hll:=hp.length_eq
  refine ⟨⟨rfl,l',hp,?_,⟨by rw [Ik],.inr ⟨b,cap,tail,by rw [hll],hb',?_⟩⟩⟩,?_⟩
  ·have hnd':l'.Nodup:=hp.nodup_iff.2 hnd
   refine (List.Pairwise.and hsorted hnd').imp ?_
   rintro x y ⟨h1,h2⟩
   rw [Is] at h1
   simp only [decide_eq_false_iff_not] at h1
   unfold lt2 at *
   have:¬ (x.1=y.1∧x.2=y.2):=λh=>h2 (Prod.ext h.1 h.2)
   omega
  ·rw [← hcap,List.length_append,List.length_append,Ik,Ik,hll]
  ·simpa [qG] using hf
end Go.Fw
namespace Go.Fw
open Go.Proofs Go.Shelf Go.Sort
theorem qqM(x y:Int×Int)(m:Mem):MC Tryz.prog nT [pv x,pv y] m λv m'=>v=.int .i64 (cf2 x y)∧Fr m m' []:=by
 refine mB (by simp [Tryz.f33]) ?_
 have H:=Hp.refl m []
 simp (disch:=omega) only [go_sem,undef]
 repeat' ((first
  | refine zh H λ_ _ _ _ H=>?_
  | refine zR H (Kt _ _ _) λ_ _ H=>?_
  | (refine qE (λhq=>?_) (λhq=>?_)<;>(try simp only [Bool.not_true,Bool.not_false] at hq))
  | refine ql (λhq=>?_) (λhq=>?_)
  | refine wr0 H λ_ _ H=>?_
  | refine wr1 H λ_ _ H=>?_
  | refine wr2 H λ_ _ H=>?_
  | refine wr3 H λ_ _ H=>?_
  | refine JG H rfl rfl λ_ _ H=>?_
  | refine XU H rfl rfl λ_ _ H=>?_)<;>simp (disch:=omega) only [go_sem,undef,H.hs, *])
 all_goals (simp only [decide_eq_true_eq,decide_eq_false_iff_not] at *)
 all_goals exact ⟨by simp [cf2, *],H.fr⟩
theorem qvB(l r:List (Int×Int)):prs (l++r)=prs l++prs r:=by simp [prs]
theorem RA{m:Mem}{lb r:Nat}{cut:Dp}{l:vD}(h:kq m lb r cut l)(hl:l.length < 1000000000) :
  MC Tryz.prog eF [lp lb] m λu m'=>(∃ l',l'.Perm (zw l)∧Asc l'∧Own m' qW 2 u l'.length (prs l')∧∀ b∈qG u,m b=none)∧Fr m m' []:=by
 have hnd:=h.nd
 refine Ax (by simp [Tryz.f33]) ?_
 simp (disch:=omega) only [go_sem,undef,h.box]
 refine AP h.map λit N hit hI f1=>?_
 simp (disch:=omega) only [go_sem,undef]
 refine qe (λn E m'=>∃ u done,n=l.length - done.length∧E=[(3,u),(9,.pointer (some ⟨it,0,none⟩))]∧xo pv m' it r (cv l) done∧Own m' qW 2 u done.length (prs done) ∧
  Fr m m' []∧(∀ b∈qG u,m b=none∧b≠it)) l.length rfl ⟨_,[],rfl,rfl,hI,Own.nil _ _ _,f1,λb hb=>by simp [qG,Env.get] at hb⟩ ?_
 clear hI f1
 rintro n E m' ⟨u,done,rfl,rfl,hI,ho,f,hfr⟩
 have hdl:done.length≤l.length:=by
  obtain ⟨es,c,seen,_,hh,_,hd,hsub,_⟩:=hI
  rw [xE] at hsub
  have:=hd.length_le_of_subset hsub
  simpa [zw] using this
 simp (disch:=omega) only [go_sem,undef]
 refine Bj aG hI (λhperm=>?_) (λk w N hkw hk hI2 hent f2 hnone=>?_)
 ·rw [xE] at hperm
  simp (disch:=omega) only [go_sem,undef]
  have hdn:done.Nodup:=hperm.nodup_iff.1 hnd
  refine jL (Mr (enters_of Tryz.func92 (by kernel_rfl) rfl) qqM ho hdn (by omega)) ?_
  rintro x m2 ⟨⟨rfl,l',hp,hasc,ho2⟩,f3⟩
  simp (disch:=omega) only [go_sem,undef]
  exact ⟨⟨l',hp.trans hperm.symm,hasc,ho2,λb hb=>(hfr b hb).1⟩,f.trans f3 (λx hx hx0=>absurd (hfr x hx).1 hx0)⟩
 ·have hI2l:(done++[k]).length≤l.length:=by
   obtain ⟨es,c,seen,_,hh,_,hd,hsub,_⟩:=hI2
   rw [xE] at hsub
   have:=hd.length_le_of_subset hsub
   simpa [zw] using this
  simp only [List.length_append,List.length_cons,List.length_nil] at hI2l
  have H:=Hp.refl N []
  simp (disch:=omega) only [go_sem,undef,hent]
  repeat' ((first
   | refine zh H λ_ _ _ _ H=>?_
   | (refine qE (λhq=>?_) (λhq=>?_)<;>(try simp only [Bool.not_true,Bool.not_false] at hq))
   | refine ql (λhq=>?_) (λhq=>?_)
   | refine wr0 H λ_ _ H=>?_
   | refine wr1 H λ_ _ H=>?_
   | refine wr2 H λ_ _ H=>?_
   | refine wr3 H λ_ _ H=>?_
   | refine JG H rfl rfl λ_ _ H=>?_
   | refine XU H rfl rfl λ_ _ H=>?_)<;>simp (disch:=omega) only [go_sem,undef,H.hs, *])
  have fall:Fr m' _ [it]:=f2.VY H.fr
  have hitm:it∉qG u:=λh=>(hfr it h).2 rfl
  have ho2:=ho.frame fall (λb hb h=>(hfr b hb).2 (by simpa using h))
  have fm:=f.trans fall (λx hx hx0=>by simp at hx;subst hx;exact absurd hit hx0)
  have hI3:=hI2.frame H.fr (by simp) (by simp)
  refine BY (k:=1) ho2 rfl (news:=pc k) ?_ rfl (λv hv=>List.all_eq_true.1 (rD k) v hv) rfl (by omega) (by omega) ?_
  ·have:=H.hs.1
   simp only [ldS]
   rw [Ky (l:=pc k) this 2 0 0 (by simp [Cc])];rfl
  ·intro u2 N3 ho3 f3 hblk
   simp (disch:=omega) only [go_sem,undef]
   have hrb:r∉qG u:=λhr=>by
    have:=(hfr r hr).1
    exact h.map.there this
   have hblk':∀ b∈qG u2,m b=none∧b≠it:=λb hb=>by
    rcases hblk b hb with h | h
    ·exact hfr b h
    ·refine ⟨qxb fm h,?_⟩
     rintro rfl
     exact hI3.there h
   refine qK (l.length - (done.length+1)) (by omega) ⟨u2,done++[k],by simp,rfl,hI3.frame f3 hitm hrb,?_,fm.trans f3 (λx hx hx0=>absurd (hfr x hx).1 hx0),hblk'⟩
   rw [List.length_append,qvB]
   simpa [prs] using ho3
def Ht(cut:Dp)(l:List (Int×Int)):Dp:=l.foldl (λd k=>Dp.up d k.1.toNat (max (d.g k.1.toNat) k.2)) cut
theorem sj{m:Mem}{lb r:Nat}{cut:Dp}{l:vD}(h:kq m lb r cut l)(hr:∀ k∈zw l,zj k) :
  MC Tryz.prog FY [lp lb] m λv m'=>(∃ l',l'.Perm (zw l)∧v=(Ht cut l').v)∧Fr m m' []:=by
 have hnd:=h.nd
 refine Dq (by simp [Tryz.f33]) ?_
 have H:=Hp.refl m []
 simp (disch:=omega) only [go_sem,undef]
 refine zh H λb2 M _ _ H=>?_
 simp (disch:=omega) only [go_sem,undef,H.hs,H.fr.xJ h.box]
 refine zh H λb3 M _ _ H=>?_
 simp (disch:=omega) only [go_sem,undef,H.hs]
 refine JG H rfl rfl λM _ H=>?_
 simp (disch:=omega) only [go_sem,undef,H.hs,H.fr.xJ h.box]
 refine qyE H (h.map.frame H.fr (by simp)) λit N hit hI f1 H hit0 hitS hitr=>?_
 simp (disch:=omega) only [go_sem,undef]
 refine qe (λn E m'=>∃ (done:List (Int×Int)),n=l.length - done.length∧E=[(2,.pointer (some ⟨b2,0,none⟩)),(3,.pointer (some ⟨b3,0,none⟩)),(13,.pointer (some ⟨it,0,none⟩))]∧xo pv m' it r (cv l) done ∧
  Hp m m' [it] [(b3,.cells (dv (Ht cut done)).toArray cR),(b2,.cells (dv Dp.zero).toArray cR)]) l.length rfl ⟨[],rfl,rfl,hI,H⟩ ?_
 clear H hI f1 hit
 rintro n E m' ⟨done,rfl,rfl,hI,H⟩
 simp (disch:=omega) only [go_sem,undef]
 refine qyI aG hI H (by simp) (λhperm=>?_) (λk w N hkw hk hle hI2 hent f2 H=>?_)
 ·rw [xE] at hperm
  simp (disch:=omega) only [go_sem,undef,H.hs]
  refine XU H rfl rfl λM _ H=>?_
  simp (disch:=omega) only [go_sem,undef,H.hs]
  exact ⟨⟨done,hperm.symm,rfl⟩,H.fr.less (by simp [hit0])⟩
 ·have hkr:zj k:=hr k (by rw [← xE];exact List.mem_map.2 ⟨_,hkw,rfl⟩)
  simp only [List.length_append,List.length_cons,List.length_nil,cv,List.length_map] at hle
  obtain ⟨hk1,hk2,_,_⟩:=hkr
  simp (disch:=omega) only [go_sem,undef,hent]
  refine zh H λb4 M4 hb4 f3 H=>?_
  simp (disch:=omega) only [go_sem,undef,H.hs]
  refine JG H rfl rfl λM5 f4 H=>?_
  simp (disch:=omega) only [go_sem,undef,H.hs]
  refine wr1 H λM f5 H=>?_
  simp (disch:=omega) only [go_sem,undef]
  refine qK (l.length - (done.length+1)) (by omega) ⟨done++[k],by simp,rfl,?_,?_⟩
  ·have g:=((f3.sub (T:=[b4,b3]) (by simp)).trans f4 (by simp)).trans f5 (by simp)
   have h3:=H.nw1
   refine hI2.frame g ?_ ?_
   ·simp only [List.mem_cons,List.not_mem_nil,or_false,not_or]
    exact ⟨λe=>hI2.there (e▸hb4),λe=>h3.2 (by simp [e])⟩
   ·simp only [List.mem_cons,List.not_mem_nil,or_false,not_or]
    exact ⟨λe=>hI2.map.there (e▸hb4),λe=>h.map.there (e▸h3.1)⟩
  ·have e:Ht cut (done++[k])=Dp.up (Ht cut done) k.1.toNat (max ((Ht cut done).g k.1.toNat) k.2):=by simp [Ht]
   rw [e];exact H.fU
theorem qqg(cut:Dp)(m:Mem) :
  MC Tryz.prog GM [cut.v] m λv m'=>(∃ lb r,v=lp lb∧kq m' lb r (vF Dp.zero cut) []∧m lb=none∧m r=none)∧Fr m m' []:=by
 refine Ru (by simp [Tryz.f33]) ?_
 have H:=Hp.refl m []
 simp (disch:=omega) only [go_sem,undef]
 refine zh H λb1 M _ _ H=>?_
 simp (disch:=omega) only [go_sem,undef,H.hs]
 refine zh H λr M _ _ H=>?_
 simp (disch:=omega) only [go_sem,undef,H.hs]
 refine zh H λlb M _ _ H=>?_
 simp (disch:=omega) only [go_sem,undef,H.hs]
 have hnd:=H.nd
 have hlb:=H.nw0.1
 have hr:=H.nw1.1
 have hL:kq M lb r Dp.zero []:=⟨H.hs.1,by
  have h2:=H.hs.2.1
  exact ⟨#[],0,h2,rfl,by simp [zz,cv],by simp,by simp⟩⟩
 refine jL (Ro hL cut) ?_
 rintro v M2 ⟨⟨rfl,hL2⟩,f2⟩
 simp (disch:=omega) only [go_sem,undef]
 refine ⟨⟨lb,r,rfl,by simpa using hL2,hlb,hr⟩,(H.fr.sub (T:=[lb,r]) (by simp)).cZ f2 |>.less (by simp [hlb,hr])⟩
end Go.Fw
