import Derived.Test.YtimedjfpihdffaaGreatCoX
import Derived.Test.YtimedjfpihdffaaGreatCdC
import Derived.Test.YtimedjfpihdffaaGreatBa
set_option linter.unusedVariables false
set_option linter.unusedSimpArgs false
set_option maxHeartbeats 16000000
namespace Go.Fw
open Go.Proofs
variable {m m0 M:Mem} {S:List Nat} {L:List As}
theorem Sd.HC(a:Sd):(a.cs.drop 4).take 2=pc a.cel.vo:=rfl
theorem Sd.Qg(a:Sd):(a.cs.drop 6).take 7=a.cel.cmd.cs:=rfl
theorem Sd.Ya(a:Sd):(a.cs.drop 13).take 8=a.cel.att.cs:=rfl
theorem Sd.g21(a:Sd):a.cs[21]?=some (.bool a.cel.same):=rfl
attribute [go_sem] Sd.HC Sd.Qg Sd.Ya Sd.g21
theorem qZT(n:Int)(m:Mem):MC Tryz.prog FV [.int .i64 n] m λv m'=>v=.bool (decide (n=3∨n=5∨n=7))∧Fr m m' []:=by
 refine CX (by simp [Tryz.f33]) ?_
 have H:=Hq.refl m []
 simp (disch:=omega) only [go_sem,undef]
 repeat' (first
  | ((first
   | (with_reducible first
    | refine qg H λ_ _ f H2=>?_
    | refine xK H λ_ f H2=>?_
    | refine cQ H λ_ f H2=>?_
    | refine Wy H λ_ f H2=>?_
    | refine eX H λ_ f H2=>?_
    | refine eJ H λ_ f H2=>?_
    | refine eZ H λ_ f H2=>?_)
   | ((with_reducible refine qs H ?hl ?h1 λ_ f H2=>?_);(case hl=>rfl);(case h1=>rfl))
   | ((with_reducible refine zA H ?hl ?h1 λ_ f H2=>?_);(case hl=>rfl);(case h1=>rfl))
   | ((with_reducible refine ZB H ?hl ?h1 λ_ f H2=>?_);(case hl=>rfl);(case h1=>rfl))
   | ((with_reducible refine XT H ?hl ?h1 λ_ f H2=>?_);(case hl=>rfl);(case h1=>rfl))
   | ((with_reducible refine XS H ?hl ?h1 λ_ f H2=>?_);(case hl=>rfl);(case h1=>rfl))
   | ((with_reducible refine XR H ?hl ?h1 λ_ f H2=>?_);(case hl=>rfl);(case h1=>rfl))
   | ((with_reducible refine cV H ?hl ?h1 λ_ f H2=>?_);(case hl=>exact Nat.le_of_ble_eq_true rfl);(case h1=>rfl);(simp only [go_sem] at H2))
   | ((with_reducible refine cK H ?hl ?h1 λ_ f H2=>?_);(case hl=>exact Nat.le_of_ble_eq_true rfl);(case h1=>rfl);(simp only [go_sem] at H2))
   | ((with_reducible refine eV H ?hl ?h1 λ_ f H2=>?_);(case hl=>exact Nat.le_of_ble_eq_true rfl);(case h1=>rfl);(simp only [go_sem] at H2))
   | ((with_reducible refine eK H ?hl ?h1 λ_ f H2=>?_);(case hl=>exact Nat.le_of_ble_eq_true rfl);(case h1=>rfl);(simp only [go_sem] at H2)));clear f;clear H;have H:=H2;clear H2;simp (disch:=omega) only [go_sem,undef,H.cs, *])
  | ((with_reducible refine qE (λhq=>?_) (λhq=>?_))<;>(try simp only [Bool.not_true,Bool.not_false] at hq)<;>simp (disch:=omega) only [go_sem,undef,H.cs, *])
  | ((with_reducible refine ql (λhq=>?_) (λhq=>?_))<;>simp (disch:=omega) only [go_sem,undef,H.cs, *]))
 all_goals (try simp only [decide_eq_true_eq,decide_eq_false_iff_not] at *)
 all_goals exact ⟨by first | rfl | (simp only [Value.bool.injEq,decide_eq_true_eq,eq_comm (a:=true),eq_comm (a:=false),decide_eq_false_iff_not,decide_eq_decide];grind []),H.fr⟩
theorem HG(n:Nat)(hn:n≤1000)(m:Mem):MC Tryz.prog FX [.int .i64 (n:Nat)] m λv m'=>v=.int .i64 ((n / 2+1:Nat):Int)∧Fr m m' []:=by
 refine Cq (by simp [Tryz.f33]) ?_
 have H:=Hq.refl m []
 have e:Int.tdiv ((n:Nat):Int) 2=((n / 2:Nat):Int):=rfl
 simp (disch:=omega) only [go_sem,undef,e]
 exact ⟨by congr 1,H.fr⟩
theorem qJz(n:Nat)(hn:n≤1000)(m:Mem):MC Tryz.prog FW [.int .i64 (n:Nat)] m λv m'=>v=.int .i64 (n - 1)∧Fr m m' []:=by
 refine CW (by simp [Tryz.f33]) ?_
 have H:=Hq.refl m []
 simp (disch:=omega) only [go_sem,undef]
 exact ⟨rfl,H.fr⟩
def GL(p:Int×Int):Att:=if zj p then ⟨0,Dp.up Dp.zero p.1.toNat (p.2 - 1)⟩ else Att.zero
theorem qZu(p:Int×Int)(m:Mem):MC Tryz.prog FK [pv p] m λv m'=>v=(GL p).v∧Fr m m' []:=by
 by_cases hr:zj p
 ·refine ef (by simp [Tryz.f33]) ?_
  have H:=Hq.refl m []
  have h1:=hr.1
  have h2:=hr.2.1
  have h3:=hr.2.2.1
  have h4:=hr.2.2.2
  simp (disch:=omega) only [go_sem,undef]
  repeat' (first
   | ((first
    | (with_reducible first
     | refine qg H λ_ _ f H2=>?_
     | refine xK H λ_ f H2=>?_
     | refine cQ H λ_ f H2=>?_
     | refine Wy H λ_ f H2=>?_
     | refine eX H λ_ f H2=>?_
     | refine eJ H λ_ f H2=>?_
     | refine eZ H λ_ f H2=>?_
     | refine qa H (zx _ _) λ_ f H2=>?_)
    | ((with_reducible refine qs H ?hl ?h1 λ_ f H2=>?_);(case hl=>rfl);(case h1=>rfl))
    | ((with_reducible refine zA H ?hl ?h1 λ_ f H2=>?_);(case hl=>rfl);(case h1=>rfl))
    | ((with_reducible refine ZB H ?hl ?h1 λ_ f H2=>?_);(case hl=>rfl);(case h1=>rfl))
    | ((with_reducible refine XT H ?hl ?h1 λ_ f H2=>?_);(case hl=>rfl);(case h1=>rfl))
    | ((with_reducible refine XS H ?hl ?h1 λ_ f H2=>?_);(case hl=>rfl);(case h1=>rfl))
    | ((with_reducible refine XR H ?hl ?h1 λ_ f H2=>?_);(case hl=>rfl);(case h1=>rfl))
    | ((with_reducible refine cV H ?hl ?h1 λ_ f H2=>?_);(case hl=>exact Nat.le_of_ble_eq_true rfl);(case h1=>rfl);(simp only [go_sem] at H2))
    | ((with_reducible refine cK H ?hl ?h1 λ_ f H2=>?_);(case hl=>exact Nat.le_of_ble_eq_true rfl);(case h1=>rfl);(simp only [go_sem] at H2))
    | ((with_reducible refine eV H ?hl ?h1 λ_ f H2=>?_);(case hl=>exact Nat.le_of_ble_eq_true rfl);(case h1=>rfl);(simp only [go_sem] at H2))
    | ((with_reducible refine eK H ?hl ?h1 λ_ f H2=>?_);(case hl=>exact Nat.le_of_ble_eq_true rfl);(case h1=>rfl);(simp only [go_sem] at H2)));clear f;clear H;have H:=H2;clear H2;simp (disch:=omega) only [go_sem,undef,H.cs, *,decide_eq_true hr])
   | ((with_reducible refine qE (λhq=>?_) (λhq=>?_))<;>(try simp only [Bool.not_true,Bool.not_false] at hq)<;>simp (disch:=omega) only [go_sem,undef,H.cs, *,decide_eq_true hr])
   | ((with_reducible refine ql (λhq=>?_) (λhq=>?_))<;>simp (disch:=omega) only [go_sem,undef,H.cs, *,decide_eq_true hr]))
  exact ⟨by rw [GL,if_pos hr],H.fr⟩
 ·refine ef (by simp [Tryz.f33]) ?_
  have H:=Hq.refl m []
  simp (disch:=omega) only [go_sem,undef]
  repeat' (first
   | ((first
    | (with_reducible first
     | refine qg H λ_ _ f H2=>?_
     | refine xK H λ_ f H2=>?_
     | refine cQ H λ_ f H2=>?_
     | refine Wy H λ_ f H2=>?_
     | refine eX H λ_ f H2=>?_
     | refine eJ H λ_ f H2=>?_
     | refine eZ H λ_ f H2=>?_
     | refine qa H (zx _ _) λ_ f H2=>?_)
    | ((with_reducible refine qs H ?hl ?h1 λ_ f H2=>?_);(case hl=>rfl);(case h1=>rfl))
    | ((with_reducible refine zA H ?hl ?h1 λ_ f H2=>?_);(case hl=>rfl);(case h1=>rfl))
    | ((with_reducible refine ZB H ?hl ?h1 λ_ f H2=>?_);(case hl=>rfl);(case h1=>rfl))
    | ((with_reducible refine XT H ?hl ?h1 λ_ f H2=>?_);(case hl=>rfl);(case h1=>rfl))
    | ((with_reducible refine XS H ?hl ?h1 λ_ f H2=>?_);(case hl=>rfl);(case h1=>rfl))
    | ((with_reducible refine XR H ?hl ?h1 λ_ f H2=>?_);(case hl=>rfl);(case h1=>rfl))
    | ((with_reducible refine cV H ?hl ?h1 λ_ f H2=>?_);(case hl=>exact Nat.le_of_ble_eq_true rfl);(case h1=>rfl);(simp only [go_sem] at H2))
    | ((with_reducible refine cK H ?hl ?h1 λ_ f H2=>?_);(case hl=>exact Nat.le_of_ble_eq_true rfl);(case h1=>rfl);(simp only [go_sem] at H2))
    | ((with_reducible refine eV H ?hl ?h1 λ_ f H2=>?_);(case hl=>exact Nat.le_of_ble_eq_true rfl);(case h1=>rfl);(simp only [go_sem] at H2))
    | ((with_reducible refine eK H ?hl ?h1 λ_ f H2=>?_);(case hl=>exact Nat.le_of_ble_eq_true rfl);(case h1=>rfl);(simp only [go_sem] at H2)));clear f;clear H;have H:=H2;clear H2;simp (disch:=omega) only [go_sem,undef,H.cs, *,decide_eq_false hr])
   | ((with_reducible refine qE (λhq=>?_) (λhq=>?_))<;>(try simp only [Bool.not_true,Bool.not_false] at hq)<;>simp (disch:=omega) only [go_sem,undef,H.cs, *,decide_eq_false hr])
   | ((with_reducible refine ql (λhq=>?_) (λhq=>?_))<;>simp (disch:=omega) only [go_sem,undef,H.cs, *,decide_eq_false hr]))
  exact ⟨by rw [GL,if_neg hr],H.fr⟩
def vH(own:Att)(l:List Att):Nat:=l.countP λa=>decide (a=own)
theorem PI(own:Att)(l:List Att)(j:Nat)(y:Att)(h:l[j]?=some y):vH own (l.take (j+1))=vH own (l.take j)+if y=own then 1 else 0:=by
 unfold vH
 rw [List.take_add_one,h,Option.toList_some,List.countP_append]
 simp [List.countP_cons]
theorem MA(own:Att)(l:List Att):vH own l≤l.length:=List.countP_le_length
def VT(n:Nat)(first:Bool)(own:Att)(l:List Att)(late:Bool):Int×Att :=
 if first=true∧n≤vH own l+2 then (1,own) else if l.length < n / 2∨(first=true∧late=false∧l.length < vH own l+2) then (0,Att.zero) else (2,jc (own::l))
theorem pre_s{a:Option Addr}{c n:Nat}{first late:Bool}{own:Att}{l:List Att}(hv:RdS 8 Att.cs m (.slice a l.length c) l)(hn:n≤100)(hl:l.length≤100) :
    MC Tryz.prog If [.int .i64 (n:Nat),.bool first,own.v,.slice a l.length c,.bool late] m λv m'=>v=.tuple #[.int .i64 (VT n first own l late).1,(VT n first own l late).2.v]∧Fr m m' []:=by
  have hle:=MA own l
  refine Fk (by simp [Tryz.f33]) ?_
  have H:=Hq.refl m []
  simp (disch:=omega) only [go_sem,undef]
  refine qg H λb M f H=>?_
  simp (disch:=omega) only [go_sem,undef]
  refine qg H λb1 M f H=>?_
  simp (disch:=omega) only [go_sem,undef]
  refine qe (λk E m'=>∃ (j:Nat),j≤l.length∧k=l.length - j∧E=[(0,.int .i64 (n:Nat)),(1,.bool first),(3,.slice a l.length c),(4,.bool late),(7,.pointer (some ⟨b,0,none⟩)),(11,.pointer (some ⟨b1,0,none⟩)),(12,.int .i64 (vH own (l.take j):Nat)),(15,.slice a l.length c),(16,.int .i64 (l.length:Nat)),(17,.int .i64 (j:Nat))] ∧
    Hq m m' [] [qw b1 (.cells Att.zero.cs.toArray qb),qw b (.cells own.cs.toArray qb)]) l.length rfl ⟨0,by omega,rfl,rfl,H⟩ ?_
  clear H f
  rintro k E M1 ⟨j,hj,rfl,rfl,H⟩
  by_cases hlt:j < l.length
  · refine RdS.elK (hv.frame H.fr) hlt (by decide) λbx o z hz hixz hEz=>?_
    have hs:=PI own l j z hz
    have hle2:=MA own (l.take j)
    rw [List.length_take] at hle2
    simp (disch:=omega) only [go_sem,undef,qZ (show ((j:Nat):Int) < (l.length:Nat) by omega),hixz,hEz.mD 8 (by decide) (by decide)]
    refine qg H λb5 M f H=>?_
    simp (disch:=omega) only [go_sem,undef,H.cs]
    refine qs H rfl rfl λM f H=>?_
    by_cases hzo:z=own
    · rw [if_pos hzo] at hs
      simp (disch:=omega) only [go_sem,undef,H.cs,qZ hzo]
      exact qK (l.length - (j+1)) (by omega) ⟨j+1,by omega,rfl,by rw [hs];rfl,H.tail⟩
    · rw [if_neg hzo] at hs
      simp (disch:=omega) only [go_sem,undef,H.cs,qX hzo]
      exact qK (l.length - (j+1)) (by omega) ⟨j+1,by omega,rfl,by rw [hs];rfl,H.tail⟩
  · have e:j=l.length:=by omega
    subst e
    rw [List.take_length] at *
    have hp:VT n first own l late=if first=true∧n≤vH own l+2 then (1,own) else if l.length < n / 2∨(first=true∧late=false∧l.length < vH own l+2) then (0,Att.zero) else (2,jc (own::l)):=rfl
    generalize VT n first own l late=q at *
    generalize vH own l=s at *
    have hone:∀ v∈l.flatMap Att.cs,v.oneCell'=true:=λv hv=>by
      obtain ⟨x,_,hx⟩:=List.mem_flatMap.1 hv
      exact List.all_eq_true.1 (Att.one x) v hx
    cases first<;>cases late
    all_goals
      simp only [Bool.false_eq_true,Bool.true_eq_false,true_and,false_and,if_false,or_false,reduceCtorEq] at hp
      simp (disch:=omega) only [go_sem,undef,qX (show ¬ ((l.length:Nat):Int) < (l.length:Nat) by omega)]
      repeat' (first
        | ((first
          | (with_reducible first
            | refine qg H λ_ _ f H2=>?_
            | refine xK H λ_ f H2=>?_
            | refine cQ H λ_ f H2=>?_
            | refine Wy H λ_ f H2=>?_
            | refine eX H λ_ f H2=>?_
            | refine eJ H λ_ f H2=>?_
            | refine eZ H λ_ f H2=>?_
            | refine qa H (qJz n (by omega) _) λ_ f H2=>?_
            | refine qa H (HG n (by omega) _) λ_ f H2=>?_)
          | ((with_reducible refine qs H ?hl ?h1 λ_ f H2=>?_);(case hl=>rfl);(case h1=>rfl))
          | ((with_reducible refine zA H ?hl ?h1 λ_ f H2=>?_);(case hl=>rfl);(case h1=>rfl))
          | ((with_reducible refine ZB H ?hl ?h1 λ_ f H2=>?_);(case hl=>rfl);(case h1=>rfl))
          | ((with_reducible refine XT H ?hl ?h1 λ_ f H2=>?_);(case hl=>rfl);(case h1=>rfl))
          | ((with_reducible refine XS H ?hl ?h1 λ_ f H2=>?_);(case hl=>rfl);(case h1=>rfl))
          | ((with_reducible refine XR H ?hl ?h1 λ_ f H2=>?_);(case hl=>rfl);(case h1=>rfl))
          | ((with_reducible refine cV H ?hl ?h1 λ_ f H2=>?_);(case hl=>exact Nat.le_of_ble_eq_true rfl);(case h1=>rfl);(simp only [go_sem] at H2))
          | ((with_reducible refine cK H ?hl ?h1 λ_ f H2=>?_);(case hl=>exact Nat.le_of_ble_eq_true rfl);(case h1=>rfl);(simp only [go_sem] at H2))
          | ((with_reducible refine eV H ?hl ?h1 λ_ f H2=>?_);(case hl=>exact Nat.le_of_ble_eq_true rfl);(case h1=>rfl);(simp only [go_sem] at H2))
          | ((with_reducible refine eK H ?hl ?h1 λ_ f H2=>?_);(case hl=>exact Nat.le_of_ble_eq_true rfl);(case h1=>rfl);(simp only [go_sem] at H2)));clear f;clear H;have H:=H2;clear H2;simp (disch:=omega) only [go_sem,undef,H.cs, *])
        | ((with_reducible refine qE (λhq=>?_) (λhq=>?_))<;>(try simp only [Bool.not_true,Bool.not_false] at hq)<;>simp (disch:=omega) only [go_sem,undef,H.cs, *])
        | ((with_reducible refine ql (λhq=>?_) (λhq=>?_))<;>simp (disch:=omega) only [go_sem,undef,H.cs, *]))
    all_goals (try simp only [decide_eq_true_eq,decide_eq_false_iff_not] at *)
    all_goals first
      | (refine Xh ⟨?_,H.fr⟩
         rw [hp]
         repeat' split
         all_goals first | rfl | (exfalso;omega))
      | (refine Hd (H.Mf 8 1 1 rfl (Nat.le_refl _)) (k:=l.length) rfl (cC (hv.frame H.fr)) (xQ Att.len l) hone rfl (by omega) (by omega) λw M f H=>?_
         have ho:Own M 39 8 w (own::l).length ((own::l).flatMap Att.cs):=by rw [List.length_cons,Nat.add_comm];exact H.at 0 rfl
         refine Own.zC ho λa c e=>?_
         subst e
         simp (disch:=omega) only [go_sem,undef]
         refine qa H (cD (l:=own::l) rfl (Own.rds (by decide) Att.len ho) (by simp) (by simp;omega)) λM f H=>?_
         simp (disch:=omega) only [go_sem,undef]
         refine zA H rfl rfl λM f H=>?_
         simp (disch:=omega) only [go_sem,undef,H.cs]
         refine ⟨?_,H.fr⟩
         rw [hp]
         repeat' split
         all_goals first | rfl | (exfalso;omega))
end Go.Fw
namespace Go.Fw
open Go.Proofs
variable {m m0 M:Mem} {S:List Nat} {L:List As}
def Sd.at(l:List Sd)(i:Int):Sd:=(l[i.toNat]?).getD Sd.zero
def ja(l:List Sd)(st:Int):Nat→Int
 | 0=>-1
 | j+1=>if (Sd.at l j).cel.st=st∧(ja l st j < 0∨lt2 (Sd.at l (ja l st j)).cel.vo (Sd.at l j).cel.vo) then j else ja l st j
theorem rV(l:List Sd)(st:Int):∀ j,-1≤ja l st j∧ja l st j < j
 | 0=>by simp [ja]
 | j+1=>by
  have:=rV l st j
  unfold ja
  split<;>omega
theorem Sd.gi{l:List Sd}{j:Nat}{s:Sd}(h:l[j]?=some s):Sd.at l (j:Nat)=s:=by unfold Sd.at;rw [Int.toNat_natCast,h];rfl
theorem qkj{a:Option Addr}{c:Nat}{l:List Sd}{st:Int}(hv:RdS 22 Sd.cs m (.slice a l.length c) l)(hl:l.length≤100) :
  MC Tryz.prog FJ [.slice a l.length c,.int .i64 st] m λv m'=>v=.int .i64 (ja l st l.length)∧Fr m m' []:=by
 refine BS (by simp [Tryz.f33]) ?_
 have H:=Hq.refl m []
 simp (disch:=omega) only [go_sem,undef]
 refine qe (λk E m'=>∃ (j:Nat),j≤l.length∧k=l.length - j∧E=[(0,.slice a l.length c),(1,.int .i64 st),(5,.int .i64 (ja l st j)),(8,.slice a l.length c),(9,.int .i64 (l.length:Nat)),(10,.int .i64 (j:Nat))]∧Hq m m' [] []) l.length rfl ⟨0,by omega,rfl,rfl,H⟩ ?_
 clear H
 rintro k E M1 ⟨j,hj,rfl,rfl,H⟩
 by_cases hlt:j < l.length
 ·refine RdS.elK (hv.frame H.fr) hlt (by decide) λbx o z hz hixz hEz=>?_
  have hb:=rV l st j
  have hz2:=Sd.gi hz
  have hs:ja l st (j+1)=if z.cel.st=st∧(ja l st j < 0∨lt2 (Sd.at l (ja l st j)).cel.vo z.cel.vo) then (j:Int) else ja l st j:=by rw [ja,hz2]
  simp (disch:=omega) only [go_sem,undef,qZ (show ((j:Nat):Int) < (l.length:Nat) by omega),hixz,hEz.mD 22 (by decide) (by decide)]
  refine qg H λb5 M f H=>?_
  simp (disch:=omega) only [go_sem,undef,H.cs]
  refine qs H rfl rfl λM f H=>?_
  by_cases hst:z.cel.st=st
  ·by_cases hb0:ja l st j < 0
   ·rw [if_pos ⟨hst,.inl hb0⟩] at hs
    simp (disch:=omega) only [go_sem,undef,H.cs,qZ hst,qZ hb0]
    exact qK (l.length - (j+1)) (by omega) ⟨j+1,by omega,rfl,by rw [hs];rfl,H.tail⟩
   ·refine Exists.elim (⟨(ja l st j).toNat,by omega⟩:∃ q:Nat,ja l st j=(q:Int)) λq hq=>?_
    rw [hq] at hs hb hb0
    refine RdS.elK (hv.frame H.fr) (show q < l.length by omega) (by decide) λbx2 o2 w hw hixw hEw=>?_
    have hw2:=Sd.gi hw
    rw [hw2] at hs
    have hlw:=hEw.lda 4 2 (by decide) (by decide)
    rw [Sd.HC] at hlw
    by_cases hlt2:lt2 w.cel.vo z.cel.vo
    ·rw [if_pos ⟨hst,.inr hlt2⟩] at hs
     simp (disch:=omega) only [go_sem,undef,H.cs,qZ hst,qX hb0,hq,hixw,hlw]
     refine qa H (zi w.cel.vo z.cel.vo _) λM f H=>?_
     simp (disch:=omega) only [go_sem,undef,qZ hlt2]
     exact qK (l.length - (j+1)) (by omega) ⟨j+1,by omega,rfl,by rw [hs];rfl,H.tail⟩
    ·rw [if_neg (λh=>h.2.elim hb0 hlt2)] at hs
     simp (disch:=omega) only [go_sem,undef,H.cs,qZ hst,qX hb0,hq,hixw,hlw]
     refine qa H (zi w.cel.vo z.cel.vo _) λM f H=>?_
     simp (disch:=omega) only [go_sem,undef,qX hlt2]
     exact qK (l.length - (j+1)) (by omega) ⟨j+1,by omega,rfl,by rw [hs];rfl,H.tail⟩
  ·rw [if_neg (λh=>hst h.1)] at hs
   simp (disch:=omega) only [go_sem,undef,H.cs,qX hst]
   exact qK (l.length - (j+1)) (by omega) ⟨j+1,by omega,rfl,by rw [hs];rfl,H.tail⟩
 ·have e:j=l.length:=by omega
  subst e
  simp (disch:=omega) only [go_sem,undef,qX (show ¬ ((l.length:Nat):Int) < (l.length:Nat) by omega)]
  exact ⟨rfl,H.fr⟩
end Go.Fw
namespace Go.Fw
open Go.Proofs
variable {m m0 M:Mem} {S:List Nat} {L:List As}
abbrev Hw(o:Int)(s:Sd):Prop:=s.rep≠o∧s.cel.st=1∧s.cel.same=true
def Vc(o:Int)(l:List Sd):Nat→Nat
 | 0=>0
 | j+1=>Vc o l j+if Hw o (Sd.at l j) then 1 else 0
def kN(o:Int)(l:List Sd):Nat→Int
 | 0=>-1
 | j+1=>if Hw o (Sd.at l j)∧kN o l j < 0 then j else kN o l j
def cJ(o:Int)(l:List Sd):Nat→Bool
 | 0=>false
 | j+1=>if (Sd.at l j).rep=o then true else cJ o l j
theorem BB(o:Int)(l:List Sd):∀ j,Vc o l j≤j
 | 0=>Nat.le_refl _
 | j+1=>by
  have:=BB o l j
  unfold Vc
  split<;>omega
theorem sA(o:Int)(l:List Sd):∀ j,-1≤kN o l j∧kN o l j < j∧(0 < Vc o l j→0≤kN o l j)
 | 0=>by simp [kN,Vc]
 | j+1=>by
  obtain ⟨h1,h2,h3⟩:=sA o l j
  unfold kN Vc
  by_cases hg:Hw o (Sd.at l j)
  ·rw [if_pos hg]
   by_cases hf:kN o l j < 0
   ·rw [if_pos ⟨hg,hf⟩];omega
   ·rw [if_neg (λh=>hf h.2)];omega
  ·rw [if_neg hg,if_neg (λh=>hg h.1)]
   exact ⟨h1,by omega,λh=>h3 (by omega)⟩
def WW(n:Nat)(o:Int)(l:List Sd):Int×Cmd×Att :=
 if l.length < n / 2+1 then (0,Cmd.zero,Att.zero) else
 match l.find? λs=>decide (s.cel.st=3) with
 | some s=>(1,s.cel.cmd,s.cel.att)
 | none =>
  if 0≤ja l 2 l.length then (2,(Sd.at l (ja l 2 l.length)).cel.cmd,(Sd.at l (ja l 2 l.length)).cel.att) else
  if ja l 1 l.length < 0 then (4,Cmd.zero,Att.zero) else
  if cJ o l l.length=false∧n / 2≤Vc o l l.length then (2,(Sd.at l (kN o l l.length)).cel.cmd,(Sd.at l (kN o l l.length)).cel.att) else
  (3,(Sd.at l (ja l 1 l.length)).cel.cmd,(Sd.at l (ja l 1 l.length)).cel.att)
theorem qwo{l:List Sd}{j:Nat}{z:Sd}(h:∀ i,i < j→(Sd.at l (i:Nat)).cel.st≠3)(hz:l[j]?=some z)(h3:z.cel.st=3):l.find? (λs=>decide (s.cel.st=3))=some z:=by
 obtain ⟨hj,e⟩:=List.getElem?_eq_some_iff.1 hz
 rw [List.find?_eq_some_iff_getElem]
 refine ⟨by simp [h3],j,hj,e,λi hi=>?_⟩
 have:=h i hi
 rw [Sd.gi (List.getElem?_eq_getElem (by omega))] at this
 simp [this]
theorem qqr{l:List Sd}(h:∀ i,i < l.length→(Sd.at l (i:Nat)).cel.st≠3):l.find? (λs=>decide (s.cel.st=3))=none:=by
 rw [List.find?_eq_none]
 intro s hs
 obtain ⟨i,hi⟩:=List.getElem?_of_mem hs
 have hil:=(List.getElem?_eq_some_iff.1 hi).1
 have:=h i hil
 rw [Sd.gi hi] at this
 simp [this]
theorem HM{a:Option Addr}{c:Nat}{l:List Sd}{i:Int}{G:Prop}(hv:RdS 22 Sd.cs m (.slice a l.length c) l)(h0:0≤i)(hi:i < l.length)(K:∀ b o,(∀ kd M,rd (.ixs 22) [.slice a l.length c,.int kd i] M=some (.pointer (some ⟨b,o,none⟩)))→m b≠none→YJ (m b) (o+6) 7=some (.agg (Sd.at l i).cel.cmd.cs.toArray)→YJ (m b) (o+13) 8=some (.agg (Sd.at l i).cel.att.cs.toArray)→G):G:=by
 obtain ⟨j,rfl⟩:∃ j:Nat,i=(j:Int):=⟨i.toNat,by omega⟩
 refine RdS.elK hv (show j < l.length by omega) (by decide) λb o z hz hix hE=>?_
 have h1:=hE.lda 6 7 (by decide) (by decide)
 have h2:=hE.lda 13 8 (by decide) (by decide)
 rw [Sd.Qg] at h1
 rw [Sd.Ya] at h2
 rw [Sd.gi hz] at K
 refine K b o hix (λe=>?_) h1 h2
 have:=hE.cell 0 _ rfl
 rw [e] at this;simp [cellAt] at this
theorem Rv{a:Option Addr}{c n:Nat}{o:Int}{l:List Sd}(hv:RdS 22 Sd.cs m (.slice a l.length c) l)(hn:n≤100)(hn2:2≤n)(hl:l.length≤100) :
  MC Tryz.prog nR [.int .i64 (n:Nat),.int .i64 o,.slice a l.length c] m λv m'=>v=.tuple #[.int .i64 (WW n o l).1,(WW n o l).2.1.v,(WW n o l).2.2.v]∧Fr m m' []:=by
 by_cases hsm:l.length < n / 2+1
 ·have hp:WW n o l=(0,Cmd.zero,Att.zero):=if_pos hsm
  rw [hp]
  refine WV (by simp [Tryz.f33]) ?_
  have H:=Hq.refl m []
  simp (disch:=omega) only [go_sem,undef]
  repeat' (first
   | ((first
    | (with_reducible first
     | refine qg H λ_ _ f H2=>?_
     | refine xK H λ_ f H2=>?_
     | refine cQ H λ_ f H2=>?_
     | refine Wy H λ_ f H2=>?_
     | refine eX H λ_ f H2=>?_
     | refine eJ H λ_ f H2=>?_
     | refine eZ H λ_ f H2=>?_
     | refine qa H (HG n (by omega) _) λ_ f H2=>?_)
    | ((with_reducible refine qs H ?hl ?h1 λ_ f H2=>?_);(case hl=>rfl);(case h1=>rfl))
    | ((with_reducible refine zA H ?hl ?h1 λ_ f H2=>?_);(case hl=>rfl);(case h1=>rfl))
    | ((with_reducible refine ZB H ?hl ?h1 λ_ f H2=>?_);(case hl=>rfl);(case h1=>rfl))
    | ((with_reducible refine XT H ?hl ?h1 λ_ f H2=>?_);(case hl=>rfl);(case h1=>rfl))
    | ((with_reducible refine XS H ?hl ?h1 λ_ f H2=>?_);(case hl=>rfl);(case h1=>rfl))
    | ((with_reducible refine XR H ?hl ?h1 λ_ f H2=>?_);(case hl=>rfl);(case h1=>rfl))
    | ((with_reducible refine cV H ?hl ?h1 λ_ f H2=>?_);(case hl=>exact Nat.le_of_ble_eq_true rfl);(case h1=>rfl);(simp only [go_sem] at H2))
    | ((with_reducible refine cK H ?hl ?h1 λ_ f H2=>?_);(case hl=>exact Nat.le_of_ble_eq_true rfl);(case h1=>rfl);(simp only [go_sem] at H2))
    | ((with_reducible refine eV H ?hl ?h1 λ_ f H2=>?_);(case hl=>exact Nat.le_of_ble_eq_true rfl);(case h1=>rfl);(simp only [go_sem] at H2))
    | ((with_reducible refine eK H ?hl ?h1 λ_ f H2=>?_);(case hl=>exact Nat.le_of_ble_eq_true rfl);(case h1=>rfl);(simp only [go_sem] at H2)));clear f;clear H;have H:=H2;clear H2;simp (disch:=omega) only [go_sem,undef,H.cs, *,qZ (show ((l.length:Nat):Int) < ((n / 2+1:Nat):Int) by omega)])
   | ((with_reducible refine qE (λhq=>?_) (λhq=>?_))<;>(try simp only [Bool.not_true,Bool.not_false] at hq)<;>simp (disch:=omega) only [go_sem,undef,H.cs, *,qZ (show ((l.length:Nat):Int) < ((n / 2+1:Nat):Int) by omega)])
   | ((with_reducible refine ql (λhq=>?_) (λhq=>?_))<;>simp (disch:=omega) only [go_sem,undef,H.cs, *,qZ (show ((l.length:Nat):Int) < ((n / 2+1:Nat):Int) by omega)]))
  exact ⟨rfl,H.fr⟩
 have hp:WW n o l=match l.find? λs=>decide (s.cel.st=3) with
 | some s=>(1,s.cel.cmd,s.cel.att)
 | none =>
  if 0≤ja l 2 l.length then (2,(Sd.at l (ja l 2 l.length)).cel.cmd,(Sd.at l (ja l 2 l.length)).cel.att) else
  if ja l 1 l.length < 0 then (4,Cmd.zero,Att.zero) else
  if cJ o l l.length=false∧n / 2≤Vc o l l.length then (2,(Sd.at l (kN o l l.length)).cel.cmd,(Sd.at l (kN o l l.length)).cel.att) else
  (3,(Sd.at l (ja l 1 l.length)).cel.cmd,(Sd.at l (ja l 1 l.length)).cel.att):=if_neg hsm
 generalize WW n o l=q at *
 refine WV (by simp [Tryz.f33]) ?_
 have H:=Hq.refl m []
 simp (disch:=omega) only [go_sem,undef]
 refine qg H λb7 M f H=>?_
 simp (disch:=omega) only [go_sem,undef]
 refine qg H λb8 M f H=>?_
 simp (disch:=omega) only [go_sem,undef]
 refine qa H (HG n (by omega) _) λM f H=>?_
 simp (disch:=omega) only [go_sem,undef,qX (show ¬ ((l.length:Nat):Int) < ((n / 2+1:Nat):Int) by omega)]
 refine qe (λk E m'=>∃ (j:Nat),j≤l.length∧k=l.length - j∧(∀ i,i < j→(Sd.at l (i:Nat)).cel.st≠3)∧E=[(0,.int .i64 (n:Nat)),(1,.int .i64 o),(2,.slice a l.length c),(7,.pointer (some ⟨b7,0,none⟩)),(8,.pointer (some ⟨b8,0,none⟩)),(9,.int .i64 (Vc o l j:Nat)),(10,.int .i64 (kN o l j)),(11,.bool (cJ o l j)),(23,.slice a l.length c),(24,.int .i64 (l.length:Nat)),(25,.int .i64 (j:Nat))] ∧
  Hq m m' [] [qw b8 (.cells Att.zero.cs.toArray qb),qw b7 (.cells Cmd.zero.cs.toArray qA)]) l.length rfl ⟨0,by omega,rfl,by simp,rfl,H⟩ ?_
 clear H f
 rintro k E M1 ⟨j,hj,rfl,h3,rfl,H⟩
 by_cases hlt:j < l.length
 ·refine RdS.elK (hv.frame H.fr) hlt (by decide) λbx o2 z hz hixz hEz=>?_
  have hz2:=Sd.gi hz
  have hsl:=BB o l j
  have hfl:=sA o l j
  have s1:Vc o l (j+1)=Vc o l j+if Hw o z then 1 else 0:=by rw [Vc,hz2]
  have s2:kN o l (j+1)=if Hw o z∧kN o l j < 0 then (j:Int) else kN o l j:=by rw [kN,hz2]
  have s3:cJ o l (j+1)=if z.rep=o then true else cJ o l j:=by rw [cJ,hz2]
  by_cases hst:z.cel.st=3
  ·rw [qwo h3 hz hst] at hp
   simp (disch:=omega) only [go_sem,undef,qZ (show ((j:Nat):Int) < (l.length:Nat) by omega),hixz,hEz.mD 22 (by decide) (by decide)]
   refine qg H λb5 M f H=>?_
   simp (disch:=omega) only [go_sem,undef,H.cs]
   refine qs H rfl rfl λM f H=>?_
   simp (disch:=omega) only [go_sem,undef,H.cs,qZ hst]
   refine ZB H rfl rfl λM f H=>?_
   simp (disch:=omega) only [go_sem,undef,H.cs]
   refine zA H rfl rfl λM f H=>?_
   simp (disch:=omega) only [go_sem,undef,H.cs]
   exact ⟨by rw [hp],H.fr⟩
  have h3':∀ i,i < j+1→(Sd.at l (i:Nat)).cel.st≠3:=λi hi=>by
   rcases Nat.lt_or_eq_of_le (Nat.le_of_lt_succ hi) with h | h
   ·exact h3 i h
   ·subst h;rw [hz2];exact hst
  by_cases hro:z.rep=o
  ·rw [if_neg (λh=>h.1 hro)] at s1
   rw [if_neg (λh=>h.1.1 hro)] at s2
   rw [if_pos hro] at s3
   simp (disch:=omega) only [go_sem,undef,qZ (show ((j:Nat):Int) < (l.length:Nat) by omega),hixz,hEz.mD 22 (by decide) (by decide)]
   refine qg H λb5 M f H=>?_
   simp (disch:=omega) only [go_sem,undef,H.cs]
   refine qs H rfl rfl λM f H=>?_
   simp (disch:=omega) only [go_sem,undef,H.cs,qX hst,qZ hro]
   exact qK (l.length - (j+1)) (by omega) ⟨j+1,by omega,rfl,h3',by rw [s1,s2,s3];rfl,H.tail⟩
  ·rw [if_neg hro] at s3
   by_cases hg:Hw o z
   ·rw [if_pos hg] at s1
    by_cases hf:kN o l j < 0
    ·rw [if_pos ⟨hg,hf⟩] at s2
     simp (disch:=omega) only [go_sem,undef,qZ (show ((j:Nat):Int) < (l.length:Nat) by omega),hixz,hEz.mD 22 (by decide) (by decide)]
     refine qg H λb5 M f H=>?_
     simp (disch:=omega) only [go_sem,undef,H.cs]
     refine qs H rfl rfl λM f H=>?_
     simp (disch:=omega) only [go_sem,undef,H.cs,qX hst,qX hro,qZ hg.2.1,hg.2.2,qZ hf]
     exact qK (l.length - (j+1)) (by omega) ⟨j+1,by omega,rfl,h3',by rw [s1,s2,s3];rfl,H.tail⟩
    ·rw [if_neg (λh=>hf h.2)] at s2
     simp (disch:=omega) only [go_sem,undef,qZ (show ((j:Nat):Int) < (l.length:Nat) by omega),hixz,hEz.mD 22 (by decide) (by decide)]
     refine qg H λb5 M f H=>?_
     simp (disch:=omega) only [go_sem,undef,H.cs]
     refine qs H rfl rfl λM f H=>?_
     simp (disch:=omega) only [go_sem,undef,H.cs,qX hst,qX hro,qZ hg.2.1,hg.2.2,qX hf]
     exact qK (l.length - (j+1)) (by omega) ⟨j+1,by omega,rfl,h3',by rw [s1,s2,s3];rfl,H.tail⟩
   ·rw [if_neg hg] at s1
    rw [if_neg (λh=>hg h.1)] at s2
    simp (disch:=omega) only [go_sem,undef,qZ (show ((j:Nat):Int) < (l.length:Nat) by omega),hixz,hEz.mD 22 (by decide) (by decide)]
    refine qg H λb5 M f H=>?_
    simp (disch:=omega) only [go_sem,undef,H.cs]
    refine qs H rfl rfl λM f H=>?_
    by_cases h1:z.cel.st=1
    ·have hsf:z.cel.same=false:=by
      cases hsx:z.cel.same with
      | false=>rfl
      | true=>exact absurd ⟨hro,h1,hsx⟩ hg
     simp (disch:=omega) only [go_sem,undef,H.cs,qX hst,qX hro,qZ h1,hsf]
     exact qK (l.length - (j+1)) (by omega) ⟨j+1,by omega,rfl,h3',by rw [s1,s2,s3];rfl,H.tail⟩
    ·simp (disch:=omega) only [go_sem,undef,H.cs,qX hst,qX hro,qX h1]
     exact qK (l.length - (j+1)) (by omega) ⟨j+1,by omega,rfl,h3',by rw [s1,s2,s3];rfl,H.tail⟩
 ·have e:j=l.length:=by omega
  subst e
  rw [qqr h3] at hp
  simp only at hp
  have hb2:=rV l 2 l.length
  have hb1:=rV l 1 l.length
  have hfl:=sA o l l.length
  have hsl:=BB o l l.length
  simp (disch:=omega) only [go_sem,undef,qX (show ¬ ((l.length:Nat):Int) < (l.length:Nat) by omega)]
  refine qa H (qkj (hv.frame H.fr) hl) λM f H=>?_
  by_cases h2:0≤ja l 2 l.length
  ·rw [if_pos h2] at hp
   refine HM hv h2 hb2.2 λbx ox hix hth hl1 hl2=>?_
   simp (disch:=omega) only [go_sem,undef,qZ (show ja l 2 l.length≥0 from h2),hix,H.fr bx hth (by simp),hl1,hl2]
   refine zA H rfl rfl λM f H=>?_
   simp (disch:=omega) only [go_sem,undef,H.cs,H.fr bx hth (by simp),hl2]
   refine qs H rfl rfl λM f H=>?_
   simp (disch:=omega) only [go_sem,undef,H.cs]
   exact ⟨by rw [hp],H.fr⟩
  rw [if_neg h2] at hp
  simp (disch:=omega) only [go_sem,undef,qX (show ¬ ja l 2 l.length≥0 from h2)]
  refine qa H (qkj (hv.frame H.fr) hl) λM f H=>?_
  by_cases h1:ja l 1 l.length < 0
  ·rw [if_pos h1] at hp
   simp (disch:=omega) only [go_sem,undef,qZ h1]
   refine zA H rfl rfl λM f H=>?_
   simp (disch:=omega) only [go_sem,undef,H.cs]
   refine qs H rfl rfl λM f H=>?_
   simp (disch:=omega) only [go_sem,undef,H.cs]
   exact ⟨by rw [hp],H.fr⟩
  rw [if_neg h1] at hp
  have etd:Int.tdiv ((n:Nat):Int) 2=((n / 2:Nat):Int):=rfl
  by_cases hc:cJ o l l.length=false∧n / 2≤Vc o l l.length
  ·rw [if_pos hc] at hp
   refine HM hv (hfl.2.2 (by omega)) hfl.2.1 λbx ox hix hth hl1 hl2=>?_
   simp (disch:=omega) only [go_sem,undef,qX h1,hc.1,etd,qZ (show ((Vc o l l.length:Nat):Int)≥((n / 2:Nat):Int) by omega),hix,H.fr bx hth (by simp),hl1,hl2]
   refine zA H rfl rfl λM f H=>?_
   simp (disch:=omega) only [go_sem,undef,H.cs,H.fr bx hth (by simp),hl2]
   refine qs H rfl rfl λM f H=>?_
   simp (disch:=omega) only [go_sem,undef,H.cs]
   exact ⟨by rw [hp],H.fr⟩
  ·rw [if_neg hc] at hp
   refine HM hv (show 0≤ja l 1 l.length by omega) hb1.2 λbx ox hix hth hl1 hl2=>?_
   cases hth2:cJ o l l.length with
   | true =>
    simp (disch:=omega) only [go_sem,undef,qX h1,hth2,hix,H.fr bx hth (by simp),hl1,hl2]
    refine zA H rfl rfl λM f H=>?_
    simp (disch:=omega) only [go_sem,undef,H.cs,H.fr bx hth (by simp),hl2]
    refine qs H rfl rfl λM f H=>?_
    simp (disch:=omega) only [go_sem,undef,H.cs]
    exact ⟨by rw [hp],H.fr⟩
   | false =>
    have hns:¬ n / 2≤Vc o l l.length:=λh=>hc ⟨hth2,h⟩
    simp (disch:=omega) only [go_sem,undef,qX h1,hth2,etd,qX (show ¬ ((Vc o l l.length:Nat):Int)≥((n / 2:Nat):Int) by omega),hix,H.fr bx hth (by simp),hl1,hl2]
    refine zA H rfl rfl λM f H=>?_
    simp (disch:=omega) only [go_sem,undef,H.cs,H.fr bx hth (by simp),hl2]
    refine qs H rfl rfl λM f H=>?_
    simp (disch:=omega) only [go_sem,undef,H.cs]
    exact ⟨by rw [hp],H.fr⟩
end Go.Fw
namespace Go.Fw
open Go.Proofs
abbrev wY:=List ((Int×Int)×qC)
def nv(l:wY):List ((Int×Int)×Value):=l.map λp=>(p.1,p.2.v)
def lkN(k:Int×Int):wY→Option qC
 | []=>none
 | (a,c)::r=>if a=k then some c else lkN k r
def zB(l:wY):List (Int×Int):=l.map (·.1)
def upN(k:Int×Int)(c:qC)(l:wY):wY:=if k∈zB l then l.map (λp=>if p.1=k then (k,c) else p) else l++[(k,c)]
theorem XM(l:wY):zz (nv l)=zB l:=by simp [zz,nv,zB,List.map_map,Function.comp_def]
theorem qza(k:Int×Int)(c:qC)(l:wY):gm k c.v (nv l)=nv (upN k c l):=by
 unfold gm upN
 rw [XM]
 split
 ·simp only [nv,List.map_map]
  refine List.map_congr_left λp _=>?_
  simp only [Function.comp]
  split<;>rfl
 ·simp [nv]
theorem qJa(k:Int×Int)(l:wY):sC k (nv l)=nv (l.filter λp=>p.1≠k):=by
 unfold sC nv
 rw [List.filter_map];rfl
theorem DJ{k:Int×Int}:∀ {l:wY},lkN k l=none↔k∉zB l
 | []=>by simp [lkN,zB]
 | (a,c)::r=>by
  have:=DJ (k:=k) (l:=r)
  simp only [lkN,zB,List.map_cons,List.mem_cons,not_or] at this ⊢
  split
  ·rename_i e;subst e;simp
  ·rename_i e;rw [this];exact ⟨λh=>⟨λe'=>e e'.symm,h⟩,λh=>h.2⟩
theorem qjT{k:Int×Int}{c:qC}:∀ {l:wY},(zB l).Nodup→(k,c)∈l→lkN k l=some c
 | (a,d)::r,hn,h=>by
  simp only [zB,List.map_cons,List.nodup_cons] at hn
  simp only [lkN]
  rcases List.mem_cons.1 h with e | h
  ·cases e;simp
  ·rw [if_neg]
   ·exact qjT hn.2 h
   ·rintro rfl;exact hn.1 (List.mem_map.2 ⟨_,h,rfl⟩)
theorem Nh(k:Int×Int)(c:qC)(l:wY):zB (upN k c l)=if k∈zB l then zB l else zB l++[k]:=by
 have:=ot (k:=k) (v:=c.v) (l:=nv l)
 rw [qza,XM,XM] at this
 by_cases hk:k∈zB l<;>simp_all
theorem qZD(k x:Int×Int)(c:qC)(l:wY):lkN x (upN k c l)=if x=k then some c else lkN x l:=by
 unfold upN
 split
 ·rename_i h
  induction l with
  | nil=>simp [zB] at h
  | cons p r ih =>
   obtain ⟨a,d⟩:=p
   by_cases e:a=k
   ·subst e
    simp only [List.map_cons,if_true,lkN]
    by_cases hx:a=x
    ·subst hx;simp
    ·rw [if_neg hx,if_neg (λe=>hx e.symm),if_neg hx]
     by_cases hr:a∈zB r
     ·rw [ih hr,if_neg (λe=>hx e.symm)]
     ·congr 1
      refine (List.map_congr_left λp hp=>?_).trans (List.map_id _)
      rw [if_neg];rfl
      rintro rfl;exact hr (List.mem_map.2 ⟨p,hp,rfl⟩)
   ·simp only [zB,List.map_cons,List.mem_cons] at h
    have hr:k∈zB r:=h.resolve_left (λe'=>e e'.symm)
    simp only [List.map_cons,if_neg e,lkN]
    by_cases hx:a=x
    ·subst hx;simp [e]
    ·rw [if_neg hx,if_neg hx,ih hr]
 ·rename_i h
  induction l with
  | nil=>simp [lkN,eq_comm]
  | cons p r ih =>
   obtain ⟨a,d⟩:=p
   simp only [zB,List.map_cons,List.mem_cons,not_or] at h
   simp only [List.cons_append,lkN]
   by_cases hx:a=x
   ·subst hx;simp [Ne.symm h.1]
   ·rw [if_neg hx,if_neg hx,ih h.2]
structure ZC(m:Mem)(lb r:Nat)(cut:Dp)(l:wY):Prop where
 box:m lb=some (.cells (Value.map (some r)::dv cut).toArray wW (0,0))
 map:VW pv m r (nv l)
theorem ZC.nd{m:Mem}{lb r:Nat}{cut:Dp}{l:wY}(h:ZC m lb r cut l):(zB l).Nodup:=by
 have:=h.map.nd;rwa [XM] at this
theorem ZC.frame{m m':Mem}{lb r:Nat}{cut:Dp}{l:wY}{S:List Nat}(h:ZC m lb r cut l)(f:Fr m m' S)(h1:lb∉S)(h2:r∉S):ZC m' lb r cut l:=⟨f.get h.box h1,h.map.frame f h2⟩
theorem ZC.mI{m m':Mem}{lb r:Nat}{cut:Dp}{l:wY}(h:ZC m lb r cut l)(f:Fr m m' []):ZC m' lb r cut l:=h.frame f (by simp) (by simp)
theorem ZC.ne{m:Mem}{lb r:Nat}{cut:Dp}{l:wY}(h:ZC m lb r cut l):lb≠r:=by
 obtain ⟨es,c,hm,_⟩:=h.map
 rintro rfl
 rw [h.box] at hm;cases hm
abbrev Hy(cut:Dp)(k:Int×Int):Prop:=k.2≤cut.g k.1.toNat
theorem qZP(m:Mem):MC Tryz.prog oq [] m λv m'=>(∃ lb r,v=lp lb∧ZC m' lb r Dp.zero []∧m lb=none∧m r=none)∧Fr m m' []:=by
 refine FC (by simp [Tryz.f33]) ?_
 have H:=Hp.refl m []
 simp (disch:=omega) only [go_sem,undef]
 refine zh H λr M _ _ H=>?_
 simp (disch:=omega) only [go_sem,undef,H.hs]
 refine zh H λlb M _ _ H=>?_
 simp (disch:=omega) only [go_sem,undef,H.hs]
 have hlb:=H.nw0.1
 have hr:=H.nw1.1
 exact ⟨⟨lb,r,rfl,⟨H.hs.1,by
  have h2:=H.hs.2.1
  exact ⟨#[],0,h2,rfl,by simp [zz,nv],by simp,by simp⟩⟩,hlb,hr⟩,H.fr⟩
def dh(cut:Dp)(k:Int×Int)(c:Cmd)(s:Int):Prop:=zj k∧¬ k.2≤cut.g k.1.toNat∧c.right∧0≤s∧s≤1099511627776
instance (cut:Dp) (k:Int×Int) (c:Cmd) (s:Int):Decidable (dh cut k c s):=by unfold dh;exact inferInstance
theorem qZt{m:Mem}{lb r:Nat}{cut:Dp}{l:wY}(h:ZC m lb r cut l)(k:Int×Int)(c:Cmd)(s:Int) :
    MC Tryz.prog Vd [lp lb,pv k,c.v,.int .i64 s] m λv m'=>(v=.bool (decide (dh cut k c s))∧ZC m' lb r cut (if dh cut k c s then upN k ⟨c,s⟩ l else l))∧Fr m m' [r]:=by
  have hne:=h.ne
  have hx:∀ s∈[r],m s≠none:=λs hs=>by simp at hs;subst hs;exact h.map.there
  refine fu (by simp [Tryz.f33]) ?_
  have H:=Hp.refl m []
  simp (disch:=omega) only [go_sem,undef]
  by_cases hri:zj k
  rotate_left
  · have hm:¬ dh cut k c s:=λh=>hri h.1
    repeat' ((first
      | refine zh H λ_ _ _ _ H=>?_
      | refine zR H (zx _ _) λ_ _ H=>?_
      | (refine qE (λhq=>?_) (λhq=>?_)<;>(try simp only [Bool.not_true,Bool.not_false] at hq))
      | refine ql (λhq=>?_) (λhq=>?_)
      | refine wr0 H λ_ _ H=>?_
      | refine wr1 H λ_ _ H=>?_
      | refine wr2 H λ_ _ H=>?_
      | refine wr3 H λ_ _ H=>?_
      | refine JG H rfl rfl λ_ _ H=>?_
      | refine XU H rfl rfl λ_ _ H=>?_)<;>simp (disch:=omega) only [go_sem,undef,H.hs, *,decide_eq_false hri])
    refine ⟨⟨by rw [decide_eq_false hm],?_⟩,H.fr.sub (by simp)⟩
    rw [if_neg hm]
    exact h.mI H.fr
  have hk0:=hri.1
  have hk1:=hri.2.1
  repeat' ((first
    | refine zh H λ_ _ _ _ H=>?_
    | refine zR H (zx _ _) λ_ _ H=>?_
    | refine zR H (xv _ _) λ_ _ H=>?_
    | (refine qE (λhq=>?_) (λhq=>?_)<;>(try simp only [Bool.not_true,Bool.not_false] at hq))
    | refine ql (λhq=>?_) (λhq=>?_)
    | refine wr0 H λ_ _ H=>?_
    | refine wr1 H λ_ _ H=>?_
    | refine wr2 H λ_ _ H=>?_
    | refine wr3 H λ_ _ H=>?_
    | refine JG H rfl rfl λ_ _ H=>?_
    | refine XU H rfl rfl λ_ _ H=>?_)<;>simp (disch:=omega) only [go_sem,undef,H.hs, *,H.fr.xJ h.box,decide_eq_true hri])
  all_goals (try simp only [decide_eq_true_eq,decide_eq_false_iff_not] at *)
  all_goals first
    | (have hm:dh cut k c s:=⟨hri,by omega,by assumption,by omega,by omega⟩
       refine oQ (k:=k) aG (h.map.frame H.fr (by simp)) λN hN f _=>?_
       simp (disch:=omega) only [go_sem]
       rw [show Value.agg _=(qC.mk c s).v from rfl,qza] at hN
       refine ⟨⟨by rw [decide_eq_true hm],?_⟩,(H.fr.sub (by simp)).cZ f⟩
       rw [if_pos hm]
       exact ⟨f.get (H.fr.xJ h.box) (by simpa using hne),hN⟩)
    | (have hm:¬ dh cut k c s:=by
         intro hmm
         obtain ⟨_,h2,h3,h4,h5⟩:=hmm
         first | omega | contradiction
       refine ⟨⟨by rw [decide_eq_false hm],?_⟩,H.fr.sub (by simp)⟩
       rw [if_neg hm]
       exact h.mI H.fr)
theorem qvA{m:Mem}{lb r:Nat}{cut:Dp}{l:wY}(h:ZC m lb r cut l)(hr:∀ k∈zB l,zj k)(upto:Dp) :
  MC Tryz.prog Kj [lp lb,upto.v] m λv m'=>(v=.tuple #[]∧ZC m' lb r (vF cut upto) (l.filter λp=>¬ Hy (vF cut upto) p.1))∧Fr m m' [lb,r]:=by
 have hne:=h.ne
 have hx:∀ s∈[lb,r],m s≠none:=λs hs=>by
  simp at hs;rcases hs with rfl | rfl
  ·rw [h.box];exact Option.some_ne_none _
  ·exact h.map.there
 refine dH (by simp [Tryz.f33]) ?_
 have H:=Hp.refl m [lb,r] hx
 simp (disch:=omega) only [go_sem,undef]
 refine zh H λb M hb f H=>?_
 have hL:=h.mI f
 simp (disch:=omega) only [go_sem,undef,H.hs]
 refine qe (λn E m'=>∃ (k:Nat) (c:Dp),k≤7∧n=7 - k∧E=[(0,lp lb),(7,upto.v),(8,.int .i64 k)]∧(∀ j,j < k→c.g j=(vF cut upto).g j)∧(∀ j,k≤j→c.g j=cut.g j)∧ZC m' lb r c l∧Fr m m' [lb,r]) 7 rfl ⟨0,cut,by omega,rfl,rfl,by simp,by simp,hL,H.fr⟩ ?_
 clear H hL f hb
 rintro n E m' ⟨k,c,hk,rfl,rfl,h1,h2,hL,f⟩
 simp (disch:=omega) only [go_sem,undef]
 refine bT (λh=>?_) (λh=>?_)
 ·have hk7:k < 7:=by omega
  have H:=Hp.refl m' [lb] (by simp [hL.box])
  simp (disch:=omega) only [go_sem,undef,hL.box]
  refine wrS H (by simp) λM hM f' H=>?_
  simp (disch:=omega) only [go_sem,undef]
  refine qK (7 - (k+1)) (by omega) ⟨k+1,_,by omega,rfl,rfl,λj hj=>?_,λj hj=>?_,⟨hM,hL.map.frame f' (by simpa using hne.symm)⟩,f.trans f' (by simp)⟩
  ·rw [Dp.dg]
   by_cases e:j=k
   ·subst e;simp [hk7,Tq,h2 j (Nat.le_refl _)]
   ·rw [if_neg (λh=>e h.1)];exact h1 j (by omega)
  ·rw [Dp.dg,if_neg (by omega)];exact h2 j (by omega)
 ·have hc:c=vF cut upto:=Dp.fT λj hj=>h1 j (by omega)
  subst hc
  clear h1 h2
  simp (disch:=omega) only [go_sem,undef,hL.box]
  refine AP hL.map λit N hit hI f1=>?_
  have hbox:=f1.xJ hL.box
  have f2:=f.VY f1
  have hitm:m it=none:=by
   cases hm:m it with
   | none=>rfl
   | some o=>exact absurd hit (f.some (by rw [hm];exact Option.some_ne_none _) (by
     intro hs;simp at hs
     rcases hs with rfl | rfl
     ·rw [hL.box] at hit;cases hit
     ·exact hL.map.there hit))
  have hitl:it≠lb:=by rintro rfl;rw [hL.box] at hit;cases hit
  have hitr:it≠r:=by rintro rfl;exact hL.map.there hit
  clear f f1 hL hit
  simp (disch:=omega) only [go_sem,undef]
  generalize hcut:vF cut upto=ct at *
  refine qe (λn E m'=>∃ (l':wY) (done D:List (Int×Int)),n=l'.length - done.length∧E=[(0,lp lb),(32,.pointer (some ⟨it,0,none⟩))]∧xo pv m' it r (nv l') done∧m' lb=some (.cells (Value.map (some r)::dv ct).toArray wW (0,0)) ∧
   l'=l.filter (λp=>p.1∉D)∧(∀ x∈D,Hy ct x)∧(∀ x∈done,¬ Hy ct x)∧Fr m m' [lb,r]) l.length rfl ⟨l,[],[],by simp,rfl,hI,hbox,(List.filter_eq_self.2 (by simp)).symm,by simp,by simp,f2⟩ ?_
  clear hI hbox f2
  rintro n E m' ⟨l',done,D,rfl,rfl,hI,hbox,hl',hD,hdone,f⟩
  have hle:done.length≤l'.length:=by
   obtain ⟨es,c,seen,_,hh,_,hd,hsub,_⟩:=hI
   rw [XM] at hsub
   have:=hd.length_le_of_subset hsub
   simpa [zB] using this
  simp (disch:=omega) only [go_sem,undef]
  refine Bj aG hI (λhperm=>?_) (λk w N hkw hk hI2 hent f1 hnone=>?_)
  ·simp (disch:=omega) only [go_sem,undef]
   refine ⟨⟨rfl,hbox,?_⟩,f⟩
   rw [XM] at hperm
   have:l.filter (λp=>¬ Hy ct p.1)=l':=by
    rw [hl']
    refine List.filter_congr λp hp=>?_
    by_cases hx:p.1∈D
    ·rw [decide_eq_false (λhn=>hn (hD _ hx)),decide_eq_false (λhn=>hn hx)]
    ·have hin:p.1∈zB l':=by rw [hl'];exact List.mem_map.2 ⟨p,List.mem_filter.2 ⟨hp,by simpa using hx⟩,rfl⟩
     have:=hdone _ (hperm.mem_iff.1 hin)
     rw [decide_eq_true this,decide_eq_true hx]
   rw [this]
   exact hI.map
  ·have hI2l:(done++[k]).length≤l'.length:=by
    obtain ⟨es,c,seen,_,hh,_,hd,hsub,_⟩:=hI2
    rw [XM] at hsub
    have:=hd.length_le_of_subset hsub
    simpa [zB] using this
   simp only [List.length_append,List.length_cons,List.length_nil] at hI2l
   have hboxN:=f1.get hbox (by simpa using hitl.symm)
   have H:=Hp.refl N []
   simp (disch:=omega) only [go_sem,undef,hent]
   refine zh H λb M hb f2 H=>?_
   simp (disch:=omega) only [go_sem,undef,H.hs]
   refine JG H rfl rfl λM f3 H=>?_
   simp (disch:=omega) only [go_sem,undef,H.hs]
   have hI3:=hI2.frame H.fr (by simp) (by simp)
   have hkr:zj k:=by
    refine hr k ?_
    have hk2:k∈zB l':=by rw [← XM];exact List.mem_map.2 ⟨_,hkw,rfl⟩
    rw [hl'] at hk2
    obtain ⟨p,hp,e⟩:=List.mem_map.1 hk2
    exact List.mem_map.2 ⟨p,(List.mem_filter.1 hp).1,e⟩
   have hk0:=hkr.1
   have hk1:=hkr.2.1
   have hI4:=hI2.frame H.fr (by simp) (by simp)
   have fall:=f1.VY H.fr
   by_cases hg:Hy ct k
   ·simp (disch:=omega) only [go_sem,undef,H.hs,H.fr.xJ hboxN,qZ hg]
    refine NR (k:=k) aG hI4 λM2 hI5 f5 _=>?_
    rw [qJa] at hI5
    have hdn:(done++[k]).filter (·≠k)=done:=by
     rw [List.filter_append]
     simp only [ne_eq,decide_not,List.filter_cons,decide_true,Bool.not_true,Bool.false_eq_true,if_false,List.filter_nil,List.append_nil]
     refine List.filter_eq_self.2 λx hx=>?_
     simp only [Bool.not_eq_true',decide_eq_false_iff_not]
     rintro rfl;exact hk hx
    rw [hdn] at hI5
    have hlen:(l'.filter λp=>p.1≠k).length < l'.length:=by
     obtain ⟨p,hp,e⟩:=List.mem_map.1 hkw
     exact List.length_filter_lt_length_iff_exists.2 ⟨p,hp,by simp only [Prod.mk.injEq] at e;simp [e.1]⟩
    have hle2:done.length≤(l'.filter λp=>p.1≠k).length:=by
     obtain ⟨es,c,seen,_,hh,_,hd,hsub,_⟩:=hI5
     rw [XM] at hsub
     have:=hd.length_le_of_subset hsub
     simpa [zB] using this
    simp (disch:=omega) only [go_sem,undef]
    refine qK ((l'.filter λp=>p.1≠k).length - done.length) (by omega) ⟨_,done,k::D,rfl,rfl,hI5,f5.get (H.fr.xJ hboxN) (by simpa using hne),?_,?_,hdone,?_⟩
    ·rw [hl',List.filter_filter]
     refine List.filter_congr λp _=>?_
     simp
    ·intro x hx
     rcases List.mem_cons.1 hx with rfl | hx
     ·exact hg
     ·exact hD x hx
    ·exact (f.trans ((fall.sub (T:=[it,r]) (by simp)).trans f5 (by simp)) (λx hx hx0=>by
      simp at hx;rcases hx with rfl | rfl
      ·exact absurd hitm hx0
      ·simp))
   ·simp (disch:=omega) only [go_sem,undef,H.hs,H.fr.xJ hboxN,qX hg]
    refine qK (l'.length - (done.length+1)) (by omega) ⟨l',done++[k],D,by simp,rfl,hI4,H.fr.xJ hboxN,hl',hD,?_,?_⟩
    ·intro x hx
     rcases List.mem_append.1 hx with hx | hx
     ·exact hdone x hx
     ·simp only [List.mem_singleton] at hx;subst hx;exact hg
    ·exact f.trans fall (λx hx hx0=>by simp at hx;subst hx;exact absurd hitm hx0)
end Go.Fw
namespace Go.Fw
open Go.Proofs
def cT(i:Int×Int)(c:Cmd)(a:Att)(k:Int×Int)(n:qC):Att :=
 if (k.1=i.1∧i.2≤k.2)∨¬ Qj n.cmd c then a else ⟨max a.seq (n.seq+1),Dp.up a.deps k.1.toNat (max (a.deps.g k.1.toNat) k.2)⟩
def aN(l:wY)(i:Int×Int)(c:Cmd)(a:Att)(k:Int×Int):Att:=cT i c a k ((lkN k l).getD qC.zero)
def rW(l:wY)(i:Int×Int)(c:Cmd):Att:=(zB l).foldl (aN l i c) Att.zero
def uc(cut:Dp)(i:Int×Int)(d:Dp):Dp:=λr=>if (r.val:Int)≠i.1 then max (d r) (cut r) else if zj i then max (d r) (i.2 - 1) else d r
def zp(cut:Dp)(l:wY)(i:Int×Int)(c:Cmd):Att:=⟨(rW l i c).seq,uc cut i (rW l i c).deps⟩
structure Qe(l:wY):Prop where
 ok:∀ p∈l,zj p.1∧p.2.cmd.right∧0≤p.2.seq∧p.2.seq≤1099511627776
theorem LS(cut:Dp)(i:Int×Int)(d:Dp)(r:Nat)(h:r < 7):(uc cut i d).g r=if (r:Int)≠i.1 then max (d.g r) (cut.g r) else if zj i then max (d.g r) (i.2 - 1) else d.g r:=by simp [Dp.g,h,uc]
theorem PC(i:Int×Int)(c:Cmd)(a:Att)(k k':Int×Int)(n n':qC)(hk:0≤k.1∧k.1 < 7)(hk':0≤k'.1∧k'.1 < 7):cT i c (cT i c a k n) k' n'=cT i c (cT i c a k' n') k n:=by
 unfold cT
 by_cases h1:(k.1=i.1∧i.2≤k.2)∨¬ Qj n.cmd c<;>by_cases h2:(k'.1=i.1∧i.2≤k'.2)∨¬ Qj n'.cmd c
 ·simp only [if_pos h1,if_pos h2]
 ·simp only [if_pos h1,if_neg h2]
 ·simp only [if_neg h1,if_pos h2]
 ·simp only [if_neg h1,if_neg h2]
  congr 1
  ·omega
  ·refine Dp.fT λj hj=>?_
   simp only [Dp.dg]
   by_cases e1:j=k.1.toNat<;>by_cases e2:j=k'.1.toNat<;>simp [e1,e2,hj]<;>(try split)<;>(try simp_all)<;>(try omega)
theorem gg{c:Cmd}(h:c.right):c.key.size≤1000:=by
 rcases h with rfl | ⟨_,_,_,_,_,_,_,h,_⟩
 ·decide
 ·omega
theorem qZs{l:wY}(hnd:(zB l).Nodup)(ho:Qe l){k:Int×Int}{w:Value}(h:(k,w)∈nv l):∃ n:qC,w=n.v∧lkN k l=some n∧zj k∧n.cmd.right∧0≤n.seq∧n.seq≤1099511627776:=by
 obtain ⟨p,hp,e⟩:=List.mem_map.1 h
 simp only [Prod.mk.injEq] at e
 obtain ⟨e1,e2⟩:=e
 subst e1 e2
 exact ⟨p.2,rfl,qjT hnd hp,ho.ok p hp⟩
theorem RP{l:wY}(ho:Qe l)(i:Int×Int)(c:Cmd){done:List (Int×Int)}(h:(zB l).Perm done):done.foldl (aN l i c) Att.zero=rW l i c:=by
 have hr:∀ x∈zB l,0≤x.1∧x.1 < 7:=λx hx=>by
  obtain ⟨p,hp,e⟩:=List.mem_map.1 hx
  have:=(ho.ok p hp).1
  rw [← e];exact ⟨this.1,this.2.1⟩
 exact (h.foldl_eq' (λx hx y hy z=>PC i c z x y _ _ (hr x hx) (hr y hy)) Att.zero).symm
theorem tr{m:Mem}{lb r:Nat}{cut:Dp}{l:wY}(h:ZC m lb r cut l)(ho:Qe l)(i:Int×Int)(c:Cmd)(hc:c.key.size≤1000) :
  MC Tryz.prog gS [lp lb,pv i,c.v] m λv m'=>v=(zp cut l i c).v∧Fr m m' []:=by
 have hnd:=h.nd
 refine fR (by simp [Tryz.f33]) ?_
 have H:=Hp.refl m []
 simp (disch:=omega) only [go_sem,undef]
 refine zh H λb4 M _ _ H=>?_
 simp (disch:=omega) only [go_sem,undef,H.hs]
 refine zh H λb5 M _ _ H=>?_
 simp (disch:=omega) only [go_sem,undef,H.hs]
 refine zh H λb6 M _ _ H=>?_
 simp (disch:=omega) only [go_sem,undef,H.hs]
 refine zh H λb7 M _ _ H=>?_
 simp (disch:=omega) only [go_sem,undef,H.hs,H.fr.xJ h.box]
 refine qyE H (h.map.frame H.fr (by simp)) λit N hit hI f1 H hit0 hitS hitr=>?_
 simp (disch:=omega) only [go_sem,undef]
 refine qe (λn E m'=>∃ (done:List (Int×Int)),n=l.length - done.length∧E=[(0,lp lb),(4,.pointer (some ⟨b4,0,none⟩)),(5,.pointer (some ⟨b5,0,none⟩)),(6,.pointer (some ⟨b6,0,none⟩)),(7,.pointer (some ⟨b7,0,none⟩)),(15,.pointer (some ⟨it,0,none⟩))]∧xo pv m' it r (nv l) done ∧
  Hp m m' [it] [(b7,.cells (done.foldl (aN l i c) Att.zero).cs.toArray qb),(b6,.cells Att.zero.cs.toArray qb),(b5,.cells c.cs.toArray qA),(b4,.cells (pc i).toArray qW)]) l.length rfl ⟨[],rfl,rfl,hI,H⟩ ?_
 clear H hI f1 hit
 rintro n E m' ⟨done,rfl,rfl,hI,H⟩
 simp (disch:=omega) only [go_sem,undef]
 refine qyI aG hI H (by simp) (λhperm=>?_) (λk w N hkw hk hle hI2 hent f2 H=>?_)
 ·rw [XM] at hperm
  rw [RP ho i c hperm] at H
  have hb:m' lb=some (.cells (Value.map (some r)::dv cut).toArray wW (0,0)):=H.fr.get h.box (by
   simp only [List.mem_singleton]
   rintro rfl
   rw [h.box] at hit0;cases hit0)
  have haf:zp cut l i c=⟨(rW l i c).seq,uc cut i (rW l i c).deps⟩:=rfl
  generalize zp cut l i c=af at *
  generalize rW l i c=a0 at *
  clear hI hperm
  simp (disch:=omega) only [go_sem,undef]
  refine qe (λn E m''=>∃ (k:Nat) (d:Dp),k≤7∧n=7 - k∧E=[(0,lp lb),(4,.pointer (some ⟨b4,0,none⟩)),(6,.pointer (some ⟨b6,0,none⟩)),(7,.pointer (some ⟨b7,0,none⟩)),(59,.int .i64 (k:Nat))]∧(∀ j,j < k→d.g j=(uc cut i a0.deps).g j)∧(∀ j,k≤j→d.g j=a0.deps.g j) ∧
   Hp m m'' [it] [(b7,.cells (Att.mk a0.seq d).cs.toArray qb),(b6,.cells Att.zero.cs.toArray qb),(b5,.cells c.cs.toArray qA),(b4,.cells (pc i).toArray qW)]) 7 rfl ⟨0,a0.deps,by omega,rfl,rfl,by simp,by simp,H⟩ ?_
  clear H hb
  rintro n E m1 ⟨k,d,hk,rfl,rfl,h1,h2,H⟩
  have hb:m1 lb=some (.cells (Value.map (some r)::dv cut).toArray wW (0,0)):=H.fr.get h.box (by
   simp only [List.mem_singleton]
   rintro rfl
   rw [h.box] at hit0;cases hit0)
  by_cases hk7:k < 7
  ·have hdg:=h2 k (Nat.le_refl _)
   have hag:=LS cut i a0.deps k hk7
   by_cases hki:((k:Nat):Int)≠i.1
   ·rw [if_pos hki] at hag
    simp (disch:=omega) only [go_sem,undef,qZ (show ((k:Nat):Int) < 7 by omega),H.hs,hb,qZ hki]
    refine wr0 H λM f H=>?_
    simp (disch:=omega) only [go_sem,undef]
    refine qK (7 - (k+1)) (by omega) ⟨k+1,_,by omega,rfl,rfl,λj hj=>?_,λj hj=>?_,H⟩
    ·rw [Dp.dg]
     by_cases e:j=k
     ·subst e;rw [if_pos ⟨rfl,hk7⟩,hag,hdg]
     ·rw [if_neg (λh=>e h.1)];exact h1 j (by omega)
    ·rw [Dp.dg,if_neg (by omega)];exact h2 j (by omega)
   ·rw [if_neg hki] at hag
    by_cases hri:zj i
    ·rw [if_pos hri] at hag
     have hi1:=hri.2.2.1
     have hi2:=hri.2.2.2
     simp (disch:=omega) only [go_sem,undef,qZ (show ((k:Nat):Int) < 7 by omega),H.hs,hb,qX hki]
     refine zR H (zx i _) λM f H=>?_
     simp (disch:=omega) only [go_sem,undef,qZ hri,H.hs]
     refine wr0 H λM f H=>?_
     simp (disch:=omega) only [go_sem,undef]
     refine qK (7 - (k+1)) (by omega) ⟨k+1,_,by omega,rfl,rfl,λj hj=>?_,λj hj=>?_,H⟩
     ·rw [Dp.dg]
      by_cases e:j=k
      ·subst e;rw [if_pos ⟨rfl,hk7⟩,hag,hdg]
      ·rw [if_neg (λh=>e h.1)];exact h1 j (by omega)
     ·rw [Dp.dg,if_neg (by omega)];exact h2 j (by omega)
    ·rw [if_neg hri] at hag
     simp (disch:=omega) only [go_sem,undef,qZ (show ((k:Nat):Int) < 7 by omega),H.hs,hb,qX hki]
     refine zR H (zx i _) λM f H=>?_
     simp (disch:=omega) only [go_sem,undef,qX hri,H.hs]
     refine qK (7 - (k+1)) (by omega) ⟨k+1,d,by omega,rfl,rfl,λj hj=>?_,λj hj=>h2 j (by omega),H⟩
     by_cases e:j=k
     ·subst e;rw [hag,hdg]
     ·exact h1 j (by omega)
  ·have e:d=uc cut i a0.deps:=Dp.fT λj hj=>h1 j (by omega)
   subst e
   simp (disch:=omega) only [go_sem,undef,qX (show ¬ ((k:Nat):Int) < 7 by omega),H.hs]
   refine XU H rfl rfl λM _ H=>?_
   simp (disch:=omega) only [go_sem,undef,H.hs]
   exact ⟨by rw [haf],H.fr.less (by simp [hit0])⟩
 ·refine Exists.elim (qZs hnd ho hkw) λn hn=>?_
  have ew:=hn.1
  have hlk:=hn.2.1
  have hkr:=hn.2.2.1
  have hnc:=gg hn.2.2.2.1
  have hn1:=hn.2.2.2.2.1
  have hn2:=hn.2.2.2.2.2
  subst ew
  have hk0:=hkr.1
  have hk1:=hkr.2.1
  have hfold:(done++[k]).foldl (aN l i c) Att.zero=cT i c (done.foldl (aN l i c) Att.zero) k n:=by
   rw [List.foldl_append];simp [aN,hlk]
  simp only [List.length_append,List.length_cons,List.length_nil,nv,List.length_map] at hle
  have hr7:b7≠r:=λe=>h.map.there (by rw [← e];exact H.nw0.1)
  have hit7:b7≠it:=λe=>H.nw0.2 (by simp [e])
  generalize done.foldl (aN l i c) Att.zero=acc at *
  simp (disch:=omega) only [go_sem,undef,hent]
  refine zh H λb8 M1 hb8 f3 H=>?_
  simp (disch:=omega) only [go_sem,undef,H.hs]
  refine zh H λb9 M2 hb9 f4 H=>?_
  simp (disch:=omega) only [go_sem,undef,H.hs]
  refine XU H rfl rfl λM3 f5 H=>?_
  simp (disch:=omega) only [go_sem,undef,H.hs]
  refine JG H rfl rfl λM4 f6 H=>?_
  have hb9N:N b9=none:=Classical.byContradiction λhx=>f3.some hx (by simp) hb9
  have g:Fr N M4 []:=((((f3.VY f4).sub (T:=[b8,b9]) (by simp)).trans f5 (by simp)).trans f6 (by simp)).less (by simp [hb8,hb9N])
  by_cases hA:k.1=i.1∧i.2≤k.2
  ·have hst:cT i c acc k n=acc:=if_pos (.inl hA)
   simp (disch:=omega) only [go_sem,undef,H.hs,qZ hA.1,qZ (show k.2≥i.2 from hA.2)]
   exact qK (l.length - (done.length+1)) (by omega) ⟨done++[k],by simp,rfl,hI2.frame g (by simp) (by simp),by rw [hfold,hst];exact H.fU.fU⟩
  ·by_cases hC:Qj n.cmd c
   ·have hst:cT i c acc k n=⟨max acc.seq (n.seq+1),Dp.up acc.deps k.1.toNat (max (acc.deps.g k.1.toNat) k.2)⟩:=if_neg (λh=>h.elim hA λh=>h hC)
    by_cases hA1:k.1=i.1
    ·simp (disch:=omega) only [go_sem,undef,H.hs,qZ hA1,qX (show ¬ k.2≥i.2 from λh=>hA ⟨hA1,h⟩)]
     refine zR H (rJ n.cmd c hnc hc _) λM5 f7 H=>?_
     simp (disch:=omega) only [go_sem,undef,qZ hC,H.hs]
     refine wr2 H λM6 f8 H=>?_
     simp (disch:=omega) only [go_sem,undef,H.hs]
     refine wr2 H λM7 f9 H=>?_
     simp (disch:=omega) only [go_sem,undef]
     exact qK (l.length - (done.length+1)) (by omega) ⟨done++[k],by simp,rfl,hI2.frame ((((g.VY f7).sub (T:=[b7]) (by simp)).cZ f8).cZ f9) (by simpa using hit7.symm) (by simpa using hr7.symm),by rw [hfold,hst];exact H.fU.fU⟩
    ·simp (disch:=omega) only [go_sem,undef,H.hs,qX hA1]
     refine zR H (rJ n.cmd c hnc hc _) λM5 f7 H=>?_
     simp (disch:=omega) only [go_sem,undef,qZ hC,H.hs]
     refine wr2 H λM6 f8 H=>?_
     simp (disch:=omega) only [go_sem,undef,H.hs]
     refine wr2 H λM7 f9 H=>?_
     simp (disch:=omega) only [go_sem,undef]
     exact qK (l.length - (done.length+1)) (by omega) ⟨done++[k],by simp,rfl,hI2.frame ((((g.VY f7).sub (T:=[b7]) (by simp)).cZ f8).cZ f9) (by simpa using hit7.symm) (by simpa using hr7.symm),by rw [hfold,hst];exact H.fU.fU⟩
   ·have hst:cT i c acc k n=acc:=if_pos (.inr hC)
    by_cases hA1:k.1=i.1
    ·simp (disch:=omega) only [go_sem,undef,H.hs,qZ hA1,qX (show ¬ k.2≥i.2 from λh=>hA ⟨hA1,h⟩)]
     refine zR H (rJ n.cmd c hnc hc _) λM5 f7 H=>?_
     simp (disch:=omega) only [go_sem,undef,qX hC,H.hs]
     exact qK (l.length - (done.length+1)) (by omega) ⟨done++[k],by simp,rfl,hI2.frame (g.VY f7) (by simp) (by simp),by rw [hfold,hst];exact H.fU.fU⟩
    ·simp (disch:=omega) only [go_sem,undef,H.hs,qX hA1]
     refine zR H (rJ n.cmd c hnc hc _) λM5 f7 H=>?_
     simp (disch:=omega) only [go_sem,undef,qX hC,H.hs]
     exact qK (l.length - (done.length+1)) (by omega) ⟨done++[k],by simp,rfl,hI2.frame (g.VY f7) (by simp) (by simp),by rw [hfold,hst];exact H.fU.fU⟩
end Go.Fw
