import Derived.Test.YtimedjfpihdffaaGreatCoX
import Derived.Test.YtimedjfpihdffaaGreatCdC
import Derived.Test.YtimedjfpihdffaaGreatBa
set_option linter.unusedVariables false
set_option linter.unusedSimpArgs false
set_option maxHeartbeats 16000000
namespace Go.Fw
open Go.Proofs
variable {m m0 M:Mem} {S:List Nat} {L:List As}
theorem Sd.LP (a:Sd):(a.cs.drop 4).take 2=pc a.cel.vo:=rfl
theorem Sd.Qi (a:Sd):(a.cs.drop 6).take 7=a.cel.cmd.cs:=rfl
theorem Sd.Yk (a:Sd):(a.cs.drop 13).take 8=a.cel.att.cs:=rfl
theorem Sd.g21 (a:Sd):a.cs[21]?=some (.bool a.cel.same):=rfl
attribute [go_sem] Sd.LP Sd.Qi Sd.Yk Sd.g21
theorem qwj (n:Int) (m:Mem):MC Tryz.prog HK [.int .i64 n] m fun v m'=>v=.bool (decide (n=3∨n=5∨n=7))∧Fr m m' []:=by
 refine DS (by simp [Tryz.f33]) ?_
 have H:=Hq.refl m []
 simp (disch:=omega) only [go_sem,undef]
 repeat' (first
  | ((first
   | (with_reducible first
    | refine qh H fun _ _ f H2=>?_
    | refine zG H fun _ f H2=>?_
    | refine Jv H fun _ f H2=>?_
    | refine yZ H fun _ f H2=>?_
    | refine Xb H fun _ f H2=>?_
    | refine Xa H fun _ f H2=>?_
    | refine XY H fun _ f H2=>?_)
   | ((with_reducible refine qs H ?hl ?h1 fun _ f H2=>?_);(case hl=>rfl);(case h1=>rfl))
   | ((with_reducible refine zQ H ?hl ?h1 fun _ f H2=>?_);(case hl=>rfl);(case h1=>rfl))
   | ((with_reducible refine jU H ?hl ?h1 fun _ f H2=>?_);(case hl=>rfl);(case h1=>rfl))
   | ((with_reducible refine xm H ?hl ?h1 fun _ f H2=>?_);(case hl=>rfl);(case h1=>rfl))
   | ((with_reducible refine xi H ?hl ?h1 fun _ f H2=>?_);(case hl=>rfl);(case h1=>rfl))
   | ((with_reducible refine xh H ?hl ?h1 fun _ f H2=>?_);(case hl=>rfl);(case h1=>rfl))
   | ((with_reducible refine JQ H ?hl ?h1 fun _ f H2=>?_);(case hl=>exact Nat.le_of_ble_eq_true rfl);(case h1=>rfl);(simp only [go_sem] at H2))
   | ((with_reducible refine Jy H ?hl ?h1 fun _ f H2=>?_);(case hl=>exact Nat.le_of_ble_eq_true rfl);(case h1=>rfl);(simp only [go_sem] at H2))
   | ((with_reducible refine Xd H ?hl ?h1 fun _ f H2=>?_);(case hl=>exact Nat.le_of_ble_eq_true rfl);(case h1=>rfl);(simp only [go_sem] at H2))
   | ((with_reducible refine Xc H ?hl ?h1 fun _ f H2=>?_);(case hl=>exact Nat.le_of_ble_eq_true rfl);(case h1=>rfl);(simp only [go_sem] at H2)));clear f;clear H;have H:=H2;clear H2;simp (disch:=omega) only [go_sem,undef,H.cs, *])
  | ((with_reducible refine qp (fun hq=>?_) (fun hq=>?_))<;>(try simp only [Bool.not_true,Bool.not_false] at hq)<;>simp (disch:=omega) only [go_sem,undef,H.cs, *])
  | ((with_reducible refine qe (fun hq=>?_) (fun hq=>?_))<;>simp (disch:=omega) only [go_sem,undef,H.cs, *]))
 all_goals (try simp only [decide_eq_true_eq,decide_eq_false_iff_not] at *)
 all_goals exact ⟨by first | rfl | (simp only [Value.bool.injEq,decide_eq_true_eq,eq_comm (a:=true),eq_comm (a:=false),decide_eq_false_iff_not,decide_eq_decide];grind []),H.fr⟩
theorem Mq (n:Nat) (hn:n≤1000) (m:Mem):MC Tryz.prog HJ [.int .i64 (n:Nat)] m fun v m'=>v=.int .i64 ((n / 2+1:Nat):Int)∧Fr m m' []:=by
 refine DE (by simp [Tryz.f33]) ?_
 have H:=Hq.refl m []
 have e:Int.tdiv ((n:Nat):Int) 2=((n / 2:Nat):Int):=rfl
 simp (disch:=omega) only [go_sem,undef,e]
 exact ⟨by congr 1,H.fr⟩
theorem qKy (n:Nat) (hn:n≤1000) (m:Mem):MC Tryz.prog HV [.int .i64 (n:Nat)] m fun v m'=>v=.int .i64 (n - 1)∧Fr m m' []:=by
 refine Ez (by simp [Tryz.f33]) ?_
 have H:=Hq.refl m []
 simp (disch:=omega) only [go_sem,undef]
 exact ⟨rfl,H.fr⟩
def Ah (p:Int×Int):Att:=if qN p then ⟨0,Dp.up Dp.zero p.1.toNat (p.2 - 1)⟩ else Att.zero
theorem qXD (p:Int×Int) (m:Mem):MC Tryz.prog HX [pv p] m fun v m'=>v=(Ah p).v∧Fr m m' []:=by
 by_cases hr:qN p
 ·refine dH (by simp [Tryz.f33]) ?_
  have H:=Hq.refl m []
  have h1:=hr.1
  have h2:=hr.2.1
  have h3:=hr.2.2.1
  have h4:=hr.2.2.2
  simp (disch:=omega) only [go_sem,undef]
  repeat' (first
   | ((first
    | (with_reducible first
     | refine qh H fun _ _ f H2=>?_
     | refine zG H fun _ f H2=>?_
     | refine Jv H fun _ f H2=>?_
     | refine yZ H fun _ f H2=>?_
     | refine Xb H fun _ f H2=>?_
     | refine Xa H fun _ f H2=>?_
     | refine XY H fun _ f H2=>?_
     | refine qY H (zX _ _) fun _ f H2=>?_)
    | ((with_reducible refine qs H ?hl ?h1 fun _ f H2=>?_);(case hl=>rfl);(case h1=>rfl))
    | ((with_reducible refine zQ H ?hl ?h1 fun _ f H2=>?_);(case hl=>rfl);(case h1=>rfl))
    | ((with_reducible refine jU H ?hl ?h1 fun _ f H2=>?_);(case hl=>rfl);(case h1=>rfl))
    | ((with_reducible refine xm H ?hl ?h1 fun _ f H2=>?_);(case hl=>rfl);(case h1=>rfl))
    | ((with_reducible refine xi H ?hl ?h1 fun _ f H2=>?_);(case hl=>rfl);(case h1=>rfl))
    | ((with_reducible refine xh H ?hl ?h1 fun _ f H2=>?_);(case hl=>rfl);(case h1=>rfl))
    | ((with_reducible refine JQ H ?hl ?h1 fun _ f H2=>?_);(case hl=>exact Nat.le_of_ble_eq_true rfl);(case h1=>rfl);(simp only [go_sem] at H2))
    | ((with_reducible refine Jy H ?hl ?h1 fun _ f H2=>?_);(case hl=>exact Nat.le_of_ble_eq_true rfl);(case h1=>rfl);(simp only [go_sem] at H2))
    | ((with_reducible refine Xd H ?hl ?h1 fun _ f H2=>?_);(case hl=>exact Nat.le_of_ble_eq_true rfl);(case h1=>rfl);(simp only [go_sem] at H2))
    | ((with_reducible refine Xc H ?hl ?h1 fun _ f H2=>?_);(case hl=>exact Nat.le_of_ble_eq_true rfl);(case h1=>rfl);(simp only [go_sem] at H2)));clear f;clear H;have H:=H2;clear H2;simp (disch:=omega) only [go_sem,undef,H.cs, *,decide_eq_true hr])
   | ((with_reducible refine qp (fun hq=>?_) (fun hq=>?_))<;>(try simp only [Bool.not_true,Bool.not_false] at hq)<;>simp (disch:=omega) only [go_sem,undef,H.cs, *,decide_eq_true hr])
   | ((with_reducible refine qe (fun hq=>?_) (fun hq=>?_))<;>simp (disch:=omega) only [go_sem,undef,H.cs, *,decide_eq_true hr]))
  exact ⟨by rw [Ah,if_pos hr],H.fr⟩
 ·refine dH (by simp [Tryz.f33]) ?_
  have H:=Hq.refl m []
  simp (disch:=omega) only [go_sem,undef]
  repeat' (first
   | ((first
    | (with_reducible first
     | refine qh H fun _ _ f H2=>?_
     | refine zG H fun _ f H2=>?_
     | refine Jv H fun _ f H2=>?_
     | refine yZ H fun _ f H2=>?_
     | refine Xb H fun _ f H2=>?_
     | refine Xa H fun _ f H2=>?_
     | refine XY H fun _ f H2=>?_
     | refine qY H (zX _ _) fun _ f H2=>?_)
    | ((with_reducible refine qs H ?hl ?h1 fun _ f H2=>?_);(case hl=>rfl);(case h1=>rfl))
    | ((with_reducible refine zQ H ?hl ?h1 fun _ f H2=>?_);(case hl=>rfl);(case h1=>rfl))
    | ((with_reducible refine jU H ?hl ?h1 fun _ f H2=>?_);(case hl=>rfl);(case h1=>rfl))
    | ((with_reducible refine xm H ?hl ?h1 fun _ f H2=>?_);(case hl=>rfl);(case h1=>rfl))
    | ((with_reducible refine xi H ?hl ?h1 fun _ f H2=>?_);(case hl=>rfl);(case h1=>rfl))
    | ((with_reducible refine xh H ?hl ?h1 fun _ f H2=>?_);(case hl=>rfl);(case h1=>rfl))
    | ((with_reducible refine JQ H ?hl ?h1 fun _ f H2=>?_);(case hl=>exact Nat.le_of_ble_eq_true rfl);(case h1=>rfl);(simp only [go_sem] at H2))
    | ((with_reducible refine Jy H ?hl ?h1 fun _ f H2=>?_);(case hl=>exact Nat.le_of_ble_eq_true rfl);(case h1=>rfl);(simp only [go_sem] at H2))
    | ((with_reducible refine Xd H ?hl ?h1 fun _ f H2=>?_);(case hl=>exact Nat.le_of_ble_eq_true rfl);(case h1=>rfl);(simp only [go_sem] at H2))
    | ((with_reducible refine Xc H ?hl ?h1 fun _ f H2=>?_);(case hl=>exact Nat.le_of_ble_eq_true rfl);(case h1=>rfl);(simp only [go_sem] at H2)));clear f;clear H;have H:=H2;clear H2;simp (disch:=omega) only [go_sem,undef,H.cs, *,decide_eq_false hr])
   | ((with_reducible refine qp (fun hq=>?_) (fun hq=>?_))<;>(try simp only [Bool.not_true,Bool.not_false] at hq)<;>simp (disch:=omega) only [go_sem,undef,H.cs, *,decide_eq_false hr])
   | ((with_reducible refine qe (fun hq=>?_) (fun hq=>?_))<;>simp (disch:=omega) only [go_sem,undef,H.cs, *,decide_eq_false hr]))
  exact ⟨by rw [Ah,if_neg hr],H.fr⟩
def lh (own:Att) (l:List Att):Nat:=l.countP fun a=>decide (a=own)
theorem TH (own:Att) (l:List Att) (j:Nat) (y:Att) (h:l[j]?=some y):lh own (l.take (j+1))=lh own (l.take j)+if y=own then 1 else 0:=by
 unfold lh
 rw [List.take_add_one,h,Option.toList_some,List.countP_append]
 simp [List.countP_cons]
theorem Pz (own:Att) (l:List Att):lh own l≤l.length:=List.countP_le_length
def Bk (n:Nat) (first:Bool) (own:Att) (l:List Att) (late:Bool):Int×Att :=
 if first=true∧n≤lh own l+2 then (1,own) else if l.length < n / 2∨(first=true∧late=false∧l.length < lh own l+2) then (0,Att.zero) else (2,xq (own::l))
theorem pre_s {a:Option Addr} {c n:Nat} {first late:Bool} {own:Att} {l:List Att} (hv:RdS 8 Att.cs m (.slice a l.length c) l) (hn:n≤100) (hl:l.length≤100) :
    MC Tryz.prog MG [.int .i64 (n:Nat),.bool first,own.v,.slice a l.length c,.bool late] m fun v m'=>v=.tuple #[.int .i64 (Bk n first own l late).1,(Bk n first own l late).2.v]∧Fr m m' []:=by
  have hle:=Pz own l
  refine Hj (by simp [Tryz.f33]) ?_
  have H:=Hq.refl m []
  simp (disch:=omega) only [go_sem,undef]
  refine qh H fun b M f H=>?_
  simp (disch:=omega) only [go_sem,undef]
  refine qh H fun b1 M f H=>?_
  simp (disch:=omega) only [go_sem,undef]
  refine ql (fun k E m'=>∃ (j:Nat),j≤l.length∧k=l.length - j∧E=[(0,.int .i64 (n:Nat)),(1,.bool first),(3,.slice a l.length c),(4,.bool late),(7,.pointer (some ⟨b,0,none⟩)),(11,.pointer (some ⟨b1,0,none⟩)),(12,.int .i64 (lh own (l.take j):Nat)),(15,.slice a l.length c),(16,.int .i64 (l.length:Nat)),(17,.int .i64 (j:Nat))] ∧
    Hq m m' [] [qv b1 (.cells Att.zero.cs.toArray qb),qv b (.cells own.cs.toArray qb)]) l.length rfl ⟨0,by omega,rfl,rfl,H⟩ ?_
  clear H f
  rintro k E M1 ⟨j,hj,rfl,rfl,H⟩
  by_cases hlt:j < l.length
  · refine RdS.elK (hv.frame H.fr) hlt (by decide) fun bx o z hz hixz hEz=>?_
    have hs:=TH own l j z hz
    have hle2:=Pz own (l.take j)
    rw [List.length_take] at hle2
    simp (disch:=omega) only [go_sem,undef,qX (show ((j:Nat):Int) < (l.length:Nat) by omega),hixz,hEz.uZ 8 (by decide) (by decide)]
    refine qh H fun b5 M f H=>?_
    simp (disch:=omega) only [go_sem,undef,H.cs]
    refine qs H rfl rfl fun M f H=>?_
    by_cases hzo:z=own
    · rw [if_pos hzo] at hs
      simp (disch:=omega) only [go_sem,undef,H.cs,qX hzo]
      exact qV (l.length - (j+1)) (by omega) ⟨j+1,by omega,rfl,by rw [hs];rfl,H.tail⟩
    · rw [if_neg hzo] at hs
      simp (disch:=omega) only [go_sem,undef,H.cs,qZ hzo]
      exact qV (l.length - (j+1)) (by omega) ⟨j+1,by omega,rfl,by rw [hs];rfl,H.tail⟩
  · have e:j=l.length:=by omega
    subst e
    rw [List.take_length] at *
    have hp:Bk n first own l late=if first=true∧n≤lh own l+2 then (1,own) else if l.length < n / 2∨(first=true∧late=false∧l.length < lh own l+2) then (0,Att.zero) else (2,xq (own::l)):=rfl
    generalize Bk n first own l late=q at *
    generalize lh own l=s at *
    have hone:∀ v∈l.flatMap Att.cs,v.oneCell'=true:=fun v hv=>by
      obtain ⟨x,_,hx⟩:=List.mem_flatMap.1 hv
      exact List.all_eq_true.1 (Att.one x) v hx
    cases first<;>cases late
    all_goals
      simp only [Bool.false_eq_true,Bool.true_eq_false,true_and,false_and,if_false,or_false,reduceCtorEq] at hp
      simp (disch:=omega) only [go_sem,undef,qZ (show ¬ ((l.length:Nat):Int) < (l.length:Nat) by omega)]
      repeat' (first
        | ((first
          | (with_reducible first
            | refine qh H fun _ _ f H2=>?_
            | refine zG H fun _ f H2=>?_
            | refine Jv H fun _ f H2=>?_
            | refine yZ H fun _ f H2=>?_
            | refine Xb H fun _ f H2=>?_
            | refine Xa H fun _ f H2=>?_
            | refine XY H fun _ f H2=>?_
            | refine qY H (qKy n (by omega) _) fun _ f H2=>?_
            | refine qY H (Mq n (by omega) _) fun _ f H2=>?_)
          | ((with_reducible refine qs H ?hl ?h1 fun _ f H2=>?_);(case hl=>rfl);(case h1=>rfl))
          | ((with_reducible refine zQ H ?hl ?h1 fun _ f H2=>?_);(case hl=>rfl);(case h1=>rfl))
          | ((with_reducible refine jU H ?hl ?h1 fun _ f H2=>?_);(case hl=>rfl);(case h1=>rfl))
          | ((with_reducible refine xm H ?hl ?h1 fun _ f H2=>?_);(case hl=>rfl);(case h1=>rfl))
          | ((with_reducible refine xi H ?hl ?h1 fun _ f H2=>?_);(case hl=>rfl);(case h1=>rfl))
          | ((with_reducible refine xh H ?hl ?h1 fun _ f H2=>?_);(case hl=>rfl);(case h1=>rfl))
          | ((with_reducible refine JQ H ?hl ?h1 fun _ f H2=>?_);(case hl=>exact Nat.le_of_ble_eq_true rfl);(case h1=>rfl);(simp only [go_sem] at H2))
          | ((with_reducible refine Jy H ?hl ?h1 fun _ f H2=>?_);(case hl=>exact Nat.le_of_ble_eq_true rfl);(case h1=>rfl);(simp only [go_sem] at H2))
          | ((with_reducible refine Xd H ?hl ?h1 fun _ f H2=>?_);(case hl=>exact Nat.le_of_ble_eq_true rfl);(case h1=>rfl);(simp only [go_sem] at H2))
          | ((with_reducible refine Xc H ?hl ?h1 fun _ f H2=>?_);(case hl=>exact Nat.le_of_ble_eq_true rfl);(case h1=>rfl);(simp only [go_sem] at H2)));clear f;clear H;have H:=H2;clear H2;simp (disch:=omega) only [go_sem,undef,H.cs, *])
        | ((with_reducible refine qp (fun hq=>?_) (fun hq=>?_))<;>(try simp only [Bool.not_true,Bool.not_false] at hq)<;>simp (disch:=omega) only [go_sem,undef,H.cs, *])
        | ((with_reducible refine qe (fun hq=>?_) (fun hq=>?_))<;>simp (disch:=omega) only [go_sem,undef,H.cs, *]))
    all_goals (try simp only [decide_eq_true_eq,decide_eq_false_iff_not] at *)
    all_goals first
      | (refine xY ⟨?_,H.fr⟩
         rw [hp]
         repeat' split
         all_goals first | rfl | (exfalso;omega))
      | (refine Lu (H.OI 8 1 1 rfl (Nat.le_refl _)) (k:=l.length) rfl (al (hv.frame H.fr)) (jI Att.len l) hone rfl (by omega) (by omega) fun w M f H=>?_
         have ho:Own M 39 8 w (own::l).length ((own::l).flatMap Att.cs):=by rw [List.length_cons,Nat.add_comm];exact H.at 0 rfl
         refine Own.zA ho fun a c e=>?_
         subst e
         simp (disch:=omega) only [go_sem,undef]
         refine qY H (cY (l:=own::l) rfl (Own.rds (by decide) Att.len ho) (by simp) (by simp;omega)) fun M f H=>?_
         simp (disch:=omega) only [go_sem,undef]
         refine zQ H rfl rfl fun M f H=>?_
         simp (disch:=omega) only [go_sem,undef,H.cs]
         refine ⟨?_,H.fr⟩
         rw [hp]
         repeat' split
         all_goals first | rfl | (exfalso;omega))
end Go.Fw
namespace Go.Fw
open Go.Proofs
variable {m m0 M:Mem} {S:List Nat} {L:List As}
def Sd.at (l:List Sd) (i:Int):Sd:=(l[i.toNat]?).getD Sd.zero
def je (l:List Sd) (st:Int):Nat→Int
 | 0=>-1
 | j+1=>if (Sd.at l j).cel.st=st∧(je l st j < 0∨lt2 (Sd.at l (je l st j)).cel.vo (Sd.at l j).cel.vo) then j else je l st j
theorem tv (l:List Sd) (st:Int):∀ j,-1≤je l st j∧je l st j < j
 | 0=>by simp [je]
 | j+1=>by
  have:=tv l st j
  unfold je
  split<;>omega
theorem Sd.gK {l:List Sd} {j:Nat} {s:Sd} (h:l[j]?=some s):Sd.at l (j:Nat)=s:=by unfold Sd.at;rw [Int.toNat_natCast,h];rfl
theorem qwt {a:Option Addr} {c:Nat} {l:List Sd} {st:Int} (hv:RdS 22 Sd.cs m (.slice a l.length c) l) (hl:l.length≤100) :
  MC Tryz.prog HZ [.slice a l.length c,.int .i64 st] m fun v m'=>v=.int .i64 (je l st l.length)∧Fr m m' []:=by
 refine DB (by simp [Tryz.f33]) ?_
 have H:=Hq.refl m []
 simp (disch:=omega) only [go_sem,undef]
 refine ql (fun k E m'=>∃ (j:Nat),j≤l.length∧k=l.length - j∧E=[(0,.slice a l.length c),(1,.int .i64 st),(5,.int .i64 (je l st j)),(8,.slice a l.length c),(9,.int .i64 (l.length:Nat)),(10,.int .i64 (j:Nat))]∧Hq m m' [] []) l.length rfl ⟨0,by omega,rfl,rfl,H⟩ ?_
 clear H
 rintro k E M1 ⟨j,hj,rfl,rfl,H⟩
 by_cases hlt:j < l.length
 ·refine RdS.elK (hv.frame H.fr) hlt (by decide) fun bx o z hz hixz hEz=>?_
  have hb:=tv l st j
  have hz2:=Sd.gK hz
  have hs:je l st (j+1)=if z.cel.st=st∧(je l st j < 0∨lt2 (Sd.at l (je l st j)).cel.vo z.cel.vo) then (j:Int) else je l st j:=by rw [je,hz2]
  simp (disch:=omega) only [go_sem,undef,qX (show ((j:Nat):Int) < (l.length:Nat) by omega),hixz,hEz.uZ 22 (by decide) (by decide)]
  refine qh H fun b5 M f H=>?_
  simp (disch:=omega) only [go_sem,undef,H.cs]
  refine qs H rfl rfl fun M f H=>?_
  by_cases hst:z.cel.st=st
  ·by_cases hb0:je l st j < 0
   ·rw [if_pos ⟨hst,.inl hb0⟩] at hs
    simp (disch:=omega) only [go_sem,undef,H.cs,qX hst,qX hb0]
    exact qV (l.length - (j+1)) (by omega) ⟨j+1,by omega,rfl,by rw [hs];rfl,H.tail⟩
   ·refine Exists.elim (⟨(je l st j).toNat,by omega⟩:∃ q:Nat,je l st j=(q:Int)) fun q hq=>?_
    rw [hq] at hs hb hb0
    refine RdS.elK (hv.frame H.fr) (show q < l.length by omega) (by decide) fun bx2 o2 w hw hixw hEw=>?_
    have hw2:=Sd.gK hw
    rw [hw2] at hs
    have hlw:=hEw.lda 4 2 (by decide) (by decide)
    rw [Sd.LP] at hlw
    by_cases hlt2:lt2 w.cel.vo z.cel.vo
    ·rw [if_pos ⟨hst,.inr hlt2⟩] at hs
     simp (disch:=omega) only [go_sem,undef,H.cs,qX hst,qZ hb0,hq,hixw,hlw]
     refine qY H (zn w.cel.vo z.cel.vo _) fun M f H=>?_
     simp (disch:=omega) only [go_sem,undef,qX hlt2]
     exact qV (l.length - (j+1)) (by omega) ⟨j+1,by omega,rfl,by rw [hs];rfl,H.tail⟩
    ·rw [if_neg (fun h=>h.2.elim hb0 hlt2)] at hs
     simp (disch:=omega) only [go_sem,undef,H.cs,qX hst,qZ hb0,hq,hixw,hlw]
     refine qY H (zn w.cel.vo z.cel.vo _) fun M f H=>?_
     simp (disch:=omega) only [go_sem,undef,qZ hlt2]
     exact qV (l.length - (j+1)) (by omega) ⟨j+1,by omega,rfl,by rw [hs];rfl,H.tail⟩
  ·rw [if_neg (fun h=>hst h.1)] at hs
   simp (disch:=omega) only [go_sem,undef,H.cs,qZ hst]
   exact qV (l.length - (j+1)) (by omega) ⟨j+1,by omega,rfl,by rw [hs];rfl,H.tail⟩
 ·have e:j=l.length:=by omega
  subst e
  simp (disch:=omega) only [go_sem,undef,qZ (show ¬ ((l.length:Nat):Int) < (l.length:Nat) by omega)]
  exact ⟨rfl,H.fr⟩
end Go.Fw
namespace Go.Fw
open Go.Proofs
variable {m m0 M:Mem} {S:List Nat} {L:List As}
abbrev LV (o:Int) (s:Sd):Prop:=s.rep≠o∧s.cel.st=1∧s.cel.same=true
def KC (o:Int) (l:List Sd):Nat→Nat
 | 0=>0
 | j+1=>KC o l j+if LV o (Sd.at l j) then 1 else 0
def kO (o:Int) (l:List Sd):Nat→Int
 | 0=>-1
 | j+1=>if LV o (Sd.at l j)∧kO o l j < 0 then j else kO o l j
def bS (o:Int) (l:List Sd):Nat→Bool
 | 0=>false
 | j+1=>if (Sd.at l j).rep=o then true else bS o l j
theorem DW (o:Int) (l:List Sd):∀ j,KC o l j≤j
 | 0=>Nat.le_refl _
 | j+1=>by
  have:=DW o l j
  unfold KC
  split<;>omega
theorem uc (o:Int) (l:List Sd):∀ j,-1≤kO o l j∧kO o l j < j∧(0 < KC o l j→0≤kO o l j)
 | 0=>by simp [kO,KC]
 | j+1=>by
  obtain ⟨h1,h2,h3⟩:=uc o l j
  unfold kO KC
  by_cases hg:LV o (Sd.at l j)
  ·rw [if_pos hg]
   by_cases hf:kO o l j < 0
   ·rw [if_pos ⟨hg,hf⟩];omega
   ·rw [if_neg (fun h=>hf h.2)];omega
  ·rw [if_neg hg,if_neg (fun h=>hg h.1)]
   exact ⟨h1,by omega,fun h=>h3 (by omega)⟩
def JP (n:Nat) (o:Int) (l:List Sd):Int×Cmd×Att :=
 if l.length < n / 2+1 then (0,Cmd.zero,Att.zero) else
 match l.find? fun s=>decide (s.cel.st=3) with
 | some s=>(1,s.cel.cmd,s.cel.att)
 | none =>
  if 0≤je l 2 l.length then (2,(Sd.at l (je l 2 l.length)).cel.cmd,(Sd.at l (je l 2 l.length)).cel.att) else
  if je l 1 l.length < 0 then (4,Cmd.zero,Att.zero) else
  if bS o l l.length=false∧n / 2≤KC o l l.length then (2,(Sd.at l (kO o l l.length)).cel.cmd,(Sd.at l (kO o l l.length)).cel.att) else
  (3,(Sd.at l (je l 1 l.length)).cel.cmd,(Sd.at l (je l 1 l.length)).cel.att)
theorem qQF {l:List Sd} {j:Nat} {z:Sd} (h:∀ i,i < j→(Sd.at l (i:Nat)).cel.st≠3) (hz:l[j]?=some z) (h3:z.cel.st=3):l.find? (fun s=>decide (s.cel.st=3))=some z:=by
 obtain ⟨hj,e⟩:=List.getElem?_eq_some_iff.1 hz
 rw [List.find?_eq_some_iff_getElem]
 refine ⟨by simp [h3],j,hj,e,fun i hi=>?_⟩
 have:=h i hi
 rw [Sd.gK (List.getElem?_eq_getElem (by omega))] at this
 simp [this]
theorem qxm {l:List Sd} (h:∀ i,i < l.length→(Sd.at l (i:Nat)).cel.st≠3):l.find? (fun s=>decide (s.cel.st=3))=none:=by
 rw [List.find?_eq_none]
 intro s hs
 obtain ⟨i,hi⟩:=List.getElem?_of_mem hs
 have hil:=(List.getElem?_eq_some_iff.1 hi).1
 have:=h i hil
 rw [Sd.gK hi] at this
 simp [this]
theorem Mx {a:Option Addr} {c:Nat} {l:List Sd} {i:Int} {G:Prop} (hv:RdS 22 Sd.cs m (.slice a l.length c) l) (h0:0≤i) (hi:i < l.length)
  (K:∀ b o,(∀ kd M,rd (.ixs 22) [.slice a l.length c,.int kd i] M=some (.pointer (some ⟨b,o,none⟩)))→m b≠none→Fy (m b) (o+6) 7=some (.agg (Sd.at l i).cel.cmd.cs.toArray)→Fy (m b) (o+13) 8=some (.agg (Sd.at l i).cel.att.cs.toArray)→G):G:=by
 obtain ⟨j,rfl⟩:∃ j:Nat,i=(j:Int):=⟨i.toNat,by omega⟩
 refine RdS.elK hv (show j < l.length by omega) (by decide) fun b o z hz hix hE=>?_
 have h1:=hE.lda 6 7 (by decide) (by decide)
 have h2:=hE.lda 13 8 (by decide) (by decide)
 rw [Sd.Qi] at h1
 rw [Sd.Yk] at h2
 rw [Sd.gK hz] at K
 refine K b o hix (fun e=>?_) h1 h2
 have:=hE.cell 0 _ rfl
 rw [e] at this;simp [cellAt] at this
theorem Uw {a:Option Addr} {c n:Nat} {o:Int} {l:List Sd} (hv:RdS 22 Sd.cs m (.slice a l.length c) l) (hn:n≤100) (hn2:2≤n) (hl:l.length≤100) :
  MC Tryz.prog pW [.int .i64 (n:Nat),.int .i64 o,.slice a l.length c] m fun v m'=>v=.tuple #[.int .i64 (JP n o l).1,(JP n o l).2.1.v,(JP n o l).2.2.v]∧Fr m m' []:=by
 by_cases hsm:l.length < n / 2+1
 ·have hp:JP n o l=(0,Cmd.zero,Att.zero):=if_pos hsm
  rw [hp]
  refine Vr (by simp [Tryz.f33]) ?_
  have H:=Hq.refl m []
  simp (disch:=omega) only [go_sem,undef]
  repeat' (first
   | ((first
    | (with_reducible first
     | refine qh H fun _ _ f H2=>?_
     | refine zG H fun _ f H2=>?_
     | refine Jv H fun _ f H2=>?_
     | refine yZ H fun _ f H2=>?_
     | refine Xb H fun _ f H2=>?_
     | refine Xa H fun _ f H2=>?_
     | refine XY H fun _ f H2=>?_
     | refine qY H (Mq n (by omega) _) fun _ f H2=>?_)
    | ((with_reducible refine qs H ?hl ?h1 fun _ f H2=>?_);(case hl=>rfl);(case h1=>rfl))
    | ((with_reducible refine zQ H ?hl ?h1 fun _ f H2=>?_);(case hl=>rfl);(case h1=>rfl))
    | ((with_reducible refine jU H ?hl ?h1 fun _ f H2=>?_);(case hl=>rfl);(case h1=>rfl))
    | ((with_reducible refine xm H ?hl ?h1 fun _ f H2=>?_);(case hl=>rfl);(case h1=>rfl))
    | ((with_reducible refine xi H ?hl ?h1 fun _ f H2=>?_);(case hl=>rfl);(case h1=>rfl))
    | ((with_reducible refine xh H ?hl ?h1 fun _ f H2=>?_);(case hl=>rfl);(case h1=>rfl))
    | ((with_reducible refine JQ H ?hl ?h1 fun _ f H2=>?_);(case hl=>exact Nat.le_of_ble_eq_true rfl);(case h1=>rfl);(simp only [go_sem] at H2))
    | ((with_reducible refine Jy H ?hl ?h1 fun _ f H2=>?_);(case hl=>exact Nat.le_of_ble_eq_true rfl);(case h1=>rfl);(simp only [go_sem] at H2))
    | ((with_reducible refine Xd H ?hl ?h1 fun _ f H2=>?_);(case hl=>exact Nat.le_of_ble_eq_true rfl);(case h1=>rfl);(simp only [go_sem] at H2))
    | ((with_reducible refine Xc H ?hl ?h1 fun _ f H2=>?_);(case hl=>exact Nat.le_of_ble_eq_true rfl);(case h1=>rfl);(simp only [go_sem] at H2)));clear f;clear H;have H:=H2;clear H2;simp (disch:=omega) only [go_sem,undef,H.cs, *,qX (show ((l.length:Nat):Int) < ((n / 2+1:Nat):Int) by omega)])
   | ((with_reducible refine qp (fun hq=>?_) (fun hq=>?_))<;>(try simp only [Bool.not_true,Bool.not_false] at hq)<;>simp (disch:=omega) only [go_sem,undef,H.cs, *,qX (show ((l.length:Nat):Int) < ((n / 2+1:Nat):Int) by omega)])
   | ((with_reducible refine qe (fun hq=>?_) (fun hq=>?_))<;>simp (disch:=omega) only [go_sem,undef,H.cs, *,qX (show ((l.length:Nat):Int) < ((n / 2+1:Nat):Int) by omega)]))
  exact ⟨rfl,H.fr⟩
 have hp:JP n o l=match l.find? fun s=>decide (s.cel.st=3) with
 | some s=>(1,s.cel.cmd,s.cel.att)
 | none =>
  if 0≤je l 2 l.length then (2,(Sd.at l (je l 2 l.length)).cel.cmd,(Sd.at l (je l 2 l.length)).cel.att) else
  if je l 1 l.length < 0 then (4,Cmd.zero,Att.zero) else
  if bS o l l.length=false∧n / 2≤KC o l l.length then (2,(Sd.at l (kO o l l.length)).cel.cmd,(Sd.at l (kO o l l.length)).cel.att) else
  (3,(Sd.at l (je l 1 l.length)).cel.cmd,(Sd.at l (je l 1 l.length)).cel.att):=if_neg hsm
 generalize JP n o l=q at *
 refine Vr (by simp [Tryz.f33]) ?_
 have H:=Hq.refl m []
 simp (disch:=omega) only [go_sem,undef]
 refine qh H fun b7 M f H=>?_
 simp (disch:=omega) only [go_sem,undef]
 refine qh H fun b8 M f H=>?_
 simp (disch:=omega) only [go_sem,undef]
 refine qY H (Mq n (by omega) _) fun M f H=>?_
 simp (disch:=omega) only [go_sem,undef,qZ (show ¬ ((l.length:Nat):Int) < ((n / 2+1:Nat):Int) by omega)]
 refine ql (fun k E m'=>∃ (j:Nat),j≤l.length∧k=l.length - j∧(∀ i,i < j→(Sd.at l (i:Nat)).cel.st≠3)∧E=[(0,.int .i64 (n:Nat)),(1,.int .i64 o),(2,.slice a l.length c),(7,.pointer (some ⟨b7,0,none⟩)),(8,.pointer (some ⟨b8,0,none⟩)),(9,.int .i64 (KC o l j:Nat)),(10,.int .i64 (kO o l j)),(11,.bool (bS o l j)),(23,.slice a l.length c),(24,.int .i64 (l.length:Nat)),(25,.int .i64 (j:Nat))] ∧
  Hq m m' [] [qv b8 (.cells Att.zero.cs.toArray qb),qv b7 (.cells Cmd.zero.cs.toArray qB)]) l.length rfl ⟨0,by omega,rfl,by simp,rfl,H⟩ ?_
 clear H f
 rintro k E M1 ⟨j,hj,rfl,h3,rfl,H⟩
 by_cases hlt:j < l.length
 ·refine RdS.elK (hv.frame H.fr) hlt (by decide) fun bx o2 z hz hixz hEz=>?_
  have hz2:=Sd.gK hz
  have hsl:=DW o l j
  have hfl:=uc o l j
  have s1:KC o l (j+1)=KC o l j+if LV o z then 1 else 0:=by rw [KC,hz2]
  have s2:kO o l (j+1)=if LV o z∧kO o l j < 0 then (j:Int) else kO o l j:=by rw [kO,hz2]
  have s3:bS o l (j+1)=if z.rep=o then true else bS o l j:=by rw [bS,hz2]
  by_cases hst:z.cel.st=3
  ·rw [qQF h3 hz hst] at hp
   simp (disch:=omega) only [go_sem,undef,qX (show ((j:Nat):Int) < (l.length:Nat) by omega),hixz,hEz.uZ 22 (by decide) (by decide)]
   refine qh H fun b5 M f H=>?_
   simp (disch:=omega) only [go_sem,undef,H.cs]
   refine qs H rfl rfl fun M f H=>?_
   simp (disch:=omega) only [go_sem,undef,H.cs,qX hst]
   refine jU H rfl rfl fun M f H=>?_
   simp (disch:=omega) only [go_sem,undef,H.cs]
   refine zQ H rfl rfl fun M f H=>?_
   simp (disch:=omega) only [go_sem,undef,H.cs]
   exact ⟨by rw [hp],H.fr⟩
  have h3':∀ i,i < j+1→(Sd.at l (i:Nat)).cel.st≠3:=fun i hi=>by
   rcases Nat.lt_or_eq_of_le (Nat.le_of_lt_succ hi) with h | h
   ·exact h3 i h
   ·subst h;rw [hz2];exact hst
  by_cases hro:z.rep=o
  ·rw [if_neg (fun h=>h.1 hro)] at s1
   rw [if_neg (fun h=>h.1.1 hro)] at s2
   rw [if_pos hro] at s3
   simp (disch:=omega) only [go_sem,undef,qX (show ((j:Nat):Int) < (l.length:Nat) by omega),hixz,hEz.uZ 22 (by decide) (by decide)]
   refine qh H fun b5 M f H=>?_
   simp (disch:=omega) only [go_sem,undef,H.cs]
   refine qs H rfl rfl fun M f H=>?_
   simp (disch:=omega) only [go_sem,undef,H.cs,qZ hst,qX hro]
   exact qV (l.length - (j+1)) (by omega) ⟨j+1,by omega,rfl,h3',by rw [s1,s2,s3];rfl,H.tail⟩
  ·rw [if_neg hro] at s3
   by_cases hg:LV o z
   ·rw [if_pos hg] at s1
    by_cases hf:kO o l j < 0
    ·rw [if_pos ⟨hg,hf⟩] at s2
     simp (disch:=omega) only [go_sem,undef,qX (show ((j:Nat):Int) < (l.length:Nat) by omega),hixz,hEz.uZ 22 (by decide) (by decide)]
     refine qh H fun b5 M f H=>?_
     simp (disch:=omega) only [go_sem,undef,H.cs]
     refine qs H rfl rfl fun M f H=>?_
     simp (disch:=omega) only [go_sem,undef,H.cs,qZ hst,qZ hro,qX hg.2.1,hg.2.2,qX hf]
     exact qV (l.length - (j+1)) (by omega) ⟨j+1,by omega,rfl,h3',by rw [s1,s2,s3];rfl,H.tail⟩
    ·rw [if_neg (fun h=>hf h.2)] at s2
     simp (disch:=omega) only [go_sem,undef,qX (show ((j:Nat):Int) < (l.length:Nat) by omega),hixz,hEz.uZ 22 (by decide) (by decide)]
     refine qh H fun b5 M f H=>?_
     simp (disch:=omega) only [go_sem,undef,H.cs]
     refine qs H rfl rfl fun M f H=>?_
     simp (disch:=omega) only [go_sem,undef,H.cs,qZ hst,qZ hro,qX hg.2.1,hg.2.2,qZ hf]
     exact qV (l.length - (j+1)) (by omega) ⟨j+1,by omega,rfl,h3',by rw [s1,s2,s3];rfl,H.tail⟩
   ·rw [if_neg hg] at s1
    rw [if_neg (fun h=>hg h.1)] at s2
    simp (disch:=omega) only [go_sem,undef,qX (show ((j:Nat):Int) < (l.length:Nat) by omega),hixz,hEz.uZ 22 (by decide) (by decide)]
    refine qh H fun b5 M f H=>?_
    simp (disch:=omega) only [go_sem,undef,H.cs]
    refine qs H rfl rfl fun M f H=>?_
    by_cases h1:z.cel.st=1
    ·have hsf:z.cel.same=false:=by
      cases hsx:z.cel.same with
      | false=>rfl
      | true=>exact absurd ⟨hro,h1,hsx⟩ hg
     simp (disch:=omega) only [go_sem,undef,H.cs,qZ hst,qZ hro,qX h1,hsf]
     exact qV (l.length - (j+1)) (by omega) ⟨j+1,by omega,rfl,h3',by rw [s1,s2,s3];rfl,H.tail⟩
    ·simp (disch:=omega) only [go_sem,undef,H.cs,qZ hst,qZ hro,qZ h1]
     exact qV (l.length - (j+1)) (by omega) ⟨j+1,by omega,rfl,h3',by rw [s1,s2,s3];rfl,H.tail⟩
 ·have e:j=l.length:=by omega
  subst e
  rw [qxm h3] at hp
  simp only at hp
  have hb2:=tv l 2 l.length
  have hb1:=tv l 1 l.length
  have hfl:=uc o l l.length
  have hsl:=DW o l l.length
  simp (disch:=omega) only [go_sem,undef,qZ (show ¬ ((l.length:Nat):Int) < (l.length:Nat) by omega)]
  refine qY H (qwt (hv.frame H.fr) hl) fun M f H=>?_
  by_cases h2:0≤je l 2 l.length
  ·rw [if_pos h2] at hp
   refine Mx hv h2 hb2.2 fun bx ox hix hth hl1 hl2=>?_
   simp (disch:=omega) only [go_sem,undef,qX (show je l 2 l.length≥0 from h2),hix,H.fr bx hth (by simp),hl1,hl2]
   refine zQ H rfl rfl fun M f H=>?_
   simp (disch:=omega) only [go_sem,undef,H.cs,H.fr bx hth (by simp),hl2]
   refine qs H rfl rfl fun M f H=>?_
   simp (disch:=omega) only [go_sem,undef,H.cs]
   exact ⟨by rw [hp],H.fr⟩
  rw [if_neg h2] at hp
  simp (disch:=omega) only [go_sem,undef,qZ (show ¬ je l 2 l.length≥0 from h2)]
  refine qY H (qwt (hv.frame H.fr) hl) fun M f H=>?_
  by_cases h1:je l 1 l.length < 0
  ·rw [if_pos h1] at hp
   simp (disch:=omega) only [go_sem,undef,qX h1]
   refine zQ H rfl rfl fun M f H=>?_
   simp (disch:=omega) only [go_sem,undef,H.cs]
   refine qs H rfl rfl fun M f H=>?_
   simp (disch:=omega) only [go_sem,undef,H.cs]
   exact ⟨by rw [hp],H.fr⟩
  rw [if_neg h1] at hp
  have etd:Int.tdiv ((n:Nat):Int) 2=((n / 2:Nat):Int):=rfl
  by_cases hc:bS o l l.length=false∧n / 2≤KC o l l.length
  ·rw [if_pos hc] at hp
   refine Mx hv (hfl.2.2 (by omega)) hfl.2.1 fun bx ox hix hth hl1 hl2=>?_
   simp (disch:=omega) only [go_sem,undef,qZ h1,hc.1,etd,qX (show ((KC o l l.length:Nat):Int)≥((n / 2:Nat):Int) by omega),hix,H.fr bx hth (by simp),hl1,hl2]
   refine zQ H rfl rfl fun M f H=>?_
   simp (disch:=omega) only [go_sem,undef,H.cs,H.fr bx hth (by simp),hl2]
   refine qs H rfl rfl fun M f H=>?_
   simp (disch:=omega) only [go_sem,undef,H.cs]
   exact ⟨by rw [hp],H.fr⟩
  ·rw [if_neg hc] at hp
   refine Mx hv (show 0≤je l 1 l.length by omega) hb1.2 fun bx ox hix hth hl1 hl2=>?_
   cases hth2:bS o l l.length with
   | true =>
    simp (disch:=omega) only [go_sem,undef,qZ h1,hth2,hix,H.fr bx hth (by simp),hl1,hl2]
    refine zQ H rfl rfl fun M f H=>?_
    simp (disch:=omega) only [go_sem,undef,H.cs,H.fr bx hth (by simp),hl2]
    refine qs H rfl rfl fun M f H=>?_
    simp (disch:=omega) only [go_sem,undef,H.cs]
    exact ⟨by rw [hp],H.fr⟩
   | false =>
    have hns:¬ n / 2≤KC o l l.length:=fun h=>hc ⟨hth2,h⟩
    simp (disch:=omega) only [go_sem,undef,qZ h1,hth2,etd,qZ (show ¬ ((KC o l l.length:Nat):Int)≥((n / 2:Nat):Int) by omega),hix,H.fr bx hth (by simp),hl1,hl2]
    refine zQ H rfl rfl fun M f H=>?_
    simp (disch:=omega) only [go_sem,undef,H.cs,H.fr bx hth (by simp),hl2]
    refine qs H rfl rfl fun M f H=>?_
    simp (disch:=omega) only [go_sem,undef,H.cs]
    exact ⟨by rw [hp],H.fr⟩
end Go.Fw
namespace Go.Fw
open Go.Proofs
abbrev kR:=List ((Int×Int)×qD)
def nv (l:kR):List ((Int×Int)×Value):=l.map fun p=>(p.1,p.2.v)
def lkN (k:Int×Int):kR→Option qD
 | []=>none
 | (a,c)::r=>if a=k then some c else lkN k r
def yy (l:kR):List (Int×Int):=l.map (·.1)
def upN (k:Int×Int) (c:qD) (l:kR):kR:=if k∈yy l then l.map (fun p=>if p.1=k then (k,c) else p) else l++[(k,c)]
theorem Ys (l:kR):zx (nv l)=yy l:=by simp [zx,nv,yy,List.map_map,Function.comp_def]
theorem qJf (k:Int×Int) (c:qD) (l:kR):gW k c.v (nv l)=nv (upN k c l):=by
 unfold gW upN
 rw [Ys]
 split
 ·simp only [nv,List.map_map]
  refine List.map_congr_left fun p _=>?_
  simp only [Function.comp]
  split<;>rfl
 ·simp [nv]
theorem qKg (k:Int×Int) (l:kR):ue k (nv l)=nv (l.filter fun p=>p.1≠k):=by
 unfold ue nv
 rw [List.filter_map];rfl
theorem qzE {k:Int×Int} {c:qD}:∀ {l:kR},lkN k l=some c→(k,c)∈l
 | (a,d)::r,h=>by
  simp only [lkN] at h
  split at h
  ·rename_i e;subst e;cases h;exact List.mem_cons_self ..
  ·exact List.mem_cons_of_mem _ (qzE h)
theorem qvp {k:Int×Int} {c:qD}:∀ {l:kR},(yy l).Nodup→(k,c)∈l→lkN k l=some c
 | (a,d)::r,hn,h=>by
  simp only [yy,List.map_cons,List.nodup_cons] at hn
  simp only [lkN]
  rcases List.mem_cons.1 h with e | h
  ·cases e;simp
  ·rw [if_neg]
   ·exact qvp hn.2 h
   ·rintro rfl;exact hn.1 (List.mem_map.2 ⟨_,h,rfl⟩)
structure ZL (m:Mem) (lb r:Nat) (cut:Dp) (l:kR):Prop where
 box:m lb=some (.cells (Value.map (some r)::dv cut).toArray wi (0,0))
 map:JM pv m r (nv l)
theorem ZL.nd {m:Mem} {lb r:Nat} {cut:Dp} {l:kR} (h:ZL m lb r cut l):(yy l).Nodup:=by
 have:=h.map.nd;rwa [Ys] at this
theorem ZL.frame {m m':Mem} {lb r:Nat} {cut:Dp} {l:kR} {S:List Nat} (h:ZL m lb r cut l) (f:Fr m m' S) (h1:lb∉S) (h2:r∉S):ZL m' lb r cut l:=⟨f.get h.box h1,h.map.frame f h2⟩
theorem ZL.fu {m m':Mem} {lb r:Nat} {cut:Dp} {l:kR} (h:ZL m lb r cut l) (f:Fr m m' []):ZL m' lb r cut l:=h.frame f (by simp) (by simp)
theorem ZL.ne {m:Mem} {lb r:Nat} {cut:Dp} {l:kR} (h:ZL m lb r cut l):lb≠r:=by
 obtain ⟨es,c,hm,_⟩:=h.map
 rintro rfl
 rw [h.box] at hm;cases hm
abbrev LW (cut:Dp) (k:Int×Int):Prop:=k.2≤cut.g k.1.toNat
theorem qKz (m:Mem):MC Tryz.prog pf [] m fun v m'=>(∃ lb r,v=lp lb∧ZL m' lb r Dp.zero []∧m lb=none∧m r=none)∧Fr m m' []:=by
 refine HP (by simp [Tryz.f33]) ?_
 have H:=Hp.refl m []
 simp (disch:=omega) only [go_sem,undef]
 refine zl H fun r M _ _ H=>?_
 simp (disch:=omega) only [go_sem,undef,H.hs]
 refine zl H fun lb M _ _ H=>?_
 simp (disch:=omega) only [go_sem,undef,H.hs]
 have hlb:=H.nw0.1
 have hr:=H.nw1.1
 exact ⟨⟨lb,r,rfl,⟨H.hs.1,by
  have h2:=H.hs.2.1
  exact ⟨#[],0,h2,rfl,by simp [zx,nv],by simp,by simp⟩⟩,hlb,hr⟩,H.fr⟩
def ee (cut:Dp) (k:Int×Int) (c:Cmd) (s:Int):Prop:=qN k∧¬ k.2≤cut.g k.1.toNat∧c.right∧0≤s∧s≤1099511627776
instance (cut:Dp) (k:Int×Int) (c:Cmd) (s:Int):Decidable (ee cut k c s):=by unfold ee;exact inferInstance
theorem qXC {m:Mem} {lb r:Nat} {cut:Dp} {l:kR} (h:ZL m lb r cut l) (k:Int×Int) (c:Cmd) (s:Int) :
    MC Tryz.prog KI [lp lb,pv k,c.v,.int .i64 s] m fun v m'=>(v=.bool (decide (ee cut k c s))∧ZL m' lb r cut (if ee cut k c s then upN k ⟨c,s⟩ l else l))∧Fr m m' [r]:=by
  have hne:=h.ne
  have hx:∀ s∈[r],m s≠none:=fun s hs=>by simp at hs;subst hs;exact h.map.there
  refine fJ (by simp [Tryz.f33]) ?_
  have H:=Hp.refl m []
  simp (disch:=omega) only [go_sem,undef]
  by_cases hri:qN k
  rotate_left
  · have hm:¬ ee cut k c s:=fun h=>hri h.1
    repeat' ((first
      | refine zl H fun _ _ _ _ H=>?_
      | refine zI H (zX _ _) fun _ _ H=>?_
      | (refine qp (fun hq=>?_) (fun hq=>?_)<;>(try simp only [Bool.not_true,Bool.not_false] at hq))
      | refine qe (fun hq=>?_) (fun hq=>?_)
      | refine wr0 H fun _ _ H=>?_
      | refine wr1 H fun _ _ H=>?_
      | refine wr2 H fun _ _ H=>?_
      | refine wr3 H fun _ _ H=>?_
      | refine JN H rfl rfl fun _ _ H=>?_
      | refine XF H rfl rfl fun _ _ H=>?_)<;>simp (disch:=omega) only [go_sem,undef,H.hs, *,decide_eq_false hri])
    refine ⟨⟨by rw [decide_eq_false hm],?_⟩,H.fr.sub (by simp)⟩
    rw [if_neg hm]
    exact h.fu H.fr
  have hk0:=hri.1
  have hk1:=hri.2.1
  repeat' ((first
    | refine zl H fun _ _ _ _ H=>?_
    | refine zI H (zX _ _) fun _ _ H=>?_
    | refine zI H (ju _ _) fun _ _ H=>?_
    | (refine qp (fun hq=>?_) (fun hq=>?_)<;>(try simp only [Bool.not_true,Bool.not_false] at hq))
    | refine qe (fun hq=>?_) (fun hq=>?_)
    | refine wr0 H fun _ _ H=>?_
    | refine wr1 H fun _ _ H=>?_
    | refine wr2 H fun _ _ H=>?_
    | refine wr3 H fun _ _ H=>?_
    | refine JN H rfl rfl fun _ _ H=>?_
    | refine XF H rfl rfl fun _ _ H=>?_)<;>simp (disch:=omega) only [go_sem,undef,H.hs, *,H.fr.xg h.box,decide_eq_true hri])
  all_goals (try simp only [decide_eq_true_eq,decide_eq_false_iff_not] at *)
  all_goals first
    | (have hm:ee cut k c s:=⟨hri,by omega,by assumption,by omega,by omega⟩
       refine pt (k:=k) ah (h.map.frame H.fr (by simp)) fun N hN f _=>?_
       simp (disch:=omega) only [go_sem]
       rw [show Value.agg _=(qD.mk c s).v from rfl,qJf] at hN
       refine ⟨⟨by rw [decide_eq_true hm],?_⟩,(H.fr.sub (by simp)).bR f⟩
       rw [if_pos hm]
       exact ⟨f.get (H.fr.xg h.box) (by simpa using hne),hN⟩)
    | (have hm:¬ ee cut k c s:=by
         intro hmm
         obtain ⟨_,h2,h3,h4,h5⟩:=hmm
         first | omega | contradiction
       refine ⟨⟨by rw [decide_eq_false hm],?_⟩,H.fr.sub (by simp)⟩
       rw [if_neg hm]
       exact h.fu H.fr)
theorem qyS {m:Mem} {lb r:Nat} {cut:Dp} {l:kR} (h:ZL m lb r cut l) (hr:∀ k∈yy l,qN k) (upto:Dp) :
  MC Tryz.prog XI [lp lb,upto.v] m fun v m'=>(v=.tuple #[]∧ZL m' lb r (xH cut upto) (l.filter fun p=>¬ LW (xH cut upto) p.1))∧Fr m m' [lb,r]:=by
 have hne:=h.ne
 have hx:∀ s∈[lb,r],m s≠none:=fun s hs=>by
  simp at hs;rcases hs with rfl | rfl
  ·rw [h.box];exact Option.some_ne_none _
  ·exact h.map.there
 refine df (by simp [Tryz.f33]) ?_
 have H:=Hp.refl m [lb,r] hx
 simp (disch:=omega) only [go_sem,undef]
 refine zl H fun b M hb f H=>?_
 have hL:=h.fu f
 simp (disch:=omega) only [go_sem,undef,H.hs]
 refine ql (fun n E m'=>∃ (k:Nat) (c:Dp),k≤7∧n=7 - k∧E=[(0,lp lb),(7,upto.v),(8,.int .i64 k)]∧(∀ j,j < k→c.g j=(xH cut upto).g j)∧(∀ j,k≤j→c.g j=cut.g j)∧ZL m' lb r c l∧Fr m m' [lb,r]) 7 rfl ⟨0,cut,by omega,rfl,rfl,by simp,by simp,hL,H.fr⟩ ?_
 clear H hL f hb
 rintro n E m' ⟨k,c,hk,rfl,rfl,h1,h2,hL,f⟩
 simp (disch:=omega) only [go_sem,undef]
 refine ZI (fun h=>?_) (fun h=>?_)
 ·have hk7:k < 7:=by omega
  have H:=Hp.refl m' [lb] (by simp [hL.box])
  simp (disch:=omega) only [go_sem,undef,hL.box]
  refine wrS H (by simp) fun M hM f' H=>?_
  simp (disch:=omega) only [go_sem,undef]
  refine qV (7 - (k+1)) (by omega) ⟨k+1,_,by omega,rfl,rfl,fun j hj=>?_,fun j hj=>?_,⟨hM,hL.map.frame f' (by simpa using hne.symm)⟩,f.trans f' (by simp)⟩
  ·rw [Dp.tY]
   by_cases e:j=k
   ·subst e;simp [hk7,qzy,h2 j (Nat.le_refl _)]
   ·rw [if_neg (fun h=>e h.1)];exact h1 j (by omega)
  ·rw [Dp.tY,if_neg (by omega)];exact h2 j (by omega)
 ·have hc:c=xH cut upto:=Dp.rH fun j hj=>h1 j (by omega)
  subst hc
  clear h1 h2
  simp (disch:=omega) only [go_sem,undef,hL.box]
  refine Ci hL.map fun it N hit hI f1=>?_
  have hbox:=f1.xg hL.box
  have f2:=f.KA f1
  have hitm:m it=none:=by
   cases hm:m it with
   | none=>rfl
   | some o=>exact absurd hit (f.some (by rw [hm];exact Option.some_ne_none _) (by
     intro hs;simp at hs
     rcases hs with rfl | rfl
     ·rw [hL.box] at hit;cases hit
     ·exact hL.map.there hit))
  have hitl:it≠lb:=by rintro rfl;rw [hL.box] at hit;cases hit
  have hitr:it≠r:=by rintro rfl;exact hL.map.there hit
  clear f f1 hL hit
  simp (disch:=omega) only [go_sem,undef]
  generalize hcut:xH cut upto=ct at *
  refine ql (fun n E m'=>∃ (l':kR) (done D:List (Int×Int)),n=l'.length - done.length∧E=[(0,lp lb),(32,.pointer (some ⟨it,0,none⟩))]∧xG pv m' it r (nv l') done∧m' lb=some (.cells (Value.map (some r)::dv ct).toArray wi (0,0)) ∧
   l'=l.filter (fun p=>p.1∉D)∧(∀ x∈D,LW ct x)∧(∀ x∈done,¬ LW ct x)∧Fr m m' [lb,r]) l.length rfl ⟨l,[],[],by simp,rfl,hI,hbox,(List.filter_eq_self.2 (by simp)).symm,by simp,by simp,f2⟩ ?_
  clear hI hbox f2
  rintro n E m' ⟨l',done,D,rfl,rfl,hI,hbox,hl',hD,hdone,f⟩
  have hle:done.length≤l'.length:=by
   obtain ⟨es,c,seen,_,hh,_,hd,hsub,_⟩:=hI
   rw [Ys] at hsub
   have:=hd.length_le_of_subset hsub
   simpa [yy] using this
  simp (disch:=omega) only [go_sem,undef]
  refine Cs ah hI (fun hperm=>?_) (fun k w N hkw hk hI2 hent f1 hnone=>?_)
  ·simp (disch:=omega) only [go_sem,undef]
   refine ⟨⟨rfl,hbox,?_⟩,f⟩
   rw [Ys] at hperm
   have:l.filter (fun p=>¬ LW ct p.1)=l':=by
    rw [hl']
    refine List.filter_congr fun p hp=>?_
    by_cases hx:p.1∈D
    ·rw [decide_eq_false (fun hn=>hn (hD _ hx)),decide_eq_false (fun hn=>hn hx)]
    ·have hin:p.1∈yy l':=by rw [hl'];exact List.mem_map.2 ⟨p,List.mem_filter.2 ⟨hp,by simpa using hx⟩,rfl⟩
     have:=hdone _ (hperm.mem_iff.1 hin)
     rw [decide_eq_true this,decide_eq_true hx]
   rw [this]
   exact hI.map
  ·have hI2l:(done++[k]).length≤l'.length:=by
    obtain ⟨es,c,seen,_,hh,_,hd,hsub,_⟩:=hI2
    rw [Ys] at hsub
    have:=hd.length_le_of_subset hsub
    simpa [yy] using this
   simp only [List.length_append,List.length_cons,List.length_nil] at hI2l
   have hboxN:=f1.get hbox (by simpa using hitl.symm)
   have H:=Hp.refl N []
   simp (disch:=omega) only [go_sem,undef,hent]
   refine zl H fun b M hb f2 H=>?_
   simp (disch:=omega) only [go_sem,undef,H.hs]
   refine JN H rfl rfl fun M f3 H=>?_
   simp (disch:=omega) only [go_sem,undef,H.hs]
   have hI3:=hI2.frame H.fr (by simp) (by simp)
   have hkr:qN k:=by
    refine hr k ?_
    have hk2:k∈yy l':=by rw [← Ys];exact List.mem_map.2 ⟨_,hkw,rfl⟩
    rw [hl'] at hk2
    obtain ⟨p,hp,e⟩:=List.mem_map.1 hk2
    exact List.mem_map.2 ⟨p,(List.mem_filter.1 hp).1,e⟩
   have hk0:=hkr.1
   have hk1:=hkr.2.1
   have hI4:=hI2.frame H.fr (by simp) (by simp)
   have fall:=f1.KA H.fr
   by_cases hg:LW ct k
   ·simp (disch:=omega) only [go_sem,undef,H.hs,H.fr.xg hboxN,qX hg]
    refine Rc (k:=k) ah hI4 fun M2 hI5 f5 _=>?_
    rw [qKg] at hI5
    have hdn:(done++[k]).filter (·≠k)=done:=by
     rw [List.filter_append]
     simp only [ne_eq,decide_not,List.filter_cons,decide_true,Bool.not_true,Bool.false_eq_true,if_false,List.filter_nil,List.append_nil]
     refine List.filter_eq_self.2 fun x hx=>?_
     simp only [Bool.not_eq_true',decide_eq_false_iff_not]
     rintro rfl;exact hk hx
    rw [hdn] at hI5
    have hlen:(l'.filter fun p=>p.1≠k).length < l'.length:=by
     obtain ⟨p,hp,e⟩:=List.mem_map.1 hkw
     exact List.length_filter_lt_length_iff_exists.2 ⟨p,hp,by simp only [Prod.mk.injEq] at e;simp [e.1]⟩
    have hle2:done.length≤(l'.filter fun p=>p.1≠k).length:=by
     obtain ⟨es,c,seen,_,hh,_,hd,hsub,_⟩:=hI5
     rw [Ys] at hsub
     have:=hd.length_le_of_subset hsub
     simpa [yy] using this
    simp (disch:=omega) only [go_sem,undef]
    refine qV ((l'.filter fun p=>p.1≠k).length - done.length) (by omega) ⟨_,done,k::D,rfl,rfl,hI5,f5.get (H.fr.xg hboxN) (by simpa using hne),?_,?_,hdone,?_⟩
    ·rw [hl',List.filter_filter]
     refine List.filter_congr fun p _=>?_
     simp
    ·intro x hx
     rcases List.mem_cons.1 hx with rfl | hx
     ·exact hg
     ·exact hD x hx
    ·exact (f.trans ((fall.sub (T:=[it,r]) (by simp)).trans f5 (by simp)) (fun x hx hx0=>by
      simp at hx;rcases hx with rfl | rfl
      ·exact absurd hitm hx0
      ·simp))
   ·simp (disch:=omega) only [go_sem,undef,H.hs,H.fr.xg hboxN,qZ hg]
    refine qV (l'.length - (done.length+1)) (by omega) ⟨l',done++[k],D,by simp,rfl,hI4,H.fr.xg hboxN,hl',hD,?_,?_⟩
    ·intro x hx
     rcases List.mem_append.1 hx with hx | hx
     ·exact hdone x hx
     ·simp only [List.mem_singleton] at hx;subst hx;exact hg
    ·exact f.trans fall (fun x hx hx0=>by simp at hx;subst hx;exact absurd hitm hx0)
end Go.Fw
namespace Go.Fw
open Go.Proofs
def au (i:Int×Int) (c:Cmd) (a:Att) (k:Int×Int) (n:qD):Att :=
 if (k.1=i.1∧i.2≤k.2)∨¬ fI n.cmd c then a else ⟨max a.seq (n.seq+1),Dp.up a.deps k.1.toNat (max (a.deps.g k.1.toNat) k.2)⟩
def Vo (l:kR) (i:Int×Int) (c:Cmd) (a:Att) (k:Int×Int):Att:=au i c a k ((lkN k l).getD qD.zero)
def tZ (l:kR) (i:Int×Int) (c:Cmd):Att:=(yy l).foldl (Vo l i c) Att.zero
def tQ (cut:Dp) (i:Int×Int) (d:Dp):Dp:=fun r=>if (r.val:Int)≠i.1 then max (d r) (cut r) else if qN i then max (d r) (i.2 - 1) else d r
def zB (cut:Dp) (l:kR) (i:Int×Int) (c:Cmd):Att:=⟨(tZ l i c).seq,tQ cut i (tZ l i c).deps⟩
structure wo (l:kR):Prop where
 ok:∀ p∈l,qN p.1∧p.2.cmd.right∧0≤p.2.seq∧p.2.seq≤1099511627776
theorem qZs (cut:Dp) (i:Int×Int) (d:Dp) (r:Nat) (h:r < 7):(tQ cut i d).g r=if (r:Int)≠i.1 then max (d.g r) (cut.g r) else if qN i then max (d.g r) (i.2 - 1) else d.g r:=by simp [Dp.g,h,tQ]
theorem Tu (i:Int×Int) (c:Cmd) (a:Att) (k k':Int×Int) (n n':qD) (hk:0≤k.1∧k.1 < 7) (hk':0≤k'.1∧k'.1 < 7):au i c (au i c a k n) k' n'=au i c (au i c a k' n') k n:=by
 unfold au
 by_cases h1:(k.1=i.1∧i.2≤k.2)∨¬ fI n.cmd c<;>by_cases h2:(k'.1=i.1∧i.2≤k'.2)∨¬ fI n'.cmd c
 ·simp only [if_pos h1,if_pos h2]
 ·simp only [if_pos h1,if_neg h2]
 ·simp only [if_neg h1,if_pos h2]
 ·simp only [if_neg h1,if_neg h2]
  congr 1
  ·omega
  ·refine Dp.rH fun j hj=>?_
   simp only [Dp.tY]
   by_cases e1:j=k.1.toNat<;>by_cases e2:j=k'.1.toNat<;>simp [e1,e2,hj]<;>(try split)<;>(try simp_all)<;>(try omega)
theorem gy {c:Cmd} (h:c.right):c.key.size≤1000:=by
 rcases h with rfl | ⟨_,_,_,_,_,_,_,h,_⟩
 ·decide
 ·omega
theorem qXB {l:kR} (hnd:(yy l).Nodup) (ho:wo l) {k:Int×Int} {w:Value} (h:(k,w)∈nv l):∃ n:qD,w=n.v∧lkN k l=some n∧qN k∧n.cmd.right∧0≤n.seq∧n.seq≤1099511627776:=by
 obtain ⟨p,hp,e⟩:=List.mem_map.1 h
 simp only [Prod.mk.injEq] at e
 obtain ⟨e1,e2⟩:=e
 subst e1 e2
 exact ⟨p.2,rfl,qvp hnd hp,ho.ok p hp⟩
theorem UT {l:kR} (ho:wo l) (i:Int×Int) (c:Cmd) {done:List (Int×Int)} (h:(yy l).Perm done):done.foldl (Vo l i c) Att.zero=tZ l i c:=by
 have hr:∀ x∈yy l,0≤x.1∧x.1 < 7:=fun x hx=>by
  obtain ⟨p,hp,e⟩:=List.mem_map.1 hx
  have:=(ho.ok p hp).1
  rw [← e];exact ⟨this.1,this.2.1⟩
 exact (h.foldl_eq' (fun x hx y hy z=>Tu i c z x y _ _ (hr x hx) (hr y hy)) Att.zero).symm
theorem Aw {m:Mem} {lb r:Nat} {cut:Dp} {l:kR} (h:ZL m lb r cut l) (ho:wo l) (i:Int×Int) (c:Cmd) (hc:c.key.size≤1000) :
  MC Tryz.prog il [lp lb,pv i,c.v] m fun v m'=>v=(zB cut l i c).v∧Fr m m' []:=by
 have hnd:=h.nd
 refine fi (by simp [Tryz.f33]) ?_
 have H:=Hp.refl m []
 simp (disch:=omega) only [go_sem,undef]
 refine zl H fun b4 M _ _ H=>?_
 simp (disch:=omega) only [go_sem,undef,H.hs]
 refine zl H fun b5 M _ _ H=>?_
 simp (disch:=omega) only [go_sem,undef,H.hs]
 refine zl H fun b6 M _ _ H=>?_
 simp (disch:=omega) only [go_sem,undef,H.hs]
 refine zl H fun b7 M _ _ H=>?_
 simp (disch:=omega) only [go_sem,undef,H.hs,H.fr.xg h.box]
 refine qZN H (h.map.frame H.fr (by simp)) fun it N hit hI f1 H hit0 hitS hitr=>?_
 simp (disch:=omega) only [go_sem,undef]
 refine ql (fun n E m'=>∃ (done:List (Int×Int)),n=l.length - done.length∧E=[(0,lp lb),(4,.pointer (some ⟨b4,0,none⟩)),(5,.pointer (some ⟨b5,0,none⟩)),(6,.pointer (some ⟨b6,0,none⟩)),(7,.pointer (some ⟨b7,0,none⟩)),(15,.pointer (some ⟨it,0,none⟩))]∧xG pv m' it r (nv l) done ∧
  Hp m m' [it] [(b7,.cells (done.foldl (Vo l i c) Att.zero).cs.toArray qb),(b6,.cells Att.zero.cs.toArray qb),(b5,.cells c.cs.toArray qB),(b4,.cells (pc i).toArray qa)]) l.length rfl ⟨[],rfl,rfl,hI,H⟩ ?_
 clear H hI f1 hit
 rintro n E m' ⟨done,rfl,rfl,hI,H⟩
 simp (disch:=omega) only [go_sem,undef]
 refine qZT ah hI H (by simp) (fun hperm=>?_) (fun k w N hkw hk hle hI2 hent f2 H=>?_)
 ·rw [Ys] at hperm
  rw [UT ho i c hperm] at H
  have hb:m' lb=some (.cells (Value.map (some r)::dv cut).toArray wi (0,0)):=H.fr.get h.box (by
   simp only [List.mem_singleton]
   rintro rfl
   rw [h.box] at hit0;cases hit0)
  have haf:zB cut l i c=⟨(tZ l i c).seq,tQ cut i (tZ l i c).deps⟩:=rfl
  generalize zB cut l i c=af at *
  generalize tZ l i c=a0 at *
  clear hI hperm
  simp (disch:=omega) only [go_sem,undef]
  refine ql (fun n E m''=>∃ (k:Nat) (d:Dp),k≤7∧n=7 - k∧E=[(0,lp lb),(4,.pointer (some ⟨b4,0,none⟩)),(6,.pointer (some ⟨b6,0,none⟩)),(7,.pointer (some ⟨b7,0,none⟩)),(59,.int .i64 (k:Nat))]∧(∀ j,j < k→d.g j=(tQ cut i a0.deps).g j)∧(∀ j,k≤j→d.g j=a0.deps.g j) ∧
   Hp m m'' [it] [(b7,.cells (Att.mk a0.seq d).cs.toArray qb),(b6,.cells Att.zero.cs.toArray qb),(b5,.cells c.cs.toArray qB),(b4,.cells (pc i).toArray qa)]) 7 rfl ⟨0,a0.deps,by omega,rfl,rfl,by simp,by simp,H⟩ ?_
  clear H hb
  rintro n E m1 ⟨k,d,hk,rfl,rfl,h1,h2,H⟩
  have hb:m1 lb=some (.cells (Value.map (some r)::dv cut).toArray wi (0,0)):=H.fr.get h.box (by
   simp only [List.mem_singleton]
   rintro rfl
   rw [h.box] at hit0;cases hit0)
  by_cases hk7:k < 7
  ·have hdg:=h2 k (Nat.le_refl _)
   have hag:=qZs cut i a0.deps k hk7
   by_cases hki:((k:Nat):Int)≠i.1
   ·rw [if_pos hki] at hag
    simp (disch:=omega) only [go_sem,undef,qX (show ((k:Nat):Int) < 7 by omega),H.hs,hb,qX hki]
    refine wr0 H fun M f H=>?_
    simp (disch:=omega) only [go_sem,undef]
    refine qV (7 - (k+1)) (by omega) ⟨k+1,_,by omega,rfl,rfl,fun j hj=>?_,fun j hj=>?_,H⟩
    ·rw [Dp.tY]
     by_cases e:j=k
     ·subst e;rw [if_pos ⟨rfl,hk7⟩,hag,hdg]
     ·rw [if_neg (fun h=>e h.1)];exact h1 j (by omega)
    ·rw [Dp.tY,if_neg (by omega)];exact h2 j (by omega)
   ·rw [if_neg hki] at hag
    by_cases hri:qN i
    ·rw [if_pos hri] at hag
     have hi1:=hri.2.2.1
     have hi2:=hri.2.2.2
     simp (disch:=omega) only [go_sem,undef,qX (show ((k:Nat):Int) < 7 by omega),H.hs,hb,qZ hki]
     refine zI H (zX i _) fun M f H=>?_
     simp (disch:=omega) only [go_sem,undef,qX hri,H.hs]
     refine wr0 H fun M f H=>?_
     simp (disch:=omega) only [go_sem,undef]
     refine qV (7 - (k+1)) (by omega) ⟨k+1,_,by omega,rfl,rfl,fun j hj=>?_,fun j hj=>?_,H⟩
     ·rw [Dp.tY]
      by_cases e:j=k
      ·subst e;rw [if_pos ⟨rfl,hk7⟩,hag,hdg]
      ·rw [if_neg (fun h=>e h.1)];exact h1 j (by omega)
     ·rw [Dp.tY,if_neg (by omega)];exact h2 j (by omega)
    ·rw [if_neg hri] at hag
     simp (disch:=omega) only [go_sem,undef,qX (show ((k:Nat):Int) < 7 by omega),H.hs,hb,qZ hki]
     refine zI H (zX i _) fun M f H=>?_
     simp (disch:=omega) only [go_sem,undef,qZ hri,H.hs]
     refine qV (7 - (k+1)) (by omega) ⟨k+1,d,by omega,rfl,rfl,fun j hj=>?_,fun j hj=>h2 j (by omega),H⟩
     by_cases e:j=k
     ·subst e;rw [hag,hdg]
     ·exact h1 j (by omega)
  ·have e:d=tQ cut i a0.deps:=Dp.rH fun j hj=>h1 j (by omega)
   subst e
   simp (disch:=omega) only [go_sem,undef,qZ (show ¬ ((k:Nat):Int) < 7 by omega),H.hs]
   refine XF H rfl rfl fun M _ H=>?_
   simp (disch:=omega) only [go_sem,undef,H.hs]
   exact ⟨by rw [haf],H.fr.less (by simp [hit0])⟩
 ·refine Exists.elim (qXB hnd ho hkw) fun n hn=>?_
  have ew:=hn.1
  have hlk:=hn.2.1
  have hkr:=hn.2.2.1
  have hnc:=gy hn.2.2.2.1
  have hn1:=hn.2.2.2.2.1
  have hn2:=hn.2.2.2.2.2
  subst ew
  have hk0:=hkr.1
  have hk1:=hkr.2.1
  have hfold:(done++[k]).foldl (Vo l i c) Att.zero=au i c (done.foldl (Vo l i c) Att.zero) k n:=by
   rw [List.foldl_append];simp [Vo,hlk]
  simp only [List.length_append,List.length_cons,List.length_nil,nv,List.length_map] at hle
  have hr7:b7≠r:=fun e=>h.map.there (by rw [← e];exact H.nw0.1)
  have hit7:b7≠it:=fun e=>H.nw0.2 (by simp [e])
  generalize done.foldl (Vo l i c) Att.zero=acc at *
  simp (disch:=omega) only [go_sem,undef,hent]
  refine zl H fun b8 M1 hb8 f3 H=>?_
  simp (disch:=omega) only [go_sem,undef,H.hs]
  refine zl H fun b9 M2 hb9 f4 H=>?_
  simp (disch:=omega) only [go_sem,undef,H.hs]
  refine XF H rfl rfl fun M3 f5 H=>?_
  simp (disch:=omega) only [go_sem,undef,H.hs]
  refine JN H rfl rfl fun M4 f6 H=>?_
  have hb9N:N b9=none:=Classical.byContradiction fun hx=>f3.some hx (by simp) hb9
  have g:Fr N M4 []:=((((f3.KA f4).sub (T:=[b8,b9]) (by simp)).trans f5 (by simp)).trans f6 (by simp)).less (by simp [hb8,hb9N])
  by_cases hA:k.1=i.1∧i.2≤k.2
  ·have hst:au i c acc k n=acc:=if_pos (.inl hA)
   simp (disch:=omega) only [go_sem,undef,H.hs,qX hA.1,qX (show k.2≥i.2 from hA.2)]
   exact qV (l.length - (done.length+1)) (by omega) ⟨done++[k],by simp,rfl,hI2.frame g (by simp) (by simp),by rw [hfold,hst];exact H.fA.fA⟩
  ·by_cases hC:fI n.cmd c
   ·have hst:au i c acc k n=⟨max acc.seq (n.seq+1),Dp.up acc.deps k.1.toNat (max (acc.deps.g k.1.toNat) k.2)⟩:=if_neg (fun h=>h.elim hA fun h=>h hC)
    by_cases hA1:k.1=i.1
    ·simp (disch:=omega) only [go_sem,undef,H.hs,qX hA1,qZ (show ¬ k.2≥i.2 from fun h=>hA ⟨hA1,h⟩)]
     refine zI H (CL n.cmd c hnc hc _) fun M5 f7 H=>?_
     simp (disch:=omega) only [go_sem,undef,qX hC,H.hs]
     refine wr2 H fun M6 f8 H=>?_
     simp (disch:=omega) only [go_sem,undef,H.hs]
     refine wr2 H fun M7 f9 H=>?_
     simp (disch:=omega) only [go_sem,undef]
     exact qV (l.length - (done.length+1)) (by omega) ⟨done++[k],by simp,rfl,hI2.frame ((((g.KA f7).sub (T:=[b7]) (by simp)).bR f8).bR f9) (by simpa using hit7.symm) (by simpa using hr7.symm),by rw [hfold,hst];exact H.fA.fA⟩
    ·simp (disch:=omega) only [go_sem,undef,H.hs,qZ hA1]
     refine zI H (CL n.cmd c hnc hc _) fun M5 f7 H=>?_
     simp (disch:=omega) only [go_sem,undef,qX hC,H.hs]
     refine wr2 H fun M6 f8 H=>?_
     simp (disch:=omega) only [go_sem,undef,H.hs]
     refine wr2 H fun M7 f9 H=>?_
     simp (disch:=omega) only [go_sem,undef]
     exact qV (l.length - (done.length+1)) (by omega) ⟨done++[k],by simp,rfl,hI2.frame ((((g.KA f7).sub (T:=[b7]) (by simp)).bR f8).bR f9) (by simpa using hit7.symm) (by simpa using hr7.symm),by rw [hfold,hst];exact H.fA.fA⟩
   ·have hst:au i c acc k n=acc:=if_pos (.inr hC)
    by_cases hA1:k.1=i.1
    ·simp (disch:=omega) only [go_sem,undef,H.hs,qX hA1,qZ (show ¬ k.2≥i.2 from fun h=>hA ⟨hA1,h⟩)]
     refine zI H (CL n.cmd c hnc hc _) fun M5 f7 H=>?_
     simp (disch:=omega) only [go_sem,undef,qZ hC,H.hs]
     exact qV (l.length - (done.length+1)) (by omega) ⟨done++[k],by simp,rfl,hI2.frame (g.KA f7) (by simp) (by simp),by rw [hfold,hst];exact H.fA.fA⟩
    ·simp (disch:=omega) only [go_sem,undef,H.hs,qZ hA1]
     refine zI H (CL n.cmd c hnc hc _) fun M5 f7 H=>?_
     simp (disch:=omega) only [go_sem,undef,qZ hC,H.hs]
     exact qV (l.length - (done.length+1)) (by omega) ⟨done++[k],by simp,rfl,hI2.frame (g.KA f7) (by simp) (by simp),by rw [hfold,hst];exact H.fA.fA⟩
end Go.Fw
